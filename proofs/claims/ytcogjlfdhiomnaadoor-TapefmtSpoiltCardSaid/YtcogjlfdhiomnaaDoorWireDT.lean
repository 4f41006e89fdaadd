/- Contracts of the decoder: whole numbers, truths, texts. -/
import Derived.Test.YtcogjlfdhiomnaaDoorWireDS
namespace Go.Proofs.YtcogjlfdhiomnaaDoor
open Go.RowKit
set_option linter.unusedVariables false
set_option maxRecDepth 100000

theorem takeU_err : ∀ (R : List UInt8) (f : Bool) (v : Nat), (takeUW R f v).2.2 ≠ 0 → (takeUW R f v).1 = 0
  | [], _, _, _ => rfl
  | c :: R, f, v, h => by
    rw [takeUW] at h ⊢
    split
    · rfl
    · rename_i h1
      rw [if_neg h1] at h
      split
      · rfl
      · rename_i h2
        rw [if_neg h2] at h
        split
        · rename_i h3; rw [if_pos h3] at h; exact absurd rfl h
        · rename_i h3; rw [if_neg h3] at h; exact takeU_err R _ _ h
def takeI (most : Int) (R : List UInt8) : Nat × List UInt8 × Int :=
  if (takeUW R true 0).2.2 = 0 ∧ (max most 0).toNat < (takeUW R true 0).1 then (0, (takeUW R true 0).2.1, 11) else takeUW R true 0
theorem takeI_le (most : Int) (R : List UInt8) : (takeI most R).1 ≤ (max most 0).toNat := by
  unfold takeI
  split
  · simp
  · rename_i h
    by_cases he : (takeUW R true 0).2.2 = 0
    · have : ¬ (max most 0).toNat < (takeUW R true 0).1 := fun h2 => h ⟨he, h2⟩
      omega
    · rw [takeU_err R true 0 he]; simp
def takeS (most : Int) (R : List UInt8) : List UInt8 × List UInt8 × Int :=
  if (takeI most R).2.2 ≠ 0 then ([], (takeI most R).2.1, (takeI most R).2.2)
  else if (takeI most R).2.1.length < (takeI most R).1 then ([], (takeI most R).2.1, 2)
  else ((takeI most R).2.1.take (takeI most R).1, (takeI most R).2.1.drop (takeI most R).1, 0)
section
variable {w0 w : World} {I : Part} {L : List HP} {d : Nat} {R : List UInt8}
set_option maxRecDepth 100000 in
set_option maxHeartbeats 4000000 in
theorem decI_sat (most : Int) (h : Sat w0 I (decr d R 0 :: L) w) (hm : most ≤ 9223372036854775807) :
    Calls Tryd.prog 83 #[.pointer (some ⟨d, 0, none⟩), .int .i64 most] w fun e w' => e = .returned (.int .i64 ((takeI most R).1 : Int)) ∧ Sat w0 I (decr d (takeI most R).2.1 (takeI most R).2.2 :: L) w' := by
  have hle := takeI_le most R
  have herr := takeU_err R true 0
  have hti : takeI most R = if (takeUW R true 0).2.2 = 0 ∧ (max most 0).toNat < (takeUW R true 0).1 then (0, (takeUW R true 0).2.1, 11) else takeUW R true 0 := rfl
  have hc := @decU_sat w0 w I L d R h
  obtain ⟨T, hT⟩ : ∃ T, takeUW R true 0 = T := ⟨_, rfl⟩
  rw [hT] at hti herr hc
  obtain ⟨x, R2, e2⟩ := T
  simp only at hti herr hc
  obtain ⟨m, hmm⟩ : ∃ m, (max most 0).toNat = m := ⟨_, rfl⟩
  rw [hmm] at hti
  have HM := hid hmm
  have hm1 : m ≤ 9223372036854775807 := by omega
  have HTI := hid hti
  have HERR := hid herr
  have HC := hid hc
  clear hti herr hc hT hmm hle h
  go_enter Tryd.func83, Tryd.ntmps83
  go_wp2_with fail
  refine HC.out.mono ?_; rintro e w1 ⟨rfl, S1⟩
  have HS1 := hid S1
  clear S1 HC
  by_cases hA : e2 = 0 ∧ m < x
  · rw [if_pos hA] at HTI
    obtain ⟨rfl, hlt⟩ := hA
    have hlt' : (m : Int) < (x : Int) := by omega
    go_wp2_with (refine wpList_val (o := ⟨some 10, _, _, _, _, _⟩) rfl (.int .i64 (m : Int)) ?hrun ?_)
    case hrun =>
      have := HM.out
      by_cases hh : most ≤ 0
      · have e1 : m = 0 := by omega
        subst e1; simp [go_sem]; omega
      · have e1 : (m : Int) = most := by omega
        rw [e1]; simp [go_sem]; omega
    go_wp2_with fail
    refine (fail_sat 11 HS1.out).mono ?_; rintro r w2 ⟨rfl, S2⟩
    have HS2 := hid S2
    clear S2
    go_wp2_with fail
    go_ret
    rw [HTI.out]
    exact ⟨rfl, HS2.out⟩
  · rw [if_neg hA] at HTI
    have hge : ¬ (m : Int) < (x : Int) := by
      intro h
      by_cases he : e2 = 0
      · exact hA ⟨he, by omega⟩
      · have := HERR.out he; omega
    clear hA
    have hgN : decide (m < x) = false := by simp; omega
    have hx : x ≤ 9223372036854775807 := by omega
    go_wp2_with (refine wpList_val (o := ⟨some 10, _, _, _, _, _⟩) rfl (.int .i64 (m : Int)) ?hrun ?_)
    case hrun =>
      have := HM.out
      by_cases hh : most ≤ 0
      · have e1 : m = 0 := by omega
        subst e1; simp [go_sem]; omega
      · have e1 : (m : Int) = most := by omega
        rw [e1]; simp [go_sem]; omega
    go_wp2_with fail
    go_ret
    rw [HTI.out]
    refine ⟨ret_int ?_, HS1.out⟩
    omega
theorem err_blk {s : ByteArray} {p r : Int} (h : Sat w0 I (blk d 134 [.string s, .int .i64 p, .int .i64 r] :: L) w) : True := trivial
set_option maxRecDepth 100000 in
set_option maxHeartbeats 4000000 in
theorem done_sat (h : Sat w0 I (decr d [] 0 :: L) w) :
    Calls Tryd.prog 86 #[.pointer (some ⟨d, 0, none⟩)] w fun e w' => e = .returned (.int .i64 0) ∧ Sat w0 I (decr d [] 0 :: L) w' := by
  have H := hid h
  clear h
  go_enter Tryd.func86, Tryd.ntmps86
  go_wp2_with fail
  refine (left_sat H.out).mono ?_; rintro e w1 ⟨rfl, S1⟩
  have HS1 := hid S1
  obtain ⟨s, p, _, _, _, Sb⟩ := S1.isDecr
  have c2 := Sb.isBlk.cell 2 rfl
  clear S1 Sb
  go_wp2_with fail
  go_ret
  exact ⟨rfl, HS1.out⟩
theorem extract_list (s : ByteArray) (p n : Nat) (h : p + n ≤ s.size) : s.extract p (p + n) = ⟨((s.data.toList.drop p).take n).toArray⟩ := by
  apply ByteArray.ext
  rw [ByteArray.data_extract]
  apply Array.toList_inj.1
  rw [Array.toList_extract]
  simp [List.extract]
set_option maxRecDepth 100000 in
set_option maxHeartbeats 4000000 in
theorem decS_sat (most : Int) (h : Sat w0 I (decr d R 0 :: L) w) (hm : most ≤ 9223372036854775807) :
    Calls Tryd.prog 82 #[.pointer (some ⟨d, 0, none⟩), .int .i64 most] w fun e w' => e = .returned (.string ⟨(takeS most R).1.toArray⟩) ∧ Sat w0 I (decr d (takeS most R).2.1 (takeS most R).2.2 :: L) w' := by
  have hts : takeS most R = if (takeI most R).2.2 ≠ 0 then ([], (takeI most R).2.1, (takeI most R).2.2) else if (takeI most R).2.1.length < (takeI most R).1 then ([], (takeI most R).2.1, 2) else ((takeI most R).2.1.take (takeI most R).1, (takeI most R).2.1.drop (takeI most R).1, 0) := rfl
  have hc := decI_sat most h hm
  have hle := takeI_le most R
  obtain ⟨T, hT⟩ : ∃ T, takeI most R = T := ⟨_, rfl⟩
  rw [hT] at hts hc hle
  obtain ⟨n, R2, e2⟩ := T
  simp only at hts hc hle
  have HTS := hid hts
  have HC := hid hc
  have hn : n ≤ 9223372036854775807 := by omega
  clear hts hc hT h hle
  go_enter Tryd.func82, Tryd.ntmps82
  go_wp2_with fail
  refine HC.out.mono ?_; rintro e w1 ⟨rfl, S1⟩
  have HS1 := hid S1
  obtain ⟨s, p, _, _, _, Sb⟩ := S1.isDecr
  have c2 := Sb.isBlk.cell 2 rfl
  clear S1 HC Sb
  by_cases hA : e2 = 0
  case neg =>
    rw [if_pos hA] at HTS
    have hA1 : (e2 == 0) = false := by simp [hA]
    have hA2 : (e2 != 0) = true := by simp [hA]
    clear hA
    go_wp2_with fail
    go_ret
    rw [HTS.out]
    exact ⟨rfl, HS1.out⟩
  case pos =>
    subst hA
    rw [if_neg (by simp)] at HTS
    by_cases hB : R2.length < n
    · rw [if_pos hB] at HTS
      have hB' : (R2.length : Int) < (n : Int) := by omega
      go_wp2_with fail
      refine (left_sat HS1.out).mono ?_; rintro e w2 ⟨rfl, S2⟩
      have HS2 := hid S2
      clear S2 HS1 c2
      go_wp2_with fail
      refine (fail_sat 2 HS2.out).mono ?_; rintro r w3 ⟨rfl, S3⟩
      have HS3 := hid S3
      obtain ⟨s, p, _, _, _, Sb⟩ := S3.isDecr
      have c2 := Sb.isBlk.cell 2 rfl
      clear S3 HS2 Sb
      go_wp2_with fail
      go_ret
      rw [HTS.out]
      exact ⟨rfl, HS3.out⟩
    · rw [if_neg hB] at HTS
      have hB' : ¬ (R2.length : Int) < (n : Int) := by omega
      go_wp2_with fail
      refine (left_sat HS1.out).mono ?_; rintro e w2 ⟨rfl, S2⟩
      obtain ⟨s, p, hp1, hp2, hp3, Sb⟩ := S2.isDecr
      have hsz := decr_size s p hp1 hp2
      have HP1 := hid hp1
      have HSB := hid Sb
      have c2 := Sb.isBlk.cell 2 rfl
      have c1 := Sb.isBlk.cell 1 rfl
      have f1 := Sb.isBlk.frozen 1
      clear S2 HS1 Sb hp1
      have hpn : p + n ≤ s.size := by omega
      have hpn' : ((p : Int) + (n : Int)) ≤ 9223372036854775807 := by omega
      have HSZ := hid hsz
      clear hsz
      go_wp2_with fail
      refine wp_gen (fun w3 => Sat w0 I (blk d 134 [.string s, .int .i64 ((p + n : Nat) : Int), .int .i64 0] :: L) w3) (HSB.out.set 1 _ (by simp)) ?_
      intro w3 S3
      have c0 := S3.isBlk.cell 0 rfl
      have c1 := S3.isBlk.cell 1 rfl
      have HS3 := hid S3
      have hw0 : IntKind.i64.wrap (p : Int) = (p : Int) := by rw [IntKind.wrap_i64]; omega
      have hw1 : IntKind.i64.wrap ((p : Int) + (n : Int) - (n : Int)) = (p : Int) := by rw [IntKind.wrap_i64]; omega
      have hp0 : (0 : Int) ≤ (p : Int) := by omega
      have hpn2 : (p : Int) ≤ (p : Int) + (n : Int) := by omega
      have hpn3 : (p : Int) + (n : Int) ≤ (s.size : Int) := by omega
      have hpn4 : (((p + n : Nat) : Int)).toNat = p + n := by omega
      clear S3
      go_quiet (fail)
      go_wp2_with fail
      go_ret
      have e1 := extract_list s p n hpn
      rw [HP1.out] at e1
      rw [HTS.out, e1]
      refine ⟨rfl, (HS3.out.drewN _).toDecr ?_ hpn hp3⟩
      rw [← HP1.out, List.drop_drop]
end
end Go.Proofs.YtcogjlfdhiomnaaDoor
