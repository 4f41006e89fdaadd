/- Contract of Dec.List. Numbers and strings that were written are taken again: contracts of the decoder. -/
import Derived.Test.YtekioplbfoonkaaGreatDoorMg4
namespace Go.Proofs.YtekioplbfoonkaaGreatDoor
open Go.RowKit
set_option linter.unusedVariables false
set_option maxRecDepth 100000

theorem slIntL : SliceT Tryz.prog 23 3 1 8 := ⟨Tryz.underlying23, ⟨_, _, rfl, rfl, rfl, rfl, rfl⟩, by decide⟩
def takeLs (each : Int) : Nat → List UInt8 → List Int × List UInt8 × Int
  | 0, R => ([], R, 0)
  | n + 1, R => if (takeI each R).2.2 ≠ 0 then ([], (takeI each R).2.1, (takeI each R).2.2) else (((takeI each R).1 : Int) :: (takeLs each n (takeI each R).2.1).1, (takeLs each n (takeI each R).2.1).2)
def takeL (most each : Int) (R : List UInt8) : List Int × List UInt8 × Int :=
  if (takeI most R).2.2 ≠ 0 then ([], (takeI most R).2.1, (takeI most R).2.2)
  else if (takeLs each (takeI most R).1 (takeI most R).2.1).2.2 ≠ 0 then ([], (takeLs each (takeI most R).1 (takeI most R).2.1).2) else takeLs each (takeI most R).1 (takeI most R).2.1
theorem takeI_err (most : Int) (R : List UInt8) (h : (takeI most R).2.2 ≠ 0) : (takeI most R).1 = 0 := by
  unfold takeI at h ⊢
  split
  · rfl
  · rename_i h1
    rw [if_neg h1] at h
    exact takeU_err R true 0 h
section
variable {w0 w : World} {I : Part} {L : List HP} {d : Nat} {R : List UInt8}
set_option maxRecDepth 100000 in
set_option maxHeartbeats 8000000 in
theorem decList_sat (most each : Int) (h : Sat w0 I (decr d R 0 :: L) w) (hm : most ≤ 1000000) (he : each ≤ 9223372036854775807) :
    Calls Tryz.prog 69 #[.pointer (some ⟨d, 0, none⟩), .int .i64 most, .int .i64 each] w
      fun e w' => ∃ v, e = .returned v ∧ Sat w0 I (row 3 1 v (takeL most each R).1.length ((takeL most each R).1.map (Value.int .i64)) :: decr d (takeL most each R).2.1 (takeL most each R).2.2 :: L) w' := by
  have hc := decI_sat most h (by omega)
  have hle := takeI_le most R
  have herr := takeI_err most R
  obtain ⟨F, hF⟩ : ∃ F, takeL most each R = F := ⟨_, rfl⟩
  rw [hF]
  unfold takeL at hF
  obtain ⟨T, hT⟩ : ∃ T, takeI most R = T := ⟨_, rfl⟩
  rw [hT] at hc hle herr hF
  obtain ⟨n, R1, e1⟩ := T
  simp only at hc hle herr hF
  have hn : n ≤ 1000000 := by omega
  have HC := hid hc
  have HERR := hid herr
  have HF := hid hF
  clear hc hle herr hF hT h
  go_enter Tryz.func69, Tryz.ntmps69
  go_wp2_with fail
  refine HC.out.mono ?_; rintro e w1 ⟨rfl, S1⟩
  have HS1 := hid (S1.nilRow 3 1)
  clear S1 HC
  by_cases hA : e1 = 0
  case neg =>
    have h0 := HERR.out hA
    subst h0
    rw [if_pos hA] at HF
    go_wp2_with fail
    go_loopw [7, 8, 9] (fun l i _ wr => l = .slice none 0 0 ∧ i = .int .i64 0 ∧ wr = w1) (fun _ _ _ _ => 0)
    case atStart => exact ⟨rfl, rfl, rfl⟩
    case round =>
      obtain ⟨rfl, rfl, rfl⟩ := hrel
      go_wp2_with fail
      go_ret
      have := HF.out
      subst this
      exact ⟨_, rfl, HS1.out⟩
  case pos =>
    subst hA
    rw [if_neg (by simp)] at HF
    go_wp2_with fail
    go_loopw [7, 8, 9] (fun l i _ wr => ∃ (j : Nat) (zs : List Int) (R2 : List UInt8), j ≤ n ∧ i = .int .i64 (j : Int) ∧ zs.length + j = n ∧ (takeLs each n R1 = (zs ++ (takeLs each j R2).1, (takeLs each j R2).2)) ∧ Sat w0 I (row 3 1 l zs.length (zs.map (Value.int .i64)) :: decr d R2 0 :: L) wr) (fun _ i _ _ => (intOf i).toNat)
    case atStart => exact ⟨n, [], R1, Nat.le_refl _, rfl, by simp, by simp, HS1.out⟩
    case round =>
      obtain ⟨j, zs, R2, hj, rfl, hzl, heq, Sr⟩ := hrel
      have HS := hid Sr
      have HEQ := hid heq
      have HZL := hid hzl
      clear Sr heq hzl
      by_cases hj0 : j = 0
      · subst hj0
        go_wp2_with fail
        go_ret
        have e1 := HEQ.out
        have e2 := HF.out
        simp only [takeLs, List.append_nil] at e1
        rw [e1] at e2
        simp only [ne_eq, not_true_eq_false, ↓reduceIte] at e2
        subst e2
        exact ⟨_, rfl, HS.out⟩
      · obtain ⟨i, rfl⟩ : ∃ i, j = i + 1 := ⟨j - 1, by omega⟩
        have hpos : (0 : Int) < ((i + 1 : Nat) : Int) := by omega
        have hc := @decI_sat w0 wr I _ d R2 each (HS.out.pick 1) he
        have herr := takeI_err each R2
        have heq2 := HEQ.out
        rw [takeLs] at heq2
        obtain ⟨T, hT⟩ : ∃ T, takeI each R2 = T := ⟨_, rfl⟩
        have hle := takeI_le each R2
        rw [hT] at hc herr heq2 hle
        obtain ⟨x, R3, e3⟩ := T
        simp only at hc herr heq2 hle
        have HC := hid hc
        have HE2 := hid heq2
        clear hc heq2 hT HEQ herr
        go_wp2_with fail
        refine HC.out.mono ?_; rintro e w2 ⟨rfl, S2⟩
        have HS2 := hid S2
        obtain ⟨s, p, _, _, _, Sb⟩ := S2.isDecr
        have c2 := Sb.isBlk.cell 2 rfl
        clear S2 HC Sb
        by_cases hB : e3 = 0
        case neg =>
          have hB1 : (e3 != 0) = true := by simp [hB]
          rw [if_pos hB] at HE2
          have HB := hid hB
          clear hB
          go_wp2_with fail
          go_ret
          have e4 := HE2.out
          have e5 := HF.out
          rw [e4] at e5
          rw [if_pos HB.out] at e5
          subst e5
          refine ⟨_, rfl, ?_⟩
          exact (HS2.out.pick 1).drop.nilRow _ _
        case pos =>
          subst hB
          rw [if_neg (by simp)] at HE2
          have HS3 := hid HS2.out.swap
          have hzl := HZL.out
          clear HS2 HS HZL
          go_wp2_with (at_builtin; refine wpList_appS slIntL rfl _ _ rfl HS3.out [.int .i64 (x : Int)] rfl rfl rfl rfl ?h1 ?hb ?hn ?_)
          case h1 => intro u hu; simp at hu; subst hu; rfl
          case hb => omega
          case hn => omega
          intro ad cap w3 hc1 hc2 S3
          have HS4 := hid S3
          clear S3 HS3 c2
          go_wp2_with fail
          go_roundw
          case rel =>
            refine ⟨i, zs ++ [(x : Int)], R3, by omega, by go_num, by simp; omega, ?_, ?_⟩
            · rw [HE2.out]; simp
            · simpa using HS4.out
          case measure => (simp [intOf] <;> omega)
end
end Go.Proofs.YtekioplbfoonkaaGreatDoor
namespace Go.Proofs.YtekioplbfoonkaaGreatDoor
open Go.RowKit
set_option linter.unusedVariables false
set_option maxRecDepth 100000
set_option maxHeartbeats 2000000
section
variable {w0 w : World} {I : Part} {L : List HP} {p d : Nat} {R : List UInt8}
theorem decIe_sat (most : Int) (v : Nat) (hv : v < 18446744073709551616) (hm : most ≤ 9223372036854775807) (hl : v ≤ (max most 0).toNat) (h : Sat w0 I (decr d (encU v ++ R) 0 :: L) w) :
    Calls Tryz.prog 66 #[.pointer (some ⟨d, 0, none⟩), .int .i64 most] w fun e w' => e = .returned (.int .i64 (v : Int)) ∧ Sat w0 I (decr d R 0 :: L) w' := by
  have := decI_sat most h hm
  rwa [takeI_enc most v hv R hl] at this
theorem decSe_sat (most : Int) (s : ByteArray) (hv : s.size < 18446744073709551616) (hm : most ≤ 9223372036854775807) (hl : s.size ≤ (max most 0).toNat) (h : Sat w0 I (decr d (encS s ++ R) 0 :: L) w) :
    Calls Tryz.prog 67 #[.pointer (some ⟨d, 0, none⟩), .int .i64 most] w fun e w' => e = .returned (.string s) ∧ Sat w0 I (decr d R 0 :: L) w' := by
  have := decS_sat most h hm
  rwa [takeS_enc most s hv R hl] at this
theorem decUe_sat (v : Nat) (hv : v < 18446744073709551616) (h : Sat w0 I (decr d (encU v ++ R) 0 :: L) w) :
    Calls Tryz.prog 68 #[.pointer (some ⟨d, 0, none⟩)] w fun e w' => e = .returned (.int .u64 (v : Int)) ∧ Sat w0 I (decr d R 0 :: L) w' := by
  have := decU_sat h
  rwa [takeU_enc v hv R] at this
end
end Go.Proofs.YtekioplbfoonkaaGreatDoor
