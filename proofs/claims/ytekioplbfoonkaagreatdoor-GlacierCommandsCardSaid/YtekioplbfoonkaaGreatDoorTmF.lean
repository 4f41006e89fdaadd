/- Layer 9: loadLog, Load. -/
import Derived.Test.YtekioplbfoonkaaGreatDoorMgE
import Derived.Test.YtekioplbfoonkaaGreatDoorSealS
namespace Go.Proofs.YtekioplbfoonkaaGreatDoor
open Go.RowKit
set_option linter.unusedVariables false
set_option maxRecDepth 100000
set_option maxHeartbeats 2000000
theorem slEnt : SliceT Tryz.prog 68 73 3 32 := ⟨Tryz.underlying68, ⟨_, _, rfl, rfl, rfl, rfl, rfl⟩, by decide⟩
theorem ent_one1 (x : Ent) : ∀ u ∈ x.cells, u.oneCell' = true := by
  intro u hu
  simp only [Ent.cells, List.mem_cons, List.not_mem_nil, or_false] at hu
  rcases hu with rfl | rfl | rfl <;> rfl
theorem entCells_len (l : List Ent) : (l.flatMap Ent.cells).length = l.length * 3 := by
  induction l with
  | nil => rfl
  | cons x l ih => rw [List.flatMap_cons, List.length_append, ih, List.length_cons]; show 3 + _ = _; omega
theorem logB_scan : ∀ (l : List Ent), (∀ x ∈ l, x.Ok) → scanR (logB l) = (l.map entB, (logB l).length)
  | [], _ => scanR_no (E := 2) (c := []) (n := 0) rfl (by decide)
  | x :: l, h => by
    have ih := logB_scan l (fun y hy => h y (by simp [hy]))
    have hb := entB_len (h x (by simp))
    show scanR (frameL (entB x) ++ logB l) = _
    have h1 := scanR_ok (openR_frame (entB x) (logB l) (by omega))
    rw [List.drop_append_of_le_length (by rw [frameL_len]; omega), ← frameL_len (entB x), List.drop_length, List.nil_append, ih, frameL_len] at h1
    rw [h1]
    simp only [List.map_cons, Prod.mk.injEq, true_and]
    show _ = (frameL (entB x) ++ logB l).length
    rw [List.length_append, frameL_len]
section
variable {w0 w : World} {I : Part} {L : List HP} {p q : Nat} {d : Dst}
theorem loadLog_sat (hT : Rd I (some ⟨0, 0, none⟩) tabV) (hd : d.calm) (l : List Ent) (b : Nat) (hb : b ≤ 1000) (hok : ∀ x ∈ l, x.Ok) (hix : ∀ i (h : i < l.length), l[i].idx = b + i + 1) (hll : l.length ≤ 100) (hF : d.F kLg = some (fsf ⟨(logB l).toArray⟩)) (x0 x1 x3 x4 : Value) (H : Sat w0 I (blk q 70 [x0, x1, .int .i64 (b : Int), x3, x4, .slice none 0 0] :: dskp p d :: L) w) :
    Calls Tryz.prog 117 #[.pointer (some ⟨q, 0, none⟩), .pointer (some ⟨p, 0, none⟩)] w fun e w' => ∃ sv, e = .returned (.int .i64 0) ∧ Sat w0 I (blk q 70 [x0, x1, .int .i64 (b : Int), x3, x4, sv] :: row 73 3 sv l.length (l.flatMap Ent.cells) :: dskp p d :: L) w' := by
  obtain ⟨N, hN⟩ : ∃ N, l.length = N := ⟨_, rfl⟩
  have HN := hid hN
  have HH := hid (H.pick 1)
  have HT := hid hT
  have HF := hid hF
  have HOK := hid hok
  have HIX := hid hix
  obtain ⟨s, hs⟩ : ∃ s : ByteArray, (⟨(logB l).toArray⟩ : ByteArray) = s := ⟨_, rfl⟩
  have hsc : scanR s.data.toList = (l.map entB, s.size) := by
    rw [← hs]
    show scanR (logB l) = _
    rw [logB_scan l hok, baSz]
  have hsz : s.size ≤ 1048576 := by
    have h1 := logB_len l hok
    rw [← hs, baSz]; omega
  rw [hN] at hll
  have HS := hid hs
  have HF2 := hid (show d.F (.string nmLg.data.toList) = some (fsf s) by rw [← hs]; exact hF)
  have HSC := hid hsc
  clear H hT hF hok hix hs hsc hN
  rw [HN.out]
  go_enter Tryz.func117, Tryz.ntmps117
  go_wp2_with fail
  refine (tread_sat hd nmLg (by decide) HF2.out HH.out).mono ?_; rintro e w1 ⟨rfl, S1⟩
  have H1 := hid S1
  clear S1 HH
  go_wp2_with fail
  refine (scan_sat HT.out s hsz HSC.out H1.out).mono ?_; rintro e w2 ⟨J, ga, gc, rfl, hc1, hc2, hJ, hrd, S2⟩
  rw [List.length_map, HN.out] at hc1 ⊢
  have HJ := hid hJ
  have HR := hid hrd
  have S3 := ((S2.nilRow 73 3).pick 2)
  have c2 := S3.isBlk.cell 2 (v := .int .i64 (b : Int)) rfl
  have H3 := hid S3
  clear S2 S3 H1 hJ hrd
  have hlt : ¬ (s.size : Int) < (s.size : Int) := by omega
  go_wp2_with fail
  clear c2 hlt
  go_loopw [10, 12, 13, 14, 15, 16, 48] (fun la _ _ _ _ _ ix wr => ∃ (i : Nat) (sv : Value), i ≤ N ∧ ix = .int .i64 (i : Int) ∧ la = .int .i64 ((b + i : Nat) : Int) ∧ Sat w0 J (blk q 70 [x0, x1, .int .i64 (b : Int), x3, x4, sv] :: row 73 3 sv i ((l.take i).flatMap Ent.cells) :: dskp p d :: L) wr) (fun _ _ _ _ _ _ ix _ => 200 - (intOf ix).toNat)
  case atStart => exact ⟨0, .slice none 0 0, Nat.zero_le _, rfl, rfl, H3.out⟩
  case round =>
    clear H3
    obtain ⟨i, sv, hi, rfl, rfl, Sr⟩ := hrel
    obtain ⟨ad, cp, rfl, q1, q2⟩ := own_shape Sr.swap.isRow
    have HS3 := hid Sr
    clear Sr
    by_cases hlt : i < N
    · have hil : (i : Int) < (N : Int) := by omega
      have hi0 : (0 : Int) ≤ (i : Int) := by omega
      have hxl : i < l.length := by rw [HN.out]; exact hlt
      obtain ⟨x, hx⟩ : ∃ x, l[i] = x := ⟨_, rfl⟩
      have hokx := HOK.out l[i] (List.getElem_mem _)
      have hidx := HIX.out i hxl
      obtain ⟨M, hM⟩ : ∃ M, b + i = M := ⟨_, rfl⟩
      rw [hx] at hokx hidx
      rw [hM] at hidx
      rw [hM]
      have hM2 : b + (i + 1) = M + 1 := by omega
      have hM1 : M ≤ 2000 := by omega
      have h1 : (List.map lvS (List.map entB l))[i]? = some (.string ⟨(entB x).toArray⟩) := by
        rw [List.getElem?_map, List.getElem?_map, List.getElem?_eq_getElem hxl, hx]; rfl
      obtain ⟨g0, o0, rfl, e0⟩ := HR.out.get HS3.out i h1
      have htk : (l.take (i + 1)).flatMap Ent.cells = (l.take i).flatMap Ent.cells ++ x.cells := by
        rw [List.take_succ_eq_append_getElem hxl, List.flatMap_append, hx]; simp
      have HTK := hid htk
      have hxt := hokx.term
      have hxc := hokx.cmd
      have hel : (entB x).length ≤ 1030 := entB_len hokx
      have hes : (⟨(entB x).toArray⟩ : ByteArray).size ≤ 9223372036854775807 := by rw [baSz]; omega
      have HB := hid (show (⟨(entB x).toArray⟩ : ByteArray).data.toList = encU (M + 1) ++ (encU x.term ++ (encS x.cmd ++ [])) by rw [← hidx]; unfold entB; simp)
      have hw : IntKind.i64.wrap ((M : Int) + 1) = (M : Int) + 1 := IntWalk.i64_in _ (by omega)
      have hcx : x.cells = [.int .i64 ((M : Int) + 1), .int .i64 (x.term : Int), .string x.cmd] := by unfold Ent.cells; rw [hidx]; rfl
      have HCX := hid hcx
      have HM2 := hid hM2
      clear hx htk hM hokx hidx h1 hel hcx hM2
      go_wp2_with fail
      refine (from_sat _ HS3.out hes).mono ?_; rintro e w3 ⟨dc, rfl, S4⟩
      rw [HB.out] at S4
      have H4 := hid S4
      clear S4 HS3 e0
      go_wp2_with fail
      refine (decIe_sat _ (M + 1) (by omega) (by omega) (by omega) H4.out).mono ?_; rintro e w4 ⟨rfl, S5⟩
      have H5 := hid S5
      clear S5 H4
      go_wp2_with fail
      refine (decIe_sat _ x.term (by omega) (by omega) (by omega) H5.out).mono ?_; rintro e w5 ⟨rfl, S6⟩
      have H6 := hid S6
      clear S6 H5
      go_wp2_with fail
      refine (decSe_sat _ x.cmd (by omega) (by omega) (by omega) H6.out).mono ?_; rintro e w6 ⟨rfl, S7⟩
      have H7 := hid S7
      clear S7 H6
      go_wp2_with fail
      refine (done_sat H7.out).mono ?_; rintro e w7 ⟨rfl, S8⟩
      have S9 := S8.drop
      have c5 := S9.isBlk.cell 5 (v := .slice ad i cp) rfl
      have H9 := hid S9.swap
      clear S8 S9 H7
      go_wp2_with (at_builtin; refine wpList_appS slEnt rfl _ _ rfl H9.out [.int .i64 ((M : Int) + 1), .int .i64 (x.term : Int), .string x.cmd] rfl rfl ?hgs rfl ?h1 ?hb ?hn ?_)
      case hgs => simp
      case h1 => have := ent_one1 x; rw [HCX.out] at this; exact this
      case hb => omega
      case hn => omega
      intro ad2 cp2 w8 hq1 hq2 S10
      rw [← HCX.out, ← HTK.out] at S10
      have S11 := S10.swap
      have c5 := S11.isBlk.cell 5 (v := .slice ad i cp) rfl
      have f5 := S11.isBlk.frozen 5
      have H11 := hid (S11.set 5 (.slice ad2 (i + 1) cp2) (cs' := [x0, x1, .int .i64 (b : Int), x3, x4, .slice ad2 (i + 1) cp2]) rfl)
      clear S10 S11 H9
      go_wp2_with fail
      go_roundw
      case rel => exact ⟨i + 1, _, by omega, by go_num, by rw [HM2.out]; rfl, H11.out⟩
      case measure => simp [intOf]; omega
    · obtain rfl : i = N := by omega
      have hii : ¬ (i : Int) < (i : Int) := by omega
      have htk : l.take i = l := List.take_of_length_le (by rw [HN.out]; exact Nat.le_refl _)
      rw [htk] at HS3
      go_wp2_with fail
      go_ret
      first
        | exact ⟨rfl, _, HS3.out.thaw HJ.out⟩
        | exact ⟨_, rfl, HS3.out.thaw HJ.out⟩
end
end Go.Proofs.YtekioplbfoonkaaGreatDoor
