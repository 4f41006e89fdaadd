/- TapefmtWeight, walked. -/
import Derived.Test.YtcogjlfdhiomnaaDoorTpC
namespace Go.Proofs.YtcogjlfdhiomnaaDoor
open Go.RowKit
set_option linter.unusedVariables false
set_option maxRecDepth 100000
set_option maxHeartbeats 4000000 in
theorem tapefmtWeight_walk0 (lab : ByteArray) (b : Bl) (hb : b.ok) (w : World) (hT : Rd (wpart w) (some ⟨0, 0, none⟩) tabV) (hs : lab.size ≤ maxLen) :
    Calls Tryd.prog 3 #[.string lab, .agg #[.int .u64 (b.id : Int), .string b.s, .int .i64 b.n]] w (RetB (.bool true) w.heap.size w) := by
  unfold maxLen at hs
  have H0 := hid (Sat.start w)
  have HT := hid hT
  have HB := hid hb
  clear hT hb
  obtain ⟨q, hq⟩ := H0.out.sizeEx
  have H1 := hid (H0.out.alloc (b := q) (T := 24) (cs := blc b) rfl hq.symm)
  clear H0
  by_cases hl : lab.size ≤ 32
  · have hl' : ¬ (32 : Int) < (lab.size : Int) := by omega
    have T0 := hid (show TpOk lab 1 100000 [] 0 0 from ⟨hl, by omega, by omega, fun e h => (by cases h), Nat.zero_le _, Nat.zero_le _, Nat.zero_le _⟩)
    have OKS := hid (show (⟨100000, false, 0, ⟨#[]⟩, [], 0, 0, 0, false⟩ : Vst).ok from ⟨by simp, by simp, by simp [wsum], by simp, by simp, by simp, by simp, by simp, by simp, by simp⟩)
    obtain ⟨D, hD⟩ : ∃ D, longS b.s b.n = D := ⟨_, rfl⟩
    have hDs : D.size ≤ 600 := by rw [← hD]; exact longS_size _ _
    have HD := hid hD
    have OK1 := hid (show okE (b.id, D) from ⟨HB.out.id, hDs⟩)
    have T1 := hid (T0.out.snoc OK1.out (by simp))
    have HW := hid (show ((wsum (tapeB lab ([] ++ [(b.id, D)])) : Nat) : Int) ≤ (weightN D.size : Int) by
      rw [tapeB_app]
      have := tpAll_wt (lab := lab) (frm := (tapeB lab []).length) (blob := b.id) (data := D) hl (Nat.zero_le _) HB.out.id (by omega)
      have e : tapeB lab [] = [] := rfl
      rw [e] at this ⊢
      simp only [List.nil_append]
      omega)
    have HLn := hid (show (((tapeB lab ([] ++ [(b.id, D)])).length : Nat) : Int) = (nparts D.size : Int) + 1 by
      rw [tapeB_app, List.length_append, tpAll_len]
      have e : tapeB lab [] = [] := rfl
      rw [e]; simp)
    have hnp : nparts D.size ≤ 3 := by unfold nparts; omega
    have hwn : weightN D.size ≤ 832 := by unfold weightN nparts; omega
    clear hD
    go_enter Tryd.func3, Tryd.ntmps3
    go_wp2_with fail
    try rw [hq]
    refine (tawake_sat HT.out H1.out).mono ?_; rintro e w2 ⟨rfl, S2⟩
    have H2 := hid S2
    clear S2 H1 hq
    go_wp2_with fail
    refine (vnew_eq 100000 (R := 100000) (by omega) H2.out).mono ?_; rintro e w3 ⟨p, rfl, S3⟩
    have H3 := hid S3
    clear S3 H2
    go_wp2_with fail
    refine (verase lab OKS.out (lv_erase 100000 lab) H3.out).mono ?_; rintro e w4 ⟨rfl, S4⟩
    have c1 : w4.cell? ⟨q, 1, none⟩ = some (.string b.s) := S4.swap.isBlk.cell 1 rfl
    have c2 : w4.cell? ⟨q, 2, none⟩ = some (.int .i64 b.n) := S4.swap.isBlk.cell 2 rfl
    have H4 := hid (show Sat w (wpart w) [volp p (tpv lab 1 100000 [] 0 0), blk q 24 (blc b)] w4 from S4)
    clear S4 H3
    go_wp2_with fail
    refine (long_sat b.s b.n HB.out.s HB.out.n HD.out H4.out).mono ?_; rintro e w5 ⟨rfl, S5⟩
    have c0 : w5.cell? ⟨q, 0, none⟩ = some (.int .u64 (b.id : Int)) := S5.swap.isBlk.cell 0 rfl
    have H5 := hid S5
    clear S5 H4 c1 c2
    go_wp2_with fail
    refine (twrite_tp HT.out T0.out b.id D OK1.out (by simp) (N := 0) rfl H5.out).mono ?_; rintro e w6 ⟨rfl, S6⟩
    have H6 := hid S6
    clear S6 H5 c0
    obtain ⟨U, hU⟩ : ∃ U : Int, ((wsum (tapeB lab ([] ++ [(b.id, D)])) : Nat) : Int) = U := ⟨_, rfl⟩
    obtain ⟨W, hW⟩ : ∃ W : Int, (weightN D.size : Int) = W := ⟨_, rfl⟩
    obtain ⟨M, hM⟩ : ∃ M : Int, (nparts D.size : Int) = M := ⟨_, rfl⟩
    have hUW : U ≤ W := by rw [← hU, ← hW]; exact HW.out
    have hwM : IntKind.i64.wrap (M + 1) = M + 1 := IntWalk.i64_in _ (by omega)
    have HU := hid hU
    have HWW := hid hW
    have HM := hid hM
    have HL2 := hid (show (((tapeB lab ([] ++ [(b.id, D)])).length : Nat) : Int) = M + 1 by rw [HLn.out, hM])
    clear hU hW hM HW HLn hnp hwn
    go_wp2_with fail
    refine (vused_eq (N := U) HU.out H6.out).mono ?_; rintro e w7 ⟨rfl, S7⟩
    have H7 := hid S7
    clear S7 H6
    go_wp2_with fail
    refine (weight7_sat D.size (by omega) HWW.out H7.out).mono ?_; rintro e w8 ⟨rfl, S8⟩
    have H8 := hid S8
    clear S8 H7
    go_wp2_with fail
    refine (vlen_eq (N := M + 1) HL2.out H8.out).mono ?_; rintro e w9 ⟨rfl, S9⟩
    have H9 := hid S9
    clear S9 H8
    go_wp2_with fail
    refine (parts_sat D.size (by omega) HM.out H9.out).mono ?_; rintro e w10 ⟨rfl, S10⟩
    have H10 := hid S10
    clear S10 H9
    go_wp2_with fail
    go_ret
    exact ⟨rfl, H10.out.toBelow (Part.le_refl _)⟩
  · have hl' : (32 : Int) < (lab.size : Int) := by omega
    go_enter Tryd.func3, Tryd.ntmps3
    go_wp2_with fail
    try rw [hq]
    refine (tawake_sat HT.out H1.out).mono ?_; rintro e w2 ⟨rfl, S2⟩
    have H2 := hid S2
    clear S2 H1 hq
    go_wp2_with fail
    refine (tawake_sat HT.out H2.out).mono ?_; rintro e w3 ⟨rfl, S3⟩
    have H3 := hid S3
    clear S3 H2
    go_wp2_with fail
    go_ret
    exact ⟨rfl, H3.out.toBelow (Part.le_refl _)⟩
theorem tapefmtWeight_walk (lab : ByteArray) (cs : Array Value) (w : World) (hT : Rd (wpart w) (some ⟨0, 0, none⟩) tabV) (hs : lab.size ≤ maxLen) (hz : cs.size = Tryd.prog.cellsOf 24) (hm : OkT Tryd.prog w 6 24 cs.toList) :
    Calls Tryd.prog 3 #[.string lab, .agg cs] w (RetB (.bool true) w.heap.size w) := by
  obtain ⟨b, hb, rfl⟩ := blob_agg hz hm
  exact tapefmtWeight_walk0 lab b hb w hT hs
end Go.Proofs.YtcogjlfdhiomnaaDoor
