/- Libraries: contract of Hold; awake of layer 8's laws. -/
import Derived.Test.YtcogjlfdhiomnaaDoorLibC
namespace Go.Proofs.YtcogjlfdhiomnaaDoor
open Go.RowKit
set_option linter.unusedVariables false
set_option maxRecDepth 100000
set_option maxHeartbeats 2000000
section
variable {w0 w : World} {I : Part} {L : List HP} {q : Nat} {S : Lst}
theorem lhold_no (hb : S.ok) {vol N E : Int} {T : Lst} (hA : mountS S vol = (N, E, T)) (hE : E ≠ 0) (H : Sat w0 I (libp q S :: L) w) :
    Calls Tryd.prog 57 #[.pointer (some ⟨q, 0, none⟩), .int .i64 vol] w fun e w' => e = .returned (.int .i64 E) ∧ Sat w0 I (libp q T :: L) w' := by
  have HS := hid H
  have HA := hid hA
  clear H hA
  go_enter Tryd.func57, Tryd.ntmps57
  go_wp2_with fail
  refine (lmount_sat hb HA.out HS.out).mono ?_; rintro e w1 ⟨rfl, S1⟩
  have H1 := hid S1
  clear S1
  go_wp2_with fail
  go_ret
  exact ⟨rfl, H1.out⟩
theorem lhold_yes (hb : S.ok) {vol : Int} {k : Nat} {T : Lst} (hA : mountS S vol = ((k : Int), 0, T)) (hk : k < T.drs.length) (hh : T.drs[k].holds ≤ 1000000) (hh0 : 0 ≤ T.drs[k].holds) (H : Sat w0 I (libp q S :: L) w) :
    Calls Tryd.prog 57 #[.pointer (some ⟨q, 0, none⟩), .int .i64 vol] w fun e w' => e = .returned (.int .i64 0) ∧ Sat w0 I (libp q {T with drs := T.drs.set k ⟨T.drs[k].vol, T.drs[k].holds + 1, T.drs[k].used, T.drs[k].broken⟩} :: L) w' := by
  have HS := hid H
  have HA := hid hA
  clear H hA
  go_enter Tryd.func57, Tryd.ntmps57
  go_wp2_with fail
  refine (lmount_sat hb HA.out HS.out).mono ?_; rintro e w1 ⟨rfl, S1⟩
  obtain ⟨av, cv, ad, cd, k1, k2, k3, k4, S2⟩ := S1.libOpen
  obtain ⟨g, cap', hsv, c0, c1, c2, c3, fz⟩ := row4 (S2.pick 2) k hk
  cases hsv
  have d1 : w1.cell? ⟨q, 1, none⟩ = some (.slice (some ⟨g, 0, none⟩) T.drs.length cd) := S2.isBlk.cell 1 rfl
  have f1 := fz (k * 4 + 1)
  have nn1 : (0 : Int) ≤ (k : Int) := by omega
  have nn2 : (k : Int) < (T.drs.length : Int) := by omega
  have H2 := hid S2
  clear S1 S2 c0 c2 c3 fz
  go_wp2_with fail
  go_ret
  refine ⟨rfl, ?_⟩
  exact Sat.libShut2 (av := av) (ad := some ⟨g, 0, none⟩) (cv := cv) (cd := cd) (n := T.vols.length) (m := T.drs.length) rfl (by simp) ((H2.out.pick 2).drvSet hk (by omega) _ rfl)
end
section
variable {w0 w : World} {I : Part} {L : List HP}
def awL (a b : Nat) (d : Dr) (mv mn : Int) : Lst := ⟨[(a, vNew 100), (b, vNew 100)], [d], mv, mn⟩
theorem awL_ok (a b : Nat) (d : Dr) (mv mn : Int) (h : 0 ≤ mv ∧ mv ≤ 1000000 ∧ 0 ≤ mn ∧ mn ≤ 1000000) : (awL a b d mv mn).ok := ⟨h.1, h.2.1, h.2.2.1, h.2.2.2⟩
theorem awL1 (a b : Nat) : mountS (awL a b ⟨-1, 0, 0, false⟩ 0 0) 0 = (0, 0, awL a b ⟨0, 0, 1, false⟩ 1 1) := rfl
theorem awL2 (a b : Nat) : mountS (awL a b ⟨0, 0, 1, false⟩ 1 1) 1 = (0, 0, awL a b ⟨1, 0, 2, false⟩ 2 2) := rfl
theorem awL3 (a b : Nat) : mountS (awL a b ⟨1, 0, 2, false⟩ 2 2) 1 = (((0 : Nat) : Int), 0, awL a b ⟨1, 0, 3, false⟩ 2 3) := rfl
theorem awL4 (a b : Nat) : mountS (awL a b ⟨1, 1, 3, false⟩ 2 3) 0 = (-1, 10, awL a b ⟨1, 1, 3, false⟩ 2 3) := rfl
theorem awL5 (a b : Nat) : onI (inF (awL a b ⟨1, 1, 3, false⟩ 2 3).drs 1) = 0 := rfl
set_option maxRecDepth 100000 in
theorem lawake_any (w : World) : Calls Tryd.prog 28 #[] w (RetB (.bool true) w.heap.size w) := by
  have H0 := hid (Sat.start w)
  obtain ⟨g, hg⟩ : ∃ g, w.heap.size = g := ⟨_, rfl⟩
  obtain ⟨J, hJ, S1, hrd⟩ := (H0.out.alloc (b := g) (T := 3) (cs := [.int .i64 100, .int .i64 100]) rfl hg.symm).freezeBlk
  have H1 := hid S1
  have HR := hid (show Rd J (some ⟨g, 0, none⟩) ([100, 100].map (Value.int .i64)) from hrd)
  clear S1 hrd
  go_enter Tryd.func28, Tryd.ntmps28
  go_wp2_with fail
  refine (lnew_sat (some ⟨g, 0, none⟩) 2 2 [100, 100] 1 1 (by omega) rfl HR.out (by simp) (by omega) H1.out).mono ?_; rintro e w2 ⟨q, ps, rfl, hps, S2⟩
  obtain ⟨a, b, rfl⟩ : ∃ a b, ps = [a, b] := by
    match ps, hps with
    | [a, b], _ => exact ⟨a, b, rfl⟩
  have H2 := hid (show Sat w J (libp q (awL a b ⟨-1, 0, 0, false⟩ 0 0) :: []) w2 from S2)
  clear S2 hps hg H1 HR
  go_wp2_with fail
  refine (llen_sat (N := 2) rfl H2.out).mono ?_; rintro e w3 ⟨rfl, S3⟩
  have H3 := hid S3
  clear S3 H2
  go_wp2_with fail
  refine (lmount_sat (awL_ok _ _ _ _ _ (by omega)) (awL1 a b) H3.out).mono ?_; rintro e w4 ⟨rfl, S4⟩
  have H4 := hid S4
  clear S4 H3
  go_wp2_with fail
  refine (lmount_sat (awL_ok _ _ _ _ _ (by omega)) (awL2 a b) H4.out).mono ?_; rintro e w5 ⟨rfl, S5⟩
  have H5 := hid S5
  clear S5 H4
  go_wp2_with fail
  refine (lhold_yes (awL_ok _ _ _ _ _ (by omega)) (awL3 a b) (by show (0 : Nat) < 1; omega) (by show (0 : Int) ≤ 1000000; omega) (by show (0 : Int) ≤ 0; omega) H5.out).mono ?_; rintro e w6 ⟨rfl, S6⟩
  have H6 := hid (show Sat w J (libp q (awL a b ⟨1, 1, 3, false⟩ 2 3) :: []) w6 from S6)
  clear S6 H5
  go_wp2_with fail
  refine (lmount_sat (awL_ok _ _ _ _ _ (by omega)) (awL4 a b) H6.out).mono ?_; rintro e w7 ⟨rfl, S7⟩
  have H7 := hid S7
  clear S7 H6
  go_wp2_with fail
  refine (lmoves_sat (N := 2) rfl H7.out).mono ?_; rintro e w8 ⟨rfl, S8⟩
  have H8 := hid S8
  clear S8 H7
  go_wp2_with fail
  refine (lin_sat 1 (awL5 a b) H8.out).mono ?_; rintro e w9 ⟨rfl, S9⟩
  have H9 := hid S9
  clear S9 H8
  go_wp2_with fail
  go_ret
  exact ⟨rfl, H9.out.toBelow hJ⟩
theorem lawake_sat (H : Sat w0 I L w) : Calls Tryd.prog 28 #[] w fun e w' => e = .returned (.bool true) ∧ Sat w0 I L w' := retB_sat (lawake_any w) H
end
end Go.Proofs.YtcogjlfdhiomnaaDoor
