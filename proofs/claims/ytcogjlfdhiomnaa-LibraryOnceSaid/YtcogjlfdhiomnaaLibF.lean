/- Libraries: contracts of Release, Break, Working, Crash. -/
import Derived.Test.YtcogjlfdhiomnaaLibE
import Derived.Test.YtcogjlfdhiomnaaLibOn
import Derived.Test.YtcogjlfdhiomnaaReelF
namespace Go.Proofs.Ytcogjlfdhiomnaa
open Go.RowKit
set_option linter.unusedVariables false
set_option maxHeartbeats 1000000
section
variable {w0 w : World} {I : Part} {L : List HP} {q : Nat} {S : Lst}
theorem lrel_none {vol : Int} (hn : inF S.drs vol = none) (H : Sat w0 I (libp q S :: L) w) :
    Calls Try.prog 10 #[.pointer (some ⟨q, 0, none⟩), .int .i64 vol] w fun e w' => e = .returned (.int .i64 5) ∧ Sat w0 I (libp q S :: L) w' := by
  have HS := hid H
  have HN := hid hn
  clear H hn
  go_enter Try.func10, Try.ntmps10
  go_wp2_with fail
  refine (lin_sat vol (N := -1) (by rw [HN.out]; rfl) HS.out).mono ?_; rintro e w1 ⟨rfl, S1⟩
  have H1 := hid S1
  clear S1
  go_wp2_with fail
  go_ret
  exact ⟨rfl, H1.out⟩
theorem lrel_zero {vol : Int} {k : Nat} (hn : inF S.drs vol = some k) {hk' : k < S.drs.length} (h0 : S.drs[k].holds = 0) (H : Sat w0 I (libp q S :: L) w) :
    Calls Try.prog 10 #[.pointer (some ⟨q, 0, none⟩), .int .i64 vol] w fun e w' => e = .returned (.int .i64 5) ∧ Sat w0 I (libp q S :: L) w' := by
  have H00 := hid h0
  clear h0
  have hk := (inF_lt hn).1
  have HS := hid H
  have HN := hid hn
  clear H hn
  have e3 : ¬ (k : Int) = -1 := by omega
  go_enter Try.func10, Try.ntmps10
  go_wp2_with fail
  refine (lin_sat vol (N := (k : Int)) (by rw [HN.out]; rfl) HS.out).mono ?_; rintro e w1 ⟨rfl, S1⟩
  obtain ⟨av, cv, ad, cd, k1, k2, k3, k4, S2⟩ := S1.libOpen
  obtain ⟨g, cap', hsv, c0, c1, c2, c3, fz⟩ := row4 (S2.pick 2) k hk
  cases hsv
  have d1 : w1.cell? ⟨q, 1, none⟩ = some (.slice (some ⟨g, 0, none⟩) S.drs.length cd) := S2.isBlk.cell 1 rfl
  have f1 := fz (k * 4 + 1)
  have nn1 : (0 : Int) ≤ (k : Int) := by omega
  have nn2 : (k : Int) < (S.drs.length : Int) := by omega
  have H2 := hid S2
  have H1 := hid S1
  clear S1 S2 c0 c2 c3 fz
  rw [H00.out] at c1
  go_wp2_with fail
  go_ret
  exact ⟨rfl, H1.out⟩
theorem lrel_yes {vol : Int} {k : Nat} (hn : inF S.drs vol = some k) {hk' : k < S.drs.length} {z : Int} (hz : S.drs[k].holds = z) (h0 : 0 < z) (h1 : z ≤ 1000000) (H : Sat w0 I (libp q S :: L) w) :
    Calls Try.prog 10 #[.pointer (some ⟨q, 0, none⟩), .int .i64 vol] w fun e w' => e = .returned (.int .i64 0) ∧ Sat w0 I (libp q {S with drs := S.drs.set k ⟨S.drs[k].vol, z - 1, S.drs[k].used, S.drs[k].broken⟩} :: L) w' := by
  have HZ := hid hz
  clear hz
  have hk := (inF_lt hn).1
  have HS := hid H
  have HN := hid hn
  clear H hn
  have e3 : ¬ (k : Int) = -1 := by omega
  go_enter Try.func10, Try.ntmps10
  go_wp2_with fail
  refine (lin_sat vol (N := (k : Int)) (by rw [HN.out]; rfl) HS.out).mono ?_; rintro e w1 ⟨rfl, S1⟩
  obtain ⟨av, cv, ad, cd, k1, k2, k3, k4, S2⟩ := S1.libOpen
  obtain ⟨g, cap', hsv, c0, c1, c2, c3, fz⟩ := row4 (S2.pick 2) k hk
  cases hsv
  have d1 : w1.cell? ⟨q, 1, none⟩ = some (.slice (some ⟨g, 0, none⟩) S.drs.length cd) := S2.isBlk.cell 1 rfl
  have f1 := fz (k * 4 + 1)
  have nn1 : (0 : Int) ≤ (k : Int) := by omega
  have nn2 : (k : Int) < (S.drs.length : Int) := by omega
  have H2 := hid S2
  have H1 := hid S1
  clear S1 S2 c0 c2 c3 fz
  rw [HZ.out] at c1
  have z1 : ¬ z = 0 := by omega
  have z2 : (z == 0) = false := by simpa using z1
  go_wp2_with fail
  go_ret
  refine ⟨rfl, ?_⟩
  exact Sat.libShut2 (av := av) (ad := some ⟨g, 0, none⟩) (cv := cv) (cd := cd) (n := S.vols.length) (m := S.drs.length) rfl (by simp) ((H2.out.pick 2).drvSet hk (by omega) _ rfl)
theorem lbreak_no (n : Int) (b : Bool) (hn : n < 0 ∨ (S.drs.length : Int) ≤ n) (H : Sat w0 I (libp q S :: L) w) :
    Calls Try.prog 12 #[.pointer (some ⟨q, 0, none⟩), .int .i64 n, .bool b] w fun e w' => e = .returned (.tuple #[]) ∧ Sat w0 I (libp q S :: L) w' := by
  obtain ⟨av, cv, ad, cd, k1, k2, k3, k4, H1⟩ := H.libOpen
  have c : w.cell? ⟨q, 1, none⟩ = some (.slice ad S.drs.length cd) := H1.isBlk.cell 1 rfl
  refine ret_sat ?_ H
  clear H H1
  by_cases h0 : n < 0
  · go_enter Try.func12, Try.ntmps12
    go_wp2
    go_returns
    exact ⟨rfl, 0, rfl⟩
  · have h1 : (S.drs.length : Int) ≤ n := by omega
    go_enter Try.func12, Try.ntmps12
    go_wp2
    go_returns
    exact ⟨rfl, 0, rfl⟩
/-- with the parts laid open: the drives stay where they lie. -/
theorem lbreak_open {l : List Dr} {N : Nat} (hN : l.length = N) {av : Option Addr} {cv cd : Nat} {g n m : Nat} {mv mn : Int} {ps : List Value} {A : HP} (b : Bool) (hn : n < N) (H : Sat w0 I (blk q 43 [.slice av m cv, .slice (some ⟨g, 0, none⟩) N cd, .int .i64 mv, .int .i64 mn] :: row 44 1 (.slice av m cv) m ps :: row 47 4 (.slice (some ⟨g, 0, none⟩) N cd) N (l.flatMap dc) :: A :: L) w) :
    Calls Try.prog 12 #[.pointer (some ⟨q, 0, none⟩), .int .i64 (n : Int), .bool b] w fun e w' => e = .returned (.tuple #[]) ∧ Sat w0 I (blk q 43 [.slice av m cv, .slice (some ⟨g, 0, none⟩) N cd, .int .i64 mv, .int .i64 mn] :: row 44 1 (.slice av m cv) m ps :: row 47 4 (.slice (some ⟨g, 0, none⟩) N cd) N ((l.set n ⟨-1, 0, 0, b⟩).flatMap dc) :: A :: L) w' := by
  have d1 : w.cell? ⟨q, 1, none⟩ = some (.slice (some ⟨g, 0, none⟩) N cd) := H.isBlk.cell 1 rfl
  have hn' : n < l.length := by omega
  obtain ⟨g', cap', hsv, c0, c1, c2, c3, fz⟩ := row4n hN (H.pick 2) n hn'
  cases hsv
  have f0 := fz (n * 4)
  have f1 := fz (n * 4 + 1)
  have f2 := fz (n * 4 + 2)
  have f3 := fz (n * 4 + 3)
  have nn1 : (0 : Int) ≤ (n : Int) := by omega
  have nn2 : (n : Int) < (N : Int) := by omega
  have H5 := hid H
  clear H fz
  go_enter Try.func12, Try.ntmps12
  go_wp2_with fail
  go_returns
  exact ⟨rfl, (((H5.out.pick 2).drvPut hn' ⟨-1, 0, 0, b⟩ rfl).pick 2).pick 2⟩
theorem lbreak_yes {k : Nat} (b : Bool) {n : Int} (hn : n = (k : Int)) (hk : k < S.drs.length) (H : Sat w0 I (libp q S :: L) w) :
    Calls Try.prog 12 #[.pointer (some ⟨q, 0, none⟩), .int .i64 n, .bool b] w fun e w' => e = .returned (.tuple #[]) ∧ Sat w0 I (libp q {S with drs := S.drs.set k ⟨-1, 0, 0, b⟩} :: L) w' := by
  subst hn
  obtain ⟨av, cv, ad, cd, k1, k2, k3, k4, H1⟩ := H.libOpen
  obtain ⟨g, cap', hsv, _⟩ := row4 (H1.pick 2) k hk
  cases hsv
  exact (lbreak_open (l := S.drs) rfl b hk H1).mono fun e w' ⟨h1, h2⟩ => ⟨h1, Sat.libShut (T := {S with drs := S.drs.set k ⟨-1, 0, 0, b⟩}) (n := S.vols.length) (m := S.drs.length) rfl (by simp) h2⟩
theorem lwork_sat {N : Int} (hN : ((workN S.drs S.drs.length : Nat) : Int) = N) (H : Sat w0 I (libp q S :: L) w) :
    Calls Try.prog 14 #[.pointer (some ⟨q, 0, none⟩)] w fun e w' => e = .returned (.int .i64 N) ∧ Sat w0 I (libp q S :: L) w' := by
  obtain ⟨av, cv, ad, cd, k1, k2, k3, k4, H1⟩ := H.libOpen
  have c : w.cell? ⟨q, 1, none⟩ = some (.slice ad S.drs.length cd) := H1.isBlk.cell 1 rfl
  have HO := hid H1
  have HN := hid hN
  clear H H1 hN
  go_enter Try.func14, Try.ntmps14
  go_wp2_with fail
  go_loopw [3, 5, 11] (fun n _ i wr => ∃ k : Nat, k ≤ S.drs.length ∧ i = .int .i64 k ∧ n = .int .i64 ((workN S.drs k : Nat) : Int) ∧ workN S.drs k ≤ k ∧ Sat w0 I (blk q 43 (lcells S (.slice av S.vols.length cv) (.slice ad S.drs.length cd)) :: row 44 1 (.slice av S.vols.length cv) S.vols.length (ptrs S.vols) :: row 47 4 (.slice ad S.drs.length cd) S.drs.length (S.drs.flatMap dc) :: volsP S.vols :: L) wr) (fun _ _ i _ => S.drs.length - (intOf i).toNat)
  case atStart => exact ⟨0, Nat.zero_le _, rfl, rfl, Nat.le_refl _, HO.out⟩
  case round =>
    clear HO c
    obtain ⟨k, hk, rfl, rfl, hle, Sr⟩ := hrel
    have HO := hid Sr
    clear Sr
    by_cases hlt : k < S.drs.length
    · obtain ⟨g, cap', hsv, c0, c1, c2, c3, _⟩ := row4 (HO.out.pick 2) k hlt
      cases hsv
      have hk1 : (k : Int) < (S.drs.length : Int) := by omega
      have hk0 : (0 : Int) ≤ (k : Int) := by omega
      have HW := hid (workN_succ S.drs k hlt)
      generalize S.drs[k] = x at *
      cases hb : x.broken
      · rw [hb] at c3
        have hw : workN S.drs (k + 1) = workN S.drs k + 1 := by rw [HW.out, hb]; simp
        have HW := hid hw
        clear hw hb
        go_wp2_with fail
        go_roundw
        case rel => exact ⟨k + 1, by omega, by go_num, by rw [HW.out]; go_num, by rw [HW.out]; omega, HO.out.alloc_ _⟩
        case measure => (simp [intOf] <;> omega)
      · rw [hb] at c3
        have hw : workN S.drs (k + 1) = workN S.drs k := by rw [HW.out, hb]; simp
        have HW := hid hw
        clear hw hb
        go_wp2_with fail
        go_roundw
        case rel => exact ⟨k + 1, by omega, by go_num, by rw [HW.out], by rw [HW.out]; omega, HO.out.alloc_ _⟩
        case measure => (simp [intOf] <;> omega)
    · obtain rfl : k = S.drs.length := by omega
      rw [HN.out]
      go_wp2_with fail
      go_ret
      exact ⟨rfl, Sat.libClose HO.out⟩
end
end Go.Proofs.Ytcogjlfdhiomnaa
