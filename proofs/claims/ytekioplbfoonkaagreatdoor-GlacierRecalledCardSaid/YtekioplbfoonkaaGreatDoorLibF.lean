/- Libraries: contracts of Release, Break, Working, Crash. -/
import Derived.Test.YtekioplbfoonkaaGreatDoorLibC
import Derived.Test.YtekioplbfoonkaaGreatDoorMg3
namespace Go.Proofs.YtekioplbfoonkaaGreatDoor
open Go.RowKit
set_option linter.unusedVariables false
set_option maxRecDepth 100000
set_option maxHeartbeats 1000000
section
variable {w0 w : World} {I : Part} {L : List HP} {q : Nat} {S : Lst}
theorem lbreak_no (n : Int) (b : Bool) (hn : n < 0 ∨ (S.drs.length : Int) ≤ n) (H : Sat w0 I (libp q S :: L) w) :
    Calls Tryz.prog 45 #[.pointer (some ⟨q, 0, none⟩), .int .i64 n, .bool b] w fun e w' => e = .returned (.tuple #[]) ∧ Sat w0 I (libp q S :: L) w' := by
  obtain ⟨av, cv, ad, cd, k1, k2, k3, k4, H1⟩ := H.libOpen
  have c : w.cell? ⟨q, 1, none⟩ = some (.slice ad S.drs.length cd) := H1.isBlk.cell 1 rfl
  refine ret_sat ?_ H
  clear H H1
  by_cases h0 : n < 0
  · go_enter Tryz.func45, Tryz.ntmps45
    go_wp2
    go_returns
    exact ⟨rfl, 0, rfl⟩
  · have h1 : (S.drs.length : Int) ≤ n := by omega
    go_enter Tryz.func45, Tryz.ntmps45
    go_wp2
    go_returns
    exact ⟨rfl, 0, rfl⟩
/-- with the parts laid open: the drives stay where they lie. -/
theorem lbreak_open {l : List Dr} {N : Nat} (hN : l.length = N) {av : Option Addr} {cv cd : Nat} {g n m : Nat} {mv mn : Int} {ps : List Value} {A : HP} (b : Bool) (hn : n < N) (H : Sat w0 I (blk q 99 [.slice av m cv, .slice (some ⟨g, 0, none⟩) N cd, .int .i64 mv, .int .i64 mn] :: row 47 1 (.slice av m cv) m ps :: row 101 4 (.slice (some ⟨g, 0, none⟩) N cd) N (l.flatMap dc) :: A :: L) w) :
    Calls Tryz.prog 45 #[.pointer (some ⟨q, 0, none⟩), .int .i64 (n : Int), .bool b] w fun e w' => e = .returned (.tuple #[]) ∧ Sat w0 I (blk q 99 [.slice av m cv, .slice (some ⟨g, 0, none⟩) N cd, .int .i64 mv, .int .i64 mn] :: row 47 1 (.slice av m cv) m ps :: row 101 4 (.slice (some ⟨g, 0, none⟩) N cd) N ((l.set n ⟨-1, 0, 0, b⟩).flatMap dc) :: A :: L) w' := by
  have d1 : w.cell? ⟨q, 1, none⟩ = some (.slice (some ⟨g, 0, none⟩) N cd) := H.isBlk.cell 1 rfl
  have hn' : n < l.length := by omega
  obtain ⟨g', cap', hsv, c0, c1, c2, c3, fz⟩ := row4n hN (H.pick 2) n hn'
  cases hsv
  have f0 := fz (n * 4)
  have f1 := fz (n * 4 + 1)
  have f2 := fz (n * 4 + 2)
  have f3 := fz (n * 4 + 3)
  have nn1 : (0 : Int) ≤ (n : Int) := by omega
  have nn2 : (n : Int) < (N : Int) := by omega
  have H5 := hid H
  clear H fz
  go_enter Tryz.func45, Tryz.ntmps45
  go_wp2_with fail
  go_returns
  exact ⟨rfl, (((H5.out.pick 2).drvPut hn' ⟨-1, 0, 0, b⟩ rfl).pick 2).pick 2⟩
theorem lbreak_yes {k : Nat} (b : Bool) {n : Int} (hn : n = (k : Int)) (hk : k < S.drs.length) (H : Sat w0 I (libp q S :: L) w) :
    Calls Tryz.prog 45 #[.pointer (some ⟨q, 0, none⟩), .int .i64 n, .bool b] w fun e w' => e = .returned (.tuple #[]) ∧ Sat w0 I (libp q {S with drs := S.drs.set k ⟨-1, 0, 0, b⟩} :: L) w' := by
  subst hn
  obtain ⟨av, cv, ad, cd, k1, k2, k3, k4, H1⟩ := H.libOpen
  obtain ⟨g, cap', hsv, _⟩ := row4 (H1.pick 2) k hk
  cases hsv
  exact (lbreak_open (l := S.drs) rfl b hk H1).mono fun e w' ⟨h1, h2⟩ => ⟨h1, Sat.libShut (T := {S with drs := S.drs.set k ⟨-1, 0, 0, b⟩}) (n := S.vols.length) (m := S.drs.length) rfl (by simp) h2⟩
end
end Go.Proofs.YtekioplbfoonkaaGreatDoor
