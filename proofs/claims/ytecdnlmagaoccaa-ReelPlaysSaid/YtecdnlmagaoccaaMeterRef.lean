/- Contracts of the reference of layer 3, and of awake. -/
import Derived.Test.YtecdnlmagaoccaaMeter
namespace Go.Proofs.Ytecdnlmagaoccaa
open Go.RowKit
set_option linter.unusedVariables false
set_option maxHeartbeats 400000

section
variable (w : World)
def rTryE (lost : Bool) (f : Int) : Int := if lost then 14 else if f = 0 then 8 else 0
def rTryF (lost : Bool) (f : Int) : Int := if lost then f else if f = 0 then -1 else if 0 < f then f - 1 else f
theorem refTry_any (lost : Bool) (f : Int) (h1 : -1 ≤ f) (h2 : f ≤ 9223372036854775807) :
    Calls Try.prog 57 #[.agg #[.bool lost, .int .i64 f]] w (RetB (.tuple #[.agg #[.bool lost, .int .i64 (rTryF lost f)], .int .i64 (rTryE lost f)]) w.heap.size w) := by
  unfold rTryE rTryF
  cases lost
  · simp only [Bool.false_eq_true, if_false]
    by_cases h3 : f = 0
    · subst h3
      rw [if_pos rfl, if_pos rfl]
      go_enter Try.func57, Try.ntmps57
      go_wp2
      go_returns
      exact ⟨rfl, by go_grown⟩
    · rw [if_neg h3, if_neg h3]
      have h4 : (f == 0) = false := by simp; omega
      by_cases h5 : 0 < f
      · rw [if_pos h5]
        go_enter Try.func57, Try.ntmps57
        go_wp2
        go_returns
        exact ⟨rfl, by go_grown⟩
      · rw [if_neg h5]
        go_enter Try.func57, Try.ntmps57
        go_wp2
        go_returns
        exact ⟨rfl, by go_grown⟩
  · simp only [if_true]
    go_enter Try.func57, Try.ntmps57
    go_wp2
    go_returns
    exact ⟨rfl, by go_grown⟩

end
end Go.Proofs.Ytecdnlmagaoccaa
