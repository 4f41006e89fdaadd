/- Contracts of the reference of layer 3, and of awake. -/
import Derived.Test.YtlofhcooppdkjaaMeter
namespace Go.Proofs.Ytlofhcooppdkjaa
open Go.RowKit
set_option linter.unusedVariables false
set_option maxHeartbeats 400000

section
variable (w : World)
def rTakeE (r u n : Int) : Int := if n < 0 then 1 else if r - u < n then 7 else 0
def rTakeU (r u n : Int) : Int := if n < 0 then u else if r - u < n then u else u + n
theorem refTake_any (r u n : Int) (h0 : 0 ≤ u) (h1 : u ≤ r) (h2 : r ≤ 9223372036854775807) :
    Calls Try.prog 21 #[.agg #[.int .i64 r, .int .i64 u], .int .i64 n] w (RetB (.tuple #[.agg #[.int .i64 r, .int .i64 (rTakeU r u n)], .int .i64 (rTakeE r u n)]) w.heap.size w) := by
  unfold rTakeE rTakeU
  by_cases hn : n < 0
  · rw [if_pos hn, if_pos hn]
    go_enter Try.func21, Try.ntmps21
    go_wp2
    go_returns
    exact ⟨rfl, by go_grown⟩
  · rw [if_neg hn, if_neg hn]
    by_cases hn2 : r - u < n
    · rw [if_pos hn2, if_pos hn2]
      go_enter Try.func21, Try.ntmps21
      go_wp2
      go_returns
      exact ⟨rfl, by go_grown⟩
    · rw [if_neg hn2, if_neg hn2]
      go_enter Try.func21, Try.ntmps21
      go_wp2
      go_returns
      exact ⟨rfl, by go_grown⟩
theorem refGive_any (r u n : Int) (h0 : 0 ≤ u) (h1 : u ≤ r) (h2 : r ≤ 9223372036854775807) :
    Calls Try.prog 22 #[.agg #[.int .i64 r, .int .i64 u], .int .i64 n] w (RetB (.tuple #[.agg #[.int .i64 r, .int .i64 (giveU u n)], .int .i64 (giveE u n)]) w.heap.size w) := by
  unfold giveE giveU
  by_cases hn : n < 0
  · rw [if_pos (Or.inl hn), if_pos (Or.inl hn)]
    go_enter Try.func22, Try.ntmps22
    go_wp2
    go_returns
    exact ⟨rfl, by go_grown⟩
  · by_cases hn2 : u < n
    · rw [if_pos (Or.inr hn2), if_pos (Or.inr hn2)]
      go_enter Try.func22, Try.ntmps22
      go_wp2
      go_returns
      exact ⟨rfl, by go_grown⟩
    · rw [if_neg (by omega), if_neg (by omega)]
      go_enter Try.func22, Try.ntmps22
      go_wp2
      go_returns
      exact ⟨rfl, by go_grown⟩
def rTryE (lost : Bool) (f : Int) : Int := if lost then 14 else if f = 0 then 8 else 0
def rTryF (lost : Bool) (f : Int) : Int := if lost then f else if f = 0 then -1 else if 0 < f then f - 1 else f
theorem refTry_any (lost : Bool) (f : Int) (h1 : -1 ≤ f) (h2 : f ≤ 9223372036854775807) :
    Calls Try.prog 23 #[.agg #[.bool lost, .int .i64 f]] w (RetB (.tuple #[.agg #[.bool lost, .int .i64 (rTryF lost f)], .int .i64 (rTryE lost f)]) w.heap.size w) := by
  unfold rTryE rTryF
  cases lost
  · simp only [Bool.false_eq_true, if_false]
    by_cases h3 : f = 0
    · subst h3
      rw [if_pos rfl, if_pos rfl]
      go_enter Try.func23, Try.ntmps23
      go_wp2
      go_returns
      exact ⟨rfl, by go_grown⟩
    · rw [if_neg h3, if_neg h3]
      have h4 : (f == 0) = false := by simp; omega
      by_cases h5 : 0 < f
      · rw [if_pos h5]
        go_enter Try.func23, Try.ntmps23
        go_wp2
        go_returns
        exact ⟨rfl, by go_grown⟩
      · rw [if_neg h5]
        go_enter Try.func23, Try.ntmps23
        go_wp2
        go_returns
        exact ⟨rfl, by go_grown⟩
  · simp only [if_true]
    go_enter Try.func23, Try.ntmps23
    go_wp2
    go_returns
    exact ⟨rfl, by go_grown⟩

end
end Go.Proofs.Ytlofhcooppdkjaa
