/- Strings; the contract of Cut. -/
import Derived.Test.YtecdnlmagaoccaaSat
import Derived.Laws.IdiomStrings
namespace Go.Proofs.Ytecdnlmagaoccaa
open Go.RowKit
set_option linter.unusedVariables false

theorem baApp (a b : List UInt8) : (⟨a.toArray⟩ : ByteArray) ++ ⟨b.toArray⟩ = ⟨(a ++ b).toArray⟩ := by
  apply ByteArray.ext
  simp
theorem baAll (s : ByteArray) (n : Nat) (h : s.size ≤ n) : s.extract 0 n = s := by
  apply ByteArray.ext
  rw [ByteArray.data_extract]
  apply Array.toList_inj.1
  rw [Array.toList_extract]
  have h' : s.data.toList.length ≤ n := by rw [Array.length_toList]; exact h
  simp [List.extract, List.take_of_length_le h']
theorem cutSize (s : ByteArray) (n : Nat) : (s.extract 0 n).size ≤ n := by
  rw [ByteArray.size_extract]; omega
theorem cut_eq (w : World) (s : ByteArray) (n : Nat) (hn : n ≤ 100000) (hs : s.size ≤ 9223372036854775807) :
    Calls Try.prog 11 #[.string s, .int .i64 (n : Int)] w fun e w' => e = .returned (.string (s.extract 0 n)) ∧ w' = w := by
  by_cases h : n < s.size
  · have h' : (n : Int) < (s.size : Int) := by omega
    go_enter Try.func11, Try.ntmps11
    go_wp2_with fail
    go_ret
    exact ⟨rfl, rfl⟩
  · have h' : ¬ (n : Int) < (s.size : Int) := by omega
    go_enter Try.func11, Try.ntmps11
    go_wp2_with fail
    go_ret
    refine ⟨?_, rfl⟩
    rw [baAll s n (by omega)]; rfl
theorem cut_sat {w0 w : World} {I : Part} {L : List HP} (s : ByteArray) (n : Nat) (hn : n ≤ 100000) (hs : s.size ≤ 9223372036854775807) (h : Sat w0 I L w) :
    Calls Try.prog 11 #[.string s, .int .i64 (n : Int)] w fun e w' => e = .returned (.string (s.extract 0 n)) ∧ Sat w0 I L w' :=
  (cut_eq w s n hn hs).mono fun e w' ⟨h1, h2⟩ => ⟨h1, h2 ▸ h⟩
end Go.Proofs.Ytecdnlmagaoccaa
