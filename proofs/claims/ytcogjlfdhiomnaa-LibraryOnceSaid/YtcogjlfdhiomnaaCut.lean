/- Strings; the contract of Cut. -/
import Derived.Test.YtcogjlfdhiomnaaSat
import Derived.Laws.IdiomStrings
namespace Go.Proofs.Ytcogjlfdhiomnaa
open Go.RowKit
set_option linter.unusedVariables false

theorem baApp (a b : List UInt8) : (⟨a.toArray⟩ : ByteArray) ++ ⟨b.toArray⟩ = ⟨(a ++ b).toArray⟩ := by
  apply ByteArray.ext
  simp
theorem baAll (s : ByteArray) (n : Nat) (h : s.size ≤ n) : s.extract 0 n = s := by
  apply ByteArray.ext
  rw [ByteArray.data_extract]
  apply Array.toList_inj.1
  rw [Array.toList_extract]
  have h' : s.data.toList.length ≤ n := by rw [Array.length_toList]; exact h
  simp [List.extract, List.take_of_length_le h']
theorem cutSize (s : ByteArray) (n : Nat) : (s.extract 0 n).size ≤ n := by
  rw [ByteArray.size_extract]; omega
end Go.Proofs.Ytcogjlfdhiomnaa
