/- A string's bytes in a block of their own: '[]byte(s)', 'b[i] = c', 'string(b)'. -/
import Derived.Test.YtecdnlmagaoccaaSat
import Derived.Laws.IdiomStrings
import Derived.Lib.BufferRead
namespace Go.Proofs.Ytecdnlmagaoccaa
open Go.RowKit
set_option linter.unusedVariables false
/-- block g holds these bytes first; they may be written. -/
def bytesB (g : Nat) (l : List UInt8) : HP := fun h => ∃ (cur : Array Value) (lo : Nat), h g = some (.cells cur 5 (lo, lo + 1)) ∧ l.length ≤ lo ∧ l.length ≤ cur.size ∧ ∀ i (hi : i < l.length), cur[i]? = some (.int .u8 (l[i].toNat : Int))
section
variable {w0 w : World} {I : Part} {L : List HP} {g : Nat} {l : List UInt8}
theorem Sat.bytesNew (H : Sat w0 I L w) (s : ByteArray) (cap : Nat) (hg : g = w.heap.size) :
    Sat w0 I (bytesB g s.data.toList :: L) (w.drew.alloc (.cells (bytesRow s cap) 5 ((bytesRow s cap).size, (bytesRow s cap).size + 1))) := by
  subst hg
  refine (H.drew.allocO _).weaken fun h hh => ?_
  have hat : ∀ i (hi : i < s.data.toList.length), (bytesRow s cap)[i]? = some (.int .u8 (s.data.toList[i].toNat : Int)) := fun i hi => by
    have := bytesRow_at s cap i (by simpa using hi)
    simpa using this
  have hsz : s.data.toList.length ≤ (bytesRow s cap).size := by
    rcases Nat.eq_zero_or_pos s.data.toList.length with h0 | h0
    · omega
    · have h1 := hat (s.data.toList.length - 1) (by omega)
      have h2 := (Array.getElem?_eq_some_iff.1 h1).1
      omega
  exact ⟨_, _, hh, hsz, hsz, hat⟩
theorem Sat.bytesAt (H : Sat w0 I (bytesB g l :: L) w) : ∃ cur lo, w.heap[g]? = some (.cells cur 5 (lo, lo + 1)) ∧ l.length ≤ lo ∧ ∀ i (hi : i < l.length), cur[i]? = some (.int .u8 (l[i].toNat : Int)) := by
  obtain ⟨h, ⟨cur, lo, h1, h2, h3, h4⟩, hle, _⟩ := H.elim
  exact ⟨cur, lo, hle _ _ h1, h2, h4⟩
theorem Sat.bytesCell (H : Sat w0 I (bytesB g l :: L) w) (i : Nat) (hi : i < l.length) : w.cell? ⟨g, i, none⟩ = some (.int .u8 (l[i].toNat : Int)) := by
  obtain ⟨cur, lo, h1, h2, h3⟩ := H.bytesAt
  unfold World.cell?
  rw [show (⟨g, i, none⟩ : Addr).block = g from rfl, h1]
  exact h3 i hi
theorem Sat.bytesFree (H : Sat w0 I (bytesB g l :: L) w) (i : Nat) (hi : i < l.length) : w.frozen? ⟨g, i, none⟩ = false := by
  obtain ⟨cur, lo, h1, h2, h3⟩ := H.bytesAt
  unfold World.frozen?
  rw [show (⟨g, i, none⟩ : Addr).block = g from rfl, h1]
  simp; omega
theorem Sat.bytesSet (H : Sat w0 I (bytesB g l :: L) w) (i : Nat) (hi : i < l.length) (c : UInt8) : Sat w0 I (bytesB g (l.set i c) :: L) (w.setCell ⟨g, i, none⟩ (.int .u8 (c.toNat : Int))) := by
  refine H.change fun h hh hle => ⟨fun k => k = g, fun k hk _ => ?_, Mod.setCell (S := fun k => k = g) (p := ⟨g, i, none⟩) (Mod.refl _ _) (fun _ => rfl) _, fun h' hh' => ?_⟩
  · obtain ⟨cur, lo, h1, _⟩ := hh
    subst hk; rw [h1]; rfl
  · obtain ⟨cur, lo, h1, h2, h3, h4⟩ := hh
    have hw : w.heap[g]? = some (.cells cur 5 (lo, lo + 1)) := hle _ _ h1
    refine ⟨cur.set! i (.int .u8 (c.toNat : Int)), lo, ?_, by simpa using h2, by simpa using h3, fun j hj => ?_⟩
    · rw [hh' g (Or.inl (by rw [h1]; rfl))]
      unfold World.setCell
      simp only [Array.getElem?_modify]
      rw [if_pos trivial, hw]
      simp
    · have hj' : j < l.length := by simpa using hj
      by_cases he : i = j
      · subst he
        simp [show i < cur.size by omega]
      · rw [List.getElem_set_ne he]
        simp only [Array.set!_eq_setIfInBounds, Array.getElem?_setIfInBounds, if_neg he]
        exact h4 j hj'
theorem Sat.bytesStr (H : Sat w0 I (bytesB g l :: L) w) (cap n : Nat) (hn : l.length = n) : (convert 87 9 (.slice (some ⟨g, 0, none⟩) n cap)).run Try.prog w = .ok (.string ⟨l.toArray⟩) w := by
  subst hn
  refine run_convert_bytes_back w _ _ 5 _ cap l Try.underlying87 Try.underlying5 Try.underlying9 fun j hj => ?_
  have e1 : (⟨g, 0, none⟩ : Addr).add j = ⟨g, j, none⟩ := by unfold Addr.add; split <;> simp_all
  rw [e1]; exact H.bytesCell j hj
end
end Go.Proofs.Ytecdnlmagaoccaa
