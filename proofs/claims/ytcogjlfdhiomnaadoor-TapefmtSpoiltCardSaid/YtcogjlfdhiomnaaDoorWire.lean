/- Contracts of package wire: what is written. -/
import Derived.Test.YtcogjlfdhiomnaaDoorOwn
import Derived.Test.YtcogjlfdhiomnaaDoorOpen
import Derived.Laws.IdiomStrings
import Derived.Lib.BufferRead
namespace Go.Proofs.YtcogjlfdhiomnaaDoor
open Go.RowKit
set_option linter.unusedVariables false
set_option maxRecDepth 100000
set_option maxHeartbeats 400000

theorem byteCells_one (l : List UInt8) : ∀ u ∈ Lib.byteCells l, u.oneCell' = true := by
  intro u hu
  simp only [Lib.byteCells, List.mem_map] at hu
  obtain ⟨b, _, rfl⟩ := hu
  rfl
theorem byteCells_len (l : List UInt8) : (Lib.byteCells l).length = l.length := by simp [Lib.byteCells]
theorem byteCells_app (a b : List UInt8) : Lib.byteCells (a ++ b) = Lib.byteCells a ++ Lib.byteCells b := by simp [Lib.byteCells]
theorem slByte : SliceT Tryd.prog 73 5 1 1 := ⟨Tryd.underlying73, ⟨_, _, rfl, rfl, rfl, rfl, rfl⟩, by decide⟩

/-- block e is an encoder; what it has gathered is bs; it lies in the slice sv. -/
structure IsE (w : World) (e : Nat) (sv : Value) (bs : List UInt8) : Prop where
  blk : Blk w e 111 [sv]
  row : w.ownsRow (e + 1) 5 1 sv bs.length (Lib.byteCells bs)
  small : bs.length ≤ 1048576
/-- what an encoder lies in. -/
def EFp (e : Nat) (sv : Value) (k : Nat) : Prop := k = e ∨ sv.ownBlock = some k
section
variable {w : World} {e : Nat} {sv : Value} {bs : List UInt8}
theorem IsE.below {w' : World} (h : IsE w e sv bs) (hb : Below w.heap.size w w') : IsE w' e sv bs := ⟨h.blk.below hb h.blk.lt, own_below h.row hb, h.small⟩
theorem IsE.mod {w' : World} {S : Nat → Prop} (h : IsE w e sv bs) (hm : Mod S w w') (h1 : ¬ S e) (h2 : ∀ k, sv.ownBlock = some k → ¬ S k) : IsE w' e sv bs := ⟨h.blk.mod hm h1, own_mod h.row hm h2, h.small⟩
theorem IsE.fp (h : IsE w e sv bs) (k : Nat) (hk : EFp e sv k) : e ≤ k := by
  rcases hk with rfl | hk
  · exact Nat.le_refl _
  · have := h.row.lt _ hk; omega
theorem IsE.new (h : IsE w e sv bs) {b : Nat} (hb : w.heap.size ≤ b) : sv.ownBlock ≠ some b := fun x => by have := h.row.lt b x; omega
theorem IsE.zero (w : World) : IsE (w.alloc (.cells #[.slice none 0 0] 111)) w.heap.size (.slice none 0 0) [] := ⟨Blk.new w _ _, World.ownsRow_nil _ _ _ _, by simp⟩
theorem belowE {B : Nat} {w0 w' : World} (h0 : Below B w0 w) (h : IsE w e sv bs) (hm : Mod (EFp e sv) w w') (hB : B ≤ e) (hB2 : B ≤ w0.heap.size) : Below B w0 w' :=
  Mod.thenMod h0 hm (fun k _ hk => Nat.le_trans hB (h.fp k hk)) hB2
theorem Blk.enc {w' : World} {b : Nat} {T : TypeId} {cs : List Value} (h : Blk w b T cs) (hm : Mod (EFp e sv) w w') (h1 : e ≠ b) (h2 : sv.ownBlock ≠ some b) : Blk w' b T cs :=
  h.mod hm (fun hx => by rcases hx with hx | hx; exact h1 hx.symm; exact h2 hx)
/-- two encoders: the one stays where the other is written. -/
theorem IsE.other {w' : World} {f : Nat} {sw : Value} {cs : List UInt8} (h : IsE w e sv bs) (hm : Mod (EFp f sw) w w') (h1 : e ≠ f) (h2 : sw.ownBlock ≠ some e) (h3 : sv.ownBlock ≠ some f) (h4 : ∀ k, sv.ownBlock = some k → sw.ownBlock ≠ some k) : IsE w' e sv bs :=
  h.mod hm (fun hx => by rcases hx with hx | hx; exact h1 hx; exact h2 hx) (fun k hk hx => by rcases hx with hx | hx; exact h3 (by rw [hk, hx]); exact h4 k hk hx)
theorem IsE.str (h : IsE w e sv bs) : (convert 73 9 sv).run Tryd.prog w = .ok (.string ⟨bs.toArray⟩) w := by
  rcases h.row.2 with ⟨hv, h0⟩ | ⟨g, cap, cur, hv, _, hh, _, _, _, ht⟩
  · have : bs = [] := List.eq_nil_of_length_eq_zero h0
    subst this; subst hv
    exact Lib.run_convert_nil_bytes w _ _ 5 0 Tryd.underlying73 Tryd.underlying5 Tryd.underlying9
  · subst hv
    exact run_convert_bytes_back w _ _ 5 _ cap bs Tryd.underlying73 Tryd.underlying5 Tryd.underlying9 (Lib.bytes_of_row hh (by rw [Nat.mul_one] at ht; exact ht))
end

theorem bytes_any (w : World) (e : Nat) (sv : Value) (bs : List UInt8) (h : IsE w e sv bs) :
    Calls Tryd.prog 71 #[.pointer (some ⟨e, 0, none⟩)] w (Ret (.string ⟨bs.toArray⟩) w) := by
  have hc := h.blk.cell 0 rfl
  have hs := h.str
  clear h
  go_enter Tryd.func71, Tryd.ntmps71
  go_wp2
  go_ret
  exact ⟨rfl, 0, rfl⟩
end Go.Proofs.YtcogjlfdhiomnaaDoor
