/- Contracts of Enc.List and Enc.S. -/
import Derived.Test.YtcogjlfdhiomnaaDoorWireI
namespace Go.Proofs.YtcogjlfdhiomnaaDoor
open Go.RowKit
set_option linter.unusedVariables false
set_option maxRecDepth 100000

theorem encI_one (w : World) (e : Nat) (sv : Value) (bs : List UInt8) (g : Nat) (T : TypeId) (m : Nat) (h : IsE w e sv bs) (hg : Blk w g T [.int .i64 m]) (h1 : m ≤ 9223372036854775807) (hne : g ≠ e) (hs : sv.ownBlock ≠ some g) (hsm : bs.length + 10 ≤ 1048576) :
    Calls Tryd.prog 68 #[.pointer (some ⟨e, 0, none⟩), .slice (some ⟨g, 0, none⟩) 1 1] w
      fun r w' => r = .returned (.pointer (some ⟨e, 0, none⟩)) ∧ ∃ sv', IsE w' e sv' (bs ++ encU m) ∧ Mod (EFp e sv) w w' ∧ Moved w sv sv' := by
  have := encI_any w e sv bs (some ⟨g, 0, none⟩) 1 [(m : Int)] h (Blk.ints (k := .i64) (zs := [(m : Int)]) hg) (fun z hz => by simp at hz; subst hz; omega) (fun _ x hx => by cases hx; exact ⟨hne, hs⟩) (by simpa using hsm) (by simp)
  have e1 : (max (m : Int) 0).toNat = m := by omega
  simpa [e1] using this

theorem Moved.ne' {w : World} {sv sv' : Value} (V : Moved w sv sv') {b : Nat} (hlt : b < w.heap.size) (hne : sv.ownBlock ≠ some b) : sv'.ownBlock ≠ some b := fun h => by
  rcases V b h with h1 | h1
  · exact hne h1
  · omega
theorem IntsAt.mod {k : IntKind} {w w' : World} {a : Option Addr} {zs : List Int} {S : Nat → Prop} (h : IntsAt k w a zs) (hm : Mod S w w') (hne : 0 < zs.length → ∀ x, a = some x → ¬ S x.block) : IntsAt k w' a zs := fun i hi => by
  obtain ⟨b, off, h1, h2⟩ := h i hi
  refine ⟨b, off, h1, ?_⟩
  rw [← h2]
  have := hm.block b (World.block_lt_of_cell? w _ h2) (hne (by omega) _ h1)
  unfold World.cell?
  rw [show (⟨b, off + i, none⟩ : Addr).block = b from rfl, this]

end Go.Proofs.YtcogjlfdhiomnaaDoor
