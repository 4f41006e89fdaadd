/- Small general words for walks, over any program: what a call returned and left (Ret, RetB), a block that is known whole (Blk), and the laws on them. -/
import Derived.Test.YtlofhcooppdkjaaChecked
import Derived.Handy
import Derived.Below
import Derived.BigQuiet
import Derived.Outline
namespace Go.Proofs.Ytlofhcooppdkjaa
open Go.RowKit

theorem hid {p : Prop} (h : p) : Hid p := h
/-- the call returned v; the world is w2 but for draws. -/
def Ret (v : Value) (w2 : World) (e : Ending) (w' : World) : Prop := e = .returned v ∧ ∃ n, w' = w2.drewN n
/-- the call returned v; below block B nothing has changed. -/
def RetB (v : Value) (B : Nat) (w : World) (e : Ending) (w' : World) : Prop := e = .returned v ∧ Below B w w'

theorem setCell_self (w : World) (a : Addr) (v : Value) (h : w.cell? a = some v) : w.setCell a v = w := by
  have key : (w.setCell a v).heap = w.heap := by
    unfold World.setCell World.cell? at *
    apply Array.ext_getElem?
    intro i
    simp only [Array.getElem?_modify]
    split
    · subst_vars
      split at h
      · rename_i c e f hh
        rw [hh]
        simp only [Option.map_some]
        split at h
        · cases h
        · rename_i hs
          simp [hs]
          rw [show c.setIfInBounds a.off v = c from ?_]
          apply Array.ext_getElem?
          intro j
          rw [Array.getElem?_setIfInBounds]
          split
          · subst_vars; split
            · exact h.symm
            · rename_i hj; rw [Array.getElem?_eq_none (by omega)]
          · rfl
      · cases h
    · rfl
  cases w
  simp only [World.setCell] at *
  simp [key]

theorem below_drewN {B : Nat} {a w : World} (h : Below B a w) (n : Nat) : Below B a (w.drewN n) := ⟨h.os, h.tape, h.output, h.size, h.block⟩

/-- block b is known whole: its cells are cs, of the type T, none of them frozen. -/
def Blk (w : World) (b : Nat) (T : TypeId) (cs : List Value) : Prop := w.heap[b]? = some (.cells cs.toArray T (0, 0))
section
variable {w : World} {b : Nat} {T : TypeId} {cs : List Value}
theorem Blk.lt (h : Blk w b T cs) : b < w.heap.size := (Array.getElem?_eq_some_iff.1 h).1
theorem Blk.cell (h : Blk w b T cs) (i : Nat) {v : Value} (hi : cs[i]? = some v) : w.cell? ⟨b, i, none⟩ = some v := by
  unfold World.cell?
  rw [show (⟨b, i, none⟩ : Addr).block = b from rfl, h]
  simpa using hi
theorem Blk.frozen (h : Blk w b T cs) (i : Nat) : w.frozen? ⟨b, i, none⟩ = false := by
  unfold World.frozen?
  rw [show (⟨b, i, none⟩ : Addr).block = b from rfl, h]
  simp
theorem Blk.new (w : World) (cs : List Value) (T : TypeId) : Blk (w.alloc (.cells cs.toArray T)) w.heap.size T cs := by
  unfold Blk World.alloc; simp
theorem Blk.alloc (h : Blk w b T cs) (o : Obj) : Blk (w.alloc o) b T cs := by
  have := h.lt
  unfold Blk World.alloc
  rw [Array.getElem?_push, if_neg (by omega)]; exact h
theorem Blk.drew (h : Blk w b T cs) : Blk w.drew b T cs := h
theorem Blk.drewN (h : Blk w b T cs) (n : Nat) : Blk (w.drewN n) b T cs := h
theorem Blk.ne (h : Blk w b T cs) {a : Addr} (hn : b ≠ a.block) (v : Value) : Blk (w.setCell a v) b T cs := by
  unfold Blk; rw [Below.heap_setCell _ _ _ _ hn]; exact h
theorem Blk.set (h : Blk w b T cs) (i : Nat) (v : Value) : Blk (w.setCell ⟨b, i, none⟩ v) b T (cs.set i v) := by
  unfold Blk World.setCell
  simp only [Array.getElem?_modify]
  rw [if_pos trivial, h]
  simp
theorem Blk.set' (h : Blk w b T cs) (i : Nat) (v : Value) {cs' : List Value} (hc : cs.set i v = cs') : Blk (w.setCell ⟨b, i, none⟩ v) b T cs' := hc ▸ h.set i v
theorem Blk.below {B : Nat} {w' : World} (h : Blk w b T cs) (hb : Below B w w') (hB : b < B) : Blk w' b T cs := by
  unfold Blk; rw [hb.block b hB]; exact h
end
/-- the elements of a slice of integers that is only read. -/
def IntsAt (k : IntKind) (w : World) (a : Option Addr) (zs : List Int) : Prop := ∀ i (h : i < zs.length), ∃ b off, a = some ⟨b, off, none⟩ ∧ w.cell? ⟨b, off + i, none⟩ = some (.int k zs[i])
theorem IntsAt.below {k : IntKind} {w w' : World} {a : Option Addr} {zs : List Int} (h : IntsAt k w a zs) (hb : Below w.heap.size w w') : IntsAt k w' a zs := fun i hi => by
  obtain ⟨b, off, ha, hc⟩ := h i hi
  exact ⟨b, off, ha, by rw [hb.cell (World.block_lt_of_cell? w _ hc)]; exact hc⟩
theorem IntsAt.belowB {k : IntKind} {B : Nat} {w w' : World} {a : Option Addr} {zs : List Int} (h : IntsAt k w a zs) (hb : Below B w w') (hB : ∀ x, a = some x → x.block < B) : IntsAt k w' a zs := fun i hi => by
  obtain ⟨b, off, ha, hc⟩ := h i hi
  have hlt : b < B := hB _ ha
  have e := hb.cell (p := ⟨b, off + i, none⟩) hlt
  exact ⟨b, off, ha, e.trans hc⟩
theorem ret_int {k : IntKind} {a b : Int} (h : a = b) : Ending.returned (.int k a) = .returned (.int k b) := by rw [h]
theorem ret_bool {a b : Bool} (h : a = b) : Ending.returned (.bool a) = .returned (.bool b) := by rw [h]
/-- the world under a new name, of which only F is known. -/
theorem calls_gen {P : Program} {f : FuncId} {args : Array Value} {W : World} {R : Ending → World → Prop} (F : World → Prop) (hF : F W)
    (h : ∀ w1, F w1 → Calls P f args w1 R) : Calls P f args W R := h W hF
theorem wp_gen {P : Program} {c : Code} {Q : Exit → Act → World → Prop} {a : Act} {W : World} (F : World → Prop) (hF : F W)
    (h : ∀ w1, F w1 → c.wp P Q a w1) : c.wp P Q a W := h W hF
theorem Blk.new' (w : World) (cs : List Value) (T : TypeId) (b : Nat) (hb : b = w.heap.size) : Blk (w.alloc (.cells cs.toArray T)) b T cs := hb ▸ Blk.new w cs T
@[simp] theorem size_drewN (w : World) (n : Nat) : (w.drewN n).heap.size = w.heap.size := rfl
end Go.Proofs.Ytlofhcooppdkjaa
