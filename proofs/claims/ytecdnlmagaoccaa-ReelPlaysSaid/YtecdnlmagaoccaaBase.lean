/- Small general words for walks, over any program: what a call returned and left (Ret, RetB), a block that is known whole (Blk), and the laws on them. -/
import Derived.Test.YtecdnlmagaoccaaChecked
import Derived.Handy
import Derived.Below
import Derived.BigQuiet
import Derived.Outline
namespace Go.Proofs.Ytecdnlmagaoccaa
open Go.RowKit

theorem hid {p : Prop} (h : p) : Hid p := h
/-- the call returned v; the world is w2 but for draws. -/
def Ret (v : Value) (w2 : World) (e : Ending) (w' : World) : Prop := e = .returned v ∧ ∃ n, w' = w2.drewN n
/-- the call returned v; below block B nothing has changed. -/
def RetB (v : Value) (B : Nat) (w : World) (e : Ending) (w' : World) : Prop := e = .returned v ∧ Below B w w'

theorem setCell_self (w : World) (a : Addr) (v : Value) (h : w.cell? a = some v) : w.setCell a v = w := by
  have key : (w.setCell a v).heap = w.heap := by
    unfold World.setCell World.cell? at *
    apply Array.ext_getElem?
    intro i
    simp only [Array.getElem?_modify]
    split
    · subst_vars
      split at h
      · rename_i c e f hh
        rw [hh]
        simp only [Option.map_some]
        split at h
        · cases h
        · rename_i hs
          simp [hs]
          rw [show c.setIfInBounds a.off v = c from ?_]
          apply Array.ext_getElem?
          intro j
          rw [Array.getElem?_setIfInBounds]
          split
          · subst_vars; split
            · exact h.symm
            · rename_i hj; rw [Array.getElem?_eq_none (by omega)]
          · rfl
      · cases h
    · rfl
  cases w
  simp only [World.setCell] at *
  simp [key]

theorem below_drewN {B : Nat} {a w : World} (h : Below B a w) (n : Nat) : Below B a (w.drewN n) := ⟨h.os, h.tape, h.output, h.size, h.block⟩

theorem below_alloc' {B : Nat} {a w : World} (h : Below B a w) (hB : B ≤ a.heap.size) (o : Obj) : Below B a (w.alloc o) := h.alloc (Nat.le_trans hB h.size) o
/-- block b is known whole: its cells are cs, of the type T, none of them frozen. -/
def Blk (w : World) (b : Nat) (T : TypeId) (cs : List Value) : Prop := w.heap[b]? = some (.cells cs.toArray T (0, 0))
section
variable {w : World} {b : Nat} {T : TypeId} {cs : List Value}
theorem Blk.lt (h : Blk w b T cs) : b < w.heap.size := (Array.getElem?_eq_some_iff.1 h).1
theorem Blk.cell (h : Blk w b T cs) (i : Nat) {v : Value} (hi : cs[i]? = some v) : w.cell? ⟨b, i, none⟩ = some v := by
  unfold World.cell?
  rw [show (⟨b, i, none⟩ : Addr).block = b from rfl, h]
  simpa using hi
theorem Blk.frozen (h : Blk w b T cs) (i : Nat) : w.frozen? ⟨b, i, none⟩ = false := by
  unfold World.frozen?
  rw [show (⟨b, i, none⟩ : Addr).block = b from rfl, h]
  simp
theorem Blk.new (w : World) (cs : List Value) (T : TypeId) : Blk (w.alloc (.cells cs.toArray T)) w.heap.size T cs := by
  unfold Blk World.alloc; simp
theorem Blk.alloc (h : Blk w b T cs) (o : Obj) : Blk (w.alloc o) b T cs := by
  have := h.lt
  unfold Blk World.alloc
  rw [Array.getElem?_push, if_neg (by omega)]; exact h
theorem Blk.drew (h : Blk w b T cs) : Blk w.drew b T cs := h
theorem Blk.drewN (h : Blk w b T cs) (n : Nat) : Blk (w.drewN n) b T cs := h
theorem Blk.ne (h : Blk w b T cs) {a : Addr} (hn : b ≠ a.block) (v : Value) : Blk (w.setCell a v) b T cs := by
  unfold Blk; rw [Below.heap_setCell _ _ _ _ hn]; exact h
theorem Blk.set (h : Blk w b T cs) (i : Nat) (v : Value) : Blk (w.setCell ⟨b, i, none⟩ v) b T (cs.set i v) := by
  unfold Blk World.setCell
  simp only [Array.getElem?_modify]
  rw [if_pos trivial, h]
  simp
theorem Blk.set' (h : Blk w b T cs) (i : Nat) (v : Value) {cs' : List Value} (hc : cs.set i v = cs') : Blk (w.setCell ⟨b, i, none⟩ v) b T cs' := hc ▸ h.set i v
theorem Blk.below {B : Nat} {w' : World} (h : Blk w b T cs) (hb : Below B w w') (hB : b < B) : Blk w' b T cs := by
  unfold Blk; rw [hb.block b hB]; exact h
end
/-- the elements of a slice of integers that is only read. -/
def IntsAt (k : IntKind) (w : World) (a : Option Addr) (zs : List Int) : Prop := ∀ i (h : i < zs.length), ∃ b off, a = some ⟨b, off, none⟩ ∧ w.cell? ⟨b, off + i, none⟩ = some (.int k zs[i])
theorem IntsAt.below {k : IntKind} {w w' : World} {a : Option Addr} {zs : List Int} (h : IntsAt k w a zs) (hb : Below w.heap.size w w') : IntsAt k w' a zs := fun i hi => by
  obtain ⟨b, off, ha, hc⟩ := h i hi
  exact ⟨b, off, ha, by rw [hb.cell (World.block_lt_of_cell? w _ hc)]; exact hc⟩
theorem IntsAt.belowB {k : IntKind} {B : Nat} {w w' : World} {a : Option Addr} {zs : List Int} (h : IntsAt k w a zs) (hb : Below B w w') (hB : ∀ x, a = some x → x.block < B) : IntsAt k w' a zs := fun i hi => by
  obtain ⟨b, off, ha, hc⟩ := h i hi
  have hlt : b < B := hB _ ha
  have e := hb.cell (p := ⟨b, off + i, none⟩) hlt
  exact ⟨b, off, ha, e.trans hc⟩
theorem ret_int {k : IntKind} {a b : Int} (h : a = b) : Ending.returned (.int k a) = .returned (.int k b) := by rw [h]
theorem ret_bool {a b : Bool} (h : a = b) : Ending.returned (.bool a) = .returned (.bool b) := by rw [h]
/-- the world under a new name, of which only F is known. -/
theorem calls_gen {P : Program} {f : FuncId} {args : Array Value} {W : World} {R : Ending → World → Prop} (F : World → Prop) (hF : F W)
    (h : ∀ w1, F w1 → Calls P f args w1 R) : Calls P f args W R := h W hF
theorem wp_gen {P : Program} {c : Code} {Q : Exit → Act → World → Prop} {a : Act} {W : World} (F : World → Prop) (hF : F W)
    (h : ∀ w1, F w1 → c.wp P Q a w1) : c.wp P Q a W := h W hF
theorem Blk.new' (w : World) (cs : List Value) (T : TypeId) (b : Nat) (hb : b = w.heap.size) : Blk (w.alloc (.cells cs.toArray T)) b T cs := hb ▸ Blk.new w cs T
@[simp] theorem size_drewN (w : World) (n : Nat) : (w.drewN n).heap.size = w.heap.size := rfl

/-! ### A slice of the call's own, appended to -/
/-- t is a slice type over e; an element has 'size' cells and 'bytes' bytes. -/
structure SliceT (P : Program) (t e : TypeId) (size bytes : Nat) : Prop where
  ht : P.underlying t = some (.slice e)
  hi : ∃ i z, P.info? e = some i ∧ i.zero = some z ∧ i.size = size ∧ i.bytes = bytes ∧ z.cells.size = size
  pos : 0 < size
theorem grownBy_of_alloc {w w' : World} {o : Obj} {row : Option Nat} (h : (w.alloc o).grownBy w' row) : w.grownBy w' row :=
  ⟨h.os, h.tape, h.output, Nat.le_trans (by simp) h.size, fun k hk hr => (h.block k (by simp; omega) hr).trans (Below.heap_alloc w o k hk)⟩
section
variable {P : Program} {w : World} {a : Act} {o : Oper} {Q : Exit → Act → World → Prop}
theorem wp_app1 {K : Act → World → Prop} {t e : TypeId} {size bytes : Nat} (T : SliceT P t e size bytes) (s x : Operand)
    (ho : o.op = .call { callee := .builtin .append, args := #[s, x], argTypes := #[t, t] })
    (base : Nat) (v : Value) (n : Nat) (xs news : List Value) (hs : a.eval s = v) (hown : w.ownsRow base e size v n xs)
    {g : Nat} (hx : a.eval x = .slice (some ⟨g, 0, none⟩) 1 1) (hgs : g = w.heap.size) (hl : news.length = size) (h1 : ∀ u ∈ news, u.oneCell' = true)
    (hb : (n + 1) * bytes ≤ 140737488355328) (hn : n + 1 ≤ 140737488355328) (hbase : base ≤ w.heap.size)
    (h : ∀ v' w', w'.ownsRow base e size v' (n + 1) (xs ++ news) → w.grownBy w' v.ownBlock → v' ≠ .slice none 0 0 → K (a.put o.dst v') w') : o.wp P a (w.alloc (.cells news.toArray e)) K Q := by
  subst hgs
  obtain ⟨i, z, hi, hz, hsz, hby, hzs⟩ := T.hi
  refine wp_append_own _ s x t ho base e i z size bytes T.ht hi hz hsz hby hzs T.pos v n xs hs (hown.alloc _) ⟨w.heap.size, 0, none⟩ 1 1 news hx (by simpa using hl) ?_ h1 (by unfold maxLen; omega) hb (by simp; omega) ?_
  · intro j u hj
    have hB := Blk.new w news e
    have e1 : (⟨w.heap.size, 0, none⟩ : Addr).add j = ⟨w.heap.size, j, none⟩ := by unfold Addr.add; split <;> simp_all
    rw [e1]
    exact hB.cell j hj
  · intro v' w' ho' hg hv
    exact h v' w' ho' (grownBy_of_alloc hg) (fun he => by have := (hv.1 he).2; omega)
theorem wpList_app1 {ops : Array Oper} {rest : List Oper} {t e : TypeId} {size bytes : Nat} (T : SliceT P t e size bytes) (hgd : o.guard = none) (s x : Operand)
    (ho : o.op = .call { callee := .builtin .append, args := #[s, x], argTypes := #[t, t] })
    (base : Nat) (v : Value) (n : Nat) (xs news : List Value) (hs : a.eval s = v) (hown : w.ownsRow base e size v n xs)
    {g : Nat} (hx : a.eval x = .slice (some ⟨g, 0, none⟩) 1 1) (hgs : g = w.heap.size) (hl : news.length = size) (h1 : ∀ u ∈ news, u.oneCell' = true)
    (hb : (n + 1) * bytes ≤ 140737488355328) (hn : n + 1 ≤ 140737488355328) (hbase : base ≤ w.heap.size)
    (h : ∀ v' w', w'.ownsRow base e size v' (n + 1) (xs ++ news) → w.grownBy w' v.ownBlock → v' ≠ .slice none 0 0 → wpList P ops Q rest (a.put o.dst v') w') :
    wpList P ops Q (o :: rest) a (w.alloc (.cells news.toArray e)) :=
  wpList_plain hgd fun _ hK => wp_app1 T s x ho base v n xs news hs hown hx hgs hl h1 hb hn hbase fun v' w' h2 h3 h4 => hK _ _ (h v' w' h2 h3 h4)
end
/-- an owned row of integers, as it is read. -/
theorem own_ints {w : World} {base : Nat} {e : TypeId} {k : IntKind} {v : Value} {n : Nat} {zs : List Int} (h : w.ownsRow base e 1 v n (zs.map (Value.int k))) :
    n = zs.length ∧ ∃ a cap, v = .slice a zs.length cap ∧ IntsAt k w a zs ∧ ∀ x, a = some x → base ≤ x.block ∧ x.block < w.heap.size := by
  have hn : n = zs.length := by have := h.1; simpa using this.symm
  subst hn
  refine ⟨rfl, ?_⟩
  have hlt := h.lt
  have hc := fun g hg => h.cells (g := g) hg
  rcases h.2 with ⟨rfl, h0⟩ | ⟨g, cap, cur, rfl, hb, hg, _⟩
  · exact ⟨none, 0, by rw [h0], fun i hi => absurd hi (by omega), fun x hx => by cases hx⟩
  · refine ⟨some ⟨g, 0, none⟩, cap, rfl, fun i hi => ⟨g, 0, rfl, ?_⟩, fun x hx => by cases hx; exact hlt g rfl⟩
    have := hc g rfl i (.int k zs[i]) (by simp [hi])
    have e1 : (⟨g, 0, none⟩ : Addr).add i = ⟨g, 0 + i, none⟩ := by unfold Addr.add; split <;> simp_all
    rw [e1] at this
    exact this
theorem own_setCell {w : World} {base : Nat} {e : TypeId} {size : Nat} {v : Value} {n : Nat} {xs : List Value} (h : w.ownsRow base e size v n xs) {a : Addr} (ha : v.ownBlock ≠ some a.block) (u : Value) : (w.setCell a u).ownsRow base e size v n xs := by
  obtain ⟨h1, h2⟩ := h
  refine ⟨h1, ?_⟩
  rcases h2 with h2 | ⟨g, cap, cur, hv, hg, hh, r⟩
  · exact Or.inl h2
  · refine Or.inr ⟨g, cap, cur, hv, hg, ?_, r⟩
    rw [Below.heap_setCell _ _ _ _ (by intro e; apply ha; rw [hv, ← e]; rfl)]; exact hh
theorem own_setCell_lt {w : World} {base : Nat} {e : TypeId} {size : Nat} {v : Value} {n : Nat} {xs : List Value} (h : w.ownsRow base e size v n xs) {a : Addr} (ha : a.block < base) (u : Value) : (w.setCell a u).ownsRow base e size v n xs :=
  own_setCell h (fun e => by have := h.lt _ e; omega) u
theorem own_drewN {w : World} {base : Nat} {e : TypeId} {size : Nat} {v : Value} {n : Nat} {xs : List Value} (h : w.ownsRow base e size v n xs) (k : Nat) : (w.drewN k).ownsRow base e size v n xs := h
theorem Blk.grown {w w' : World} {b : Nat} {T : TypeId} {cs : List Value} {row : Option Nat} (h : Blk w b T cs) (hg : w.grownBy w' row) (hr : row ≠ some b) : Blk w' b T cs := by
  unfold Blk; rw [hg.block b h.lt (fun e => hr e.symm)]; exact h
theorem Blk.grown_own {w w' : World} {b : Nat} {T : TypeId} {cs : List Value} {base : Nat} {e : TypeId} {size : Nat} {v : Value} {n : Nat} {xs : List Value} (h : Blk w b T cs) (hg : w.grownBy w' v.ownBlock) (ho : w.ownsRow base e size v n xs) (hb : b < base) : Blk w' b T cs :=
  h.grown hg (fun e => by have := ho.lt _ e; omega)
theorem below_grown_own {w0 w w' : World} {B : Nat} {base : Nat} {e : TypeId} {size : Nat} {v : Value} {n : Nat} {xs : List Value} (h : Below B w0 w) (hg : w.grownBy w' v.ownBlock) (ho : w.ownsRow base e size v n xs) (hB : B ≤ w.heap.size) (hb : B ≤ base) : Below B w0 w' :=
  h.grown hg hB (fun k hk => by have := ho.lt _ hk; omega)
end Go.Proofs.Ytecdnlmagaoccaa
