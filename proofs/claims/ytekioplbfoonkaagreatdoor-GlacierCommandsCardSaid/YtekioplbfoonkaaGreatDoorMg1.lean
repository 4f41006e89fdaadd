/- Small general words for walks, over any program: what a call returned and left (Ret, RetB), a block that is known whole (Blk), and the laws on them. What an argument's values are, from its reading: one law for every plain type (integers, bools, strings, structs, slices of them). Rows that the call owns: an element read, an element written, an element taken out. Memory in parts: what is said of each part of the memory alone, and how a step changes one part and leaves the others. Arguments that came in: slices of one-cell elements, for good in the memory; rows of strings and of integers. append of whatever yields cells (a string's bytes ..) to a row that the call owns. append of cells that lie somewhere, in parts of the memory. max and min of two integers, as one operation: the value is Lean's own. Strings; the contract of Cut. -/
import Derived.Test.YtekioplbfoonkaaGreatDoorChecked
import Derived.Handy
import Derived.Below
import Derived.BigQuiet
import Derived.Outline
import Derived.ChangeArms
import Derived.Deep.Slices
import Derived.Deep.RegionLaw
import Derived.Deep.AppendSrc
import Derived.Deep.Upon
import Derived.Laws.IdiomStrings
namespace Go.Proofs.YtekioplbfoonkaaGreatDoor
open Go.RowKit

theorem hid {p : Prop} (h : p) : Hid p := h
/-- the call returned v; the world is w2 but for draws. -/
def Ret (v : Value) (w2 : World) (e : Ending) (w' : World) : Prop := e = .returned v ∧ ∃ n, w' = w2.drewN n
/-- the call returned v; below block B nothing has changed. -/
def RetB (v : Value) (B : Nat) (w : World) (e : Ending) (w' : World) : Prop := e = .returned v ∧ Below B w w'

theorem setCell_self (w : World) (a : Addr) (v : Value) (h : w.cell? a = some v) : w.setCell a v = w := by
  have key : (w.setCell a v).heap = w.heap := by
    unfold World.setCell World.cell? at *
    apply Array.ext_getElem?
    intro i
    simp only [Array.getElem?_modify]
    split
    · subst_vars
      split at h
      · rename_i c e f hh
        rw [hh]
        simp only [Option.map_some]
        split at h
        · cases h
        · rename_i hs
          simp [hs]
          rw [show c.setIfInBounds a.off v = c from ?_]
          apply Array.ext_getElem?
          intro j
          rw [Array.getElem?_setIfInBounds]
          split
          · subst_vars; split
            · exact h.symm
            · rename_i hj; rw [Array.getElem?_eq_none (by omega)]
          · rfl
      · cases h
    · rfl
  cases w
  simp only [World.setCell] at *
  simp [key]

theorem below_drewN {B : Nat} {a w : World} (h : Below B a w) (n : Nat) : Below B a (w.drewN n) := ⟨h.os, h.tape, h.output, h.size, h.block⟩

theorem below_alloc' {B : Nat} {a w : World} (h : Below B a w) (hB : B ≤ a.heap.size) (o : Obj) : Below B a (w.alloc o) := h.alloc (Nat.le_trans hB h.size) o
/-- block b is known whole: its cells are cs, of the type T, none of them frozen. -/
def Blk (w : World) (b : Nat) (T : TypeId) (cs : List Value) : Prop := w.heap[b]? = some (.cells cs.toArray T (0, 0))
section
variable {w : World} {b : Nat} {T : TypeId} {cs : List Value}
theorem Blk.lt (h : Blk w b T cs) : b < w.heap.size := (Array.getElem?_eq_some_iff.1 h).1
theorem Blk.cell (h : Blk w b T cs) (i : Nat) {v : Value} (hi : cs[i]? = some v) : w.cell? ⟨b, i, none⟩ = some v := by
  unfold World.cell?
  rw [show (⟨b, i, none⟩ : Addr).block = b from rfl, h]
  simpa using hi
theorem Blk.frozen (h : Blk w b T cs) (i : Nat) : w.frozen? ⟨b, i, none⟩ = false := by
  unfold World.frozen?
  rw [show (⟨b, i, none⟩ : Addr).block = b from rfl, h]
  simp
theorem Blk.new (w : World) (cs : List Value) (T : TypeId) : Blk (w.alloc (.cells cs.toArray T)) w.heap.size T cs := by
  unfold Blk World.alloc; simp
theorem Blk.alloc (h : Blk w b T cs) (o : Obj) : Blk (w.alloc o) b T cs := by
  have := h.lt
  unfold Blk World.alloc
  rw [Array.getElem?_push, if_neg (by omega)]; exact h
theorem Blk.drew (h : Blk w b T cs) : Blk w.drew b T cs := h
theorem Blk.drewN (h : Blk w b T cs) (n : Nat) : Blk (w.drewN n) b T cs := h
theorem Blk.ne (h : Blk w b T cs) {a : Addr} (hn : b ≠ a.block) (v : Value) : Blk (w.setCell a v) b T cs := by
  unfold Blk; rw [Below.heap_setCell _ _ _ _ hn]; exact h
theorem Blk.set (h : Blk w b T cs) (i : Nat) (v : Value) : Blk (w.setCell ⟨b, i, none⟩ v) b T (cs.set i v) := by
  unfold Blk World.setCell
  simp only [Array.getElem?_modify]
  rw [if_pos trivial, h]
  simp
theorem Blk.set' (h : Blk w b T cs) (i : Nat) (v : Value) {cs' : List Value} (hc : cs.set i v = cs') : Blk (w.setCell ⟨b, i, none⟩ v) b T cs' := hc ▸ h.set i v
theorem Blk.below {B : Nat} {w' : World} (h : Blk w b T cs) (hb : Below B w w') (hB : b < B) : Blk w' b T cs := by
  unfold Blk; rw [hb.block b hB]; exact h
end
/-- the elements of a slice of integers that is only read. -/
def IntsAt (k : IntKind) (w : World) (a : Option Addr) (zs : List Int) : Prop := ∀ i (h : i < zs.length), ∃ b off, a = some ⟨b, off, none⟩ ∧ w.cell? ⟨b, off + i, none⟩ = some (.int k zs[i])
theorem IntsAt.below {k : IntKind} {w w' : World} {a : Option Addr} {zs : List Int} (h : IntsAt k w a zs) (hb : Below w.heap.size w w') : IntsAt k w' a zs := fun i hi => by
  obtain ⟨b, off, ha, hc⟩ := h i hi
  exact ⟨b, off, ha, by rw [hb.cell (World.block_lt_of_cell? w _ hc)]; exact hc⟩
theorem IntsAt.belowB {k : IntKind} {B : Nat} {w w' : World} {a : Option Addr} {zs : List Int} (h : IntsAt k w a zs) (hb : Below B w w') (hB : ∀ x, a = some x → x.block < B) : IntsAt k w' a zs := fun i hi => by
  obtain ⟨b, off, ha, hc⟩ := h i hi
  have hlt : b < B := hB _ ha
  have e := hb.cell (p := ⟨b, off + i, none⟩) hlt
  exact ⟨b, off, ha, e.trans hc⟩
theorem ret_int {k : IntKind} {a b : Int} (h : a = b) : Ending.returned (.int k a) = .returned (.int k b) := by rw [h]
theorem ret_bool {a b : Bool} (h : a = b) : Ending.returned (.bool a) = .returned (.bool b) := by rw [h]
/-- the world under a new name, of which only F is known. -/
theorem calls_gen {P : Program} {f : FuncId} {args : Array Value} {W : World} {R : Ending → World → Prop} (F : World → Prop) (hF : F W)
    (h : ∀ w1, F w1 → Calls P f args w1 R) : Calls P f args W R := h W hF
theorem wp_gen {P : Program} {c : Code} {Q : Exit → Act → World → Prop} {a : Act} {W : World} (F : World → Prop) (hF : F W)
    (h : ∀ w1, F w1 → c.wp P Q a w1) : c.wp P Q a W := h W hF
theorem Blk.new' (w : World) (cs : List Value) (T : TypeId) (b : Nat) (hb : b = w.heap.size) : Blk (w.alloc (.cells cs.toArray T)) b T cs := hb ▸ Blk.new w cs T
@[simp] theorem size_drewN (w : World) (n : Nat) : (w.drewN n).heap.size = w.heap.size := rfl

/-! ### A slice of the call's own, appended to -/
/-- t is a slice type over e; an element has 'size' cells and 'bytes' bytes. -/
structure SliceT (P : Program) (t e : TypeId) (size bytes : Nat) : Prop where
  ht : P.underlying t = some (.slice e)
  hi : ∃ i z, P.info? e = some i ∧ i.zero = some z ∧ i.size = size ∧ i.bytes = bytes ∧ z.cells.size = size
  pos : 0 < size
theorem grownBy_of_alloc {w w' : World} {o : Obj} {row : Option Nat} (h : (w.alloc o).grownBy w' row) : w.grownBy w' row :=
  ⟨h.os, h.tape, h.output, Nat.le_trans (by simp) h.size, fun k hk hr => (h.block k (by simp; omega) hr).trans (Below.heap_alloc w o k hk)⟩
section
variable {P : Program} {w : World} {a : Act} {o : Oper} {Q : Exit → Act → World → Prop}
theorem wp_app1 {K : Act → World → Prop} {t e : TypeId} {size bytes : Nat} (T : SliceT P t e size bytes) (s x : Operand)
    (ho : o.op = .call { callee := .builtin .append, args := #[s, x], argTypes := #[t, t] })
    (base : Nat) (v : Value) (n : Nat) (xs news : List Value) (hs : a.eval s = v) (hown : w.ownsRow base e size v n xs)
    {g : Nat} (hx : a.eval x = .slice (some ⟨g, 0, none⟩) 1 1) (hgs : g = w.heap.size) (hl : news.length = size) (h1 : ∀ u ∈ news, u.oneCell' = true)
    (hb : (n + 1) * bytes ≤ 140737488355328) (hn : n + 1 ≤ 140737488355328) (hbase : base ≤ w.heap.size)
    (h : ∀ v' w', w'.ownsRow base e size v' (n + 1) (xs ++ news) → w.grownBy w' v.ownBlock → v' ≠ .slice none 0 0 → K (a.put o.dst v') w') : o.wp P a (w.alloc (.cells news.toArray e)) K Q := by
  subst hgs
  obtain ⟨i, z, hi, hz, hsz, hby, hzs⟩ := T.hi
  refine wp_append_own _ s x t ho base e i z size bytes T.ht hi hz hsz hby hzs T.pos v n xs hs (hown.alloc _) ⟨w.heap.size, 0, none⟩ 1 1 news hx (by simpa using hl) ?_ h1 (by unfold maxLen; omega) hb (by simp; omega) ?_
  · intro j u hj
    have hB := Blk.new w news e
    have e1 : (⟨w.heap.size, 0, none⟩ : Addr).add j = ⟨w.heap.size, j, none⟩ := by unfold Addr.add; split <;> simp_all
    rw [e1]
    exact hB.cell j hj
  · intro v' w' ho' hg hv
    exact h v' w' ho' (grownBy_of_alloc hg) (fun he => by have := (hv.1 he).2; omega)
theorem wpList_app1 {ops : Array Oper} {rest : List Oper} {t e : TypeId} {size bytes : Nat} (T : SliceT P t e size bytes) (hgd : o.guard = none) (s x : Operand)
    (ho : o.op = .call { callee := .builtin .append, args := #[s, x], argTypes := #[t, t] })
    (base : Nat) (v : Value) (n : Nat) (xs news : List Value) (hs : a.eval s = v) (hown : w.ownsRow base e size v n xs)
    {g : Nat} (hx : a.eval x = .slice (some ⟨g, 0, none⟩) 1 1) (hgs : g = w.heap.size) (hl : news.length = size) (h1 : ∀ u ∈ news, u.oneCell' = true)
    (hb : (n + 1) * bytes ≤ 140737488355328) (hn : n + 1 ≤ 140737488355328) (hbase : base ≤ w.heap.size)
    (h : ∀ v' w', w'.ownsRow base e size v' (n + 1) (xs ++ news) → w.grownBy w' v.ownBlock → v' ≠ .slice none 0 0 → wpList P ops Q rest (a.put o.dst v') w') :
    wpList P ops Q (o :: rest) a (w.alloc (.cells news.toArray e)) :=
  wpList_plain hgd fun _ hK => wp_app1 T s x ho base v n xs news hs hown hx hgs hl h1 hb hn hbase fun v' w' h2 h3 h4 => hK _ _ (h v' w' h2 h3 h4)
end
/-- an owned row of integers, as it is read. -/
theorem own_ints {w : World} {base : Nat} {e : TypeId} {k : IntKind} {v : Value} {n : Nat} {zs : List Int} (h : w.ownsRow base e 1 v n (zs.map (Value.int k))) :
    n = zs.length ∧ ∃ a cap, v = .slice a zs.length cap ∧ IntsAt k w a zs ∧ ∀ x, a = some x → base ≤ x.block ∧ x.block < w.heap.size := by
  have hn : n = zs.length := by have := h.1; simpa using this.symm
  subst hn
  refine ⟨rfl, ?_⟩
  have hlt := h.lt
  have hc := fun g hg => h.cells (g := g) hg
  rcases h.2 with ⟨rfl, h0⟩ | ⟨g, cap, cur, rfl, hb, hg, _⟩
  · exact ⟨none, 0, by rw [h0], fun i hi => absurd hi (by omega), fun x hx => by cases hx⟩
  · refine ⟨some ⟨g, 0, none⟩, cap, rfl, fun i hi => ⟨g, 0, rfl, ?_⟩, fun x hx => by cases hx; exact hlt g rfl⟩
    have := hc g rfl i (.int k zs[i]) (by simp [hi])
    have e1 : (⟨g, 0, none⟩ : Addr).add i = ⟨g, 0 + i, none⟩ := by unfold Addr.add; split <;> simp_all
    rw [e1] at this
    exact this
theorem own_setCell {w : World} {base : Nat} {e : TypeId} {size : Nat} {v : Value} {n : Nat} {xs : List Value} (h : w.ownsRow base e size v n xs) {a : Addr} (ha : v.ownBlock ≠ some a.block) (u : Value) : (w.setCell a u).ownsRow base e size v n xs := by
  obtain ⟨h1, h2⟩ := h
  refine ⟨h1, ?_⟩
  rcases h2 with h2 | ⟨g, cap, cur, hv, hg, hh, r⟩
  · exact Or.inl h2
  · refine Or.inr ⟨g, cap, cur, hv, hg, ?_, r⟩
    rw [Below.heap_setCell _ _ _ _ (by intro e; apply ha; rw [hv, ← e]; rfl)]; exact hh
theorem own_setCell_lt {w : World} {base : Nat} {e : TypeId} {size : Nat} {v : Value} {n : Nat} {xs : List Value} (h : w.ownsRow base e size v n xs) {a : Addr} (ha : a.block < base) (u : Value) : (w.setCell a u).ownsRow base e size v n xs :=
  own_setCell h (fun e => by have := h.lt _ e; omega) u
theorem own_drewN {w : World} {base : Nat} {e : TypeId} {size : Nat} {v : Value} {n : Nat} {xs : List Value} (h : w.ownsRow base e size v n xs) (k : Nat) : (w.drewN k).ownsRow base e size v n xs := h
theorem Blk.grown {w w' : World} {b : Nat} {T : TypeId} {cs : List Value} {row : Option Nat} (h : Blk w b T cs) (hg : w.grownBy w' row) (hr : row ≠ some b) : Blk w' b T cs := by
  unfold Blk; rw [hg.block b h.lt (fun e => hr e.symm)]; exact h
theorem Blk.grown_own {w w' : World} {b : Nat} {T : TypeId} {cs : List Value} {base : Nat} {e : TypeId} {size : Nat} {v : Value} {n : Nat} {xs : List Value} (h : Blk w b T cs) (hg : w.grownBy w' v.ownBlock) (ho : w.ownsRow base e size v n xs) (hb : b < base) : Blk w' b T cs :=
  h.grown hg (fun e => by have := ho.lt _ e; omega)
theorem below_grown_own {w0 w w' : World} {B : Nat} {base : Nat} {e : TypeId} {size : Nat} {v : Value} {n : Nat} {xs : List Value} (h : Below B w0 w) (hg : w.grownBy w' v.ownBlock) (ho : w.ownsRow base e size v n xs) (hB : B ≤ w.heap.size) (hb : B ≤ base) : Below B w0 w' :=
  h.grown hg hB (fun k hk => by have := ho.lt _ hk; omega)
end Go.Proofs.YtekioplbfoonkaaGreatDoor
namespace Go.Proofs.YtekioplbfoonkaaGreatDoor
open Go.RowKit

/-- what the cells of a value of type t are, to a depth d. -/
def OkT (P : Program) (w : World) : Nat → TypeId → List Value → Prop
  | 0, _, _ => True
  | d + 1, t, cs => match P.underlying t with
    | some .bool => ∃ b, cs = [.bool b]
    | some (.int k) => ∃ n, cs = [.int k n] ∧ (Lit.int k n).wf = true
    | some .string => ∃ s : ByteArray, cs = [.string s] ∧ s.size ≤ maxLen
    | some (.slice e) => ∃ a len cap, cs = [.slice a len cap] ∧ len ≤ cap ∧ cap ≤ maxLen ∧
        (0 < P.cellsOf e → ∀ i, i < cap → ∃ b off cs', a = some ⟨b, off, none⟩ ∧ cs'.length = P.cellsOf e ∧ OkT P w d e cs' ∧ ∀ j (hj : j < cs'.length), w.cell? ⟨b, off + (i * P.cellsOf e + j), none⟩ = some cs'[j])
    | some (.struct fs) => cs.length = P.cellsOf t ∧ ∀ (i : Nat) (f : Field), fs[i]? = some f → OkT P w d f.type ((cs.drop f.offset).take (P.cellsOf f.type))
    | _ => True

theorem cells_at {w : World} {base : Nat} {a : Addr} {n : Nat} {cs : List Value} (h : w.cells? base a n = some cs) :
    cs.length = n ∧ ∀ j (hj : j < cs.length), w.cell? (a.add j) = some cs[j] := by
  obtain ⟨h1, h2, h3⟩ := World.cells?_some h
  refine ⟨h2, fun j hj => ?_⟩
  have := h3 j (by omega)
  rw [List.getElem?_eq_getElem hj] at this
  exact this

theorem spot_of_cell {w : World} {a : Addr} {v : Value} (h : w.cell? a = some v) : a.spot = none := by
  cases hs : a.spot with
  | none => rfl
  | some x => simp [World.cell?, hs] at h; split at h <;> simp at h

theorem okT_of_trod {H : Type} {enc : TypeId × Value → H} {P : Program} {w : World} {base : Nat} {held : Bool} :
    ∀ (fuel : Nat) (d : Nat) (t : TypeId) (cs : List Value) {x : DataW H × List MemPlace},
      DataW.trod enc P w base (fun _ => true) held fuel t cs = some x → OkT P w d t cs := by
  intro fuel
  induction fuel with
  | zero => intro d t cs x h; simp [DataW.trod] at h
  | succ n ih =>
    intro d t cs x h
    cases d with
    | zero => trivial
    | succ d =>
      unfold OkT
      split
      · rename_i ht; obtain ⟨b, hb, _⟩ := DataW.trod_bool ht h; exact ⟨b, hb⟩
      · rename_i k ht; obtain ⟨m, hm, _, hw⟩ := DataW.trod_int ht h; exact ⟨m, hm, hw⟩
      · rename_i ht; obtain ⟨s, hs, _, hl⟩ := DataW.trod_string ht h; exact ⟨s, hs, hl⟩
      · rename_i e ht
        rcases DataW.trod_slice ht h with ⟨rfl, _⟩ | ⟨a, len, cap, elems, rest, m, hf, rfl, _, hb, hl, hm, hlen, hel, hsp, _⟩
        · exact ⟨none, 0, 0, rfl, Nat.le_refl _, Nat.zero_le _, fun _ i hi => absurd hi (Nat.not_lt_zero _)⟩
        · obtain rfl : n = m := by omega
          refine ⟨some a, len, cap, rfl, hl, hm, fun hsz i hi => ?_⟩
          obtain ⟨hr1, hr2⟩ := hsp rfl
          have key : ∀ i, i < cap → ∃ cs', w.cells? base (a.add (i * P.cellsOf e)) (P.cellsOf e) = some cs' ∧ ∃ y, DataW.trod enc P w base (fun _ => true) held n e cs' = some y := by
            intro i hi
            by_cases hil : i < len
            · have := hel i hil
              rw [List.getElem?_eq_getElem (by omega)] at this
              obtain ⟨cs', h1, h2⟩ := Option.bind_eq_some_iff.1 this
              exact ⟨cs', h1, _, h2⟩
            · have := hr2 (i - len) (by omega)
              rw [show len + (i - len) = i by omega, List.getElem?_eq_getElem (by omega)] at this
              obtain ⟨cs', h1, h2⟩ := Option.bind_eq_some_iff.1 this
              exact ⟨cs', h1, _, h2⟩
          have hspot : a.spot = none := by
            obtain ⟨cs', h1, _⟩ := key 0 (by omega)
            obtain ⟨h2, h3⟩ := cells_at h1
            have := spot_of_cell (h3 0 (by omega))
            simpa [Addr.add] using this
          obtain ⟨cs', h1, y, h2⟩ := key i hi
          obtain ⟨h3, h4⟩ := cells_at h1
          obtain ⟨b, off, spot⟩ := a
          simp only at hspot
          subst hspot
          refine ⟨b, off, cs', rfl, h3, ih d e cs' h2, fun j hj => ?_⟩
          have h5 := h4 j hj
          rw [Deep.add_add] at h5
          rw [← h5]
          congr 1
          unfold Addr.add
          split <;> simp_all
      · rename_i fs ht
        obtain ⟨xs, m, hf, _, hlen, hxs, hfl⟩ := DataW.trod_struct ht h
        obtain rfl : n = m := by omega
        refine ⟨hlen, fun i f hfi => ?_⟩
        have h1 := hfl i f hfi
        have hi : i < fs.size := (Array.getElem?_eq_some_iff.1 hfi).1
        rw [List.getElem?_eq_getElem (by omega)] at h1
        exact ih d _ _ h1
      · trivial

/-- a slice of integers that came in. -/
theorem okT_ints {P : Program} {w : World} {d : Nat} {t e : TypeId} {k : IntKind} {a : Option Addr} {len cap : Nat} (ht : P.underlying t = some (.slice e)) (he : P.underlying e = some (.int k)) (hc : P.cellsOf e = 1)
    (h : OkT P w (d + 2) t [.slice a len cap]) : ∃ zs : List Int, zs.length = cap ∧ len ≤ cap ∧ cap ≤ maxLen ∧ IntsAt k w a zs ∧ ∀ z ∈ zs, (Lit.int k z).wf = true := by
  unfold OkT at h
  rw [ht] at h
  obtain ⟨a', len', cap', heq, hl, hm, hx⟩ := h
  simp only [List.cons.injEq, Value.slice.injEq, and_true] at heq
  obtain ⟨rfl, rfl, rfl⟩ := heq
  have hx' : ∀ i, i < cap → ∃ z : Int, (∃ b off, a = some ⟨b, off, none⟩ ∧ w.cell? ⟨b, off + i, none⟩ = some (.int k z)) ∧ (Lit.int k z).wf = true := by
    intro i hi
    obtain ⟨b, off, cs', ha, hcl, hok, hcell⟩ := hx (by omega) i hi
    unfold OkT at hok
    rw [he] at hok
    obtain ⟨z, hz, hw⟩ := hok
    subst hz
    have := hcell 0 (by simp)
    rw [hc] at this
    exact ⟨z, ⟨b, off, ha, by simpa using this⟩, hw⟩
  obtain ⟨f, hf⟩ := Deep.choose_lt hx'
  refine ⟨(List.range cap).map f, by simp, hl, hm, fun i hi => ?_, fun z hz => ?_⟩
  · have hi' : i < cap := by simpa using hi
    obtain ⟨b, off, h1, h2⟩ := (hf i hi').1
    exact ⟨b, off, h1, by simpa using h2⟩
  · obtain ⟨i, hi, rfl⟩ := List.mem_map.1 hz
    exact (hf i (List.mem_range.1 hi)).2
theorem wf_i64 {n : Int} (h : (Lit.int .i64 n).wf = true) : -9223372036854775808 ≤ n ∧ n ≤ 9223372036854775807 := by
  simp [Lit.wf, IntKind.min, IntKind.max, IntKind.bits, IntKind.signed] at h; omega
theorem wf_u64 {n : Int} (h : (Lit.int .u64 n).wf = true) : 0 ≤ n ∧ n ≤ 18446744073709551615 := by
  simp [Lit.wf, IntKind.min, IntKind.max, IntKind.bits, IntKind.signed] at h; omega
theorem wf_u8 {n : Int} (h : (Lit.int .u8 n).wf = true) : 0 ≤ n ∧ n ≤ 255 := by
  simp [Lit.wf, IntKind.min, IntKind.max, IntKind.bits, IntKind.signed] at h; omega
theorem IntsAt.ne {k : IntKind} {w : World} {a : Option Addr} {zs : List Int} (h : IntsAt k w a zs) {p : Addr} (hp : ∀ x, a = some x → x.block ≠ p.block) (v : Value) : IntsAt k (w.setCell p v) a zs := fun i hi => by
  obtain ⟨b, off, ha, hc⟩ := h i hi
  refine ⟨b, off, ha, ?_⟩
  have := hp _ ha
  rw [World.cell?_setCell_other _ _ _ _ (by intro e; apply this; rw [e])]
  exact hc
theorem IntsAt.drewN {k : IntKind} {w : World} {a : Option Addr} {zs : List Int} (h : IntsAt k w a zs) (n : Nat) : IntsAt k (w.drewN n) a zs := h
theorem Blk.ints {k : IntKind} {w : World} {b : Nat} {T : TypeId} {zs : List Int} (h : Blk w b T (zs.map (Value.int k))) : IntsAt k w (some ⟨b, 0, none⟩) zs := fun i hi =>
  ⟨b, 0, rfl, by rw [Nat.zero_add]; exact h.cell i (by simp [hi])⟩
section
variable {P : Program} {w : World} {d : Nat} {t : TypeId}
theorem okT_slice {e : TypeId} {sz : Nat} {a : Option Addr} {len cap : Nat} (ht : P.underlying t = some (.slice e)) (hc : P.cellsOf e = sz) (h0 : 0 < sz) (h : OkT P w (d + 1) t [.slice a len cap]) :
    len ≤ cap ∧ cap ≤ 9223372036854775807 ∧ ∀ i, i < cap → ∃ b off cs', a = some ⟨b, off, none⟩ ∧ b < w.heap.size ∧ cs'.length = sz ∧ OkT P w d e cs' ∧ ∀ j (hj : j < cs'.length), w.cell? ⟨b, off + (i * sz + j), none⟩ = some cs'[j] := by
  unfold OkT at h
  rw [ht] at h
  obtain ⟨a', len', cap', heq, hl1, hl2, hx⟩ := h
  simp only [List.cons.injEq, Value.slice.injEq, and_true] at heq
  obtain ⟨rfl, rfl, rfl⟩ := heq
  rw [hc] at hx
  unfold maxLen at hl2
  refine ⟨hl1, by omega, fun i hi => ?_⟩
  obtain ⟨b, off, cs, ha, hlen, hok, hcell⟩ := hx h0 i hi
  exact ⟨b, off, cs, ha, World.block_lt_of_cell? _ _ (hcell 0 (by omega)), hlen, hok, hcell⟩
theorem okT_sub {fs : Array Field} {cs : List Value} (i : Nat) {f : Field} (ht : P.underlying t = some (.struct fs)) (hf : fs[i]? = some f) (h : OkT P w (d + 1) t cs) : OkT P w d f.type ((cs.drop f.offset).take (P.cellsOf f.type)) := by
  unfold OkT at h
  rw [ht] at h
  exact h.2 i f hf
theorem okT_len {fs : Array Field} {cs : List Value} (ht : P.underlying t = some (.struct fs)) (h : OkT P w (d + 1) t cs) : cs.length = P.cellsOf t := by
  unfold OkT at h
  rw [ht] at h
  exact h.1
theorem okT_fld {fs : Array Field} {cs : List Value} (i : Nat) {T o : Nat} {f : Field} (ht : P.underlying t = some (.struct fs)) (hf : fs[i]? = some f) (hT : f.type = T) (ho : f.offset = o) (hc : P.cellsOf T = 1) (hlt : o < cs.length) (h : OkT P w (d + 1) t cs) :
    OkT P w d T [cs[o]] := by
  subst hT ho
  have := okT_sub i ht hf h
  rw [hc] at this
  rw [show (cs.drop f.offset).take 1 = [cs[f.offset]] from by rw [List.drop_eq_getElem_cons hlt]; rfl] at this
  exact this
theorem okT_int {k : IntKind} {v : Value} (ht : P.underlying t = some (.int k)) (h : OkT P w (d + 1) t [v]) : ∃ n, v = .int k n ∧ (Lit.int k n).wf = true := by
  unfold OkT at h
  rw [ht] at h
  obtain ⟨n, hn, hw⟩ := h
  exact ⟨n, by simpa using hn, hw⟩
theorem okT_bool {v : Value} (ht : P.underlying t = some .bool) (h : OkT P w (d + 1) t [v]) : ∃ b, v = .bool b := by
  unfold OkT at h
  rw [ht] at h
  obtain ⟨n, hn⟩ := h
  exact ⟨n, by simpa using hn⟩
theorem okT_str {v : Value} (ht : P.underlying t = some .string) (h : OkT P w (d + 1) t [v]) : ∃ s : ByteArray, v = .string s ∧ s.size ≤ maxLen := by
  unfold OkT at h
  rw [ht] at h
  obtain ⟨n, hn, hw⟩ := h
  exact ⟨n, by simpa using hn, hw⟩
end
/-- one operation, by its value: to keep a split out of the walk. -/
theorem wpList_val {P : Program} {ops : Array Oper} {rest : List Oper} {o : Oper} {a : Act} {w : World} {Q : Exit → Act → World → Prop} (hgd : o.guard = none) (v : Value)
    (hrun : (execOp a.eval o).run P w = .ok (.value v) w) (h : wpList P ops Q rest (a.put o.dst v) w) : wpList P ops Q (o :: rest) a w :=
  wpList_plain hgd fun K hK => by unfold Oper.wp; rw [hrun]; exact hK _ _ h
end Go.Proofs.YtekioplbfoonkaaGreatDoor
namespace Go.Proofs.YtekioplbfoonkaaGreatDoor
open Go.RowKit
section
variable {w : World} {base : Nat} {e : TypeId} {sz : Nat} {v : Value} {n : Nat} {xs : List Value}
/-- an owned row that has elements, opened. -/
theorem own_open (h : w.ownsRow base e sz v n xs) (h0 : 0 < n) : ∃ g cap cur, v = .slice (some ⟨g, 0, none⟩) n cap ∧ base ≤ g ∧ w.heap[g]? = some (.cells cur e (0, 0)) ∧ n ≤ cap ∧ cap ≤ maxLen ∧ cur.size = cap * sz ∧ cur.toList.take (n * sz) = xs := by
  rcases h.2 with ⟨_, hn⟩ | h
  · omega
  · exact h
theorem own_shape (h : w.ownsRow base e sz v n xs) : ∃ a cap, v = .slice a n cap ∧ n ≤ cap ∧ cap ≤ 9223372036854775807 := by
  rcases h.2 with ⟨h, hn⟩ | ⟨g, cap, cur, h, _, _, hc, hm, _⟩
  · exact ⟨none, 0, by rw [h, hn], by omega, by omega⟩
  · unfold maxLen at hm; exact ⟨_, cap, h, hc, by omega⟩
theorem own_cell {g cap : Nat} (h : w.ownsRow base e sz (.slice (some ⟨g, 0, none⟩) n cap) n xs) (i : Nat) {u : Value} (hi : xs[i]? = some u) : w.cell? ⟨g, i, none⟩ = some u := by
  have := h.cells (g := g) rfl i u hi
  have e1 : (⟨g, 0, none⟩ : Addr).add i = ⟨g, i, none⟩ := by unfold Addr.add; split <;> simp_all
  rw [e1] at this
  exact this
theorem own_frozen {g cap : Nat} (h : w.ownsRow base e sz (.slice (some ⟨g, 0, none⟩) n cap) n xs) (i : Nat) : w.frozen? ⟨g, i, none⟩ = false := by
  rcases h.2 with ⟨hv, _⟩ | ⟨g', cap', cur, hv, _, hh, _⟩
  · cases hv
  · cases hv
    unfold World.frozen?
    rw [show (⟨g, i, none⟩ : Addr).block = g from rfl, hh]
    simp
/-- one cell of the row written. -/
theorem own_set {g cap : Nat} (h : w.ownsRow base e sz (.slice (some ⟨g, 0, none⟩) n cap) n xs) (i : Nat) (u : Value) : (w.setCell ⟨g, i, none⟩ u).ownsRow base e sz (.slice (some ⟨g, 0, none⟩) n cap) n (xs.set i u) := by
  refine ⟨by rw [List.length_set]; exact h.1, ?_⟩
  rcases h.2 with ⟨hv, _⟩ | ⟨g', cap', cur, hv, hb, hh, hnc, hcm, hcs, ht⟩
  · cases hv
  · cases hv
    refine Or.inr ⟨g, cap, cur.setIfInBounds i u, rfl, hb, ?_, hnc, hcm, by simpa using hcs, ?_⟩
    · unfold World.setCell
      simp only [Array.getElem?_modify]
      rw [if_pos trivial, hh]
      simp
    · rw [Array.toList_setIfInBounds, List.take_set, ht]
end

theorem own_mono {w : World} {base base' : Nat} {e : TypeId} {sz : Nat} {v : Value} {n : Nat} {xs : List Value} (h : w.ownsRow base e sz v n xs) (hb : base' ≤ base) : w.ownsRow base' e sz v n xs := by
  obtain ⟨h1, h2⟩ := h
  refine ⟨h1, ?_⟩
  rcases h2 with h2 | ⟨g, cap, cur, hv, hg, r⟩
  · exact Or.inl h2
  · exact Or.inr ⟨g, cap, cur, hv, by omega, r⟩
/-- where the slice lies after an append: where it lay, or in a new block. -/
def Moved (w : World) (v v' : Value) : Prop := ∀ k, v'.ownBlock = some k → v.ownBlock = some k ∨ w.heap.size ≤ k
section
variable {P : Program} {w : World} {a : Act} {o : Oper} {Q : Exit → Act → World → Prop}
theorem wp_app1m {K : Act → World → Prop} {t e : TypeId} {size bytes : Nat} (T : SliceT P t e size bytes) (s x : Operand)
    (ho : o.op = .call { callee := .builtin .append, args := #[s, x], argTypes := #[t, t] })
    (base : Nat) (v : Value) (n : Nat) (xs news : List Value) (hs : a.eval s = v) (hown : w.ownsRow base e size v n xs)
    {g : Nat} (hx : a.eval x = .slice (some ⟨g, 0, none⟩) 1 1) (hgs : g = w.heap.size) (hl : news.length = size) (h1 : ∀ u ∈ news, u.oneCell' = true)
    (hb : (n + 1) * bytes ≤ 140737488355328) (hn : n + 1 ≤ 140737488355328) (hbase : base ≤ w.heap.size)
    (h : ∀ v' w', w'.ownsRow base e size v' (n + 1) (xs ++ news) → w.grownBy w' v.ownBlock → v' ≠ .slice none 0 0 → Moved w v v' → K (a.put o.dst v') w') : o.wp P a (w.alloc (.cells news.toArray e)) K Q := by
  rcases hown.2 with ⟨hv, h0⟩ | ⟨g0, cap, cur, hv, hg, hh, hnc, hcm, hcs, htk⟩
  · subst hv
    have hown' : w.ownsRow w.heap.size e size (.slice none 0 0) n xs := ⟨hown.1, Or.inl ⟨rfl, h0⟩⟩
    refine wp_app1 T s x ho w.heap.size _ n xs news hs hown' hx hgs hl h1 hb hn (Nat.le_refl _) fun v' w' h2 h3 h4 => h v' w' (own_mono h2 hbase) h3 h4 fun k hk => Or.inr (h2.lt k hk).1
  · subst hv
    by_cases hroom : n + 1 ≤ cap
    · obtain ⟨ti, z, hti, hz, hsz, hby, hzs⟩ := T.hi
      subst hgs
      have hB := Blk.new w news e
      have hh' : (w.alloc (.cells news.toArray e)).heap[g0]? = some (.cells cur e (0, 0)) := by
        rw [Below.heap_alloc _ _ _ (Array.getElem?_eq_some_iff.1 hh).1]; exact hh
      have hnews : ∀ j u, news[j]? = some u → (w.alloc (.cells news.toArray e)).cell? ((⟨w.heap.size, 0, none⟩ : Addr).add j) = some u := by
        intro j u hj
        have e1 : (⟨w.heap.size, 0, none⟩ : Addr).add j = ⟨w.heap.size, j, none⟩ := by unfold Addr.add; split <;> simp_all
        rw [e1]; exact hB.cell j hj
      have hfit : n * size + news.length ≤ cur.size := by rw [hl, hcs]; have := Nat.mul_le_mul_right size hroom; rw [Nat.add_mul] at this; omega
      have hr := run_append_room (P := P) (w.alloc (.cells news.toArray e)) t o.type e ti T.ht hti g0 n cap cur hh' ⟨w.heap.size, 0, none⟩ 1 1 news (by rw [hsz]; omega) hnews h1 hroom (by rw [hsz]; exact hfit)
      rw [hsz] at hr
      obtain ⟨R, hR⟩ : ∃ R : List Value, cur.toList.take (n * size) ++ news ++ cur.toList.drop (n * size + news.length) = R := ⟨_, rfl⟩
      rw [hR] at hr
      have hK := h (.slice (some ⟨g0, 0, none⟩) (n + 1) cap) ((w.alloc (.cells news.toArray e)).setRow g0 R.toArray)
        ⟨by rw [List.length_append, hown.1, hl, Nat.add_mul]; omega, Or.inr ⟨g0, cap, R.toArray, rfl, hg, setRow_heap _ g0 cur R.toArray e (0, 0) hh', hroom, hcm, by
          subst hR
          simp only [List.size_toArray, List.length_append, List.length_take, List.length_drop, Array.length_toList]
          omega, by
          subst hR
          simp only []
          rw [htk, show (n + 1) * size = (xs ++ news).length from by rw [List.length_append, hown.1, hl, Nat.add_mul]; omega]
          exact List.take_left⟩⟩
        (grownBy_of_alloc ⟨rfl, rfl, rfl, by simp, fun k hk hne => setRow_other _ g0 k R.toArray (fun e => hne (by rw [e]; rfl))⟩) (fun e => by cases e) (fun k hk => Or.inl hk)
      unfold Oper.wp execOp
      simp only [ho, resolve, invoke, builtin, Sem.run_bind, Sem.run_pure, Result.andThen_ok, List.map_toArray, List.map_cons, List.map_nil, hs, hx, hr]
      exact hK
    · obtain ⟨ti, z, hti, hz, hsz, hby, hzs⟩ := T.hi
      subst hgs
      have hB := Blk.new w news e
      have hnews : ∀ j u, news[j]? = some u → (w.alloc (.cells news.toArray e)).cell? ((⟨w.heap.size, 0, none⟩ : Addr).add j) = some u := by
        intro j u hj
        have e1 : (⟨w.heap.size, 0, none⟩ : Addr).add j = ⟨w.heap.size, j, none⟩ := by unfold Addr.add; split <;> simp_all
        rw [e1]; exact hB.cell j hj
      have holds : ∀ j u, xs[j]? = some u → (w.alloc (.cells news.toArray e)).cell? ((⟨g0, 0, none⟩ : Addr).add j) = some u := (hown.alloc (.cells news.toArray e)).cells (g := g0) rfl
      subst hsz hby
      have hr := run_append_grow (P := P) (w.alloc (.cells news.toArray e)) t o.type e ti z T.ht hti hz ⟨g0, 0, none⟩ n cap xs hown.1 holds ⟨w.heap.size, 0, none⟩ 1 1 news (by omega) hnews (by omega) (by omega) (growslice_fits (by omega) hb)
      have h63 : n + 1 ≤ maxLen := by unfold maxLen; omega
      have hge := grownCap_ge (w.alloc (.cells news.toArray e)) (n + 1) cap e
      have hcm2 : grownCap (w.alloc (.cells news.toArray e)) (n + 1) cap e ≤ maxLen := grownCap_le_maxLen _ (n + 1) cap e h63
      have hK := h (.slice (some ⟨(w.alloc (.cells news.toArray e)).heap.size, 0, none⟩) (n + 1) (grownCap (w.alloc (.cells news.toArray e)) (n + 1) cap e))
        ((w.alloc (.cells news.toArray e)).drew.alloc (.cells (xs.toArray ++ news.toArray ++ Builtin.zeroCells z.cells (grownCap (w.alloc (.cells news.toArray e)) (n + 1) cap e - (n + 1))) e))
        ⟨by rw [List.length_append, hown.1, hl, Nat.add_mul]; omega, Or.inr ⟨_, _, _, rfl, by simp; omega, _root_.Go.heap_alloc_new _ _, hge, hcm2, by
          simp only [Array.size_append, List.size_toArray, size_zeroCells, hzs, hown.1, hl]
          rw [← Nat.succ_mul, ← Nat.add_mul]; congr 1; omega, by
          simp only [Array.toList_append, List.append_assoc]
          rw [← List.append_assoc, show (n + 1) * ti.size = (xs ++ news).length from by rw [List.length_append, hown.1, hl, Nat.add_mul]; omega]
          exact List.take_left⟩⟩
        (grownBy_of_alloc ⟨rfl, rfl, rfl, by simp, fun k hk _ => Below.heap_alloc (w.alloc (.cells news.toArray e)).drew _ k hk⟩) (fun e => by cases e) (fun k hk => by simp [Value.ownBlock] at hk; right; omega)
      unfold Oper.wp execOp
      simp only [ho, resolve, invoke, builtin, Sem.run_bind, Sem.run_pure, Result.andThen_ok, List.map_toArray, List.map_cons, List.map_nil, hs, hx, hr]
      exact hK
end

/-- an element taken out of a row: what 'append(l[:i], l[i+1:]...)' does. -/
theorem run_delete {P : Program} {t ty e : TypeId} {sz bytes : Nat} (T : SliceT P t e sz bytes) {w : World} {base n cap g i : Nat} {xs : List Value}
    (h : w.ownsRow base e sz (.slice (some ⟨g, 0, none⟩) n cap) n xs) (hi : i < n) (h1 : ∀ u ∈ xs, u.oneCell' = true) (ad : Option Addr) (c : Nat) (had : i + 1 < n → ad = some ⟨g, (i + 1) * sz, none⟩) (had' : ¬ i + 1 < n → ∃ x, ad = some x) :
    ∃ w', (Builtin.append_ #[t, t] ty #[.slice (some ⟨g, 0, none⟩) i cap, .slice ad (n - (i + 1)) c]).run P w = .ok (.slice (some ⟨g, 0, none⟩) (n - 1) cap) w' ∧
      w'.ownsRow base e sz (.slice (some ⟨g, 0, none⟩) (n - 1) cap) (n - 1) (xs.take (i * sz) ++ xs.drop ((i + 1) * sz)) ∧ w.grownBy w' (some g) := by
  obtain ⟨ti, z, hti, _, hsz, _, _⟩ := T.hi
  have hlen := h.1
  rcases h.2 with ⟨hv, _⟩ | ⟨g', cap', cur, hv, hb, hh, hnc, hcm, hcs, ht⟩
  · cases hv
  cases hv
  have hmul : (i + 1) * sz ≤ n * sz := Nat.mul_le_mul_right _ (by omega)
  have hmul2 : i * sz + sz = (i + 1) * sz := by rw [Nat.add_mul]; omega
  have hdl : (xs.drop ((i + 1) * sz)).length = (n - (i + 1)) * sz := by rw [List.length_drop, hlen, ← Nat.sub_mul]
  have hcl : n * sz ≤ cap * sz := Nat.mul_le_mul_right _ hnc
  obtain ⟨x, hx⟩ : ∃ x, ad = some x := by
    by_cases hn : i + 1 < n
    · exact ⟨_, had hn⟩
    · exact had' hn
  have hnews : ∀ j u, (xs.drop ((i + 1) * sz))[j]? = some u → w.cell? (x.add j) = some u := by
    intro j u hj
    by_cases hn : i + 1 < n
    · have hx' : x = ⟨g, (i + 1) * sz, none⟩ := by have := had hn; rw [hx] at this; exact Option.some.inj this
      have e1 : x.add j = ⟨g, (i + 1) * sz + j, none⟩ := by rw [hx']; unfold Addr.add; split <;> simp_all
      rw [e1]
      rw [List.getElem?_drop] at hj
      exact own_cell h _ hj
    · have : (xs.drop ((i + 1) * sz)).length = 0 := by rw [hdl, show n - (i + 1) = 0 by omega]; simp
      have hn' : xs.drop ((i + 1) * sz) = [] := List.eq_nil_of_length_eq_zero this
      rw [hn'] at hj; cases hj
  have hrun := run_append_room (P := P) w t ty e ti T.ht hti g i cap cur hh x (n - (i + 1)) c (xs.drop ((i + 1) * sz)) (by rw [hsz]; exact hdl) hnews
    (fun u hu => h1 u (List.mem_of_mem_drop hu)) (by omega) (by rw [hsz, hdl, hcs, ← Nat.add_mul]; exact Nat.mul_le_mul_right _ (by omega))
  rw [hsz] at hrun
  subst hx
  obtain ⟨R, hR⟩ : ∃ R : List Value, cur.toList.take (i * sz) ++ xs.drop ((i + 1) * sz) ++ cur.toList.drop (i * sz + (xs.drop ((i + 1) * sz)).length) = R := ⟨_, rfl⟩
  rw [hR] at hrun
  refine ⟨w.setRow g R.toArray, ?_, ⟨?_, Or.inr ⟨g, cap, R.toArray, rfl, hb, setRow_heap w g cur R.toArray e (0, 0) hh, by omega, hcm, ?_, ?_⟩⟩, ⟨rfl, rfl, rfl, by simp, fun k hk hne => setRow_other w g k R.toArray (fun e => hne (by rw [e]))⟩⟩
  · rw [hrun, show i + (n - (i + 1)) = n - 1 by omega]
  · rw [List.length_append, List.length_take, hdl, hlen, Nat.min_eq_left (by omega), ← Nat.add_mul]
    congr 1; omega
  · subst hR
    simp only [List.size_toArray, List.length_append, List.length_take, List.length_drop, Array.length_toList, hdl]
    rw [Nat.min_eq_left (by omega)]
    have : (n - (i + 1)) * sz = n * sz - (i + 1) * sz := Nat.sub_mul _ _ _
    omega
  · have e1 : cur.toList.take (i * sz) = xs.take (i * sz) := by rw [← ht, List.take_take, Nat.min_eq_left (by omega)]
    have e2 : (n - 1) * sz = (xs.take (i * sz) ++ xs.drop ((i + 1) * sz)).length := by
      rw [List.length_append, List.length_take, hdl, hlen, Nat.min_eq_left (by omega), ← Nat.add_mul]; congr 1; omega
    subst hR
    simp only []
    rw [e1, e2]
    exact List.take_left
/-- .. as one step of a region that draws its order. -/
theorem step_delete {P : Program} {ops : Array Oper} {o : Oper} {a : Act} {w : World} {K : Act → World → Prop} {Q : Exit → Act → World → Prop} {E : Prop} {t e : TypeId} {sz bytes : Nat} (T : SliceT P t e sz bytes)
    (hg : o.guard = none) (s x : Operand) (hop : o.op = Op.call { callee := Callee.builtin Builtin.append, args := #[s, x], argTypes := #[t, t] })
    (base n cap g i : Nat) (xs : List Value) (h : w.ownsRow base e sz (.slice (some ⟨g, 0, none⟩) n cap) n xs) (hi : i < n) (h1 : ∀ u ∈ xs, u.oneCell' = true) (ad : Option Addr) (c m : Nat) (hm : m = n - (i + 1)) (had : i + 1 < n → ad = some ⟨g, (i + 1) * sz, none⟩) (had' : ¬ i + 1 < n → ∃ x, ad = some x)
    (hs : a.eval s = .slice (some ⟨g, 0, none⟩) i cap) (hx : a.eval x = .slice ad m c)
    (hK : ∀ w', w'.ownsRow base e sz (.slice (some ⟨g, 0, none⟩) (n - 1) cap) (n - 1) (xs.take (i * sz) ++ xs.drop ((i + 1) * sz)) → w.grownBy w' (some g) → K (a.put o.dst (.slice (some ⟨g, 0, none⟩) (n - 1) cap)) w') :
    if Region.wanted o (yielded ops a.tmps) = true then Oper.wp P o a w K Q else E := by
  have hw : Region.wanted o (yielded ops a.tmps) = true := by simp [Region.wanted, hg]
  rw [if_pos hw]
  subst hm
  obtain ⟨w', hr, ho, hgr⟩ := run_delete (ty := o.type) T h hi h1 ad c had had'
  unfold Oper.wp execOp
  simp only [hop, resolve, invoke, builtin, Sem.run_bind, Sem.run_pure, Result.andThen_ok, List.map_toArray, List.map_cons, List.map_nil, hs, hx, hr]
  exact hK w' ho hgr
/-- an append of one element, as one step of a region that draws its order. -/
theorem step_app1 {P : Program} {ops : Array Oper} {o : Oper} {a : Act} {w : World} {K : Act → World → Prop} {Q : Exit → Act → World → Prop} {E : Prop} {t e : TypeId} {size bytes : Nat} (T : SliceT P t e size bytes)
    (hg : o.guard = none) (s x : Operand) (hop : o.op = Op.call { callee := Callee.builtin Builtin.append, args := #[s, x], argTypes := #[t, t] })
    (base : Nat) (v : Value) (n : Nat) (xs news : List Value) (hs : a.eval s = v) (hown : w.ownsRow base e size v n xs)
    {g : Nat} (hx : a.eval x = .slice (some ⟨g, 0, none⟩) 1 1) (hgs : g = w.heap.size) (hl : news.length = size) (h1 : ∀ u ∈ news, u.oneCell' = true)
    (hb : (n + 1) * bytes ≤ 140737488355328) (hn : n + 1 ≤ 140737488355328) (hbase : base ≤ w.heap.size)
    (hK : ∀ v' w', w'.ownsRow base e size v' (n + 1) (xs ++ news) → w.grownBy w' v.ownBlock → v' ≠ .slice none 0 0 → Moved w v v' → K (a.put o.dst v') w') :
    if Region.wanted o (yielded ops a.tmps) = true then Oper.wp P o a (w.alloc (.cells news.toArray e)) K Q else E := by
  have hw : Region.wanted o (yielded ops a.tmps) = true := by simp [Region.wanted, hg]
  rw [if_pos hw]
  exact wp_app1m T s x hop base v n xs news hs hown hx hgs hl h1 hb hn hbase hK
/-- rows of structs: the cells of element i. -/
theorem flat_get {α : Type} {sz : Nat} (f : α → List Value) (hf : ∀ x, (f x).length = sz) : ∀ (l : List α) (i j : Nat) (hi : i < l.length), j < sz → (l.flatMap f)[i * sz + j]? = (f l[i])[j]?
  | [], i, j, hi, _ => absurd hi (Nat.not_lt_zero _)
  | x :: r, 0, j, _, hj => by
    rw [List.flatMap_cons, Nat.zero_mul, Nat.zero_add, List.getElem?_append_left (by rw [hf]; exact hj)]; rfl
  | x :: r, i + 1, j, hi, hj => by
    have hi' : i < r.length := by simpa using hi
    rw [List.flatMap_cons, List.getElem?_append_right (by rw [hf, Nat.add_mul]; omega), hf, show (i + 1) * sz + j - sz = i * sz + j by rw [Nat.add_mul]; omega, flat_get f hf r i j hi' hj]
    rfl
theorem flat_len {α : Type} {sz : Nat} (f : α → List Value) (hf : ∀ x, (f x).length = sz) (l : List α) : (l.flatMap f).length = l.length * sz := by
  induction l with
  | nil => simp
  | cons x r ih => rw [List.flatMap_cons, List.length_append, ih, hf, List.length_cons, Nat.add_mul]; omega
theorem flat_take {α : Type} {sz : Nat} (f : α → List Value) (hf : ∀ x, (f x).length = sz) : ∀ (l : List α) (i : Nat), (l.flatMap f).take (i * sz) = (l.take i).flatMap f
  | [], i => by simp
  | x :: r, 0 => by simp
  | x :: r, i + 1 => by
    rw [List.flatMap_cons, List.take_succ_cons, List.flatMap_cons, List.take_append, List.take_of_length_le (by rw [hf, Nat.add_mul]; omega), hf, show (i + 1) * sz - sz = i * sz by rw [Nat.add_mul]; omega, flat_take f hf r i]
theorem flat_drop {α : Type} {sz : Nat} (f : α → List Value) (hf : ∀ x, (f x).length = sz) : ∀ (l : List α) (i : Nat), (l.flatMap f).drop (i * sz) = (l.drop i).flatMap f
  | [], i => by simp
  | x :: r, 0 => by simp
  | x :: r, i + 1 => by
    rw [List.flatMap_cons, List.drop_succ_cons, List.drop_append, List.drop_of_length_le (by rw [hf, Nat.add_mul]; omega), hf, show (i + 1) * sz - sz = i * sz by rw [Nat.add_mul]; omega, flat_drop f hf r i]; rfl
theorem flat_set {α : Type} {sz : Nat} (f : α → List Value) (hf : ∀ x, (f x).length = sz) : ∀ (l : List α) (i j : Nat) (hi : i < l.length) (u : Value) (y : α), j < sz → f y = (f l[i]).set j u → (l.flatMap f).set (i * sz + j) u = (l.set i y).flatMap f
  | [], i, j, hi, _, _, _, _ => absurd hi (Nat.not_lt_zero _)
  | x :: r, 0, j, _, u, y, hj, hy => by
    rw [List.flatMap_cons, List.set_cons_zero, List.flatMap_cons, Nat.zero_mul, Nat.zero_add, List.set_append_left _ _ (by rw [hf]; exact hj), hy]; rfl
  | x :: r, i + 1, j, hi, u, y, hj, hy => by
    have hi' : i < r.length := by simpa using hi
    rw [List.flatMap_cons, List.set_cons_succ, List.flatMap_cons, List.set_append_right _ _ (by rw [hf, Nat.add_mul]; omega), hf, show (i + 1) * sz + j - sz = i * sz + j by rw [Nat.add_mul]; omega, flat_set f hf r i j hi' u y hj hy]

/-- of the blocks that were there only those in S may have changed. -/
structure Mod (S : Nat → Prop) (w w' : World) : Prop where
  os : w'.os = w.os
  tape : w'.tape = w.tape
  output : w'.output = w.output
  size : w.heap.size ≤ w'.heap.size
  block : ∀ k, k < w.heap.size → ¬ S k → w'.heap[k]? = w.heap[k]?
section
variable {S S' : Nat → Prop} {a b c w w' : World}
theorem Mod.refl (S : Nat → Prop) (w : World) : Mod S w w := ⟨rfl, rfl, rfl, Nat.le_refl _, fun _ _ _ => rfl⟩
theorem Mod.trans (h : Mod S a b) (k : Mod S' b c) (hs : ∀ k, k < a.heap.size → S' k → S k) : Mod S a c :=
  ⟨k.os.trans h.os, k.tape.trans h.tape, k.output.trans h.output, Nat.le_trans h.size k.size, fun i hi hn =>
    (k.block i (Nat.lt_of_lt_of_le hi h.size) (fun hx => hn (hs i hi hx))).trans (h.block i hi hn)⟩
theorem Mod.mono (h : Mod S a b) (hs : ∀ k, k < a.heap.size → S k → S' k) : Mod S' a b := ⟨h.os, h.tape, h.output, h.size, fun i hi hn => h.block i hi (fun hx => hn (hs i hi hx))⟩
theorem Mod.of_below (h : Below w.heap.size w w') : Mod S w w' := ⟨h.os, h.tape, h.output, h.size, fun k hk _ => h.block k hk⟩
theorem Mod.thenBelow (h : Mod S a b) (k : Below b.heap.size b c) : Mod S a c := h.trans (Mod.of_below k) (fun _ _ hx => hx)
theorem Mod.below {B : Nat} (h : Mod S w w') (hs : ∀ k, k < w.heap.size → S k → B ≤ k) (hB : B ≤ w.heap.size) : Below B w w' := ⟨h.os, h.tape, h.output, h.size, fun k hk => h.block k (by omega) (fun hx => by have := hs k (by omega) hx; omega)⟩
theorem Mod.thenMod {B : Nat} {w0 : World} (h0 : Below B w0 w) (h : Mod S w w') (hs : ∀ k, k < w.heap.size → S k → B ≤ k) (hB : B ≤ w0.heap.size) : Below B w0 w' := h0.trans (h.below hs (Nat.le_trans hB h0.size))
theorem Mod.drewN (h : Mod S a b) (n : Nat) : Mod S a (b.drewN n) := ⟨h.os, h.tape, h.output, h.size, h.block⟩
theorem Mod.drew (h : Mod S a b) : Mod S a b.drew := ⟨h.os, h.tape, h.output, h.size, h.block⟩
theorem Mod.alloc (h : Mod S a b) (o : Obj) : Mod S a (b.alloc o) := ⟨h.os, h.tape, h.output, Nat.le_trans h.size (by simp), fun k hk hn => (Below.heap_alloc b o k (Nat.lt_of_lt_of_le hk h.size)).trans (h.block k hk hn)⟩
theorem Mod.setCell (h : Mod S a b) {p : Addr} (hp : p.block < a.heap.size → S p.block) (u : Value) : Mod S a (b.setCell p u) := ⟨h.os, h.tape, h.output, by simpa using h.size, fun k hk hn => by
  rw [Below.heap_setCell _ _ _ _ (fun e => hn (by subst e; exact hp hk))]; exact h.block k hk hn⟩
theorem Mod.grown (h : Mod S a b) {row : Option Nat} (hg : b.grownBy c row) (hr : ∀ k, row = some k → k < a.heap.size → S k) : Mod S a c :=
  ⟨hg.os.trans h.os, hg.tape.trans h.tape, hg.output.trans h.output, Nat.le_trans h.size hg.size, fun k hk hn => (hg.block k (Nat.lt_of_lt_of_le hk h.size) (fun e => hn (hr k e.symm hk))).trans (h.block k hk hn)⟩
theorem Blk.mod {k : Nat} {T : TypeId} {cs : List Value} (h : Blk w k T cs) (hm : Mod S w w') (hn : ¬ S k) : Blk w' k T cs := by
  unfold Blk; rw [hm.block k h.lt hn]; exact h
theorem own_mod {base : Nat} {e : TypeId} {sz : Nat} {v : Value} {n : Nat} {xs : List Value} (h : w.ownsRow base e sz v n xs) (hm : Mod S w w') (hn : ∀ k, v.ownBlock = some k → ¬ S k) : w'.ownsRow base e sz v n xs := by
  obtain ⟨h1, h2⟩ := h
  refine ⟨h1, ?_⟩
  rcases h2 with h2 | ⟨g, cap, cur, hv, hg, hh, r⟩
  · exact Or.inl h2
  · exact Or.inr ⟨g, cap, cur, hv, hg, by rw [hm.block g (Array.getElem?_eq_some_iff.1 hh).1 (hn g (by rw [hv]; rfl))]; exact hh, r⟩
theorem own_below {base : Nat} {e : TypeId} {sz : Nat} {v : Value} {n : Nat} {xs : List Value} (h : w.ownsRow base e sz v n xs) (hm : Below w.heap.size w w') : w'.ownsRow base e sz v n xs :=
  own_mod (S := fun _ => False) h (Mod.of_below hm) (fun _ _ hx => hx)
theorem Moved.refl (w : World) (v : Value) : Moved w v v := fun _ h => Or.inl h
theorem Moved.trans {v1 v2 v3 : Value} (h : Moved a v1 v2) (k : Moved b v2 v3) (hs : a.heap.size ≤ b.heap.size) : Moved a v1 v3 := fun x hx => by
  rcases k x hx with h1 | h1
  · exact h x h1
  · right; omega
end
end Go.Proofs.YtekioplbfoonkaaGreatDoor
namespace Go.Proofs.YtekioplbfoonkaaGreatDoor
open Go.RowKit
set_option linter.unusedVariables false
set_option maxRecDepth 100000

/-- a part of the memory. -/
abbrev Part := Nat → Option Obj
def Part.le (g h : Part) : Prop := ∀ b o, g b = some o → h b = some o
def Part.minus (h g : Part) : Part := fun b => if (g b).isSome then none else h b
def wpart (w : World) : Part := fun b => w.heap[b]?
/-- what is said of a part. -/
abbrev HP := Part → Prop
/-- each of L holds of a part of its own. -/
def sepL : List HP → HP
  | [], _ => True
  | A :: L, h => ∃ g, Part.le g h ∧ A g ∧ sepL L (h.minus g)
def Part.emp : Part := fun _ => none
theorem Part.emp_le (h : Part) : Part.emp.le h := fun _ _ e => by cases e
theorem Part.le_minus_emp (h : Part) : h.le (h.minus Part.emp) := fun b o e => by
  unfold Part.minus Part.emp; simpa using e
theorem Part.le_refl (g : Part) : g.le g := fun _ _ h => h
theorem Part.le_trans {a b c : Part} (h : a.le b) (k : b.le c) : a.le c := fun x o e => k x o (h x o e)
theorem Part.minus_le (h g : Part) : (h.minus g).le h := fun b o e => by
  unfold Part.minus at e; split at e
  · cases e
  · exact e
theorem Part.minus_mono {h h' : Part} (k : h.le h') (g : Part) : (h.minus g).le (h'.minus g) := fun b o e => by
  unfold Part.minus at *; split at e
  · cases e
  · rename_i hn; rw [if_neg hn]; exact k b o e
theorem Part.minus_none {h g : Part} {b : Nat} {o : Obj} (e : (h.minus g) b = some o) : g b = none := by
  unfold Part.minus at e; split at e
  · cases e
  · rename_i hn; simpa using hn
theorem Part.minus_some {h g : Part} {b : Nat} {o : Obj} (e : h b = some o) (hn : g b = none) : (h.minus g) b = some o := by
  unfold Part.minus; rw [hn]; simpa using e
theorem sepL_mono : ∀ (L : List HP) {h h' : Part}, h.le h' → sepL L h → sepL L h'
  | [], _, _, _, _ => trivial
  | A :: L, h, h', k, ⟨g, hg, hA, hL⟩ => ⟨g, Part.le_trans hg k, hA, sepL_mono L (Part.minus_mono k g) hL⟩
theorem sepL_swap {A B : HP} {L : List HP} {h : Part} : sepL (A :: B :: L) h → sepL (B :: A :: L) h := by
  rintro ⟨gA, hA, a, gB, hB, b, hL⟩
  refine ⟨gB, Part.le_trans hB (Part.minus_le _ _), b, gA, fun x o e => Part.minus_some (hA x o e) ?_, a, ?_⟩
  · cases hx : gB x with
    | none => rfl
    | some u => have := Part.minus_none (hB x u hx); rw [this] at e; cases e
  · refine sepL_mono L ?_ hL
    intro x o e
    have e1 := Part.minus_none e
    have e2 := Part.minus_le _ _ x o e
    have e3 := Part.minus_none e2
    exact Part.minus_some (Part.minus_some (Part.minus_le _ _ x o e2) e1) e3
theorem sepL_pick : ∀ (i : Nat) {L : List HP} {A : HP} {h : Part}, L[i]? = some A → sepL L h → sepL (A :: L.eraseIdx i) h
  | _, [], _, _, e, _ => by simp at e
  | 0, B :: L, A, h, e, s => by simp at e; subst e; simpa using s
  | i + 1, B :: L, A, h, e, s => by
    obtain ⟨g, hg, hB, hL⟩ := s
    have := sepL_pick i (L := L) (A := A) (by simpa using e) hL
    have s2 : sepL (B :: A :: L.eraseIdx i) h := ⟨g, hg, hB, this⟩
    simpa using sepL_swap s2
theorem sepL_flat : ∀ (M : List HP) {L : List HP} {h : Part}, sepL (sepL M :: L) h → sepL (M ++ L) h
  | [], L, h, ⟨g, hg, _, hL⟩ => sepL_mono L (Part.minus_le _ _) hL
  | A :: M, L, h, ⟨g, hg, ⟨gA, hA, a, hM⟩, hL⟩ => by
    refine ⟨gA, Part.le_trans hA hg, a, sepL_flat M ⟨g.minus gA, Part.minus_mono hg gA, hM, sepL_mono L ?_ hL⟩⟩
    intro b o e
    have e1 := Part.minus_none e
    refine Part.minus_some (Part.minus_some (Part.minus_le _ _ b o e) ?_) ?_
    · cases hx : gA b with
      | none => rfl
      | some u => rw [hA b u hx] at e1; cases e1
    · cases hx : (g.minus gA) b with
      | none => rfl
      | some u => rw [Part.minus_le _ _ b u hx] at e1; cases e1
theorem sepL_join : ∀ (M : List HP) {L : List HP} {h : Part}, sepL (M ++ L) h → sepL (sepL M :: L) h
  | [], L, h, s => ⟨Part.emp, Part.emp_le _, trivial, sepL_mono L (Part.le_minus_emp _) s⟩
  | A :: M, L, h, ⟨gA, hA, a, s⟩ => by
    obtain ⟨g, hg, hM, hL⟩ := sepL_join M s
    refine ⟨fun b => (gA b).or (g b), ?_, ⟨gA, ?_, a, sepL_mono M ?_ hM⟩, sepL_mono L ?_ hL⟩
    · intro b o e
      cases hx : gA b with
      | none => simp only [hx, Option.none_or] at e; exact Part.minus_le _ _ b o (hg b o e)
      | some u => simp only [hx, Option.some_or] at e; rw [← e]; exact hA b u hx
    · intro b o e
      show (gA b).or (g b) = some o
      rw [e]; rfl
    · intro b o e
      have := Part.minus_none (hg b o e)
      refine Part.minus_some ?_ this
      show (gA b).or (g b) = some o
      rw [this, e]; rfl
    · intro b o e
      have e1 := Part.minus_none e
      have e2 := Part.minus_none (Part.minus_le _ _ b o e)
      refine Part.minus_some (Part.minus_le _ _ b o (Part.minus_le _ _ b o e)) ?_
      show (gA b).or (g b) = none
      rw [e2, e1]; rfl

/-- since w0 the streams are as they were; I lies in the memory and stays for good; beside it L, each in a part of its own. -/
structure Sat (w0 : World) (I : Part) (L : List HP) (w : World) : Prop where
  os : w.os = w0.os
  tape : w.tape = w0.tape
  output : w.output = w0.output
  size : w0.heap.size ≤ w.heap.size
  imm : I.le (wpart w)
  sep : sepL L ((wpart w).minus I)
theorem wpart_lt {w : World} {b : Nat} {o : Obj} (h : wpart w b = some o) : b < w.heap.size := (Array.getElem?_eq_some_iff.1 h).1
theorem wpart_none (w : World) {b : Nat} (h : w.heap.size ≤ b) : wpart w b = none := by unfold wpart; exact Array.getElem?_eq_none (by omega)
section
variable {w0 w w' : World} {I : Part} {L M : List HP} {A A' B : HP}
theorem Sat.start (w : World) : Sat w (wpart w) [] w := ⟨rfl, rfl, rfl, Nat.le_refl _, Part.le_refl _, trivial⟩
theorem Sat.mapL (h : Sat w0 I L w) (k : ∀ g, sepL L g → sepL M g) : Sat w0 I M w := ⟨h.os, h.tape, h.output, h.size, h.imm, k _ h.sep⟩
theorem Sat.swap (h : Sat w0 I (A :: B :: L) w) : Sat w0 I (B :: A :: L) w := h.mapL fun _ => sepL_swap
/-- the i-th part ahead. -/
theorem Sat.pick (h : Sat w0 I L w) (i : Nat) (hA : L[i]? = some A := by rfl) (hL : L.eraseIdx i = M := by rfl) : Sat w0 I (A :: M) w := h.mapL fun _ s => hL ▸ sepL_pick i hA s
theorem Sat.drop (h : Sat w0 I (A :: L) w) : Sat w0 I L w := h.mapL fun g ⟨a, ha, _, s⟩ => sepL_mono L (Part.minus_le _ _) s
theorem Sat.flat (h : Sat w0 I (sepL M :: L) w) : Sat w0 I (M ++ L) w := h.mapL fun _ s => sepL_flat M s
theorem Sat.join (h : Sat w0 I (M ++ L) w) : Sat w0 I (sepL M :: L) w := h.mapL fun _ s => sepL_join M s
theorem Sat.weaken (h : Sat w0 I (A :: L) w) (k : ∀ g, A g → B g) : Sat w0 I (B :: L) w := h.mapL fun _ ⟨g, hg, a, s⟩ => ⟨g, hg, k g a, s⟩
theorem Sat.elim (h : Sat w0 I (A :: L) w) : ∃ g, A g ∧ g.le (wpart w) ∧ ∀ B : HP, B g → Sat w0 I (B :: L) w := by
  obtain ⟨g, hg, a, s⟩ := h.sep
  exact ⟨g, a, Part.le_trans hg (Part.minus_le _ _), fun B b => ⟨h.os, h.tape, h.output, h.size, h.imm, g, hg, b, s⟩⟩
theorem Sat.of (h : Sat w0 I (M ++ L) w) (k : ∀ g, sepL M g → B g) : Sat w0 I (B :: L) w := h.join.weaken k
theorem Sat.add (h : Sat w0 I L w) : Sat w0 I ((fun _ => True) :: L) w := h.mapL fun g s => ⟨Part.emp, Part.emp_le _, trivial, sepL_mono L (Part.le_minus_emp _) s⟩
/-- what a step of one part does. -/
theorem Sat.change (h : Sat w0 I (A :: L) w) (k : ∀ g, A g → g.le (wpart w) → ∃ S : Nat → Prop, (∀ b, S b → b < w.heap.size → (g b).isSome = true) ∧ Mod S w w' ∧
    ∀ g' : Part, (∀ b, ((g b).isSome = true ∨ w.heap.size ≤ b) → g' b = w'.heap[b]?) → A' g') : Sat w0 I (A' :: L) w' := by
  classical
  obtain ⟨g, hg, a, s⟩ := h.sep
  obtain ⟨S, hS, hm, hA'⟩ := k g a (Part.le_trans hg (Part.minus_le _ _))
  have keep : ∀ b o, wpart w b = some o → g b = none → wpart w' b = some o := fun b o e en => by
    unfold wpart at *
    rw [hm.block b (wpart_lt e) (fun hs => by have := hS b hs (wpart_lt e); rw [en] at this; cases this)]; exact e
  have gI : ∀ b o, g b = some o → I b = none := fun b o e => Part.minus_none (hg b o e)
  have Ig : ∀ b o, I b = some o → g b = none := fun b o e => by
    cases hx : g b with
    | none => rfl
    | some u => rw [gI b u hx] at e; cases e
  refine ⟨hm.os.trans h.os, hm.tape.trans h.tape, hm.output.trans h.output, Nat.le_trans h.size hm.size, fun b o e => keep b o (h.imm b o e) (Ig b o e), ?_⟩
  refine ⟨fun b => if (g b).isSome = true ∨ w.heap.size ≤ b then w'.heap[b]? else none, ?_, hA' _ (fun b hb => if_pos hb), ?_⟩
  · intro b o e
    replace e : (if (g b).isSome = true ∨ w.heap.size ≤ b then w'.heap[b]? else none) = some o := e
    split at e
    · rename_i hb
      refine Part.minus_some e ?_
      rcases hb with hb | hb
      · cases hx : g b with
        | none => rw [hx] at hb; cases hb
        | some u => exact gI b u hx
      · cases hx : I b with
        | none => rfl
        | some u => have := wpart_lt (h.imm b u hx); omega
    · cases e
  · refine sepL_mono L ?_ s
    intro b o e
    have e1 := Part.minus_none e
    have e2 := Part.minus_le _ _ b o e
    have e3 := Part.minus_none e2
    have e4 := Part.minus_le _ _ b o e2
    refine Part.minus_some (Part.minus_some (keep b o e4 e1) e3) ?_
    have := wpart_lt e4
    simp [e1]; omega
theorem Sat.mod (h : Sat w0 I L w) (hm : Mod (fun _ => False) w w') : Sat w0 I L w' :=
  (h.add.change (A' := fun _ => True) fun g _ _ => ⟨fun _ => False, fun _ hx => hx.elim, hm, fun _ _ => trivial⟩).drop
theorem Sat.below (h : Sat w0 I L w) (hb : Below w.heap.size w w') : Sat w0 I L w' := h.mod (Mod.of_below hb)
theorem Sat.drewN (h : Sat w0 I L w) (n : Nat) : Sat w0 I L (w.drewN n) := ⟨h.os, h.tape, h.output, h.size, h.imm, h.sep⟩
theorem Sat.drew (h : Sat w0 I L w) : Sat w0 I L w.drew := ⟨h.os, h.tape, h.output, h.size, h.imm, h.sep⟩
theorem Sat.allocO (h : Sat w0 I L w) (o : Obj) : Sat w0 I ((fun g => g w.heap.size = some o) :: L) (w.alloc o) :=
  h.add.change fun g _ _ => ⟨fun _ => False, fun _ hx => hx.elim, (Mod.refl _ _).alloc o, fun g' hg => by
    rw [hg _ (Or.inr (Nat.le_refl _))]; unfold World.alloc; simp⟩
theorem Sat.alloc_ (h : Sat w0 I L w) (o : Obj) : Sat w0 I L (w.alloc o) := (h.allocO o).drop

/-- block b is this one, whole. -/
def blk (b : Nat) (T : TypeId) (cs : List Value) : HP := fun g => g b = some (.cells cs.toArray T (0, 0))
variable {b c : Nat} {T U : TypeId} {cs ds : List Value}
theorem Sat.isBlk (h : Sat w0 I (blk b T cs :: L) w) : Blk w b T cs := by
  obtain ⟨g, hg, hle, _⟩ := h.elim
  exact hle _ _ hg
theorem Sat.alloc (h : Sat w0 I L w) {vs : Array Value} (hv : cs.toArray = vs) (hb : b = w.heap.size) : Sat w0 I (blk b T cs :: L) (w.alloc (.cells vs T)) := by
  subst hb hv; exact h.allocO _
theorem Sat.set (h : Sat w0 I (blk b T cs :: L) w) (i : Nat) (v : Value) {cs' : List Value} (hc : cs.set i v = cs') : Sat w0 I (blk b T cs' :: L) (w.setCell ⟨b, i, none⟩ v) := by
  have hB := h.isBlk
  refine h.change fun g hg hle => ⟨fun k => k = b, fun k hk _ => by subst hk; unfold blk at hg; rw [hg]; rfl, Mod.setCell (S := fun k => k = b) (p := ⟨b, i, none⟩) (Mod.refl _ _) (fun _ => rfl) v, fun g' hg' => ?_⟩
  have hs := hB.set' i v hc
  unfold blk at hg ⊢
  rw [hg' b (Or.inl (by rw [hg]; rfl))]
  exact hs
theorem Sat.set1 (h : Sat w0 I (A :: blk b T cs :: L) w) (i : Nat) (v : Value) {cs' : List Value} (hc : cs.set i v = cs') : Sat w0 I (A :: blk b T cs' :: L) (w.setCell ⟨b, i, none⟩ v) := (h.swap.set i v hc).swap
theorem Sat.set2 (h : Sat w0 I (A :: B :: blk b T cs :: L) w) (i : Nat) (v : Value) {cs' : List Value} (hc : cs.set i v = cs') : Sat w0 I (A :: B :: blk b T cs' :: L) (w.setCell ⟨b, i, none⟩ v) := by
  have h1 : Sat w0 I (blk b T cs :: A :: B :: L) w := h.pick 2
  exact (h1.set i v hc).mapL fun g s => by
    have s1 : sepL (A :: blk b T cs' :: B :: L) g := sepL_swap s
    obtain ⟨x, hx, a, s2⟩ := s1
    exact ⟨x, hx, a, sepL_swap s2⟩
theorem Sat.set3 {C : HP} (h : Sat w0 I (A :: B :: C :: blk b T cs :: L) w) (i : Nat) (v : Value) {cs' : List Value} (hc : cs.set i v = cs') : Sat w0 I (A :: B :: C :: blk b T cs' :: L) (w.setCell ⟨b, i, none⟩ v) := by
  have h1 : Sat w0 I (blk b T cs :: A :: B :: C :: L) w := h.pick 3
  exact (h1.set i v hc).mapL fun g s => by
    have s1 : sepL (A :: blk b T cs' :: B :: C :: L) g := sepL_swap s
    obtain ⟨x, hx, a, s2⟩ := s1
    have s3 : sepL (B :: blk b T cs' :: C :: L) _ := sepL_swap s2
    obtain ⟨y, hy, a2, s4⟩ := s3
    exact ⟨x, hx, a, y, hy, a2, sepL_swap s4⟩
/-- two blocks are two. -/
theorem Sat.ne (h : Sat w0 I (blk b T cs :: blk c U ds :: L) w) : b ≠ c := by
  obtain ⟨g, hg, x, g2, hg2, y, s⟩ := h.sep
  intro e
  subst e
  have := Part.minus_none (hg2 _ _ y)
  unfold blk at x
  rw [this] at x; cases x

/-- a slice that is owned whole: n elements, of sz cells each; its cells are xs. -/
def row (e : TypeId) (sz : Nat) (v : Value) (n : Nat) (xs : List Value) : HP := fun g =>
  xs.length = n * sz ∧ ((v = .slice none 0 0 ∧ n = 0) ∨
    ∃ b cap cur, v = .slice (some ⟨b, 0, none⟩) n cap ∧ g b = some (.cells cur e (0, 0)) ∧ n ≤ cap ∧ cap ≤ maxLen ∧ cur.size = cap * sz ∧ cur.toList.take (n * sz) = xs)
variable {e : TypeId} {sz n m : Nat} {v v' : Value} {xs ys : List Value}
theorem Sat.isRow (h : Sat w0 I (row e sz v n xs :: L) w) : w.ownsRow 0 e sz v n xs := by
  obtain ⟨g, ⟨hl, hg⟩, hle, _⟩ := h.elim
  refine ⟨hl, ?_⟩
  rcases hg with hg | ⟨b, cap, cur, hv, hb, r⟩
  · exact Or.inl hg
  · exact Or.inr ⟨b, cap, cur, hv, Nat.zero_le _, hle _ _ hb, r⟩
theorem Sat.nilRow (h : Sat w0 I L w) (e : TypeId) (sz : Nat) : Sat w0 I (row e sz (.slice none 0 0) 0 [] :: L) w := h.add.weaken fun g _ => ⟨by simp, Or.inl ⟨rfl, rfl⟩⟩
/-- a row that was written, or grew. -/
theorem Sat.grown {base : Nat} (h : Sat w0 I (row e sz v n xs :: L) w) (ho : w'.ownsRow base e sz v' m ys) (hg : w.grownBy w' v.ownBlock) (hm : Moved w v v') : Sat w0 I (row e sz v' m ys :: L) w' := by
  refine h.change fun g ⟨hl, hr⟩ hle => ⟨fun k => v.ownBlock = some k, fun k hk hlt => ?_, (Mod.refl _ _).grown hg (fun k hk _ => hk), fun g' hg' => ?_⟩
  · rcases hr with ⟨rfl, _⟩ | ⟨b, cap, cur, rfl, hb, _⟩
    · cases hk
    · simp only [Value.ownBlock, Option.some.injEq] at hk; subst hk; rw [hb]; rfl
  · refine ⟨ho.1, ?_⟩
    rcases ho.2 with ho | ⟨b, cap, cur, hv, _, hh, r⟩
    · exact Or.inl ho
    · refine Or.inr ⟨b, cap, cur, hv, ?_, r⟩
      rw [hg' b ?_]
      · exact hh
      · subst hv
        rcases hm b rfl with h1 | h1
        · left
          rcases hr with ⟨rfl, _⟩ | ⟨b', cap', cur', rfl, hb', _⟩
          · cases h1
          · simp only [Value.ownBlock, Option.some.injEq] at h1; subst h1; rw [hb']; rfl
        · exact Or.inr h1
theorem Sat.rowSet {g cap : Nat} (h : Sat w0 I (row e sz (.slice (some ⟨g, 0, none⟩) n cap) n xs :: L) w) (i : Nat) (u : Value) : Sat w0 I (row e sz (.slice (some ⟨g, 0, none⟩) n cap) n (xs.set i u) :: L) (w.setCell ⟨g, i, none⟩ u) := by
  refine h.grown (own_set h.isRow i u) ⟨rfl, rfl, rfl, by simp, fun k hk hne => Below.heap_setCell _ _ _ _ (fun e => hne (by rw [e]; rfl))⟩ (fun k hk => Or.inl hk)
theorem Sat.rowBlk (h : Sat w0 I (row e sz v n xs :: blk b T cs :: L) w) : v.ownBlock ≠ some b := by
  obtain ⟨g, hg, ⟨_, hr⟩, g2, hg2, y, s⟩ := h.sep
  intro ev
  have := Part.minus_none (hg2 _ _ y)
  rcases hr with ⟨rfl, _⟩ | ⟨b', cap, cur, rfl, hb, _⟩
  · cases ev
  · simp only [Value.ownBlock, Option.some.injEq] at ev; subst ev; rw [this] at hb; cases hb

theorem cell_alloc {w : World} {a : Addr} {v : Value} (h : w.cell? a = some v) (o : Obj) : (w.alloc o).cell? a = some v := by
  rw [World.cell?_alloc_lt _ _ _ (World.block_lt_of_cell? _ _ h)]; exact h
/-! ### What stays for good -/
def cellI (I : Part) (b o : Nat) : Option Value := match I b with
  | some (.cells c _ _) => c[o]?
  | _ => none
theorem cellI_mono {I J : Part} (h : I.le J) {b o : Nat} {v : Value} (k : cellI I b o = some v) : cellI J b o = some v := by
  unfold cellI at *
  cases hx : I b with
  | none => rw [hx] at k; cases k
  | some u => rw [h b u hx]; rw [hx] at k; exact k
theorem Sat.atI (h : Sat w0 I L w) {b o : Nat} {v : Value} (k : cellI I b o = some v) : w.cell? ⟨b, o, none⟩ = some v := by
  have := cellI_mono h.imm k
  unfold cellI wpart at this
  unfold World.cell?
  simp only
  cases hx : w.heap[b]? with
  | none => rw [hx] at this; cases this
  | some u => rw [hx] at this; cases u <;> simp_all
/-- these cells lie at a, and stay. -/
def Rd (I : Part) (a : Option Addr) (vs : List Value) : Prop := ∀ i (h : i < vs.length), ∃ b off, a = some ⟨b, off, none⟩ ∧ cellI I b (off + i) = some vs[i]
theorem Rd.mono {I J : Part} {a : Option Addr} {vs : List Value} (h : Rd I a vs) (k : I.le J) : Rd J a vs := fun i hi => by
  obtain ⟨b, off, e, hc⟩ := h i hi
  exact ⟨b, off, e, cellI_mono k hc⟩
theorem Rd.nil (I : Part) (a : Option Addr) : Rd I a [] := fun i hi => absurd hi (Nat.not_lt_zero _)
theorem Rd.get {a : Option Addr} {vs : List Value} (h : Rd I a vs) (H : Sat w0 I L w) (i : Nat) {u : Value} (hi : vs[i]? = some u) : ∃ b off, a = some ⟨b, off, none⟩ ∧ w.cell? ⟨b, off + i, none⟩ = some u := by
  obtain ⟨hlt, rfl⟩ := List.getElem?_eq_some_iff.1 hi
  obtain ⟨b, off, e, hc⟩ := h i hlt
  exact ⟨b, off, e, H.atI hc⟩
theorem Rd.ints {a : Option Addr} {k : IntKind} {zs : List Int} (h : Rd I a (zs.map (Value.int k))) (H : Sat w0 I L w) : IntsAt k w a zs := fun i hi => by
  exact h.get H i (by simp [hi])
/-- the first part stays as it is for good. -/
theorem Sat.freeze (h : Sat w0 I (A :: L) w) : ∃ J, I.le J ∧ Sat w0 J L w ∧ ∃ g, A g ∧ g.le J := by
  obtain ⟨g, hg, a, s⟩ := h.sep
  have gI : ∀ b o, g b = some o → I b = none := fun b o e => Part.minus_none (hg b o e)
  refine ⟨fun b => (I b).or (g b), fun b o e => by show (I b).or (g b) = some o; rw [e]; rfl, ⟨h.os, h.tape, h.output, h.size, ?_, sepL_mono L ?_ s⟩, g, a, fun b o e => by show (I b).or (g b) = some o; rw [gI b o e, e]; rfl⟩
  · intro b o e
    cases hx : I b with
    | none => simp only [hx, Option.none_or] at e; exact Part.minus_le _ _ b o (hg b o e)
    | some u => simp only [hx, Option.some_or] at e; rw [← e]; exact h.imm b u hx
  · intro b o e
    have e1 := Part.minus_none e
    have e2 := Part.minus_le _ _ b o e
    refine Part.minus_some (Part.minus_le _ _ b o e2) ?_
    show (I b).or (g b) = none
    rw [Part.minus_none e2, e1]; rfl
theorem Sat.freezeBlk (h : Sat w0 I (blk b T cs :: L) w) : ∃ J, I.le J ∧ Sat w0 J L w ∧ Rd J (some ⟨b, 0, none⟩) cs := by
  obtain ⟨J, hJ, S, g, hg, hle⟩ := h.freeze
  refine ⟨J, hJ, S, fun i hi => ⟨b, 0, rfl, ?_⟩⟩
  have := hle _ _ hg
  unfold cellI
  rw [this]; simp [hi]
theorem Sat.freezeRow (h : Sat w0 I (row e sz v n xs :: L) w) : ∃ J a cap, I.le J ∧ Sat w0 J L w ∧ v = .slice a n cap ∧ n ≤ cap ∧ cap ≤ maxLen ∧ xs.length = n * sz ∧ Rd J a xs := by
  obtain ⟨J, hJ, S, g, ⟨hl, hr⟩, hle⟩ := h.freeze
  rcases hr with ⟨rfl, rfl⟩ | ⟨b, cap, cur, rfl, hb, h1, h2, h3, h4⟩
  · refine ⟨J, none, 0, hJ, S, rfl, Nat.le_refl _, Nat.zero_le _, hl, ?_⟩
    have : xs = [] := List.eq_nil_of_length_eq_zero (by simpa using hl)
    subst this; exact Rd.nil _ _
  · refine ⟨J, _, cap, hJ, S, rfl, h1, h2, hl, fun i hi => ⟨b, 0, rfl, ?_⟩⟩
    have := hle _ _ hb
    unfold cellI
    rw [this]
    simp only [Nat.zero_add]
    have h5 : (cur.toList.take (n * sz))[i]? = some xs[i] := by rw [h4]; simp [hi]
    rw [List.getElem?_take_of_lt (by omega)] at h5
    simpa using h5
/-- whatever a call made, and kept apart, stays for good. -/
theorem Sat.belowI (h : Sat w0 I L w) (hb : Below w.heap.size w w') : ∃ J, I.le J ∧ Sat w0 J L w' ∧ ∀ k o, w.heap.size ≤ k → w'.heap[k]? = some o → J k = some o := by
  refine ⟨fun k => if w.heap.size ≤ k then w'.heap[k]? else I k, fun k o e => ?_, ⟨hb.os.trans h.os, hb.tape.trans h.tape, hb.output.trans h.output, Nat.le_trans h.size hb.size, ?_, sepL_mono L ?_ h.sep⟩, fun k o hk e => by show (if w.heap.size ≤ k then _ else _) = _; rw [if_pos hk]; exact e⟩
  · have := wpart_lt (h.imm k o e)
    show (if w.heap.size ≤ k then _ else _) = _
    rw [if_neg (by omega)]; exact e
  · intro k o e
    replace e : (if w.heap.size ≤ k then w'.heap[k]? else I k) = some o := e
    split at e
    · exact e
    · have := h.imm k o e
      unfold wpart at *
      rw [hb.block k (by omega)]; exact this
  · intro k o e
    have e1 := Part.minus_none e
    have e2 := Part.minus_le _ _ k o e
    have e3 := wpart_lt e2
    refine Part.minus_some (by unfold wpart at *; rw [hb.block k e3]; exact e2) ?_
    show (if w.heap.size ≤ k then _ else _) = _
    rw [if_neg (by omega)]; exact e1
/-- at the end: below what was there at the start nothing has changed. -/
theorem Sat.toBelow (h : Sat w0 I L w) (hI : (wpart w0).le I) : Below w0.heap.size w0 w :=
  ⟨h.os, h.tape, h.output, h.size, fun k hk => by
    have e : wpart w0 k = some (w0.heap[k]) := by unfold wpart; simp [hk]
    have := h.imm _ _ (hI _ _ e)
    unfold wpart at *
    rw [this, e]⟩
end

/-- a call that changes nothing of what is known. -/
theorem ret_sat {P : Program} {f : FuncId} {args : Array Value} {v : Value} {w0 w : World} {I : Part} {L : List HP} (h : Calls P f args w (Ret v w)) (H : Sat w0 I L w) : Calls P f args w fun r w' => r = .returned v ∧ Sat w0 I L w' :=
  h.mono fun e w' ⟨he, n, hw⟩ => ⟨he, by subst hw; exact H.drewN n⟩
theorem retB_sat {P : Program} {f : FuncId} {args : Array Value} {v : Value} {w0 w : World} {I : Part} {L : List HP} (h : Calls P f args w (RetB v w.heap.size w)) (H : Sat w0 I L w) : Calls P f args w fun r w' => r = .returned v ∧ Sat w0 I L w' :=
  h.mono fun e w' ⟨he, hb⟩ => ⟨he, H.below hb⟩
/-! ### append, in parts -/
section
variable {P : Program} {w0 w : World} {I : Part} {L : List HP} {a : Act} {o : Oper} {Q : Exit → Act → World → Prop}
theorem wp_appS {K : Act → World → Prop} {t e : TypeId} {size bytes : Nat} (T : SliceT P t e size bytes) (s x : Operand)
    (ho : o.op = .call { callee := .builtin .append, args := #[s, x], argTypes := #[t, t] })
    {v : Value} {n : Nat} {xs : List Value} (H : Sat w0 I (row e size v n xs :: L) w) (news : List Value) (hs : a.eval s = v)
    {g : Nat} (hx : a.eval x = .slice (some ⟨g, 0, none⟩) 1 1) (hgs : g = w.heap.size) (hl : news.length = size) (h1 : ∀ u ∈ news, u.oneCell' = true)
    (hb : (n + 1) * bytes ≤ 140737488355328) (hn : n + 1 ≤ 140737488355328)
    (h : ∀ ad cap w', n + 1 ≤ cap → cap ≤ 9223372036854775807 → Sat w0 I (row e size (.slice ad (n + 1) cap) (n + 1) (xs ++ news) :: L) w' → K (a.put o.dst (.slice ad (n + 1) cap)) w') : o.wp P a (w.alloc (.cells news.toArray e)) K Q :=
  wp_app1m T s x ho 0 v n xs news hs H.isRow hx hgs hl h1 hb hn (Nat.zero_le _) fun v' w' h2 h3 h4 h5 => by
    obtain ⟨ad, cap, rfl, hc1, hc2⟩ := own_shape h2
    exact h ad cap w' hc1 hc2 (H.grown h2 h3 h5)
theorem wpList_appS {ops : Array Oper} {rest : List Oper} {t e : TypeId} {size bytes : Nat} (T : SliceT P t e size bytes) (hgd : o.guard = none) (s x : Operand)
    (ho : o.op = .call { callee := .builtin .append, args := #[s, x], argTypes := #[t, t] })
    {v : Value} {n : Nat} {xs : List Value} (H : Sat w0 I (row e size v n xs :: L) w) (news : List Value) (hs : a.eval s = v)
    {g : Nat} (hx : a.eval x = .slice (some ⟨g, 0, none⟩) 1 1) (hgs : g = w.heap.size) (hl : news.length = size) (h1 : ∀ u ∈ news, u.oneCell' = true)
    (hb : (n + 1) * bytes ≤ 140737488355328) (hn : n + 1 ≤ 140737488355328)
    (h : ∀ ad cap w', n + 1 ≤ cap → cap ≤ 9223372036854775807 → Sat w0 I (row e size (.slice ad (n + 1) cap) (n + 1) (xs ++ news) :: L) w' → wpList P ops Q rest (a.put o.dst (.slice ad (n + 1) cap)) w') : wpList P ops Q (o :: rest) a (w.alloc (.cells news.toArray e)) :=
  wpList_plain hgd fun _ hK => wp_appS T s x ho H news hs hx hgs hl h1 hb hn fun ad cap w' h1 h2 h3 => hK _ _ (h ad cap w' h1 h2 h3)
theorem step_appS {ops : Array Oper} {K : Act → World → Prop} {E : Prop} {t e : TypeId} {size bytes : Nat} (T : SliceT P t e size bytes) (hg : o.guard = none) (s x : Operand)
    (ho : o.op = .call { callee := .builtin .append, args := #[s, x], argTypes := #[t, t] })
    {v : Value} {n : Nat} {xs : List Value} (H : Sat w0 I (row e size v n xs :: L) w) (news : List Value) (hs : a.eval s = v)
    {g : Nat} (hx : a.eval x = .slice (some ⟨g, 0, none⟩) 1 1) (hgs : g = w.heap.size) (hl : news.length = size) (h1 : ∀ u ∈ news, u.oneCell' = true)
    (hb : (n + 1) * bytes ≤ 140737488355328) (hn : n + 1 ≤ 140737488355328)
    (h : ∀ ad cap w', n + 1 ≤ cap → cap ≤ 9223372036854775807 → Sat w0 I (row e size (.slice ad (n + 1) cap) (n + 1) (xs ++ news) :: L) w' → K (a.put o.dst (.slice ad (n + 1) cap)) w') :
    if Region.wanted o (yielded ops a.tmps) = true then Oper.wp P o a (w.alloc (.cells news.toArray e)) K Q else E := by
  have hw : Region.wanted o (yielded ops a.tmps) = true := by simp [Region.wanted, hg]
  rw [if_pos hw]
  exact wp_appS T s x ho H news hs hx hgs hl h1 hb hn h
end
end Go.Proofs.YtekioplbfoonkaaGreatDoor
namespace Go.Proofs.YtekioplbfoonkaaGreatDoor
open Go.RowKit
set_option linter.unusedVariables false
set_option maxRecDepth 100000
set_option maxRecDepth 100000
theorem cellI_start {w : World} {b o : Nat} {v : Value} (h : w.cell? ⟨b, o, none⟩ = some v) : cellI (wpart w) b o = some v := by
  unfold cellI wpart
  unfold World.cell? at h
  simp only at h
  cases hx : w.heap[b]? with
  | none => rw [hx] at h; cases h
  | some u => rw [hx] at h; cases u <;> simp_all
theorem okT_slc {P : Program} {w : World} {d t e : Nat} {v : Value} (ht : P.underlying t = some (.slice e)) (h : OkT P w (d + 1) t [v]) : ∃ a len cap, v = .slice a len cap := by
  unfold OkT at h
  rw [ht] at h
  obtain ⟨a, len, cap, hn, _⟩ := h
  exact ⟨a, len, cap, by simpa using hn⟩
theorem Rd.take {I : Part} {a : Option Addr} {vs : List Value} (h : Rd I a vs) (n : Nat) : Rd I a (vs.take n) := fun i hi => by
  have hi' : i < vs.length := by simp at hi; omega
  obtain ⟨b, off, e, hc⟩ := h i hi'
  exact ⟨b, off, e, by rw [hc]; simp⟩
theorem Sat.emptyRow {w0 w : World} {I : Part} {L : List HP} {b : Nat} {T : TypeId} (h : Sat w0 I (blk b T [] :: L) w) (sz : Nat) : Sat w0 I (row T sz (.slice (some ⟨b, 0, none⟩) 0 0) 0 [] :: L) w :=
  h.weaken fun g hg => ⟨by simp, Or.inr ⟨b, 0, #[], rfl, hg, Nat.le_refl _, Nat.zero_le _, by simp, by simp⟩⟩
theorem Sat.one {w0 w : World} {I : Part} {A : HP} {L : List HP} (h : Sat w0 I (A :: L) w) : Sat w0 I [A] w := h.mapL fun g ⟨x, hx, a, _⟩ => ⟨x, hx, a, trivial⟩
theorem Sat.two {w0 w : World} {I : Part} {A B : HP} {L : List HP} (h : Sat w0 I (A :: B :: L) w) : Sat w0 I [A, B] w := h.mapL fun g ⟨x, hx, a, y, hy, b, _⟩ => ⟨x, hx, a, y, hy, b, trivial⟩
theorem slStr : SliceT Tryz.prog 143 9 1 16 := ⟨Tryz.underlying143, ⟨_, _, rfl, rfl, rfl, rfl, rfl⟩, by decide⟩
theorem slInt : SliceT Tryz.prog 23 3 1 8 := ⟨Tryz.underlying23, ⟨_, _, rfl, rfl, rfl, rfl, rfl⟩, by decide⟩
theorem okT_elems {d : Nat} {w : World} {t e : TypeId} {la : Option Addr} {len cap : Nat} {α : Type} (mk : α → Value) (ht : Tryz.prog.underlying t = some (.slice e)) (hc : Tryz.prog.cellsOf e = 1)
    (ho : ∀ v, OkT Tryz.prog w d e [v] → ∃ x, v = mk x) (hl : OkT Tryz.prog w (d + 1) t [.slice la len cap]) : len ≤ cap ∧ cap ≤ 9223372036854775807 ∧ ∃ xs : List α, xs.length = len ∧ Rd (wpart w) la (xs.map mk) ∧ ∀ x ∈ xs, OkT Tryz.prog w d e [mk x] := by
  obtain ⟨h1, h2, h3⟩ := okT_slice ht (sz := 1) hc (by omega) hl
  refine ⟨h1, h2, ?_⟩
  have h4 : ∀ i, i < len → ∃ x : α, (∃ b off, la = some ⟨b, off, none⟩ ∧ cellI (wpart w) b (off + i) = some (mk x)) ∧ OkT Tryz.prog w d e [mk x] := fun i hi => by
    obtain ⟨b, off, cs, ha, hb, hlen, hok, hc⟩ := h3 i (by omega)
    match cs, hlen with
    | [c], _ =>
      obtain ⟨x, rfl⟩ := ho c hok
      exact ⟨x, ⟨b, off, ha, cellI_start (by simpa using hc 0 (by simp))⟩, hok⟩
  have h5 : ∃ f : Nat → Option α, ∀ i, i < len → ∃ x, f i = some x ∧ (∃ b off, la = some ⟨b, off, none⟩ ∧ cellI (wpart w) b (off + i) = some (mk x)) ∧ OkT Tryz.prog w d e [mk x] := by
    obtain ⟨f, hf⟩ := Deep.choose_lt (p := fun i (x : Option α) => ∃ y, x = some y ∧ (∃ b off, la = some ⟨b, off, none⟩ ∧ cellI (wpart w) b (off + i) = some (mk y)) ∧ OkT Tryz.prog w d e [mk y]) (n := len) (fun i hi => by
      obtain ⟨x, hx⟩ := h4 i hi
      exact ⟨some x, x, rfl, hx⟩)
    exact ⟨f, hf⟩
  obtain ⟨f, hf⟩ := h5
  have h6 : ∀ n, n ≤ len → ∃ xs : List α, xs.length = n ∧ ∀ i (h : i < xs.length), f i = some xs[i] := by
    intro n
    induction n with
    | zero => intro _; exact ⟨[], rfl, fun i h => absurd h (Nat.not_lt_zero _)⟩
    | succ n ih =>
      intro hn
      obtain ⟨xs, hx, hg⟩ := ih (by omega)
      obtain ⟨x, hfx, _⟩ := hf n (by omega)
      refine ⟨xs ++ [x], by simp [hx], fun i hi => ?_⟩
      by_cases h : i < xs.length
      · rw [List.getElem_append_left h]; exact hg i h
      · have : i = n := by simp at hi; omega
        subst this
        rw [hfx, List.getElem_append_right (by omega)]
        simp
  obtain ⟨xs, hx, hg⟩ := h6 len (Nat.le_refl _)
  refine ⟨xs, hx, fun i hi => ?_, fun x hxm => ?_⟩
  · have hi' : i < xs.length := by simpa using hi
    obtain ⟨y, hy, ⟨b, off, e1, e2⟩, _⟩ := hf i (by omega)
    have := hg i hi'
    rw [hy] at this
    cases this
    exact ⟨b, off, e1, by simpa using e2⟩
  · obtain ⟨i, hi, rfl⟩ := List.mem_iff_getElem.1 hxm
    obtain ⟨y, hy, _, ok⟩ := hf i (by omega)
    have := hg i hi
    rw [hy] at this
    cases this
    exact ok
theorem okT_strs {d : Nat} {w : World} {la : Option Addr} {len cap : Nat} (hl : OkT Tryz.prog w (d + 2) 143 [.slice la len cap]) : len ≤ cap ∧ cap ≤ 9223372036854775807 ∧ ∃ ss : List ByteArray, ss.length = len ∧ Rd (wpart w) la (ss.map Value.string) ∧ ∀ s ∈ ss, s.size ≤ 9223372036854775807 := by
  obtain ⟨h1, h2, xs, h3, h4, h5⟩ := okT_elems Value.string Tryz.underlying143 (by kernel_rfl) (fun v hv => by obtain ⟨z, hz, _⟩ := okT_str Tryz.underlying9 hv; exact ⟨z, hz⟩) hl
  exact ⟨h1, h2, xs, h3, h4, fun s hs => by
    obtain ⟨y, hy, hw⟩ := okT_str Tryz.underlying9 (h5 s hs); cases hy; unfold maxLen at hw; exact hw⟩
theorem okT_intl {d : Nat} {w : World} {la : Option Addr} {len cap : Nat} (hl : OkT Tryz.prog w (d + 2) 23 [.slice la len cap]) : len ≤ cap ∧ cap ≤ 9223372036854775807 ∧ ∃ zs : List Int, zs.length = len ∧ Rd (wpart w) la (zs.map (Value.int .i64)) ∧ ∀ z ∈ zs, -9223372036854775808 ≤ z ∧ z ≤ 9223372036854775807 := by
  obtain ⟨h1, h2, xs, h3, h4, h5⟩ := okT_elems (Value.int .i64) Tryz.underlying23 (by kernel_rfl) (fun v hv => by obtain ⟨z, hz, _⟩ := okT_int Tryz.underlying3 hv; exact ⟨z, hz⟩) hl
  exact ⟨h1, h2, xs, h3, h4, fun s hs => by
    obtain ⟨y, hy, hw⟩ := okT_int Tryz.underlying3 (h5 s hs); cases hy; exact wf_i64 hw⟩
end Go.Proofs.YtekioplbfoonkaaGreatDoor
namespace Go.Proofs.YtekioplbfoonkaaGreatDoor
open Go.RowKit
set_option linter.unusedVariables false
set_option maxRecDepth 100000

theorem size_setCells' (g : Nat) : ∀ (vs : List Value) (o : Nat) (w : World), (w.setCells g o vs).heap.size = w.heap.size
  | [], _, _ => rfl
  | v :: r, o, w => by rw [World.setCells, size_setCells' g r]; simp
theorem tape_setCells' (g : Nat) : ∀ (vs : List Value) (o : Nat) (w : World), (w.setCells g o vs).tape = w.tape
  | [], _, _ => rfl
  | v :: r, o, w => by rw [World.setCells, tape_setCells' g r]; rfl
theorem setCells_heap {g : Nat} {e : TypeId} {fr : Nat × Nat} : ∀ (vs : List Value) (o : Nat) (w : World) (cur : Array Value), w.heap[g]? = some (.cells cur e fr) → o + vs.length ≤ cur.size →
    ∃ cur', (w.setCells g o vs).heap[g]? = some (.cells cur' e fr) ∧ cur'.size = cur.size ∧ cur'.toList.take (o + vs.length) = cur.toList.take o ++ vs
  | [], o, w, cur, h, hl => ⟨cur, h, rfl, by simp⟩
  | v :: r, o, w, cur, h, hl => by
    have h1 : (w.setCell ⟨g, o, none⟩ v).heap[g]? = some (.cells (cur.setIfInBounds o v) e fr) := by
      unfold World.setCell
      simp only [Array.getElem?_modify]
      rw [if_pos trivial, h]
      simp
    simp only [List.length_cons] at hl
    obtain ⟨cur', h2, h3, h4⟩ := setCells_heap r (o + 1) _ _ h1 (by simp; omega)
    refine ⟨cur', h2, by simpa using h3, ?_⟩
    rw [List.length_cons, show o + (r.length + 1) = o + 1 + r.length by omega, h4]
    have e1 : (cur.setIfInBounds o v).toList.take (o + 1) = cur.toList.take o ++ [v] := by
      rw [Array.toList_setIfInBounds, List.take_set, List.take_add_one, List.set_append_right _ _ (by simp; omega)]
      have e2 : cur.toList[o]? = some (cur[o]'(by omega)) := by simp
      rw [e2]
      simp [show min o cur.size = o by omega]
    rw [e1]; simp
section
variable {P : Program} {w : World} {a : Act} {o : Oper} {Q : Exit → Act → World → Prop} {ops : Array Oper} {rest : List Oper}
theorem own_open' {w : World} {base : Nat} {e : TypeId} {sz : Nat} {v : Value} {n : Nat} {xs : List Value} (h : w.ownsRow base e sz v n xs) (hv : v ≠ .slice none 0 0) : ∃ g cap cur, v = .slice (some ⟨g, 0, none⟩) n cap ∧ base ≤ g ∧ w.heap[g]? = some (.cells cur e (0, 0)) ∧ n ≤ cap ∧ cap ≤ maxLen ∧ cur.size = cap * sz ∧ cur.toList.take (n * sz) = xs := by
  rcases h.2 with ⟨h, _⟩ | h
  · exact absurd h hv
  · exact h
theorem run_appSrc' {t tx ty e : TypeId} {size bytes : Nat} (T : SliceT P t e size bytes) (base : Nat) (v : Value) (n m : Nat) (xs news : List Value) (x : Value) (hown : w.ownsRow base e size v n xs) (hv : v ≠ .slice none 0 0)
    (hs : Src P size tx x m news w) (hb : (n + m) * bytes ≤ 140737488355328) (hn : n + m ≤ 140737488355328) (hbase : base ≤ w.heap.size) :
    ∃ v' w', (Builtin.append_ #[t, tx] ty #[v, x]).run P w = .ok v' w' ∧ w'.ownsRow base e size v' (n + m) (xs ++ news) ∧ w.grownBy w' v.ownBlock ∧ Moved w v v' ∧ ∃ ad c, v' = .slice (some ⟨ad, 0, none⟩) (n + m) c := by
  obtain ⟨g, cap, cur, rfl, hg, hh, hnc, hcm, hcs, htk⟩ := own_open' hown hv
  obtain ⟨ti, z, hti, hz, hsz, hby, hzs⟩ := T.hi
  have hnl := hs.newsLen
  by_cases hroom : n + m ≤ cap
  · have hfit : n * size + news.length ≤ cur.size := by rw [hnl, hcs, ← Nat.add_mul]; exact Nat.mul_le_mul_right size hroom
    subst hsz
    have hr := run_append_room_src (P := P) w t tx ty e ti T.ht hti g 0 n cap x m news hs hroom (fun j hj => by
      unfold World.cell?
      rw [show (⟨g, 0 + n * ti.size + j, none⟩ : Addr).block = g from rfl, hh]
      simp; omega) (fun j hj => by
      unfold World.frozen?
      rw [show (⟨g, 0 + n * ti.size + j, none⟩ : Addr).block = g from rfl, hh]
      simp)
    rw [Nat.zero_add] at hr
    obtain ⟨cur', h1, h2, h3⟩ := setCells_heap news (n * ti.size) w cur hh hfit
    refine ⟨_, _, hr, ⟨by rw [List.length_append, hown.1, hnl, Nat.add_mul], Or.inr ⟨g, cap, cur', rfl, hg, h1, hroom, hcm, by rw [h2, hcs], ?_⟩⟩, ⟨World.os_setCells _ _ _ _, ?_, World.output_setCells _ _ _ _, by rw [size_setCells']; exact Nat.le_refl _, fun k hk hne => World.heap_setCells_other _ _ _ _ hk (fun e => hne (by rw [e]; rfl))⟩, fun k hk => Or.inl hk, _, _, rfl⟩
    · rw [Nat.add_mul, ← hnl, h3, htk]
    · exact tape_setCells' _ _ _ _
  · subst hsz hby
    have hold : (Builtin.firstCells ti.size n (.slice (some ⟨g, 0, none⟩) n cap)).run P w.drew = .ok xs.toArray w.drew := run_firstCells_some w.drew ti.size n ⟨g, 0, none⟩ n cap xs hown.1 (hown.cells (g := g) rfl)
    have hr := run_append_grow_src (P := P) w t tx ty e ti z T.ht hti hz (some ⟨g, 0, none⟩) n cap xs hold x m news hs (by omega) (by omega) (growslice_fits (by omega) hb)
    have h63 : n + m ≤ maxLen := by unfold maxLen; omega
    have hge := grownCap_ge w (n + m) cap e
    have hcm2 : grownCap w (n + m) cap e ≤ maxLen := grownCap_le_maxLen _ (n + m) cap e h63
    refine ⟨_, _, hr, ⟨by rw [List.length_append, hown.1, hnl, Nat.add_mul], Or.inr ⟨_, _, _, rfl, hbase, _root_.Go.heap_alloc_new _ _, hge, hcm2, ?_, ?_⟩⟩, ⟨rfl, rfl, rfl, by simp, fun k hk _ => Below.heap_alloc w.drew _ k hk⟩, fun k hk => by simp [Value.ownBlock] at hk; right; omega, _, _, rfl⟩
    · simp only [Array.size_append, List.size_toArray, List.length_append, size_zeroCells, hzs, hown.1, hnl]
      rw [← Nat.add_mul, ← Nat.add_mul]; congr 1; omega
    · simp only [Array.toList_append]
      rw [show (n + m) * ti.size = (xs ++ news).length from by rw [List.length_append, hown.1, hnl, Nat.add_mul]]
      exact List.take_left
theorem run_appSrc {t tx ty e : TypeId} {size bytes : Nat} (T : SliceT P t e size bytes) (base : Nat) (v : Value) (n m : Nat) (xs news : List Value) (x : Value) (hown : w.ownsRow base e size v n xs) (h0 : 0 < n)
    (hs : Src P size tx x m news w) (hb : (n + m) * bytes ≤ 140737488355328) (hn : n + m ≤ 140737488355328) (hbase : base ≤ w.heap.size) :
    ∃ v' w', (Builtin.append_ #[t, tx] ty #[v, x]).run P w = .ok v' w' ∧ w'.ownsRow base e size v' (n + m) (xs ++ news) ∧ w.grownBy w' v.ownBlock ∧ Moved w v v' := by
  obtain ⟨v', w', h1, h2, h3, h4, _⟩ := run_appSrc' (ty := ty) T base v n m xs news x hown (fun hv => by
    rcases hown.2 with ⟨_, hz⟩ | ⟨g, cap, cur, hv2, _⟩
    · omega
    · rw [hv] at hv2; cases hv2) hs hb hn hbase
  exact ⟨v', w', h1, h2, h3, h4⟩
theorem wp_appSrc {K : Act → World → Prop} {t tx e : TypeId} {size bytes : Nat} (T : SliceT P t e size bytes) (sr xr : Operand)
    (ho : o.op = .call { callee := .builtin .append, args := #[sr, xr], argTypes := #[t, tx] })
    (base : Nat) (v : Value) (n m : Nat) (xs news : List Value) (x : Value) (hsr : a.eval sr = v) (hxr : a.eval xr = x) (hown : w.ownsRow base e size v n xs) (h0 : 0 < n)
    (hs : Src P size tx x m news w) (hb : (n + m) * bytes ≤ 140737488355328) (hn : n + m ≤ 140737488355328) (hbase : base ≤ w.heap.size)
    (h : ∀ v' w', w'.ownsRow base e size v' (n + m) (xs ++ news) → w.grownBy w' v.ownBlock → Moved w v v' → K (a.put o.dst v') w') : o.wp P a w K Q := by
  obtain ⟨v', w', hr, h1, h2, h3⟩ := run_appSrc (ty := o.type) T base v n m xs news x hown h0 hs hb hn hbase
  have hK := h v' w' h1 h2 h3
  unfold Oper.wp execOp
  simp only [ho, resolve, invoke, builtin, Sem.run_bind, Sem.run_pure, Result.andThen_ok, List.map_toArray, List.map_cons, List.map_nil, hsr, hxr, hr]
  exact hK
theorem wpList_appSrc {t tx e : TypeId} {size bytes : Nat} (T : SliceT P t e size bytes) (hgd : o.guard = none) (sr xr : Operand)
    (ho : o.op = .call { callee := .builtin .append, args := #[sr, xr], argTypes := #[t, tx] })
    (base : Nat) (v : Value) (n m : Nat) (xs news : List Value) (x : Value) (hsr : a.eval sr = v) (hxr : a.eval xr = x) (hown : w.ownsRow base e size v n xs) (h0 : 0 < n)
    (hs : Src P size tx x m news w) (hb : (n + m) * bytes ≤ 140737488355328) (hn : n + m ≤ 140737488355328) (hbase : base ≤ w.heap.size)
    (h : ∀ v' w', w'.ownsRow base e size v' (n + m) (xs ++ news) → w.grownBy w' v.ownBlock → Moved w v v' → wpList P ops Q rest (a.put o.dst v') w') : wpList P ops Q (o :: rest) a w :=
  wpList_plain hgd fun _ hK => wp_appSrc T sr xr ho base v n m xs news x hsr hxr hown h0 hs hb hn hbase fun v' w' h1 h2 h3 => hK _ _ (h v' w' h1 h2 h3)
end
end Go.Proofs.YtekioplbfoonkaaGreatDoor
namespace Go.Proofs.YtekioplbfoonkaaGreatDoor
open Go.RowKit
set_option linter.unusedVariables false
set_option maxRecDepth 100000

theorem add_zero_off (b j : Nat) : (⟨b, 0, none⟩ : Addr).add j = ⟨b, j, none⟩ := by unfold Addr.add; split <;> simp_all
theorem add_off (b off j : Nat) : (⟨b, off, none⟩ : Addr).add j = ⟨b, off + j, none⟩ := by unfold Addr.add; split <;> simp_all
section
variable {P : Program} {w0 w : World} {I : Part} {L : List HP} {A : HP} {a : Act} {o : Oper} {Q : Exit → Act → World → Prop}
theorem Src.ofRd {t e : TypeId} {size bytes : Nat} (T : SliceT P t e size bytes) (H : Sat w0 I L w) {ad : Option Addr} {m c : Nat} {vs : List Value} (hr : Rd I ad vs) (hl : vs.length = m * size) (h1 : ∀ u ∈ vs, u.oneCell' = true) : Src P size t (.slice ad m c) m vs w := by
  have hcells : ∀ w', Sat w0 I L w' → (Builtin.firstCells size m (.slice ad m c)).run P w' = .ok vs.toArray w' := fun w' H' => by
    cases ad with
    | none =>
      have : vs = [] := by
        cases vs with
        | nil => rfl
        | cons x r => obtain ⟨b, off, e, _⟩ := hr 0 (by simp); cases e
      subst this
      exact run_firstCells_none w' size m m c
    | some x =>
      refine run_firstCells_some w' size m x m c vs hl fun j v hj => ?_
      obtain ⟨b, off, e, hc⟩ := hr.get H' j hj
      cases e
      rw [add_off]; exact hc
  exact ⟨Or.inl ⟨e, T.ht⟩, fun w' => by simp [Builtin.lenOf], hcells w H, hcells w.drew H.drew, hl, h1⟩
theorem Src.ofBlk {t e U : TypeId} {size bytes g : Nat} {vs : List Value} (T : SliceT P t e size bytes) (H : Sat w0 I (A :: blk g U vs :: L) w) {c : Nat} {m : Nat} (hl : vs.length = m * size) (h1 : ∀ u ∈ vs, u.oneCell' = true) : Src P size t (.slice (some ⟨g, 0, none⟩) m c) m vs w := by
  have hcells : ∀ w', Sat w0 I (A :: blk g U vs :: L) w' → (Builtin.firstCells size m (.slice (some ⟨g, 0, none⟩) m c)).run P w' = .ok vs.toArray w' := fun w' H' => by
    refine run_firstCells_some w' size m ⟨g, 0, none⟩ m c vs hl fun j v hj => ?_
    rw [add_zero_off]; exact H'.swap.isBlk.cell j hj
  exact ⟨Or.inl ⟨e, T.ht⟩, fun w' => by simp [Builtin.lenOf], hcells w H, hcells w.drew H.drew, hl, h1⟩
theorem wp_appSrcS {K : Act → World → Prop} {t tx e : TypeId} {size bytes : Nat} (T : SliceT P t e size bytes) (s x : Operand)
    (ho : o.op = .call { callee := .builtin .append, args := #[s, x], argTypes := #[t, tx] })
    {g n cap m : Nat} {xs news : List Value} {xv : Value} (H : Sat w0 I (row e size (.slice (some ⟨g, 0, none⟩) n cap) n xs :: L) w) (hs : a.eval s = .slice (some ⟨g, 0, none⟩) n cap) (hx : a.eval x = xv) (hsrc : Src P size tx xv m news w)
    (hb : (n + m) * bytes ≤ 140737488355328) (hn : n + m ≤ 140737488355328)
    (h : ∀ g' cap' w', n + m ≤ cap' → cap' ≤ 9223372036854775807 → Sat w0 I (row e size (.slice (some ⟨g', 0, none⟩) (n + m) cap') (n + m) (xs ++ news) :: L) w' → K (a.put o.dst (.slice (some ⟨g', 0, none⟩) (n + m) cap')) w') : o.wp P a w K Q := by
  obtain ⟨v', w', hr, h2, h3, h4, ad, c, rfl⟩ := run_appSrc' (ty := o.type) T 0 _ n m xs news xv H.isRow (fun e => by cases e) hsrc hb hn (Nat.zero_le _)
  have hS := H.grown h2 h3 h4
  obtain ⟨a', c', hv, hc1, hc2⟩ := own_shape h2
  cases hv
  have hK := h ad c w' hc1 hc2 hS
  unfold Oper.wp execOp
  simp only [ho, resolve, invoke, builtin, Sem.run_bind, Sem.run_pure, Result.andThen_ok, List.map_toArray, List.map_cons, List.map_nil, hs, hx, hr]
  exact hK
theorem wpList_appSrcS {ops : Array Oper} {rest : List Oper} {t tx e : TypeId} {size bytes : Nat} (T : SliceT P t e size bytes) (hgd : o.guard = none) (s x : Operand)
    (ho : o.op = .call { callee := .builtin .append, args := #[s, x], argTypes := #[t, tx] })
    {g n cap m : Nat} {xs news : List Value} {xv : Value} (H : Sat w0 I (row e size (.slice (some ⟨g, 0, none⟩) n cap) n xs :: L) w) (hs : a.eval s = .slice (some ⟨g, 0, none⟩) n cap) (hx : a.eval x = xv) (hsrc : Src P size tx xv m news w)
    (hb : (n + m) * bytes ≤ 140737488355328) (hn : n + m ≤ 140737488355328)
    (h : ∀ g' cap' w', n + m ≤ cap' → cap' ≤ 9223372036854775807 → Sat w0 I (row e size (.slice (some ⟨g', 0, none⟩) (n + m) cap') (n + m) (xs ++ news) :: L) w' → wpList P ops Q rest (a.put o.dst (.slice (some ⟨g', 0, none⟩) (n + m) cap')) w') : wpList P ops Q (o :: rest) a w :=
  wpList_plain hgd fun _ hK => wp_appSrcS T s x ho H hs hx hsrc hb hn fun g' cap' w' h1 h2 h3 => hK _ _ (h g' cap' w' h1 h2 h3)
theorem step_appSrcS {ops : Array Oper} {K : Act → World → Prop} {E : Prop} {t tx e : TypeId} {size bytes : Nat} (T : SliceT P t e size bytes) (hgd : o.guard = none) (s x : Operand)
    (ho : o.op = .call { callee := .builtin .append, args := #[s, x], argTypes := #[t, tx] })
    {g n cap m : Nat} {xs news : List Value} {xv : Value} (H : Sat w0 I (row e size (.slice (some ⟨g, 0, none⟩) n cap) n xs :: L) w) (hs : a.eval s = .slice (some ⟨g, 0, none⟩) n cap) (hx : a.eval x = xv) (hsrc : Src P size tx xv m news w)
    (hb : (n + m) * bytes ≤ 140737488355328) (hn : n + m ≤ 140737488355328)
    (h : ∀ g' cap' w', n + m ≤ cap' → cap' ≤ 9223372036854775807 → Sat w0 I (row e size (.slice (some ⟨g', 0, none⟩) (n + m) cap') (n + m) (xs ++ news) :: L) w' → K (a.put o.dst (.slice (some ⟨g', 0, none⟩) (n + m) cap')) w') :
    if Region.wanted o (yielded ops a.tmps) = true then Oper.wp P o a w K Q else E := by
  have hw : Region.wanted o (yielded ops a.tmps) = true := by simp [Region.wanted, hgd]
  rw [if_pos hw]
  exact wp_appSrcS T s x ho H hs hx hsrc hb hn h
/-- the same, with the new length and the new cells under names of their own. -/
theorem step_appSrcN {ops : Array Oper} {K : Act → World → Prop} {E : Prop} {t tx e : TypeId} {size bytes : Nat} (T : SliceT P t e size bytes) (hgd : o.guard = none) (s x : Operand)
    (ho : o.op = .call { callee := .builtin .append, args := #[s, x], argTypes := #[t, tx] })
    {g n cap m N : Nat} {xs news ys : List Value} {xv : Value} (H : Sat w0 I (row e size (.slice (some ⟨g, 0, none⟩) n cap) n xs :: L) w) (hs : a.eval s = .slice (some ⟨g, 0, none⟩) n cap) (hx : a.eval x = xv) (hsrc : Src P size tx xv m news w)
    (hN : n + m = N) (hys : xs ++ news = ys) (hb : N * bytes ≤ 140737488355328) (hn : N ≤ 140737488355328)
    (h : ∀ g' cap' w', N ≤ cap' → cap' ≤ 9223372036854775807 → Sat w0 I (row e size (.slice (some ⟨g', 0, none⟩) N cap') N ys :: L) w' → K (a.put o.dst (.slice (some ⟨g', 0, none⟩) N cap')) w') :
    if Region.wanted o (yielded ops a.tmps) = true then Oper.wp P o a w K Q else E := by
  subst hN hys
  exact step_appSrcS T hgd s x ho H hs hx hsrc hb hn h
theorem step_app1N {ops : Array Oper} {K : Act → World → Prop} {E : Prop} {t e : TypeId} {size bytes : Nat} (T : SliceT P t e size bytes) (hgd : o.guard = none) (s x : Operand)
    (ho : o.op = .call { callee := .builtin .append, args := #[s, x], argTypes := #[t, t] })
    {g n cap N g2 c2 : Nat} {xs news ys : List Value} (H : Sat w0 I (row e size (.slice (some ⟨g, 0, none⟩) n cap) n xs :: L) w) (hs : a.eval s = .slice (some ⟨g, 0, none⟩) n cap) (hx : a.eval x = .slice (some ⟨g2, 0, none⟩) 1 c2) (hg2 : g2 = w.heap.size) (hl : news.length = size) (h1 : ∀ u ∈ news, u.oneCell' = true)
    (hN : n + 1 = N) (hys : xs ++ news = ys) (hb : N * bytes ≤ 140737488355328) (hn : N ≤ 140737488355328)
    (h : ∀ g' cap' w', N ≤ cap' → cap' ≤ 9223372036854775807 → Sat w0 I (row e size (.slice (some ⟨g', 0, none⟩) N cap') N ys :: L) w' → K (a.put o.dst (.slice (some ⟨g', 0, none⟩) N cap')) w') :
    if Region.wanted o (yielded ops a.tmps) = true then Oper.wp P o a (w.alloc (.cells news.toArray e)) K Q else E := by
  subst hN hys hg2
  have H2 : Sat w0 I (row e size (.slice (some ⟨g, 0, none⟩) n cap) n xs :: blk w.heap.size e news :: L) (w.alloc (.cells news.toArray e)) := (H.alloc rfl rfl).swap
  refine step_appSrcS T hgd s x ho H2 hs hx (Src.ofBlk T H2 (by simpa using hl) h1) hb hn fun g' cap' w' h1 h2 h3 => h g' cap' w' h1 h2 h3.swap.drop
/-- a copy of what stays, into a slice of its own that is empty. -/
theorem step_copyN {ops : Array Oper} {K : Act → World → Prop} {E : Prop} {t e : TypeId} {size bytes : Nat} (T : SliceT P t e size bytes) (hgd : o.guard = none) (s x : Operand)
    (ho : o.op = .call { callee := .builtin .append, args := #[s, x], argTypes := #[t, t] })
    {g m c : Nat} {ad : Option Addr} {vs : List Value} (H : Sat w0 I (blk g e [] :: L) w) (hs : a.eval s = .slice (some ⟨g, 0, none⟩) 0 0) (hx : a.eval x = .slice ad m c) (hr : Rd I ad vs) (hl : vs.length = m * size) (h1 : ∀ u ∈ vs, u.oneCell' = true)
    (hb : m * bytes ≤ 140737488355328) (hn : m ≤ 140737488355328)
    (h : ∀ g' cap' w', m ≤ cap' → cap' ≤ 9223372036854775807 → Sat w0 I (row e size (.slice (some ⟨g', 0, none⟩) m cap') m vs :: L) w' → K (a.put o.dst (.slice (some ⟨g', 0, none⟩) m cap')) w') :
    if Region.wanted o (yielded ops a.tmps) = true then Oper.wp P o a w K Q else E := by
  have H2 : Sat w0 I (row e size (.slice (some ⟨g, 0, none⟩) 0 0) 0 [] :: L) w := H.weaken fun x hg => ⟨by simp, Or.inr ⟨g, 0, #[], rfl, hg, Nat.le_refl _, Nat.zero_le _, by simp, by simp⟩⟩
  exact step_appSrcN T hgd s x ho H2 hs hx (Src.ofRd T H2 hr hl h1) (Nat.zero_add m) (List.nil_append vs) hb hn h
end
end Go.Proofs.YtekioplbfoonkaaGreatDoor
namespace Go.Proofs.YtekioplbfoonkaaGreatDoor
open Go.RowKit
set_option linter.unusedVariables false
set_option maxRecDepth 100000
theorem op_max {P : Program} {o : Oper} {ev : Operand → Value} {x y : Operand} {t u : TypeId} (ho : o.op = .call { callee := .builtin .max, args := #[x, y], argTypes := #[t, u] }) (w : World) {z c : Int} (hx : ev x = .int .i64 z) (hy : ev y = .int .i64 c) :
    (execOp ev o).run P w = .ok (.value (.int .i64 (max z c))) w := by
  by_cases h : z < c
  · have e : max z c = c := by omega
    rw [e]; simp [execOp, ho, resolve, invoke, builtin, hx, hy, go_sem]; omega
  · have e : max z c = z := by omega
    rw [e]; simp [execOp, ho, resolve, invoke, builtin, hx, hy, go_sem]; omega
theorem op_min {P : Program} {o : Oper} {ev : Operand → Value} {x y : Operand} {t u : TypeId} (ho : o.op = .call { callee := .builtin .min, args := #[x, y], argTypes := #[t, u] }) (w : World) {z c : Int} (hx : ev x = .int .i64 z) (hy : ev y = .int .i64 c) :
    (execOp ev o).run P w = .ok (.value (.int .i64 (min z c))) w := by
  by_cases h : z < c
  · have e : min z c = z := by omega
    rw [e]; simp [execOp, ho, resolve, invoke, builtin, hx, hy, go_sem]; omega
  · have e : min z c = c := by omega
    rw [e]; simp [execOp, ho, resolve, invoke, builtin, hx, hy, go_sem]; omega
section
variable {P : Program} {ops : Array Oper} {rest : List Oper} {o : Oper} {a : Act} {w : World} {Q : Exit → Act → World → Prop} {x y : Operand} {t u : TypeId} {z c m : Int}
theorem wpList_max (hgd : o.guard = none) (ho : o.op = .call { callee := .builtin .max, args := #[x, y], argTypes := #[t, u] }) (hx : a.eval x = .int .i64 z) (hy : a.eval y = .int .i64 c) (hm : max z c = m)
    (h : wpList P ops Q rest (a.put o.dst (.int .i64 m)) w) : wpList P ops Q (o :: rest) a w := by
  subst hm
  exact wpList_val hgd _ (op_max ho w hx hy) h
theorem wpList_min (hgd : o.guard = none) (ho : o.op = .call { callee := .builtin .min, args := #[x, y], argTypes := #[t, u] }) (hx : a.eval x = .int .i64 z) (hy : a.eval y = .int .i64 c) (hm : min z c = m)
    (h : wpList P ops Q rest (a.put o.dst (.int .i64 m)) w) : wpList P ops Q (o :: rest) a w := by
  subst hm
  exact wpList_val hgd _ (op_min ho w hx hy) h
end
end Go.Proofs.YtekioplbfoonkaaGreatDoor
namespace Go.Proofs.YtekioplbfoonkaaGreatDoor
open Go.RowKit
set_option linter.unusedVariables false
set_option maxRecDepth 100000

theorem baApp (a b : List UInt8) : (⟨a.toArray⟩ : ByteArray) ++ ⟨b.toArray⟩ = ⟨(a ++ b).toArray⟩ := by
  apply ByteArray.ext
  simp
theorem baAll (s : ByteArray) (n : Nat) (h : s.size ≤ n) : s.extract 0 n = s := by
  apply ByteArray.ext
  rw [ByteArray.data_extract]
  apply Array.toList_inj.1
  rw [Array.toList_extract]
  have h' : s.data.toList.length ≤ n := by rw [Array.length_toList]; exact h
  simp [List.extract, List.take_of_length_le h']
theorem cutSize (s : ByteArray) (n : Nat) : (s.extract 0 n).size ≤ n := by
  rw [ByteArray.size_extract]; omega
theorem cut_eq (w : World) (s : ByteArray) (n : Nat) (hn : n ≤ 100000) (hs : s.size ≤ 9223372036854775807) :
    Calls Tryz.prog 43 #[.string s, .int .i64 (n : Int)] w fun e w' => e = .returned (.string (s.extract 0 n)) ∧ w' = w := by
  by_cases h : n < s.size
  · have h' : (n : Int) < (s.size : Int) := by omega
    go_enter Tryz.func43, Tryz.ntmps43
    go_wp2_with fail
    go_ret
    exact ⟨rfl, rfl⟩
  · have h' : ¬ (n : Int) < (s.size : Int) := by omega
    go_enter Tryz.func43, Tryz.ntmps43
    go_wp2_with fail
    go_ret
    refine ⟨?_, rfl⟩
    rw [baAll s n (by omega)]; rfl
theorem cut_sat {w0 w : World} {I : Part} {L : List HP} (s : ByteArray) (n : Nat) (hn : n ≤ 100000) (hs : s.size ≤ 9223372036854775807) (h : Sat w0 I L w) :
    Calls Tryz.prog 43 #[.string s, .int .i64 (n : Int)] w fun e w' => e = .returned (.string (s.extract 0 n)) ∧ Sat w0 I L w' :=
  (cut_eq w s n hn hs).mono fun e w' ⟨h1, h2⟩ => ⟨h1, h2 ▸ h⟩
end Go.Proofs.YtekioplbfoonkaaGreatDoor
