/- Memory in parts: what is said of each part of the memory alone, and how a step changes one part and leaves the others. -/
import Derived.Test.YtecdnlmagaoccaaOwn
namespace Go.Proofs.Ytecdnlmagaoccaa
open Go.RowKit
set_option linter.unusedVariables false

/-- a part of the memory. -/
abbrev Part := Nat → Option Obj
def Part.le (g h : Part) : Prop := ∀ b o, g b = some o → h b = some o
def Part.minus (h g : Part) : Part := fun b => if (g b).isSome then none else h b
def wpart (w : World) : Part := fun b => w.heap[b]?
/-- what is said of a part. -/
abbrev HP := Part → Prop
/-- each of L holds of a part of its own. -/
def sepL : List HP → HP
  | [], _ => True
  | A :: L, h => ∃ g, Part.le g h ∧ A g ∧ sepL L (h.minus g)
def Part.emp : Part := fun _ => none
theorem Part.emp_le (h : Part) : Part.emp.le h := fun _ _ e => by cases e
theorem Part.le_minus_emp (h : Part) : h.le (h.minus Part.emp) := fun b o e => by
  unfold Part.minus Part.emp; simpa using e
theorem Part.le_refl (g : Part) : g.le g := fun _ _ h => h
theorem Part.le_trans {a b c : Part} (h : a.le b) (k : b.le c) : a.le c := fun x o e => k x o (h x o e)
theorem Part.minus_le (h g : Part) : (h.minus g).le h := fun b o e => by
  unfold Part.minus at e; split at e
  · cases e
  · exact e
theorem Part.minus_mono {h h' : Part} (k : h.le h') (g : Part) : (h.minus g).le (h'.minus g) := fun b o e => by
  unfold Part.minus at *; split at e
  · cases e
  · rename_i hn; rw [if_neg hn]; exact k b o e
theorem Part.minus_none {h g : Part} {b : Nat} {o : Obj} (e : (h.minus g) b = some o) : g b = none := by
  unfold Part.minus at e; split at e
  · cases e
  · rename_i hn; simpa using hn
theorem Part.minus_some {h g : Part} {b : Nat} {o : Obj} (e : h b = some o) (hn : g b = none) : (h.minus g) b = some o := by
  unfold Part.minus; rw [hn]; simpa using e
theorem sepL_mono : ∀ (L : List HP) {h h' : Part}, h.le h' → sepL L h → sepL L h'
  | [], _, _, _, _ => trivial
  | A :: L, h, h', k, ⟨g, hg, hA, hL⟩ => ⟨g, Part.le_trans hg k, hA, sepL_mono L (Part.minus_mono k g) hL⟩
theorem sepL_swap {A B : HP} {L : List HP} {h : Part} : sepL (A :: B :: L) h → sepL (B :: A :: L) h := by
  rintro ⟨gA, hA, a, gB, hB, b, hL⟩
  refine ⟨gB, Part.le_trans hB (Part.minus_le _ _), b, gA, fun x o e => Part.minus_some (hA x o e) ?_, a, ?_⟩
  · cases hx : gB x with
    | none => rfl
    | some u => have := Part.minus_none (hB x u hx); rw [this] at e; cases e
  · refine sepL_mono L ?_ hL
    intro x o e
    have e1 := Part.minus_none e
    have e2 := Part.minus_le _ _ x o e
    have e3 := Part.minus_none e2
    exact Part.minus_some (Part.minus_some (Part.minus_le _ _ x o e2) e1) e3
theorem sepL_pick : ∀ (i : Nat) {L : List HP} {A : HP} {h : Part}, L[i]? = some A → sepL L h → sepL (A :: L.eraseIdx i) h
  | _, [], _, _, e, _ => by simp at e
  | 0, B :: L, A, h, e, s => by simp at e; subst e; simpa using s
  | i + 1, B :: L, A, h, e, s => by
    obtain ⟨g, hg, hB, hL⟩ := s
    have := sepL_pick i (L := L) (A := A) (by simpa using e) hL
    have s2 : sepL (B :: A :: L.eraseIdx i) h := ⟨g, hg, hB, this⟩
    simpa using sepL_swap s2
theorem sepL_flat : ∀ (M : List HP) {L : List HP} {h : Part}, sepL (sepL M :: L) h → sepL (M ++ L) h
  | [], L, h, ⟨g, hg, _, hL⟩ => sepL_mono L (Part.minus_le _ _) hL
  | A :: M, L, h, ⟨g, hg, ⟨gA, hA, a, hM⟩, hL⟩ => by
    refine ⟨gA, Part.le_trans hA hg, a, sepL_flat M ⟨g.minus gA, Part.minus_mono hg gA, hM, sepL_mono L ?_ hL⟩⟩
    intro b o e
    have e1 := Part.minus_none e
    refine Part.minus_some (Part.minus_some (Part.minus_le _ _ b o e) ?_) ?_
    · cases hx : gA b with
      | none => rfl
      | some u => rw [hA b u hx] at e1; cases e1
    · cases hx : (g.minus gA) b with
      | none => rfl
      | some u => rw [Part.minus_le _ _ b u hx] at e1; cases e1
theorem sepL_join : ∀ (M : List HP) {L : List HP} {h : Part}, sepL (M ++ L) h → sepL (sepL M :: L) h
  | [], L, h, s => ⟨Part.emp, Part.emp_le _, trivial, sepL_mono L (Part.le_minus_emp _) s⟩
  | A :: M, L, h, ⟨gA, hA, a, s⟩ => by
    obtain ⟨g, hg, hM, hL⟩ := sepL_join M s
    refine ⟨fun b => (gA b).or (g b), ?_, ⟨gA, ?_, a, sepL_mono M ?_ hM⟩, sepL_mono L ?_ hL⟩
    · intro b o e
      cases hx : gA b with
      | none => simp only [hx, Option.none_or] at e; exact Part.minus_le _ _ b o (hg b o e)
      | some u => simp only [hx, Option.some_or] at e; rw [← e]; exact hA b u hx
    · intro b o e
      show (gA b).or (g b) = some o
      rw [e]; rfl
    · intro b o e
      have := Part.minus_none (hg b o e)
      refine Part.minus_some ?_ this
      show (gA b).or (g b) = some o
      rw [this, e]; rfl
    · intro b o e
      have e1 := Part.minus_none e
      have e2 := Part.minus_none (Part.minus_le _ _ b o e)
      refine Part.minus_some (Part.minus_le _ _ b o (Part.minus_le _ _ b o e)) ?_
      show (gA b).or (g b) = none
      rw [e2, e1]; rfl

/-- since w0 the streams are as they were; I lies in the memory and stays for good; beside it L, each in a part of its own. -/
structure Sat (w0 : World) (I : Part) (L : List HP) (w : World) : Prop where
  os : w.os = w0.os
  tape : w.tape = w0.tape
  output : w.output = w0.output
  size : w0.heap.size ≤ w.heap.size
  imm : I.le (wpart w)
  sep : sepL L ((wpart w).minus I)
theorem wpart_lt {w : World} {b : Nat} {o : Obj} (h : wpart w b = some o) : b < w.heap.size := (Array.getElem?_eq_some_iff.1 h).1
theorem wpart_none (w : World) {b : Nat} (h : w.heap.size ≤ b) : wpart w b = none := by unfold wpart; exact Array.getElem?_eq_none (by omega)
section
variable {w0 w w' : World} {I : Part} {L M : List HP} {A A' B : HP}
theorem Sat.start (w : World) : Sat w (wpart w) [] w := ⟨rfl, rfl, rfl, Nat.le_refl _, Part.le_refl _, trivial⟩
theorem Sat.mapL (h : Sat w0 I L w) (k : ∀ g, sepL L g → sepL M g) : Sat w0 I M w := ⟨h.os, h.tape, h.output, h.size, h.imm, k _ h.sep⟩
theorem Sat.swap (h : Sat w0 I (A :: B :: L) w) : Sat w0 I (B :: A :: L) w := h.mapL fun _ => sepL_swap
/-- the i-th part ahead. -/
theorem Sat.pick (h : Sat w0 I L w) (i : Nat) (hA : L[i]? = some A := by rfl) (hL : L.eraseIdx i = M := by rfl) : Sat w0 I (A :: M) w := h.mapL fun _ s => hL ▸ sepL_pick i hA s
theorem Sat.drop (h : Sat w0 I (A :: L) w) : Sat w0 I L w := h.mapL fun g ⟨a, ha, _, s⟩ => sepL_mono L (Part.minus_le _ _) s
theorem Sat.flat (h : Sat w0 I (sepL M :: L) w) : Sat w0 I (M ++ L) w := h.mapL fun _ s => sepL_flat M s
theorem Sat.join (h : Sat w0 I (M ++ L) w) : Sat w0 I (sepL M :: L) w := h.mapL fun _ s => sepL_join M s
theorem Sat.weaken (h : Sat w0 I (A :: L) w) (k : ∀ g, A g → B g) : Sat w0 I (B :: L) w := h.mapL fun _ ⟨g, hg, a, s⟩ => ⟨g, hg, k g a, s⟩
theorem Sat.elim (h : Sat w0 I (A :: L) w) : ∃ g, A g ∧ g.le (wpart w) ∧ ∀ B : HP, B g → Sat w0 I (B :: L) w := by
  obtain ⟨g, hg, a, s⟩ := h.sep
  exact ⟨g, a, Part.le_trans hg (Part.minus_le _ _), fun B b => ⟨h.os, h.tape, h.output, h.size, h.imm, g, hg, b, s⟩⟩
theorem Sat.of (h : Sat w0 I (M ++ L) w) (k : ∀ g, sepL M g → B g) : Sat w0 I (B :: L) w := h.join.weaken k
theorem Sat.add (h : Sat w0 I L w) : Sat w0 I ((fun _ => True) :: L) w := h.mapL fun g s => ⟨Part.emp, Part.emp_le _, trivial, sepL_mono L (Part.le_minus_emp _) s⟩
/-- what a step of one part does. -/
theorem Sat.change (h : Sat w0 I (A :: L) w) (k : ∀ g, A g → g.le (wpart w) → ∃ S : Nat → Prop, (∀ b, S b → b < w.heap.size → (g b).isSome = true) ∧ Mod S w w' ∧
    ∀ g' : Part, (∀ b, ((g b).isSome = true ∨ w.heap.size ≤ b) → g' b = w'.heap[b]?) → A' g') : Sat w0 I (A' :: L) w' := by
  classical
  obtain ⟨g, hg, a, s⟩ := h.sep
  obtain ⟨S, hS, hm, hA'⟩ := k g a (Part.le_trans hg (Part.minus_le _ _))
  have keep : ∀ b o, wpart w b = some o → g b = none → wpart w' b = some o := fun b o e en => by
    unfold wpart at *
    rw [hm.block b (wpart_lt e) (fun hs => by have := hS b hs (wpart_lt e); rw [en] at this; cases this)]; exact e
  have gI : ∀ b o, g b = some o → I b = none := fun b o e => Part.minus_none (hg b o e)
  have Ig : ∀ b o, I b = some o → g b = none := fun b o e => by
    cases hx : g b with
    | none => rfl
    | some u => rw [gI b u hx] at e; cases e
  refine ⟨hm.os.trans h.os, hm.tape.trans h.tape, hm.output.trans h.output, Nat.le_trans h.size hm.size, fun b o e => keep b o (h.imm b o e) (Ig b o e), ?_⟩
  refine ⟨fun b => if (g b).isSome = true ∨ w.heap.size ≤ b then w'.heap[b]? else none, ?_, hA' _ (fun b hb => if_pos hb), ?_⟩
  · intro b o e
    replace e : (if (g b).isSome = true ∨ w.heap.size ≤ b then w'.heap[b]? else none) = some o := e
    split at e
    · rename_i hb
      refine Part.minus_some e ?_
      rcases hb with hb | hb
      · cases hx : g b with
        | none => rw [hx] at hb; cases hb
        | some u => exact gI b u hx
      · cases hx : I b with
        | none => rfl
        | some u => have := wpart_lt (h.imm b u hx); omega
    · cases e
  · refine sepL_mono L ?_ s
    intro b o e
    have e1 := Part.minus_none e
    have e2 := Part.minus_le _ _ b o e
    have e3 := Part.minus_none e2
    have e4 := Part.minus_le _ _ b o e2
    refine Part.minus_some (Part.minus_some (keep b o e4 e1) e3) ?_
    have := wpart_lt e4
    simp [e1]; omega
theorem Sat.mod (h : Sat w0 I L w) (hm : Mod (fun _ => False) w w') : Sat w0 I L w' :=
  (h.add.change (A' := fun _ => True) fun g _ _ => ⟨fun _ => False, fun _ hx => hx.elim, hm, fun _ _ => trivial⟩).drop
theorem Sat.below (h : Sat w0 I L w) (hb : Below w.heap.size w w') : Sat w0 I L w' := h.mod (Mod.of_below hb)
theorem Sat.drewN (h : Sat w0 I L w) (n : Nat) : Sat w0 I L (w.drewN n) := ⟨h.os, h.tape, h.output, h.size, h.imm, h.sep⟩
theorem Sat.drew (h : Sat w0 I L w) : Sat w0 I L w.drew := ⟨h.os, h.tape, h.output, h.size, h.imm, h.sep⟩
theorem Sat.allocO (h : Sat w0 I L w) (o : Obj) : Sat w0 I ((fun g => g w.heap.size = some o) :: L) (w.alloc o) :=
  h.add.change fun g _ _ => ⟨fun _ => False, fun _ hx => hx.elim, (Mod.refl _ _).alloc o, fun g' hg => by
    rw [hg _ (Or.inr (Nat.le_refl _))]; unfold World.alloc; simp⟩
theorem Sat.alloc_ (h : Sat w0 I L w) (o : Obj) : Sat w0 I L (w.alloc o) := (h.allocO o).drop

/-- block b is this one, whole. -/
def blk (b : Nat) (T : TypeId) (cs : List Value) : HP := fun g => g b = some (.cells cs.toArray T (0, 0))
variable {b c : Nat} {T U : TypeId} {cs ds : List Value}
theorem Sat.isBlk (h : Sat w0 I (blk b T cs :: L) w) : Blk w b T cs := by
  obtain ⟨g, hg, hle, _⟩ := h.elim
  exact hle _ _ hg
theorem Sat.alloc (h : Sat w0 I L w) {vs : Array Value} (hv : cs.toArray = vs) (hb : b = w.heap.size) : Sat w0 I (blk b T cs :: L) (w.alloc (.cells vs T)) := by
  subst hb hv; exact h.allocO _
theorem Sat.set (h : Sat w0 I (blk b T cs :: L) w) (i : Nat) (v : Value) {cs' : List Value} (hc : cs.set i v = cs') : Sat w0 I (blk b T cs' :: L) (w.setCell ⟨b, i, none⟩ v) := by
  have hB := h.isBlk
  refine h.change fun g hg hle => ⟨fun k => k = b, fun k hk _ => by subst hk; unfold blk at hg; rw [hg]; rfl, Mod.setCell (S := fun k => k = b) (p := ⟨b, i, none⟩) (Mod.refl _ _) (fun _ => rfl) v, fun g' hg' => ?_⟩
  have hs := hB.set' i v hc
  unfold blk at hg ⊢
  rw [hg' b (Or.inl (by rw [hg]; rfl))]
  exact hs
theorem Sat.set1 (h : Sat w0 I (A :: blk b T cs :: L) w) (i : Nat) (v : Value) {cs' : List Value} (hc : cs.set i v = cs') : Sat w0 I (A :: blk b T cs' :: L) (w.setCell ⟨b, i, none⟩ v) := (h.swap.set i v hc).swap
theorem Sat.set2 (h : Sat w0 I (A :: B :: blk b T cs :: L) w) (i : Nat) (v : Value) {cs' : List Value} (hc : cs.set i v = cs') : Sat w0 I (A :: B :: blk b T cs' :: L) (w.setCell ⟨b, i, none⟩ v) := by
  have h1 : Sat w0 I (blk b T cs :: A :: B :: L) w := h.pick 2
  exact (h1.set i v hc).mapL fun g s => by
    have s1 : sepL (A :: blk b T cs' :: B :: L) g := sepL_swap s
    obtain ⟨x, hx, a, s2⟩ := s1
    exact ⟨x, hx, a, sepL_swap s2⟩
theorem Sat.set3 {C : HP} (h : Sat w0 I (A :: B :: C :: blk b T cs :: L) w) (i : Nat) (v : Value) {cs' : List Value} (hc : cs.set i v = cs') : Sat w0 I (A :: B :: C :: blk b T cs' :: L) (w.setCell ⟨b, i, none⟩ v) := by
  have h1 : Sat w0 I (blk b T cs :: A :: B :: C :: L) w := h.pick 3
  exact (h1.set i v hc).mapL fun g s => by
    have s1 : sepL (A :: blk b T cs' :: B :: C :: L) g := sepL_swap s
    obtain ⟨x, hx, a, s2⟩ := s1
    have s3 : sepL (B :: blk b T cs' :: C :: L) _ := sepL_swap s2
    obtain ⟨y, hy, a2, s4⟩ := s3
    exact ⟨x, hx, a, y, hy, a2, sepL_swap s4⟩
/-- two blocks are two. -/
theorem Sat.ne (h : Sat w0 I (blk b T cs :: blk c U ds :: L) w) : b ≠ c := by
  obtain ⟨g, hg, x, g2, hg2, y, s⟩ := h.sep
  intro e
  subst e
  have := Part.minus_none (hg2 _ _ y)
  unfold blk at x
  rw [this] at x; cases x

/-- a slice that is owned whole: n elements, of sz cells each; its cells are xs. -/
def row (e : TypeId) (sz : Nat) (v : Value) (n : Nat) (xs : List Value) : HP := fun g =>
  xs.length = n * sz ∧ ((v = .slice none 0 0 ∧ n = 0) ∨
    ∃ b cap cur, v = .slice (some ⟨b, 0, none⟩) n cap ∧ g b = some (.cells cur e (0, 0)) ∧ n ≤ cap ∧ cap ≤ maxLen ∧ cur.size = cap * sz ∧ cur.toList.take (n * sz) = xs)
variable {e : TypeId} {sz n m : Nat} {v v' : Value} {xs ys : List Value}
theorem Sat.isRow (h : Sat w0 I (row e sz v n xs :: L) w) : w.ownsRow 0 e sz v n xs := by
  obtain ⟨g, ⟨hl, hg⟩, hle, _⟩ := h.elim
  refine ⟨hl, ?_⟩
  rcases hg with hg | ⟨b, cap, cur, hv, hb, r⟩
  · exact Or.inl hg
  · exact Or.inr ⟨b, cap, cur, hv, Nat.zero_le _, hle _ _ hb, r⟩
theorem Sat.nilRow (h : Sat w0 I L w) (e : TypeId) (sz : Nat) : Sat w0 I (row e sz (.slice none 0 0) 0 [] :: L) w := h.add.weaken fun g _ => ⟨by simp, Or.inl ⟨rfl, rfl⟩⟩
/-- a row that was written, or grew. -/
theorem Sat.grown {base : Nat} (h : Sat w0 I (row e sz v n xs :: L) w) (ho : w'.ownsRow base e sz v' m ys) (hg : w.grownBy w' v.ownBlock) (hm : Moved w v v') : Sat w0 I (row e sz v' m ys :: L) w' := by
  refine h.change fun g ⟨hl, hr⟩ hle => ⟨fun k => v.ownBlock = some k, fun k hk hlt => ?_, (Mod.refl _ _).grown hg (fun k hk _ => hk), fun g' hg' => ?_⟩
  · rcases hr with ⟨rfl, _⟩ | ⟨b, cap, cur, rfl, hb, _⟩
    · cases hk
    · simp only [Value.ownBlock, Option.some.injEq] at hk; subst hk; rw [hb]; rfl
  · refine ⟨ho.1, ?_⟩
    rcases ho.2 with ho | ⟨b, cap, cur, hv, _, hh, r⟩
    · exact Or.inl ho
    · refine Or.inr ⟨b, cap, cur, hv, ?_, r⟩
      rw [hg' b ?_]
      · exact hh
      · subst hv
        rcases hm b rfl with h1 | h1
        · left
          rcases hr with ⟨rfl, _⟩ | ⟨b', cap', cur', rfl, hb', _⟩
          · cases h1
          · simp only [Value.ownBlock, Option.some.injEq] at h1; subst h1; rw [hb']; rfl
        · exact Or.inr h1
theorem Sat.rowSet {g cap : Nat} (h : Sat w0 I (row e sz (.slice (some ⟨g, 0, none⟩) n cap) n xs :: L) w) (i : Nat) (u : Value) : Sat w0 I (row e sz (.slice (some ⟨g, 0, none⟩) n cap) n (xs.set i u) :: L) (w.setCell ⟨g, i, none⟩ u) := by
  refine h.grown (own_set h.isRow i u) ⟨rfl, rfl, rfl, by simp, fun k hk hne => Below.heap_setCell _ _ _ _ (fun e => hne (by rw [e]; rfl))⟩ (fun k hk => Or.inl hk)
theorem Sat.rowBlk (h : Sat w0 I (row e sz v n xs :: blk b T cs :: L) w) : v.ownBlock ≠ some b := by
  obtain ⟨g, hg, ⟨_, hr⟩, g2, hg2, y, s⟩ := h.sep
  intro ev
  have := Part.minus_none (hg2 _ _ y)
  rcases hr with ⟨rfl, _⟩ | ⟨b', cap, cur, rfl, hb, _⟩
  · cases ev
  · simp only [Value.ownBlock, Option.some.injEq] at ev; subst ev; rw [this] at hb; cases hb

theorem cell_alloc {w : World} {a : Addr} {v : Value} (h : w.cell? a = some v) (o : Obj) : (w.alloc o).cell? a = some v := by
  rw [World.cell?_alloc_lt _ _ _ (World.block_lt_of_cell? _ _ h)]; exact h
/-! ### What stays for good -/
def cellI (I : Part) (b o : Nat) : Option Value := match I b with
  | some (.cells c _ _) => c[o]?
  | _ => none
theorem cellI_mono {I J : Part} (h : I.le J) {b o : Nat} {v : Value} (k : cellI I b o = some v) : cellI J b o = some v := by
  unfold cellI at *
  cases hx : I b with
  | none => rw [hx] at k; cases k
  | some u => rw [h b u hx]; rw [hx] at k; exact k
theorem Sat.atI (h : Sat w0 I L w) {b o : Nat} {v : Value} (k : cellI I b o = some v) : w.cell? ⟨b, o, none⟩ = some v := by
  have := cellI_mono h.imm k
  unfold cellI wpart at this
  unfold World.cell?
  simp only
  cases hx : w.heap[b]? with
  | none => rw [hx] at this; cases this
  | some u => rw [hx] at this; cases u <;> simp_all
/-- these cells lie at a, and stay. -/
def Rd (I : Part) (a : Option Addr) (vs : List Value) : Prop := ∀ i (h : i < vs.length), ∃ b off, a = some ⟨b, off, none⟩ ∧ cellI I b (off + i) = some vs[i]
theorem Rd.mono {I J : Part} {a : Option Addr} {vs : List Value} (h : Rd I a vs) (k : I.le J) : Rd J a vs := fun i hi => by
  obtain ⟨b, off, e, hc⟩ := h i hi
  exact ⟨b, off, e, cellI_mono k hc⟩
theorem Rd.nil (I : Part) (a : Option Addr) : Rd I a [] := fun i hi => absurd hi (Nat.not_lt_zero _)
theorem Rd.get {a : Option Addr} {vs : List Value} (h : Rd I a vs) (H : Sat w0 I L w) (i : Nat) {u : Value} (hi : vs[i]? = some u) : ∃ b off, a = some ⟨b, off, none⟩ ∧ w.cell? ⟨b, off + i, none⟩ = some u := by
  obtain ⟨hlt, rfl⟩ := List.getElem?_eq_some_iff.1 hi
  obtain ⟨b, off, e, hc⟩ := h i hlt
  exact ⟨b, off, e, H.atI hc⟩
theorem Rd.ints {a : Option Addr} {k : IntKind} {zs : List Int} (h : Rd I a (zs.map (Value.int k))) (H : Sat w0 I L w) : IntsAt k w a zs := fun i hi => by
  exact h.get H i (by simp [hi])
/-- the first part stays as it is for good. -/
theorem Sat.freeze (h : Sat w0 I (A :: L) w) : ∃ J, I.le J ∧ Sat w0 J L w ∧ ∃ g, A g ∧ g.le J := by
  obtain ⟨g, hg, a, s⟩ := h.sep
  have gI : ∀ b o, g b = some o → I b = none := fun b o e => Part.minus_none (hg b o e)
  refine ⟨fun b => (I b).or (g b), fun b o e => by show (I b).or (g b) = some o; rw [e]; rfl, ⟨h.os, h.tape, h.output, h.size, ?_, sepL_mono L ?_ s⟩, g, a, fun b o e => by show (I b).or (g b) = some o; rw [gI b o e, e]; rfl⟩
  · intro b o e
    cases hx : I b with
    | none => simp only [hx, Option.none_or] at e; exact Part.minus_le _ _ b o (hg b o e)
    | some u => simp only [hx, Option.some_or] at e; rw [← e]; exact h.imm b u hx
  · intro b o e
    have e1 := Part.minus_none e
    have e2 := Part.minus_le _ _ b o e
    refine Part.minus_some (Part.minus_le _ _ b o e2) ?_
    show (I b).or (g b) = none
    rw [Part.minus_none e2, e1]; rfl
theorem Sat.freezeBlk (h : Sat w0 I (blk b T cs :: L) w) : ∃ J, I.le J ∧ Sat w0 J L w ∧ Rd J (some ⟨b, 0, none⟩) cs := by
  obtain ⟨J, hJ, S, g, hg, hle⟩ := h.freeze
  refine ⟨J, hJ, S, fun i hi => ⟨b, 0, rfl, ?_⟩⟩
  have := hle _ _ hg
  unfold cellI
  rw [this]; simp [hi]
theorem Sat.freezeRow (h : Sat w0 I (row e sz v n xs :: L) w) : ∃ J a cap, I.le J ∧ Sat w0 J L w ∧ v = .slice a n cap ∧ n ≤ cap ∧ cap ≤ maxLen ∧ xs.length = n * sz ∧ Rd J a xs := by
  obtain ⟨J, hJ, S, g, ⟨hl, hr⟩, hle⟩ := h.freeze
  rcases hr with ⟨rfl, rfl⟩ | ⟨b, cap, cur, rfl, hb, h1, h2, h3, h4⟩
  · refine ⟨J, none, 0, hJ, S, rfl, Nat.le_refl _, Nat.zero_le _, hl, ?_⟩
    have : xs = [] := List.eq_nil_of_length_eq_zero (by simpa using hl)
    subst this; exact Rd.nil _ _
  · refine ⟨J, _, cap, hJ, S, rfl, h1, h2, hl, fun i hi => ⟨b, 0, rfl, ?_⟩⟩
    have := hle _ _ hb
    unfold cellI
    rw [this]
    simp only [Nat.zero_add]
    have h5 : (cur.toList.take (n * sz))[i]? = some xs[i] := by rw [h4]; simp [hi]
    rw [List.getElem?_take_of_lt (by omega)] at h5
    simpa using h5
/-- whatever a call made, and kept apart, stays for good. -/
theorem Sat.belowI (h : Sat w0 I L w) (hb : Below w.heap.size w w') : ∃ J, I.le J ∧ Sat w0 J L w' ∧ ∀ k o, w.heap.size ≤ k → w'.heap[k]? = some o → J k = some o := by
  refine ⟨fun k => if w.heap.size ≤ k then w'.heap[k]? else I k, fun k o e => ?_, ⟨hb.os.trans h.os, hb.tape.trans h.tape, hb.output.trans h.output, Nat.le_trans h.size hb.size, ?_, sepL_mono L ?_ h.sep⟩, fun k o hk e => by show (if w.heap.size ≤ k then _ else _) = _; rw [if_pos hk]; exact e⟩
  · have := wpart_lt (h.imm k o e)
    show (if w.heap.size ≤ k then _ else _) = _
    rw [if_neg (by omega)]; exact e
  · intro k o e
    replace e : (if w.heap.size ≤ k then w'.heap[k]? else I k) = some o := e
    split at e
    · exact e
    · have := h.imm k o e
      unfold wpart at *
      rw [hb.block k (by omega)]; exact this
  · intro k o e
    have e1 := Part.minus_none e
    have e2 := Part.minus_le _ _ k o e
    have e3 := wpart_lt e2
    refine Part.minus_some (by unfold wpart at *; rw [hb.block k e3]; exact e2) ?_
    show (if w.heap.size ≤ k then _ else _) = _
    rw [if_neg (by omega)]; exact e1
/-- at the end: below what was there at the start nothing has changed. -/
theorem Sat.toBelow (h : Sat w0 I L w) (hI : (wpart w0).le I) : Below w0.heap.size w0 w :=
  ⟨h.os, h.tape, h.output, h.size, fun k hk => by
    have e : wpart w0 k = some (w0.heap[k]) := by unfold wpart; simp [hk]
    have := h.imm _ _ (hI _ _ e)
    unfold wpart at *
    rw [this, e]⟩
end

/-- a call that changes nothing of what is known. -/
theorem ret_sat {P : Program} {f : FuncId} {args : Array Value} {v : Value} {w0 w : World} {I : Part} {L : List HP} (h : Calls P f args w (Ret v w)) (H : Sat w0 I L w) : Calls P f args w fun r w' => r = .returned v ∧ Sat w0 I L w' :=
  h.mono fun e w' ⟨he, n, hw⟩ => ⟨he, by subst hw; exact H.drewN n⟩
theorem retB_sat {P : Program} {f : FuncId} {args : Array Value} {v : Value} {w0 w : World} {I : Part} {L : List HP} (h : Calls P f args w (RetB v w.heap.size w)) (H : Sat w0 I L w) : Calls P f args w fun r w' => r = .returned v ∧ Sat w0 I L w' :=
  h.mono fun e w' ⟨he, hb⟩ => ⟨he, H.below hb⟩
/-! ### append, in parts -/
section
variable {P : Program} {w0 w : World} {I : Part} {L : List HP} {a : Act} {o : Oper} {Q : Exit → Act → World → Prop}
theorem wp_appS {K : Act → World → Prop} {t e : TypeId} {size bytes : Nat} (T : SliceT P t e size bytes) (s x : Operand)
    (ho : o.op = .call { callee := .builtin .append, args := #[s, x], argTypes := #[t, t] })
    {v : Value} {n : Nat} {xs : List Value} (H : Sat w0 I (row e size v n xs :: L) w) (news : List Value) (hs : a.eval s = v)
    {g : Nat} (hx : a.eval x = .slice (some ⟨g, 0, none⟩) 1 1) (hgs : g = w.heap.size) (hl : news.length = size) (h1 : ∀ u ∈ news, u.oneCell' = true)
    (hb : (n + 1) * bytes ≤ 140737488355328) (hn : n + 1 ≤ 140737488355328)
    (h : ∀ ad cap w', n + 1 ≤ cap → cap ≤ 9223372036854775807 → Sat w0 I (row e size (.slice ad (n + 1) cap) (n + 1) (xs ++ news) :: L) w' → K (a.put o.dst (.slice ad (n + 1) cap)) w') : o.wp P a (w.alloc (.cells news.toArray e)) K Q :=
  wp_app1m T s x ho 0 v n xs news hs H.isRow hx hgs hl h1 hb hn (Nat.zero_le _) fun v' w' h2 h3 h4 h5 => by
    obtain ⟨ad, cap, rfl, hc1, hc2⟩ := own_shape h2
    exact h ad cap w' hc1 hc2 (H.grown h2 h3 h5)
theorem wpList_appS {ops : Array Oper} {rest : List Oper} {t e : TypeId} {size bytes : Nat} (T : SliceT P t e size bytes) (hgd : o.guard = none) (s x : Operand)
    (ho : o.op = .call { callee := .builtin .append, args := #[s, x], argTypes := #[t, t] })
    {v : Value} {n : Nat} {xs : List Value} (H : Sat w0 I (row e size v n xs :: L) w) (news : List Value) (hs : a.eval s = v)
    {g : Nat} (hx : a.eval x = .slice (some ⟨g, 0, none⟩) 1 1) (hgs : g = w.heap.size) (hl : news.length = size) (h1 : ∀ u ∈ news, u.oneCell' = true)
    (hb : (n + 1) * bytes ≤ 140737488355328) (hn : n + 1 ≤ 140737488355328)
    (h : ∀ ad cap w', n + 1 ≤ cap → cap ≤ 9223372036854775807 → Sat w0 I (row e size (.slice ad (n + 1) cap) (n + 1) (xs ++ news) :: L) w' → wpList P ops Q rest (a.put o.dst (.slice ad (n + 1) cap)) w') : wpList P ops Q (o :: rest) a (w.alloc (.cells news.toArray e)) :=
  wpList_plain hgd fun _ hK => wp_appS T s x ho H news hs hx hgs hl h1 hb hn fun ad cap w' h1 h2 h3 => hK _ _ (h ad cap w' h1 h2 h3)
theorem step_appS {ops : Array Oper} {K : Act → World → Prop} {E : Prop} {t e : TypeId} {size bytes : Nat} (T : SliceT P t e size bytes) (hg : o.guard = none) (s x : Operand)
    (ho : o.op = .call { callee := .builtin .append, args := #[s, x], argTypes := #[t, t] })
    {v : Value} {n : Nat} {xs : List Value} (H : Sat w0 I (row e size v n xs :: L) w) (news : List Value) (hs : a.eval s = v)
    {g : Nat} (hx : a.eval x = .slice (some ⟨g, 0, none⟩) 1 1) (hgs : g = w.heap.size) (hl : news.length = size) (h1 : ∀ u ∈ news, u.oneCell' = true)
    (hb : (n + 1) * bytes ≤ 140737488355328) (hn : n + 1 ≤ 140737488355328)
    (h : ∀ ad cap w', n + 1 ≤ cap → cap ≤ 9223372036854775807 → Sat w0 I (row e size (.slice ad (n + 1) cap) (n + 1) (xs ++ news) :: L) w' → K (a.put o.dst (.slice ad (n + 1) cap)) w') :
    if Region.wanted o (yielded ops a.tmps) = true then Oper.wp P o a (w.alloc (.cells news.toArray e)) K Q else E := by
  have hw : Region.wanted o (yielded ops a.tmps) = true := by simp [Region.wanted, hg]
  rw [if_pos hw]
  exact wp_appS T s x ho H news hs hx hgs hl h1 hb hn h
end
end Go.Proofs.Ytecdnlmagaoccaa
