/- append of cells that lie somewhere, in parts of the memory. -/
import Derived.Test.YtecdnlmagaoccaaAppStr
import Derived.Test.YtecdnlmagaoccaaSat
namespace Go.Proofs.Ytecdnlmagaoccaa
open Go.RowKit
set_option linter.unusedVariables false

theorem add_zero_off (b j : Nat) : (⟨b, 0, none⟩ : Addr).add j = ⟨b, j, none⟩ := by unfold Addr.add; split <;> simp_all
theorem add_off (b off j : Nat) : (⟨b, off, none⟩ : Addr).add j = ⟨b, off + j, none⟩ := by unfold Addr.add; split <;> simp_all
section
variable {P : Program} {w0 w : World} {I : Part} {L : List HP} {A : HP} {a : Act} {o : Oper} {Q : Exit → Act → World → Prop}
theorem Src.ofRd {t e : TypeId} {size bytes : Nat} (T : SliceT P t e size bytes) (H : Sat w0 I L w) {ad : Option Addr} {m c : Nat} {vs : List Value} (hr : Rd I ad vs) (hl : vs.length = m * size) (h1 : ∀ u ∈ vs, u.oneCell' = true) : Src P size t (.slice ad m c) m vs w := by
  have hcells : ∀ w', Sat w0 I L w' → (Builtin.firstCells size m (.slice ad m c)).run P w' = .ok vs.toArray w' := fun w' H' => by
    cases ad with
    | none =>
      have : vs = [] := by
        cases vs with
        | nil => rfl
        | cons x r => obtain ⟨b, off, e, _⟩ := hr 0 (by simp); cases e
      subst this
      exact run_firstCells_none w' size m m c
    | some x =>
      refine run_firstCells_some w' size m x m c vs hl fun j v hj => ?_
      obtain ⟨b, off, e, hc⟩ := hr.get H' j hj
      cases e
      rw [add_off]; exact hc
  exact ⟨Or.inl ⟨e, T.ht⟩, fun w' => by simp [Builtin.lenOf], hcells w H, hcells w.drew H.drew, hl, h1⟩
theorem Src.ofBlk {t e U : TypeId} {size bytes g : Nat} {vs : List Value} (T : SliceT P t e size bytes) (H : Sat w0 I (A :: blk g U vs :: L) w) {c : Nat} {m : Nat} (hl : vs.length = m * size) (h1 : ∀ u ∈ vs, u.oneCell' = true) : Src P size t (.slice (some ⟨g, 0, none⟩) m c) m vs w := by
  have hcells : ∀ w', Sat w0 I (A :: blk g U vs :: L) w' → (Builtin.firstCells size m (.slice (some ⟨g, 0, none⟩) m c)).run P w' = .ok vs.toArray w' := fun w' H' => by
    refine run_firstCells_some w' size m ⟨g, 0, none⟩ m c vs hl fun j v hj => ?_
    rw [add_zero_off]; exact H'.swap.isBlk.cell j hj
  exact ⟨Or.inl ⟨e, T.ht⟩, fun w' => by simp [Builtin.lenOf], hcells w H, hcells w.drew H.drew, hl, h1⟩
theorem wp_appSrcS {K : Act → World → Prop} {t tx e : TypeId} {size bytes : Nat} (T : SliceT P t e size bytes) (s x : Operand)
    (ho : o.op = .call { callee := .builtin .append, args := #[s, x], argTypes := #[t, tx] })
    {g n cap m : Nat} {xs news : List Value} {xv : Value} (H : Sat w0 I (row e size (.slice (some ⟨g, 0, none⟩) n cap) n xs :: L) w) (hs : a.eval s = .slice (some ⟨g, 0, none⟩) n cap) (hx : a.eval x = xv) (hsrc : Src P size tx xv m news w)
    (hb : (n + m) * bytes ≤ 140737488355328) (hn : n + m ≤ 140737488355328)
    (h : ∀ g' cap' w', n + m ≤ cap' → cap' ≤ 9223372036854775807 → Sat w0 I (row e size (.slice (some ⟨g', 0, none⟩) (n + m) cap') (n + m) (xs ++ news) :: L) w' → K (a.put o.dst (.slice (some ⟨g', 0, none⟩) (n + m) cap')) w') : o.wp P a w K Q := by
  obtain ⟨v', w', hr, h2, h3, h4, ad, c, rfl⟩ := run_appSrc' (ty := o.type) T 0 _ n m xs news xv H.isRow (fun e => by cases e) hsrc hb hn (Nat.zero_le _)
  have hS := H.grown h2 h3 h4
  obtain ⟨a', c', hv, hc1, hc2⟩ := own_shape h2
  cases hv
  have hK := h ad c w' hc1 hc2 hS
  unfold Oper.wp execOp
  simp only [ho, resolve, invoke, builtin, Sem.run_bind, Sem.run_pure, Result.andThen_ok, List.map_toArray, List.map_cons, List.map_nil, hs, hx, hr]
  exact hK
theorem wpList_appSrcS {ops : Array Oper} {rest : List Oper} {t tx e : TypeId} {size bytes : Nat} (T : SliceT P t e size bytes) (hgd : o.guard = none) (s x : Operand)
    (ho : o.op = .call { callee := .builtin .append, args := #[s, x], argTypes := #[t, tx] })
    {g n cap m : Nat} {xs news : List Value} {xv : Value} (H : Sat w0 I (row e size (.slice (some ⟨g, 0, none⟩) n cap) n xs :: L) w) (hs : a.eval s = .slice (some ⟨g, 0, none⟩) n cap) (hx : a.eval x = xv) (hsrc : Src P size tx xv m news w)
    (hb : (n + m) * bytes ≤ 140737488355328) (hn : n + m ≤ 140737488355328)
    (h : ∀ g' cap' w', n + m ≤ cap' → cap' ≤ 9223372036854775807 → Sat w0 I (row e size (.slice (some ⟨g', 0, none⟩) (n + m) cap') (n + m) (xs ++ news) :: L) w' → wpList P ops Q rest (a.put o.dst (.slice (some ⟨g', 0, none⟩) (n + m) cap')) w') : wpList P ops Q (o :: rest) a w :=
  wpList_plain hgd fun _ hK => wp_appSrcS T s x ho H hs hx hsrc hb hn fun g' cap' w' h1 h2 h3 => hK _ _ (h g' cap' w' h1 h2 h3)
theorem step_appSrcS {ops : Array Oper} {K : Act → World → Prop} {E : Prop} {t tx e : TypeId} {size bytes : Nat} (T : SliceT P t e size bytes) (hgd : o.guard = none) (s x : Operand)
    (ho : o.op = .call { callee := .builtin .append, args := #[s, x], argTypes := #[t, tx] })
    {g n cap m : Nat} {xs news : List Value} {xv : Value} (H : Sat w0 I (row e size (.slice (some ⟨g, 0, none⟩) n cap) n xs :: L) w) (hs : a.eval s = .slice (some ⟨g, 0, none⟩) n cap) (hx : a.eval x = xv) (hsrc : Src P size tx xv m news w)
    (hb : (n + m) * bytes ≤ 140737488355328) (hn : n + m ≤ 140737488355328)
    (h : ∀ g' cap' w', n + m ≤ cap' → cap' ≤ 9223372036854775807 → Sat w0 I (row e size (.slice (some ⟨g', 0, none⟩) (n + m) cap') (n + m) (xs ++ news) :: L) w' → K (a.put o.dst (.slice (some ⟨g', 0, none⟩) (n + m) cap')) w') :
    if Region.wanted o (yielded ops a.tmps) = true then Oper.wp P o a w K Q else E := by
  have hw : Region.wanted o (yielded ops a.tmps) = true := by simp [Region.wanted, hgd]
  rw [if_pos hw]
  exact wp_appSrcS T s x ho H hs hx hsrc hb hn h
/-- the same, with the new length and the new cells under names of their own. -/
theorem step_appSrcN {ops : Array Oper} {K : Act → World → Prop} {E : Prop} {t tx e : TypeId} {size bytes : Nat} (T : SliceT P t e size bytes) (hgd : o.guard = none) (s x : Operand)
    (ho : o.op = .call { callee := .builtin .append, args := #[s, x], argTypes := #[t, tx] })
    {g n cap m N : Nat} {xs news ys : List Value} {xv : Value} (H : Sat w0 I (row e size (.slice (some ⟨g, 0, none⟩) n cap) n xs :: L) w) (hs : a.eval s = .slice (some ⟨g, 0, none⟩) n cap) (hx : a.eval x = xv) (hsrc : Src P size tx xv m news w)
    (hN : n + m = N) (hys : xs ++ news = ys) (hb : N * bytes ≤ 140737488355328) (hn : N ≤ 140737488355328)
    (h : ∀ g' cap' w', N ≤ cap' → cap' ≤ 9223372036854775807 → Sat w0 I (row e size (.slice (some ⟨g', 0, none⟩) N cap') N ys :: L) w' → K (a.put o.dst (.slice (some ⟨g', 0, none⟩) N cap')) w') :
    if Region.wanted o (yielded ops a.tmps) = true then Oper.wp P o a w K Q else E := by
  subst hN hys
  exact step_appSrcS T hgd s x ho H hs hx hsrc hb hn h
theorem step_app1N {ops : Array Oper} {K : Act → World → Prop} {E : Prop} {t e : TypeId} {size bytes : Nat} (T : SliceT P t e size bytes) (hgd : o.guard = none) (s x : Operand)
    (ho : o.op = .call { callee := .builtin .append, args := #[s, x], argTypes := #[t, t] })
    {g n cap N g2 c2 : Nat} {xs news ys : List Value} (H : Sat w0 I (row e size (.slice (some ⟨g, 0, none⟩) n cap) n xs :: L) w) (hs : a.eval s = .slice (some ⟨g, 0, none⟩) n cap) (hx : a.eval x = .slice (some ⟨g2, 0, none⟩) 1 c2) (hg2 : g2 = w.heap.size) (hl : news.length = size) (h1 : ∀ u ∈ news, u.oneCell' = true)
    (hN : n + 1 = N) (hys : xs ++ news = ys) (hb : N * bytes ≤ 140737488355328) (hn : N ≤ 140737488355328)
    (h : ∀ g' cap' w', N ≤ cap' → cap' ≤ 9223372036854775807 → Sat w0 I (row e size (.slice (some ⟨g', 0, none⟩) N cap') N ys :: L) w' → K (a.put o.dst (.slice (some ⟨g', 0, none⟩) N cap')) w') :
    if Region.wanted o (yielded ops a.tmps) = true then Oper.wp P o a (w.alloc (.cells news.toArray e)) K Q else E := by
  subst hN hys hg2
  have H2 : Sat w0 I (row e size (.slice (some ⟨g, 0, none⟩) n cap) n xs :: blk w.heap.size e news :: L) (w.alloc (.cells news.toArray e)) := (H.alloc rfl rfl).swap
  refine step_appSrcS T hgd s x ho H2 hs hx (Src.ofBlk T H2 (by simpa using hl) h1) hb hn fun g' cap' w' h1 h2 h3 => h g' cap' w' h1 h2 h3.swap.drop
/-- a copy of what stays, into a slice of its own that is empty. -/
theorem step_copyN {ops : Array Oper} {K : Act → World → Prop} {E : Prop} {t e : TypeId} {size bytes : Nat} (T : SliceT P t e size bytes) (hgd : o.guard = none) (s x : Operand)
    (ho : o.op = .call { callee := .builtin .append, args := #[s, x], argTypes := #[t, t] })
    {g m c : Nat} {ad : Option Addr} {vs : List Value} (H : Sat w0 I (blk g e [] :: L) w) (hs : a.eval s = .slice (some ⟨g, 0, none⟩) 0 0) (hx : a.eval x = .slice ad m c) (hr : Rd I ad vs) (hl : vs.length = m * size) (h1 : ∀ u ∈ vs, u.oneCell' = true)
    (hb : m * bytes ≤ 140737488355328) (hn : m ≤ 140737488355328)
    (h : ∀ g' cap' w', m ≤ cap' → cap' ≤ 9223372036854775807 → Sat w0 I (row e size (.slice (some ⟨g', 0, none⟩) m cap') m vs :: L) w' → K (a.put o.dst (.slice (some ⟨g', 0, none⟩) m cap')) w') :
    if Region.wanted o (yielded ops a.tmps) = true then Oper.wp P o a w K Q else E := by
  have H2 : Sat w0 I (row e size (.slice (some ⟨g, 0, none⟩) 0 0) 0 [] :: L) w := H.weaken fun x hg => ⟨by simp, Or.inr ⟨g, 0, #[], rfl, hg, Nat.le_refl _, Nat.zero_le _, by simp, by simp⟩⟩
  exact step_appSrcN T hgd s x ho H2 hs hx (Src.ofRd T H2 hr hl h1) (Nat.zero_add m) (List.nil_append vs) hb hn h
end
end Go.Proofs.Ytecdnlmagaoccaa
