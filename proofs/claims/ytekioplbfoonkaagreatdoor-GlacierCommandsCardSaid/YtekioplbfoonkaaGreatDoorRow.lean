/- Whole structs in memory: loaded, stored, returned at once, in parts of the memory. -/
import Derived.Test.YtekioplbfoonkaaGreatDoorMg1
import Derived.Laws.Rows
import Derived.Laws.ResultCell
namespace Go.Proofs.YtekioplbfoonkaaGreatDoor
open Go.RowKit
set_option linter.unusedVariables false
set_option maxRecDepth 100000
/-- a struct or an array of n cells. -/
structure WholeT (P : Program) (ty : TypeId) (n : Nat) : Prop where
  d : ∃ d, P.underlying ty = some d ∧ (match d with | .struct _ | .array _ _ => true | _ => false) = true
  sz : (P.info? ty).map (·.size) = some n
section
variable {w0 w : World} {I : Part} {L : List HP} {b n : Nat} {T ty : TypeId} {cs cs' : List Value}
theorem Sat.sizeQ (h : Sat w0 I L w) : ∃ g, w.heap.size = g := ⟨_, rfl⟩
theorem Sat.setAll (h : Sat w0 I (blk b T cs :: L) w) (hl : cs'.length = cs.length) : Sat w0 I (blk b T cs' :: L) (w.setRow b cs'.toArray) := by
  have hB := h.isBlk
  refine h.change fun g hg hle => ⟨fun k => k = b, fun k hk _ => by subst hk; unfold blk at hg; rw [hg]; rfl, ⟨rfl, rfl, rfl, by simp, fun k hk hn => setRow_other w b k cs'.toArray hn⟩, fun g' hg' => ?_⟩
  unfold blk at hg ⊢
  rw [hg' b (Or.inl (by rw [hg]; rfl))]
  exact setRow_heap w b cs.toArray cs'.toArray T (0, 0) hB
theorem run_loadS {P : Program} (W : WholeT P ty n) (hn : cs.length = n) (H : Sat w0 I (blk b T cs :: L) w) : (loadVar ty ⟨b, 0, none⟩).run P w = .ok (.agg cs.toArray) w := by
  subst hn
  obtain ⟨d, hu, hd⟩ := W.d
  exact run_loadVar_row w b T ty cs.toArray (0, 0) d H.isBlk hu (by cases d <;> first | rfl | cases hd) (by simpa using W.sz)
theorem body_gen {P : Program} {fn : Func} {R : Ending → World → Prop} {e : Exit} {a : Act} {W : World} (F : World → Prop) (hF : F W) (h : ∀ w1, F w1 → bodyPost P fn R e a w1) : bodyPost P fn R e a W := h W hF
/-- a struct in memory and a number, returned. -/
theorem ret_cellS {P : Program} {fn : Func} {p u : Tmp} {r : Value} (h : fn.results = #[.cell p ty, .tmp u]) (W : WholeT P ty n) (tmps : Array Value) (hp : tmps.getD p undef = .pointer (some ⟨b, 0, none⟩)) (hu : tmps.getD u undef = r) (hn : cs.length = n) (H : Sat w0 I (blk b T cs :: L) w) :
    (results fn tmps).run P w = .ok (.tuple #[.agg cs.toArray, r]) w := by
  rw [results_cell_tmp h, hp, hu]
  simp [asAddr, run_loadS W hn H, Result.andThen]
/-- two structs in memory and a number, returned. -/
theorem ret_cell2S {P : Program} {fn : Func} {p q u : Tmp} {r : Value} {ty2 T2 : TypeId} {n2 b2 : Nat} {cs2 : List Value} (h : fn.results = #[.cell p ty, .cell q ty2, .tmp u]) (W : WholeT P ty n) (W2 : WholeT P ty2 n2) (tmps : Array Value) (hp : tmps.getD p undef = .pointer (some ⟨b, 0, none⟩)) (hq : tmps.getD q undef = .pointer (some ⟨b2, 0, none⟩)) (hu : tmps.getD u undef = r) (hn : cs.length = n) (hn2 : cs2.length = n2) (H : Sat w0 I (blk b T cs :: blk b2 T2 cs2 :: L) w) :
    (results fn tmps).run P w = .ok (.tuple #[.agg cs.toArray, .agg cs2.toArray, r]) w := by
  have e1 := run_loadS W hn H
  have e2 := run_loadS W2 hn2 H.swap
  have hp' : tmps[p]?.getD undef = .pointer (some ⟨b, 0, none⟩) := by simpa using hp
  have hq' : tmps[q]?.getD undef = .pointer (some ⟨b2, 0, none⟩) := by simpa using hq
  have hu' : tmps[u]?.getD undef = r := by simpa using hu
  simp only [results, h]
  simp [Sem.run_bind, Result.andThen, hp', hq', hu', asAddr, e1, e2]
theorem ret_cell1S {P : Program} {fn : Func} {p : Tmp} (h : fn.results = #[.cell p ty]) (W : WholeT P ty n) (tmps : Array Value) (hp : tmps.getD p undef = .pointer (some ⟨b, 0, none⟩)) (hn : cs.length = n) (H : Sat w0 I (blk b T cs :: L) w) :
    (results fn tmps).run P w = .ok (.agg cs.toArray) w := by
  subst hn
  obtain ⟨d, hu, hd⟩ := W.d
  exact results_cell_row h tmps w b T cs.toArray (0, 0) d hp H.isBlk hu (by cases d <;> first | rfl | cases hd) (by simpa using W.sz)
section
variable {P : Program} {ops : Array Oper} {rest : List Oper} {o : Oper} {a : Act} {Q : Exit → Act → World → Prop}
theorem wpList_loadS (W : WholeT P ty n) (hgd : o.guard = none) (x : Operand) (ho : o.op = .load ty x) (hx : a.eval x = .pointer (some ⟨b, 0, none⟩)) (hn : cs.length = n) (H : Sat w0 I (blk b T cs :: L) w)
    (h : wpList P ops Q rest (a.put o.dst (.agg cs.toArray)) w) : wpList P ops Q (o :: rest) a w := by
  subst hn
  obtain ⟨d, hu, hd⟩ := W.d
  exact wpList_load_row hgd ty x ho b hx T cs.toArray (0, 0) d H.isBlk hu (by cases d <;> first | rfl | cases hd) (by simpa using W.sz) h
theorem wpList_storeS (W : WholeT P ty n) (hgd : o.guard = none) (x y : Operand) (ho : o.op = .store ty x y) (hx : a.eval x = .pointer (some ⟨b, 0, none⟩)) (hy : a.eval y = .agg cs'.toArray) (hn : cs.length = n) (hn' : cs'.length = n) (h1 : ∀ u ∈ cs', u.oneCell' = true) (H : Sat w0 I (blk b T cs :: L) w)
    (h : ∀ w', Sat w0 I (blk b T cs' :: L) w' → wpList P ops Q rest (a.put o.dst undef) w') : wpList P ops Q (o :: rest) a w := by
  refine wpList_store_row hgd ty x y ho b cs'.toArray hx hy T cs.toArray H.isBlk (by simpa [hn'] using W.sz) (by simp [hn, hn']) ?_ (h _ (H.setAll (by rw [hn, hn'])))
  simpa [Array.all_eq_true_iff_forall_mem] using h1
/-- .. as one step of a region that draws its order. -/
theorem step_loadS {K : Act → World → Prop} {E : Prop} (W : WholeT P ty n) (hg : o.guard = none) (x : Operand) (ho : o.op = .load ty x) (hx : a.eval x = .pointer (some ⟨b, 0, none⟩)) (hn : cs.length = n) (H : Sat w0 I (blk b T cs :: L) w)
    (h : K (a.put o.dst (.agg cs.toArray)) w) : if Region.wanted o (yielded ops a.tmps) = true then Oper.wp P o a w K Q else E := by
  have hw : Region.wanted o (yielded ops a.tmps) = true := by simp [Region.wanted, hg]
  rw [if_pos hw]
  subst hn
  obtain ⟨d, hu, hd⟩ := W.d
  exact wp_load_row ty x ho b hx T cs.toArray (0, 0) d H.isBlk hu (by cases d <;> first | rfl | cases hd) (by simpa using W.sz) h
theorem step_storeS {K : Act → World → Prop} {E : Prop} (W : WholeT P ty n) (hg : o.guard = none) (x y : Operand) (ho : o.op = .store ty x y) (hx : a.eval x = .pointer (some ⟨b, 0, none⟩)) (hy : a.eval y = .agg cs'.toArray) (hn : cs.length = n) (hn' : cs'.length = n) (h1 : ∀ u ∈ cs', u.oneCell' = true) (H : Sat w0 I (blk b T cs :: L) w)
    (h : ∀ w', Sat w0 I (blk b T cs' :: L) w' → K (a.put o.dst undef) w') : if Region.wanted o (yielded ops a.tmps) = true then Oper.wp P o a w K Q else E := by
  have hw : Region.wanted o (yielded ops a.tmps) = true := by simp [Region.wanted, hg]
  rw [if_pos hw]
  refine wp_store_row ty x y ho b cs'.toArray hx hy T cs.toArray H.isBlk (by simpa [hn'] using W.sz) (by simp [hn, hn']) ?_ (h _ (H.setAll (by rw [hn, hn'])))
  simpa [Array.all_eq_true_iff_forall_mem] using h1
end
end
end Go.Proofs.YtekioplbfoonkaaGreatDoor
