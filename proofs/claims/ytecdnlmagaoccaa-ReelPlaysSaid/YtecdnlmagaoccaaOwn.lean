/- Rows that the call owns: an element read, an element written, an element taken out. -/
import Derived.Test.YtecdnlmagaoccaaBase
import Derived.Deep.RegionLaw
namespace Go.Proofs.Ytecdnlmagaoccaa
open Go.RowKit
section
variable {w : World} {base : Nat} {e : TypeId} {sz : Nat} {v : Value} {n : Nat} {xs : List Value}
/-- an owned row that has elements, opened. -/
theorem own_open (h : w.ownsRow base e sz v n xs) (h0 : 0 < n) : ∃ g cap cur, v = .slice (some ⟨g, 0, none⟩) n cap ∧ base ≤ g ∧ w.heap[g]? = some (.cells cur e (0, 0)) ∧ n ≤ cap ∧ cap ≤ maxLen ∧ cur.size = cap * sz ∧ cur.toList.take (n * sz) = xs := by
  rcases h.2 with ⟨_, hn⟩ | h
  · omega
  · exact h
theorem own_shape (h : w.ownsRow base e sz v n xs) : ∃ a cap, v = .slice a n cap ∧ n ≤ cap ∧ cap ≤ 9223372036854775807 := by
  rcases h.2 with ⟨h, hn⟩ | ⟨g, cap, cur, h, _, _, hc, hm, _⟩
  · exact ⟨none, 0, by rw [h, hn], by omega, by omega⟩
  · unfold maxLen at hm; exact ⟨_, cap, h, hc, by omega⟩
theorem own_cell {g cap : Nat} (h : w.ownsRow base e sz (.slice (some ⟨g, 0, none⟩) n cap) n xs) (i : Nat) {u : Value} (hi : xs[i]? = some u) : w.cell? ⟨g, i, none⟩ = some u := by
  have := h.cells (g := g) rfl i u hi
  have e1 : (⟨g, 0, none⟩ : Addr).add i = ⟨g, i, none⟩ := by unfold Addr.add; split <;> simp_all
  rw [e1] at this
  exact this
theorem own_frozen {g cap : Nat} (h : w.ownsRow base e sz (.slice (some ⟨g, 0, none⟩) n cap) n xs) (i : Nat) : w.frozen? ⟨g, i, none⟩ = false := by
  rcases h.2 with ⟨hv, _⟩ | ⟨g', cap', cur, hv, _, hh, _⟩
  · cases hv
  · cases hv
    unfold World.frozen?
    rw [show (⟨g, i, none⟩ : Addr).block = g from rfl, hh]
    simp
/-- one cell of the row written. -/
theorem own_set {g cap : Nat} (h : w.ownsRow base e sz (.slice (some ⟨g, 0, none⟩) n cap) n xs) (i : Nat) (u : Value) : (w.setCell ⟨g, i, none⟩ u).ownsRow base e sz (.slice (some ⟨g, 0, none⟩) n cap) n (xs.set i u) := by
  refine ⟨by rw [List.length_set]; exact h.1, ?_⟩
  rcases h.2 with ⟨hv, _⟩ | ⟨g', cap', cur, hv, hb, hh, hnc, hcm, hcs, ht⟩
  · cases hv
  · cases hv
    refine Or.inr ⟨g, cap, cur.setIfInBounds i u, rfl, hb, ?_, hnc, hcm, by simpa using hcs, ?_⟩
    · unfold World.setCell
      simp only [Array.getElem?_modify]
      rw [if_pos trivial, hh]
      simp
    · rw [Array.toList_setIfInBounds, List.take_set, ht]
end

theorem own_mono {w : World} {base base' : Nat} {e : TypeId} {sz : Nat} {v : Value} {n : Nat} {xs : List Value} (h : w.ownsRow base e sz v n xs) (hb : base' ≤ base) : w.ownsRow base' e sz v n xs := by
  obtain ⟨h1, h2⟩ := h
  refine ⟨h1, ?_⟩
  rcases h2 with h2 | ⟨g, cap, cur, hv, hg, r⟩
  · exact Or.inl h2
  · exact Or.inr ⟨g, cap, cur, hv, by omega, r⟩
/-- where the slice lies after an append: where it lay, or in a new block. -/
def Moved (w : World) (v v' : Value) : Prop := ∀ k, v'.ownBlock = some k → v.ownBlock = some k ∨ w.heap.size ≤ k
section
variable {P : Program} {w : World} {a : Act} {o : Oper} {Q : Exit → Act → World → Prop}
theorem wp_app1m {K : Act → World → Prop} {t e : TypeId} {size bytes : Nat} (T : SliceT P t e size bytes) (s x : Operand)
    (ho : o.op = .call { callee := .builtin .append, args := #[s, x], argTypes := #[t, t] })
    (base : Nat) (v : Value) (n : Nat) (xs news : List Value) (hs : a.eval s = v) (hown : w.ownsRow base e size v n xs)
    {g : Nat} (hx : a.eval x = .slice (some ⟨g, 0, none⟩) 1 1) (hgs : g = w.heap.size) (hl : news.length = size) (h1 : ∀ u ∈ news, u.oneCell' = true)
    (hb : (n + 1) * bytes ≤ 140737488355328) (hn : n + 1 ≤ 140737488355328) (hbase : base ≤ w.heap.size)
    (h : ∀ v' w', w'.ownsRow base e size v' (n + 1) (xs ++ news) → w.grownBy w' v.ownBlock → v' ≠ .slice none 0 0 → Moved w v v' → K (a.put o.dst v') w') : o.wp P a (w.alloc (.cells news.toArray e)) K Q := by
  rcases hown.2 with ⟨hv, h0⟩ | ⟨g0, cap, cur, hv, hg, hh, hnc, hcm, hcs, htk⟩
  · subst hv
    have hown' : w.ownsRow w.heap.size e size (.slice none 0 0) n xs := ⟨hown.1, Or.inl ⟨rfl, h0⟩⟩
    refine wp_app1 T s x ho w.heap.size _ n xs news hs hown' hx hgs hl h1 hb hn (Nat.le_refl _) fun v' w' h2 h3 h4 => h v' w' (own_mono h2 hbase) h3 h4 fun k hk => Or.inr (h2.lt k hk).1
  · subst hv
    by_cases hroom : n + 1 ≤ cap
    · obtain ⟨ti, z, hti, hz, hsz, hby, hzs⟩ := T.hi
      subst hgs
      have hB := Blk.new w news e
      have hh' : (w.alloc (.cells news.toArray e)).heap[g0]? = some (.cells cur e (0, 0)) := by
        rw [Below.heap_alloc _ _ _ (Array.getElem?_eq_some_iff.1 hh).1]; exact hh
      have hnews : ∀ j u, news[j]? = some u → (w.alloc (.cells news.toArray e)).cell? ((⟨w.heap.size, 0, none⟩ : Addr).add j) = some u := by
        intro j u hj
        have e1 : (⟨w.heap.size, 0, none⟩ : Addr).add j = ⟨w.heap.size, j, none⟩ := by unfold Addr.add; split <;> simp_all
        rw [e1]; exact hB.cell j hj
      have hfit : n * size + news.length ≤ cur.size := by rw [hl, hcs]; have := Nat.mul_le_mul_right size hroom; rw [Nat.add_mul] at this; omega
      have hr := run_append_room (P := P) (w.alloc (.cells news.toArray e)) t o.type e ti T.ht hti g0 n cap cur hh' ⟨w.heap.size, 0, none⟩ 1 1 news (by rw [hsz]; omega) hnews h1 hroom (by rw [hsz]; exact hfit)
      rw [hsz] at hr
      obtain ⟨R, hR⟩ : ∃ R : List Value, cur.toList.take (n * size) ++ news ++ cur.toList.drop (n * size + news.length) = R := ⟨_, rfl⟩
      rw [hR] at hr
      have hK := h (.slice (some ⟨g0, 0, none⟩) (n + 1) cap) ((w.alloc (.cells news.toArray e)).setRow g0 R.toArray)
        ⟨by rw [List.length_append, hown.1, hl, Nat.add_mul]; omega, Or.inr ⟨g0, cap, R.toArray, rfl, hg, setRow_heap _ g0 cur R.toArray e (0, 0) hh', hroom, hcm, by
          subst hR
          simp only [List.size_toArray, List.length_append, List.length_take, List.length_drop, Array.length_toList]
          omega, by
          subst hR
          simp only []
          rw [htk, show (n + 1) * size = (xs ++ news).length from by rw [List.length_append, hown.1, hl, Nat.add_mul]; omega]
          exact List.take_left⟩⟩
        (grownBy_of_alloc ⟨rfl, rfl, rfl, by simp, fun k hk hne => setRow_other _ g0 k R.toArray (fun e => hne (by rw [e]; rfl))⟩) (fun e => by cases e) (fun k hk => Or.inl hk)
      unfold Oper.wp execOp
      simp only [ho, resolve, invoke, builtin, Sem.run_bind, Sem.run_pure, Result.andThen_ok, List.map_toArray, List.map_cons, List.map_nil, hs, hx, hr]
      exact hK
    · obtain ⟨ti, z, hti, hz, hsz, hby, hzs⟩ := T.hi
      subst hgs
      have hB := Blk.new w news e
      have hnews : ∀ j u, news[j]? = some u → (w.alloc (.cells news.toArray e)).cell? ((⟨w.heap.size, 0, none⟩ : Addr).add j) = some u := by
        intro j u hj
        have e1 : (⟨w.heap.size, 0, none⟩ : Addr).add j = ⟨w.heap.size, j, none⟩ := by unfold Addr.add; split <;> simp_all
        rw [e1]; exact hB.cell j hj
      have holds : ∀ j u, xs[j]? = some u → (w.alloc (.cells news.toArray e)).cell? ((⟨g0, 0, none⟩ : Addr).add j) = some u := (hown.alloc (.cells news.toArray e)).cells (g := g0) rfl
      subst hsz hby
      have hr := run_append_grow (P := P) (w.alloc (.cells news.toArray e)) t o.type e ti z T.ht hti hz ⟨g0, 0, none⟩ n cap xs hown.1 holds ⟨w.heap.size, 0, none⟩ 1 1 news (by omega) hnews (by omega) (by omega) (growslice_fits (by omega) hb)
      have h63 : n + 1 ≤ maxLen := by unfold maxLen; omega
      have hge := grownCap_ge (w.alloc (.cells news.toArray e)) (n + 1) cap e
      have hcm2 : grownCap (w.alloc (.cells news.toArray e)) (n + 1) cap e ≤ maxLen := grownCap_le_maxLen _ (n + 1) cap e h63
      have hK := h (.slice (some ⟨(w.alloc (.cells news.toArray e)).heap.size, 0, none⟩) (n + 1) (grownCap (w.alloc (.cells news.toArray e)) (n + 1) cap e))
        ((w.alloc (.cells news.toArray e)).drew.alloc (.cells (xs.toArray ++ news.toArray ++ Builtin.zeroCells z.cells (grownCap (w.alloc (.cells news.toArray e)) (n + 1) cap e - (n + 1))) e))
        ⟨by rw [List.length_append, hown.1, hl, Nat.add_mul]; omega, Or.inr ⟨_, _, _, rfl, by simp; omega, _root_.Go.heap_alloc_new _ _, hge, hcm2, by
          simp only [Array.size_append, List.size_toArray, size_zeroCells, hzs, hown.1, hl]
          rw [← Nat.succ_mul, ← Nat.add_mul]; congr 1; omega, by
          simp only [Array.toList_append, List.append_assoc]
          rw [← List.append_assoc, show (n + 1) * ti.size = (xs ++ news).length from by rw [List.length_append, hown.1, hl, Nat.add_mul]; omega]
          exact List.take_left⟩⟩
        (grownBy_of_alloc ⟨rfl, rfl, rfl, by simp, fun k hk _ => Below.heap_alloc (w.alloc (.cells news.toArray e)).drew _ k hk⟩) (fun e => by cases e) (fun k hk => by simp [Value.ownBlock] at hk; right; omega)
      unfold Oper.wp execOp
      simp only [ho, resolve, invoke, builtin, Sem.run_bind, Sem.run_pure, Result.andThen_ok, List.map_toArray, List.map_cons, List.map_nil, hs, hx, hr]
      exact hK
end

/-- an element taken out of a row: what 'append(l[:i], l[i+1:]...)' does. -/
theorem run_delete {P : Program} {t ty e : TypeId} {sz bytes : Nat} (T : SliceT P t e sz bytes) {w : World} {base n cap g i : Nat} {xs : List Value}
    (h : w.ownsRow base e sz (.slice (some ⟨g, 0, none⟩) n cap) n xs) (hi : i < n) (h1 : ∀ u ∈ xs, u.oneCell' = true) (ad : Option Addr) (c : Nat) (had : i + 1 < n → ad = some ⟨g, (i + 1) * sz, none⟩) (had' : ¬ i + 1 < n → ∃ x, ad = some x) :
    ∃ w', (Builtin.append_ #[t, t] ty #[.slice (some ⟨g, 0, none⟩) i cap, .slice ad (n - (i + 1)) c]).run P w = .ok (.slice (some ⟨g, 0, none⟩) (n - 1) cap) w' ∧
      w'.ownsRow base e sz (.slice (some ⟨g, 0, none⟩) (n - 1) cap) (n - 1) (xs.take (i * sz) ++ xs.drop ((i + 1) * sz)) ∧ w.grownBy w' (some g) := by
  obtain ⟨ti, z, hti, _, hsz, _, _⟩ := T.hi
  have hlen := h.1
  rcases h.2 with ⟨hv, _⟩ | ⟨g', cap', cur, hv, hb, hh, hnc, hcm, hcs, ht⟩
  · cases hv
  cases hv
  have hmul : (i + 1) * sz ≤ n * sz := Nat.mul_le_mul_right _ (by omega)
  have hmul2 : i * sz + sz = (i + 1) * sz := by rw [Nat.add_mul]; omega
  have hdl : (xs.drop ((i + 1) * sz)).length = (n - (i + 1)) * sz := by rw [List.length_drop, hlen, ← Nat.sub_mul]
  have hcl : n * sz ≤ cap * sz := Nat.mul_le_mul_right _ hnc
  obtain ⟨x, hx⟩ : ∃ x, ad = some x := by
    by_cases hn : i + 1 < n
    · exact ⟨_, had hn⟩
    · exact had' hn
  have hnews : ∀ j u, (xs.drop ((i + 1) * sz))[j]? = some u → w.cell? (x.add j) = some u := by
    intro j u hj
    by_cases hn : i + 1 < n
    · have hx' : x = ⟨g, (i + 1) * sz, none⟩ := by have := had hn; rw [hx] at this; exact Option.some.inj this
      have e1 : x.add j = ⟨g, (i + 1) * sz + j, none⟩ := by rw [hx']; unfold Addr.add; split <;> simp_all
      rw [e1]
      rw [List.getElem?_drop] at hj
      exact own_cell h _ hj
    · have : (xs.drop ((i + 1) * sz)).length = 0 := by rw [hdl, show n - (i + 1) = 0 by omega]; simp
      have hn' : xs.drop ((i + 1) * sz) = [] := List.eq_nil_of_length_eq_zero this
      rw [hn'] at hj; cases hj
  have hrun := run_append_room (P := P) w t ty e ti T.ht hti g i cap cur hh x (n - (i + 1)) c (xs.drop ((i + 1) * sz)) (by rw [hsz]; exact hdl) hnews
    (fun u hu => h1 u (List.mem_of_mem_drop hu)) (by omega) (by rw [hsz, hdl, hcs, ← Nat.add_mul]; exact Nat.mul_le_mul_right _ (by omega))
  rw [hsz] at hrun
  subst hx
  obtain ⟨R, hR⟩ : ∃ R : List Value, cur.toList.take (i * sz) ++ xs.drop ((i + 1) * sz) ++ cur.toList.drop (i * sz + (xs.drop ((i + 1) * sz)).length) = R := ⟨_, rfl⟩
  rw [hR] at hrun
  refine ⟨w.setRow g R.toArray, ?_, ⟨?_, Or.inr ⟨g, cap, R.toArray, rfl, hb, setRow_heap w g cur R.toArray e (0, 0) hh, by omega, hcm, ?_, ?_⟩⟩, ⟨rfl, rfl, rfl, by simp, fun k hk hne => setRow_other w g k R.toArray (fun e => hne (by rw [e]))⟩⟩
  · rw [hrun, show i + (n - (i + 1)) = n - 1 by omega]
  · rw [List.length_append, List.length_take, hdl, hlen, Nat.min_eq_left (by omega), ← Nat.add_mul]
    congr 1; omega
  · subst hR
    simp only [List.size_toArray, List.length_append, List.length_take, List.length_drop, Array.length_toList, hdl]
    rw [Nat.min_eq_left (by omega)]
    have : (n - (i + 1)) * sz = n * sz - (i + 1) * sz := Nat.sub_mul _ _ _
    omega
  · have e1 : cur.toList.take (i * sz) = xs.take (i * sz) := by rw [← ht, List.take_take, Nat.min_eq_left (by omega)]
    have e2 : (n - 1) * sz = (xs.take (i * sz) ++ xs.drop ((i + 1) * sz)).length := by
      rw [List.length_append, List.length_take, hdl, hlen, Nat.min_eq_left (by omega), ← Nat.add_mul]; congr 1; omega
    subst hR
    simp only []
    rw [e1, e2]
    exact List.take_left
/-- .. as one step of a region that draws its order. -/
theorem step_delete {P : Program} {ops : Array Oper} {o : Oper} {a : Act} {w : World} {K : Act → World → Prop} {Q : Exit → Act → World → Prop} {E : Prop} {t e : TypeId} {sz bytes : Nat} (T : SliceT P t e sz bytes)
    (hg : o.guard = none) (s x : Operand) (hop : o.op = Op.call { callee := Callee.builtin Builtin.append, args := #[s, x], argTypes := #[t, t] })
    (base n cap g i : Nat) (xs : List Value) (h : w.ownsRow base e sz (.slice (some ⟨g, 0, none⟩) n cap) n xs) (hi : i < n) (h1 : ∀ u ∈ xs, u.oneCell' = true) (ad : Option Addr) (c m : Nat) (hm : m = n - (i + 1)) (had : i + 1 < n → ad = some ⟨g, (i + 1) * sz, none⟩) (had' : ¬ i + 1 < n → ∃ x, ad = some x)
    (hs : a.eval s = .slice (some ⟨g, 0, none⟩) i cap) (hx : a.eval x = .slice ad m c)
    (hK : ∀ w', w'.ownsRow base e sz (.slice (some ⟨g, 0, none⟩) (n - 1) cap) (n - 1) (xs.take (i * sz) ++ xs.drop ((i + 1) * sz)) → w.grownBy w' (some g) → K (a.put o.dst (.slice (some ⟨g, 0, none⟩) (n - 1) cap)) w') :
    if Region.wanted o (yielded ops a.tmps) = true then Oper.wp P o a w K Q else E := by
  have hw : Region.wanted o (yielded ops a.tmps) = true := by simp [Region.wanted, hg]
  rw [if_pos hw]
  subst hm
  obtain ⟨w', hr, ho, hgr⟩ := run_delete (ty := o.type) T h hi h1 ad c had had'
  unfold Oper.wp execOp
  simp only [hop, resolve, invoke, builtin, Sem.run_bind, Sem.run_pure, Result.andThen_ok, List.map_toArray, List.map_cons, List.map_nil, hs, hx, hr]
  exact hK w' ho hgr
/-- an append of one element, as one step of a region that draws its order. -/
theorem step_app1 {P : Program} {ops : Array Oper} {o : Oper} {a : Act} {w : World} {K : Act → World → Prop} {Q : Exit → Act → World → Prop} {E : Prop} {t e : TypeId} {size bytes : Nat} (T : SliceT P t e size bytes)
    (hg : o.guard = none) (s x : Operand) (hop : o.op = Op.call { callee := Callee.builtin Builtin.append, args := #[s, x], argTypes := #[t, t] })
    (base : Nat) (v : Value) (n : Nat) (xs news : List Value) (hs : a.eval s = v) (hown : w.ownsRow base e size v n xs)
    {g : Nat} (hx : a.eval x = .slice (some ⟨g, 0, none⟩) 1 1) (hgs : g = w.heap.size) (hl : news.length = size) (h1 : ∀ u ∈ news, u.oneCell' = true)
    (hb : (n + 1) * bytes ≤ 140737488355328) (hn : n + 1 ≤ 140737488355328) (hbase : base ≤ w.heap.size)
    (hK : ∀ v' w', w'.ownsRow base e size v' (n + 1) (xs ++ news) → w.grownBy w' v.ownBlock → v' ≠ .slice none 0 0 → Moved w v v' → K (a.put o.dst v') w') :
    if Region.wanted o (yielded ops a.tmps) = true then Oper.wp P o a (w.alloc (.cells news.toArray e)) K Q else E := by
  have hw : Region.wanted o (yielded ops a.tmps) = true := by simp [Region.wanted, hg]
  rw [if_pos hw]
  exact wp_app1m T s x hop base v n xs news hs hown hx hgs hl h1 hb hn hbase hK
/-- rows of structs: the cells of element i. -/
theorem flat_get {α : Type} {sz : Nat} (f : α → List Value) (hf : ∀ x, (f x).length = sz) : ∀ (l : List α) (i j : Nat) (hi : i < l.length), j < sz → (l.flatMap f)[i * sz + j]? = (f l[i])[j]?
  | [], i, j, hi, _ => absurd hi (Nat.not_lt_zero _)
  | x :: r, 0, j, _, hj => by
    rw [List.flatMap_cons, Nat.zero_mul, Nat.zero_add, List.getElem?_append_left (by rw [hf]; exact hj)]; rfl
  | x :: r, i + 1, j, hi, hj => by
    have hi' : i < r.length := by simpa using hi
    rw [List.flatMap_cons, List.getElem?_append_right (by rw [hf, Nat.add_mul]; omega), hf, show (i + 1) * sz + j - sz = i * sz + j by rw [Nat.add_mul]; omega, flat_get f hf r i j hi' hj]
    rfl
theorem flat_len {α : Type} {sz : Nat} (f : α → List Value) (hf : ∀ x, (f x).length = sz) (l : List α) : (l.flatMap f).length = l.length * sz := by
  induction l with
  | nil => simp
  | cons x r ih => rw [List.flatMap_cons, List.length_append, ih, hf, List.length_cons, Nat.add_mul]; omega
theorem flat_take {α : Type} {sz : Nat} (f : α → List Value) (hf : ∀ x, (f x).length = sz) : ∀ (l : List α) (i : Nat), (l.flatMap f).take (i * sz) = (l.take i).flatMap f
  | [], i => by simp
  | x :: r, 0 => by simp
  | x :: r, i + 1 => by
    rw [List.flatMap_cons, List.take_succ_cons, List.flatMap_cons, List.take_append, List.take_of_length_le (by rw [hf, Nat.add_mul]; omega), hf, show (i + 1) * sz - sz = i * sz by rw [Nat.add_mul]; omega, flat_take f hf r i]
theorem flat_drop {α : Type} {sz : Nat} (f : α → List Value) (hf : ∀ x, (f x).length = sz) : ∀ (l : List α) (i : Nat), (l.flatMap f).drop (i * sz) = (l.drop i).flatMap f
  | [], i => by simp
  | x :: r, 0 => by simp
  | x :: r, i + 1 => by
    rw [List.flatMap_cons, List.drop_succ_cons, List.drop_append, List.drop_of_length_le (by rw [hf, Nat.add_mul]; omega), hf, show (i + 1) * sz - sz = i * sz by rw [Nat.add_mul]; omega, flat_drop f hf r i]; rfl
theorem flat_set {α : Type} {sz : Nat} (f : α → List Value) (hf : ∀ x, (f x).length = sz) : ∀ (l : List α) (i j : Nat) (hi : i < l.length) (u : Value) (y : α), j < sz → f y = (f l[i]).set j u → (l.flatMap f).set (i * sz + j) u = (l.set i y).flatMap f
  | [], i, j, hi, _, _, _, _ => absurd hi (Nat.not_lt_zero _)
  | x :: r, 0, j, _, u, y, hj, hy => by
    rw [List.flatMap_cons, List.set_cons_zero, List.flatMap_cons, Nat.zero_mul, Nat.zero_add, List.set_append_left _ _ (by rw [hf]; exact hj), hy]; rfl
  | x :: r, i + 1, j, hi, u, y, hj, hy => by
    have hi' : i < r.length := by simpa using hi
    rw [List.flatMap_cons, List.set_cons_succ, List.flatMap_cons, List.set_append_right _ _ (by rw [hf, Nat.add_mul]; omega), hf, show (i + 1) * sz + j - sz = i * sz + j by rw [Nat.add_mul]; omega, flat_set f hf r i j hi' u y hj hy]

/-- of the blocks that were there only those in S may have changed. -/
structure Mod (S : Nat → Prop) (w w' : World) : Prop where
  os : w'.os = w.os
  tape : w'.tape = w.tape
  output : w'.output = w.output
  size : w.heap.size ≤ w'.heap.size
  block : ∀ k, k < w.heap.size → ¬ S k → w'.heap[k]? = w.heap[k]?
section
variable {S S' : Nat → Prop} {a b c w w' : World}
theorem Mod.refl (S : Nat → Prop) (w : World) : Mod S w w := ⟨rfl, rfl, rfl, Nat.le_refl _, fun _ _ _ => rfl⟩
theorem Mod.trans (h : Mod S a b) (k : Mod S' b c) (hs : ∀ k, k < a.heap.size → S' k → S k) : Mod S a c :=
  ⟨k.os.trans h.os, k.tape.trans h.tape, k.output.trans h.output, Nat.le_trans h.size k.size, fun i hi hn =>
    (k.block i (Nat.lt_of_lt_of_le hi h.size) (fun hx => hn (hs i hi hx))).trans (h.block i hi hn)⟩
theorem Mod.mono (h : Mod S a b) (hs : ∀ k, k < a.heap.size → S k → S' k) : Mod S' a b := ⟨h.os, h.tape, h.output, h.size, fun i hi hn => h.block i hi (fun hx => hn (hs i hi hx))⟩
theorem Mod.of_below (h : Below w.heap.size w w') : Mod S w w' := ⟨h.os, h.tape, h.output, h.size, fun k hk _ => h.block k hk⟩
theorem Mod.thenBelow (h : Mod S a b) (k : Below b.heap.size b c) : Mod S a c := h.trans (Mod.of_below k) (fun _ _ hx => hx)
theorem Mod.below {B : Nat} (h : Mod S w w') (hs : ∀ k, k < w.heap.size → S k → B ≤ k) (hB : B ≤ w.heap.size) : Below B w w' := ⟨h.os, h.tape, h.output, h.size, fun k hk => h.block k (by omega) (fun hx => by have := hs k (by omega) hx; omega)⟩
theorem Mod.thenMod {B : Nat} {w0 : World} (h0 : Below B w0 w) (h : Mod S w w') (hs : ∀ k, k < w.heap.size → S k → B ≤ k) (hB : B ≤ w0.heap.size) : Below B w0 w' := h0.trans (h.below hs (Nat.le_trans hB h0.size))
theorem Mod.drewN (h : Mod S a b) (n : Nat) : Mod S a (b.drewN n) := ⟨h.os, h.tape, h.output, h.size, h.block⟩
theorem Mod.drew (h : Mod S a b) : Mod S a b.drew := ⟨h.os, h.tape, h.output, h.size, h.block⟩
theorem Mod.alloc (h : Mod S a b) (o : Obj) : Mod S a (b.alloc o) := ⟨h.os, h.tape, h.output, Nat.le_trans h.size (by simp), fun k hk hn => (Below.heap_alloc b o k (Nat.lt_of_lt_of_le hk h.size)).trans (h.block k hk hn)⟩
theorem Mod.setCell (h : Mod S a b) {p : Addr} (hp : p.block < a.heap.size → S p.block) (u : Value) : Mod S a (b.setCell p u) := ⟨h.os, h.tape, h.output, by simpa using h.size, fun k hk hn => by
  rw [Below.heap_setCell _ _ _ _ (fun e => hn (by subst e; exact hp hk))]; exact h.block k hk hn⟩
theorem Mod.grown (h : Mod S a b) {row : Option Nat} (hg : b.grownBy c row) (hr : ∀ k, row = some k → k < a.heap.size → S k) : Mod S a c :=
  ⟨hg.os.trans h.os, hg.tape.trans h.tape, hg.output.trans h.output, Nat.le_trans h.size hg.size, fun k hk hn => (hg.block k (Nat.lt_of_lt_of_le hk h.size) (fun e => hn (hr k e.symm hk))).trans (h.block k hk hn)⟩
theorem Blk.mod {k : Nat} {T : TypeId} {cs : List Value} (h : Blk w k T cs) (hm : Mod S w w') (hn : ¬ S k) : Blk w' k T cs := by
  unfold Blk; rw [hm.block k h.lt hn]; exact h
theorem own_mod {base : Nat} {e : TypeId} {sz : Nat} {v : Value} {n : Nat} {xs : List Value} (h : w.ownsRow base e sz v n xs) (hm : Mod S w w') (hn : ∀ k, v.ownBlock = some k → ¬ S k) : w'.ownsRow base e sz v n xs := by
  obtain ⟨h1, h2⟩ := h
  refine ⟨h1, ?_⟩
  rcases h2 with h2 | ⟨g, cap, cur, hv, hg, hh, r⟩
  · exact Or.inl h2
  · exact Or.inr ⟨g, cap, cur, hv, hg, by rw [hm.block g (Array.getElem?_eq_some_iff.1 hh).1 (hn g (by rw [hv]; rfl))]; exact hh, r⟩
theorem own_below {base : Nat} {e : TypeId} {sz : Nat} {v : Value} {n : Nat} {xs : List Value} (h : w.ownsRow base e sz v n xs) (hm : Below w.heap.size w w') : w'.ownsRow base e sz v n xs :=
  own_mod (S := fun _ => False) h (Mod.of_below hm) (fun _ _ hx => hx)
theorem Moved.refl (w : World) (v : Value) : Moved w v v := fun _ h => Or.inl h
theorem Moved.trans {v1 v2 v3 : Value} (h : Moved a v1 v2) (k : Moved b v2 v3) (hs : a.heap.size ≤ b.heap.size) : Moved a v1 v3 := fun x hx => by
  rcases k x hx with h1 | h1
  · exact h x h1
  · right; omega
end
end Go.Proofs.Ytecdnlmagaoccaa
