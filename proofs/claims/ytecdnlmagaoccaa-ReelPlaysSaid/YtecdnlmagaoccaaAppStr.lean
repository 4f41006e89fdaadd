/- append of whatever yields cells (a string's bytes ..) to a row that the call owns. -/
import Derived.Test.YtecdnlmagaoccaaOwn
import Derived.Deep.AppendSrc
import Derived.Deep.Upon
namespace Go.Proofs.Ytecdnlmagaoccaa
open Go.RowKit
set_option linter.unusedVariables false

theorem size_setCells' (g : Nat) : ∀ (vs : List Value) (o : Nat) (w : World), (w.setCells g o vs).heap.size = w.heap.size
  | [], _, _ => rfl
  | v :: r, o, w => by rw [World.setCells, size_setCells' g r]; simp
theorem tape_setCells' (g : Nat) : ∀ (vs : List Value) (o : Nat) (w : World), (w.setCells g o vs).tape = w.tape
  | [], _, _ => rfl
  | v :: r, o, w => by rw [World.setCells, tape_setCells' g r]; rfl
theorem setCells_heap {g : Nat} {e : TypeId} {fr : Nat × Nat} : ∀ (vs : List Value) (o : Nat) (w : World) (cur : Array Value), w.heap[g]? = some (.cells cur e fr) → o + vs.length ≤ cur.size →
    ∃ cur', (w.setCells g o vs).heap[g]? = some (.cells cur' e fr) ∧ cur'.size = cur.size ∧ cur'.toList.take (o + vs.length) = cur.toList.take o ++ vs
  | [], o, w, cur, h, hl => ⟨cur, h, rfl, by simp⟩
  | v :: r, o, w, cur, h, hl => by
    have h1 : (w.setCell ⟨g, o, none⟩ v).heap[g]? = some (.cells (cur.setIfInBounds o v) e fr) := by
      unfold World.setCell
      simp only [Array.getElem?_modify]
      rw [if_pos trivial, h]
      simp
    simp only [List.length_cons] at hl
    obtain ⟨cur', h2, h3, h4⟩ := setCells_heap r (o + 1) _ _ h1 (by simp; omega)
    refine ⟨cur', h2, by simpa using h3, ?_⟩
    rw [List.length_cons, show o + (r.length + 1) = o + 1 + r.length by omega, h4]
    have e1 : (cur.setIfInBounds o v).toList.take (o + 1) = cur.toList.take o ++ [v] := by
      rw [Array.toList_setIfInBounds, List.take_set, List.take_add_one, List.set_append_right _ _ (by simp; omega)]
      have e2 : cur.toList[o]? = some (cur[o]'(by omega)) := by simp
      rw [e2]
      simp [show min o cur.size = o by omega]
    rw [e1]; simp
section
variable {P : Program} {w : World} {a : Act} {o : Oper} {Q : Exit → Act → World → Prop} {ops : Array Oper} {rest : List Oper}
theorem own_open' {w : World} {base : Nat} {e : TypeId} {sz : Nat} {v : Value} {n : Nat} {xs : List Value} (h : w.ownsRow base e sz v n xs) (hv : v ≠ .slice none 0 0) : ∃ g cap cur, v = .slice (some ⟨g, 0, none⟩) n cap ∧ base ≤ g ∧ w.heap[g]? = some (.cells cur e (0, 0)) ∧ n ≤ cap ∧ cap ≤ maxLen ∧ cur.size = cap * sz ∧ cur.toList.take (n * sz) = xs := by
  rcases h.2 with ⟨h, _⟩ | h
  · exact absurd h hv
  · exact h
theorem run_appSrc' {t tx ty e : TypeId} {size bytes : Nat} (T : SliceT P t e size bytes) (base : Nat) (v : Value) (n m : Nat) (xs news : List Value) (x : Value) (hown : w.ownsRow base e size v n xs) (hv : v ≠ .slice none 0 0)
    (hs : Src P size tx x m news w) (hb : (n + m) * bytes ≤ 140737488355328) (hn : n + m ≤ 140737488355328) (hbase : base ≤ w.heap.size) :
    ∃ v' w', (Builtin.append_ #[t, tx] ty #[v, x]).run P w = .ok v' w' ∧ w'.ownsRow base e size v' (n + m) (xs ++ news) ∧ w.grownBy w' v.ownBlock ∧ Moved w v v' ∧ ∃ ad c, v' = .slice (some ⟨ad, 0, none⟩) (n + m) c := by
  obtain ⟨g, cap, cur, rfl, hg, hh, hnc, hcm, hcs, htk⟩ := own_open' hown hv
  obtain ⟨ti, z, hti, hz, hsz, hby, hzs⟩ := T.hi
  have hnl := hs.newsLen
  by_cases hroom : n + m ≤ cap
  · have hfit : n * size + news.length ≤ cur.size := by rw [hnl, hcs, ← Nat.add_mul]; exact Nat.mul_le_mul_right size hroom
    subst hsz
    have hr := run_append_room_src (P := P) w t tx ty e ti T.ht hti g 0 n cap x m news hs hroom (fun j hj => by
      unfold World.cell?
      rw [show (⟨g, 0 + n * ti.size + j, none⟩ : Addr).block = g from rfl, hh]
      simp; omega) (fun j hj => by
      unfold World.frozen?
      rw [show (⟨g, 0 + n * ti.size + j, none⟩ : Addr).block = g from rfl, hh]
      simp)
    rw [Nat.zero_add] at hr
    obtain ⟨cur', h1, h2, h3⟩ := setCells_heap news (n * ti.size) w cur hh hfit
    refine ⟨_, _, hr, ⟨by rw [List.length_append, hown.1, hnl, Nat.add_mul], Or.inr ⟨g, cap, cur', rfl, hg, h1, hroom, hcm, by rw [h2, hcs], ?_⟩⟩, ⟨World.os_setCells _ _ _ _, ?_, World.output_setCells _ _ _ _, by rw [size_setCells']; exact Nat.le_refl _, fun k hk hne => World.heap_setCells_other _ _ _ _ hk (fun e => hne (by rw [e]; rfl))⟩, fun k hk => Or.inl hk, _, _, rfl⟩
    · rw [Nat.add_mul, ← hnl, h3, htk]
    · exact tape_setCells' _ _ _ _
  · subst hsz hby
    have hold : (Builtin.firstCells ti.size n (.slice (some ⟨g, 0, none⟩) n cap)).run P w.drew = .ok xs.toArray w.drew := run_firstCells_some w.drew ti.size n ⟨g, 0, none⟩ n cap xs hown.1 (hown.cells (g := g) rfl)
    have hr := run_append_grow_src (P := P) w t tx ty e ti z T.ht hti hz (some ⟨g, 0, none⟩) n cap xs hold x m news hs (by omega) (by omega) (growslice_fits (by omega) hb)
    have h63 : n + m ≤ maxLen := by unfold maxLen; omega
    have hge := grownCap_ge w (n + m) cap e
    have hcm2 : grownCap w (n + m) cap e ≤ maxLen := grownCap_le_maxLen _ (n + m) cap e h63
    refine ⟨_, _, hr, ⟨by rw [List.length_append, hown.1, hnl, Nat.add_mul], Or.inr ⟨_, _, _, rfl, hbase, _root_.Go.heap_alloc_new _ _, hge, hcm2, ?_, ?_⟩⟩, ⟨rfl, rfl, rfl, by simp, fun k hk _ => Below.heap_alloc w.drew _ k hk⟩, fun k hk => by simp [Value.ownBlock] at hk; right; omega, _, _, rfl⟩
    · simp only [Array.size_append, List.size_toArray, List.length_append, size_zeroCells, hzs, hown.1, hnl]
      rw [← Nat.add_mul, ← Nat.add_mul]; congr 1; omega
    · simp only [Array.toList_append]
      rw [show (n + m) * ti.size = (xs ++ news).length from by rw [List.length_append, hown.1, hnl, Nat.add_mul]]
      exact List.take_left
theorem run_appSrc {t tx ty e : TypeId} {size bytes : Nat} (T : SliceT P t e size bytes) (base : Nat) (v : Value) (n m : Nat) (xs news : List Value) (x : Value) (hown : w.ownsRow base e size v n xs) (h0 : 0 < n)
    (hs : Src P size tx x m news w) (hb : (n + m) * bytes ≤ 140737488355328) (hn : n + m ≤ 140737488355328) (hbase : base ≤ w.heap.size) :
    ∃ v' w', (Builtin.append_ #[t, tx] ty #[v, x]).run P w = .ok v' w' ∧ w'.ownsRow base e size v' (n + m) (xs ++ news) ∧ w.grownBy w' v.ownBlock ∧ Moved w v v' := by
  obtain ⟨v', w', h1, h2, h3, h4, _⟩ := run_appSrc' (ty := ty) T base v n m xs news x hown (fun hv => by
    rcases hown.2 with ⟨_, hz⟩ | ⟨g, cap, cur, hv2, _⟩
    · omega
    · rw [hv] at hv2; cases hv2) hs hb hn hbase
  exact ⟨v', w', h1, h2, h3, h4⟩
theorem wp_appSrc {K : Act → World → Prop} {t tx e : TypeId} {size bytes : Nat} (T : SliceT P t e size bytes) (sr xr : Operand)
    (ho : o.op = .call { callee := .builtin .append, args := #[sr, xr], argTypes := #[t, tx] })
    (base : Nat) (v : Value) (n m : Nat) (xs news : List Value) (x : Value) (hsr : a.eval sr = v) (hxr : a.eval xr = x) (hown : w.ownsRow base e size v n xs) (h0 : 0 < n)
    (hs : Src P size tx x m news w) (hb : (n + m) * bytes ≤ 140737488355328) (hn : n + m ≤ 140737488355328) (hbase : base ≤ w.heap.size)
    (h : ∀ v' w', w'.ownsRow base e size v' (n + m) (xs ++ news) → w.grownBy w' v.ownBlock → Moved w v v' → K (a.put o.dst v') w') : o.wp P a w K Q := by
  obtain ⟨v', w', hr, h1, h2, h3⟩ := run_appSrc (ty := o.type) T base v n m xs news x hown h0 hs hb hn hbase
  have hK := h v' w' h1 h2 h3
  unfold Oper.wp execOp
  simp only [ho, resolve, invoke, builtin, Sem.run_bind, Sem.run_pure, Result.andThen_ok, List.map_toArray, List.map_cons, List.map_nil, hsr, hxr, hr]
  exact hK
theorem wpList_appSrc {t tx e : TypeId} {size bytes : Nat} (T : SliceT P t e size bytes) (hgd : o.guard = none) (sr xr : Operand)
    (ho : o.op = .call { callee := .builtin .append, args := #[sr, xr], argTypes := #[t, tx] })
    (base : Nat) (v : Value) (n m : Nat) (xs news : List Value) (x : Value) (hsr : a.eval sr = v) (hxr : a.eval xr = x) (hown : w.ownsRow base e size v n xs) (h0 : 0 < n)
    (hs : Src P size tx x m news w) (hb : (n + m) * bytes ≤ 140737488355328) (hn : n + m ≤ 140737488355328) (hbase : base ≤ w.heap.size)
    (h : ∀ v' w', w'.ownsRow base e size v' (n + m) (xs ++ news) → w.grownBy w' v.ownBlock → Moved w v v' → wpList P ops Q rest (a.put o.dst v') w') : wpList P ops Q (o :: rest) a w :=
  wpList_plain hgd fun _ hK => wp_appSrc T sr xr ho base v n m xs news x hsr hxr hown h0 hs hb hn hbase fun v' w' h1 h2 h3 => hK _ _ (h v' w' h1 h2 h3)
end
end Go.Proofs.Ytecdnlmagaoccaa
