/- clear of the last elements of an owned row; a row made shorter. -/
import Derived.Test.YtekioplbfoonkaaGreatDoorMg1
import Derived.Lib.SliceRun
namespace Go.Proofs.YtekioplbfoonkaaGreatDoor
open Go.RowKit
set_option linter.unusedVariables false
set_option maxRecDepth 100000
section
variable {P : Program} {w0 w : World} {I : Part} {L : List HP} {e : TypeId} {sz n i : Nat} {xs : List Value}
theorem Sat.rowTake {ad : Option Addr} {cap : Nat} (h : Sat w0 I (row e sz (.slice ad n cap) n xs :: L) w) (hi : i ≤ n) : Sat w0 I (row e sz (.slice ad i cap) i (xs.take (i * sz)) :: L) w :=
  h.weaken fun g ⟨hl, hr⟩ => by
    have hm := Nat.mul_le_mul_right sz hi
    refine ⟨by rw [List.length_take, hl, Nat.min_eq_left hm], ?_⟩
    rcases hr with ⟨hv, rfl⟩ | ⟨b, c, cur, hv, hg, h1, h2, h3, h4⟩
    · simp only [Value.slice.injEq] at hv
      obtain ⟨rfl, _, rfl⟩ := hv
      obtain rfl : i = 0 := by omega
      exact Or.inl ⟨rfl, rfl⟩
    · simp only [Value.slice.injEq, true_and] at hv
      obtain ⟨rfl, rfl⟩ := hv
      exact Or.inr ⟨b, cap, cur, rfl, hg, by omega, h2, h3, by rw [← h4, List.take_take, Nat.min_eq_left hm]⟩
theorem setCells_sat {g cap K : Nat} : ∀ (vs : List Value) (o : Nat) (w : World) (xs : List Value), K ≤ o → Sat w0 I (row e sz (.slice (some ⟨g, 0, none⟩) n cap) n xs :: L) w → ∃ xs', xs'.take K = xs.take K ∧ Sat w0 I (row e sz (.slice (some ⟨g, 0, none⟩) n cap) n xs' :: L) (w.setCells g o vs)
  | [], o, w, xs, _, h => ⟨xs, rfl, h⟩
  | v :: r, o, w, xs, hK, h => by
    obtain ⟨xs', h1, h2⟩ := setCells_sat (K := K) r (o + 1) (w.setCell ⟨g, o, none⟩ v) (xs.set o v) (Nat.le_succ_of_le hK) (h.rowSet o v)
    exact ⟨xs', by rw [h1, List.take_set_of_le hK], h2⟩
theorem run_clear_sat {t ty : TypeId} {z : Value} {g cap c : Nat} (ht : P.underlying t = some (.slice e)) (hv : ∀ w, (zeroValue e).run P w = .ok z w) (hz : z.cells.size = sz) (h1 : ∀ v ∈ z.cells.toList, v.oneCell' = true)
    (H : Sat w0 I (row e sz (.slice (some ⟨g, 0, none⟩) n cap) n xs :: L) w) (hi : i ≤ n) {m : Nat} (hm : m = n - i) (ad : Option Addr) (had : i < n → ad = some ⟨g, i * sz, none⟩) (hadn : ∃ x, ad = some x) :
    ∃ w', (Builtin.clear_ #[t] ty #[.slice ad m c]).run P w = .ok (.tuple #[]) w' ∧ Sat w0 I (row e sz (.slice (some ⟨g, 0, none⟩) i cap) i (xs.take (i * sz)) :: L) w' := by
  subst hm
  by_cases hin : i < n
  · obtain rfl := had hin
    obtain ⟨d, hd⟩ : ∃ d, n - i = d + 1 := ⟨n - i - 1, by omega⟩
    have hsize := size_zeroCells z.cells (n - i)
    obtain ⟨hl, hr⟩ := H.isRow
    rcases hr with ⟨hx, _⟩ | ⟨b, c', cur, hx, _, hh, k1, k2, k3, k4⟩
    · cases hx
    simp only [Value.slice.injEq, Option.some.injEq, Addr.mk.injEq, true_and, and_true] at hx
    obtain ⟨rfl, rfl⟩ := hx
    have hmul : n * sz ≤ cap * sz := Nat.mul_le_mul_right sz k1
    have hsub : i * sz + (n - i) * sz = n * sz := by rw [← Nat.add_mul]; congr 1; omega
    have hst := run_storeCells_cells (P := P) g (i * sz) (Builtin.zeroCells z.cells (n - i)).toList 0 w (fun j hj => by
        have hj' : j < (n - i) * sz := by simpa [hsize, hz] using hj
        unfold World.cell?
        rw [show (⟨g, i * sz + 0 + j, none⟩ : Addr).block = g from rfl, hh]
        simp; omega) (fun j hj => by
        unfold World.frozen?
        rw [show (⟨g, i * sz + 0 + j, none⟩ : Addr).block = g from rfl, hh]
        simp) (fun v hv' => by
        simp only [Builtin.zeroCells, Array.toList_map, List.mem_map] at hv'
        obtain ⟨k, hk, rfl⟩ := hv'
        have hk' : k < (n - i) * z.cells.size := by simpa using hk
        have hpos : 0 < z.cells.size := Nat.pos_of_ne_zero (fun e0 => by rw [e0] at hk'; omega)
        have hlt := Nat.mod_lt k hpos
        rw [getElem!_pos z.cells (k % z.cells.size) hlt]
        exact h1 _ (by simp))
    obtain ⟨xs', e1, S⟩ := setCells_sat (K := i * sz) (Builtin.zeroCells z.cells (n - i)).toList (i * sz + 0) w xs (by omega) H
    refine ⟨w.setCells g (i * sz + 0) (Builtin.zeroCells z.cells (n - i)).toList, ?_, by have := S.rowTake hi; rwa [e1] at this⟩
    rw [hd] at hst ⊢
    simp [Builtin.clear_, run_underlying ht, hv, hst]
  · obtain rfl : i = n := by omega
    obtain ⟨x, rfl⟩ := hadn
    have S := H.rowTake (i := i) (Nat.le_refl _)
    exact ⟨w, by simp [Builtin.clear_, run_underlying ht], S⟩
end
section
variable {P : Program} {w0 w : World} {I : Part} {L : List HP} {e : TypeId} {sz n i : Nat} {xs : List Value} {a : Act} {o : Oper} {Q : Exit → Act → World → Prop}
/-- clear of the last elements of a row, as one operation. -/
theorem wpList_clearS {ops : Array Oper} {rest : List Oper} {t : TypeId} {z : Value} {g cap c m : Nat} (hgd : o.guard = none) (x : Operand)
    (ho : o.op = .call { callee := .builtin .clear, args := #[x], argTypes := #[t] }) (ht : P.underlying t = some (.slice e)) (hv : ∀ w, (zeroValue e).run P w = .ok z w) (hz : z.cells.size = sz) (h1 : ∀ v ∈ z.cells.toList, v.oneCell' = true)
    (H : Sat w0 I (row e sz (.slice (some ⟨g, 0, none⟩) n cap) n xs :: L) w) (hi : i ≤ n) (hm : m = n - i) {ad : Option Addr} (hx : a.eval x = .slice ad m c) (had : i < n → ad = some ⟨g, i * sz, none⟩) (hadn : ∃ x, ad = some x)
    (h : ∀ w', Sat w0 I (row e sz (.slice (some ⟨g, 0, none⟩) i cap) i (xs.take (i * sz)) :: L) w' → wpList P ops Q rest (a.put o.dst (.tuple #[])) w') : wpList P ops Q (o :: rest) a w :=
  wpList_plain hgd fun K hK => by
    obtain ⟨w', hr, hS⟩ := run_clear_sat (t := t) (ty := o.type) (c := c) ht hv hz h1 H hi hm ad had hadn
    have := hK _ _ (h w' hS)
    unfold Oper.wp execOp
    simp only [ho, resolve, invoke, builtin, Sem.run_bind, Sem.run_pure, Result.andThen_ok, List.map_toArray, List.map_cons, List.map_nil, hx, hr]
    exact this
theorem wpList_clearNil {ops : Array Oper} {rest : List Oper} {t : TypeId} {z : Value} (hgd : o.guard = none) (x : Operand)
    (ho : o.op = .call { callee := .builtin .clear, args := #[x], argTypes := #[t] }) (ht : P.underlying t = some (.slice e)) (hv : ∀ w, (zeroValue e).run P w = .ok z w) (hx : a.eval x = .slice none 0 0)
    (h : wpList P ops Q rest (a.put o.dst (.tuple #[])) w) : wpList P ops Q (o :: rest) a w :=
  wpList_plain hgd fun K hK => by
    have := hK _ _ h
    have hr : (Builtin.clear_ #[t] o.type #[.slice none 0 0]).run P w = .ok (.tuple #[]) w := by simp [Builtin.clear_, run_underlying ht]
    unfold Oper.wp execOp
    simp only [ho, resolve, invoke, builtin, Sem.run_bind, Sem.run_pure, Result.andThen_ok, List.map_toArray, List.map_cons, List.map_nil, hx, hr]
    exact this
end
end Go.Proofs.YtekioplbfoonkaaGreatDoor
