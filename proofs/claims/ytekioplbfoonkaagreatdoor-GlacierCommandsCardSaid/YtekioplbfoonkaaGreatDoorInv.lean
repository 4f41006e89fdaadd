/- A region that draws its order, by an invariant: what is known, by which operations are done. -/
import Derived.Test.YtekioplbfoonkaaGreatDoorMg1
import Derived.RegionTactic
namespace Go.Proofs.YtekioplbfoonkaaGreatDoor
open Go.RowKit
set_option linter.unusedVariables false
set_option maxRecDepth 100000
/-- one more operation is done. -/
def upd (f : Nat → Bool) (i : Nat) : Nat → Bool := fun j => if j = i then true else f j
theorem count_set : ∀ (l : List Bool) (i : Nat), l[i]? = some false → (l.set i true).count false + 1 = l.count false
  | [], i, h => by simp at h
  | b :: l, 0, h => by simp at h; subst h; simp
  | b :: l, i + 1, h => by
    have := count_set l i (by simpa using h)
    simp only [List.set_cons_succ, List.count_cons]
    omega
theorem count_zero (l : List Bool) (h : l.count false = 0) (i : Nat) : l[i]? ≠ some false := by
  intro e
  have := count_set l i e
  omega
/-- what comes behind an operation comes behind it in the text. -/
def ordB (ops : Array Oper) : Bool := (List.range ops.size).all fun i => match ops[i]? with
  | some o => o.after.all fun e => decide (e.on < i)
  | none => true
theorem ordB_spec {ops : Array Oper} (h : ordB ops = true) {i : Nat} {o : Oper} (ho : ops[i]? = some o) : ∀ e ∈ o.after, e.on < i := by
  unfold ordB at h
  rw [List.all_eq_true] at h
  have := h i (List.mem_range.2 (Array.getElem?_eq_some_iff.1 ho).1)
  rw [ho] at this
  simp only [Array.all_eq_true_iff_forall_mem] at this
  intro e he
  simpa using this e he
section
variable {P : Program} {ops : Array Oper} {Q : Exit → Act → World → Prop} {md : Region.Mode}
theorem listed_all (hord : ordB ops = true) {listed : Array Bool} (hsz : listed.size = ops.size) (hr : Region.ready md ops listed = []) : ∀ n i, i < n → i < ops.size → listed.getD i true = true
  | 0, i, h, _ => absurd h (Nat.not_lt_zero _)
  | n + 1, i, h, hi => by
    cases hl : listed.getD i true with
    | true => rfl
    | false =>
      exfalso
      have hm : i ∈ Region.ready md ops listed := by
        rw [mem_ready]
        refine ⟨hl, ops[i], Array.getElem?_eq_getElem hi, fun e he _ => ?_⟩
        have hlt := ordB_spec hord (Array.getElem?_eq_getElem hi) e he
        have := listed_all hord hsz hr n e.on (by omega) (by omega)
        have h2 : e.on < listed.size := by omega
        simp only [Array.getD_eq_getD_getElem?, Array.getElem?_eq_getElem h2, Option.getD_some] at this ⊢
        exact this
      rw [hr] at hm
      cases hm
theorem wpAny_inv (hord : ordB ops = true) (Φ : (Nat → Bool) → Act → World → Prop)
    (hs : ∀ f a w i o, Φ f a w → ops[i]? = some o → f i = false → (∀ e ∈ o.after, Region.binds md e = true → f e.on = true) →
      ∀ K' : Act → World → Prop, (∀ a w, Φ (upd f i) a w → K' a w) → if Region.wanted o (yielded ops a.tmps) = true then Oper.wp P o a w K' Q else K' (a.put o.dst undef) w)
    (he : ∀ f a w, Φ f a w → (∀ i, i < ops.size → f i = true) → Q .normal a w) :
    ∀ (fuel : Nat) (listed : Array Bool) (a : Act) (w : World), listed.size = ops.size → listed.toList.count false ≤ fuel → Φ (fun j => listed.getD j false) a w → wpAny P md ops Q fuel listed a w := by
  have hend : ∀ (listed : Array Bool) (a : Act) (w : World), listed.size = ops.size → Region.ready md ops listed = [] → Φ (fun j => listed.getD j false) a w → Q .normal a w := fun listed a w hsz hr h => by
    refine he _ a w h fun i hi => ?_
    have := listed_all hord hsz hr (i + 1) i (by omega) hi
    have h2 : i < listed.size := by omega
    simp only [Array.getD_eq_getD_getElem?, Array.getElem?_eq_getElem h2, Option.getD_some] at this ⊢
    exact this
  intro fuel
  induction fuel with
  | zero =>
    intro listed a w hsz hc h
    have hr : Region.ready md ops listed = [] := by
      refine List.eq_nil_iff_forall_not_mem.2 fun i hi => ?_
      have h0 := (mem_ready.1 hi).1
      refine count_zero listed.toList (by omega) i ?_
      rcases Nat.lt_or_ge i listed.size with h' | h'
      · simp only [Array.getD_eq_getD_getElem?, Array.getElem?_eq_getElem h', Option.getD_some] at h0
        simp [h', h0]
      · simp [Array.getElem?_eq_none h'] at h0
    exact ⟨hr, hend listed a w hsz hr h⟩
  | succ fuel ih =>
    intro listed a w hsz hc h
    refine ⟨fun hr => hend listed a w hsz hr h, fun i hi => ?_⟩
    obtain ⟨h0, o, ho, hall⟩ := mem_ready.1 hi
    have hlt : i < listed.size := by have := (Array.getElem?_eq_some_iff.1 ho).1; omega
    have hf : listed[i]? = some false := by
      simp only [Array.getD_eq_getD_getElem?, Array.getElem?_eq_getElem hlt, Option.getD_some] at h0
      rw [Array.getElem?_eq_getElem hlt, h0]
    refine wpOp_step ho fun K' hK' => hs (fun j => listed.getD j false) a w i o h ho ?_ hall K' fun a' w' h' => hK' a' w' (ih _ a' w' (by simpa using hsz) ?_ ?_)
    · simp [hf]
    · have := count_set listed.toList i (by simpa using hf)
      rw [Array.toList_setIfInBounds]
      omega
    · have e : (fun j => (listed.setIfInBounds i true).getD j false) = upd (fun j => listed.getD j false) i := by
        funext j
        unfold upd
        by_cases hj : j = i
        · subst hj; simp [hlt]
        · rw [if_neg hj]
          simp only [Array.getD_eq_getD_getElem?]
          rw [Array.getElem?_setIfInBounds_ne (fun e => hj e.symm)]
      rw [e]; exact h'
/-- a region that draws its order, by an invariant. -/
theorem wp_region_inv {id : Nat} {a : Act} {w : World} (hm : P.follows .mixedOrders = true) (hord : ordB ops = true) (Φ : (Nat → Bool) → Act → World → Prop) (h0 : Φ (fun _ => false) a w.drew)
    (hs : ∀ f a w i o, Φ f a w → ops[i]? = some o → f i = false → (∀ e ∈ o.after, Region.binds .any e = true → f e.on = true) →
      ∀ K' : Act → World → Prop, (∀ a w, Φ (upd f i) a w → K' a w) → if Region.wanted o (yielded ops a.tmps) = true then Oper.wp P o a w K' Q else K' (a.put o.dst undef) w)
    (he : ∀ f a w, Φ f a w → (∀ i, i < ops.size → f i = true) → Q .normal a w) : (Code.region id ops true).wp P Q a w := by
  refine wp_region_any hm (wpAny_inv hord Φ hs he _ _ _ _ (by simp) (by simp) ?_)
  have e : (fun j => (Array.replicate ops.size false).getD j false) = fun _ => false := by
    funext j
    simp only [Array.getD_eq_getD_getElem?, Array.getElem?_replicate]
    split <;> rfl
  rw [e]
  exact h0
end
end Go.Proofs.YtekioplbfoonkaaGreatDoor
