/- Plain law of the queue: a request comes within so many Nexts. -/
import Derived.Test.YtecdcainkemicaaQueuePl
namespace Go.Proofs.Ytecdcainkemicaa
set_option linter.unusedVariables false

def Falls (l : List Wt) : Prop := l.Pairwise (fun a b => b.passed ≤ a.passed)
theorem bump_falls : ∀ (n : Nat) (l : List Wt), Falls l → Falls (bump n l)
  | 0, l, h => by simpa [bump] using h
  | _ + 1, [], h => by simp [bump, Falls]
  | n + 1, x :: r, h => by
    unfold Falls at *
    rw [bump]
    rw [List.pairwise_cons] at h ⊢
    refine ⟨fun y hy => ?_, bump_falls n r h.2⟩
    obtain ⟨z, hz, _, _, _, _, _, h2⟩ := mem_bump n r y hy
    have := h.1 z hz
    simp only [up]; omega
theorem left_falls {i : Nat} {l : List Wt} (h : Falls l) : Falls ((bump i l).eraseIdx i) := List.Pairwise.sublist (List.eraseIdx_sublist _ _) (bump_falls i l h)
theorem bump_get2 : ∀ (n : Nat) (l : List Wt) (k : Nat), k < n → (bump n l)[k]? = (l[k]?).map up
  | n + 1, [], k, _ => by simp [bump]
  | n + 1, x :: r, 0, _ => by simp [bump]
  | n + 1, x :: r, k + 1, h => by simp [bump, bump_get2 n r k (by omega)]
theorem left_get {i : Nat} {l : List Wt} (k : Nat) : ((bump i l).eraseIdx i)[k]? = if k < i then (l[k]?).map up else l[k + 1]? := by
  rw [List.getElem?_eraseIdx]
  split
  · rename_i h; exact bump_get2 i l k h
  · rename_i h; exact bump_get i l (k + 1) (by omega)

/-- what holds between the Nexts: mine stands at place p; nobody was passed over more than eight times, and a younger one never more often than an elder one. -/
structure Fair (l : List Wt) (p : Nat) : Prop where
  mine : ∃ m, l[p]? = some m ∧ m.id = 1000
  lo : ∀ y ∈ l, 0 ≤ y.passed
  hi : ∀ y ∈ l, y.passed ≤ 8
  falls : Falls l
def meas (l : List Wt) (p : Nat) : Int := 9 * p + 8 - (match l[0]? with | some h => h.passed | none => 0)
theorem meas_nn {l : List Wt} {p : Nat} (h : Fair l p) : 0 ≤ meas l p := by
  unfold meas
  cases hh : l[0]? with
  | none => simp; omega
  | some y => have := h.hi y (List.mem_of_getElem? hh); simp only; omega
theorem Fair.add {l : List Wt} {p : Nat} (h : Fair l p) (x : Wt) (hx : x.passed = 0) : Fair (l ++ [x]) p ∧ meas (l ++ [x]) p = meas l p := by
  obtain ⟨m, hm, hid⟩ := h.mine
  have hp : p < l.length := (List.getElem?_eq_some_iff.1 hm).1
  refine ⟨⟨⟨m, by rw [List.getElem?_append_left hp]; exact hm, hid⟩, fun y hy => ?_, fun y hy => ?_, ?_⟩, ?_⟩
  · rcases List.mem_append.1 hy with hy | hy
    · exact h.lo y hy
    · simp at hy; subst hy; omega
  · rcases List.mem_append.1 hy with hy | hy
    · exact h.hi y hy
    · simp at hy; subst hy; omega
  · unfold Falls
    rw [List.pairwise_append]
    exact ⟨h.falls, by simp, fun a ha b hb => by simp at hb; subst hb; have := h.lo a ha; omega⟩
  · unfold meas
    rw [List.getElem?_append_left (by omega)]
theorem Fair.step {x0 : Wt} {r : List Wt} {p i : Nat} {x : Wt} {vol at_ : Int} (h : Fair (x0 :: r) p) (hch : chooseF x0 (x0 :: r) vol at_ = i) (hx : (x0 :: r)[i]? = some x) (hne : x.id ≠ 1000) :
    ∃ p', Fair ((bump i (x0 :: r)).eraseIdx i) p' ∧ meas ((bump i (x0 :: r)).eraseIdx i) p' < meas (x0 :: r) p := by
  obtain ⟨m, hm, hid⟩ := h.mine
  have h0 := h.lo x0 (by simp)
  have h8 := h.hi x0 (by simp)
  have hip : i ≠ p := fun e => by subst e; rw [hm] at hx; cases hx; exact hne hid
  have hhd : 0 < i → x0.passed < 8 := by
    intro hi0
    by_cases h9 : 8 ≤ x0.passed
    · unfold chooseF at hch; rw [if_pos h9] at hch; omega
    · omega
  have hmax : ∀ y ∈ x0 :: r, y.passed ≤ x0.passed := by
    intro y hy
    rcases List.mem_cons.1 hy with rfl | hy
    · exact Int.le_refl _
    · exact (List.pairwise_cons.1 h.falls).1 y hy
  have hlo : ∀ y ∈ (bump i (x0 :: r)).eraseIdx i, 0 ≤ y.passed := by
    intro y hy
    obtain ⟨z, hz, _, _, _, _, h1, _⟩ := mem_left hy
    have := h.lo z hz; omega
  have hhi : ∀ y ∈ (bump i (x0 :: r)).eraseIdx i, y.passed ≤ 8 := by
    intro y hy
    by_cases hi0 : i = 0
    · subst hi0
      have hy' : y ∈ x0 :: r := by have := List.mem_of_mem_eraseIdx hy; simpa [bump] using this
      exact h.hi y hy'
    · obtain ⟨z, hz, _, _, _, _, _, h2⟩ := mem_left hy
      have := hmax z hz; have := hhd (by omega); omega
  have hmeas : meas (x0 :: r) p = 9 * p + 8 - x0.passed := by simp [meas]
  rw [hmeas]
  by_cases hlt : i < p
  · obtain ⟨p', rfl⟩ : ∃ p', p = p' + 1 := ⟨p - 1, by omega⟩
    refine ⟨p', ⟨⟨m, by rw [left_get, if_neg (by omega)]; exact hm, hid⟩, hlo, hhi, left_falls h.falls⟩, ?_⟩
    unfold meas
    cases hh : ((bump i (x0 :: r)).eraseIdx i)[0]? with
    | none => simp only; omega
    | some y => have := hlo y (List.mem_of_getElem? hh); simp only; omega
  · have hgt : p < i := by omega
    refine ⟨p, ⟨⟨up m, by rw [left_get, if_pos hgt, hm]; rfl, hid⟩, hlo, hhi, left_falls h.falls⟩, ?_⟩
    unfold meas
    rw [left_get, if_pos (by omega)]
    show 9 * (p : Int) + 8 - (x0.passed + 1) < 9 * (p : Int) + 8 - x0.passed; omega
/-- at the beginning: the elders, then mine. -/
theorem fair_start (l : List Wt) (m : Wt) (h : ∀ y ∈ l, y.passed = 0) (hm : m.passed = 0) (hid : m.id = 1000) : Fair (l ++ [m]) l.length ∧ meas (l ++ [m]) l.length = 9 * l.length + 8 := by
  have h0 : ∀ y ∈ l ++ [m], y.passed = 0 := by
    intro y hy
    rcases List.mem_append.1 hy with hy | hy
    · exact h y hy
    · simp at hy; subst hy; exact hm
  refine ⟨⟨⟨m, by simp, hid⟩, fun y hy => by rw [h0 y hy]; omega, fun y hy => by rw [h0 y hy]; omega, ?_⟩, ?_⟩
  · unfold Falls
    exact List.pairwise_of_forall_mem_list (fun a ha b hb => by rw [h0 a ha, h0 b hb]; omega)
  · unfold meas
    cases hh : (l ++ [m])[0]? with
    | none => simp at hh
    | some y =>
      show 9 * (l.length : Int) + 8 - y.passed = 9 * (l.length : Int) + 8
      rw [h0 y (List.mem_of_getElem? hh)]; omega
end Go.Proofs.Ytecdcainkemicaa
