/- Plain laws of the queue: what is chosen is the lowest; what Next leaves. -/
import Derived.Test.YtecdcainkemicaaQueueAw
namespace Go.Proofs.Ytecdcainkemicaa
open Go.RowKit
set_option linter.unusedVariables false

theorem lowF_spec (vol f : Int) (b : Bool) (l : List Wt) : ∀ (r : List Wt) (k : Nat) (best ba : Int), l.drop k = r → k ≤ l.length →
    (best = -1 ∧ (∀ y ∈ l.take k, skipB vol f b y = true) ∨ ∃ (i : Nat) (x : Wt), best = i ∧ l[i]? = some x ∧ i < k ∧ x.at_ = ba ∧ skipB vol f b x = false ∧ ∀ y ∈ l.take k, skipB vol f b y = false → x.at_ ≤ y.at_) →
    (lowF vol f b r k best ba = -1 ∧ (∀ y ∈ l, skipB vol f b y = true)) ∨ ∃ (i : Nat) (x : Wt), lowF vol f b r k best ba = i ∧ l[i]? = some x ∧ skipB vol f b x = false ∧ ∀ y ∈ l, skipB vol f b y = false → x.at_ ≤ y.at_ := by
  intro r
  induction r with
  | nil =>
    intro k best ba hd hk h
    have hkl : l.length ≤ k := by have := congrArg List.length hd; simp at this; omega
    rw [List.take_of_length_le hkl] at h
    rw [lowF]
    rcases h with h | ⟨i, x, h1, h2, h3, h4, h5, h6⟩
    · exact Or.inl h
    · exact Or.inr ⟨i, x, h1, h2, h5, h6⟩
  | cons x r ih =>
    intro k best ba hd hk h
    have hlt : k < l.length := by
      have := congrArg List.length hd
      simp at this; omega
    have hx : l[k] = x ∧ l.drop (k + 1) = r := by
      rw [List.drop_eq_getElem_cons hlt] at hd
      exact List.cons.inj hd
    have htake : l.take (k + 1) = l.take k ++ [x] := by rw [List.take_succ_eq_append_getElem hlt, hx.1]
    rw [lowF]
    by_cases hs : skipB vol f b x = true
    · rw [if_pos hs]
      refine ih (k + 1) best ba hx.2 (by omega) ?_
      rw [htake]
      rcases h with ⟨h1, h2⟩ | ⟨i, z, h1, h2, h3, h4, h5, h6⟩
      · refine Or.inl ⟨h1, fun y hy => ?_⟩
        rcases List.mem_append.1 hy with hy | hy
        · exact h2 y hy
        · simp at hy; subst hy; exact hs
      · refine Or.inr ⟨i, z, h1, h2, by omega, h4, h5, fun y hy hsy => ?_⟩
        rcases List.mem_append.1 hy with hy | hy
        · exact h6 y hy hsy
        · simp at hy; subst hy; rw [hs] at hsy; cases hsy
    · have hs' : skipB vol f b x = false := by simpa using hs
      rw [if_neg hs]
      by_cases hc : best < 0 ∨ x.at_ < ba
      · rw [if_pos hc]
        refine ih (k + 1) k x.at_ hx.2 (by omega) (Or.inr ⟨k, x, rfl, by rw [List.getElem?_eq_getElem hlt, hx.1], by omega, rfl, hs', fun y hy hsy => ?_⟩)
        rw [htake] at hy
        rcases List.mem_append.1 hy with hy | hy
        · rcases h with ⟨h1, h2⟩ | ⟨i, z, h1, h2, h3, h4, h5, h6⟩
          · rw [h2 y hy] at hsy; cases hsy
          · have := h6 y hy hsy; omega
        · simp at hy; subst hy; exact Int.le_refl _
      · rw [if_neg hc]
        refine ih (k + 1) best ba hx.2 (by omega) ?_
        rcases h with ⟨h1, h2⟩ | ⟨i, z, h1, h2, h3, h4, h5, h6⟩
        · omega
        · refine Or.inr ⟨i, z, h1, h2, by omega, h4, h5, fun y hy hsy => ?_⟩
          rw [htake] at hy
          rcases List.mem_append.1 hy with hy | hy
          · exact h6 y hy hsy
          · simp at hy; subst hy; omega
theorem lowF_low (vol f : Int) (b : Bool) (l : List Wt) :
    (lowF vol f b l 0 (-1) 0 = -1 ∧ (∀ y ∈ l, skipB vol f b y = true)) ∨ ∃ (i : Nat) (x : Wt), lowF vol f b l 0 (-1) 0 = i ∧ l[i]? = some x ∧ skipB vol f b x = false ∧ ∀ y ∈ l, skipB vol f b y = false → x.at_ ≤ y.at_ :=
  lowF_spec vol f b l l 0 (-1) 0 rfl (Nat.zero_le _) (Or.inl ⟨rfl, by simp⟩)

/-- whatever Next leaves was there, and was passed over once more at most. -/
theorem mem_bump : ∀ (n : Nat) (l : List Wt) (y : Wt), y ∈ bump n l → ∃ z ∈ l, y.id = z.id ∧ y.blob = z.blob ∧ y.vol = z.vol ∧ y.at_ = z.at_ ∧ z.passed ≤ y.passed ∧ y.passed ≤ z.passed + 1
  | 0, l, y, h => ⟨y, by simpa [bump] using h, rfl, rfl, rfl, rfl, by omega, by omega⟩
  | _ + 1, [], y, h => by simp [bump] at h
  | n + 1, x :: r, y, h => by
    rw [bump] at h
    rcases List.mem_cons.1 h with rfl | h
    · exact ⟨x, by simp, rfl, rfl, rfl, rfl, by simp [up]; omega, by simp [up]⟩
    · obtain ⟨z, hz, h'⟩ := mem_bump n r y h
      exact ⟨z, by simp [hz], h'⟩
theorem mem_left {i : Nat} {l : List Wt} {y : Wt} (h : y ∈ (bump i l).eraseIdx i) : ∃ z ∈ l, y.id = z.id ∧ y.blob = z.blob ∧ y.vol = z.vol ∧ y.at_ = z.at_ ∧ z.passed ≤ y.passed ∧ y.passed ≤ z.passed + 1 :=
  mem_bump i l y (List.mem_of_mem_eraseIdx h)
theorem left_len {i : Nat} {l : List Wt} (h : i < l.length) : ((bump i l).eraseIdx i).length = l.length - 1 := by
  rw [List.length_eraseIdx_of_lt (by rw [bump_len]; exact h), bump_len]

/-- THE SWEEP: all requests are for one volume, none was passed over eight times: what is chosen stands from the place on and is the lowest there, or none does, and it is the lowest of all. -/
theorem sweep_choice (x0 : Wt) (r : List Wt) (v at_ : Int) (hv : v ≠ -1) (hall : ∀ y ∈ x0 :: r, y.vol = v) (hp : x0.passed < 8) :
    ∃ (i : Nat) (x : Wt), chooseF x0 (x0 :: r) v at_ = i ∧ (x0 :: r)[i]? = some x ∧
      ((at_ ≤ x.at_ ∧ ∀ y ∈ x0 :: r, at_ ≤ y.at_ → x.at_ ≤ y.at_) ∨ ((∀ y ∈ x0 :: r, y.at_ < at_) ∧ ∀ y ∈ x0 :: r, x.at_ ≤ y.at_)) := by
  have sk : ∀ y ∈ x0 :: r, ∀ f b, skipB v f b y = false ↔ (b = true → f ≤ y.at_) := by
    intro y hy f b
    simp [skipB, hall y hy]
  unfold chooseF
  rw [if_neg (by omega)]
  rcases lowF_low v at_ true (x0 :: r) with ⟨h1, h2⟩ | ⟨i, x, h1, h2, h3, h4⟩
  · rw [h1, if_neg (by omega)]
    have hlow : ∀ y ∈ x0 :: r, y.at_ < at_ := by
      intro y hy
      have := h2 y hy
      by_cases hh : at_ ≤ y.at_
      · have := (sk y hy at_ true).2 (fun _ => hh); simp_all
      · omega
    rcases lowF_low v 0 false (x0 :: r) with ⟨g1, g2⟩ | ⟨i, x, g1, g2, g3, g4⟩
    · have := g2 x0 (by simp)
      have := (sk x0 (by simp) 0 false).2 (by simp)
      simp_all
    · rw [g1, if_pos ⟨hv, by omega⟩]
      exact ⟨i, x, rfl, g2, Or.inr ⟨hlow, fun y hy => g4 y hy ((sk y hy 0 false).2 (by simp))⟩⟩
  · rw [h1, if_pos ⟨hv, by omega⟩]
    have hx : x ∈ x0 :: r := List.mem_of_getElem? h2
    exact ⟨i, x, rfl, h2, Or.inl ⟨(sk x hx at_ true).1 h3 rfl, fun y hy hh => h4 y hy ((sk y hy at_ true).2 (fun _ => hh))⟩⟩
end Go.Proofs.Ytecdcainkemicaa
