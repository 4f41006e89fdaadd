/- GlacierRecalled, the plain law: of those that wait, each volume is put into the drive once. -/
import Derived.Test.YtekioplbfoonkaaGreatDoorMg5
import Derived.Test.YtekioplbfoonkaaGreatDoorMapB
namespace Go.Proofs.YtekioplbfoonkaaGreatDoor
open Go.RowKit
set_option linter.unusedVariables false
set_option maxRecDepth 100000
theorem low_first {x0 x : Wt} {r : List Wt} {i : Nat} (hi : lowF x0.vol 0 false (x0 :: r) 0 (-1) 0 = (i : Int)) (hx : (x0 :: r)[i]? = some x) : x.vol = x0.vol := by
  rcases lowF_low x0.vol 0 false (x0 :: r) with ⟨g1, g2⟩ | ⟨j, z, g1, g2, g3, g4⟩
  · have := g2 x0 (by simp); simp [skipB] at this
  · rw [g1] at hi
    obtain rfl : j = i := by omega
    rw [g2] at hx; cases hx
    simpa [skipB] using g3
/-- which volume comes next: the one that is mounted, while one waits for it; else the eldest's. -/
theorem chooseF_vol {x0 : Wt} {r : List Wt} {vol at_ : Int} {i : Nat} {x : Wt} (hp : x0.passed < 8) (hi : chooseF x0 (x0 :: r) vol at_ = i) (hx : (x0 :: r)[i]? = some x) :
    (vol ≠ -1 ∧ x.vol = vol) ∨ ((vol = -1 ∨ ∀ y ∈ x0 :: r, y.vol ≠ vol) ∧ x.vol = x0.vol) := by
  unfold chooseF at hi
  rw [if_neg (by omega)] at hi
  by_cases hv : vol = -1
  · rw [if_neg (by simp [hv]), if_neg (by simp [hv])] at hi
    exact Or.inr ⟨Or.inl hv, low_first hi hx⟩
  · rcases lowF_low vol at_ true (x0 :: r) with ⟨h1, h2⟩ | ⟨j, z, h1, h2, h3, h4⟩
    · rw [h1, if_neg (by omega)] at hi
      rcases lowF_low vol 0 false (x0 :: r) with ⟨g1, g2⟩ | ⟨j, z, g1, g2, g3, g4⟩
      · rw [g1, if_neg (by omega)] at hi
        refine Or.inr ⟨Or.inr fun y hy e => ?_, low_first hi hx⟩
        have := g2 y hy; simp [skipB, e] at this
      · rw [g1, if_pos ⟨hv, by omega⟩] at hi
        obtain rfl : j = i := by omega
        rw [g2] at hx; cases hx
        exact Or.inl ⟨hv, by simpa [skipB] using g3⟩
    · rw [h1, if_pos ⟨hv, by omega⟩] at hi
      obtain rfl : j = i := by omega
      rw [h2] at hx; cases hx
      exact Or.inl ⟨hv, by simp [skipB] at h3; exact h3.1⟩
/-- is a volume waited for? -/
def hasV (l : List Wt) (v : Int) : Bool := l.any fun y => y.vol == v
theorem hasV_iff {l : List Wt} {v : Int} : hasV l v = true ↔ ∃ y ∈ l, y.vol = v := by simp [hasV]
def oth (l : List Wt) (vol v : Int) : Nat := if v ≠ vol ∧ hasV l v = true then 1 else 0
/-- how many of three volumes are waited for, but for one. -/
def others (l : List Wt) (vol : Int) : Nat := oth l vol 0 + oth l vol 1 + oth l vol 2
theorem left_has {i : Nat} {l : List Wt} {x : Wt} (hx : l[i]? = some x) {v : Int} (hv : v ≠ x.vol) : hasV ((bump i l).eraseIdx i) v = hasV l v := by
  apply Bool.eq_iff_iff.2
  rw [hasV_iff, hasV_iff]
  constructor
  · rintro ⟨y, hy, e⟩
    obtain ⟨z, hz, _, _, h3, _⟩ := mem_left hy
    exact ⟨z, hz, by rw [← h3]; exact e⟩
  · rintro ⟨y, hy, e⟩
    obtain ⟨j, hj, rfl⟩ := List.getElem_of_mem hy
    have hne : j ≠ i := fun h => by
      subst h
      rw [List.getElem?_eq_getElem hj] at hx
      cases hx
      exact hv e.symm
    by_cases hlt : j < i
    · have h := left_get (i := i) (l := l) j
      rw [if_pos hlt, List.getElem?_eq_getElem hj] at h
      exact ⟨up l[j], List.mem_of_getElem? h, e⟩
    · have h := left_get (i := i) (l := l) (j - 1)
      rw [if_neg (by omega), show j - 1 + 1 = j by omega, List.getElem?_eq_getElem hj] at h
      exact ⟨l[j], List.mem_of_getElem? h, e⟩
theorem oth_same {l m : List Wt} {vol v : Int} (h : v ≠ vol → hasV m v = hasV l v) : oth m vol v = oth l vol v := by
  unfold oth
  by_cases e : v = vol
  · rw [if_neg (fun x => x.1 e), if_neg (fun x => x.1 e)]
  · rw [h e]
theorem oth_new {l m : List Wt} {vol u v : Int} (hnv : ∀ y ∈ l, y.vol ≠ vol ∨ vol = -1) (h0 : v ≠ -1) (hu : hasV l u = true) (h : v ≠ u → hasV m v = hasV l v) : oth l vol v = oth m u v + (if v = u then 1 else 0) := by
  have h1 : oth l vol v = if hasV l v = true then 1 else 0 := by
    unfold oth
    by_cases e : hasV l v = true
    · rw [if_pos e, if_pos]
      refine ⟨fun ev => ?_, e⟩
      obtain ⟨y, hy, e2⟩ := hasV_iff.1 e
      rcases hnv y hy with h3 | h3
      · exact h3 (e2.trans ev)
      · exact h0 (ev.trans h3)
    · rw [if_neg e, if_neg (fun x => e x.2)]
  rw [h1]
  by_cases e : v = u
  · subst e
    rw [if_pos hu, if_pos rfl]
    unfold oth
    rw [if_neg (fun x => x.1 rfl)]
  · rw [if_neg e, ← h e]
    unfold oth
    by_cases e2 : hasV m v = true
    · rw [if_pos e2, if_pos ⟨e, e2⟩]
    · rw [if_neg e2, if_neg (fun x => e2 x.2)]
/-- one step: the drive has it already, or there is one volume less. -/
theorem rec_step {x0 : Wt} {r : List Wt} {vol at_ : Int} {i : Nat} {x : Wt} (hp : x0.passed < 8) (hi : chooseF x0 (x0 :: r) vol at_ = i) (hx : (x0 :: r)[i]? = some x) (hr : 0 ≤ x.vol ∧ x.vol ≤ 2) :
    (x.vol = vol ∧ others ((bump i (x0 :: r)).eraseIdx i) x.vol = others (x0 :: r) vol) ∨ (x.vol ≠ vol ∧ others ((bump i (x0 :: r)).eraseIdx i) x.vol + 1 = others (x0 :: r) vol) := by
  have hh : ∀ v, v ≠ x.vol → hasV ((bump i (x0 :: r)).eraseIdx i) v = hasV (x0 :: r) v := fun v hv => left_has hx hv
  have hu : hasV (x0 :: r) x.vol = true := hasV_iff.2 ⟨x, List.mem_of_getElem? hx, rfl⟩
  by_cases e : x.vol = vol
  · refine Or.inl ⟨e, ?_⟩
    subst e
    unfold others
    rw [oth_same (hh 0), oth_same (hh 1), oth_same (hh 2)]
  · refine Or.inr ⟨e, ?_⟩
    have hnv : ∀ y ∈ x0 :: r, y.vol ≠ vol ∨ vol = -1 := by
      rcases chooseF_vol hp hi hx with ⟨_, h2⟩ | ⟨h1 | h1, h2⟩
      · exact absurd h2 e
      · exact fun y _ => Or.inr h1
      · exact fun y hy => Or.inl (h1 y hy)
    unfold others
    rw [oth_new hnv (by omega) hu (hh 0), oth_new hnv (by omega) hu (hh 1), oth_new hnv (by omega) hu (hh 2)]
    obtain h | h | h : x.vol = 0 ∨ x.vol = 1 ∨ x.vol = 2 := by omega
    all_goals (rw [h]; simp; omega)
/-- how many are waited for, as requests come. -/
theorem rec_add {l : List Wt} {x : Wt} {seen : List Int} (h : seen.length = others l (-1)) (hs : ∀ v, v ∈ seen ↔ hasV l v = true) (hr : 0 ≤ x.vol ∧ x.vol ≤ 2) :
    (setAdd seen x.vol).length = others (l ++ [x]) (-1) ∧ ∀ v, v ∈ setAdd seen x.vol ↔ hasV (l ++ [x]) v = true := by
  have h1 : ∀ v, hasV (l ++ [x]) v = (hasV l v || (x.vol == v)) := fun v => by simp [hasV]
  have h2 : ∀ v : Int, v ≠ -1 → oth (l ++ [x]) (-1) v = if (hasV l v || (x.vol == v)) = true then 1 else 0 := fun v hv => by
    unfold oth; rw [h1]; simp [hv]
  have h3 : ∀ v : Int, v ≠ -1 → oth l (-1) v = if hasV l v = true then 1 else 0 := fun v hv => by
    unfold oth; simp [hv]
  unfold others at *
  rw [h2 0 (by omega), h2 1 (by omega), h2 2 (by omega)]
  rw [h3 0 (by omega), h3 1 (by omega), h3 2 (by omega)] at h
  by_cases hm : x.vol ∈ seen
  · rw [setAdd_in hm]
    have hl := (hs x.vol).1 hm
    refine ⟨?_, fun v => ?_⟩
    · rw [h]
      obtain e | e | e : x.vol = 0 ∨ x.vol = 1 ∨ x.vol = 2 := by omega
      all_goals (rw [e] at hl ⊢; simp [hl])
    · rw [h1, hs v]
      by_cases e : x.vol = v
      · subst e; simp [hl]
      · simp [e]
  · rw [setAdd_out hm]
    have hl : hasV l x.vol = false := by
      cases hb : hasV l x.vol
      · rfl
      · exact absurd ((hs x.vol).2 hb) hm
    refine ⟨?_, fun v => ?_⟩
    · rw [List.length_append, h]
      obtain e | e | e : x.vol = 0 ∨ x.vol = 1 ∨ x.vol = 2 := by omega
      all_goals (rw [e] at hl ⊢; simp [hl]; try omega)
    · rw [h1, List.mem_append, hs v]
      rw [Bool.or_eq_true, List.mem_singleton, beq_iff_eq]
      exact or_congr Iff.rfl eq_comm
end Go.Proofs.YtekioplbfoonkaaGreatDoor
