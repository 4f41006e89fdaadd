/- Frames in a row, scanned: plain laws. -/
import Derived.Test.YtgnoojphbnfjbaaDoorSealL
namespace Go.Proofs.YtgnoojphbnfjbaaDoor
set_option linter.unusedVariables false
theorem openR_nil : openR [] = ([], 0, 2) := rfl
theorem scanR_frame (c X : List UInt8) (h : c.length ≤ 1048576) : scanR (frameL c ++ X) = (c :: (scanR X).1, c.length + 8 + (scanR X).2) := by
  have h1 := scanR_ok (openR_frame c X h)
  rw [List.drop_append_of_le_length (by rw [frameL_len]; omega), ← frameL_len c, List.drop_length, List.nil_append, frameL_len] at h1
  exact h1
theorem scanR_nil : scanR [] = ([], 0) := scanR_no openR_nil (by decide)
theorem scanR_laid : ∀ (cs : List (List UInt8)), (∀ c ∈ cs, c.length ≤ 50) → scanR (laidL cs) = (cs, (laidL cs).length)
  | [], _ => scanR_nil
  | c :: r, h => by
    have ih := scanR_laid r (fun x hx => h x (by simp [hx]))
    have hc := h c (by simp)
    show scanR (frameL c ++ laidL r) = _
    rw [scanR_frame c _ (by omega), ih]
    refine Prod.ext rfl ?_
    show c.length + 8 + (laidL r).length = (frameL c ++ laidL r).length
    rw [List.length_append, frameL_len]
/-- how many are whole ahead of a cut. -/
def whF : List (List UInt8) → Nat → Nat
  | [], _ => 0
  | c :: r, cut => if c.length + 8 ≤ cut then 1 + whF r (cut - (c.length + 8)) else 0
theorem whF_le : ∀ (cs : List (List UInt8)) (cut : Nat), whF cs cut ≤ cs.length
  | [], _ => Nat.le_refl _
  | c :: r, cut => by
    unfold whF; split
    · have := whF_le r (cut - (c.length + 8)); simp; omega
    · omega
theorem openR_part (c : List UInt8) (k : Nat) (h : c.length ≤ 1048576) (hk : k < c.length + 8) : openR ((frameL c).take k) = ([], 0, 2) := by
  have hl : ((frameL c).take k).length = k := by rw [List.length_take, frameL_len]; omega
  unfold openR
  rw [hl]
  by_cases h8 : k < 8
  · rw [if_pos h8]
  · have h4 : ((frameL c).take k).take 4 = be4 c.length := by
      rw [List.take_take, Nat.min_eq_left (by omega)]
      unfold frameL
      rw [List.append_assoc, List.take_append_of_le_length (by rw [be4_len]; omega)]; rfl
    have hv : valS (be4 c.length) = c.length := valS_be4 _ (by omega)
    rw [if_neg h8, h4, hv, if_neg (by omega), if_pos (by omega)]
theorem scanR_cut : ∀ (cs : List (List UInt8)) (cut : Nat), (∀ c ∈ cs, c.length ≤ 50) → scanR ((laidL cs).take cut) = (cs.take (whF cs cut), (laidL (cs.take (whF cs cut))).length)
  | [], cut, _ => by
    show scanR (([] : List UInt8).take cut) = _
    rw [List.take_nil, scanR_nil]; simp [laidL]
  | c :: r, cut, h => by
    have hc := h c (by simp)
    have e : laidL (c :: r) = frameL c ++ laidL r := rfl
    unfold whF
    by_cases hk : c.length + 8 ≤ cut
    · have ih := scanR_cut r (cut - (c.length + 8)) (fun x hx => h x (by simp [hx]))
      rw [if_pos hk, e, List.take_append, frameL_len, List.take_of_length_le (by rw [frameL_len]; exact hk), scanR_frame c _ (by omega), ih]
      rw [Nat.add_comm 1, List.take_succ_cons]
      refine Prod.ext rfl ?_
      show c.length + 8 + _ = (frameL c ++ laidL _).length
      rw [List.length_append, frameL_len]
    · rw [if_neg hk, e, List.take_append_of_le_length (by rw [frameL_len]; omega), scanR_no (openR_part c cut (by omega) (by omega)) (by decide)]
      simp [laidL]
theorem endL_zero (c : List UInt8) (r : List (List UInt8)) : endL (c :: r) 0 = c.length + 8 := by
  show (frameL c ++ laidL (r.take 0)).length = _
  rw [List.length_append, frameL_len]; simp [laidL]
theorem endL_succ (c : List UInt8) (r : List (List UInt8)) (j : Nat) : endL (c :: r) (j + 1) = c.length + 8 + endL r j := by
  show (frameL c ++ laidL (r.take (j + 1))).length = _
  rw [List.length_append, frameL_len]; rfl
theorem wh_iff : ∀ (cs : List (List UInt8)) (cut j : Nat), j < cs.length → (endL cs j ≤ cut ↔ j < whF cs cut)
  | [], _, _, h => by simp at h
  | c :: r, cut, 0, _ => by
    rw [endL_zero]; unfold whF
    split <;> omega
  | c :: r, cut, j + 1, h => by
    have ih := wh_iff r (cut - (c.length + 8)) j (by simpa using h)
    rw [endL_succ]; unfold whF
    split
    · omega
    · omega
end Go.Proofs.YtgnoojphbnfjbaaDoor
