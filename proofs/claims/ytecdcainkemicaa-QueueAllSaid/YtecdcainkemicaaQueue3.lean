/- Contracts of package queue: choose, Next, List. -/
import Derived.Test.YtecdcainkemicaaQueue2
namespace Go.Proofs.Ytecdcainkemicaa
open Go.RowKit
set_option linter.unusedVariables false
set_option maxHeartbeats 400000

theorem lowF_rng (vol f : Int) (b : Bool) : ∀ (l : List Wt) (k : Nat) (best ba : Int), -1 ≤ best → best < k → -1 ≤ lowF vol f b l k best ba ∧ lowF vol f b l k best ba < k + l.length
  | [], k, best, ba, h, h' => by simp [lowF]; omega
  | x :: r, k, best, ba, h, h' => by
    rw [lowF]
    simp only [List.length_cons]
    split
    · have := lowF_rng vol f b r (k + 1) best ba h (by omega); omega
    · split
      · have := lowF_rng vol f b r (k + 1) k x.at_ (by omega) (by omega); omega
      · have := lowF_rng vol f b r (k + 1) best ba h (by omega); omega
theorem lowF_mono (vol f : Int) (b : Bool) : ∀ (l : List Wt) (k : Nat) (best ba : Int), 0 ≤ best → 0 ≤ lowF vol f b l k best ba
  | [], k, best, ba, h => by simpa [lowF] using h
  | x :: r, k, best, ba, h => by
    rw [lowF]
    split
    · exact lowF_mono vol f b r (k + 1) best ba h
    · split
      · exact lowF_mono vol f b r (k + 1) k x.at_ (by omega)
      · exact lowF_mono vol f b r (k + 1) best ba h
theorem lowF_some (vol f : Int) (b : Bool) (x : Wt) : ∀ (l : List Wt) (k : Nat) (best ba : Int), x ∈ l → skipB vol f b x = false → -1 ≤ best → 0 ≤ lowF vol f b l k best ba
  | y :: r, k, best, ba, hx, hs, hb => by
    rw [lowF]
    rcases List.mem_cons.1 hx with rfl | hx
    · rw [if_neg (by rw [hs]; exact Bool.false_ne_true)]
      split
      · exact lowF_mono vol f b r (k + 1) k _ (by omega)
      · exact lowF_mono vol f b r (k + 1) best ba (by omega)
    · split
      · exact lowF_some vol f b x r (k + 1) best ba hx hs hb
      · split
        · exact lowF_some vol f b x r (k + 1) k _ hx hs (by omega)
        · exact lowF_some vol f b x r (k + 1) best ba hx hs hb

/-- where the next one is. -/
def chooseF (x0 : Wt) (l : List Wt) (vol at_ : Int) : Int :=
  if 8 ≤ x0.passed then 0
  else if vol ≠ -1 ∧ 0 ≤ lowF vol at_ true l 0 (-1) 0 then lowF vol at_ true l 0 (-1) 0
  else if vol ≠ -1 ∧ 0 ≤ lowF vol 0 false l 0 (-1) 0 then lowF vol 0 false l 0 (-1) 0
  else lowF x0.vol 0 false l 0 (-1) 0
theorem chooseF_rng (x0 : Wt) (r : List Wt) (vol at_ : Int) : 0 ≤ chooseF x0 (x0 :: r) vol at_ ∧ chooseF x0 (x0 :: r) vol at_ < (x0 :: r).length := by
  have a1 := lowF_rng vol at_ true (x0 :: r) 0 (-1) 0 (by omega) (by omega)
  have a2 := lowF_rng vol 0 false (x0 :: r) 0 (-1) 0 (by omega) (by omega)
  have a3 := lowF_rng x0.vol 0 false (x0 :: r) 0 (-1) 0 (by omega) (by omega)
  have a4 := lowF_some x0.vol 0 false x0 (x0 :: r) 0 (-1) 0 (by simp) (by simp [skipB]) (by omega)
  simp only [List.length_cons] at *
  unfold chooseF
  split
  · omega
  · split
    · omega
    · split <;> omega

set_option maxHeartbeats 1000000 in
theorem choose_any (w : World) (q : Nat) (sv : Value) (x0 : Wt) (r : List Wt) (vol at_ : Int) (h : IsQ w q sv (x0 :: r)) :
    Calls Try.prog 18 #[.pointer (some ⟨q, 0, none⟩), .int .i64 vol, .int .i64 at_] w (RetB (.int .i64 (chooseF x0 (x0 :: r) vol at_)) w.heap.size w) := by
  have hq := h.blk.lt
  obtain ⟨g, cap, hsv, hgs, c0, c1, c2, c3, c4⟩ := h.five (Below.refl _ w) 0 (by simp)
  simp only [List.getElem_cons_zero, Nat.zero_mul, Nat.zero_add] at c0 c1 c2 c3 c4
  subst hsv
  have hc := h.blk.cell 0 rfl
  have hsm := h.small
  have HQ := hid h
  clear h
  obtain ⟨l, hl⟩ : ∃ l, x0 :: r = l := ⟨_, rfl⟩
  have hlen : 0 < l.length := by rw [← hl]; simp
  rw [hl] at HQ hc hsm ⊢
  clear hl
  have hlen' : (0 : Int) < (l.length : Int) := by omega
  obtain ⟨A1, hA1⟩ : ∃ z, lowF vol at_ true l 0 (-1) 0 = z := ⟨_, rfl⟩
  obtain ⟨A2, hA2⟩ : ∃ z, lowF vol 0 false l 0 (-1) 0 = z := ⟨_, rfl⟩
  obtain ⟨A3, hA3⟩ : ∃ z, lowF x0.vol 0 false l 0 (-1) 0 = z := ⟨_, rfl⟩
  have hch : chooseF x0 l vol at_ = if 8 ≤ x0.passed then 0 else if vol ≠ -1 ∧ 0 ≤ A1 then A1 else if vol ≠ -1 ∧ 0 ≤ A2 then A2 else A3 := by rw [← hA1, ← hA2, ← hA3]; rfl
  rw [hch]
  have H1 := hid hA1
  have H2 := hid hA2
  have H3 := hid hA3
  clear hA1 hA2 hA3 hch
  by_cases hp : 8 ≤ x0.passed
  · rw [if_pos hp]
    go_enter Try.func18, Try.ntmps18
    go_wp2_with fail
    go_ret
    exact ⟨rfl, Below.refl _ _⟩
  · rw [if_neg hp]
    by_cases hv : vol = -1
    · subst hv
      rw [if_neg (by simp), if_neg (by simp)]
      go_enter Try.func18, Try.ntmps18
      go_wp2_with fail
      refine (lowest_any _ _ _ l x0.vol 0 false HQ.out).mono ?_; rintro e w1 ⟨rfl, L1⟩
      rw [H3.out]
      go_wp2_with fail
      go_ret
      exact ⟨rfl, L1⟩
    · have hvb : (vol != -1) = true := by simpa using hv
      have HV := hid hv
      by_cases h1 : 0 ≤ A1
      · rw [if_pos ⟨hv, h1⟩]
        clear hv
        go_enter Try.func18, Try.ntmps18
        go_wp2_with fail
        refine (lowest_any _ _ _ l vol at_ true HQ.out).mono ?_; rintro e w1 ⟨rfl, L1⟩
        rw [H1.out]
        go_wp2_with fail
        go_ret
        exact ⟨rfl, L1⟩
      · rw [if_neg (fun h => h1 h.2)]
        by_cases h2 : 0 ≤ A2
        · rw [if_pos ⟨hv, h2⟩]
          clear hv
          go_enter Try.func18, Try.ntmps18
          go_wp2_with fail
          refine (lowest_any _ _ _ l vol at_ true HQ.out).mono ?_; rintro e w1 ⟨rfl, L1⟩
          rw [H1.out]
          go_wp2_with fail
          refine (lowest_any _ _ _ l vol 0 false (HQ.out.below L1)).mono ?_; rintro e w2 ⟨rfl, L2⟩
          rw [H2.out]
          go_wp2_with fail
          go_ret
          exact ⟨rfl, L1.trans (L2.mono L1.size)⟩
        · rw [if_neg (fun h => h2 h.2)]
          clear hv
          go_enter Try.func18, Try.ntmps18
          go_wp2_with fail
          refine (lowest_any _ _ _ l vol at_ true HQ.out).mono ?_; rintro e w1 ⟨rfl, L1⟩
          rw [H1.out]
          go_wp2_with fail
          refine (lowest_any _ _ _ l vol 0 false (HQ.out.below L1)).mono ?_; rintro e w2 ⟨rfl, L2⟩
          rw [H2.out]
          have L3 := L1.trans (L2.mono L1.size)
          have k0 : w2.cell? ⟨q, 0, none⟩ = _ := (L3.cell (p := ⟨q, 0, none⟩) hq).trans hc
          have k2 : w2.cell? ⟨g, 2, none⟩ = _ := (L3.cell (p := ⟨g, 2, none⟩) hgs).trans c2
          go_wp2_with fail
          refine (lowest_any _ _ _ l x0.vol 0 false (HQ.out.below L3)).mono ?_; rintro e w3 ⟨rfl, L4⟩
          rw [H3.out]
          go_wp2_with fail
          go_ret
          exact ⟨rfl, L3.trans (L4.mono L3.size)⟩
end Go.Proofs.Ytecdcainkemicaa
