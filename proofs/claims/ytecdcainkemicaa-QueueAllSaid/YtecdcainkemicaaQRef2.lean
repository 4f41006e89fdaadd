/- Contracts of the document's queue: least, Choose, Next. -/
import Derived.Test.YtecdcainkemicaaQRef
import Derived.Test.YtecdcainkemicaaQueueFair
import Derived.Deep.QuietTactic
namespace Go.Proofs.Ytecdcainkemicaa
open Go.RowKit
set_option linter.unusedVariables false

/-- where the one is that has the lowest block, of those that are not passed over. -/
def lowG (s : Wt → Bool) : List Wt → Nat → Int → Int → Int
  | [], _, best, _ => best
  | x :: r, k, best, ba => if s x = true then lowG s r (k + 1) best ba else if best < 0 ∨ x.at_ < ba then lowG s r (k + 1) k x.at_ else lowG s r (k + 1) best ba
theorem lowF_eq (vol f : Int) (b : Bool) : ∀ (l : List Wt) (k : Nat) (best ba : Int), lowF vol f b l k best ba = lowG (skipB vol f b) l k best ba
  | [], _, _, _ => rfl
  | x :: r, k, best, ba => by rw [lowF, lowG, lowF_eq vol f b r, lowF_eq vol f b r]
theorem lowG_congr {s s' : Wt → Bool} : ∀ (l : List Wt) (k : Nat) (best ba : Int), (∀ x ∈ l, s x = s' x) → lowG s l k best ba = lowG s' l k best ba
  | [], _, _, _, _ => rfl
  | x :: r, k, best, ba, h => by
    have h' : ∀ y ∈ r, s y = s' y := fun y hy => h y (by simp [hy])
    rw [lowG, lowG, h x (by simp), lowG_congr r (k + 1) best ba h', lowG_congr r (k + 1) k x.at_ h']
theorem lowG_rng {s : Wt → Bool} : ∀ (l : List Wt) (k : Nat) (best ba : Int), -1 ≤ best → best < k → -1 ≤ lowG s l k best ba ∧ lowG s l k best ba < k + l.length
  | [], k, best, ba, h1, h2 => by rw [lowG]; simp; omega
  | x :: r, k, best, ba, h1, h2 => by
    rw [lowG]
    have a := lowG_rng (s := s) r (k + 1) best ba h1 (by omega)
    have b := lowG_rng (s := s) r (k + 1) k x.at_ (by omega) (by omega)
    simp only [List.length_cons]
    split
    · omega
    split
    · omega
    · omega
def skipL (vol f t : Int) (x : Wt) : Bool := !decide (x.vol = vol ∧ f ≤ x.at_ ∧ x.at_ < t)
def leastF (vol f t : Int) (l : List Wt) : Int := lowG (skipL vol f t) l 0 (-1) 0
section
variable {w0 w : World} {I : Part} {L : List HP}
set_option maxRecDepth 100000 in
set_option maxHeartbeats 4000000 in
theorem least_sat (la : Option Addr) (cap : Nat) (l : List Wt) (vol f t : Int) (h : Sat w0 I L w) (hr : Rd I la (l.flatMap wc)) (hl : l.length ≤ 1048576) :
    Calls Try.prog 22 #[.slice la l.length cap, .int .i64 vol, .int .i64 f, .int .i64 t] w fun e w' => e = .returned (.int .i64 (leastF vol f t l)) ∧ Sat w0 I L w' := by
  unfold leastF
  have H := hid h
  have HR := hid hr
  clear h hr
  go_enter Try.func22, Try.ntmps22
  go_wp2_with fail
  go_loopw [9, 10, 11, 14] (fun bs _ _ i wr => ∃ (k : Nat) (best ba : Int), k ≤ l.length ∧ i = .int .i64 k ∧ bs = .int .i64 best ∧ (best = -1 ∨ ∃ j : Nat, best = j ∧ j < k ∧ ∃ hj : j < l.length, l[j].at_ = ba) ∧ lowG (skipL vol f t) (l.drop k) k best ba = lowG (skipL vol f t) l 0 (-1) 0 ∧ Sat w0 I L wr) (fun _ _ _ i _ => l.length - (intOf i).toNat)
  case atStart => exact ⟨0, -1, 0, Nat.zero_le _, rfl, rfl, Or.inl rfl, rfl, H.out⟩
  case round =>
    obtain ⟨k, best, ba, hk, rfl, rfl, hbest, he, Sr⟩ := hrel
    have HE := hid he
    have HS := hid Sr
    clear he Sr
    by_cases hlt : k < l.length
    · obtain ⟨b, off, rfl, c0, c1, c2, c3, c4⟩ := rd5 HR.out HS.out k hlt
      have hd : l.drop k = l[k] :: l.drop (k+1) := List.drop_eq_getElem_cons hlt
      have HXX := hid (rfl : l[k] = l[k])
      obtain ⟨x, hx⟩ : ∃ x, l[k] = x := ⟨_, rfl⟩
      rw [hx] at c0 c1 c2 c3 c4 hd
      replace HXX := hid hx
      clear hx
      have HD := hid hd
      clear hd
      have hk1 : (k : Int) < (l.length : Int) := by omega
      have hk0 : (0 : Int) ≤ (k : Int) := by omega
      by_cases hv : x.vol = vol
      case neg =>
        have hvb : (x.vol == vol) = false := by simpa using hv
        have HC : Hid (skipL vol f t x = true) := hid (by simp [skipL, hv])
        clear hv
        go_wp2_with fail
        go_quiet (fail)
        go_wp2_with fail
        go_roundw
        case rel =>
          refine ⟨k + 1, best, ba, by omega, by go_num, rfl, ?_, by have := HE.out; rw [HD.out, lowG, if_pos HC.out] at this; exact this, by have := HS.out; (repeat' (first | (with_reducible assumption) | (with_reducible refine Sat.drewN ?_ _) | (with_reducible refine Sat.drew ?_) | ((with_reducible refine Sat.alloc ?_ ?_ ?_); rotate_left; (first | rfl | (simp; done)); (first | rfl | omega | (simp <;> omega))) | (with_reducible refine Sat.alloc_ ?_ _) | ((with_reducible refine Sat.set ?_ _ _ ?_); rotate_left; (first | rfl | (simp; done))) | ((with_reducible refine Sat.set1 ?_ _ _ ?_); rotate_left; (first | rfl | (simp; done))) | ((with_reducible refine Sat.set2 ?_ _ _ ?_); rotate_left; (first | rfl | (simp; done))) | ((with_reducible refine Sat.set3 ?_ _ _ ?_); rotate_left; (first | rfl | (simp; done)))))⟩
          rcases hbest with h | ⟨j, h1, h2, h3⟩
          · exact Or.inl h
          · exact Or.inr ⟨j, h1, by omega, h3⟩
        case measure => (simp [intOf] <;> omega)
      case pos =>
        have hvb : (x.vol == vol) = true := by simpa using hv
        by_cases hf : f ≤ x.at_
        case neg =>
          have hfb : decide (f ≤ x.at_) = false := by simpa using hf
          have HC : Hid (skipL vol f t x = true) := hid (by simp [skipL]; omega)
          clear hv
          go_wp2_with fail
          go_quiet (fail)
          go_wp2_with fail
          go_roundw
          case rel =>
            refine ⟨k + 1, best, ba, by omega, by go_num, rfl, ?_, by have := HE.out; rw [HD.out, lowG, if_pos HC.out] at this; exact this, by have := HS.out; (repeat' (first | (with_reducible assumption) | (with_reducible refine Sat.drewN ?_ _) | (with_reducible refine Sat.drew ?_) | ((with_reducible refine Sat.alloc ?_ ?_ ?_); rotate_left; (first | rfl | (simp; done)); (first | rfl | omega | (simp <;> omega))) | (with_reducible refine Sat.alloc_ ?_ _) | ((with_reducible refine Sat.set ?_ _ _ ?_); rotate_left; (first | rfl | (simp; done))) | ((with_reducible refine Sat.set1 ?_ _ _ ?_); rotate_left; (first | rfl | (simp; done))) | ((with_reducible refine Sat.set2 ?_ _ _ ?_); rotate_left; (first | rfl | (simp; done))) | ((with_reducible refine Sat.set3 ?_ _ _ ?_); rotate_left; (first | rfl | (simp; done)))))⟩
            rcases hbest with h | ⟨j, h1, h2, h3⟩
            · exact Or.inl h
            · exact Or.inr ⟨j, h1, by omega, h3⟩
          case measure => (simp [intOf] <;> omega)
        case pos =>
          by_cases ht : x.at_ < t
          case neg =>
            have htb : decide (x.at_ < t) = false := by simpa using ht
            have HC : Hid (skipL vol f t x = true) := hid (by simp [skipL]; omega)
            clear hv
            go_wp2_with fail
            go_quiet (fail)
            go_wp2_with fail
            go_roundw
            case rel =>
              refine ⟨k + 1, best, ba, by omega, by go_num, rfl, ?_, by have := HE.out; rw [HD.out, lowG, if_pos HC.out] at this; exact this, by have := HS.out; (repeat' (first | (with_reducible assumption) | (with_reducible refine Sat.drewN ?_ _) | (with_reducible refine Sat.drew ?_) | ((with_reducible refine Sat.alloc ?_ ?_ ?_); rotate_left; (first | rfl | (simp; done)); (first | rfl | omega | (simp <;> omega))) | (with_reducible refine Sat.alloc_ ?_ _) | ((with_reducible refine Sat.set ?_ _ _ ?_); rotate_left; (first | rfl | (simp; done))) | ((with_reducible refine Sat.set1 ?_ _ _ ?_); rotate_left; (first | rfl | (simp; done))) | ((with_reducible refine Sat.set2 ?_ _ _ ?_); rotate_left; (first | rfl | (simp; done))) | ((with_reducible refine Sat.set3 ?_ _ _ ?_); rotate_left; (first | rfl | (simp; done)))))⟩
              rcases hbest with h | ⟨j, h1, h2, h3⟩
              · exact Or.inl h
              · exact Or.inr ⟨j, h1, by omega, h3⟩
            case measure => (simp [intOf] <;> omega)
          case pos =>
            have HC : Hid (skipL vol f t x = false) := hid (by simp [skipL, hv, hf, ht])
            clear hv
            go_wp2_with fail
            rcases hbest with rfl | ⟨j, rfl, hjk, hj, hja⟩
            · go_quiet (fail)
              go_wp2_with fail
              go_roundw
              case rel => exact ⟨k + 1, k, x.at_, by omega, by go_num, by simp, Or.inr ⟨k, rfl, by omega, hlt, by rw [HXX.out]⟩, by have := HE.out; rw [HD.out, lowG, if_neg (by rw [HC.out]; exact Bool.false_ne_true), if_pos (Or.inl (by omega))] at this; exact this, by have := HS.out; (repeat' (first | (with_reducible assumption) | (with_reducible refine Sat.drewN ?_ _) | (with_reducible refine Sat.drew ?_) | ((with_reducible refine Sat.alloc ?_ ?_ ?_); rotate_left; (first | rfl | (simp; done)); (first | rfl | omega | (simp <;> omega))) | (with_reducible refine Sat.alloc_ ?_ _) | ((with_reducible refine Sat.set ?_ _ _ ?_); rotate_left; (first | rfl | (simp; done))) | ((with_reducible refine Sat.set1 ?_ _ _ ?_); rotate_left; (first | rfl | (simp; done))) | ((with_reducible refine Sat.set2 ?_ _ _ ?_); rotate_left; (first | rfl | (simp; done))) | ((with_reducible refine Sat.set3 ?_ _ _ ?_); rotate_left; (first | rfl | (simp; done)))))⟩
              case measure => (simp [intOf] <;> omega)
            · obtain ⟨b2, off2, hb2, _, _, _, d3, _⟩ := rd5 HR.out HS.out j hj
              cases hb2
              rw [hja] at d3
              have hbr := World.block_lt_of_cell? _ _ d3
              have e3 : ∀ o, (wr.alloc o).cell? ⟨b, off + j * 5 + 3, none⟩ = some (.int .i64 ba) := fun o => by rw [World.cell?_alloc_lt _ _ _ hbr]; exact d3
              have HJA := hid hja
              clear hja
              have hj0 : (0 : Int) ≤ (j : Int) := by omega
              have hj1 : (j : Int) < (l.length : Int) := by omega
              have hj2 : decide ((j : Int) < 0) = false := by simp
              by_cases hat : x.at_ < ba
              · go_quiet (fail)
                go_wp2_with fail
                go_roundw
                case rel => exact ⟨k + 1, k, x.at_, by omega, by go_num, by simp, Or.inr ⟨k, rfl, by omega, hlt, by rw [HXX.out]⟩, by have := HE.out; rw [HD.out, lowG, if_neg (by rw [HC.out]; exact Bool.false_ne_true), if_pos (Or.inr hat)] at this; exact this, by have := HS.out; (repeat' (first | (with_reducible assumption) | (with_reducible refine Sat.drewN ?_ _) | (with_reducible refine Sat.drew ?_) | ((with_reducible refine Sat.alloc ?_ ?_ ?_); rotate_left; (first | rfl | (simp; done)); (first | rfl | omega | (simp <;> omega))) | (with_reducible refine Sat.alloc_ ?_ _) | ((with_reducible refine Sat.set ?_ _ _ ?_); rotate_left; (first | rfl | (simp; done))) | ((with_reducible refine Sat.set1 ?_ _ _ ?_); rotate_left; (first | rfl | (simp; done))) | ((with_reducible refine Sat.set2 ?_ _ _ ?_); rotate_left; (first | rfl | (simp; done))) | ((with_reducible refine Sat.set3 ?_ _ _ ?_); rotate_left; (first | rfl | (simp; done)))))⟩
                case measure => (simp [intOf] <;> omega)
              · have hat2 : decide (x.at_ < ba) = false := by simpa using hat
                go_quiet (fail)
                go_wp2_with fail
                go_roundw
                case rel => exact ⟨k + 1, j, ba, by omega, by go_num, rfl, Or.inr ⟨j, rfl, by omega, hj, HJA.out⟩, by have := HE.out; rw [HD.out, lowG, if_neg (by rw [HC.out]; exact Bool.false_ne_true), if_neg (by omega)] at this; exact this, by have := HS.out; (repeat' (first | (with_reducible assumption) | (with_reducible refine Sat.drewN ?_ _) | (with_reducible refine Sat.drew ?_) | ((with_reducible refine Sat.alloc ?_ ?_ ?_); rotate_left; (first | rfl | (simp; done)); (first | rfl | omega | (simp <;> omega))) | (with_reducible refine Sat.alloc_ ?_ _) | ((with_reducible refine Sat.set ?_ _ _ ?_); rotate_left; (first | rfl | (simp; done))) | ((with_reducible refine Sat.set1 ?_ _ _ ?_); rotate_left; (first | rfl | (simp; done))) | ((with_reducible refine Sat.set2 ?_ _ _ ?_); rotate_left; (first | rfl | (simp; done))) | ((with_reducible refine Sat.set3 ?_ _ _ ?_); rotate_left; (first | rfl | (simp; done)))))⟩
                case measure => (simp [intOf] <;> omega)
    · obtain rfl : k = l.length := by omega
      go_wp2_with fail
      go_ret
      refine ⟨ret_int ?_, HS.out⟩
      have := HE.out
      rw [List.drop_length, lowG] at this
      exact this
/-- the place of the next one. -/
def chooseR (x0 : Wt) (l : List Wt) (vol at_ : Int) : Int :=
  if 8 ≤ x0.passed then 0 else if 0 ≤ leastF vol at_ 2000000000 l then leastF vol at_ 2000000000 l else if 0 ≤ leastF vol 0 at_ l then leastF vol 0 at_ l else leastF x0.vol 0 2000000000 l
set_option maxRecDepth 100000 in
set_option maxHeartbeats 2000000 in
theorem refChoose_sat (la : Option Addr) (cap : Nat) (x0 : Wt) (r : List Wt) (vol at_ : Int) (h : Sat w0 I L w) (hr : Rd I la ((x0 :: r).flatMap wc)) (hl : (x0 :: r).length ≤ 1048576) :
    Calls Try.prog 20 #[.slice la (x0 :: r).length cap, .int .i64 vol, .int .i64 at_] w fun e w' => e = .returned (.int .i64 (chooseR x0 (x0 :: r) vol at_)) ∧ Sat w0 I L w' := by
  have H := hid h
  have HR := hid hr
  obtain ⟨b, off, rfl, c0, c1, c2, c3, c4⟩ := rd5 hr h 0 (by simp)
  simp only [List.getElem_cons_zero, Nat.zero_mul, Nat.add_zero] at c0 c1 c2 c3 c4
  have hv2 : ∀ w', Sat w0 I L w' → w'.cell? ⟨b, off + 2, none⟩ = some (.int .i64 x0.vol) := fun w' S' => by
    obtain ⟨b', off', e, _, _, c, _⟩ := rd5 hr S' 0 (by simp)
    cases e
    simpa using c
  have HV2 := hid hv2
  clear hv2
  obtain ⟨l, hl0⟩ : ∃ l, x0 :: r = l := ⟨_, rfl⟩
  have hpos : 0 < l.length := by rw [← hl0]; simp
  rw [hl0] at hl HR ⊢
  have hpos' : (0 : Int) < (l.length : Int) := by omega
  clear h hr hl0
  by_cases h8 : 8 ≤ x0.passed
  · have HC := hid (show chooseR x0 l vol at_ = 0 from by rw [chooseR, if_pos h8])
    go_enter Try.func20, Try.ntmps20
    go_wp2_with fail
    go_ret
    rw [HC.out]
    exact ⟨rfl, H.out⟩
  have hc1 := @least_sat w0 w I L (some ⟨b, off, none⟩) cap l vol at_ 2000000000 H.out HR.out hl
  obtain ⟨p, hp⟩ : ∃ p, leastF vol at_ 2000000000 l = p := ⟨_, rfl⟩
  rw [hp] at hc1
  by_cases hp0 : 0 ≤ p
  · have HC := hid (show chooseR x0 l vol at_ = p from by rw [chooseR, if_neg h8, hp, if_pos hp0])
    have HL := hid hc1
    clear hc1 hp
    go_enter Try.func20, Try.ntmps20
    go_wp2_with fail
    refine HL.out.mono ?_; rintro e w1 ⟨rfl, S1⟩
    have HS1 := hid S1
    clear S1 HL
    go_wp2_with fail
    go_ret
    rw [HC.out]
    exact ⟨rfl, HS1.out⟩
  obtain ⟨q, hq⟩ : ∃ q, leastF vol 0 at_ l = q := ⟨_, rfl⟩
  by_cases hq0 : 0 ≤ q
  · have HC := hid (show chooseR x0 l vol at_ = q from by rw [chooseR, if_neg h8, hp, if_neg hp0, hq, if_pos hq0])
    have HL := hid hc1
    have HQ := hid hq
    clear hc1 hp hq
    go_enter Try.func20, Try.ntmps20
    go_wp2_with fail
    refine HL.out.mono ?_; rintro e w1 ⟨rfl, S1⟩
    have HS1 := hid S1
    clear S1 HL
    go_wp2_with fail
    refine (least_sat _ cap l vol 0 at_ HS1.out HR.out hl).mono ?_; rintro e w2 ⟨rfl, S2⟩
    rw [HQ.out]
    have HS2 := hid S2
    clear S2 HS1
    go_wp2_with fail
    go_ret
    rw [HC.out]
    exact ⟨rfl, HS2.out⟩
  · have HC := hid (show chooseR x0 l vol at_ = leastF x0.vol 0 2000000000 l from by rw [chooseR, if_neg h8, hp, if_neg hp0, hq, if_neg hq0])
    have HL := hid hc1
    have HQ := hid hq
    clear hc1 hp hq
    go_enter Try.func20, Try.ntmps20
    go_wp2_with fail
    refine HL.out.mono ?_; rintro e w1 ⟨rfl, S1⟩
    have HS1 := hid S1
    clear S1 HL
    go_wp2_with fail
    refine (least_sat _ cap l vol 0 at_ HS1.out HR.out hl).mono ?_; rintro e w2 ⟨rfl, S2⟩
    rw [HQ.out]
    have d2 := HV2.out _ S2
    have HS2 := hid S2
    clear S2 HS1
    go_wp2_with fail
    refine (least_sat _ cap l x0.vol 0 2000000000 HS2.out HR.out hl).mono ?_; rintro e w3 ⟨rfl, S3⟩
    have HS3 := hid S3
    clear S3 HS2
    go_wp2_with fail
    go_ret
    rw [HC.out]
    exact ⟨rfl, HS3.out⟩
theorem chooseR_rng (x0 : Wt) (r : List Wt) (vol at_ : Int) (h : 0 ≤ x0.at_ ∧ x0.at_ < 2000000000) : 0 ≤ chooseR x0 (x0 :: r) vol at_ ∧ chooseR x0 (x0 :: r) vol at_ < (x0 :: r).length := by
  have g : ∀ v f t, leastF v f t (x0 :: r) < (x0 :: r).length := fun v f t => by
    have := (lowG_rng (s := skipL v f t) (x0 :: r) 0 (-1) 0 (by omega) (by omega)).2
    unfold leastF; omega
  have g2 : 0 ≤ leastF x0.vol 0 2000000000 (x0 :: r) := by
    unfold leastF
    rw [lowG, if_neg (by simp [skipL]; omega), if_pos (Or.inl (by omega))]
    have : ∀ (l : List Wt) (k : Nat) (best ba : Int), 0 ≤ best → 0 ≤ lowG (skipL x0.vol 0 2000000000) l k best ba := by
      intro l
      induction l with
      | nil => intro k best ba h; exact h
      | cons x l ih =>
        intro k best ba h
        rw [lowG]
        split
        · exact ih _ _ _ h
        split
        · exact ih _ _ _ (by omega)
        · exact ih _ _ _ h
    exact this r _ _ _ (by omega)
  unfold chooseR
  have g3 := g vol at_ 2000000000
  have g4 := g vol 0 at_
  have g5 := g x0.vol 0 2000000000
  simp only [List.length_cons] at *
  split
  · omega
  split
  · omega
  split
  · omega
  · omega
set_option maxRecDepth 100000 in
set_option maxHeartbeats 8000000 in
theorem refNext_sat (la : Option Addr) (cap : Nat) (x0 : Wt) (r : List Wt) (vol at_ : Int) (i : Nat) (x : Wt) (h : Sat w0 I L w) (hr : Rd I la ((x0 :: r).flatMap wc)) (hl : (x0 :: r).length ≤ 1048576) (hi : chooseR x0 (x0 :: r) vol at_ = i) (hx : (x0 :: r)[i]? = some x) (hp : ∀ y ∈ x0 :: r, y.passed ≤ 1000000 ∧ -1000000 ≤ y.passed) :
    Calls Try.prog 15 #[.slice la (x0 :: r).length cap, .int .i64 vol, .int .i64 at_] w fun e w' => ∃ J a c, e = .returned (.tuple #[.slice a ((bump i (x0 :: r)).eraseIdx i).length c, .agg (wc x).toArray]) ∧ ((bump i (x0 :: r)).eraseIdx i).length ≤ c ∧ c ≤ 9223372036854775807 ∧ I.le J ∧ Rd J a (((bump i (x0 :: r)).eraseIdx i).flatMap wc) ∧ Sat w0 J L w' := by
  obtain ⟨g0, hg0⟩ : ∃ g, w.heap.size = g := ⟨_, rfl⟩
  have HH := hid (h.alloc (cs := [.int .i64 0, .int .u64 0, .int .i64 0, .int .i64 0, .int .i64 0]) (T := 47) rfl hg0.symm)
  have HR := hid hr
  have hc := fun w' (S : Sat w0 I (blk g0 47 [.int .i64 0, .int .u64 0, .int .i64 0, .int .i64 0, .int .i64 0] :: L) w') => refChoose_sat la cap x0 r vol at_ S hr hl
  rw [hi] at hc
  have HC := hid hc
  clear hc hi h hr
  obtain ⟨l, hl0⟩ : ∃ l, x0 :: r = l := ⟨_, rfl⟩
  rw [hl0] at hl HR HC hx hp ⊢
  have HP := hid hp
  have HX := hid hx
  obtain ⟨hil, hix⟩ := List.getElem?_eq_some_iff.1 hx
  have HIX := hid hix
  clear hl0 hp hx hix
  go_enter Try.func15, Try.ntmps15
  go_wp2_with fail
  clear hg0
  refine (HC.out _ HH.out).mono ?_; rintro e w1 ⟨rfl, S1⟩
  obtain ⟨b, off, rfl, c0, c1, c2, c3, c4⟩ := rd5 HR.out S1 i hil
  rw [HIX.out] at c0 c1 c2 c3 c4
  have hi0 : (0 : Int) ≤ (i : Int) := by omega
  have hi1 : (i : Int) < (l.length : Int) := by omega
  have HS1 := hid S1
  clear S1 HC HH
  go_wp2_with fail
  obtain ⟨g1, hg1⟩ : ∃ g, w1.heap.size = g := ⟨_, rfl⟩
  have S2 : Sat w0 I (blk (g1 + 1) 47 [] :: blk g1 47 (wc x) :: blk g0 47 [.int .i64 0, .int .u64 0, .int .i64 0, .int .i64 0, .int .i64 0] :: L) ((w1.alloc (.cells (wc x).toArray 47)).alloc (.cells #[] 47)) := (HS1.out.alloc rfl hg1.symm).alloc rfl (by simp [hg1])
  have HS2 := hid (S2.emptyRow 5)
  rw [hg1]
  clear S2 HS1 c0 c1 c2 c3 c4 hg1
  go_loopw [10, 11, 12, 24] (fun v _ _ i2 wr => ∃ (k : Nat), k ≤ l.length ∧ i2 = .int .i64 k ∧ Sat w0 I (row 47 5 v k (((bump i l).take k).flatMap wc) :: blk g1 47 (wc x) :: blk g0 47 [.int .i64 0, .int .u64 0, .int .i64 0, .int .i64 0, .int .i64 0] :: L) wr) (fun _ _ _ i2 _ => l.length - (intOf i2).toNat)
  case atStart => exact ⟨0, Nat.zero_le _, rfl, HS2.out⟩
  case round =>
    clear HS2
    obtain ⟨k, hk, rfl, Sr⟩ := hrel
    have HS := hid Sr
    clear Sr
    by_cases hlt : k < l.length
    · obtain ⟨b2, off2, hb2, c0, c1, c2, c3, c4⟩ := rd5 HR.out HS.out k hlt
      cases hb2
      have hlb : k < (bump i l).length := by rw [bump_len]; exact hlt
      have htk : (bump i l).take (k + 1) = (bump i l).take k ++ [(bump i l)[k]] := by rw [List.take_succ_eq_append_getElem hlb]
      have hpk := HP.out l[k] (List.getElem_mem _)
      have hk1 : (k : Int) < (l.length : Int) := by omega
      have hk0 : (0 : Int) ≤ (k : Int) := by omega
      obtain ⟨y, hy⟩ : ∃ y, l[k] = y := ⟨_, rfl⟩
      rw [hy] at c0 c1 c2 c3 c4 hpk
      have hyk : l[k]? = some y := by rw [List.getElem?_eq_getElem hlt, hy]
      clear hy
      obtain ⟨hp1, hp2⟩ := hpk
      obtain ⟨z, hz⟩ : ∃ z, (bump i l)[k] = z := ⟨_, rfl⟩
      rw [hz] at htk
      have hzk : (bump i l)[k]? = some z := by rw [List.getElem?_eq_getElem hlb, hz]
      clear hz
      have hfl : (((bump i l).take (k + 1)).flatMap wc) = ((bump i l).take k).flatMap wc ++ wc z := by rw [htk, List.flatMap_append]; simp
      have HFL := hid hfl
      have HYK := hid hyk
      have HZK := hid hzk
      clear htk hfl hyk hzk
      by_cases hki : k < i
      · have hzy : z = up y := by
          have := HZK.out
          rw [bump_get2 i l k hki, HYK.out] at this
          simpa using this.symm
        have HZY := hid hzy
        have hki' : (k : Int) < (i : Int) := by omega
        clear hzy
        go_wp2_with (at_builtin; refine wpList_appS slRef rfl _ _ rfl (HS.out.alloc_ _) (wc (up y)) rfl rfl ?hgs rfl ?h1 ?hb ?hn ?_)
        case hgs => simp
        case h1 => exact wc_one1 _
        case hb => omega
        case hn => omega
        intro ad cp w7 hc1 hc2 S7
        rw [← HZY.out, ← HFL.out] at S7
        have HS7 := hid S7
        clear S7 HS c0 c1 c2 c3 c4
        go_wp2_with fail
        go_roundw
        case rel => exact ⟨k + 1, by omega, by go_num, HS7.out⟩
        case measure => (simp [intOf] <;> omega)
      · have hzy : z = y := by
          have := HZK.out
          rw [bump_get i l k (by omega), HYK.out] at this
          simpa using this.symm
        have HZY := hid hzy
        have hki' : ¬ (k : Int) < (i : Int) := by omega
        clear hzy
        go_wp2_with (at_builtin; refine wpList_appS slRef rfl _ _ rfl (HS.out.alloc_ _) (wc y) rfl rfl ?hgs rfl ?h1 ?hb ?hn ?_)
        case h1 => exact wc_one1 _
        case hb => omega
        case hn => omega
        intro ad cp w7 hc1 hc2 S7
        rw [← HZY.out, ← HFL.out] at S7
        have HS7 := hid S7
        clear S7 HS c0 c1 c2 c3 c4
        go_wp2_with fail
        go_roundw
        case rel => exact ⟨k + 1, by omega, by go_num, HS7.out⟩
        case measure => (simp [intOf] <;> omega)
    · obtain rfl : k = l.length := by omega
      have hbl : (bump i l).length = l.length := bump_len i l
      rw [← hbl, List.take_length] at HS
      obtain ⟨J, ad, cp, hJ, S8, rfl, hcp1, hcp2, _, hrd⟩ := HS.out.freezeRow
      unfold maxLen at hcp2
      have q0 := S8.isBlk.cell 0 rfl
      have q1 := S8.isBlk.cell 1 rfl
      have q2 := S8.isBlk.cell 2 rfl
      have q3 := S8.isBlk.cell 3 rfl
      have q4 := S8.isBlk.cell 4 rfl
      have HS8 := hid S8
      have HRD := hid hrd
      have HBL := hid hbl
      have hb20 : (bump i l).length ≤ 1048576 := by omega
      clear S8 hrd HS hlt hbl
      go_wp2_with fail
      go_region_with (go_at_call 14; refine (refWithout_sat ad cp (bump i l) i HS8.out.drew HRD.out hb20).mono ?_; rintro e w6 ⟨J2, a2, c2, rfl, hc21, hc22, hJ2, hrd2, S9⟩; have p0 := S9.isBlk.cell 0 rfl; have p1 := S9.isBlk.cell 1 rfl; have p2 := S9.isBlk.cell 2 rfl; have p3 := S9.isBlk.cell 3 rfl; have p4 := S9.isBlk.cell 4 rfl; have f0 := S9.swap.isBlk.frozen 0; have f1 := S9.swap.isBlk.frozen 1; have f2 := S9.swap.isBlk.frozen 2; have f3 := S9.swap.isBlk.frozen 3; have f4 := S9.swap.isBlk.frozen 4; have z0 := S9.swap.isBlk.cell 0 rfl; have z1 := S9.swap.isBlk.cell 1 rfl; have z2 := S9.swap.isBlk.cell 2 rfl; have z3 := S9.swap.isBlk.cell 3 rfl; have z4 := S9.swap.isBlk.cell 4 rfl; have hne := S9.ne; have hne2 := S9.swap.ne; have HS9 := hid S9; have HRD2 := hid hrd2; clear S9 hrd2)
      all_goals
        have S10 := ((((HS9.out.swap.set 0 (.int .i64 x.id) rfl).set 1 (.int .u64 x.blob) rfl).set 2 (.int .i64 x.vol) rfl).set 3 (.int .i64 x.at_) rfl).set 4 (.int .i64 x.passed) rfl
        have k0 := S10.isBlk.cell 0 rfl
        have k1 := S10.isBlk.cell 1 rfl
        have k2 := S10.isBlk.cell 2 rfl
        have k3 := S10.isBlk.cell 3 rfl
        have k4 := S10.isBlk.cell 4 rfl
        have HS10 := hid S10.drop.drop
        clear S10 f0 f1 f2 f3 f4 z0 z1 z2 z3 z4 q0 q1 q2 q3 q4 p0 p1 p2 p3 p4
        go_wp2_with fail
        refine bodyPost_ret (v := .tuple #[.slice a2 ((bump i l).eraseIdx i).length c2, .agg (wc x).toArray]) (by simp [results, Try.results15, go_sem, k0, k1, k2, k3, k4]; rfl) rfl ?_
        exact ⟨J2, a2, c2, rfl, hc21, hc22, Part.le_trans hJ hJ2, HRD2.out, HS10.out⟩
end
end Go.Proofs.Ytecdcainkemicaa
