/- Contracts of package queue: Drop, lowest, choose, List. -/
import Derived.Test.YtecdcainkemicaaQueue
namespace Go.Proofs.Ytecdcainkemicaa
open Go.RowKit
set_option linter.unusedVariables false
set_option maxHeartbeats 400000

theorem findF_ge (id : Int) : ∀ (l : List Wt) (k : Nat), -1 ≤ findF id l k ∧ (findF id l k = -1 ∨ ((k : Int) ≤ findF id l k ∧ findF id l k < k + l.length))
  | [], k => by simp [findF]
  | x :: r, k => by
    have := findF_ge id r (k + 1)
    rw [findF]
    split
    · simp; omega
    · simp only [List.length_cons]; omega

theorem drop_no (w : World) (q : Nat) (sv : Value) (l : List Wt) (id : Int) (h : IsQ w q sv l) (hf : findF id l 0 < 0) :
    Calls Try.prog 12 #[.pointer (some ⟨q, 0, none⟩), .int .i64 id] w (RetB (.bool false) w.heap.size w) := by
  have HQ := hid h
  clear h
  go_enter Try.func12, Try.ntmps12
  go_wp2_with fail
  refine (find_any _ _ _ l id HQ.out).mono ?_; rintro e w1 ⟨rfl, L1⟩
  go_wp2_with fail
  go_ret
  exact ⟨rfl, L1⟩
theorem drop_yes (w : World) (q : Nat) (sv : Value) (l : List Wt) (id : Int) (i : Nat) (h : IsQ w q sv l) (hf : findF id l 0 = i) :
    Calls Try.prog 12 #[.pointer (some ⟨q, 0, none⟩), .int .i64 id] w
      fun e w' => e = .returned (.bool true) ∧ ∃ sv', IsQ w' q sv' (l.eraseIdx i) ∧ Mod (QFp q sv) w w' ∧ Moved w sv sv' := by
  have HQ := hid h
  have hq := h.blk.lt
  have hi : i < l.length := by have := findF_ge id l 0; omega
  clear h
  have HF := hid hf
  clear hf
  go_enter Try.func12, Try.ntmps12
  go_wp2_with fail
  refine (find_any _ _ _ l id HQ.out).mono ?_; rintro e w1 ⟨rfl, L1⟩
  rw [HF.out]
  go_wp2_with fail
  refine (remove_any _ _ _ l i (HQ.out.below L1) hi).mono ?_; rintro e w2 ⟨rfl, sv2, Q2, L2, V2⟩
  have L3 : Mod (QFp q sv) w w2 := (Mod.of_below L1).trans L2 (fun _ _ h => h)
  go_wp2_with fail
  go_ret
  exact ⟨rfl, sv2, Q2, L3, (Moved.refl w sv).trans V2 L1.size⟩

def skipB (vol from_ : Int) (bound : Bool) (x : Wt) : Bool := decide (x.vol ≠ vol ∨ (bound = true ∧ x.at_ < from_))
/-- where the one is that has the lowest block. -/
def lowF (vol from_ : Int) (bound : Bool) : List Wt → Nat → Int → Int → Int
  | [], _, best, _ => best
  | x :: r, k, best, ba => if skipB vol from_ bound x = true then lowF vol from_ bound r (k + 1) best ba else if best < 0 ∨ x.at_ < ba then lowF vol from_ bound r (k + 1) k x.at_ else lowF vol from_ bound r (k + 1) best ba


set_option maxHeartbeats 2000000 in
theorem lowest_any (w : World) (q : Nat) (sv : Value) (l : List Wt) (vol from_ : Int) (bound : Bool) (h : IsQ w q sv l) :
    Calls Try.prog 21 #[.pointer (some ⟨q, 0, none⟩), .int .i64 vol, .int .i64 from_, .bool bound] w (RetB (.int .i64 (lowF vol from_ bound l 0 (-1) 0)) w.heap.size w) := by
  have hq := h.blk.lt
  have HQ := hid h
  obtain ⟨a, cap, hsv, h1, h2⟩ := h.shape
  have hc := h.blk.cell 0 rfl
  have hsm := h.small
  subst hsv
  clear h
  go_enter Try.func21, Try.ntmps21
  go_wp2_with fail
  go_loopw [9, 17] (fun bs i wr => ∃ (k : Nat) (best ba : Int), k ≤ l.length ∧ i = .int .i64 k ∧ bs = .int .i64 best ∧ (best = -1 ∨ ∃ j : Nat, best = j ∧ j < k ∧ ∃ hj : j < l.length, l[j].at_ = ba) ∧ lowF vol from_ bound (l.drop k) k best ba = lowF vol from_ bound l 0 (-1) 0 ∧ Below w.heap.size w wr) (fun _ i _ => l.length - (intOf i).toNat)
  case atStart => exact ⟨0, -1, 0, Nat.zero_le _, rfl, rfl, Or.inl rfl, rfl, Below.refl _ _⟩
  case round =>
    obtain ⟨k, best, ba, hk, rfl, rfl, hbest, he, Lr⟩ := hrel
    have HE := hid he
    clear he
    by_cases hlt : k < l.length
    · obtain ⟨g, cap', hsv, hgs, c0, c1, c2, c3, c4⟩ := HQ.out.five Lr k hlt
      simp only [Value.slice.injEq, true_and] at hsv
      obtain ⟨rfl, rfl⟩ := hsv
      have hd : l.drop k = l[k] :: l.drop (k+1) := List.drop_eq_getElem_cons hlt
      have hxat : ∃ hj : k < l.length, l[k].at_ = l[k].at_ := ⟨hlt, rfl⟩
      have HX : Hid (∀ x, l[k] = x → ∃ hj : k < l.length, l[k].at_ = x.at_) := hid (fun x hx => ⟨hlt, by rw [hx]⟩)
      generalize hxx : l[k] = x at *
      have HXX := hid hxx
      have HD := hid hd
      clear hd hxat HX hxx
      have hqw : q < w.heap.size := hq
      have hcq : wr.cell? ⟨q, 0, none⟩ = some (.slice (some ⟨g, 0, none⟩) l.length cap) := by rw [Lr.cell (p := ⟨q, 0, none⟩) hqw]; exact hc
      by_cases hv : x.vol = vol
      · have hvb : (x.vol != vol) = false := by simpa using hv
        cases bound
        · have HC : Hid (skipB vol from_ false x = false) := hid (by simp [skipB, hv])
          clear hv
          go_wp2_with fail
          rcases hbest with rfl | ⟨j, rfl, hjk, hj, hja⟩
          · go_quiet (fail)
            go_wp2_with fail
            go_roundw
            case rel => exact ⟨k + 1, k, x.at_, by omega, by go_num, by simp, Or.inr ⟨k, rfl, by omega, hlt, by rw [HXX.out]⟩, by have := HE.out; rw [HD.out, lowF, if_neg (by rw [HC.out]; exact Bool.false_ne_true), if_pos (Or.inl (by omega))] at this; exact this, by (repeat' (first | (with_reducible assumption) | (with_reducible exact Below.refl _ _) | (with_reducible refine below_drewN ?_ _) | (with_reducible refine Below.drew ?_) | ((with_reducible refine below_alloc' ?_ ?_ _); rotate_left; (first | exact Nat.le_refl _ | assumption | omega)) | ((with_reducible refine Below.alloc ?_ ?_ _); rotate_left; (first | omega | (simp <;> omega))) | ((with_reducible refine Below.setCell ?_ ?_ _); rotate_left; (first | omega | (simp <;> omega)))))⟩
            case measure => (simp [intOf] <;> omega)
          · obtain ⟨g', cap'', hsv', _, _, _, _, d3, _⟩ := HQ.out.five Lr j hj
            simp only [Value.slice.injEq, true_and, Option.some.injEq, Addr.mk.injEq, and_true] at hsv'
            obtain ⟨hg', hcp'⟩ := hsv'
            subst hg' hcp'
            rw [hja] at d3
            have HJA := hid hja
            clear hja
            have hgr : g < wr.heap.size := by have := Lr.size; omega
            have hqr : q < wr.heap.size := by have := Lr.size; omega
            have e3 : ∀ o, (wr.alloc o).cell? ⟨g, j * 5 + 3, none⟩ = some (.int .i64 ba) := fun o => by rw [World.cell?_alloc_lt _ _ _ hgr]; exact d3
            have eq : ∀ o, (wr.alloc o).cell? ⟨q, 0, none⟩ = some (.slice (some ⟨g, 0, none⟩) l.length cap) := fun o => by rw [World.cell?_alloc_lt _ _ _ hqr]; exact hcq
            have hj0 : (0 : Int) ≤ (j : Int) := by omega
            have hj1 : (j : Int) < (l.length : Int) := by omega
            have hj2 : decide ((j : Int) < 0) = false := by simp
            by_cases hat : x.at_ < ba
            · go_quiet (fail)
              go_wp2_with fail
              go_roundw
              case rel => exact ⟨k + 1, k, x.at_, by omega, by go_num, by simp, Or.inr ⟨k, rfl, by omega, hlt, by rw [HXX.out]⟩, by have := HE.out; rw [HD.out, lowF, if_neg (by rw [HC.out]; exact Bool.false_ne_true), if_pos (Or.inr hat)] at this; exact this, by (repeat' (first | (with_reducible assumption) | (with_reducible exact Below.refl _ _) | (with_reducible refine below_drewN ?_ _) | (with_reducible refine Below.drew ?_) | ((with_reducible refine below_alloc' ?_ ?_ _); rotate_left; (first | exact Nat.le_refl _ | assumption | omega)) | ((with_reducible refine Below.alloc ?_ ?_ _); rotate_left; (first | omega | (simp <;> omega))) | ((with_reducible refine Below.setCell ?_ ?_ _); rotate_left; (first | omega | (simp <;> omega)))))⟩
              case measure => (simp [intOf] <;> omega)
            · have hat2 : decide (x.at_ < ba) = false := by simpa using hat
              go_quiet (fail)
              go_wp2_with fail
              go_roundw
              case rel => exact ⟨k + 1, j, ba, by omega, by go_num, rfl, Or.inr ⟨j, rfl, by omega, hj, HJA.out⟩, by have := HE.out; rw [HD.out, lowF, if_neg (by rw [HC.out]; exact Bool.false_ne_true), if_neg (by omega)] at this; exact this, by (repeat' (first | (with_reducible assumption) | (with_reducible exact Below.refl _ _) | (with_reducible refine below_drewN ?_ _) | (with_reducible refine Below.drew ?_) | ((with_reducible refine below_alloc' ?_ ?_ _); rotate_left; (first | exact Nat.le_refl _ | assumption | omega)) | ((with_reducible refine Below.alloc ?_ ?_ _); rotate_left; (first | omega | (simp <;> omega))) | ((with_reducible refine Below.setCell ?_ ?_ _); rotate_left; (first | omega | (simp <;> omega)))))⟩
              case measure => (simp [intOf] <;> omega)
        · by_cases hfr : x.at_ < from_
          · have HC : Hid (skipB vol from_ true x = true) := hid (by simp [skipB, hfr])
            clear hv
            go_wp2_with fail
            go_roundw
            case rel => refine ⟨k + 1, best, ba, by omega, by go_num, rfl, ?_, by have := HE.out; rw [HD.out, lowF, if_pos HC.out] at this; exact this, by (repeat' (first | (with_reducible assumption) | (with_reducible exact Below.refl _ _) | (with_reducible refine below_drewN ?_ _) | (with_reducible refine Below.drew ?_) | ((with_reducible refine below_alloc' ?_ ?_ _); rotate_left; (first | exact Nat.le_refl _ | assumption | omega)) | ((with_reducible refine Below.alloc ?_ ?_ _); rotate_left; (first | omega | (simp <;> omega))) | ((with_reducible refine Below.setCell ?_ ?_ _); rotate_left; (first | omega | (simp <;> omega)))))⟩; rcases hbest with h | ⟨j, h1, h2, h3⟩; exact Or.inl h; exact Or.inr ⟨j, h1, by omega, h3⟩
            case measure => (simp [intOf] <;> omega)
          · have HC : Hid (skipB vol from_ true x = false) := hid (by simp [skipB, hv]; omega)
            clear hv
            go_wp2_with fail
            rcases hbest with rfl | ⟨j, rfl, hjk, hj, hja⟩
            · go_quiet (fail)
              go_wp2_with fail
              go_roundw
              case rel => exact ⟨k + 1, k, x.at_, by omega, by go_num, by simp, Or.inr ⟨k, rfl, by omega, hlt, by rw [HXX.out]⟩, by have := HE.out; rw [HD.out, lowF, if_neg (by rw [HC.out]; exact Bool.false_ne_true), if_pos (Or.inl (by omega))] at this; exact this, by (repeat' (first | (with_reducible assumption) | (with_reducible exact Below.refl _ _) | (with_reducible refine below_drewN ?_ _) | (with_reducible refine Below.drew ?_) | ((with_reducible refine below_alloc' ?_ ?_ _); rotate_left; (first | exact Nat.le_refl _ | assumption | omega)) | ((with_reducible refine Below.alloc ?_ ?_ _); rotate_left; (first | omega | (simp <;> omega))) | ((with_reducible refine Below.setCell ?_ ?_ _); rotate_left; (first | omega | (simp <;> omega)))))⟩
              case measure => (simp [intOf] <;> omega)
            · obtain ⟨g', cap'', hsv', _, _, _, _, d3, _⟩ := HQ.out.five Lr j hj
              simp only [Value.slice.injEq, true_and, Option.some.injEq, Addr.mk.injEq, and_true] at hsv'
              obtain ⟨hg', hcp'⟩ := hsv'
              subst hg' hcp'
              rw [hja] at d3
              have HJA := hid hja
              clear hja
              have hgr : g < wr.heap.size := by have := Lr.size; omega
              have hqr : q < wr.heap.size := by have := Lr.size; omega
              have e3 : ∀ o, (wr.alloc o).cell? ⟨g, j * 5 + 3, none⟩ = some (.int .i64 ba) := fun o => by rw [World.cell?_alloc_lt _ _ _ hgr]; exact d3
              have eq : ∀ o, (wr.alloc o).cell? ⟨q, 0, none⟩ = some (.slice (some ⟨g, 0, none⟩) l.length cap) := fun o => by rw [World.cell?_alloc_lt _ _ _ hqr]; exact hcq
              have hj0 : (0 : Int) ≤ (j : Int) := by omega
              have hj1 : (j : Int) < (l.length : Int) := by omega
              have hj2 : decide ((j : Int) < 0) = false := by simp
              by_cases hat : x.at_ < ba
              · go_quiet (fail)
                go_wp2_with fail
                go_roundw
                case rel => exact ⟨k + 1, k, x.at_, by omega, by go_num, by simp, Or.inr ⟨k, rfl, by omega, hlt, by rw [HXX.out]⟩, by have := HE.out; rw [HD.out, lowF, if_neg (by rw [HC.out]; exact Bool.false_ne_true), if_pos (Or.inr hat)] at this; exact this, by (repeat' (first | (with_reducible assumption) | (with_reducible exact Below.refl _ _) | (with_reducible refine below_drewN ?_ _) | (with_reducible refine Below.drew ?_) | ((with_reducible refine below_alloc' ?_ ?_ _); rotate_left; (first | exact Nat.le_refl _ | assumption | omega)) | ((with_reducible refine Below.alloc ?_ ?_ _); rotate_left; (first | omega | (simp <;> omega))) | ((with_reducible refine Below.setCell ?_ ?_ _); rotate_left; (first | omega | (simp <;> omega)))))⟩
                case measure => (simp [intOf] <;> omega)
              · have hat2 : decide (x.at_ < ba) = false := by simpa using hat
                go_quiet (fail)
                go_wp2_with fail
                go_roundw
                case rel => exact ⟨k + 1, j, ba, by omega, by go_num, rfl, Or.inr ⟨j, rfl, by omega, hj, HJA.out⟩, by have := HE.out; rw [HD.out, lowF, if_neg (by rw [HC.out]; exact Bool.false_ne_true), if_neg (by omega)] at this; exact this, by (repeat' (first | (with_reducible assumption) | (with_reducible exact Below.refl _ _) | (with_reducible refine below_drewN ?_ _) | (with_reducible refine Below.drew ?_) | ((with_reducible refine below_alloc' ?_ ?_ _); rotate_left; (first | exact Nat.le_refl _ | assumption | omega)) | ((with_reducible refine Below.alloc ?_ ?_ _); rotate_left; (first | omega | (simp <;> omega))) | ((with_reducible refine Below.setCell ?_ ?_ _); rotate_left; (first | omega | (simp <;> omega)))))⟩
                case measure => (simp [intOf] <;> omega)
      · have hvb : (x.vol != vol) = true := by simpa using hv
        go_wp2_with fail
        go_roundw
        case rel => refine ⟨k + 1, best, ba, by omega, by go_num, rfl, ?_, by have := HE.out; rw [HD.out, lowF, if_pos (by simp [skipB, hv])] at this; exact this, by (repeat' (first | (with_reducible assumption) | (with_reducible exact Below.refl _ _) | (with_reducible refine below_drewN ?_ _) | (with_reducible refine Below.drew ?_) | ((with_reducible refine below_alloc' ?_ ?_ _); rotate_left; (first | exact Nat.le_refl _ | assumption | omega)) | ((with_reducible refine Below.alloc ?_ ?_ _); rotate_left; (first | omega | (simp <;> omega))) | ((with_reducible refine Below.setCell ?_ ?_ _); rotate_left; (first | omega | (simp <;> omega)))))⟩; rcases hbest with h | ⟨j, h1, h2, h3⟩; exact Or.inl h; exact Or.inr ⟨j, h1, by omega, h3⟩
        case measure => (simp [intOf] <;> omega)
    · obtain rfl : k = l.length := by omega
      go_wp2_with fail
      go_ret
      refine ⟨ret_int ?_, by (repeat' (first | (with_reducible assumption) | (with_reducible exact Below.refl _ _) | (with_reducible refine below_drewN ?_ _) | (with_reducible refine Below.drew ?_) | ((with_reducible refine below_alloc' ?_ ?_ _); rotate_left; (first | exact Nat.le_refl _ | assumption | omega)) | ((with_reducible refine Below.alloc ?_ ?_ _); rotate_left; (first | omega | (simp <;> omega))) | ((with_reducible refine Below.setCell ?_ ?_ _); rotate_left; (first | omega | (simp <;> omega)))))⟩
      have := HE.out
      rw [List.drop_length, lowF] at this
      exact this
end Go.Proofs.Ytecdcainkemicaa
