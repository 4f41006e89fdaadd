/- MeterFail, walked. -/
import Derived.Test.YtlofhcooppdkjaaMeterAw
import Derived.Test.YtlofhcooppdkjaaOpen
namespace Go.Proofs.Ytlofhcooppdkjaa
open Go.RowKit
set_option linter.unusedVariables false
set_option maxHeartbeats 1000000 in
theorem meterFail_walk (n : Int) (w : World) (hn : (Lit.int .i64 n).wf = true) :
    Calls Try.prog 3 #[.int .i64 n] w (RetB (.bool true) w.heap.size w) := by
  by_cases h0 : n < 0
  · go_enter Try.func3, Try.ntmps3
    go_wp2_with fail
    refine (awake_any _).mono ?_; rintro e w1 ⟨rfl, L1⟩
    go_wp2_with fail
    refine (awake_any _).mono ?_; rintro e w2 ⟨rfl, L2⟩
    go_wp2_with fail
    go_ret
    exact ⟨rfl, L1.trans (L2.mono L1.size)⟩
  by_cases h1 : 200 < n
  · go_enter Try.func3, Try.ntmps3
    go_wp2_with fail
    refine (awake_any _).mono ?_; rintro e w1 ⟨rfl, L1⟩
    go_wp2_with fail
    refine (awake_any _).mono ?_; rintro e w2 ⟨rfl, L2⟩
    go_wp2_with fail
    go_ret
    exact ⟨rfl, L1.trans (L2.mono L1.size)⟩
  obtain ⟨k, rfl⟩ := Int.eq_ofNat_of_zero_le (by omega : 0 ≤ n)
  go_enter Try.func3, Try.ntmps3
  go_wp2_with fail
  refine (awake_any _).mono ?_; rintro e w1 ⟨rfl, L1⟩
  go_wp2_with fail
  generalize hbd : w1.heap.size = bd
  have hlo : w.heap.size ≤ bd := by have := L1.size; omega
  refine calls_gen (fun w2 => Blk w2 bd 24 [.bool false, .int .i64 0] ∧ Below w.heap.size w w2) ⟨by (subst hbd; (repeat' (first | (with_reducible assumption) | (with_reducible refine Blk.drewN ?_ _) | (with_reducible refine Blk.drew ?_) | ((with_reducible refine Blk.new' _ _ _ _ ?_); (first | rfl | (simp <;> omega))) | (with_reducible apply Blk.set') | ((with_reducible refine Blk.ne ?_ ?_ _); rotate_left; (first | omega | (simp <;> omega))) | (with_reducible refine Blk.alloc ?_ _) | rfl))), by (have := L1.size; (repeat' (first | (with_reducible assumption) | (with_reducible exact Below.refl _ _) | (with_reducible refine below_drewN ?_ _) | (with_reducible refine Below.drew ?_) | ((with_reducible refine Below.alloc ?_ ?_ _); rotate_left; (first | omega | (simp <;> omega))) | ((with_reducible refine Below.setCell ?_ ?_ _); rotate_left; (first | omega | (simp <;> omega))))))⟩ ?_
  clear hbd
  rintro w2 ⟨B2, L2⟩
  refine (fail_eq _ _ _ 0 k (A := k + 1) (by unfold failA; rw [if_neg (by omega)]; omega) (B2.cell 1 rfl) (B2.frozen 1)).mono ?_; rintro e w' ⟨rfl, m2, rfl⟩
  go_wp2_with fail
  refine wp_gen (fun w3 => Blk w3 bd 24 [.bool false, .int .i64 (k+1)] ∧ Below w.heap.size w w3) ⟨by (repeat' (first | (with_reducible assumption) | (with_reducible refine Blk.drewN ?_ _) | (with_reducible refine Blk.drew ?_) | ((with_reducible refine Blk.new' _ _ _ _ ?_); (first | rfl | (simp <;> omega))) | (with_reducible apply Blk.set') | ((with_reducible refine Blk.ne ?_ ?_ _); rotate_left; (first | omega | (simp <;> omega))) | (with_reducible refine Blk.alloc ?_ _) | rfl)), by (repeat' (first | (with_reducible assumption) | (with_reducible exact Below.refl _ _) | (with_reducible refine below_drewN ?_ _) | (with_reducible refine Below.drew ?_) | ((with_reducible refine Below.alloc ?_ ?_ _); rotate_left; (first | omega | (simp <;> omega))) | ((with_reducible refine Below.setCell ?_ ?_ _); rotate_left; (first | omega | (simp <;> omega)))))⟩ ?_
  rintro w3 ⟨B3, L3⟩
  go_loopw [4] (fun i wr => ∃ j : Nat, j ≤ k ∧ i = .int .i64 j ∧ Blk wr bd 24 [.bool false, .int .i64 (k + 1 - j)] ∧ Below w.heap.size w wr) (fun i wr => k - (intOf i).toNat)
  case atStart => exact ⟨0, Nat.zero_le _, rfl, by simpa using B3, L3⟩
  case round =>
    obtain ⟨j, hj, rfl, Br, Lr⟩ := hrel
    by_cases hlt : j < k
    · go_wp2_with fail
      refine (try_eq _ _ _ false (k + 1 - j) (E := 0) (A := k + 1 - (j + 1 : Nat)) (by unfold tryE; rw [if_neg (by simp), if_neg (by omega)]) (by unfold tryA; rw [if_neg (by simp), if_pos (by omega)]; omega) (Br.cell 0 rfl) (Br.cell 1 rfl) (Br.frozen 1) (by omega) (by omega)).mono ?_
      rintro e w' ⟨rfl, m3, rfl⟩
      go_wp2_with fail
      go_roundw
      case rel => exact ⟨j + 1, by omega, by go_num, by (repeat' (first | (with_reducible assumption) | (with_reducible refine Blk.drewN ?_ _) | (with_reducible refine Blk.drew ?_) | ((with_reducible refine Blk.new' _ _ _ _ ?_); (first | rfl | (simp <;> omega))) | (with_reducible apply Blk.set') | ((with_reducible refine Blk.ne ?_ ?_ _); rotate_left; (first | omega | (simp <;> omega))) | (with_reducible refine Blk.alloc ?_ _) | rfl)), by (repeat' (first | (with_reducible assumption) | (with_reducible exact Below.refl _ _) | (with_reducible refine below_drewN ?_ _) | (with_reducible refine Below.drew ?_) | ((with_reducible refine Below.alloc ?_ ?_ _); rotate_left; (first | omega | (simp <;> omega))) | ((with_reducible refine Below.setCell ?_ ?_ _); rotate_left; (first | omega | (simp <;> omega)))))⟩
      case measure => simp [intOf]; omega
    · obtain rfl : j = k := by omega
      go_wp2_with fail
      refine (try_eq _ _ _ false (j + 1 - j) (E := 8) (A := 0) (by unfold tryE; rw [if_neg (by simp), if_pos (by omega)]) (by unfold tryA; rw [if_neg (by simp), if_pos (by omega)]; omega) (Br.cell 0 rfl) (Br.cell 1 rfl) (Br.frozen 1) (by omega) (by omega)).mono ?_
      rintro e w' ⟨rfl, m3, rfl⟩
      go_wp2_with fail
      refine calls_gen (fun w2 => Blk w2 bd 24 [.bool false, .int .i64 0] ∧ Below w.heap.size w w2) ⟨by (repeat' (first | (with_reducible assumption) | (with_reducible refine Blk.drewN ?_ _) | (with_reducible refine Blk.drew ?_) | ((with_reducible refine Blk.new' _ _ _ _ ?_); (first | rfl | (simp <;> omega))) | (with_reducible apply Blk.set') | ((with_reducible refine Blk.ne ?_ ?_ _); rotate_left; (first | omega | (simp <;> omega))) | (with_reducible refine Blk.alloc ?_ _) | rfl)), by (repeat' (first | (with_reducible assumption) | (with_reducible exact Below.refl _ _) | (with_reducible refine below_drewN ?_ _) | (with_reducible refine Below.drew ?_) | ((with_reducible refine Below.alloc ?_ ?_ _); rotate_left; (first | omega | (simp <;> omega))) | ((with_reducible refine Below.setCell ?_ ?_ _); rotate_left; (first | omega | (simp <;> omega)))))⟩ ?_
      rintro w4 ⟨B4, L4⟩
      refine (try_eq _ _ _ false 0 (E := 0) (A := 0) (by decide) (by decide) (B4.cell 0 rfl) (B4.cell 1 rfl) (B4.frozen 1) (by omega) (by omega)).mono ?_
      rintro e w' ⟨rfl, m4, rfl⟩
      go_wp2_with fail
      refine calls_gen (fun w2 => Blk w2 bd 24 [.bool false, .int .i64 0] ∧ Below w.heap.size w w2) ⟨by (repeat' (first | (with_reducible assumption) | (with_reducible refine Blk.drewN ?_ _) | (with_reducible refine Blk.drew ?_) | ((with_reducible refine Blk.new' _ _ _ _ ?_); (first | rfl | (simp <;> omega))) | (with_reducible apply Blk.set') | ((with_reducible refine Blk.ne ?_ ?_ _); rotate_left; (first | omega | (simp <;> omega))) | (with_reducible refine Blk.alloc ?_ _) | rfl)), by (repeat' (first | (with_reducible assumption) | (with_reducible exact Below.refl _ _) | (with_reducible refine below_drewN ?_ _) | (with_reducible refine Below.drew ?_) | ((with_reducible refine Below.alloc ?_ ?_ _); rotate_left; (first | omega | (simp <;> omega))) | ((with_reducible refine Below.setCell ?_ ?_ _); rotate_left; (first | omega | (simp <;> omega)))))⟩ ?_
      rintro w5 ⟨B5, L5⟩
      refine (lost_any _ _ _ false (B5.cell 0 rfl)).mono ?_
      rintro e w' ⟨rfl, m5, rfl⟩
      go_wp2_with fail
      go_ret
      exact ⟨rfl, by (repeat' (first | (with_reducible assumption) | (with_reducible exact Below.refl _ _) | (with_reducible refine below_drewN ?_ _) | (with_reducible refine Below.drew ?_) | ((with_reducible refine Below.alloc ?_ ?_ _); rotate_left; (first | omega | (simp <;> omega))) | ((with_reducible refine Below.setCell ?_ ?_ _); rotate_left; (first | omega | (simp <;> omega)))))⟩
end Go.Proofs.Ytlofhcooppdkjaa
