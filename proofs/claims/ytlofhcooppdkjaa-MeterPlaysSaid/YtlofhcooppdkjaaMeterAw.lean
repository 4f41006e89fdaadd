/- awake. -/
import Derived.Test.YtlofhcooppdkjaaMeterRef
namespace Go.Proofs.Ytlofhcooppdkjaa
open Go.RowKit
set_option linter.unusedVariables false
section
variable (w : World)
set_option maxHeartbeats 1000000 in
theorem awake_any : Calls Try.prog 9 #[] w (RetB (.bool true) w.heap.size w) := by
  go_enter Try.func9, Try.ntmps9
  go_wp2_with fail
  refine (made_nn _ _ (by omega)).mono ?_; rintro e w' ⟨rfl, m, rfl⟩
  go_wp2_with fail
  refine calls_gen (fun w1 => Blk w1 (w.heap.size + 1) 40 [.int .i64 10, .int .i64 0, .bool false, .int .i64 0] ∧ Below w.heap.size w w1) ⟨by (repeat' (first | (with_reducible assumption) | (with_reducible apply Blk.drewN) | (with_reducible apply Blk.drew) | ((with_reducible apply Blk.new'); (first | rfl | (simp <;> omega))) | (with_reducible apply Blk.set') | (with_reducible apply Blk.ne) | (with_reducible apply Blk.alloc) | rfl | omega | (simp <;> omega))), by (repeat' (first | (with_reducible assumption) | (with_reducible exact Below.refl _ _) | (with_reducible refine below_drewN ?_ _) | (with_reducible refine Below.drew ?_) | ((with_reducible refine Below.alloc ?_ ?_ _); rotate_left; (first | omega | (simp <;> omega))) | ((with_reducible refine Below.setCell ?_ ?_ _); rotate_left; (first | omega | (simp <;> omega)))))⟩ ?_
  generalize hbd : w.heap.size + 1 = bd
  have hlo : w.heap.size ≤ bd := by omega
  clear hbd
  rintro w1 ⟨B1, L1⟩
  refine (take_eq _ _ _ 10 0 7 (E := 0) (U := 7) (by decide) (by decide) (B1.cell 0 rfl) (B1.cell 1 rfl) (B1.frozen 1) (by omega) (by omega) (by omega)).mono ?_; rintro e w' ⟨rfl, m1, rfl⟩
  go_wp2_with fail
  refine calls_gen (fun w1 => Blk w1 bd 40 [.int .i64 10, .int .i64 7, .bool false, .int .i64 0] ∧ Below w.heap.size w w1) ⟨by (repeat' (first | (with_reducible assumption) | (with_reducible apply Blk.drewN) | (with_reducible apply Blk.drew) | ((with_reducible apply Blk.new'); (first | rfl | (simp <;> omega))) | (with_reducible apply Blk.set') | (with_reducible apply Blk.ne) | (with_reducible apply Blk.alloc) | rfl | omega | (simp <;> omega))), by (repeat' (first | (with_reducible assumption) | (with_reducible exact Below.refl _ _) | (with_reducible refine below_drewN ?_ _) | (with_reducible refine Below.drew ?_) | ((with_reducible refine Below.alloc ?_ ?_ _); rotate_left; (first | omega | (simp <;> omega))) | ((with_reducible refine Below.setCell ?_ ?_ _); rotate_left; (first | omega | (simp <;> omega)))))⟩ ?_
  rintro w2 ⟨B2, L2⟩
  refine (take_eq _ _ _ 10 7 4 (E := 7) (U := 7) (by decide) (by decide) (B2.cell 0 rfl) (B2.cell 1 rfl) (B2.frozen 1) (by omega) (by omega) (by omega)).mono ?_; rintro e w' ⟨rfl, m2, rfl⟩
  go_wp2_with fail
  refine calls_gen (fun w1 => Blk w1 bd 40 [.int .i64 10, .int .i64 7, .bool false, .int .i64 0] ∧ Below w.heap.size w w1) ⟨by (repeat' (first | (with_reducible assumption) | (with_reducible apply Blk.drewN) | (with_reducible apply Blk.drew) | ((with_reducible apply Blk.new'); (first | rfl | (simp <;> omega))) | (with_reducible apply Blk.set') | (with_reducible apply Blk.ne) | (with_reducible apply Blk.alloc) | rfl | omega | (simp <;> omega))), by (repeat' (first | (with_reducible assumption) | (with_reducible exact Below.refl _ _) | (with_reducible refine below_drewN ?_ _) | (with_reducible refine Below.drew ?_) | ((with_reducible refine Below.alloc ?_ ?_ _); rotate_left; (first | omega | (simp <;> omega))) | ((with_reducible refine Below.setCell ?_ ?_ _); rotate_left; (first | omega | (simp <;> omega)))))⟩ ?_
  rintro w3 ⟨B3, L3⟩
  refine (give_eq _ _ _ 7 8 (E := 1) (U := 7) (by decide) (by decide) (B3.cell 1 rfl) (B3.frozen 1) (by omega) (by omega)).mono ?_; rintro e w' ⟨rfl, m3, rfl⟩
  go_wp2_with fail
  refine calls_gen (fun w1 => Blk w1 bd 40 [.int .i64 10, .int .i64 7, .bool false, .int .i64 0] ∧ Below w.heap.size w w1) ⟨by (repeat' (first | (with_reducible assumption) | (with_reducible apply Blk.drewN) | (with_reducible apply Blk.drew) | ((with_reducible apply Blk.new'); (first | rfl | (simp <;> omega))) | (with_reducible apply Blk.set') | (with_reducible apply Blk.ne) | (with_reducible apply Blk.alloc) | rfl | omega | (simp <;> omega))), by (repeat' (first | (with_reducible assumption) | (with_reducible exact Below.refl _ _) | (with_reducible refine below_drewN ?_ _) | (with_reducible refine Below.drew ?_) | ((with_reducible refine Below.alloc ?_ ?_ _); rotate_left; (first | omega | (simp <;> omega))) | ((with_reducible refine Below.setCell ?_ ?_ _); rotate_left; (first | omega | (simp <;> omega)))))⟩ ?_
  rintro w4 ⟨B4, L4⟩
  refine (fail_eq _ _ _ 0 1 (A := 2) (by decide) (B4.cell 3 rfl) (B4.frozen 3)).mono ?_; rintro e w' ⟨rfl, m4, rfl⟩
  go_wp2_with fail
  refine calls_gen (fun w1 => Blk w1 bd 40 [.int .i64 10, .int .i64 7, .bool false, .int .i64 2] ∧ Below w.heap.size w w1) ⟨by (repeat' (first | (with_reducible assumption) | (with_reducible apply Blk.drewN) | (with_reducible apply Blk.drew) | ((with_reducible apply Blk.new'); (first | rfl | (simp <;> omega))) | (with_reducible apply Blk.set') | (with_reducible apply Blk.ne) | (with_reducible apply Blk.alloc) | rfl | omega | (simp <;> omega))), by (repeat' (first | (with_reducible assumption) | (with_reducible exact Below.refl _ _) | (with_reducible refine below_drewN ?_ _) | (with_reducible refine Below.drew ?_) | ((with_reducible refine Below.alloc ?_ ?_ _); rotate_left; (first | omega | (simp <;> omega))) | ((with_reducible refine Below.setCell ?_ ?_ _); rotate_left; (first | omega | (simp <;> omega)))))⟩ ?_
  rintro w5 ⟨B5, L5⟩
  refine (try_eq _ _ _ false 2 (E := 0) (A := 1) (by decide) (by decide) (B5.cell 2 rfl) (B5.cell 3 rfl) (B5.frozen 3) (by omega) (by omega)).mono ?_; rintro e w' ⟨rfl, m5, rfl⟩
  go_wp2_with fail
  refine calls_gen (fun w1 => Blk w1 bd 40 [.int .i64 10, .int .i64 7, .bool false, .int .i64 1] ∧ Below w.heap.size w w1) ⟨by (repeat' (first | (with_reducible assumption) | (with_reducible apply Blk.drewN) | (with_reducible apply Blk.drew) | ((with_reducible apply Blk.new'); (first | rfl | (simp <;> omega))) | (with_reducible apply Blk.set') | (with_reducible apply Blk.ne) | (with_reducible apply Blk.alloc) | rfl | omega | (simp <;> omega))), by (repeat' (first | (with_reducible assumption) | (with_reducible exact Below.refl _ _) | (with_reducible refine below_drewN ?_ _) | (with_reducible refine Below.drew ?_) | ((with_reducible refine Below.alloc ?_ ?_ _); rotate_left; (first | omega | (simp <;> omega))) | ((with_reducible refine Below.setCell ?_ ?_ _); rotate_left; (first | omega | (simp <;> omega)))))⟩ ?_
  rintro w6 ⟨B6, L6⟩
  refine (try_eq _ _ _ false 1 (E := 8) (A := 0) (by decide) (by decide) (B6.cell 2 rfl) (B6.cell 3 rfl) (B6.frozen 3) (by omega) (by omega)).mono ?_; rintro e w' ⟨rfl, m6, rfl⟩
  go_wp2_with fail
  refine calls_gen (fun w1 => Blk w1 bd 40 [.int .i64 10, .int .i64 7, .bool false, .int .i64 0] ∧ Below w.heap.size w w1) ⟨by (repeat' (first | (with_reducible assumption) | (with_reducible apply Blk.drewN) | (with_reducible apply Blk.drew) | ((with_reducible apply Blk.new'); (first | rfl | (simp <;> omega))) | (with_reducible apply Blk.set') | (with_reducible apply Blk.ne) | (with_reducible apply Blk.alloc) | rfl | omega | (simp <;> omega))), by (repeat' (first | (with_reducible assumption) | (with_reducible exact Below.refl _ _) | (with_reducible refine below_drewN ?_ _) | (with_reducible refine Below.drew ?_) | ((with_reducible refine Below.alloc ?_ ?_ _); rotate_left; (first | omega | (simp <;> omega))) | ((with_reducible refine Below.setCell ?_ ?_ _); rotate_left; (first | omega | (simp <;> omega)))))⟩ ?_
  rintro w7 ⟨B7, L7⟩
  refine (try_eq _ _ _ false 0 (E := 0) (A := 0) (by decide) (by decide) (B7.cell 2 rfl) (B7.cell 3 rfl) (B7.frozen 3) (by omega) (by omega)).mono ?_; rintro e w' ⟨rfl, m7, rfl⟩
  go_wp2_with fail
  refine calls_gen (fun w1 => Blk w1 bd 40 [.int .i64 10, .int .i64 7, .bool false, .int .i64 0] ∧ Below w.heap.size w w1) ⟨by (repeat' (first | (with_reducible assumption) | (with_reducible apply Blk.drewN) | (with_reducible apply Blk.drew) | ((with_reducible apply Blk.new'); (first | rfl | (simp <;> omega))) | (with_reducible apply Blk.set') | (with_reducible apply Blk.ne) | (with_reducible apply Blk.alloc) | rfl | omega | (simp <;> omega))), by (repeat' (first | (with_reducible assumption) | (with_reducible exact Below.refl _ _) | (with_reducible refine below_drewN ?_ _) | (with_reducible refine Below.drew ?_) | ((with_reducible refine Below.alloc ?_ ?_ _); rotate_left; (first | omega | (simp <;> omega))) | ((with_reducible refine Below.setCell ?_ ?_ _); rotate_left; (first | omega | (simp <;> omega)))))⟩ ?_
  rintro w8 ⟨B8, L8⟩
  refine (free_any _ _ _ 10 7 (B8.cell 0 rfl) (B8.cell 1 rfl) (by omega) (by omega) (by omega)).mono ?_; rintro e w' ⟨rfl, m8, rfl⟩
  go_wp2_with fail
  go_ret
  exact ⟨rfl, by (repeat' (first | (with_reducible assumption) | (with_reducible exact Below.refl _ _) | (with_reducible refine below_drewN ?_ _) | (with_reducible refine Below.drew ?_) | ((with_reducible refine Below.alloc ?_ ?_ _); rotate_left; (first | omega | (simp <;> omega))) | ((with_reducible refine Below.setCell ?_ ?_ _); rotate_left; (first | omega | (simp <;> omega)))))⟩
end
end Go.Proofs.Ytlofhcooppdkjaa
