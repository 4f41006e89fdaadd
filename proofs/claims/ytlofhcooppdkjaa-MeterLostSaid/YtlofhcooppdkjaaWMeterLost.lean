/- MeterLost, walked. -/
import Derived.Test.YtlofhcooppdkjaaMeterAw
import Derived.Test.YtlofhcooppdkjaaOpen
namespace Go.Proofs.Ytlofhcooppdkjaa
open Go.RowKit
set_option linter.unusedVariables false
theorem failA_bd (n : Int) : 0 ≤ failA n ∧ failA n ≤ 1073741825 := by unfold failA; split <;> omega

set_option maxRecDepth 10000 in
set_option maxHeartbeats 2000000 in
theorem meterLost_walk (la : Option Addr) (len cap : Nat) (w : World) (hl : OkT Try.prog w 6 29 [.slice la len cap]) :
    Calls Try.prog 5 #[.slice la len cap] w (RetB (.bool true) w.heap.size w) := by
  obtain ⟨zs0, hz0, hlc, hcm, hzs0, hwf⟩ := okT_ints Try.underlying29 Try.underlying3 (by kernel_rfl) hl
  clear hl
  unfold maxLen at hcm
  have hblk : ∀ i, i < len → ∃ b off, la = some ⟨b, off, none⟩ ∧ b < w.heap.size ∧ ∃ z, w.cell? ⟨b, off + i, none⟩ = some (.int .i64 z) ∧ -9223372036854775808 ≤ z ∧ z ≤ 9223372036854775807 := by
    intro i hi
    obtain ⟨b, off, h1, h2⟩ := hzs0 i (by omega)
    exact ⟨b, off, h1, World.block_lt_of_cell? _ _ h2, _, h2, wf_i64 (hwf _ (List.getElem_mem _))⟩
  clear hzs0 hwf hz0
  have HL := hid hblk
  clear hblk
  go_enter Try.func5, Try.ntmps5
  go_wp2_with fail
  refine calls_gen (fun w2 => Blk w2 w.heap.size 24 [.bool false, .int .i64 0] ∧ Below w.heap.size w w2) ⟨by (repeat' (first | (with_reducible assumption) | (with_reducible refine Blk.drewN ?_ _) | (with_reducible refine Blk.drew ?_) | ((with_reducible refine Blk.new' _ _ _ _ ?_); (first | rfl | (simp <;> omega))) | (with_reducible apply Blk.set') | ((with_reducible refine Blk.ne ?_ ?_ _); rotate_left; (first | omega | (simp <;> omega))) | (with_reducible refine Blk.alloc ?_ _) | rfl)), by (repeat' (first | (with_reducible assumption) | (with_reducible exact Below.refl _ _) | (with_reducible refine below_drewN ?_ _) | (with_reducible refine Below.drew ?_) | ((with_reducible refine Below.alloc ?_ ?_ _); rotate_left; (first | omega | (simp <;> omega))) | ((with_reducible refine Below.setCell ?_ ?_ _); rotate_left; (first | omega | (simp <;> omega)))))⟩ ?_
  obtain ⟨bl, hbl⟩ : ∃ bl, w.heap.size = bl := ⟨_, rfl⟩
  rw [hbl]
  rintro w2 ⟨B2, L2⟩
  have hlo : w.heap.size ≤ bl := by omega
  refine (lose_any _ _ _ false (B2.cell 0 rfl) (B2.frozen 0)).mono ?_; rintro e w' ⟨rfl, m2, rfl⟩
  go_wp2_with fail
  refine wp_gen (fun w3 => Blk w3 bl 24 [.bool true, .int .i64 0] ∧ Below bl w w3) ⟨by (repeat' (first | (with_reducible assumption) | (with_reducible refine Blk.drewN ?_ _) | (with_reducible refine Blk.drew ?_) | ((with_reducible refine Blk.new' _ _ _ _ ?_); (first | rfl | (simp <;> omega))) | (with_reducible apply Blk.set') | ((with_reducible refine Blk.ne ?_ ?_ _); rotate_left; (first | omega | (simp <;> omega))) | (with_reducible refine Blk.alloc ?_ _) | rfl)), by (repeat' (first | (with_reducible assumption) | (with_reducible exact Below.refl _ _) | (with_reducible refine below_drewN ?_ _) | (with_reducible refine Below.drew ?_) | ((with_reducible refine Below.alloc ?_ ?_ _); rotate_left; (first | omega | (simp <;> omega))) | ((with_reducible refine Below.setCell ?_ ?_ _); rotate_left; (first | omega | (simp <;> omega)))))⟩ ?_
  rintro w3 ⟨B3, L3⟩
  go_loopw [4] (fun i wr => ∃ (k : Nat) (a : Int), k ≤ len ∧ k ≤ 20 ∧ i = .int .i64 k ∧ 0 ≤ a ∧ a ≤ 1073741825 ∧ Blk wr bl 24 [.bool true, .int .i64 a] ∧ Below bl w wr) (fun i _ => len - (intOf i).toNat)
  case atStart => exact ⟨0, 0, Nat.zero_le _, by omega, rfl, by omega, by omega, B3, L3⟩
  case round =>
    obtain ⟨k, a, hk, hk20, rfl, ha0, ha1, Br, Lr⟩ := hrel
    by_cases hlt : k < len ∧ k < 20
    · obtain ⟨hlt1, hlt2⟩ := hlt
      obtain ⟨b, off, rfl, hb, z, hcell, hzl, hzh⟩ := HL.out k hlt1
      have hcr : wr.cell? ⟨b, off + k, none⟩ = some (.int .i64 z) := by rw [Lr.cell (p := ⟨b, off + k, none⟩) (by show b < bl; omega)]; exact hcell
      obtain ⟨A, hA⟩ : ∃ A, failA z = A := ⟨_, rfl⟩
      have hbd := failA_bd z
      rw [hA] at hbd
      have HA := hid hA
      clear hA
      go_wp2_with fail
      refine (fail_eq _ _ _ a z (A := A) HA.out (Br.cell 1 rfl) (Br.frozen 1)).mono ?_; rintro e w' ⟨rfl, m2, rfl⟩
      go_wp2_with fail
      refine calls_gen (fun w3 => Blk w3 bl 24 [.bool true, .int .i64 A] ∧ Below bl w w3) ⟨by (repeat' (first | (with_reducible assumption) | (with_reducible refine Blk.drewN ?_ _) | (with_reducible refine Blk.drew ?_) | ((with_reducible refine Blk.new' _ _ _ _ ?_); (first | rfl | (simp <;> omega))) | (with_reducible apply Blk.set') | ((with_reducible refine Blk.ne ?_ ?_ _); rotate_left; (first | omega | (simp <;> omega))) | (with_reducible refine Blk.alloc ?_ _) | rfl)), by (repeat' (first | (with_reducible assumption) | (with_reducible exact Below.refl _ _) | (with_reducible refine below_drewN ?_ _) | (with_reducible refine Below.drew ?_) | ((with_reducible refine Below.alloc ?_ ?_ _); rotate_left; (first | omega | (simp <;> omega))) | ((with_reducible refine Below.setCell ?_ ?_ _); rotate_left; (first | omega | (simp <;> omega)))))⟩ ?_
      rintro w4 ⟨B4, L4⟩
      refine (try_eq _ _ _ true A (E := 14) (A := A) rfl rfl (B4.cell 0 rfl) (B4.cell 1 rfl) (B4.frozen 1) (by omega) (by omega)).mono ?_; rintro e w' ⟨rfl, m3, rfl⟩
      go_wp2_with fail
      refine calls_gen (fun w3 => Blk w3 bl 24 [.bool true, .int .i64 A] ∧ Below bl w w3) ⟨by (repeat' (first | (with_reducible assumption) | (with_reducible refine Blk.drewN ?_ _) | (with_reducible refine Blk.drew ?_) | ((with_reducible refine Blk.new' _ _ _ _ ?_); (first | rfl | (simp <;> omega))) | (with_reducible apply Blk.set') | ((with_reducible refine Blk.ne ?_ ?_ _); rotate_left; (first | omega | (simp <;> omega))) | (with_reducible refine Blk.alloc ?_ _) | rfl)), by (repeat' (first | (with_reducible assumption) | (with_reducible exact Below.refl _ _) | (with_reducible refine below_drewN ?_ _) | (with_reducible refine Below.drew ?_) | ((with_reducible refine Below.alloc ?_ ?_ _); rotate_left; (first | omega | (simp <;> omega))) | ((with_reducible refine Below.setCell ?_ ?_ _); rotate_left; (first | omega | (simp <;> omega)))))⟩ ?_
      rintro w5 ⟨B5, L5⟩
      refine (lost_any _ _ _ true (B5.cell 0 rfl)).mono ?_; rintro e w' ⟨rfl, m4, rfl⟩
      go_wp2_with fail
      go_roundw
      case rel => exact ⟨k + 1, A, by omega, by omega, by go_num, by omega, by omega, by (repeat' (first | (with_reducible assumption) | (with_reducible refine Blk.drewN ?_ _) | (with_reducible refine Blk.drew ?_) | ((with_reducible refine Blk.new' _ _ _ _ ?_); (first | rfl | (simp <;> omega))) | (with_reducible apply Blk.set') | ((with_reducible refine Blk.ne ?_ ?_ _); rotate_left; (first | omega | (simp <;> omega))) | (with_reducible refine Blk.alloc ?_ _) | rfl)), by (repeat' (first | (with_reducible assumption) | (with_reducible exact Below.refl _ _) | (with_reducible refine below_drewN ?_ _) | (with_reducible refine Below.drew ?_) | ((with_reducible refine Below.alloc ?_ ?_ _); rotate_left; (first | omega | (simp <;> omega))) | ((with_reducible refine Below.setCell ?_ ?_ _); rotate_left; (first | omega | (simp <;> omega)))))⟩
      case measure => simp [intOf]; omega
    · by_cases hA : k < len
      all_goals
        go_wp2_with fail
        refine (awake_any _).mono ?_; rintro e w4 ⟨rfl, L4⟩
        go_wp2_with fail
        go_ret
        exact ⟨rfl, by rw [hbl]; exact Lr.trans (L4.mono (by have := Lr.size; omega))⟩
end Go.Proofs.Ytlofhcooppdkjaa
