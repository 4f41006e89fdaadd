/- MeterPicks, walked. -/
import Derived.Test.YtlofhcooppdkjaaWMeterSum
namespace Go.Proofs.Ytlofhcooppdkjaa
open Go.RowKit
set_option linter.unusedVariables false
theorem posS_take (zs : List Int) (k : Nat) (h : k < zs.length) : posS (zs.take (k+1)) = posS (zs.take k) + max zs[k] 0 := by
  rw [List.take_succ_eq_append_getElem h, posS_append]; simp [posS]
set_option maxRecDepth 100000 in
set_option maxHeartbeats 2000000 in
theorem meterPicks_walk (la : Option Addr) (len cap : Nat) (at_ n : Int) (w : World) (hl : OkT Try.prog w 6 29 [.slice la len cap]) (hat : (Lit.int .i64 at_).wf = true) (hn : (Lit.int .i64 n).wf = true) :
    Calls Try.prog 8 #[.slice la len cap, .int .i64 at_, .int .i64 n] w (RetB (.bool true) w.heap.size w) := by
  obtain ⟨zs0, hz0, hlc, hcm, hzs0, hwf⟩ := okT_ints Try.underlying29 Try.underlying3 (by kernel_rfl) hl
  clear hl
  unfold maxLen at hcm
  obtain ⟨zs, hzs⟩ : ∃ zs, zs0.take len = zs := ⟨_, rfl⟩
  have hzl : zs.length = len := by rw [← hzs, List.length_take]; omega
  have hI : IntsAt .i64 w la zs := by
    intro i hi
    obtain ⟨b, off, h1, h2⟩ := hzs0 i (by omega)
    refine ⟨b, off, h1, ?_⟩
    rw [h2]; subst hzs; simp
  have hwz : ∀ z ∈ zs, -9223372036854775808 ≤ z ∧ z ≤ 9223372036854775807 := fun z hz => wf_i64 (hwf z (by rw [← hzs] at hz; exact List.mem_of_mem_take hz))
  have hn2 := (wf_i64 hn).2
  subst hzl
  have HZ := hid hI
  have HW := hid hwz
  clear hzs hI hwz hwf hn hat hzs0 hz0
  go_enter Try.func8, Try.ntmps8
  go_wp2_with fail
  go_loop [7, 12] (fun s i => ∃ k : Nat, k ≤ zs.length ∧ i = .int .i64 k ∧ s = .int .u64 (min (posS (zs.take k)) 4611686018427387904)) (fun _ i => zs.length - (intOf i).toNat)
  case atStart => exact ⟨0, Nat.zero_le _, rfl, rfl⟩
  case round =>
    obtain ⟨k, hk, rfl, rfl⟩ := hrel
    by_cases hlt : k < zs.length
    · obtain ⟨b, off, rfl, hc⟩ := HZ.out k hlt
      have h1 := HW.out zs[k] (List.getElem_mem hlt)
      have h2 := posS_take zs k hlt
      have h3 := posS_nn (zs.take k)
      generalize zs[k] = z at *
      have H2 := hid h2
      clear h2
      generalize hA : min (posS (zs.take k)) 4611686018427387904 = A at *
      have h4 : 0 ≤ A ∧ A ≤ 4611686018427387904 := by omega
      have HA := hid hA
      obtain ⟨h5, h6⟩ := h4
      clear hA h3
      by_cases hz : z < 0
      · go_wp2_with fail
        go_round
        case rel => exact ⟨k + 1, by omega, by go_num, by rw [H2.out]; have := HA.out; congr 1; omega⟩
        case measure => (simp [intOf] <;> omega)
      · by_cases hbig : A + z ≤ 4611686018427387904
        all_goals
          go_wp2_with fail
          go_round
          case rel => exact ⟨k + 1, by omega, by go_num, by rw [H2.out]; have := HA.out; congr 1; omega⟩
          case measure => (simp [intOf] <;> omega)
    · obtain rfl : k = zs.length := by omega
      rw [List.take_length]
      obtain ⟨S, hS⟩ : ∃ S, sumF 0 zs = S := ⟨_, rfl⟩
      have hS2 : min (posS zs) 4611686018427387904 = S := by rw [← sumF_zero]; exact hS
      have h0 := posS_nn zs
      have hS0 : 0 ≤ S := by omega
      have hS1 : S ≤ 4611686018427387904 := by omega
      rw [hS2]
      have HS := hid hS
      clear hS hS2 h0
      obtain ⟨q, hq⟩ : ∃ q, pickM zs at_ n = q := ⟨_, rfl⟩
      have HQ := hid hq
      clear hq
      go_wp2_with fail
      refine (awake_any _).mono ?_; rintro e w4 ⟨rfl, L4⟩
      have I4 := HZ.out.below L4
      have HI4 := hid I4
      clear I4
      go_wp2_with fail
      refine (pick_any _ _ _ zs at_ n HI4.out (by omega) HW.out (by omega)).mono ?_; rintro e w' ⟨rfl, m5, rfl⟩
      rw [HQ.out]
      go_wp2_with fail
      refine (refPick_any _ _ _ zs at_ n (by exact HI4.out) (by omega) HW.out (by omega)).mono ?_; rintro e w' ⟨rfl, m6, rfl⟩
      rw [HQ.out]
      go_wp2_with fail
      refine (sum_eq (S := S) _ _ _ _ zs HS.out rfl (by exact HI4.out) (by omega)).mono ?_; rintro e w' ⟨rfl, m7, rfl⟩
      go_wp2_with fail
      refine (sum_eq (S := 0) _ _ _ _ [] rfl rfl (fun i hi => absurd hi (by simp)) (by simp)).mono ?_; rintro e w' ⟨rfl, m8, rfl⟩
      go_wp2_with fail
      go_ret
      exact ⟨ret_bool (by simp), by (repeat' (first | (with_reducible assumption) | (with_reducible exact Below.refl _ _) | (with_reducible refine below_drewN ?_ _) | (with_reducible refine Below.drew ?_) | ((with_reducible refine Below.alloc ?_ ?_ _); rotate_left; (first | omega | (simp <;> omega))) | ((with_reducible refine Below.setCell ?_ ?_ _); rotate_left; (first | omega | (simp <;> omega)))))⟩
end Go.Proofs.Ytlofhcooppdkjaa
