/- ReelEnd, walked. -/
import Derived.Test.YtecdnlmagaoccaaReelPv
import Derived.Test.YtecdnlmagaoccaaReelAw
namespace Go.Proofs.Ytecdnlmagaoccaa
open Go.RowKit
set_option linter.unusedVariables false

set_option maxRecDepth 100000 in
set_option maxHeartbeats 8000000 in
theorem reelEnd_walk (la : Option Addr) (len cap : Nat) (at_ : Int) (s : ByteArray) (w : World) (hl : OkT Try.prog w 6 22 [.slice la len cap]) (hr : (Lit.int .i64 at_).wf = true) (hs : s.size ≤ maxLen) :
    Calls Try.prog 4 #[.slice la len cap, .int .i64 at_, .string s] w (RetB (.bool true) w.heap.size w) := by
  obtain ⟨hlc, hcm, ss, hsl, hrd, hss⟩ := okT_strs hl
  have hat := wf_i64 hr
  have hsz2 : s.size ≤ 9223372036854775807 := by unfold maxLen at hs; exact hs
  clear hl hr hs
  have H0 := hid (Sat.start w)
  obtain ⟨N, hN⟩ : ∃ N, min len 8 = N := ⟨_, rfl⟩
  have hN1 : N ≤ len := by omega
  have hN2 : N ≤ 8 := by omega
  have hNI : min (len : Int) 8 = (N : Int) := by omega
  have HNI := hid hNI
  have HRD := hid hrd
  have HSS := hid hss
  have HSL := hid hsl
  clear hN hrd hss hsl hNI
  go_enter Try.func4, Try.ntmps4
  go_wp2_with fail
  refine (vnew_eq 100000 (R := 100000) (by decide) H0.out).mono ?_; rintro e w1 ⟨p, rfl, S1⟩
  have H1 := hid S1
  clear S1
  go_wp2_with fail
  refine (rawake_sat H1.out).mono ?_; rintro e w2 ⟨rfl, S2⟩
  have H2 := hid S2
  clear S2
  go_wp2_with (refine wpList_min (o := ⟨some 21, _, _, _, _, _⟩) rfl rfl rfl rfl HNI.out ?_)
  go_loopw [9] (fun i wr => ∃ (bl : List Bk), bl.length ≤ N ∧ i = .int .i64 (bl.length : Int) ∧ wsum bl ≤ 34 * bl.length ∧ tornL bl = false ∧ Sat w (wpart w) [volp p (pv 100000 bl 0 bl.length)] wr) (fun i _ => N - (intOf i).toNat)
  case atStart => exact ⟨[], Nat.zero_le _, rfl, by simp [wsum], rfl, H2.out⟩
  case round =>
    clear H2 H1 H0
    obtain ⟨bl, hq, rfl, hw, ht, Sr⟩ := hrel
    have HS := hid Sr
    have HT := hid ht
    clear Sr ht
    by_cases hlt : bl.length < N
    · have hq1 : (bl.length : Int) < (len : Int) := by omega
      have hq0 : (0 : Int) ≤ (bl.length : Int) := by omega
      have hqs : bl.length < ss.length := by have := HSL.out; omega
      obtain ⟨b', off, rfl, c0⟩ := HRD.out.get HS.out bl.length (u := .string ss[bl.length]) (by simp [hqs])
      have hsz := HSS.out ss[bl.length] (List.getElem_mem hqs)
      generalize ss[bl.length] = s0 at *
      have hvok : (pv 100000 bl 0 bl.length).ok := pv_ok (by omega) (by omega) (by omega) (Nat.zero_le _) (Nat.le_refl _) (by omega)
      go_wp2_with fail
      refine (cut_sat s0 30 (by omega) hsz HS.out).mono ?_; rintro e w4 ⟨rfl, S4⟩
      have H4 := hid S4
      have hz30 := cutSize s0 30
      clear S4 HS
      obtain ⟨t, ht⟩ : ∃ t, s0.extract 0 30 = t := ⟨_, rfl⟩
      rw [ht] at hz30 ⊢
      clear ht hsz c0
      have hA : addS (pv 100000 bl 0 bl.length) ⟨t, false, false⟩ = (0, pv 100000 (bl ++ [⟨t, false, false⟩]) 0 (bl.length + 1)) := pv_add _ rfl HT.out (by show (((t.size + 4 : Nat)) : Int) ≤ _; omega)
      have hws : wsum (bl ++ [⟨t, false, false⟩]) = wsum bl + (t.size + 4) := by rw [wsum_app]; rfl
      have HA := hid hA
      have HWS := hid hws
      clear hA hws
      go_wp2_with fail
      refine (vwrite t hvok (by omega) (by show bl.length < 1048576; omega) HA.out H4.out).mono ?_; rintro e w5 ⟨rfl, S5⟩
      have H5 := hid S5
      clear S5 H4
      go_wp2_with fail
      go_roundw
      case rel => exact ⟨bl ++ [⟨t, false, false⟩], by simp; omega, by simp, by rw [HWS.out]; simp; omega, by rw [tornL_app], by simpa using H5.out⟩
      case measure => (simp [intOf] <;> omega)
    · obtain rfl : N = bl.length := by omega
      have hvok : (pv 100000 bl 0 bl.length).ok := pv_ok (by omega) (by omega) (by omega) (Nat.zero_le _) (Nat.le_refl _) (by omega)
      have H3 := HS
      clear HS hlt HRD HSS HSL hq hN1 hlc
      by_cases h1 : at_ < 0
      · go_wp2_with fail
        refine (vseek _ hvok (pv_seekNo at_ (by omega)) H3.out).mono ?_; rintro e w4 ⟨rfl, S4⟩
        have H4 := hid S4
        clear S4
        go_wp2_with fail
        refine (vat_eq (N := (bl.length : Int)) rfl H4.out).mono ?_; rintro e w5 ⟨rfl, S5⟩
        have H5 := hid S5
        clear S5
        go_wp2_with fail
        go_ret
        exact ⟨by simp, H5.out.toBelow (Part.le_refl _)⟩
      · by_cases h2 : (bl.length : Int) < at_
        · go_wp2_with fail
          refine (vseek _ hvok (pv_seekNo at_ (by omega)) H3.out).mono ?_; rintro e w4 ⟨rfl, S4⟩
          have H4 := hid S4
          clear S4
          go_wp2_with fail
          refine (vat_eq (N := (bl.length : Int)) rfl H4.out).mono ?_; rintro e w5 ⟨rfl, S5⟩
          have H5 := hid S5
          clear S5
          go_wp2_with fail
          go_ret
          exact ⟨by simp, H5.out.toBelow (Part.le_refl _)⟩
        · obtain ⟨k, rfl⟩ := Int.eq_ofNat_of_zero_le (by omega : 0 ≤ at_)
          have hkb : k ≤ bl.length := by omega
          by_cases h3 : k < bl.length
          · have hd : decide (k < bl.length) = true := by simpa using h3
            go_wp2_with fail
            refine (vused H3.out).mono ?_; rintro e w4 ⟨rfl, S4⟩
            have H4 := hid S4
            clear S4 H3
            have hu : (((wsum (pv 100000 bl 0 bl.length).bl) : Nat) : Int) = ((wsum bl : Nat) : Int) := rfl
            rw [hu]
            clear hu
            go_wp2_with fail
            refine (vseek _ hvok (pv_seek k hkb) H4.out).mono ?_; rintro e w5 ⟨rfl, S5⟩
            have H5 := hid S5
            clear S5 H4
            go_wp2_with fail
            refine (cut_sat s 30 (by omega) hsz2 H5.out).mono ?_; rintro e w6 ⟨rfl, S6⟩
            have H6 := hid S6
            have hz30 := cutSize s 30
            clear S6 H5
            obtain ⟨t, ht⟩ : ∃ t, s.extract 0 30 = t := ⟨_, rfl⟩
            rw [ht] at hz30 ⊢
            clear ht hsz2
            have hvok2 : (pv 100000 bl 0 k).ok := pv_ok (by omega) (by omega) (by omega) (Nat.zero_le _) (by omega) (by omega)
            go_wp2_with fail
            refine (vwrite t hvok2 (by omega) (by show bl.length < 1048576; omega) (pv_order ⟨t, false, false⟩ (by omega)) H6.out).mono ?_; rintro e w7 ⟨rfl, S7⟩
            have H7 := hid S7
            clear S7
            go_wp2_with fail
            refine (vlen_eq (N := (bl.length : Int)) rfl H7.out).mono ?_; rintro e w8 ⟨rfl, S8⟩
            have H8 := hid S8
            clear S8
            go_wp2_with fail
            refine (vused_eq (N := ((wsum bl : Nat) : Int)) rfl H8.out).mono ?_; rintro e w9 ⟨rfl, S9⟩
            have H9 := hid S9
            clear S9
            go_wp2_with fail
            go_ret
            exact ⟨by simp, H9.out.toBelow (Part.le_refl _)⟩
          · obtain rfl : k = bl.length := by omega
            go_wp2_with fail
            refine (vused H3.out).mono ?_; rintro e w4 ⟨rfl, S4⟩
            have H4 := hid S4
            clear S4 H3
            have hu : (((wsum (pv 100000 bl 0 bl.length).bl) : Nat) : Int) = ((wsum bl : Nat) : Int) := rfl
            rw [hu]
            clear hu
            go_wp2_with fail
            refine (vseek _ hvok (pv_seek bl.length (Nat.le_refl _)) H4.out).mono ?_; rintro e w5 ⟨rfl, S5⟩
            have H5 := hid S5
            clear S5 H4
            go_wp2_with fail
            refine (cut_sat s 30 (by omega) hsz2 H5.out).mono ?_; rintro e w6 ⟨rfl, S6⟩
            have H6 := hid S6
            have hz30 := cutSize s 30
            clear S6 H5
            obtain ⟨t, ht⟩ : ∃ t, s.extract 0 30 = t := ⟨_, rfl⟩
            rw [ht] at hz30 ⊢
            clear ht hsz2
            have hA : addS (pv 100000 bl 0 bl.length) ⟨t, false, false⟩ = (0, pv 100000 (bl ++ [⟨t, false, false⟩]) 0 (bl.length + 1)) := pv_add _ rfl HT.out (by show (((t.size + 4 : Nat)) : Int) ≤ _; omega)
            have hws : wsum (bl ++ [⟨t, false, false⟩]) = wsum bl + (t.size + 4) := by rw [wsum_app]; rfl
            have HA := hid hA
            have HWS := hid hws
            clear hA hws
            go_wp2_with fail
            refine (vwrite t hvok (by omega) (by show bl.length < 1048576; omega) HA.out H6.out).mono ?_; rintro e w7 ⟨rfl, S7⟩
            have H7 := hid S7
            clear S7
            go_wp2_with fail
            refine (vlen_eq (N := (bl.length : Int) + 1) (by show ((bl ++ [_]).length : Int) = _; simp) H7.out).mono ?_; rintro e w8 ⟨rfl, S8⟩
            have H8 := hid S8
            clear S8
            go_wp2_with fail
            go_ret
            exact ⟨by simp, H8.out.toBelow (Part.le_refl _)⟩
end Go.Proofs.Ytecdnlmagaoccaa
