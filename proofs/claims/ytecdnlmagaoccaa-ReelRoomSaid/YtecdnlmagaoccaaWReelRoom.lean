/- ReelRoom, walked. -/
import Derived.Test.YtecdnlmagaoccaaReelPv
import Derived.Test.YtecdnlmagaoccaaReelAw
namespace Go.Proofs.Ytecdnlmagaoccaa
open Go.RowKit
set_option linter.unusedVariables false

set_option maxRecDepth 100000 in
set_option maxHeartbeats 8000000 in
theorem reelRoom_walk (room : Int) (la : Option Addr) (len cap : Nat) (w : World) (hr : (Lit.int .i64 room).wf = true) (hl : OkT Try.prog w 6 22 [.slice la len cap]) :
    Calls Try.prog 3 #[.int .i64 room, .slice la len cap] w (RetB (.bool true) w.heap.size w) := by
  obtain ⟨hlc, hcm, ss, hsl, hrd, hss⟩ := okT_strs hl
  clear hl hr
  have H0 := hid (Sat.start w)
  by_cases h1 : room < 0
  · go_enter Try.func3, Try.ntmps3
    go_wp2_with fail
    refine (rawake_sat H0.out).mono ?_; rintro e w1 ⟨rfl, S1⟩
    have H1 := hid S1
    clear S1
    go_wp2_with fail
    refine (rawake_sat H1.out).mono ?_; rintro e w2 ⟨rfl, S2⟩
    have H2 := hid S2
    clear S2
    go_wp2_with fail
    go_ret
    exact ⟨rfl, H2.out.toBelow (Part.le_refl _)⟩
  · by_cases h2 : 300 < room
    · go_enter Try.func3, Try.ntmps3
      go_wp2_with fail
      refine (rawake_sat H0.out).mono ?_; rintro e w1 ⟨rfl, S1⟩
      have H1 := hid S1
      clear S1
      go_wp2_with fail
      refine (rawake_sat H1.out).mono ?_; rintro e w2 ⟨rfl, S2⟩
      have H2 := hid S2
      clear S2
      go_wp2_with fail
      go_ret
      exact ⟨rfl, H2.out.toBelow (Part.le_refl _)⟩
    · have h1' : 0 ≤ room := by omega
      have h2' : room ≤ 300 := by omega
      obtain ⟨N, hN⟩ : ∃ N, min len 30 = N := ⟨_, rfl⟩
      have hN1 : N ≤ len := by omega
      have hN2 : N ≤ 30 := by omega
      have hNe : N = len ∨ N = 30 := by omega
      have HNE := hid hNe
      have HRD := hid hrd
      have HSS := hid hss
      have HSL := hid hsl
      clear hN hrd hss hsl hNe
      go_enter Try.func3, Try.ntmps3
      go_wp2_with fail
      refine (rawake_sat H0.out).mono ?_; rintro e w1 ⟨rfl, S1⟩
      have H1 := hid S1
      clear S1
      go_wp2_with fail
      refine (vnew_eq room (R := room) (by omega) H1.out).mono ?_; rintro e w2 ⟨p, rfl, S2⟩
      have H2 := hid S2
      clear S2
      go_wp2_with fail
      go_loopw [6, 7, 8, 9, 10, 11] (fun used n i _ _ _ wr => ∃ (q : Nat) (bl : List Bk), q ≤ N ∧ bl.length ≤ q ∧ i = .int .i64 (q : Int) ∧ used = .int .i64 ((wsum bl : Nat) : Int) ∧ n = .int .i64 (bl.length : Int) ∧ (wsum bl : Int) ≤ room ∧ tornL bl = false ∧ Sat w (wpart w) [volp p (pv room bl 0 bl.length)] wr) (fun _ _ i _ _ _ _ => N - (intOf i).toNat)
      case atStart => exact ⟨0, [], Nat.zero_le _, Nat.le_refl _, rfl, rfl, rfl, by simpa [wsum] using h1', rfl, H2.out⟩
      case round =>
        clear H2 H1 H0
        obtain ⟨q, bl, hq, hbq, rfl, rfl, rfl, hw, ht, Sr⟩ := hrel
        have HS := hid Sr
        have HT := hid ht
        clear Sr ht
        by_cases hlt : q < N
        · have hq1 : (q : Int) < (len : Int) := by omega
          have hq2 : (q : Int) < 30 := by omega
          have hq0 : (0 : Int) ≤ (q : Int) := by omega
          have hqs : q < ss.length := by have := HSL.out; omega
          obtain ⟨b', off, rfl, c0⟩ := HRD.out.get HS.out q (u := .string ss[q]) (by simp [hqs])
          have hsz := HSS.out ss[q] (List.getElem_mem hqs)
          generalize ss[q] = s at *
          have hvok : (pv room bl 0 bl.length).ok := pv_ok h1' (by omega) hw (Nat.zero_le _) (Nat.le_refl _) (by omega)
          go_wp2_with fail
          refine (cut_sat s 60 (by omega) hsz HS.out).mono ?_; rintro e w4 ⟨rfl, S4⟩
          have H4 := hid S4
          have hz60 := cutSize s 60
          clear S4 HS
          obtain ⟨t, ht⟩ : ∃ t, s.extract 0 60 = t := ⟨_, rfl⟩
          rw [ht] at hz60 ⊢
          clear ht hsz c0
          obtain ⟨b, hb⟩ : ∃ b : Bk, (⟨t, false, false⟩ : Bk) = b := ⟨_, rfl⟩
          have hbw : bwt b = t.size + 4 := by rw [← hb]; rfl
          have hbt : b.torn = false := by rw [← hb]
          have HB := hid hb
          clear hb
          by_cases hfit : ((wsum bl : Nat) : Int) + (t.size : Int) + 4 ≤ room
          · have hA : addS (pv room bl 0 bl.length) ⟨t, false, false⟩ = (0, pv room (bl ++ [b]) 0 (bl.length + 1)) := by rw [HB.out]; exact pv_add (room := room) (sure := 0) b rfl HT.out (by omega : (bwt b : Int) ≤ room - wsum bl)
            have hws : wsum (bl ++ [b]) = wsum bl + (t.size + 4) := by rw [wsum_app, ← hbw]; simp [wsum]
            have HA := hid hA
            have HWS := hid hws
            have HBT := hid hbt
            clear hA hws hbt hbw
            go_wp2_with fail
            refine (vwrite t hvok (by omega) (by show bl.length < 1048576; omega) HA.out H4.out).mono ?_; rintro e w5 ⟨rfl, S5⟩
            have H5 := hid S5
            clear S5 H4
            have hf : decide (((wsum bl : Nat) : Int) + (t.size : Int) + 4 ≤ room) = true := by simpa using hfit
            go_wp2_with fail
            refine (vused_eq (N := ((wsum bl : Nat) : Int) + ((t.size : Int) + 4)) (by show ((wsum (bl ++ [b]) : Nat) : Int) = _; rw [HWS.out]; omega) H5.out).mono ?_; rintro e w6 ⟨rfl, S6⟩
            have H6 := hid S6
            clear S6 H5
            go_wp2_with fail
            refine (vlen_eq (N := (bl.length : Int) + 1) (by show ((bl ++ [b]).length : Int) = _; simp) H6.out).mono ?_; rintro e w7 ⟨rfl, S7⟩
            have H7 := hid S7
            clear S7 H6
            go_wp2_with fail
            go_roundw
            case rel => exact ⟨q + 1, bl ++ [b], by omega, by simp; omega, by go_num, by rw [HWS.out]; go_num, by simp, by rw [HWS.out]; omega, by rw [tornL_app, HBT.out], by simpa using H7.out⟩
            case measure => (simp [intOf] <;> omega)
          · have hA : addS (pv room bl 0 bl.length) ⟨t, false, false⟩ = (7, pv room bl 0 bl.length) := by rw [HB.out]; exact pv_full (room := room) (sure := 0) b rfl HT.out (by omega : ¬ (bwt b : Int) ≤ room - wsum bl)
            have HA := hid hA
            clear hA hbt hbw
            go_wp2_with fail
            refine (vwrite t hvok (by omega) (by show bl.length < 1048576; omega) HA.out H4.out).mono ?_; rintro e w5 ⟨rfl, S5⟩
            have H5 := hid S5
            clear S5 H4
            have hf : decide (((wsum bl : Nat) : Int) + (t.size : Int) + 4 ≤ room) = false := by simpa using hfit
            go_wp2_with fail
            refine (vused_eq (N := ((wsum bl : Nat) : Int)) rfl H5.out).mono ?_; rintro e w6 ⟨rfl, S6⟩
            have H6 := hid S6
            clear S6 H5
            go_wp2_with fail
            refine (vlen_eq (N := (bl.length : Int)) rfl H6.out).mono ?_; rintro e w7 ⟨rfl, S7⟩
            have H7 := hid S7
            clear S7 H6
            go_wp2_with fail
            go_roundw
            case rel => exact ⟨q + 1, bl, by omega, by omega, by go_num, rfl, rfl, hw, HT.out, H7.out⟩
            case measure => (simp [intOf] <;> omega)
        · obtain rfl : q = N := by omega
          rcases HNE.out with hN | hN
          · have hx : ¬ (q : Int) < (len : Int) := by omega
            clear hN
            go_wp2_with fail
            go_ret
            exact ⟨rfl, HS.out.toBelow (Part.le_refl _)⟩
          · have hx : ¬ (q : Int) < 30 := by omega
            clear hN
            by_cases hx2 : (q : Int) < (len : Int)
            all_goals
              go_wp2_with fail
              go_ret
              exact ⟨rfl, HS.out.toBelow (Part.le_refl _)⟩
end Go.Proofs.Ytecdnlmagaoccaa
