/- ReelTorn, walked. -/
import Derived.Test.YtecdnlmagaoccaaReelSt
import Derived.Test.YtecdnlmagaoccaaReelAw
import Derived.Deep.CutBlock
import Derived.Deep.DeepCutAuto
namespace Go.Proofs.Ytecdnlmagaoccaa
open Go.RowKit
set_option linter.unusedVariables false

theorem Sat.sizeEx {w0 w : World} {I : Part} {L : List HP} (h : Sat w0 I L w) : ∃ g, w.heap.size = g := ⟨_, rfl⟩
def c30 (s : ByteArray) : ByteArray := s.extract 0 30
theorem strs_take {I : Part} {la : Option Addr} {C : List ByteArray} (h : Rd I la (C.map Value.string)) (k : Nat) : Rd I la ((C.take k).map Value.string) := by
  rw [List.map_take]; exact h.take k
set_option maxRecDepth 100000 in
set_option maxHeartbeats 16000000 in
theorem reelTorn_walk (l1 : Option Addr) (n1 k1 : Nat) (l2 : Option Addr) (n2 k2 : Nat) (keep part : Int) (w : World) (h1 : OkT Try.prog w 6 22 [.slice l1 n1 k1]) (h2 : OkT Try.prog w 6 22 [.slice l2 n2 k2]) (hr : (Lit.int .i64 keep).wf = true) (hr2 : (Lit.int .i64 part).wf = true) :
    Calls Try.prog 5 #[.slice l1 n1 k1, .slice l2 n2 k2, .int .i64 keep, .int .i64 part] w (RetB (.bool true) w.heap.size w) := by
  obtain ⟨hlc1, hcm1, s1, hsl1, hrd1, hss1⟩ := okT_strs h1
  obtain ⟨hlc2, hcm2, s2, hsl2, hrd2, hss2⟩ := okT_strs h2
  have hk := wf_i64 hr
  have hp := wf_i64 hr2
  clear h1 h2 hr hr2
  have H0 := hid (Sat.start w)
  obtain ⟨N, hN⟩ : ∃ N, min n1 5 = N := ⟨_, rfl⟩
  obtain ⟨M, hM⟩ : ∃ M, min n2 5 = M := ⟨_, rfl⟩
  have hN1 : N ≤ n1 := by omega
  have hN2 : N ≤ 5 := by omega
  have hM1 : M ≤ n2 := by omega
  have hM2 : M ≤ 5 := by omega
  have HNE := hid (show N = n1 ∨ (N = 5 ∧ N < n1) by omega)
  have HME := hid (show M = n2 ∨ (M = 5 ∧ M < n2) by omega)
  obtain ⟨C, hC⟩ : ∃ C, (s1.take N).map c30 ++ (s2.take M).map c30 = C := ⟨_, rfl⟩
  have hCl : C.length = N + M := by rw [← hC]; simp; omega
  have hC30 : ∀ s ∈ C, s.size ≤ 30 := fun s hs => by
    rw [← hC] at hs
    rcases List.mem_append.1 hs with hs | hs <;> (obtain ⟨x, _, rfl⟩ := List.mem_map.1 hs; exact cutSize x 30)
  have hel1 : ∀ q (h : q < N), ∃ (h1 : q < s1.length) (h2 : q < C.length), s1[q].size ≤ 9223372036854775807 ∧ s1[q].extract 0 30 = C[q] := fun q h => by
    refine ⟨by omega, by omega, hss1 _ (List.getElem_mem _), ?_⟩
    subst hC
    rw [List.getElem_append_left (by simp; omega)]
    simp [c30]
  have hel2 : ∀ q (h : q < M), ∃ (h1 : q < s2.length) (h2 : N + q < C.length), s2[q].size ≤ 9223372036854775807 ∧ s2[q].extract 0 30 = C[N + q] := fun q h => by
    refine ⟨by omega, by omega, hss2 _ (List.getElem_mem _), ?_⟩
    subst hC
    have hl : ((s1.take N).map c30).length = N := by simp; omega
    rw [List.getElem_append_right (by omega)]
    simp [c30, Nat.min_eq_left (show N ≤ s1.length by omega)]
  have HRD1 := hid hrd1
  have HRD2 := hid hrd2
  have HE1 := hid hel1
  have HE2 := hid hel2
  have HCL := hid hCl
  have HC30 := hid hC30
  clear hN hM hrd1 hrd2 hss1 hss2 hsl1 hsl2 hC hCl hC30 hel1 hel2
  go_enter Try.func5, Try.ntmps5
  go_wp2_with fail
  refine (vnew_eq 100000 (R := 100000) (by decide) H0.out).mono ?_; rintro e w1 ⟨p, rfl, S1⟩
  have H1 := hid S1
  clear S1
  go_wp2_with fail
  refine (rawake_sat H1.out).mono ?_; rintro e w2 ⟨rfl, S2⟩
  have H2 := hid S2
  clear S2
  go_upto_block 0 with fail
  obtain ⟨g, hg⟩ : ∃ g, w2.heap.size = g := ⟨_, rfl⟩
  have S3 : Sat w (wpart w) (blk g 9 [] :: volp p (pv 100000 [] 0 0) :: []) _ := H2.out.alloc rfl hg.symm
  have H3 := hid (S3.emptyRow 1)
  rw [hg]
  clear S3 H2 H1 H0 hg
  go_cut [10] (fun tv wx => Sat w (wpart w) [row 9 1 tv N ((C.map Value.string).take N), volp p (pv 100000 [] 0 0)] wx)
  case first =>
    go_wp2_with fail
    go_loopw [10, 11] (fun tv i wr => ∃ (q : Nat), q ≤ N ∧ i = .int .i64 (q : Int) ∧ Sat w (wpart w) [row 9 1 tv q ((C.map Value.string).take q), volp p (pv 100000 [] 0 0)] wr) (fun _ i _ => N - (intOf i).toNat)
    case atStart => exact ⟨0, Nat.zero_le _, rfl, by simpa using H3.out⟩
    case round =>
      clear H3
      obtain ⟨q, hq, rfl, Sr⟩ := hrel
      have HS := hid Sr
      clear Sr
      by_cases hlt : q < N
      · obtain ⟨hqs, hqC, hel⟩ := HE1.out q hlt
        obtain ⟨b', off, rfl, c0⟩ := HRD1.out.get HS.out q (u := .string s1[q]) (by simp [hqs])
        have hq1 : (q : Int) < (n1 : Int) := by omega
        have hq2 : (q : Int) < 5 := by omega
        have hq0 : (0 : Int) ≤ (q : Int) := by omega
        have htk : (C.map Value.string).take (q + 1) = (C.map Value.string).take q ++ [.string C[q]] := by rw [List.take_succ_eq_append_getElem (by simpa using hqC), List.getElem_map]
        have HTK := hid htk
        clear htk
        generalize s1[q] = s at *
        generalize C[q] = t at *
        obtain ⟨hsm, hcq⟩ := hel
        go_wp2_with fail
        refine (cut_sat s 30 (by omega) hsm HS.out).mono ?_; rintro e w6 ⟨rfl, S6⟩
        have H6 := hid S6
        clear S6 HS c0
        rw [hcq]
        clear hcq hsm
        go_wp2_with (at_builtin; refine wpList_appS slStr rfl _ _ rfl H6.out [.string t] rfl rfl rfl rfl ?h1 ?hb ?hn ?_)
        case h1 => intro u hu; simp at hu; subst hu; rfl
        case hb => omega
        case hn => omega
        intro ad cap w7 hc1 hc2 S7
        have H7 := hid S7
        clear S7 H6
        go_wp2_with fail
        go_roundw
        case rel => exact ⟨q + 1, by omega, by go_num, by rw [HTK.out]; exact H7.out⟩
        case measure => (simp [intOf] <;> omega)
      · obtain rfl : N = q := by omega
        have hx : ¬ (N : Int) < (n1 : Int) ∨ (¬ (N : Int) < 5 ∧ (N : Int) < (n1 : Int)) := by have := HNE.out; omega
        rcases hx with hx | ⟨hx, hx2⟩
        all_goals
          go_wp2_with fail
          go_meet
          exact HS.out
  case rest =>
    have HS := hid hcut
    clear hcut H3
    obtain ⟨ad1, cp1, hv1, k11, k12⟩ := own_shape HS.out.isRow
    subst hv1
    go_upto_block 2 with fail
    go_cut [10] (fun tv wx => Sat w (wpart w) [row 9 1 tv (N + M) ((C.map Value.string).take (N + M)), volp p (pv 100000 [] 0 0)] wx)
    case first =>
      go_wp2_with fail
      go_loopw [10, 13] (fun tv i wr => ∃ (q : Nat), q ≤ M ∧ i = .int .i64 (q : Int) ∧ Sat w (wpart w) [row 9 1 tv (N + q) ((C.map Value.string).take (N + q)), volp p (pv 100000 [] 0 0)] wr) (fun _ i _ => M - (intOf i).toNat)
      case atStart => exact ⟨0, Nat.zero_le _, rfl, HS.out⟩
      case round =>
        clear HS
        obtain ⟨q, hq, rfl, Sr⟩ := hrel
        have HS := hid Sr
        clear Sr
        by_cases hlt : q < M
        · obtain ⟨hqs, hqC, hel⟩ := HE2.out q hlt
          obtain ⟨b', off, rfl, c0⟩ := HRD2.out.get HS.out q (u := .string s2[q]) (by simp [hqs])
          have hq1 : (q : Int) < (n2 : Int) := by omega
          have hq2 : (q : Int) < 5 := by omega
          have hq0 : (0 : Int) ≤ (q : Int) := by omega
          have htk : (C.map Value.string).take (N + (q + 1)) = (C.map Value.string).take (N + q) ++ [.string C[N + q]] := by rw [← Nat.add_assoc, List.take_succ_eq_append_getElem (by simpa using hqC), List.getElem_map]
          have HTK := hid htk
          clear htk
          generalize s2[q] = s at *
          generalize C[N + q] = t at *
          obtain ⟨hsm, hcq⟩ := hel
          go_wp2_with fail
          refine (cut_sat s 30 (by omega) hsm HS.out).mono ?_; rintro e w6 ⟨rfl, S6⟩
          have H6 := hid S6
          clear S6 HS c0
          rw [hcq]
          clear hcq hsm
          go_wp2_with (at_builtin; refine wpList_appS slStr rfl _ _ rfl H6.out [.string t] rfl rfl rfl rfl ?h1 ?hb ?hn ?_)
          case h1 => intro u hu; simp at hu; subst hu; rfl
          case hb => omega
          case hn => omega
          intro ad cap w7 hc1 hc2 S7
          have H7 := hid S7
          clear S7 H6
          go_wp2_with fail
          go_roundw
          case rel => exact ⟨q + 1, by omega, by go_num, by rw [HTK.out]; exact H7.out⟩
          case measure => (simp [intOf] <;> omega)
        · obtain rfl : M = q := by omega
          have hx : ¬ (M : Int) < (n2 : Int) ∨ (¬ (M : Int) < 5 ∧ (M : Int) < (n2 : Int)) := by have := HME.out; omega
          rcases hx with hx | ⟨hx, hx2⟩
          all_goals
            go_wp2_with fail
            go_meet
            exact HS.out
    case rest =>
      have HS2 := hid hcut
      clear hcut HS
      obtain ⟨J, ad, cp, hJ, S8, hval, hcp1, hcp2, _, hrdC⟩ := HS2.out.freezeRow
      subst hval
      unfold maxLen at hcp2
      rw [← HCL.out, List.take_of_length_le (by simp)] at hrdC
      have hCN : N + M = C.length := HCL.out.symm
      rw [hCN] at hcp1 ⊢
      have H8 := hid S8
      have HRDC := hid hrdC
      have HCN := hid hCN
      have hCb : C.length ≤ 10 := by omega
      have hNC : N ≤ C.length := by omega
      clear S8 hrdC HS2 hCN HCL
      have hcpI : (C.length : Int) ≤ (cp : Int) := by omega
      go_wp2_with fail
      go_loopw [14, 15, 67] (fun _ _ i wr => ∃ (q : Nat), q ≤ C.length ∧ i = .int .i64 (q : Int) ∧ Sat w J [volp p (pv 100000 (bks (C.take q)) (if N < q then N else 0) q)] wr) (fun _ _ i _ => C.length - (intOf i).toNat)
      case atStart => exact ⟨0, Nat.zero_le _, rfl, by simpa [bks] using H8.out⟩
      case round =>
        clear H8
        obtain ⟨q, hq, rfl, Sr⟩ := hrel
        by_cases hlt : q < C.length
        · obtain ⟨b3, off3, rfl, c3⟩ := HRDC.out.get Sr q (u := .string C[q]) (by simp [hlt])
          have ht30 := HC30.out C[q] (List.getElem_mem hlt)
          have hbk : bks (C.take (q + 1)) = bks (C.take q) ++ [⟨C[q], false, false⟩] := by rw [List.take_succ_eq_append_getElem hlt, bks_app]; rfl
          have hbl : (bks (C.take q)).length = q := by rw [bks_len, List.length_take]; omega
          have hws := bks_wsum (C.take q) (fun s hs => HC30.out s (List.mem_of_mem_take hs))
          rw [List.length_take] at hws
          have htn := bks_torn (C.take q)
          generalize C[q] = t at *
          generalize bks (C.take q) = bl at *
          have hq1 : (q : Int) < (C.length : Int) := by omega
          have hq0 : (0 : Int) ≤ (q : Int) := by omega
          have hadd : ∀ su, addS (pv 100000 bl su q) ⟨t, false, false⟩ = (0, pv 100000 (bl ++ [⟨t, false, false⟩]) su (q + 1)) := fun su => by
            have := pv_add (room := 100000) (bl := bl) (sure := su) (at_ := q) ⟨t, false, false⟩ hbl.symm htn (by show ((t.size + 4 : Nat) : Int) ≤ _; omega)
            rw [hbl] at this; exact this
          have hok : ∀ su, su ≤ q → (pv 100000 bl su q).ok := fun su hsu => pv_ok (by omega) (by omega) (by omega) (by omega) (by omega) (by omega)
          have hbq : bl.length < 1048576 := by omega
          have HOK := hid hok
          have HADD := hid hadd
          have HBK := hid hbk
          have HBL := hid hbl
          clear hadd hok hbk hbl hws htn
          by_cases hqN : q = N
          · have hqe : ((q : Int) == (N : Int)) = true := by simp [hqN]
            rw [if_neg (by omega)] at Sr
            have HS := hid Sr
            have HQN := hid hqN
            clear Sr hqN
            go_wp2_with fail
            refine (vflush_eq (HOK.out 0 (Nat.zero_le _)) (pv_flushE _ _ _ _) (pv_flushV _ _ _ _) HS.out).mono ?_; rintro e w4 ⟨rfl, S4⟩
            rw [HBL.out] at S4
            have H4 := hid S4
            clear S4 HS
            go_wp2_with fail
            refine (vwrite t (HOK.out q (Nat.le_refl _)) (by omega) (by exact hbq) (HADD.out q) H4.out).mono ?_; rintro e w5 ⟨rfl, S5⟩
            have H5 := hid S5
            clear S5 H4
            go_wp2_with fail
            go_roundw
            case rel => exact ⟨q + 1, by omega, by go_num, by rw [HBK.out, if_pos (by have := HQN.out; omega)]; have h := H5.out; have e := HQN.out; rw [← e]; exact h⟩
            case measure => (simp [intOf] <;> omega)
          · have hqe : ((q : Int) == (N : Int)) = false := by simp; omega
            have hif : (if N < q + 1 then N else 0) = (if N < q then N else 0) := by
              by_cases h : N < q
              · rw [if_pos h, if_pos (by omega)]
              · rw [if_neg h, if_neg (by omega)]
            have hle : (if N < q then N else 0) ≤ q := by split <;> omega
            generalize (if N < q then N else 0) = su at *
            have HIF := hid hif
            have HS := hid Sr
            clear Sr hqN hif
            go_wp2_with fail
            refine (vwrite t (HOK.out su hle) (by omega) (by exact hbq) (HADD.out su) HS.out).mono ?_; rintro e w5 ⟨rfl, S5⟩
            have H5 := hid S5
            clear S5 HS
            go_wp2_with fail
            go_roundw
            case rel => exact ⟨q + 1, by omega, by go_num, by rw [HBK.out, HIF.out]; exact H5.out⟩
            case measure => (simp [intOf] <;> omega)
        · obtain rfl : q = C.length := by omega
          rw [List.take_length] at Sr
          have hws := bks_wsum C HC30.out
          have hok : ∀ su a, su ≤ C.length → a ≤ C.length → (pv 100000 (bks C) su a).ok := fun su a h1 h2 => pv_ok (by omega) (by omega) (by omega) (by rw [bks_len]; exact h1) (by rw [bks_len]; exact h2) (by rw [bks_len]; omega)
          have HOK := hid hok
          clear hok hws
          by_cases hNe : N < C.length
          · have hne : ((C.length : Int) == (N : Int)) = false := by simp; omega
            rw [if_pos hNe] at Sr
            have H20 := hid Sr
            clear Sr
            go_wp2_with fail
            obtain ⟨g, hg⟩ := H20.out.sizeEx
            have S21 : Sat w J (blk g 3 [.int .i64 keep, .int .i64 part] :: volp p (pv 100000 (bks C) N C.length) :: []) _ := H20.out.alloc rfl hg.symm
            rw [hg]
            clear hg
            obtain ⟨J2, hJ2, S22, hrd⟩ := S21.freezeBlk
            have H22 := hid S22
            have HRDK := hid (show Rd J2 (some ⟨g, 0, none⟩) ([keep, part].map (Value.int .i64)) from hrd)
            have hkb : ∀ z ∈ [keep, part], -9223372036854775808 ≤ z ∧ z ≤ 9223372036854775807 := fun z hz => by simp at hz; rcases hz with rfl | rfl <;> omega
            have HKB := hid hkb
            have HRDC2 := hid (HRDC.out.mono hJ2)
            have hJJ := Part.le_trans hJ hJ2
            clear S21 S22 hrd H20 hkb hJ2
            have hvo := HOK.out N C.length hNC (Nat.le_refl _)
            obtain ⟨k, E, hk1, hk2, hk3, hE, htr⟩ := pv_torn [keep, part] hvo
            have HTR := hid htr
            have HCO := hid (crashV_ok hvo [keep, part])
            have hks : 0 ≤ keep → keep ≤ (C.length : Int) - (N : Int) → (k : Int) = (N : Int) + keep := fun h1 h2 => by
              have := pick_small keep [part] (C.length - N) h1 (by omega)
              rw [show ((C.length - N : Nat) : Int) = (C.length : Int) - (N : Int) by omega] at this
              rw [hk3, this]
            have HKS := hid hks
            clear htr hks hk3 hne hNe
            refine (vcrash (some ⟨g, 0, none⟩) 2 2 [keep, part] rfl (by decide) HRDK.out HKB.out hvo rfl H22.out).mono ?_; rintro e w9 ⟨rfl, S9⟩
            have H9 := hid S9
            clear S9 H22 hvo
            go_wp2_with fail
            refine (vtrim HCO.out HTR.out H9.out).mono ?_; rintro e w10 ⟨rfl, S10⟩
            have H10 := hid S10
            clear S10 H9
            have hkl : (bks (C.take k)).length = k := by rw [bks_len, List.length_take]; omega
            have hgot : gotB (bks (C.take k)) = C.take k := by have := gotB_bks (C.take k) []; simpa [gotB] using this
            have hwk := bks_wsum (C.take k) (fun s hs => HC30.out s (List.mem_of_mem_take hs))
            rw [List.length_take] at hwk
            have hok2 : ∀ a, a ≤ (bks (C.take k)).length → (pv 100000 (bks (C.take k)) k a).ok := fun a ha => pv_ok (by omega) (by omega) (by omega) (by omega) ha (by omega)
            have hbl := blocks_sat (sure := k) (a0 := 0) hok2 (by omega) (Nat.zero_le _) H10.out
            rw [hgot] at hbl
            rw [show (C.take k).length = k by rw [List.length_take]; omega] at hbl
            have HBLK := hid hbl
            have HKL := hid hkl
            clear hbl hok2 hgot hwk hkl H10
            go_upto_region 24 with fail
            go_cut [108] (fun c wx => c = .bool false ∧ wx = w10)
            case first =>
              rcases hE with rfl | rfl
              all_goals
                go_wp2_with fail
                go_meet
                exact ⟨rfl, rfl⟩
            case rest =>
              obtain ⟨rfl, rfl⟩ := hcut
              clear hE
              go_wp2_with fail
              refine HBLK.out.mono ?_; rintro e w11 ⟨J3, ad3, cp3, rfl, hc31, hc32, hJ3, hrd3, S11⟩
              have H11 := hid S11
              have HR3 := hid hrd3
              have HC3 := hid (HRDC2.out.mono hJ3)
              have hJJ3 := Part.le_trans hJJ hJ3
              clear S11 hrd3 HBLK
              have hd1 : decide (k < N) = false := by simp; omega
              have hd2 : decide (C.length < k) = false := by simp; omega
              have hcp3I : (k : Int) ≤ (cp3 : Int) := by omega
              go_upto_region 27 with fail
              go_cut [141] (fun c wx => c = .bool false ∧ wx = w11)
              case first =>
                by_cases hp1 : 0 ≤ keep
                · by_cases hp2 : keep ≤ (C.length : Int) - (N : Int)
                  · have hkk := HKS.out hp1 hp2
                    have hkk1 : ((k : Int) != (N : Int) + keep) = false := by rw [hkk]; simp
                    have HKK := hid hkk
                    clear hkk
                    go_wp2_with fail
                    go_meet
                    exact ⟨rfl, rfl⟩
                  · go_wp2_with fail
                    go_meet
                    exact ⟨rfl, rfl⟩
                · go_wp2_with fail
                  go_meet
                  exact ⟨rfl, rfl⟩
              case rest =>
                obtain ⟨rfl, rfl⟩ := hcut
                go_wp2_with fail
                go_loopw [18, 144] (fun _ i wr => ∃ (q : Nat), q ≤ k ∧ i = .int .i64 (q : Int) ∧ Sat w J3 [volp p (pv 100000 (bks (C.take k)) k k)] wr) (fun _ i _ => k - (intOf i).toNat)
                case atStart => exact ⟨0, Nat.zero_le _, rfl, H11.out⟩
                case round =>
                  clear H11
                  obtain ⟨q, hq, rfl, Sr⟩ := hrel
                  by_cases hlt : q < k
                  · obtain ⟨b5, off5, rfl, c5⟩ := HR3.out.get Sr q (u := .string C[q]) (by simp [hlt])
                    obtain ⟨b6, off6, rfl, c6⟩ := HC3.out.get Sr q (u := .string C[q]) (by simp)
                    have H12 := hid Sr
                    clear Sr
                    have hq1 : (q : Int) < (k : Int) := by omega
                    have hq2 : (q : Int) < (C.length : Int) := by omega
                    have hq0 : (0 : Int) ≤ (q : Int) := by omega
                    generalize C[q] = t at *
                    go_wp2_with fail
                    go_quiet (fail)
                    go_wp2_with fail
                    go_roundw
                    case rel => exact ⟨q + 1, by omega, by go_num, H12.out.drewN _⟩
                    case measure => (simp [intOf] <;> omega)
                  · obtain rfl : q = k := by omega
                    have H12 := hid Sr
                    clear Sr
                    go_wp2_with fail
                    refine (vlen_eq (N := (q : Int)) (by show ((bks (C.take q)).length : Int) = _; rw [HKL.out]) H12.out).mono ?_; rintro e w12 ⟨rfl, S12⟩
                    have H13 := hid S12
                    clear S12 H12
                    go_wp2_with fail
                    go_ret
                    exact ⟨by simp, H13.out.toBelow hJJ3⟩
          · have hne : ((C.length : Int) == (N : Int)) = true := by simp; omega
            rw [if_neg hNe] at Sr
            have H19 := hid Sr
            clear Sr
            go_wp2_with fail
            refine (vflush_eq (HOK.out 0 _ (Nat.zero_le _) (Nat.le_refl _)) (pv_flushE _ _ _ _) (pv_flushV _ _ _ _) H19.out).mono ?_; rintro e w4 ⟨rfl, S4⟩
            rw [bks_len, show C.length = N by omega] at S4
            have H20 := hid (show Sat w J [volp p (pv 100000 (bks C) N C.length)] w4 by rw [show C.length = N by omega]; exact S4)
            clear S4 H19
            go_wp2_with fail
            obtain ⟨g, hg⟩ := H20.out.sizeEx
            have S21 : Sat w J (blk g 3 [.int .i64 keep, .int .i64 part] :: volp p (pv 100000 (bks C) N C.length) :: []) _ := H20.out.alloc rfl hg.symm
            rw [hg]
            clear hg
            obtain ⟨J2, hJ2, S22, hrd⟩ := S21.freezeBlk
            have H22 := hid S22
            have HRDK := hid (show Rd J2 (some ⟨g, 0, none⟩) ([keep, part].map (Value.int .i64)) from hrd)
            have hkb : ∀ z ∈ [keep, part], -9223372036854775808 ≤ z ∧ z ≤ 9223372036854775807 := fun z hz => by simp at hz; rcases hz with rfl | rfl <;> omega
            have HKB := hid hkb
            have HRDC2 := hid (HRDC.out.mono hJ2)
            have hJJ := Part.le_trans hJ hJ2
            clear S21 S22 hrd H20 hkb hJ2
            have hvo := HOK.out N C.length hNC (Nat.le_refl _)
            obtain ⟨k, E, hk1, hk2, hk3, hE, htr⟩ := pv_torn [keep, part] hvo
            have HTR := hid htr
            have HCO := hid (crashV_ok hvo [keep, part])
            have hks : 0 ≤ keep → keep ≤ (C.length : Int) - (N : Int) → (k : Int) = (N : Int) + keep := fun h1 h2 => by
              have := pick_small keep [part] (C.length - N) h1 (by omega)
              rw [show ((C.length - N : Nat) : Int) = (C.length : Int) - (N : Int) by omega] at this
              rw [hk3, this]
            have HKS := hid hks
            clear htr hks hk3 hne hNe
            refine (vcrash (some ⟨g, 0, none⟩) 2 2 [keep, part] rfl (by decide) HRDK.out HKB.out hvo rfl H22.out).mono ?_; rintro e w9 ⟨rfl, S9⟩
            have H9 := hid S9
            clear S9 H22 hvo
            go_wp2_with fail
            refine (vtrim HCO.out HTR.out H9.out).mono ?_; rintro e w10 ⟨rfl, S10⟩
            have H10 := hid S10
            clear S10 H9
            have hkl : (bks (C.take k)).length = k := by rw [bks_len, List.length_take]; omega
            have hgot : gotB (bks (C.take k)) = C.take k := by have := gotB_bks (C.take k) []; simpa [gotB] using this
            have hwk := bks_wsum (C.take k) (fun s hs => HC30.out s (List.mem_of_mem_take hs))
            rw [List.length_take] at hwk
            have hok2 : ∀ a, a ≤ (bks (C.take k)).length → (pv 100000 (bks (C.take k)) k a).ok := fun a ha => pv_ok (by omega) (by omega) (by omega) (by omega) ha (by omega)
            have hbl := blocks_sat (sure := k) (a0 := 0) hok2 (by omega) (Nat.zero_le _) H10.out
            rw [hgot] at hbl
            rw [show (C.take k).length = k by rw [List.length_take]; omega] at hbl
            have HBLK := hid hbl
            have HKL := hid hkl
            clear hbl hok2 hgot hwk hkl H10
            go_upto_region 24 with fail
            go_cut [108] (fun c wx => c = .bool false ∧ wx = w10)
            case first =>
              rcases hE with rfl | rfl
              all_goals
                go_wp2_with fail
                go_meet
                exact ⟨rfl, rfl⟩
            case rest =>
              obtain ⟨rfl, rfl⟩ := hcut
              clear hE
              go_wp2_with fail
              refine HBLK.out.mono ?_; rintro e w11 ⟨J3, ad3, cp3, rfl, hc31, hc32, hJ3, hrd3, S11⟩
              have H11 := hid S11
              have HR3 := hid hrd3
              have HC3 := hid (HRDC2.out.mono hJ3)
              have hJJ3 := Part.le_trans hJJ hJ3
              clear S11 hrd3 HBLK
              have hd1 : decide (k < N) = false := by simp; omega
              have hd2 : decide (C.length < k) = false := by simp; omega
              have hcp3I : (k : Int) ≤ (cp3 : Int) := by omega
              go_upto_region 27 with fail
              go_cut [141] (fun c wx => c = .bool false ∧ wx = w11)
              case first =>
                by_cases hp1 : 0 ≤ keep
                · by_cases hp2 : keep ≤ (C.length : Int) - (N : Int)
                  · have hkk := HKS.out hp1 hp2
                    have hkk1 : ((k : Int) != (N : Int) + keep) = false := by rw [hkk]; simp
                    have HKK := hid hkk
                    clear hkk
                    go_wp2_with fail
                    go_meet
                    exact ⟨rfl, rfl⟩
                  · go_wp2_with fail
                    go_meet
                    exact ⟨rfl, rfl⟩
                · go_wp2_with fail
                  go_meet
                  exact ⟨rfl, rfl⟩
              case rest =>
                obtain ⟨rfl, rfl⟩ := hcut
                go_wp2_with fail
                go_loopw [18, 144] (fun _ i wr => ∃ (q : Nat), q ≤ k ∧ i = .int .i64 (q : Int) ∧ Sat w J3 [volp p (pv 100000 (bks (C.take k)) k k)] wr) (fun _ i _ => k - (intOf i).toNat)
                case atStart => exact ⟨0, Nat.zero_le _, rfl, H11.out⟩
                case round =>
                  clear H11
                  obtain ⟨q, hq, rfl, Sr⟩ := hrel
                  by_cases hlt : q < k
                  · obtain ⟨b5, off5, rfl, c5⟩ := HR3.out.get Sr q (u := .string C[q]) (by simp [hlt])
                    obtain ⟨b6, off6, rfl, c6⟩ := HC3.out.get Sr q (u := .string C[q]) (by simp)
                    have H12 := hid Sr
                    clear Sr
                    have hq1 : (q : Int) < (k : Int) := by omega
                    have hq2 : (q : Int) < (C.length : Int) := by omega
                    have hq0 : (0 : Int) ≤ (q : Int) := by omega
                    generalize C[q] = t at *
                    go_wp2_with fail
                    go_quiet (fail)
                    go_wp2_with fail
                    go_roundw
                    case rel => exact ⟨q + 1, by omega, by go_num, H12.out.drewN _⟩
                    case measure => (simp [intOf] <;> omega)
                  · obtain rfl : q = k := by omega
                    have H12 := hid Sr
                    clear Sr
                    go_wp2_with fail
                    refine (vlen_eq (N := (q : Int)) (by show ((bks (C.take q)).length : Int) = _; rw [HKL.out]) H12.out).mono ?_; rintro e w12 ⟨rfl, S12⟩
                    have H13 := hid S12
                    clear S12 H12
                    go_wp2_with fail
                    go_ret
                    exact ⟨by simp, H13.out.toBelow hJJ3⟩
end Go.Proofs.Ytecdnlmagaoccaa
