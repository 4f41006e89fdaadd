/- ReelPlays, walked. -/
import Derived.Test.YtecdnlmagaoccaaRefH
import Derived.Test.YtecdnlmagaoccaaRefI
import Derived.Test.YtecdnlmagaoccaaReelAw
import Derived.Test.YtecdnlmagaoccaaReelFin
namespace Go.Proofs.Ytecdnlmagaoccaa
open Go.RowKit
set_option linter.unusedVariables false
theorem RP.new {R : Int} (h0 : 0 ≤ R) (h1 : R ≤ 9223372036854775807) : RP 0 ⟨R, false, 0, ⟨#[]⟩, [], 0, 0, 0, false⟩ :=
  ⟨⟨h0, h1, h0, Int.le_refl 0, (by decide : (0 : Int) ≤ 1073741825), Nat.zero_le _, Nat.zero_le _, (by decide : (0 : Nat) ≤ 1048576), Int.le_refl 0, (by decide : (0 : Int) ≤ 4611686018427387904)⟩, Nat.le_refl 0, fun b hb => (by cases hb), fun b hb => (by cases hb), Int.le_refl 0⟩
set_option maxRecDepth 100000 in
set_option maxHeartbeats 16000000 in
theorem reelPlays_walk (r : Int) (la : Option Addr) (len cap : Nat) (w : World) (hr : (Lit.int .i64 r).wf = true) (h2 : OkT Try.prog w 6 46 [.slice la len cap]) :
    Calls Try.prog 8 #[.int .i64 r, .slice la len cap] w (RetB (.bool true) w.heap.size w) := by
  have hwf := wf_i64 hr
  obtain ⟨hlc, hcm, hact⟩ := okT_racts h2
  obtain ⟨f, hf⟩ := Deep.choose_lt hact
  clear h2 hact hr
  have HF := hid hf
  have H0 := hid (Sat.start w)
  obtain ⟨M, hM⟩ : ∃ M, min len 40 = M := ⟨_, rfl⟩
  have hM1 : M ≤ len := by omega
  have hM2 : M ≤ 40 := by omega
  have HME := hid (show M = len ∨ (M = 40 ∧ M < len) by omega)
  obtain ⟨R, hR⟩ : ∃ R, max r 0 = R := ⟨_, rfl⟩
  have hR0 : 0 ≤ R := by omega
  have hR1 : R ≤ 9223372036854775807 := by omega
  have HRR := hid hR
  clear hM hf hR
  go_enter Try.func8, Try.ntmps8
  go_wp2_with fail
  refine (vnew_eq r HRR.out H0.out).mono ?_; rintro e w1 ⟨p, rfl, S1⟩
  have H1 := hid S1
  clear S1 H0
  go_wp2_with fail
  refine (rnew_sat r HRR.out H1.out).mono ?_; rintro e w2 ⟨rfl, S2⟩
  obtain ⟨g, hg⟩ := S2.sizeQ
  have H2 := hid (S2.alloc (b := g) (T := 56) (cs := rv0) rfl hg.symm)
  clear S2 H1
  go_upto_region 3 with (refine wpList_storeS whV rfl _ _ rfl rfl rfl rfl rfl (rvl_one _ _ _ _) H2.out ?_; intro w3 S3; have H3 := hid S3; clear S3)
  clear H2 hg
  go_wp2_with fail
  refine (rawake_sat H3.out).mono ?_; rintro e w4 ⟨rfl, S4⟩
  have H4 := hid S4
  clear S4 H3
  go_upto_block 0 with fail
  go_cut [7] (fun _ wx => ∃ (v : Vst) (a : Option Addr) (c : Nat) (J : Part), RP 40 v ∧ (wpart w).le J ∧ Rd J a (v.bl.flatMap bc) ∧ (v.bl.length ≤ c ∧ c ≤ 9223372036854775807) ∧ Sat w J [blk g 56 (rvl v (.slice a v.bl.length c)), volp p v] wx)
  case first =>
    go_wp2_with fail
    go_loopw [7, 8, 9] (fun i _ _ wr => ∃ (n : Nat) (v : Vst) (a : Option Addr) (c : Nat) (J : Part), n ≤ M ∧ i = .int .i64 (n : Int) ∧ RP n v ∧ (wpart w).le J ∧ Rd J a (v.bl.flatMap bc) ∧ (v.bl.length ≤ c ∧ c ≤ 9223372036854775807) ∧ ((a = none ∧ c = 0) ∨ ∃ b off, a = some ⟨b, off, none⟩) ∧ Sat w J [blk g 56 (rvl v (.slice a v.bl.length c)), volp p v] wr) (fun i _ _ _ => M - (intOf i).toNat)
    case atStart => exact ⟨0, _, none, 0, _, Nat.zero_le _, rfl, RP.new hR0 hR1, Part.le_refl _, Rd.nil _ _, ⟨Nat.zero_le _, by decide⟩, Or.inl ⟨rfl, rfl⟩, H4.out⟩
    case round =>
      clear H4
      obtain ⟨n, v, a, c, J, hn, rfl, hP, hJ, hrd, hcc, hsh, Sr⟩ := hrel
      have HJ := hid hJ
      have HRD := hid hrd
      have HP := hid hP
      have HSH := hid hsh
      have HCC := hid hcc
      by_cases hlt : n < M
      · have hat := (HF.out n (by omega)).mono hJ
        obtain ⟨b3, off3, rfl, d0, d1, d2, d3, d4, d5⟩ := hat.get Sr
        have HG := hid hat.1
        generalize f n = t at *
        have hn1 : (n : Int) < (len : Int) := by omega
        have hn2 : (n : Int) < 40 := by omega
        have hn0 : (0 : Int) ≤ (n : Int) := by omega
        have c0 := Sr.isBlk.cell 0 (v := .slice a v.bl.length c) rfl
        have c1 := Sr.isBlk.cell 1 (v := .int .i64 v.sure) rfl
        have c2 := Sr.isBlk.cell 2 (v := .int .i64 v.at_) rfl
        have c3 := Sr.isBlk.cell 3 (v := .int .i64 v.room) rfl
        have c4 := Sr.isBlk.cell 4 (v := .int .i64 v.erased) rfl
        have c5 := Sr.isBlk.cell 5 (v := .string v.label) rfl
        have c6 := Sr.isBlk.cell 6 (v := .bool v.prot) rfl
        have c7 := Sr.isBlk.cell 7 (v := .bool v.lost) rfl
        have c8 := Sr.isBlk.cell 8 (v := .int .i64 (v.armed - 1)) rfl
        have HS := hid Sr
        clear Sr hat hP hJ hrd hsh hcc
        go_upto_region 8 with fail
        go_cut [8, 9] (fun y k wx => ∃ (V : Vst) (q : Nat) (J' : Part) (a' : Option Addr) (c' : Nat), y = .pointer (some ⟨q, 0, none⟩) ∧ k = .bool true ∧ RP (n + 1) V ∧ J.le J' ∧ Rd J' a' (V.bl.flatMap bc) ∧ (V.bl.length ≤ c' ∧ c' ≤ 9223372036854775807) ∧ ((a' = none ∧ c' = 0) ∨ ∃ b off, a' = some ⟨b, off, none⟩) ∧ Sat w J' [blk q 56 (rvl V (.slice a' V.bl.length c')), volp p V, blk g 56 (rvl v (.slice a v.bl.length c))] wx)
        case first =>
          have c' := fun o => (⟨cell_alloc c0 o, cell_alloc c1 o, cell_alloc c2 o, cell_alloc c3 o, cell_alloc c4 o, cell_alloc c5 o, cell_alloc c6 o, cell_alloc c7 o, cell_alloc c8 o⟩ : _ ∧ _ ∧ _ ∧ _ ∧ _ ∧ _ ∧ _ ∧ _ ∧ _)
          have d' := fun o => (⟨cell_alloc d0 o, cell_alloc d1 o, cell_alloc d2 o, cell_alloc d3 o, cell_alloc d4 o, cell_alloc d5 o⟩ : _ ∧ _ ∧ _ ∧ _ ∧ _ ∧ _)
          go_region_with (first
            | (go_at_call 26; refine (does_sat (t := t) (n := n) HP.out (by omega) HG.out HRD.out HCC.out HSH.out HS.out.swap.drew).mono ?_; rintro e w5 ⟨V, J', a', c', he, hP2, hJ2, hrd2, hcc2, hsh2, S5⟩; unfold rvl at he; subst he; have HP2 := hid hP2; have HJ2 := hid hJ2; have HRD2 := hid hrd2; have HCC2 := hid hcc2; have HSH2 := hid hsh2;  have HS5 := hid S5; clear hP2 hJ2 hrd2 hcc2 hsh2 S5)
            | (go_at_call 26; refine (does_sat (t := t) (n := n) HP.out (by omega) HG.out HRD.out HCC.out HSH.out ((HS.out.alloc (b := wr.heap.size) (T := 56) (cs := rv0) rfl rfl).pick 2).drew).mono ?_; rintro e w5 ⟨V, J', a', c', he, hP2, hJ2, hrd2, hcc2, hsh2, S5⟩; unfold rvl at he; subst he; have HP2 := hid hP2; have HJ2 := hid hJ2; have HRD2 := hid hrd2; have HCC2 := hid hcc2; have HSH2 := hid hsh2;  have t0 := (S5.pick 1).isBlk.cell 0 (v := .slice none 0 0) rfl; have ft0 := (S5.pick 1).isBlk.frozen 0; have t1 := (S5.pick 1).isBlk.cell 1 (v := .int .i64 0) rfl; have ft1 := (S5.pick 1).isBlk.frozen 1; have t2 := (S5.pick 1).isBlk.cell 2 (v := .int .i64 0) rfl; have ft2 := (S5.pick 1).isBlk.frozen 2; have t3 := (S5.pick 1).isBlk.cell 3 (v := .int .i64 0) rfl; have ft3 := (S5.pick 1).isBlk.frozen 3; have t4 := (S5.pick 1).isBlk.cell 4 (v := .int .i64 0) rfl; have ft4 := (S5.pick 1).isBlk.frozen 4; have t5 := (S5.pick 1).isBlk.cell 5 (v := .string ⟨#[]⟩) rfl; have ft5 := (S5.pick 1).isBlk.frozen 5; have t6 := (S5.pick 1).isBlk.cell 6 (v := .bool false) rfl; have ft6 := (S5.pick 1).isBlk.frozen 6; have t7 := (S5.pick 1).isBlk.cell 7 (v := .bool false) rfl; have ft7 := (S5.pick 1).isBlk.frozen 7; have t8 := (S5.pick 1).isBlk.cell 8 (v := .int .i64 0) rfl; have ft8 := (S5.pick 1).isBlk.frozen 8; have HT5 := hid (show Sat w J' [blk wr.heap.size 56 (rvl V (.slice a' V.bl.length c')), volp p V, blk g 56 (rvl v (.slice a v.bl.length c))] _ from (((((((((S5.swap.set 0 (.slice a' V.bl.length c') rfl).set 1 (.int .i64 V.sure) rfl).set 2 (.int .i64 V.at_) rfl).set 3 (.int .i64 V.room) rfl).set 4 (.int .i64 V.erased) rfl).set 5 (.string V.label) rfl).set 6 (.bool V.prot) rfl).set 7 (.bool V.lost) rfl).set 8 (.int .i64 (V.armed - 1)) rfl)); clear hP2 hJ2 hrd2 hcc2 hsh2 S5))
          all_goals
            go_wp2_with fail
            go_meet
            first
              | exact ⟨V, w5.heap.size, J', a', c', rfl, rfl, HP2.out, HJ2.out, HRD2.out, HCC2.out, HSH2.out, HS5.out.alloc rfl rfl⟩
              | exact ⟨V, wr.heap.size, J', a', c', rfl, rfl, HP2.out, HJ2.out, HRD2.out, HCC2.out, HSH2.out, HT5.out⟩
              | trace_state
        case rest =>
          obtain ⟨V, q, J', a', c', rfl, rfl, hP2, hJ2, hrd2, hcc2, hsh2, S5⟩ := hcut
          have HP2 := hid hP2
          have HJ2 := hid hJ2
          have HRD2 := hid hrd2
          have HCC2 := hid hcc2
          have HSH2 := hid hsh2
          have H5 := hid S5
          clear S5 hP2 hJ2 hrd2 hcc2 hsh2 HS c0 c1 c2 c3 c4 c5 c6 c7 c8 d0 d1 d2 d3 d4 d5
          go_upto_region 10 with (first
            | (refine wpList_loadS whV rfl _ rfl rfl rfl H5.out ?_)
            | (refine wpList_storeS whV rfl _ _ rfl rfl rfl rfl rfl (rvl_one _ _ _ _) (H5.out.pick 2) ?_; intro w6 S6; have H6 := hid S6; clear S6))
          clear H5
          have c0 := H6.out.isBlk.cell 0 (v := .slice a' V.bl.length c') rfl
          have c1 := H6.out.isBlk.cell 1 (v := .int .i64 V.sure) rfl
          have c2 := H6.out.isBlk.cell 2 (v := .int .i64 V.at_) rfl
          have c3 := H6.out.isBlk.cell 3 (v := .int .i64 V.room) rfl
          have c4 := H6.out.isBlk.cell 4 (v := .int .i64 V.erased) rfl
          have c5 := H6.out.isBlk.cell 5 (v := .string V.label) rfl
          have c6 := H6.out.isBlk.cell 6 (v := .bool V.prot) rfl
          have c7 := H6.out.isBlk.cell 7 (v := .bool V.lost) rfl
          have c8 := H6.out.isBlk.cell 8 (v := .int .i64 (V.armed - 1)) rfl
          go_wp2_with fail
          refine (shows_sat HP2.out.ok HRD2.out (H6.out.pick 2)).mono ?_; rintro e w7 ⟨rfl, S7⟩
          have H7 := hid S7
          clear S7 H6 c0 c1 c2 c3 c4 c5 c6 c7 c8
          go_wp2_with fail
          go_roundw
          case rel => exact ⟨n + 1, V, a', c', J', by omega, by go_num, HP2.out, Part.le_trans HJ.out HJ2.out, HRD2.out, HCC2.out, HSH2.out, (H7.out.pick 2).drop.swap⟩
          case measure => (simp [intOf] <;> omega)
      · obtain rfl : M = n := by omega
        have HS := hid Sr
        clear Sr hP hJ hrd hsh hcc
        have hx : ¬ (M : Int) < (len : Int) ∨ (¬ (M : Int) < 40 ∧ (M : Int) < (len : Int)) := by have := HME.out; omega
        rcases hx with hx | ⟨hx, hx2⟩
        all_goals
          go_wp2_with fail
          go_meet
          exact ⟨v, a, c, J, ⟨HP.out.ok, by have := HP.out.len; omega, HP.out.small, HP.out.marks, by have := HP.out.er; omega⟩, HJ.out, HRD.out, HCC.out, HS.out⟩
  case rest =>
    obtain ⟨v, a, c, J, hP, hJ, hrd, hcc, S5⟩ := hcut
    have HJ := hid hJ
    have HRD := hid hrd
    have HP := hid hP
    have HS5 := hid S5.swap
    clear S5 hP hJ hrd H4
    go_wp2_with fail
    refine (vfail (-1) HS5.out).mono ?_; rintro e w6 ⟨rfl, S6⟩
    have hf1 : failA (-1) = 0 := by decide
    rw [hf1] at S6
    have HOK := hid (show ({v with armed := 0} : Vst).ok from ⟨HP.out.ok.room0, HP.out.ok.room, HP.out.ok.used, Int.le_refl 0, (by decide : (0 : Int) ≤ 1073741825), HP.out.ok.sure, HP.out.ok.at_, HP.out.ok.len, HP.out.ok.erased0, HP.out.ok.erased⟩)
    have f8 := S6.swap.isBlk.frozen 8
    have c8 := S6.swap.isBlk.cell 8 (v := .int .i64 (v.armed - 1)) rfl
    have H6 := hid (S6.swap.set 8 (.int .i64 (-1)) (cs' := rvl {v with armed := 0} (.slice a v.bl.length c)) rfl)
    clear S6 HS5
    have ha0 : ({v with armed := 0} : Vst).armed = 0 := rfl
    have hlen := HP.out.ok.len
    obtain ⟨N, hN⟩ : ∃ N, v.bl.length = N := ⟨_, rfl⟩
    have HN := hid hN
    have hNat := HP.out.ok.at_
    rw [hN] at hNat hlen
    obtain ⟨u, hu⟩ : ∃ u : Vst, ({v with armed := 0} : Vst) = u := ⟨_, rfl⟩
    have hub : u.bl = v.bl := by rw [← hu]
    have hua : u.at_ = v.at_ := by rw [← hu]
    rw [hu] at H6 HOK ha0
    have HU0 := hid ha0
    rw [← hub] at HRD H6 HN
    have HNU : Hid (u.bl.length = N) := HN
    have H6' : Hid (Sat w J [blk g 56 (rvl u (.slice a u.bl.length c)), volp p (atV u u.at_)] (w6.setCell ⟨g, 8, none⟩ (.int .i64 (-1)))) := hid H6.out
    clear H6 hN hu hub ha0 HN
    go_upto_region 14 with fail
    refine wp_gen (fun w7 => Sat w J [blk g 56 (rvl u (.slice a u.bl.length c)), volp p (atV u u.at_)] w7) H6'.out ?_
    clear H6' f8 c8
    intro w7 S7
    have c0 := S7.isBlk.cell 0 (v := .slice a u.bl.length c) rfl
    have H7 := hid S7
    clear S7
    rw [HNU.out] at c0
    go_wp2_with fail
    go_loopw [10, 11, 12, 13, 14, 15, 16, 17, 18, 19, 68] (fun _ _ _ _ _ _ _ _ _ _ j wr => ∃ (i k : Nat), i ≤ N ∧ j = .int .i64 (i : Int) ∧ k ≤ u.bl.length ∧ Sat w J [blk g 56 (rvl u (.slice a u.bl.length c)), volp p (atV u k)] wr) (fun _ _ _ _ _ _ _ _ _ _ j _ => N - (intOf j).toNat)
    case atStart => exact ⟨0, u.at_, Nat.zero_le _, rfl, HOK.out.at_, H7.out⟩
    case round =>
      clear H7 c0
      obtain ⟨i, k, hi, rfl, hk, Sr⟩ := hrel
      have HS := hid Sr
      clear Sr
      by_cases hlt : i < N
      · have hiN : (i : Int) < (N : Int) := by omega
        have hi0 : (0 : Int) ≤ (i : Int) := by omega
        have hiu : i ≤ u.bl.length := by rw [HNU.out]; omega
        obtain ⟨E, s, m, G, k1, k2, Y, Z, e1, hk1, e2, hk2, e3, hY, e4⟩ := end_eq HU0.out k i hk hiu
        have hYl : Y ≤ u.bl.length := by rcases hY with h | h; exact h; rw [h]; exact HOK.out.at_
        have HE1 := hid e1
        have HE2 := hid e2
        have HE3 := hid e3
        have HE4 := hid e4
        clear e1 e2 e3 e4 hY
        go_wp2_with fail
        refine (vseek (i : Int) (atV_ok HOK.out hk) HE1.out HS.out.swap).mono ?_; rintro e w8 ⟨rfl, S8⟩
        have H8 := hid S8
        clear S8 HS
        go_wp2_with fail
        refine (vread (atV_ok HOK.out hk1) HE2.out H8.out).mono ?_; rintro e w9 ⟨rfl, S9⟩
        have H9 := hid S9.swap
        clear S9 H8
        go_wp2_with (refine wpList_loadS whV rfl _ rfl rfl rfl H9.out ?_)
        refine (rseek_sat (v := u) (i : Int) HOK.out HE3.out H9.out).mono ?_; rintro e w10 ⟨rfl, S10⟩
        obtain ⟨q, hq⟩ := S10.sizeQ
        have H10 := hid (S10.alloc (b := q) (T := 56) (cs := rv0) rfl hq.symm)
        clear S10 H9
        go_upto_region 20 with (refine wpList_storeS whV rfl _ _ rfl rfl rfl rfl rfl (rvl_one _ _ _ _) H10.out ?_; intro w11 S11; have H11 := hid S11; clear S11)
        clear H10 hq
        go_wp2_with (refine wpList_loadS whV rfl _ rfl rfl rfl H11.out ?_)
        refine (rread_sat (v := atV u Y) (atV_ok HOK.out hYl) HRD.out HE4.out H11.out).mono ?_; rintro e w12 ⟨rfl, S12⟩
        obtain ⟨q2, hq2⟩ := S12.sizeQ
        have S13 := S12.alloc (b := q2) (T := 56) (cs := rv0) rfl hq2.symm
        have H13 := hid (S13.alloc (b := q2 + 1) (T := 65) (cs := bc ⟨⟨#[]⟩, false, false⟩) rfl (by simp [hq2])).swap
        clear S12 S13 H11
        go_upto_region 21 with (first
          | (refine wpList_storeS whV rfl _ _ rfl rfl rfl rfl rfl (rvl_one _ _ _ _) H13.out ?_; intro w14 S14; have H14 := hid S14.swap; clear S14)
          | (refine wpList_storeS whB rfl _ _ rfl rfl rfl rfl rfl (bc_one1 _) H14.out ?_; intro w15 S15; have H15 := hid S15; clear S15))
        have e0 := H15.out.isBlk.cell 0 (v := .string s) rfl
        have e1 := H15.out.isBlk.cell 1 (v := .bool m) rfl
        clear H13 H14 hq2
        go_wp2_with fail
        go_roundw
        case rel => exact ⟨i + 1, k2, by omega, by go_num, hk2, H15.out.drop.drop.drop⟩
        case measure => (simp [intOf] <;> omega)
      · obtain rfl : N = i := by omega
        go_wp2_with fail
        go_ret
        exact ⟨rfl, HS.out.toBelow HJ.out⟩
end Go.Proofs.Ytecdnlmagaoccaa
