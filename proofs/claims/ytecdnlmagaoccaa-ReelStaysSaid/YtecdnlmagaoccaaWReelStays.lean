/- ReelStays, walked. -/
import Derived.Test.YtecdnlmagaoccaaReelAct
import Derived.Test.YtecdnlmagaoccaaReelAw
import Derived.Deep.CutBlock
import Derived.Deep.DeepCutAuto
namespace Go.Proofs.Ytecdnlmagaoccaa
open Go.RowKit
set_option linter.unusedVariables false

def c30 (s : ByteArray) : ByteArray := s.extract 0 30
theorem gotB_take {A : List ByteArray} {n : Nat} {bl : List Bk} {su a : Nat} (h : StI A n bl su a) : ∃ G, gotB bl = A ++ G := by
  obtain ⟨X, rfl, _⟩ := h.ex
  exact ⟨_, gotB_bks A X⟩
set_option maxRecDepth 100000 in
set_option maxHeartbeats 16000000 in
theorem reelStays_walk (l1 : Option Addr) (n1 k1 : Nat) (la : Option Addr) (len cap : Nat) (w : World) (h1 : OkT Try.prog w 6 22 [.slice l1 n1 k1]) (h2 : OkT Try.prog w 6 46 [.slice la len cap]) :
    Calls Try.prog 7 #[.slice l1 n1 k1, .slice la len cap] w (RetB (.bool true) w.heap.size w) := by
  obtain ⟨hlc1, hcm1, s1, hsl1, hrd1, hss1⟩ := okT_strs h1
  obtain ⟨hlc, hcm, hact⟩ := okT_racts h2
  obtain ⟨f, hf⟩ := Deep.choose_lt hact
  clear h1 h2 hact
  have HR := hid hf
  have H0 := hid (Sat.start w)
  obtain ⟨N, hN⟩ : ∃ N, min n1 8 = N := ⟨_, rfl⟩
  obtain ⟨M, hM⟩ : ∃ M, min len 20 = M := ⟨_, rfl⟩
  have hN1 : N ≤ n1 := by omega
  have hN2 : N ≤ 8 := by omega
  have hM1 : M ≤ len := by omega
  have hM2 : M ≤ 20 := by omega
  have HNE := hid (show N = n1 ∨ (N = 8 ∧ N < n1) by omega)
  have HME := hid (show M = len ∨ (M = 20 ∧ M < len) by omega)
  obtain ⟨A, hA⟩ : ∃ A, (s1.take N).map c30 = A := ⟨_, rfl⟩
  have hAl : A.length = N := by rw [← hA]; simp; omega
  have hA30 : ∀ s ∈ A, s.size ≤ 30 := fun s hs => by
    rw [← hA] at hs
    obtain ⟨x, _, rfl⟩ := List.mem_map.1 hs; exact cutSize x 30
  have hel1 : ∀ q (h : q < N), ∃ (h1 : q < s1.length) (h2 : q < A.length), s1[q].size ≤ 9223372036854775807 ∧ s1[q].extract 0 30 = A[q] := fun q h => by
    refine ⟨by omega, by omega, hss1 _ (List.getElem_mem _), ?_⟩
    subst hA
    simp [c30]
  have HRD1 := hid hrd1
  have HE1 := hid hel1
  have HAL := hid hAl
  have HA30 := hid hA30
  clear hN hM hrd1 hss1 hsl1 hA hAl hA30 hel1 hf
  go_enter Try.func7, Try.ntmps7
  go_wp2_with fail
  refine (vnew_eq 100000 (R := 100000) (by decide) H0.out).mono ?_; rintro e w1 ⟨p, rfl, S1⟩
  have H1 := hid S1
  clear S1
  go_wp2_with fail
  refine (rawake_sat H1.out).mono ?_; rintro e w2 ⟨rfl, S2⟩
  have H2 := hid S2
  clear S2
  go_upto_block 0 with fail
  obtain ⟨g, hg⟩ : ∃ g, w2.heap.size = g := ⟨_, rfl⟩
  have S3 : Sat w (wpart w) (blk g 9 [] :: volp p (pv 100000 [] 0 0) :: []) _ := H2.out.alloc rfl hg.symm
  have H3 := hid (S3.emptyRow 1)
  rw [hg]
  clear S3 H2 H1 H0 hg
  go_cut [6] (fun tv wx => Sat w (wpart w) [row 9 1 tv N (A.map Value.string), volp p (pv 100000 (bks A) 0 N)] wx)
  case first =>
    go_wp2_with fail
    go_loopw [6, 7, 8] (fun tv i _ wr => ∃ (q : Nat), q ≤ N ∧ i = .int .i64 (q : Int) ∧ Sat w (wpart w) [row 9 1 tv q ((A.map Value.string).take q), volp p (pv 100000 (bks (A.take q)) 0 q)] wr) (fun _ i _ _ => N - (intOf i).toNat)
    case atStart => exact ⟨0, Nat.zero_le _, rfl, by simpa [bks] using H3.out⟩
    case round =>
      clear H3
      obtain ⟨q, hq, rfl, Sr⟩ := hrel
      have HS := hid Sr
      clear Sr
      by_cases hlt : q < N
      · obtain ⟨hqs, hqC, hel⟩ := HE1.out q hlt
        obtain ⟨b', off, rfl, c0⟩ := HRD1.out.get HS.out q (u := .string s1[q]) (by simp [hqs])
        have hq1 : (q : Int) < (n1 : Int) := by omega
        have hq2 : (q : Int) < 8 := by omega
        have hq0 : (0 : Int) ≤ (q : Int) := by omega
        have htk : (A.map Value.string).take (q + 1) = (A.map Value.string).take q ++ [.string A[q]] := by rw [List.take_succ_eq_append_getElem (by simpa using hqC), List.getElem_map]
        have hbk : bks (A.take (q + 1)) = bks (A.take q) ++ [⟨A[q], false, false⟩] := by rw [List.take_succ_eq_append_getElem hqC, bks_app]; rfl
        have ht30 := HA30.out A[q] (List.getElem_mem hqC)
        have hbl : (bks (A.take q)).length = q := by rw [bks_len, List.length_take]; omega
        have hws := bks_wsum (A.take q) (fun s hs => HA30.out s (List.mem_of_mem_take hs))
        rw [List.length_take] at hws
        have htn := bks_torn (A.take q)
        have HTK := hid htk
        have HBK := hid hbk
        clear htk hbk
        generalize s1[q] = s at *
        generalize A[q] = t at *
        generalize bks (A.take q) = bl at *
        have hadd : addS (pv 100000 bl 0 q) ⟨t, false, false⟩ = (0, pv 100000 (bl ++ [⟨t, false, false⟩]) 0 (q + 1)) := by
          have := pv_add (room := 100000) (bl := bl) (sure := 0) (at_ := q) ⟨t, false, false⟩ hbl.symm htn (by show ((t.size + 4 : Nat) : Int) ≤ _; omega)
          rw [hbl] at this; exact this
        have hok : (pv 100000 bl 0 q).ok := pv_ok (by omega) (by omega) (by omega) (by omega) (by omega) (by omega)
        have hbq : bl.length < 1048576 := by omega
        have HADD := hid hadd
        clear hadd hws htn hbl
        obtain ⟨hsm, hcq⟩ := hel
        go_wp2_with fail
        refine (cut_sat s 30 (by omega) hsm HS.out).mono ?_; rintro e w6 ⟨rfl, S6⟩
        have H6 := hid S6.swap
        clear S6 HS c0
        rw [hcq]
        clear hcq hsm
        go_wp2_with fail
        refine (vwrite t hok (by omega) (by exact hbq) HADD.out H6.out).mono ?_; rintro e w7 ⟨rfl, S7⟩
        have H7 := hid S7.swap
        clear S7 H6
        go_wp2_with (at_builtin; refine wpList_appS slStr rfl _ _ rfl H7.out [.string t] rfl rfl rfl rfl ?h1 ?hb ?hn ?_)
        case h1 => intro u hu; simp at hu; subst hu; rfl
        case hb => omega
        case hn => omega
        intro ad cap w8 hc1 hc2 S8
        have H8 := hid S8
        clear S8 H7
        go_wp2_with fail
        go_roundw
        case rel => exact ⟨q + 1, by omega, by go_num, by rw [HTK.out, HBK.out]; exact H8.out⟩
        case measure => (simp [intOf] <;> omega)
      · obtain rfl : N = q := by omega
        rw [← HAL.out, List.take_length, List.take_of_length_le (by simp), HAL.out] at HS
        have hx : ¬ (N : Int) < (n1 : Int) ∨ (¬ (N : Int) < 8 ∧ (N : Int) < (n1 : Int)) := by have := HNE.out; omega
        rcases hx with hx | ⟨hx, hx2⟩
        all_goals
          go_wp2_with fail
          go_meet
          exact HS.out
  case rest =>
    obtain ⟨J, ad, cp, hJ, S8, hval, hcp1, hcp2, _, hrdA⟩ := hcut.freezeRow
    subst hval
    unfold maxLen at hcp2
    have H8 := hid S8
    have HRA := hid hrdA
    have hcpI : (N : Int) ≤ (cp : Int) := by omega
    clear S8 hrdA hcut H3
    have hwA := bks_wsum A HA30.out
    have hAN : A.length ≤ 8 := by have := HAL.out; omega
    have hok0 : (pv 100000 (bks A) 0 N).ok := pv_ok (by omega) (by omega) (by omega) (Nat.zero_le _) (by rw [bks_len, HAL.out]; exact Nat.le_refl _) (by rw [bks_len]; omega)
    go_wp2_with fail
    refine (vflush_eq hok0 (pv_flushE _ _ _ _) (pv_flushV _ _ _ _) H8.out).mono ?_; rintro e w9 ⟨rfl, S9⟩
    rw [bks_len, HAL.out] at S9
    have H9 := hid S9
    clear S9 H8 hok0 hwA
    go_upto_block 2 with fail
    go_cut [9] (fun _ wx => ∃ v, StP A M v ∧ Sat w J [volp p v] wx)
    case first =>
      go_wp2_with fail
      go_loopw [9] (fun i wr => ∃ (n : Nat) (v : Vst), n ≤ M ∧ i = .int .i64 (n : Int) ∧ StP A n v ∧ Sat w J [volp p v] wr) (fun i _ => M - (intOf i).toNat)
      case atStart => exact ⟨0, _, Nat.zero_le _, rfl, ⟨bks A, N, N, rfl, ⟨[], by simp, by simp, by simp [wsum]⟩, by rw [HAL.out]; exact Nat.le_refl _, by rw [bks_len, HAL.out]; exact Nat.le_refl _, by rw [bks_len, HAL.out]; exact Nat.le_refl _⟩, H9.out⟩
      case round =>
        clear H9
        obtain ⟨n, v, hn, rfl, hP, Sr⟩ := hrel
        have HOK := hid (hP.ok HA30.out hAN (by omega))
        have HP := hid hP
        by_cases hlt : n < M
        · have hat := (HR.out n (by omega)).mono hJ
          obtain ⟨b3, off3, rfl, c0, c1, c2, c3, c4, c5⟩ := hat.get Sr
          have HG := hid hat.1
          generalize f n = t at *
          have hn1 : (n : Int) < (len : Int) := by omega
          have hn2 : (n : Int) < 20 := by omega
          have hn0 : (0 : Int) ≤ (n : Int) := by omega
          obtain ⟨kd, hkd⟩ : ∃ kd, t.kind = kd := ⟨_, rfl⟩
          rw [hkd] at c0
          have HKD := hid hkd
          have S4 : Sat w J (blk wr.heap.size 48 [.int .i64 kd, .int .i64 t.n, .int .i64 t.m, .string t.s, .slice t.ca t.cl t.cc, .int .u8 t.by_] :: volp p v :: []) (wr.alloc (.cells #[.int .i64 kd, .int .i64 t.n, .int .i64 t.m, .string t.s, .slice t.ca t.cl t.cc, .int .u8 t.by_] 48)) := Sr.alloc rfl rfl
          have d0 := S4.isBlk.cell 0 rfl
          have d1 := S4.isBlk.cell 1 rfl
          have d3 := S4.isBlk.cell 3 rfl
          have d4 := S4.isBlk.cell 4 rfl
          have HS := hid S4
          clear Sr S4 hat hP hkd
          rcases kinds9 kd with rfl | rfl | rfl | rfl | rfl | rfl | rfl | rfl | rfl | rfl | rfl | rfl | hk
          · skip
            go_wp2_with fail
            refine (cut_sat t.s 30 (by omega) HG.out.s HS.out).mono ?_; rintro e w6 ⟨rfl, S6⟩
            have H6 := hid S6
            have hz30 := cutSize t.s 30
            clear S6 HS
            obtain ⟨x, hx⟩ : ∃ x, t.s.extract 0 30 = x := ⟨_, rfl⟩
            rw [hx] at hz30 ⊢
            obtain ⟨E, V, hA⟩ : ∃ E V, addS v ⟨x, false, false⟩ = (E, V) := ⟨_, _, rfl⟩
            have hp := HP.out.add ⟨x, false, false⟩ (by show x.size + 4 ≤ 34; omega) hA
            have HA := hid hA
            clear hA hx
            go_wp2_with fail
            refine (vwrite x HOK.out.1 (by omega) HOK.out.2 HA.out H6.out.drop).mono ?_; rintro e w7 ⟨rfl, S5⟩
            clear H6
            have HV := hid S5
            have HP2 := hid hp
            clear S5 hp
            go_wp2_with fail
            go_roundw
            case rel => exact ⟨n + 1, V, by omega, by go_num, HP2.out, HV.out⟩
            case measure => (simp [intOf] <;> omega)
          · skip
            obtain ⟨E, V, hA⟩ : ∃ E V, addS v ⟨⟨#[]⟩, true, false⟩ = (E, V) := ⟨_, _, rfl⟩
            have hp := HP.out.add ⟨⟨#[]⟩, true, false⟩ (by show (4 : Nat) ≤ 34; omega) hA
            have HA := hid hA
            clear hA
            go_wp2_with fail
            refine (vmark HOK.out.1 HOK.out.2 HA.out HS.out.drop).mono ?_; rintro e w7 ⟨rfl, S5⟩
            clear HS
            have HV := hid S5
            have HP2 := hid hp
            clear S5 hp
            go_wp2_with fail
            go_roundw
            case rel => exact ⟨n + 1, V, by omega, by go_num, HP2.out, HV.out⟩
            case measure => (simp [intOf] <;> omega)
          · skip
            obtain ⟨V, hA⟩ : ∃ V, flushV v = V := ⟨_, rfl⟩
            have hp := HP.out.flush
            rw [hA] at hp
            have HA := hid hA
            clear hA
            go_wp2_with fail
            refine (vflush_eq HOK.out.1 rfl HA.out HS.out.drop).mono ?_; rintro e w7 ⟨rfl, S5⟩
            clear HS
            have HV := hid S5
            have HP2 := hid hp
            clear S5 hp
            go_wp2_with fail
            go_roundw
            case rel => exact ⟨n + 1, V, by omega, by go_num, HP2.out, HV.out⟩
            case measure => (simp [intOf] <;> omega)
          · skip
            obtain ⟨x, m, E, V, hA⟩ : ∃ x m E V, readS v = ((x, m, E), V) := ⟨_, _, _, _, rfl⟩
            have hp := HP.out.read hA
            have HA := hid hA
            clear hA
            go_wp2_with fail
            refine (vread HOK.out.1 HA.out HS.out.drop).mono ?_; rintro e w7 ⟨rfl, S5⟩
            clear HS
            have HV := hid S5
            have HP2 := hid hp
            clear S5 hp
            go_wp2_with fail
            go_roundw
            case rel => exact ⟨n + 1, V, by omega, by go_num, HP2.out, HV.out⟩
            case measure => (simp [intOf] <;> omega)
          · skip
            obtain ⟨E, V, hA⟩ : ∃ E V, seekS v t.n = (E, V) := ⟨_, _, rfl⟩
            have hp := HP.out.seek t.n hA
            have HA := hid hA
            clear hA
            go_wp2_with fail
            refine (vseek t.n HOK.out.1 HA.out HS.out.drop).mono ?_; rintro e w7 ⟨rfl, S5⟩
            clear HS
            have HV := hid S5
            have HP2 := hid hp
            clear S5 hp
            go_wp2_with fail
            go_roundw
            case rel => exact ⟨n + 1, V, by omega, by go_num, HP2.out, HV.out⟩
            case measure => (simp [intOf] <;> omega)
          · skip
            obtain ⟨E, V, hA⟩ : ∃ E V, skipS v = (E, V) := ⟨_, _, rfl⟩
            have hp := HP.out.skip hA
            have HA := hid hA
            clear hA
            go_wp2_with fail
            refine (vskip HOK.out.1 HA.out HS.out.drop).mono ?_; rintro e w7 ⟨rfl, S5⟩
            clear HS
            have HV := hid S5
            have HP2 := hid hp
            clear S5 hp
            go_wp2_with fail
            go_roundw
            case rel => exact ⟨n + 1, V, by omega, by go_num, HP2.out, HV.out⟩
            case measure => (simp [intOf] <;> omega)
          · skip
            obtain ⟨E, V, hA⟩ : ∃ E V, trimS v = (E, V) := ⟨_, _, rfl⟩
            have hp := HP.out.trim hA
            have HA := hid hA
            clear hA
            go_wp2_with fail
            refine (vtrim HOK.out.1 HA.out HS.out.drop).mono ?_; rintro e w7 ⟨rfl, S5⟩
            clear HS
            have HV := hid S5
            have HP2 := hid hp
            clear S5 hp
            go_wp2_with fail
            go_roundw
            case rel => exact ⟨n + 1, V, by omega, by go_num, HP2.out, HV.out⟩
            case measure => (simp [intOf] <;> omega)
          · skip
            obtain ⟨V, rfl⟩ : ∃ V, v = V := ⟨_, rfl⟩
            have hp : StP A (n + 1) v := by obtain ⟨bl, su, a, rfl, hi⟩ := HP.out; exact ⟨bl, su, a, rfl, hi.same a hi.a⟩
            have HP2 := hid hp
            have HV := hid HS.out.drop
            clear hp HS
            go_wp2_with fail
            go_roundw
            case rel => exact ⟨n + 1, v, by omega, by go_num, HP2.out, HV.out⟩
            case measure => (simp [intOf] <;> omega)
          · skip
            obtain ⟨V, hA⟩ : ∃ V, crashV v t.zs = V := ⟨_, rfl⟩
            have hp := HP.out.crash HOK.out.1 t.zs
            rw [hA] at hp
            have HA := hid hA
            clear hA
            go_wp2_with fail
            refine (vcrash t.ca t.cc t.cl t.zs HG.out.zl HG.out.cl HG.out.rd HG.out.zb HOK.out.1 HA.out HS.out.drop).mono ?_; rintro e w7 ⟨rfl, S5⟩
            clear HS
            have HV := hid S5
            have HP2 := hid hp
            clear S5 hp
            go_wp2_with fail
            go_roundw
            case rel => exact ⟨n + 1, V, by omega, by go_num, HP2.out, HV.out⟩
            case measure => (simp [intOf] <;> omega)
          · skip
            obtain ⟨V, rfl⟩ : ∃ V, v = V := ⟨_, rfl⟩
            have hp : StP A (n + 1) v := by obtain ⟨bl, su, a, rfl, hi⟩ := HP.out; exact ⟨bl, su, a, rfl, hi.same a hi.a⟩
            have HP2 := hid hp
            have HV := hid HS.out.drop
            clear hp HS
            go_wp2_with fail
            go_roundw
            case rel => exact ⟨n + 1, v, by omega, by go_num, HP2.out, HV.out⟩
            case measure => (simp [intOf] <;> omega)
          · skip
            obtain ⟨V, rfl⟩ : ∃ V, v = V := ⟨_, rfl⟩
            have hp : StP A (n + 1) v := by obtain ⟨bl, su, a, rfl, hi⟩ := HP.out; exact ⟨bl, su, a, rfl, hi.same a hi.a⟩
            have HP2 := hid hp
            have HV := hid HS.out.drop
            clear hp HS
            go_wp2_with fail
            go_roundw
            case rel => exact ⟨n + 1, v, by omega, by go_num, HP2.out, HV.out⟩
            case measure => (simp [intOf] <;> omega)
          · skip
            obtain ⟨V, rfl⟩ : ∃ V, v = V := ⟨_, rfl⟩
            have hp : StP A (n + 1) v := by obtain ⟨bl, su, a, rfl, hi⟩ := HP.out; exact ⟨bl, su, a, rfl, hi.same a hi.a⟩
            have HP2 := hid hp
            have HV := hid HS.out.drop
            clear hp HS
            go_wp2_with fail
            go_roundw
            case rel => exact ⟨n + 1, v, by omega, by go_num, HP2.out, HV.out⟩
            case measure => (simp [intOf] <;> omega)
          · obtain ⟨q1, q2, q3, q4, q5, q6, q7, q8, q9, q10, q11, q12⟩ := hk
            obtain ⟨V, rfl⟩ : ∃ V, v = V := ⟨_, rfl⟩
            have hp : StP A (n + 1) v := by obtain ⟨bl, su, a, rfl, hi⟩ := HP.out; exact ⟨bl, su, a, rfl, hi.same a hi.a⟩
            have HP2 := hid hp
            have HV := hid HS.out.drop
            clear hp HS
            go_wp2_with fail
            go_roundw
            case rel => exact ⟨n + 1, v, by omega, by go_num, HP2.out, HV.out⟩
            case measure => (simp [intOf] <;> omega)
        · obtain rfl : M = n := by omega
          have HS := hid Sr
          clear Sr
          have hx : ¬ (M : Int) < (len : Int) ∨ (¬ (M : Int) < 20 ∧ (M : Int) < (len : Int)) := by have := HME.out; omega
          rcases hx with hx | ⟨hx, hx2⟩
          all_goals
            go_wp2_with fail
            go_meet
            exact ⟨v, HP.out, HS.out⟩
    case rest =>
      obtain ⟨v, ⟨bl, su, a, rfl, hi⟩, Sr⟩ := hcut
      have hw := hi.wt HA30.out
      have hsu := hi.su
      obtain ⟨G, hG⟩ := gotB_take hi
      have hgl : (gotB bl).length = N + G.length := by rw [hG, List.length_append, HAL.out]
      have hbs := blocks_sat (room := 100000) (bl := bl) (sure := su) (a0 := a) (fun a' ha => pv_ok (by omega) (by omega) (by omega) hsu ha (by omega)) (by omega) hi.a Sr
      rw [hgl, hG] at hbs
      have hglb : N + G.length ≤ 28 := by have := gotB_len bl; omega
      have HBS := hid hbs
      have hd1 : decide (N + G.length < N) = false := by simp
      clear hbs hG hgl hi hsu Sr H9
      go_wp2_with fail
      refine HBS.out.mono ?_; rintro e w11 ⟨J3, ad3, cp3, rfl, hc31, hc32, hJ3, hrd3, S11⟩
      have H11 := hid S11
      have HR3 := hid hrd3
      have HC3 := hid (HRA.out.mono hJ3)
      have hJJ3 := Part.le_trans hJ hJ3
      clear S11 hrd3 HBS
      have hcp3I : ((N + G.length : Nat) : Int) ≤ (cp3 : Int) := by omega
      go_wp2_with fail
      refine (verased_eq (N := 0) rfl H11.out).mono ?_; rintro e w12 ⟨rfl, S12⟩
      have H12 := hid S12
      clear S12 H11
      go_wp2_with fail
      go_loopw [12, 116] (fun _ i wr => ∃ (q : Nat), q ≤ N ∧ i = .int .i64 (q : Int) ∧ Sat w J3 [volp p (pv 100000 bl su (N + G.length))] wr) (fun _ i _ => N - (intOf i).toNat)
      case atStart => exact ⟨0, Nat.zero_le _, rfl, H12.out⟩
      case round =>
        clear H12
        obtain ⟨q, hq, rfl, Sr⟩ := hrel
        by_cases hlt : q < N
        · have hqA : q < A.length := by rw [HAL.out]; exact hlt
          obtain ⟨b5, off5, rfl, c5⟩ := HR3.out.get Sr q (u := .string A[q]) (by rw [List.map_append, List.getElem?_append_left (by simpa using hqA)]; simp [hqA])
          obtain ⟨b6, off6, rfl, c6⟩ := HC3.out.get Sr q (u := .string A[q]) (by simp [hqA])
          have H13 := hid Sr
          clear Sr
          have hq1 : (q : Int) < (N : Int) := by omega
          have hq2 : (q : Int) < ((N + G.length : Nat) : Int) := by omega
          have hq3 : (q : Int) < (N : Int) + (G.length : Int) := by omega
          have hq0 : (0 : Int) ≤ (q : Int) := by omega
          generalize A[q] = t at *
          go_wp2_with fail
          go_quiet (fail)
          go_wp2_with fail
          go_roundw
          case rel => exact ⟨q + 1, by omega, by go_num, H13.out.drewN _⟩
          case measure => (simp [intOf] <;> omega)
        · obtain rfl : q = N := by omega
          have H13 := hid Sr
          clear Sr
          go_wp2_with fail
          go_ret
          exact ⟨rfl, H13.out.toBelow hJJ3⟩
end Go.Proofs.Ytecdnlmagaoccaa
