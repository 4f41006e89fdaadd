/- ReelMarks, walked. -/
import Derived.Test.YtecdnlmagaoccaaReelMk
import Derived.Test.YtecdnlmagaoccaaReelAw
namespace Go.Proofs.Ytecdnlmagaoccaa
open Go.RowKit
set_option linter.unusedVariables false

def kX : Bk := ⟨⟨#[120]⟩, false, false⟩
def kM : Bk := ⟨⟨#[]⟩, true, false⟩
def ivs (l : List Nat) : List Value := l.map fun n : Nat => Value.int .i64 (n : Int)
def mkLast (es : List Nat) (n : Nat) : Prop := (es = [] → n = 0) ∧ ∀ j (h : j + 1 = es.length), es[j] = n
theorem mkLast_snoc (es : List Nat) (n : Nat) : mkLast (es ++ [n]) n := ⟨fun h => by simp at h, fun j h => by
  have : j = es.length := by simpa using h
  subst this; simp⟩
theorem tmod4 (z : Int) : -4 < z.tmod 4 ∧ z.tmod 4 < 4 := by
  have h1 := Int.lt_tmod_of_pos z (by omega : (0 : Int) < 4)
  have h2 := Int.tmod_lt_of_pos z (by omega : (0 : Int) < 4)
  exact ⟨by omega, h2⟩

set_option maxRecDepth 100000 in
set_option maxHeartbeats 8000000 in
theorem reelMarks_walk (la : Option Addr) (len cap : Nat) (w : World) (hl : OkT Try.prog w 6 42 [.slice la len cap]) :
    Calls Try.prog 6 #[.slice la len cap] w (RetB (.bool true) w.heap.size w) := by
  obtain ⟨hlc, hcm, zs, hsl, hrd, hss⟩ := okT_intl hl
  clear hl
  have H0 := hid (Sat.start w)
  obtain ⟨N, hN⟩ : ∃ N, min len 6 = N := ⟨_, rfl⟩
  have hN1 : N ≤ len := by omega
  have hN2 : N ≤ 6 := by omega
  have hNe : N = len ∨ N = 6 := by omega
  have HNE := hid hNe
  have HRD := hid hrd
  have HSS := hid hss
  have HSL := hid hsl
  clear hN hrd hss hsl hNe
  go_enter Try.func6, Try.ntmps6
  go_wp2_with fail
  refine (vnew_eq 100000 (R := 100000) (by decide) H0.out).mono ?_; rintro e w1 ⟨p, rfl, S1⟩
  have H1 := hid S1
  clear S1
  go_wp2_with fail
  refine (rawake_sat H1.out).mono ?_; rintro e w2 ⟨rfl, S2⟩
  have H2 := hid S2
  clear S2
  go_wp2_with fail
  obtain ⟨g, hg⟩ : ∃ g, w2.heap.size = g := ⟨_, rfl⟩
  have S3 : Sat w (wpart w) (blk g 3 [] :: volp p (pv 100000 [] 0 0) :: []) _ := H2.out.alloc rfl hg.symm
  have H3 := hid (S3.emptyRow 1)
  rw [hg]
  clear S3 H2 H1 H0 hg
  go_loopw [4, 5, 6] (fun ends i _ wr => ∃ (q : Nat) (bl : List Bk) (es : List Nat), q ≤ N ∧ i = .int .i64 (q : Int) ∧ es.length = q ∧ bl.length ≤ 4 * q ∧ wsum bl ≤ 19 * q ∧ tornL bl = false ∧ mkE bl 0 = es ∧ mkLast es bl.length ∧ Sat w (wpart w) [row 3 1 ends es.length (ivs es), volp p (pv 100000 bl 0 bl.length)] wr) (fun _ i _ _ => N - (intOf i).toNat)
  case atStart => exact ⟨0, [], [], Nat.zero_le _, rfl, rfl, by simp, by simp [wsum], rfl, rfl, ⟨fun _ => rfl, fun j h => by simp at h⟩, by simpa [ivs] using H3.out⟩
  case round =>
    clear H3
    obtain ⟨q, bl, es, hq, rfl, hes, hbl, hws, ht, hmk, hls, Sr⟩ := hrel
    have HS := hid Sr
    have HT := hid ht
    have HMK := hid hmk
    have HLS := hid hls
    have HES := hid hes
    clear Sr ht hmk hls hes
    by_cases hlt : q < N
    · have hq1 : (q : Int) < (len : Int) := by omega
      have hq2 : (q : Int) < 6 := by omega
      have hq0 : (0 : Int) ≤ (q : Int) := by omega
      have hqs : q < zs.length := by have := HSL.out; omega
      obtain ⟨b', off, rfl, _⟩ := HRD.out.get HS.out q (u := .int .i64 zs[q]) (by simp [hqs])
      have hz := HSS.out zs[q] (List.getElem_mem hqs)
      have hrdq := fun (L : List HP) (w' : World) (S : Sat w (wpart w) L w') => HRD.out.get S q (u := .int .i64 zs[q]) (by simp [hqs])
      generalize zs[q] = z at *
      have HRQ := hid hrdq
      clear hrdq
      obtain ⟨y, hy⟩ : ∃ y, z.tmod 4 = y := ⟨_, rfl⟩
      have hy4 := tmod4 z
      rw [hy] at hy4
      obtain ⟨hya, hyb⟩ := hy4
      obtain ⟨M, hM⟩ : ∃ M, (y + 4).tmod 4 = M := ⟨_, rfl⟩
      have hM4 := tmod4 (y + 4)
      rw [hM] at hM4
      obtain ⟨hMa, hMb⟩ := hM4
      have HS1 := HS.out
      generalize hA : row 3 1 _ es.length (ivs es) = A at HS1
      have HS := hid HS1
      have HA := hid hA
      have HY := hid hy
      clear HS1 hA hy
      have hm0 : (0 : Int) ≤ y + 4 := by omega
      have hye : (y + 4).tmod 4 = (y + 4) % 4 := Int.tmod_eq_emod_of_nonneg (by omega)
      rw [hye] at hM
      have HM := hid hM
      clear hM hye
      have hM0 : 0 ≤ M := by have := HM.out; omega
      obtain ⟨m, rfl⟩ := Int.eq_ofNat_of_zero_le hM0
      go_wp2_with fail
      go_loopw [6] (fun k wr => ∃ (n : Nat) (bl' : List Bk), n ≤ m ∧ k = .int .i64 (n : Int) ∧ bl'.length ≤ 4 * q + n ∧ wsum bl' ≤ 19 * q + 5 * n ∧ tornL bl' = false ∧ mkE bl' 0 = es ∧ Sat w (wpart w) [A, volp p (pv 100000 bl' 0 bl'.length)] wr) (fun k _ => 4 - (intOf k).toNat)
      case atStart => exact ⟨0, bl, Nat.zero_le _, rfl, by omega, by omega, HT.out, HMK.out, HS.out⟩
      case round =>
        clear HS HT HMK HLS
        obtain ⟨n, bl', hn, rfl, hbl', hws', ht', hmk', Sr'⟩ := hrel
        have HS := hid Sr'
        have HT := hid ht'
        have HMK := hid hmk'
        obtain ⟨b2, off2, eq2, c0⟩ := HRQ.out _ _ Sr'
        cases eq2
        clear Sr' ht' hmk'
        have hvok : (pv 100000 bl' 0 bl'.length).ok := pv_ok (by omega) (by omega) (by omega) (Nat.zero_le _) (Nat.le_refl _) (by omega)
        have hy2 := HY.out
        have hM2 := HM.out
        by_cases hnm : n < m
        · have hd : decide (n < m) = true := by simpa using hnm
          have hA2 : addS (pv 100000 bl' 0 bl'.length) ⟨⟨#[120]⟩, false, false⟩ = (0, pv 100000 (bl' ++ [kX]) 0 (bl'.length + 1)) := pv_add kX rfl HT.out (by show ((5 : Nat) : Int) ≤ _; omega)
          have HA2 := hid hA2
          clear hA2
          go_wp2_with fail
          clear hy2 hM2 hd
          refine (vwrite ⟨#[120]⟩ hvok (by decide) (by show bl'.length < 1048576; omega) HA2.out HS.out.swap).mono ?_; rintro e w5 ⟨rfl, S5⟩
          have H5 := hid S5.swap
          clear S5 HS
          go_wp2_with fail
          go_roundw
          case rel => exact ⟨n + 1, bl' ++ [kX], by omega, by go_num, by simp; omega, by rw [wsum_app]; show _ + (5 + 0) ≤ _; omega, by rw [tornL_app]; rfl, by rw [mkE_snoc, HMK.out]; simp [kX], by simpa using H5.out⟩
          case measure => (simp [intOf] <;> omega)
        · have hd : decide (n < m) = false := by simpa using hnm
          have hA2 : addS (pv 100000 bl' 0 bl'.length) ⟨⟨#[]⟩, true, false⟩ = (0, pv 100000 (bl' ++ [kM]) 0 (bl'.length + 1)) := pv_add kM rfl HT.out (by show ((4 : Nat) : Int) ≤ _; omega)
          have HA2 := hid hA2
          clear hA2
          go_wp2_with fail
          clear hy2 hM2 hd
          refine (vmark hvok (by show bl'.length < 1048576; omega) HA2.out HS.out.swap).mono ?_; rintro e w5 ⟨rfl, S5⟩
          have H5 := hid S5
          clear S5 HS
          go_wp2_with fail
          refine (vlen_eq (N := ((bl'.length + 1 : Nat) : Int)) (by show ((bl' ++ [kM]).length : Int) = _; simp) H5.out).mono ?_; rintro e w6 ⟨rfl, S6⟩
          have S7 := S6.swap
          rw [← HA.out] at S7
          have H7 := hid S7
          clear S6 S7 H5
          go_wp2_with (at_builtin; refine wpList_appS slInt rfl _ _ rfl H7.out [.int .i64 ((bl'.length + 1 : Nat) : Int)] rfl rfl rfl rfl ?h1 ?hb ?hn ?_)
          case h1 => intro u hu; simp at hu; subst hu; rfl
          case hb => have := HES.out; omega
          case hn => have := HES.out; omega
          intro ad cap2 w8 hc1 hc2 S8
          have H8 := hid S8
          clear S8 H7
          go_wp2_with fail
          go_roundw
          case rel =>
            have he : es.length = q := HES.out
            refine ⟨q + 1, bl' ++ [kM], es ++ [bl'.length + 1], by omega, by go_num, by simp [he], by simp; omega, by rw [wsum_app]; show _ + (4 + 0) ≤ _; omega, by rw [tornL_app]; rfl, ?_, ?_, ?_⟩
            · rw [mkE_snoc, HMK.out]; simp [kM]
            · have := mkLast_snoc es (bl'.length + 1); simpa using this
            · have h := H8.out
              simp only [List.length_append, List.length_singleton, ivs, List.map_append, List.map_cons, List.map_nil] at h ⊢
              exact h
          case measure => (simp [intOf] <;> omega)
    · obtain rfl : q = N := by omega
      obtain ⟨J, ad, cp, hJ, S8, hval, hcp1, hcp2, _, hrd2⟩ := HS.out.freezeRow
      subst hval
      unfold maxLen at hcp2
      have H8 := hid S8
      have HRD2 := hid hrd2
      clear S8 hrd2 HS
      have hel : (es.length : Int) ≤ (cp : Int) := by omega
      have hvok : (pv 100000 bl 0 bl.length).ok := pv_ok (by omega) (by omega) (by omega) (Nat.zero_le _) (Nat.le_refl _) (by omega)
      have hvk : ∀ a, a ≤ bl.length → (pv 100000 bl 0 a).ok := fun a ha => pv_ok (by omega) (by omega) (by omega) (Nat.zero_le _) ha (by omega)
      have HVK := hid hvk
      have hS0 : seekS (pv 100000 bl 0 bl.length) 0 = (0, pv 100000 bl 0 0) := by
        have := pv_seek (room := 100000) (bl := bl) (sure := 0) (at_ := bl.length) 0 (Nat.zero_le _)
        simpa using this
      have HS0 := hid hS0
      clear hS0 hvk
      rcases HNE.out with hN | hN
      · have hx : ¬ (q : Int) < (len : Int) := by omega
        clear hN
        go_wp2_with fail
        refine (vseek 0 hvok HS0.out H8.out).mono ?_; rintro e w9 ⟨rfl, S9⟩
        have H9 := hid S9
        clear S9 H8
        go_wp2_with fail
        go_loopw [8, 54] (fun _ i wr => ∃ (j a : Nat), j ≤ es.length ∧ i = .int .i64 (j : Int) ∧ a ≤ bl.length ∧ mkE (bl.drop a) a = es.drop j ∧ (j = es.length → a = bl.length) ∧ Sat w J [volp p (pv 100000 bl 0 a)] wr) (fun _ i _ => es.length - (intOf i).toNat)
        case atStart => exact ⟨0, 0, Nat.zero_le _, rfl, Nat.zero_le _, by simpa using HMK.out, fun h => by rw [HLS.out.1 (List.eq_nil_of_length_eq_zero h.symm)], H9.out⟩
        case round =>
          clear H9
          obtain ⟨j, a, hj, rfl, ha, hm, hend, Sr⟩ := hrel
          have hvo := HVK.out a ha
          by_cases hjl : j < es.length
          · rw [List.drop_eq_getElem_cons hjl] at hm
            obtain ⟨jj, hee, hf, hm2, hle⟩ := mk_some _ bl a _ _ rfl hm
            obtain ⟨b3, off3, rfl, c3⟩ := HRD2.out.get Sr j (u := .int .i64 (es[j] : Int)) (by simp [ivs, hjl])
            have hlast : j + 1 = es.length → es[j] = bl.length := fun h => HLS.out.2 j h
            have hj1 : (j : Int) < (es.length : Int) := by omega
            have hj0 : (0 : Int) ≤ (j : Int) := by omega
            have hjb : (j : Int) ≤ 6 := by have := HES.out; omega
            generalize es[j] = ej at *
            subst hee
            have HM2 := hid hm2
            have HLA := hid hlast
            have HF := hid hf
            have HR := hid Sr
            have HJL := hid hjl
            clear hm hm2 hlast hf Sr hend hjl
            go_wp2_with fail
            refine (vskip hvo (pv_skip HF.out) HR.out).mono ?_; rintro e w10 ⟨rfl, S10⟩
            have H10 := hid S10
            clear S10 HR
            go_wp2_with fail
            refine (vat_eq (N := ((jj + 1 : Nat) : Int)) rfl H10.out).mono ?_; rintro e w11 ⟨rfl, S11⟩
            have H11 := hid S11
            clear S11 H10
            go_wp2_with fail
            go_roundw
            case rel => exact ⟨j + 1, jj + 1, HJL.out, by go_num, hle, HM2.out, HLA.out, H11.out⟩
            case measure => have := HJL.out; (simp [intOf] <;> omega)
          · obtain rfl : j = es.length := by omega
            obtain rfl := hend rfl
            have hf := hid (findMark_none bl bl.length (Nat.le_refl _))
            have HR := hid Sr
            clear hm Sr hend
            go_wp2_with fail
            refine (vskip hvo (pv_skipNo hf.out) HR.out).mono ?_; rintro e w10 ⟨rfl, S10⟩
            have H10 := hid S10
            clear S10 HR
            go_wp2_with fail
            refine (vat_eq (N := (bl.length : Int)) rfl H10.out).mono ?_; rintro e w11 ⟨rfl, S11⟩
            have H11 := hid S11
            clear S11 H10
            go_wp2_with fail
            refine (vlen_eq (N := (bl.length : Int)) rfl H11.out).mono ?_; rintro e w12 ⟨rfl, S12⟩
            have H12 := hid S12
            clear S12 H11
            go_wp2_with fail
            go_ret
            exact ⟨by simp, H12.out.toBelow hJ⟩
      · have hx : ¬ (q : Int) < 6 := by omega
        clear hN
        by_cases hx2 : (q : Int) < (len : Int)
        all_goals
          go_wp2_with fail
          refine (vseek 0 hvok HS0.out H8.out).mono ?_; rintro e w9 ⟨rfl, S9⟩
          have H9 := hid S9
          clear S9 H8
          go_wp2_with fail
          go_loopw [8, 54] (fun _ i wr => ∃ (j a : Nat), j ≤ es.length ∧ i = .int .i64 (j : Int) ∧ a ≤ bl.length ∧ mkE (bl.drop a) a = es.drop j ∧ (j = es.length → a = bl.length) ∧ Sat w J [volp p (pv 100000 bl 0 a)] wr) (fun _ i _ => es.length - (intOf i).toNat)
          case atStart => exact ⟨0, 0, Nat.zero_le _, rfl, Nat.zero_le _, by simpa using HMK.out, fun h => by rw [HLS.out.1 (List.eq_nil_of_length_eq_zero h.symm)], H9.out⟩
          case round =>
            clear H9
            obtain ⟨j, a, hj, rfl, ha, hm, hend, Sr⟩ := hrel
            have hvo := HVK.out a ha
            by_cases hjl : j < es.length
            · rw [List.drop_eq_getElem_cons hjl] at hm
              obtain ⟨jj, hee, hf, hm2, hle⟩ := mk_some _ bl a _ _ rfl hm
              obtain ⟨b3, off3, rfl, c3⟩ := HRD2.out.get Sr j (u := .int .i64 (es[j] : Int)) (by simp [ivs, hjl])
              have hlast : j + 1 = es.length → es[j] = bl.length := fun h => HLS.out.2 j h
              have hj1 : (j : Int) < (es.length : Int) := by omega
              have hj0 : (0 : Int) ≤ (j : Int) := by omega
              have hjb : (j : Int) ≤ 6 := by have := HES.out; omega
              generalize es[j] = ej at *
              subst hee
              have HM2 := hid hm2
              have HLA := hid hlast
              have HF := hid hf
              have HR := hid Sr
              have HJL := hid hjl
              clear hm hm2 hlast hf Sr hend hjl
              go_wp2_with fail
              refine (vskip hvo (pv_skip HF.out) HR.out).mono ?_; rintro e w10 ⟨rfl, S10⟩
              have H10 := hid S10
              clear S10 HR
              go_wp2_with fail
              refine (vat_eq (N := ((jj + 1 : Nat) : Int)) rfl H10.out).mono ?_; rintro e w11 ⟨rfl, S11⟩
              have H11 := hid S11
              clear S11 H10
              go_wp2_with fail
              go_roundw
              case rel => exact ⟨j + 1, jj + 1, HJL.out, by go_num, hle, HM2.out, HLA.out, H11.out⟩
              case measure => have := HJL.out; (simp [intOf] <;> omega)
            · obtain rfl : j = es.length := by omega
              obtain rfl := hend rfl
              have hf := hid (findMark_none bl bl.length (Nat.le_refl _))
              have HR := hid Sr
              clear hm Sr hend
              go_wp2_with fail
              refine (vskip hvo (pv_skipNo hf.out) HR.out).mono ?_; rintro e w10 ⟨rfl, S10⟩
              have H10 := hid S10
              clear S10 HR
              go_wp2_with fail
              refine (vat_eq (N := (bl.length : Int)) rfl H10.out).mono ?_; rintro e w11 ⟨rfl, S11⟩
              have H11 := hid S11
              clear S11 H10
              go_wp2_with fail
              refine (vlen_eq (N := (bl.length : Int)) rfl H11.out).mono ?_; rintro e w12 ⟨rfl, S12⟩
              have H12 := hid S12
              clear S12 H11
              go_wp2_with fail
              go_ret
              exact ⟨by simp, H12.out.toBelow hJ⟩
end Go.Proofs.Ytecdnlmagaoccaa
