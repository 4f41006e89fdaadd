/- SealTorn, walked. -/
import Derived.Test.YtgnoojphbnfjbaaDoorSealP
namespace Go.Proofs.YtgnoojphbnfjbaaDoor
open Go.RowKit
set_option linter.unusedVariables false
theorem cut_q {w : World} (s : ByteArray) (n : Nat) {t : ByteArray} (hn : n ≤ 100000) (hs : s.size ≤ 9223372036854775807) (ht : s.extract 0 n = t) :
    Calls Tryd.prog 9 #[.string s, .int .i64 (n : Int)] w fun e w' => e = .returned (.string t) ∧ ∃ k, w' = w.drewN k := by
  subst ht
  exact (cut_eq w s n hn hs).mono fun e w' ⟨h1, h2⟩ => ⟨h1, 0, by subst h2; rfl⟩
def whV (cs : List (List UInt8)) (cut j : Nat) : Nat := min j (whF cs cut)
def atV (cs : List (List UInt8)) (cut j : Nat) : Nat := (laidL (cs.take (whV cs cut j))).length
theorem whV_yes {cs : List (List UInt8)} {cut j : Nat} (hj : j < cs.length) (h : endL cs j ≤ cut) : whV cs cut (j + 1) = whV cs cut j + 1 ∧ atV cs cut (j + 1) = endL cs j := by
  have h1 := (wh_iff cs cut j hj).1 h
  unfold atV whV
  rw [Nat.min_eq_left (by omega), Nat.min_eq_left (by omega)]
  exact ⟨rfl, rfl⟩
theorem whV_no {cs : List (List UInt8)} {cut j : Nat} (hj : j < cs.length) (h : ¬ endL cs j ≤ cut) : whV cs cut (j + 1) = whV cs cut j ∧ atV cs cut (j + 1) = atV cs cut j := by
  have h1 : ¬ j < whF cs cut := fun x => h ((wh_iff cs cut j hj).2 x)
  have e : whV cs cut (j + 1) = whV cs cut j := by unfold whV; omega
  unfold atV
  rw [e]; exact ⟨rfl, rfl⟩
set_option maxRecDepth 100000 in
set_option maxHeartbeats 4000000 in
theorem sealTorn_walk (la : Option Addr) (len cap : Nat) (cut : Int) (w : World) (hT : Rd (wpart w) (some ⟨0, 0, none⟩) tabV) (hl : OkT Tryd.prog w 6 33 [.slice la len cap]) (hw : (Lit.int .i64 cut).wf = true) :
    Calls Tryd.prog 5 #[.slice la len cap, .int .i64 cut] w (RetB (.bool true) w.heap.size w) := by
  obtain ⟨hlc, hcm, ss, hsl, hrd, hss⟩ := okT_strs hl
  have hcb := wf_i64 hw
  have H0 := hid (Sat.start w)
  have HT := hid hT
  clear hT hl hw
  obtain ⟨cs, hcs⟩ : ∃ cs, cutsL ss 6 50 = cs := ⟨_, rfl⟩
  have hcl : cs.length = min 6 ss.length := by rw [← hcs, cutsL_len]
  have hc50 : ∀ c ∈ cs, c.length ≤ 50 := by rw [← hcs]; exact cutsL_le ss 6 50
  have hll := laidL_len cs hc50
  have hcg : ∀ i (h : i < cs.length), ∃ h2 : i < ss.length, ss[i].size ≤ 9223372036854775807 ∧ ss[i].extract 0 50 = ⟨cs[i].toArray⟩ := fun i h => by
    have h2 : i < ss.length := by omega
    refine ⟨h2, hss _ (List.getElem_mem _), ?_⟩
    have h3 := cutsL_get ss 6 50 i (by omega)
    rw [hcs, List.getElem?_eq_getElem h] at h3
    rw [Option.some.inj h3]
  have HCG := hid hcg
  have HRD := hid hrd
  have HCS := hid hcs
  have HC50 := hid hc50
  have HSS := hid hss
  have HSL := hid hsl
  have hlenC : cs.length ≤ 6 := by omega
  clear hcg hrd hcs hc50 hcl hss hsl
  go_enter Tryd.func5, Tryd.ntmps5
  go_wp2_with fail
  refine (laid_sat HT.out la len cap ss HSL.out HRD.out HSS.out hlc hcm HCS.out H0.out).mono ?_; rintro e w1 ⟨J, ad, cp, rfl, hc1, hc2, hJ, hre, S1⟩
  have H1 := hid S1
  have HTJ := hid (HT.out.mono hJ)
  have HRE := hid hre
  have HRDJ := hid (HRD.out.mono hJ)
  obtain ⟨s, hs⟩ : ∃ s : ByteArray, (⟨(laidL cs).toArray⟩ : ByteArray) = s := ⟨_, rfl⟩
  have hsd : s.data.toList = laidL cs := by rw [← hs]
  have hsz : s.size = (laidL cs).length := by rw [← hs]; simp [ByteArray.size]
  rw [hs]
  have HSD := hid hsd
  have hsb : s.size ≤ 348 := by omega
  clear S1 H0 hre hs hsd HT HRD hll
  go_wp2_with fail
  refine (sawake_sat HTJ.out H1.out).mono ?_; rintro e w2 ⟨rfl, S2⟩
  have H2 := hid S2
  clear S2 H1
  by_cases hneg : cut < 0
  · go_wp2_with fail
    refine (sawake_sat HTJ.out H2.out).mono ?_; rintro e w3 ⟨rfl, S3⟩
    have H3 := hid S3
    clear S3 H2
    go_wp2_with fail
    go_ret
    exact ⟨rfl, H3.out.toBelow hJ⟩
  · by_cases hbig : (s.size : Int) < cut
    · go_wp2_with fail
      refine (sawake_sat HTJ.out H2.out).mono ?_; rintro e w3 ⟨rfl, S3⟩
      have H3 := hid S3
      clear S3 H2
      go_wp2_with fail
      go_ret
      exact ⟨rfl, H3.out.toBelow hJ⟩
    · obtain ⟨k, rfl⟩ := Int.eq_ofNat_of_zero_le (by omega : 0 ≤ cut)
      have hk : k ≤ s.size := by omega
      have hkI : (k : Int) ≤ (s.size : Int) := by omega
      have hk0 : (0 : Int) ≤ (k : Int) := by omega
      have hd : decide (s.size < k) = false := by simp; omega
      clear hneg hbig
      go_wp2_with fail
      go_loopw [7, 8, 10, 34] (fun wh at_ _ i wr => ∃ j : Nat, j ≤ cs.length ∧ i = .int .i64 (j : Int) ∧ wh = .int .i64 (whV cs k j : Int) ∧ at_ = .int .i64 (atV cs k j : Int) ∧ Sat w J [] wr) (fun _ _ _ i _ => cs.length - (intOf i).toNat)
      case atStart => exact ⟨0, Nat.zero_le _, rfl, by simp [whV], by simp [atV, whV, laidL], H2.out⟩
      case round =>
        clear H2
        obtain ⟨j, hj, rfl, rfl, rfl, Sr⟩ := hrel
        by_cases hlt : j < cs.length
        · obtain ⟨b3, off3, rfl, c3⟩ := HRE.out.get Sr j (endsV_get cs j hlt)
          have HS := hid Sr
          have hj1 : (j : Int) < (cs.length : Int) := by omega
          have hj0 : (0 : Int) ≤ (j : Int) := by omega
          have hwb : (whV cs k j : Int) ≤ 6 := by unfold whV; omega
          by_cases he : endL cs j ≤ k
          · have hy := whV_yes hlt he
            have he1 : decide (endL cs j ≤ k) = true := by simpa using he
            obtain ⟨y1, y2⟩ := hy
            have Y1 := hid y1
            have Y2 := hid y2
            generalize endL cs j = ej at *
            clear Sr y1 y2
            go_wp2_with fail
            go_roundw
            case rel => exact ⟨j + 1, by omega, by go_num, by rw [Y1.out]; go_num, by rw [Y2.out], HS.out⟩
            case measure => (simp [intOf] <;> omega)
          · have hy := whV_no hlt he
            have he1 : decide (endL cs j ≤ k) = false := by simpa using he
            obtain ⟨y1, y2⟩ := hy
            have Y1 := hid y1
            have Y2 := hid y2
            generalize endL cs j = ej at *
            clear Sr y1 y2
            go_wp2_with fail
            go_roundw
            case rel => exact ⟨j + 1, by omega, by go_num, by rw [Y1.out], by rw [Y2.out], HS.out⟩
            case measure => (simp [intOf] <;> omega)
        · obtain rfl : j = cs.length := by omega
          have HS := hid Sr
          clear Sr
          have hwf := whF_le cs k
          have hwv : whV cs k cs.length = whF cs k := by unfold whV; omega
          have hav : atV cs k cs.length = (laidL (cs.take (whF cs k))).length := by unfold atV; rw [hwv]
          obtain ⟨t, ht⟩ : ∃ t, s.extract 0 k = t := ⟨_, rfl⟩
          have htd : t.data.toList = (laidL cs).take k := by rw [← ht, ext_list, HSD.out]; simp
          have hts : t.size ≤ 1048576 := by rw [← ht, ByteArray.size_extract]; omega
          have hsc : scanR t.data.toList = (cs.take (whF cs k), atV cs k cs.length) := by rw [htd, scanR_cut cs k HC50.out, hav]
          have hgl : (cs.take (whF cs k)).length = whF cs k := by rw [List.length_take]; omega
          rw [hwv]
          obtain ⟨W, hW⟩ : ∃ W, whF cs k = W := ⟨_, rfl⟩
          rw [hW] at hsc hgl hwf ⊢
          generalize atV cs k cs.length = AT at *
          have HSC := hid hsc
          have HGL := hid hgl
          have hWI : (W : Int) ≤ (cs.length : Int) := by omega
          clear hwv hav htd hsc hgl hW hlt
          go_wp2_with fail
          try rw [ht]
          refine (scan_sat HTJ.out t hts HSC.out HS.out).mono ?_; rintro e w6 ⟨J2, ad2, cp2, rfl, hg1, hg2, hJ2, hrg, S6⟩
          rw [HGL.out] at hg1 ⊢
          have H6 := hid S6
          have HRG := hid hrg
          have HRDJ2 := hid (HRDJ.out.mono hJ2)
          have hJJ := Part.le_trans hJ hJ2
          have hcp2I : (W : Int) ≤ (cp2 : Int) := by omega
          clear S6 hrg HS ht
          go_wp2_with fail
          go_loopw [13, 63] (fun _ i wr => ∃ q : Nat, q ≤ W ∧ i = .int .i64 (q : Int) ∧ Sat w J2 [] wr) (fun _ i _ => W - (intOf i).toNat)
          case atStart => exact ⟨0, Nat.zero_le _, rfl, H6.out⟩
          case round =>
            clear H6
            obtain ⟨q, hq, rfl, Sr⟩ := hrel
            by_cases hlt : q < W
            · obtain ⟨hqs, hsm, hcut⟩ := HCG.out q (by omega)
              obtain ⟨b5, off5, rfl, c5⟩ := HRG.out.get Sr q (u := lv (cs[q]'(by omega))) (by rw [List.getElem?_map, List.getElem?_take_of_lt hlt, List.getElem?_eq_getElem (by omega)]; rfl)
              obtain ⟨b6, off6, rfl, c6⟩ := HRDJ2.out.get Sr q (u := .string ss[q]) (by simp [hqs])
              have H7 := hid Sr
              have hq1 : (q : Int) < (W : Int) := by omega
              have hq2 : (q : Int) < (len : Int) := by have := HSL.out; omega
              have hq0 : (0 : Int) ≤ (q : Int) := by omega
              have hlv : lv (cs[q]'(by omega)) = .string ⟨(cs[q]'(by omega)).toArray⟩ := rfl
              rw [hlv] at c5
              obtain ⟨x, hx⟩ : ∃ x : ByteArray, (⟨(cs[q]'(by omega)).toArray⟩ : ByteArray) = x := ⟨_, rfl⟩
              rw [hx] at c5 hcut
              generalize ss[q] = y at *
              have HCUT := hid hcut
              clear Sr hlv hx hcut
              go_wp2_with fail
              go_quiet ((go_at_call 9; exact Calls.quiet_of (cut_q y 50 (by omega) hsm HCUT.out)))
              go_wp2_with fail
              go_roundw
              case rel => exact ⟨q + 1, by omega, by go_num, H7.out.drewN _⟩
              case measure => (simp [intOf] <;> omega)
            · obtain rfl : q = W := by omega
              have H7 := hid Sr
              clear Sr
              go_wp2_with fail
              go_ret
              exact ⟨rfl, H7.out.toBelow hJJ⟩
end Go.Proofs.YtgnoojphbnfjbaaDoor
