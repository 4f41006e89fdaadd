/- SealJoined, walked. -/
import Derived.Test.YtgnoojphbnfjbaaDoorSealP
namespace Go.Proofs.YtgnoojphbnfjbaaDoor
open Go.RowKit
set_option linter.unusedVariables false
theorem cut_q {w : World} (s : ByteArray) (n : Nat) {t : ByteArray} (hn : n ≤ 100000) (hs : s.size ≤ 9223372036854775807) (ht : s.extract 0 n = t) :
    Calls Tryd.prog 9 #[.string s, .int .i64 (n : Int)] w fun e w' => e = .returned (.string t) ∧ ∃ k, w' = w.drewN k := by
  subst ht
  exact (cut_eq w s n hn hs).mono fun e w' ⟨h1, h2⟩ => ⟨h1, 0, by subst h2; rfl⟩
structure Lists (ss : List ByteArray) (cs : List (List UInt8)) : Prop where
  n : cs.length ≤ 6
  c : ∀ c ∈ cs, c.length ≤ 50
  g : ∀ i (h : i < cs.length), ∃ h2 : i < ss.length, ss[i].size ≤ 9223372036854775807 ∧ ss[i].extract 0 50 = ⟨cs[i].toArray⟩
theorem lists_of (ss : List ByteArray) (hss : ∀ s ∈ ss, s.size ≤ 9223372036854775807) : Lists ss (cutsL ss 6 50) := by
  have hcl : (cutsL ss 6 50).length = min 6 ss.length := cutsL_len ss 6 50
  refine ⟨by omega, cutsL_le ss 6 50, fun i h => ?_⟩
  have h2 : i < ss.length := by omega
  refine ⟨h2, hss _ (List.getElem_mem _), ?_⟩
  have h3 := cutsL_get ss 6 50 i (by omega)
  rw [List.getElem?_eq_getElem h] at h3
  rw [Option.some.inj h3]
theorem size_laid (cs : List (List UInt8)) : (⟨(laidL cs).toArray⟩ : ByteArray).size = (laidL cs).length := by simp [ByteArray.size]
set_option maxRecDepth 100000 in
set_option maxHeartbeats 4000000 in
theorem sealJoined_walk (la : Option Addr) (len cap : Nat) (lb : Option Addr) (len2 cap2 : Nat) (w : World) (hT : Rd (wpart w) (some ⟨0, 0, none⟩) tabV) (hl : OkT Tryd.prog w 6 33 [.slice la len cap]) (hl2 : OkT Tryd.prog w 6 33 [.slice lb len2 cap2]) :
    Calls Tryd.prog 7 #[.slice la len cap, .slice lb len2 cap2] w (RetB (.bool true) w.heap.size w) := by
  obtain ⟨hlc, hcm, ss, hsl, hrd, hss⟩ := okT_strs hl
  obtain ⟨hlc2, hcm2, ss2, hsl2, hrd2, hss2⟩ := okT_strs hl2
  have H0 := hid (Sat.start w)
  have HT := hid hT
  clear hT hl hl2
  obtain ⟨cs, hcs⟩ : ∃ cs, cutsL ss 6 50 = cs := ⟨_, rfl⟩
  obtain ⟨ds, hds⟩ : ∃ ds, cutsL ss2 6 50 = ds := ⟨_, rfl⟩
  have hL1 := lists_of ss hss
  have hL2 := lists_of ss2 hss2
  rw [hcs] at hL1
  rw [hds] at hL2
  have hn1 := hL1.n
  have hn2 := hL2.n
  have hll1 := laidL_len cs hL1.c
  have hll2 := laidL_len ds hL2.c
  have L1 := hid hL1
  have L2 := hid hL2
  have HRD := hid hrd
  have HRD2 := hid hrd2
  have HCS := hid hcs
  have HDS := hid hds
  have HSS := hid hss
  have HSL := hid hsl
  have HSS2 := hid hss2
  have HSL2 := hid hsl2
  clear hrd hrd2 hcs hds hss hsl hss2 hsl2 hL1 hL2
  go_enter Tryd.func7, Tryd.ntmps7
  go_wp2_with fail
  refine (laid_sat HT.out la len cap ss HSL.out HRD.out HSS.out hlc hcm HCS.out H0.out).mono ?_; rintro e w1 ⟨J, ad, cp, rfl, hc1, hc2, hJ, hre, S1⟩
  have H1 := hid S1
  have HTJ := hid (HT.out.mono hJ)
  have HRDJ := hid (HRD.out.mono hJ)
  have HRDJ2 := hid (HRD2.out.mono hJ)
  clear S1 H0 hre HT HRD HRD2
  go_wp2_with fail
  refine (laid_sat HTJ.out lb len2 cap2 ss2 HSL2.out HRDJ2.out HSS2.out hlc2 hcm2 HDS.out H1.out).mono ?_; rintro e w2 ⟨K, ad2, cp2, rfl, hd1, hd2, hK, hre2, S2⟩
  have H2 := hid S2
  have HTK := hid (HTJ.out.mono hK)
  have HRDK := hid (HRDJ.out.mono hK)
  have HRDK2 := hid (HRDJ2.out.mono hK)
  have hJK := Part.le_trans hJ hK
  clear S2 H1 hre2 HTJ HRDJ HRDJ2
  obtain ⟨s, hs⟩ : ∃ s : ByteArray, (⟨(laidL cs).toArray⟩ : ByteArray) = s := ⟨_, rfl⟩
  obtain ⟨t, ht⟩ : ∃ t : ByteArray, (⟨(laidL ds).toArray⟩ : ByteArray) = t := ⟨_, rfl⟩
  have zs : s.size = (laidL cs).length := by rw [← hs]; exact size_laid cs
  have zt : t.size = (laidL ds).length := by rw [← ht]; exact size_laid ds
  have hst : (s ++ t).data.toList = laidL (cs ++ ds) := by rw [← hs, ← ht, baApp, laidL_app]
  have hls : (laidL (cs ++ ds)).length = s.size + t.size := by rw [laidL_app, List.length_append, zs, zt]
  rw [hs, ht]
  obtain ⟨u, hu⟩ : ∃ u, s ++ t = u := ⟨_, rfl⟩
  rw [hu] at hst
  have hsc : scanR u.data.toList = (cs ++ ds, s.size + t.size) := by
    rw [hst, scanR_laid (cs ++ ds) (fun c hc => by rcases List.mem_append.1 hc with h | h; exact L1.out.c c h; exact L2.out.c c h), hls]
  have zu : u.size ≤ 1048576 := by
    have h1 := openR_ba u
    rw [hst, hls] at h1; omega
  obtain ⟨N, hN⟩ : ∃ N, s.size + t.size = N := ⟨_, rfl⟩
  rw [hN] at hsc
  have hNI : (s.size : Int) + (t.size : Int) = (N : Int) := by omega
  have hNb : (N : Int) ≤ 1048576 := by omega
  obtain ⟨m, hm⟩ : ∃ m, (cs ++ ds).length = m := ⟨_, rfl⟩
  have hm2 : cs.length + ds.length = m := by rw [← hm, List.length_append]
  have hmI : (cs.length : Int) + (ds.length : Int) = (m : Int) := by omega
  have hl1 : ¬ 9223372036854775807 < s.size + t.size := by omega
  have HSC := hid hsc
  have HM := hid hm
  have HU := hid hu
  have HNI := hid hNI
  have HMI := hid hmI
  have HM2 := hid hm2
  have hmb : m ≤ 12 := by omega
  clear hs ht zs zt hst hls hll1 hll2 hsc hm hu hN hNI hm2 hmI
  go_wp2_with fail
  rw [HU.out]
  refine (scan_sat HTK.out u zu HSC.out H2.out).mono ?_; rintro e w3 ⟨J3, ad3, cp3, rfl, hg1, hg2, hJ3, hrg, S3⟩
  rw [HM.out] at hg1 ⊢
  have H3 := hid S3
  have HRG := hid hrg
  have HT3 := hid (HTK.out.mono hJ3)
  have HR1 := hid (HRDK.out.mono hJ3)
  have HR2 := hid (HRDK2.out.mono hJ3)
  have hJJ := Part.le_trans hJK hJ3
  clear S3 hrg H2 HTK HRDK HRDK2
  go_wp2_with fail
  refine (sawake_sat HT3.out H3.out).mono ?_; rintro e w4 ⟨rfl, S4⟩
  have H4 := hid S4
  clear S4 H3
  have hNI := HNI.out
  have hmI := HMI.out
  go_wp2_with fail
  clear hNI hmI
  have hcp3I : (m : Int) ≤ (cp3 : Int) := by omega
  go_loopw [11, 53] (fun _ i wr => ∃ q : Nat, q ≤ cs.length ∧ i = .int .i64 (q : Int) ∧ Sat w J3 [] wr) (fun _ i _ => cs.length - (intOf i).toNat)
  case atStart => exact ⟨0, Nat.zero_le _, rfl, H4.out⟩
  case round =>
    clear H4
    obtain ⟨q, hq, rfl, Sr⟩ := hrel
    by_cases hlt : q < cs.length
    · obtain ⟨hqs, hsm, hcut⟩ := L1.out.g q hlt
      obtain ⟨b5, off5, rfl, c5⟩ := HRG.out.get Sr q (u := lv cs[q]) (by rw [List.getElem?_map, List.getElem?_append_left hlt, List.getElem?_eq_getElem hlt]; rfl)
      obtain ⟨b6, off6, rfl, c6⟩ := HR1.out.get Sr q (u := .string ss[q]) (by simp [hqs])
      have H7 := hid Sr
      have hq1 : (q : Int) < (cs.length : Int) := by omega
      have hq2 : (q : Int) < (len : Int) := by have := HSL.out; omega
      have hq3 : (q : Int) < (m : Int) := by have := HM2.out; omega
      have hq0 : (0 : Int) ≤ (q : Int) := by omega
      have hlv : lv cs[q] = .string ⟨cs[q].toArray⟩ := rfl
      rw [hlv] at c5
      obtain ⟨x, hx⟩ : ∃ x : ByteArray, (⟨cs[q].toArray⟩ : ByteArray) = x := ⟨_, rfl⟩
      rw [hx] at c5 hcut
      generalize ss[q] = y at *
      have HCUT := hid hcut
      clear Sr hlv hx hcut
      go_wp2_with fail
      go_quiet ((go_at_call 9; exact Calls.quiet_of (cut_q y 50 (by omega) hsm HCUT.out)))
      go_wp2_with fail
      go_roundw
      case rel => exact ⟨q + 1, by omega, by go_num, H7.out.drewN _⟩
      case measure => (simp [intOf] <;> omega)
    · obtain rfl : q = cs.length := by omega
      have H5 := hid Sr
      clear Sr
      go_wp2_with fail
      go_loopw [12, 69] (fun _ i wr => ∃ q : Nat, q ≤ ds.length ∧ i = .int .i64 (q : Int) ∧ Sat w J3 [] wr) (fun _ i _ => ds.length - (intOf i).toNat)
      case atStart => exact ⟨0, Nat.zero_le _, rfl, H5.out⟩
      case round =>
        clear H5
        obtain ⟨q, hq, rfl, Sr⟩ := hrel
        by_cases hlt : q < ds.length
        · obtain ⟨hqs, hsm, hcut⟩ := L2.out.g q hlt
          obtain ⟨k, hk⟩ : ∃ k, cs.length + q = k := ⟨_, rfl⟩
          obtain ⟨b5, off5, rfl, c5⟩ := HRG.out.get Sr k (u := lv ds[q]) (by rw [List.getElem?_map, List.getElem?_append_right (by omega), show k - cs.length = q by omega, List.getElem?_eq_getElem hlt]; rfl)
          obtain ⟨b6, off6, rfl, c6⟩ := HR2.out.get Sr q (u := .string ss2[q]) (by simp [hqs])
          have H7 := hid Sr
          have hq1 : (q : Int) < (ds.length : Int) := by omega
          have hq2 : (q : Int) < (len2 : Int) := by have := HSL2.out; omega
          have hk3 : (k : Int) < (m : Int) := by have := HM2.out; omega
          have hk0 : (0 : Int) ≤ (k : Int) := by omega
          have hq0 : (0 : Int) ≤ (q : Int) := by omega
          have hkb : (q : Int) + 1 ≤ 1000 := by omega
          have hlv : lv ds[q] = .string ⟨ds[q].toArray⟩ := rfl
          rw [hlv] at c5
          obtain ⟨x, hx⟩ : ∃ x : ByteArray, (⟨ds[q].toArray⟩ : ByteArray) = x := ⟨_, rfl⟩
          rw [hx] at c5 hcut
          generalize ss2[q] = y at *
          have HCUT := hid hcut
          have s1 : IntKind.i64.wrap ((cs.length : Int) + (q : Int)) = (k : Int) := by rw [IntWalk.i64_in _ (by omega)]; omega
          clear Sr hlv hx hcut hk
          go_wp2_with fail
          go_quiet ((go_at_call 9; exact Calls.quiet_of (cut_q y 50 (by decide) hsm HCUT.out)))
          clear s1
          go_wp2_with fail
          go_roundw
          case rel => exact ⟨q + 1, by omega, by go_num, H7.out.drewN _⟩
          case measure => (simp [intOf] <;> omega)
        · obtain rfl : q = ds.length := by omega
          have H7 := hid Sr
          clear Sr
          go_wp2_with fail
          go_ret
          exact ⟨rfl, H7.out.toBelow hJJ⟩
end Go.Proofs.YtgnoojphbnfjbaaDoor
