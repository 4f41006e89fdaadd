/- SealOpens, walked. -/
import Derived.Test.YtgnoojphbnfjbaaDoorSealX
namespace Go.Proofs.YtgnoojphbnfjbaaDoor
open Go.RowKit
set_option linter.unusedVariables false
theorem openR_none {s c : List UInt8} {n : Nat} {E : Int} (h : openR s = (c, n, E)) (hE : E ≠ 0) : c = [] := by
  unfold openR at h
  split at h
  · cases h; rfl
  · split at h
    · cases h; rfl
    · split at h
      · cases h; rfl
      · split at h
        · cases h; exact absurd rfl hE
        · cases h; rfl
theorem refSum_sat {w0 w : World} {I : Part} {L : List HP} (s : ByteArray) (hs : s.size ≤ 2000000) {R : Nat} (hR : crc s.data.toList = R) (H : Sat w0 I L w) :
    Calls Tryd.prog 20 #[.string s] w fun e w' => e = .returned (.int .u32 (R : Int)) ∧ Sat w0 I L w' := retB_sat (refSum_any w s hs hR) H
theorem refFrame_sat {w0 w : World} {I : Part} {L : List HP} (s : ByteArray) (hs : s.size ≤ 1048576) {C : List UInt8} (hC : frameL s.data.toList = C) (H : Sat w0 I L w) :
    Calls Tryd.prog 21 #[.string s] w fun e w' => e = .returned (.string ⟨C.toArray⟩) ∧ Sat w0 I L w' := retB_sat (refFrame_any w s hs hC) H
set_option maxRecDepth 100000 in
set_option maxHeartbeats 4000000 in
theorem sealOpens_walk (s a b : ByteArray) (w : World) (hT : Rd (wpart w) (some ⟨0, 0, none⟩) tabV) (hs : s.size ≤ 9223372036854775807) (ha : a.size ≤ 9223372036854775807) (hb : b.size ≤ 9223372036854775807) :
    Calls Tryd.prog 8 #[.string s, .string a, .string b] w (RetB (.bool true) w.heap.size w) := by
  have H0 := hid (Sat.start w)
  have HT := hid hT
  clear hT
  obtain ⟨t, ht⟩ : ∃ t, s.extract 0 300 = t := ⟨_, rfl⟩
  obtain ⟨u, hu⟩ : ∃ t, a.extract 0 100 = t := ⟨_, rfl⟩
  obtain ⟨v, hv⟩ : ∃ t, b.extract 0 100 = t := ⟨_, rfl⟩
  have zt : t.size ≤ 300 := by rw [← ht, ByteArray.size_extract]; omega
  have zu : u.size ≤ 100 := by rw [← hu, ByteArray.size_extract]; omega
  have zv : v.size ≤ 100 := by rw [← hv, ByteArray.size_extract]; omega
  have C1 := fun (w2 : World) (H : Sat w (wpart w) [] w2) => cut_sat s 300 (by omega) hs H
  have C2 := fun (w2 : World) (H : Sat w (wpart w) [] w2) => cut_sat a 100 (by omega) ha H
  have C3 := fun (w2 : World) (H : Sat w (wpart w) [] w2) => cut_sat b 100 (by omega) hb H
  rw [ht] at C1
  rw [hu] at C2
  rw [hv] at C3
  have C1 := hid C1
  have C2 := hid C2
  have C3 := hid C3
  rename_i C1o C2o C3o
  clear C1o C2o C3o
  clear ht hu hv
  obtain ⟨c, n, E, hO⟩ : ∃ c n E, openR t.data.toList = (c, n, E) := ⟨_, _, _, rfl⟩
  obtain ⟨G, m, hS⟩ : ∃ G m, scanR t.data.toList = (G, m) := ⟨_, _, rfl⟩
  obtain ⟨d, F, hN⟩ : ∃ d F, onlyR t.data.toList = (d, F) := ⟨_, _, rfl⟩
  obtain ⟨R, hR⟩ : ∃ R, crcS [u, v] = R := ⟨_, rfl⟩
  have hR2 : crc (u ++ v).data.toList = R := by rw [← hR, crcS_eq]; simp
  obtain ⟨P, hP⟩ : ∃ P, frameL (u ++ v).data.toList = P := ⟨_, rfl⟩
  have hP2 : flatS [u, v] = (u ++ v).data.toList := by simp [flatS]
  have HO := hid hO
  have HSC := hid hS
  have HN := hid hN
  have HR := hid hR
  have HR2 := hid hR2
  have HP := hid hP
  have HP2 := hid hP2
  have ZT := hid zt
  have ZU := hid zu
  have ZV := hid zv
  unfold onlyR at hN
  rw [hO, openR_ba] at hN
  have luv : ¬ 9223372036854775807 < u.size + v.size := by omega
  have hz2 : (u ++ v).size ≤ 1048576 := by simp; omega
  have HZ2 := hid hz2
  clear hS hR hR2 hP hP2 hz2 zu zv hs ha hb
  simp only at hN
  by_cases hE : E = 0
  · rw [if_pos hE] at hN
    subst hE
    by_cases hlt : n < t.size
    · rw [if_pos hlt] at hN
      cases hN
      have hd : (n : Int) < (t.size : Int) := by omega
      clear hO
      go_enter Tryd.func8, Tryd.ntmps8
      go_wp2_with fail
      refine (C1.out _ H0.out).mono ?_; rintro e w1 ⟨rfl, S1⟩
      have H1 := hid S1
      clear S1 H0
      go_wp2_with fail
      refine (C2.out _ H1.out).mono ?_; rintro e w2 ⟨rfl, S2⟩
      have H2 := hid S2
      clear S2 H1
      go_wp2_with fail
      refine (C3.out _ H2.out).mono ?_; rintro e w3 ⟨rfl, S3⟩
      have H3 := hid S3
      clear S3 H2
      go_wp2_with fail
      refine (open_sat HT.out t (by have := ZT.out; omega) HO.out H3.out).mono ?_; rintro e w4 ⟨rfl, S4⟩
      have H4 := hid S4
      clear S4 H3
      go_wp2_with fail
      refine (refOpen_sat t (by have := ZT.out; omega) HO.out H4.out).mono ?_; rintro e w5 ⟨rfl, S5⟩
      have H5 := hid S5
      clear S5 H4
      go_wp2_with fail
      refine (scan_sat HT.out t (by have := ZT.out; omega) HSC.out H5.out).mono ?_; rintro e w6 ⟨J, ad, cp, rfl, hc1, hc2, hJ, hr1, S6⟩
      have H6 := hid S6
      have HG := hid hr1
      clear S6 hr1 H5
      go_wp2_with fail
      refine (refScan_sat t (by have := ZT.out; omega) HSC.out H6.out).mono ?_; rintro e w7 ⟨J2, ad2, cp2, rfl, hd1, hd2, hJ2, hr2, S7⟩
      have H7 := hid S7
      have HG2 := hid hr2
      have HTJ := hid ((HT.out.mono hJ).mono hJ2)
      clear S7 hr2 H6
      go_wp2_with fail
      refine (only_sat HTJ.out t (by have := ZT.out; omega) HN.out H7.out).mono ?_; rintro e w8 ⟨rfl, S8⟩
      have H8 := hid S8
      clear S8 H7
      go_wp2_with fail
      refine (sawake_sat HTJ.out H8.out).mono ?_; rintro e w9 ⟨rfl, S9⟩
      have H9 := hid S9
      clear S9 H8
      go_wp2_with fail
      refine (same_sat ad ad2 _ cp cp2 G rfl hc1 hc2 hd1 hd2 (HG.out.mono hJ2) HG2.out H9.out).mono ?_; rintro e w10 ⟨rfl, S10⟩
      have H10 := hid S10
      clear S10 H9
      go_wp2_with fail
      obtain ⟨g, hg⟩ := H10.out.sizeEx
      have S11 : Sat w J2 (blk g 9 [.string u, .string v] :: []) _ := H10.out.alloc rfl hg.symm
      rw [hg]
      clear hg
      obtain ⟨J3, hJ3, S12, hrd⟩ := S11.freezeBlk
      have H12 := hid S12
      have HRD := hid (show Rd J3 (some ⟨g, 0, none⟩) ([u, v].map Value.string) from hrd)
      have HT3 := hid (HTJ.out.mono hJ3)
      clear S11 S12 hrd H10
      refine (sum_eq HT3.out (some ⟨g, 0, none⟩) 2 2 [u, v] rfl HRD.out (by omega) (by omega) (fun s hs => by
        have h1 := ZU.out; have h2 := ZV.out
        simp at hs; rcases hs with rfl | rfl <;> omega) HR.out H12.out).mono ?_; rintro e w11 ⟨rfl, S13⟩
      have H13 := hid S13
      clear S13 H12 HRD
      go_wp2_with fail
      refine (refSum_sat (u ++ v) (by have := HZ2.out; omega) HR2.out H13.out).mono ?_; rintro e w12 ⟨rfl, S14⟩
      have H14 := hid S14
      clear S14 H13
      go_wp2_with fail
      obtain ⟨g2, hg2⟩ := H14.out.sizeEx
      have S15 : Sat w J3 (blk g2 9 [.string u, .string v] :: []) _ := H14.out.alloc rfl hg2.symm
      rw [hg2]
      clear hg2
      obtain ⟨J4, hJ4, S16, hrd2⟩ := S15.freezeBlk
      have H16 := hid S16
      have HRD2 := hid (show Rd J4 (some ⟨g2, 0, none⟩) ([u, v].map Value.string) from hrd2)
      have HT4 := hid (HT3.out.mono hJ4)
      clear S15 S16 hrd2 H14
      refine (frame_sat HT4.out (some ⟨g2, 0, none⟩) 2 2 [u, v] rfl HRD2.out (by omega) (by omega) (by omega) (by omega) HP2.out (by have := HZ2.out; rw [openR_ba]; exact this) H16.out).mono ?_; rintro e w13 ⟨rfl, S17⟩
      have H17 := hid S17
      clear S17 H16 HRD2
      rw [HP.out]
      go_wp2_with fail
      refine (refFrame_sat (u ++ v) HZ2.out HP.out H17.out).mono ?_; rintro e w14 ⟨rfl, S18⟩
      have H18 := hid S18
      clear S18 H17
      go_wp2_with fail
      go_ret
      exact ⟨rfl, H18.out.toBelow (Part.le_trans hJ (Part.le_trans hJ2 (Part.le_trans hJ3 hJ4)))⟩
    · rw [if_neg hlt] at hN
      cases hN
      have hd : ¬ (n : Int) < (t.size : Int) := by omega
      clear hO
      go_enter Tryd.func8, Tryd.ntmps8
      go_wp2_with fail
      refine (C1.out _ H0.out).mono ?_; rintro e w1 ⟨rfl, S1⟩
      have H1 := hid S1
      clear S1 H0
      go_wp2_with fail
      refine (C2.out _ H1.out).mono ?_; rintro e w2 ⟨rfl, S2⟩
      have H2 := hid S2
      clear S2 H1
      go_wp2_with fail
      refine (C3.out _ H2.out).mono ?_; rintro e w3 ⟨rfl, S3⟩
      have H3 := hid S3
      clear S3 H2
      go_wp2_with fail
      refine (open_sat HT.out t (by have := ZT.out; omega) HO.out H3.out).mono ?_; rintro e w4 ⟨rfl, S4⟩
      have H4 := hid S4
      clear S4 H3
      go_wp2_with fail
      refine (refOpen_sat t (by have := ZT.out; omega) HO.out H4.out).mono ?_; rintro e w5 ⟨rfl, S5⟩
      have H5 := hid S5
      clear S5 H4
      go_wp2_with fail
      refine (scan_sat HT.out t (by have := ZT.out; omega) HSC.out H5.out).mono ?_; rintro e w6 ⟨J, ad, cp, rfl, hc1, hc2, hJ, hr1, S6⟩
      have H6 := hid S6
      have HG := hid hr1
      clear S6 hr1 H5
      go_wp2_with fail
      refine (refScan_sat t (by have := ZT.out; omega) HSC.out H6.out).mono ?_; rintro e w7 ⟨J2, ad2, cp2, rfl, hd1, hd2, hJ2, hr2, S7⟩
      have H7 := hid S7
      have HG2 := hid hr2
      have HTJ := hid ((HT.out.mono hJ).mono hJ2)
      clear S7 hr2 H6
      go_wp2_with fail
      refine (only_sat HTJ.out t (by have := ZT.out; omega) HN.out H7.out).mono ?_; rintro e w8 ⟨rfl, S8⟩
      have H8 := hid S8
      clear S8 H7
      go_wp2_with fail
      refine (sawake_sat HTJ.out H8.out).mono ?_; rintro e w9 ⟨rfl, S9⟩
      have H9 := hid S9
      clear S9 H8
      go_wp2_with fail
      refine (same_sat ad ad2 _ cp cp2 G rfl hc1 hc2 hd1 hd2 (HG.out.mono hJ2) HG2.out H9.out).mono ?_; rintro e w10 ⟨rfl, S10⟩
      have H10 := hid S10
      clear S10 H9
      go_wp2_with fail
      obtain ⟨g, hg⟩ := H10.out.sizeEx
      have S11 : Sat w J2 (blk g 9 [.string u, .string v] :: []) _ := H10.out.alloc rfl hg.symm
      rw [hg]
      clear hg
      obtain ⟨J3, hJ3, S12, hrd⟩ := S11.freezeBlk
      have H12 := hid S12
      have HRD := hid (show Rd J3 (some ⟨g, 0, none⟩) ([u, v].map Value.string) from hrd)
      have HT3 := hid (HTJ.out.mono hJ3)
      clear S11 S12 hrd H10
      refine (sum_eq HT3.out (some ⟨g, 0, none⟩) 2 2 [u, v] rfl HRD.out (by omega) (by omega) (fun s hs => by
        have h1 := ZU.out; have h2 := ZV.out
        simp at hs; rcases hs with rfl | rfl <;> omega) HR.out H12.out).mono ?_; rintro e w11 ⟨rfl, S13⟩
      have H13 := hid S13
      clear S13 H12 HRD
      go_wp2_with fail
      refine (refSum_sat (u ++ v) (by have := HZ2.out; omega) HR2.out H13.out).mono ?_; rintro e w12 ⟨rfl, S14⟩
      have H14 := hid S14
      clear S14 H13
      go_wp2_with fail
      obtain ⟨g2, hg2⟩ := H14.out.sizeEx
      have S15 : Sat w J3 (blk g2 9 [.string u, .string v] :: []) _ := H14.out.alloc rfl hg2.symm
      rw [hg2]
      clear hg2
      obtain ⟨J4, hJ4, S16, hrd2⟩ := S15.freezeBlk
      have H16 := hid S16
      have HRD2 := hid (show Rd J4 (some ⟨g2, 0, none⟩) ([u, v].map Value.string) from hrd2)
      have HT4 := hid (HT3.out.mono hJ4)
      clear S15 S16 hrd2 H14
      refine (frame_sat HT4.out (some ⟨g2, 0, none⟩) 2 2 [u, v] rfl HRD2.out (by omega) (by omega) (by omega) (by omega) HP2.out (by have := HZ2.out; rw [openR_ba]; exact this) H16.out).mono ?_; rintro e w13 ⟨rfl, S17⟩
      have H17 := hid S17
      clear S17 H16 HRD2
      rw [HP.out]
      go_wp2_with fail
      refine (refFrame_sat (u ++ v) HZ2.out HP.out H17.out).mono ?_; rintro e w14 ⟨rfl, S18⟩
      have H18 := hid S18
      clear S18 H17
      go_wp2_with fail
      go_ret
      exact ⟨rfl, H18.out.toBelow (Part.le_trans hJ (Part.le_trans hJ2 (Part.le_trans hJ3 hJ4)))⟩
  · rw [if_neg hE] at hN
    have hc := openR_none hO hE
    subst hc
    cases hN
    have hd : (E == 0) = false := by simpa using hE
    clear hO hE
    go_enter Tryd.func8, Tryd.ntmps8
    go_wp2_with fail
    refine (C1.out _ H0.out).mono ?_; rintro e w1 ⟨rfl, S1⟩
    have H1 := hid S1
    clear S1 H0
    go_wp2_with fail
    refine (C2.out _ H1.out).mono ?_; rintro e w2 ⟨rfl, S2⟩
    have H2 := hid S2
    clear S2 H1
    go_wp2_with fail
    refine (C3.out _ H2.out).mono ?_; rintro e w3 ⟨rfl, S3⟩
    have H3 := hid S3
    clear S3 H2
    go_wp2_with fail
    refine (open_sat HT.out t (by have := ZT.out; omega) HO.out H3.out).mono ?_; rintro e w4 ⟨rfl, S4⟩
    have H4 := hid S4
    clear S4 H3
    go_wp2_with fail
    refine (refOpen_sat t (by have := ZT.out; omega) HO.out H4.out).mono ?_; rintro e w5 ⟨rfl, S5⟩
    have H5 := hid S5
    clear S5 H4
    go_wp2_with fail
    refine (scan_sat HT.out t (by have := ZT.out; omega) HSC.out H5.out).mono ?_; rintro e w6 ⟨J, ad, cp, rfl, hc1, hc2, hJ, hr1, S6⟩
    have H6 := hid S6
    have HG := hid hr1
    clear S6 hr1 H5
    go_wp2_with fail
    refine (refScan_sat t (by have := ZT.out; omega) HSC.out H6.out).mono ?_; rintro e w7 ⟨J2, ad2, cp2, rfl, hd1, hd2, hJ2, hr2, S7⟩
    have H7 := hid S7
    have HG2 := hid hr2
    have HTJ := hid ((HT.out.mono hJ).mono hJ2)
    clear S7 hr2 H6
    go_wp2_with fail
    refine (only_sat HTJ.out t (by have := ZT.out; omega) HN.out H7.out).mono ?_; rintro e w8 ⟨rfl, S8⟩
    have H8 := hid S8
    clear S8 H7
    go_wp2_with fail
    refine (sawake_sat HTJ.out H8.out).mono ?_; rintro e w9 ⟨rfl, S9⟩
    have H9 := hid S9
    clear S9 H8
    go_wp2_with fail
    refine (same_sat ad ad2 _ cp cp2 G rfl hc1 hc2 hd1 hd2 (HG.out.mono hJ2) HG2.out H9.out).mono ?_; rintro e w10 ⟨rfl, S10⟩
    have H10 := hid S10
    clear S10 H9
    go_wp2_with fail
    obtain ⟨g, hg⟩ := H10.out.sizeEx
    have S11 : Sat w J2 (blk g 9 [.string u, .string v] :: []) _ := H10.out.alloc rfl hg.symm
    rw [hg]
    clear hg
    obtain ⟨J3, hJ3, S12, hrd⟩ := S11.freezeBlk
    have H12 := hid S12
    have HRD := hid (show Rd J3 (some ⟨g, 0, none⟩) ([u, v].map Value.string) from hrd)
    have HT3 := hid (HTJ.out.mono hJ3)
    clear S11 S12 hrd H10
    refine (sum_eq HT3.out (some ⟨g, 0, none⟩) 2 2 [u, v] rfl HRD.out (by omega) (by omega) (fun s hs => by
      have h1 := ZU.out; have h2 := ZV.out
      simp at hs; rcases hs with rfl | rfl <;> omega) HR.out H12.out).mono ?_; rintro e w11 ⟨rfl, S13⟩
    have H13 := hid S13
    clear S13 H12 HRD
    go_wp2_with fail
    refine (refSum_sat (u ++ v) (by have := HZ2.out; omega) HR2.out H13.out).mono ?_; rintro e w12 ⟨rfl, S14⟩
    have H14 := hid S14
    clear S14 H13
    go_wp2_with fail
    obtain ⟨g2, hg2⟩ := H14.out.sizeEx
    have S15 : Sat w J3 (blk g2 9 [.string u, .string v] :: []) _ := H14.out.alloc rfl hg2.symm
    rw [hg2]
    clear hg2
    obtain ⟨J4, hJ4, S16, hrd2⟩ := S15.freezeBlk
    have H16 := hid S16
    have HRD2 := hid (show Rd J4 (some ⟨g2, 0, none⟩) ([u, v].map Value.string) from hrd2)
    have HT4 := hid (HT3.out.mono hJ4)
    clear S15 S16 hrd2 H14
    refine (frame_sat HT4.out (some ⟨g2, 0, none⟩) 2 2 [u, v] rfl HRD2.out (by omega) (by omega) (by omega) (by omega) HP2.out (by have := HZ2.out; rw [openR_ba]; exact this) H16.out).mono ?_; rintro e w13 ⟨rfl, S17⟩
    have H17 := hid S17
    clear S17 H16 HRD2
    rw [HP.out]
    go_wp2_with fail
    refine (refFrame_sat (u ++ v) HZ2.out HP.out H17.out).mono ?_; rintro e w14 ⟨rfl, S18⟩
    have H18 := hid S18
    clear S18 H17
    go_wp2_with fail
    go_ret
    exact ⟨rfl, H18.out.toBelow (Part.le_trans hJ (Part.le_trans hJ2 (Part.le_trans hJ3 hJ4)))⟩
end Go.Proofs.YtgnoojphbnfjbaaDoor
