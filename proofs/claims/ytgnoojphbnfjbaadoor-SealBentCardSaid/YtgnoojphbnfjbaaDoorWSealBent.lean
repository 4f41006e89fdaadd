/- SealBent, walked. -/
import Derived.Test.YtgnoojphbnfjbaaDoorSealB
import Derived.Test.YtgnoojphbnfjbaaDoorBytes
import Derived.Deep.CutBlock
import Derived.Deep.DeepCutAuto
namespace Go.Proofs.YtgnoojphbnfjbaaDoor
open Go.RowKit
set_option linter.unusedVariables false
theorem wf_u32 {n : Int} (h : (Lit.int .u32 n).wf = true) : 0 ≤ n ∧ n ≤ 4294967295 := by
  simp [Lit.wf, IntKind.min, IntKind.max, IntKind.bits, IntKind.signed] at h; omega
theorem xorB_int (V q : Nat) : (V : Int) / 2 ^ (8 * q) % 256 = ((xorB V q).toNat : Int) := by
  have e : (V : Int) / 2 ^ (8 * q) % 256 = ((V / 2 ^ (8 * q) % 256 : Nat) : Int) := by simp
  rw [e]; unfold xorB
  rw [mod_toNat _ (Nat.mod_lt _ (by omega))]
theorem xor_int (c : UInt8) (V q : Nat) : bits .xor .u8 (c.toNat : Int) ((V : Int) / 2 ^ (8 * q) % 256) = ((c ^^^ xorB V q).toNat : Int) := by
  rw [xorB_int, u8_xor_nat _ _ (u8_lt c) (u8_lt _), UInt8.toNat_xor]
theorem xorB_ne (V q : Nat) : ((V : Int) / 2 ^ (8 * q) % 256 != 0) = (xorB V q != 0) := by
  rw [xorB_int]
  by_cases h : xorB V q = 0
  · rw [h]; rfl
  · have h2 : (xorB V q).toNat ≠ 0 := fun e => h (UInt8.toNat.inj e)
    have h3 : (((xorB V q).toNat : Int) != 0) = true := by simp [h2]
    have h4 : (xorB V q != 0) = true := by simp [h]
    rw [h3, h4]
set_option maxRecDepth 100000 in
set_option maxHeartbeats 4000000 in
theorem sealBent_walk (la : Option Addr) (len cap : Nat) (which at_ : Int) (sum : Bool) (by_ : Int) (w : World) (hT : Rd (wpart w) (some ⟨0, 0, none⟩) tabV) (hl : OkT Tryd.prog w 6 33 [.slice la len cap]) (hw1 : (Lit.int .i64 which).wf = true) (hw2 : (Lit.int .i64 at_).wf = true) (hw3 : (Lit.int .u32 by_).wf = true) :
    Calls Tryd.prog 6 #[.slice la len cap, .int .i64 which, .int .i64 at_, .bool sum, .int .u32 by_] w (RetB (.bool true) w.heap.size w) := by
  obtain ⟨hlc, hcm, ss, hsl, hrd, hss⟩ := okT_strs hl
  have hb1 := wf_i64 hw1
  have hb2 := wf_i64 hw2
  have hb3 := wf_u32 hw3
  have H0 := hid (Sat.start w)
  have HT := hid hT
  clear hT hl hw1 hw2 hw3
  obtain ⟨cs, hcs⟩ : ∃ cs, cutsL ss 6 50 = cs := ⟨_, rfl⟩
  have hcl : cs.length = min 6 ss.length := by rw [← hcs, cutsL_len]
  have hc50 : ∀ c ∈ cs, c.length ≤ 50 := by rw [← hcs]; exact cutsL_le ss 6 50
  have hll := laidL_len cs hc50
  have HRD := hid hrd
  have HCS := hid hcs
  have HC50 := hid hc50
  have HSS := hid hss
  have HSL := hid hsl
  have hlenC : cs.length ≤ 6 := by omega
  clear hrd hcs hc50 hcl hss hsl
  obtain ⟨V, rfl⟩ := Int.eq_ofNat_of_zero_le hb3.1
  go_enter Tryd.func6, Tryd.ntmps6
  go_wp2_with fail
  refine (laid_sat HT.out la len cap ss HSL.out HRD.out HSS.out hlc hcm HCS.out H0.out).mono ?_; rintro e w1 ⟨J, ad, cp, rfl, hc1, hc2, hJ, hre, S1⟩
  have H1 := hid S1
  have HTJ := hid (HT.out.mono hJ)
  have HRE := hid hre
  obtain ⟨s, hs⟩ : ∃ s : ByteArray, (⟨(laidL cs).toArray⟩ : ByteArray) = s := ⟨_, rfl⟩
  have hsd : s.data.toList = laidL cs := by rw [← hs]
  have hsz : s.size = (laidL cs).length := by rw [← hs]; simp [ByteArray.size]
  rw [hs]
  have HSD := hid hsd
  have hsb : s.size ≤ 348 := by omega
  have HSZ := hid hsz
  clear S1 H0 hre hs hsd HT HRD hll hsz
  go_wp2_with fail
  refine (sawake_sat HTJ.out H1.out).mono ?_; rintro e w2 ⟨rfl, S2⟩
  have H2 := hid S2
  clear S2 H1
  by_cases hneg : which < 0
  · go_wp2_with fail
    refine (sawake_sat HTJ.out H2.out).mono ?_; rintro e w3 ⟨rfl, S3⟩
    have H3 := hid S3
    clear S3 H2
    go_wp2_with fail
    go_ret
    exact ⟨rfl, H3.out.toBelow hJ⟩
  · obtain ⟨k, rfl⟩ := Int.eq_ofNat_of_zero_le (by omega : 0 ≤ which)
    by_cases hbig : k < cs.length
    · have hkd : decide (cs.length ≤ k) = false := by simp; omega
      by_cases hat : at_ < 0
      · go_wp2_with fail
        refine (sawake_sat HTJ.out H2.out).mono ?_; rintro e w3 ⟨rfl, S3⟩
        have H3 := hid S3
        clear S3 H2
        go_wp2_with fail
        go_ret
        exact ⟨rfl, H3.out.toBelow hJ⟩
      · obtain ⟨a, rfl⟩ := Int.eq_ofNat_of_zero_le (by omega : 0 ≤ at_)
        have hk0 : (0 : Int) ≤ (k : Int) := by omega
        have ha0 : (0 : Int) ≤ (a : Int) := by omega
        have hkI : (k : Int) < (cs.length : Int) := by omega
        have hbe : begL cs k ≤ 348 ∧ endL cs k ≤ 348 ∧ begL cs k + 8 ≤ endL cs k := by
          have h1 := cs_split cs k hbig
          have h2 := congrArg List.length h1
          rw [List.length_append, List.length_append, frameL_len] at h2
          have h3 : endL cs k = begL cs k + (cs[k].length + 8) := by
            unfold endL begL
            rw [List.take_succ_eq_append_getElem hbig, laidL_app, List.length_append]
            congr 1
            show (frameL cs[k] ++ []).length = _
            rw [List.append_nil, frameL_len]
          have h4 := HSZ.out
          unfold begL at *
          omega
        obtain ⟨B0, hB0⟩ : ∃ B, begL cs k = B := ⟨_, rfl⟩
        obtain ⟨E0, hE0⟩ : ∃ E, endL cs k = E := ⟨_, rfl⟩
        rw [hB0, hE0] at hbe
        have HB0 := hid hB0
        have HE0 := hid hE0
        have hbeg : 0 < k → ∃ j, k = j + 1 ∧ endL cs j = B0 := fun h => ⟨k - 1, by omega, by rw [← hB0]; obtain ⟨j, rfl⟩ : ∃ j, k = j + 1 := ⟨k - 1, by omega⟩; rfl⟩
        have hz : k = 0 → B0 = 0 := fun h => by rw [← hB0, h]; simp [begL, laidL]
        have HBEG := hid hbeg
        have HZ := hid hz
        clear hB0 hE0 hbeg hz hneg hat
        have ck := fun (L : List HP) (w' : World) (S : Sat w J L w') => HRE.out.get S k (endsV_get cs k hbig)
        have hcellj : ∀ j, j < cs.length → ∀ (L : List HP) (w' : World) (S : Sat w J L w'), _ := fun j hj L w' S => HRE.out.get S j (endsV_get cs j hj)
        rw [HE0.out] at ck
        have CK := hid ck
        have CJ := hid hcellj
        clear ck hcellj
        go_upto_if 44 with fail
        go_cut [13] (fun b wx => b = .int .i64 (B0 : Int) ∧ wx = w2)
        case first =>
          by_cases hkp : 0 < k
          · obtain ⟨j, hkj, hj⟩ := HBEG.out hkp
            obtain ⟨b3, off3, rfl, c3⟩ := CJ.out j (by omega) _ _ H2.out
            rw [hj] at c3
            have hd : decide (0 < k) = true := by simpa using hkp
            have hkj1 : (k : Int) - 1 = (j : Int) := by omega
            have hj0 : (0 : Int) ≤ (j : Int) := by omega
            have hj1 : (j : Int) < (cs.length : Int) := by omega
            clear hkj hj
            go_wp2_with fail
            go_meet
            exact ⟨rfl, rfl⟩
          · have hd : decide (0 < k) = false := by simpa using hkp
            have h0 := HZ.out (by omega)
            have H00 := hid h0
            clear h0
            go_wp2_with fail
            go_meet
            exact ⟨by rw [H00.out]; rfl, rfl⟩
        case rest =>
          obtain ⟨rfl, rfl⟩ := hcut
          obtain ⟨b4, off4, rfl, c4⟩ := CK.out _ _ H2.out
          obtain ⟨F8, hF8⟩ : ∃ F, B0 + 8 = F := ⟨_, rfl⟩
          have s1 : IntKind.i64.wrap ((B0 : Int) + 8) = (F8 : Int) := by rw [IntWalk.i64_in _ (by omega)]; omega
          go_upto_region 7 with fail
          go_quiet (fail)
          clear s1
          go_upto_if 56 with fail
          obtain ⟨F, hF⟩ : ∃ F, B0 + (if sum then 4 else 8) = F := ⟨_, rfl⟩
          obtain ⟨T, hTt⟩ : ∃ T, (if sum then B0 + 8 else E0) = T := ⟨_, rfl⟩
          have HF := hid hF
          have HTT := hid hTt
          go_cut [14, 15] (fun f t wx => f = .int .i64 (F : Int) ∧ t = .int .i64 (T : Int) ∧ Sat w J [] wx)
          case first =>
            cases sum
            · simp only [Bool.false_eq_true, if_false] at hF hTt
              have h1 : F8 = F := by omega
              have h2 : E0 = T := hTt
              subst h1 h2
              clear hF hTt hF8
              go_wp2_with fail
              go_meet
              exact ⟨rfl, rfl, H2.out.drewN _⟩
            · simp only [if_true] at hF hTt
              have h1 : (B0 : Int) + 4 = (F : Int) := by omega
              have h2 : (B0 : Int) + 8 = (T : Int) := by omega
              clear hF hTt hF8
              go_wp2_with fail
              go_meet
              exact ⟨rfl, rfl, H2.out.drewN _⟩
          case rest =>
            obtain ⟨rfl, rfl, S5⟩ := hcut
            have hFT : F ≤ T ∧ T ≤ 348 := by
              rw [← hF, ← hTt]; cases sum
              · simp only [Bool.false_eq_true, if_false]; omega
              · simp only [if_true]; omega
            have H5 := hid S5
            obtain ⟨D, hD⟩ : ∃ D, T - F = D := ⟨_, rfl⟩
            have hDI : (T : Int) - (F : Int) = (D : Int) := by omega
            clear hF hTt hF8 S5 H2
            by_cases hda : D ≤ a
            · have hd : decide (D ≤ a) = true := by simpa using hda
              have hd2 : (D : Int) ≤ (a : Int) := by omega
              go_wp2_with fail
              go_ret
              exact ⟨rfl, H5.out.toBelow hJ⟩
            · have hd : decide (D ≤ a) = false := by simpa using hda
              have hd2 : ¬ (D : Int) ≤ (a : Int) := by omega
              obtain ⟨o, ho⟩ : ∃ o, F + a = o := ⟨_, rfl⟩
              obtain ⟨m, hm⟩ : ∃ m, min 4 (T - o) = m := ⟨_, rfl⟩
              have hm4 : m ≤ 4 := by omega
              have hoT : o + m ≤ T := by omega
              have hoT2 : o < T := by omega
              obtain ⟨P, M, R, hl1, hl2, hl3, hlaw⟩ := bent_law cs HC50.out k hbig sum o m (by rw [HB0.out, HF.out]; omega) (by have h1 := HTT.out; rw [HB0.out, HE0.out]; omega) hm4
              rw [← HSD.out] at hl1
              have HL1 := hid hl1
              have HL2 := hid hl2
              have HL3 := hid hl3
              have HLAW := hid hlaw
              have HME := hid hm
              have kc := fun (w : World) => run_bytes_of_string (P := Tryd.prog) w 9 26 5 s Tryd.underlying9 Tryd.underlying26 Tryd.underlying5
              clear hl1 hl2 hl3 hlaw hD hda hd2 hm
              go_upto_block 0 with fail
              clear kc
              have H6 := H5.out.bytesNew s (grownCap wc s.size 0 5) rfl
              generalize grownCap wc s.size 0 5 = C at *
              generalize wc.heap.size = g at *
              refine wp_gen (fun w1 => Sat w J [bytesB g s.data.toList] w1) H6 ?_
              clear H6 H5
              intro w6 S6
              rw [HL1.out] at S6
              have H6 := hid S6
              have hPl : P.length = o := HL2.out
              have hMl : M.length = m := HL3.out
              have hsT : T ≤ s.size := by
                have h1 := HTT.out; have h2 := HSZ.out; have h3 := cs_split cs k hbig
                have h4 := congrArg List.length h3
                have h5 := HE0.out; have h6 := HB0.out
                have h7 : endL cs k = begL cs k + (cs[k].length + 8) := by
                  unfold endL begL
                  rw [List.take_succ_eq_append_getElem hbig, laidL_app, List.length_append]
                  congr 1
                  show (frameL cs[k] ++ []).length = _
                  rw [List.append_nil, frameL_len]
                rw [List.length_append, List.length_append, frameL_len] at h4
                unfold begL at *
                rw [← h1]; cases sum
                · simp only [Bool.false_eq_true, if_false]; omega
                · simp only [if_true]; omega
              have HPL := hid hPl
              have HML := hid hMl
              have HST := hid hsT
              clear S6 hPl hMl hsT
              go_cut [17] (fun c wx => c = .bool (chB V m) ∧ Sat w J [bytesB g (P ++ (xM V M 0 ++ R))] wx)
              case first =>
                go_wp2_with fail
                go_loopw [17, 18] (fun ch i wr => ∃ q : Nat, q ≤ m ∧ i = .int .i64 (q : Int) ∧ ch = .bool (chB V q) ∧ Sat w J [bytesB g (P ++ (xM V (M.take q) 0 ++ (M.drop q ++ R)))] wr) (fun _ i _ => m - (intOf i).toNat)
                case atStart => exact ⟨0, Nat.zero_le _, rfl, rfl, by simpa [xM] using H6.out⟩
                case round =>
                  clear H6
                  obtain ⟨q, hq, rfl, rfl, Sr⟩ := hrel
                  have hoI : (F : Int) + (a : Int) = (o : Int) := by omega
                  obtain ⟨n, hn⟩ : ∃ n, o + q = n := ⟨_, rfl⟩
                  have hnI : (o : Int) + (q : Int) = (n : Int) := by omega
                  by_cases hlt : q < m
                  · have hqM : q < M.length := by have := HML.out; omega
                    rw [List.drop_eq_getElem_cons hqM, List.cons_append] at Sr
                    have htk : xM V (M.take (q + 1)) 0 = xM V (M.take q) 0 ++ [M[q] ^^^ xorB V q] := by
                      rw [List.take_succ_eq_append_getElem hqM, xM_snoc, List.length_take, Nat.min_eq_left (by omega), Nat.zero_add]
                    have hAl : (xM V (M.take q) 0).length = q := by rw [xM_len, List.length_take]; omega
                    generalize M[q] = c at *
                    generalize xM V (M.take q) 0 = A at *
                    have hnl : n < (P ++ (A ++ (c :: (M.drop (q + 1) ++ R)))).length := by
                      have := HPL.out
                      simp only [List.length_append, List.length_cons]; omega
                    have hnm : n = P.length + A.length := by have := HPL.out; omega
                    have c0 := Sr.bytesCell n hnl
                    have f0 := Sr.bytesFree n hnl
                    have hgm := get_mid P A (M.drop (q + 1) ++ R) c n hnm hnl
                    rw [hgm] at c0
                    have hn0 : (0 : Int) ≤ (n : Int) := by omega
                    have hns : (n : Int) < (s.size : Int) := by have := HST.out; omega
                    have hq4 : (q : Int) < 4 := by omega
                    have hq0 : (0 : Int) ≤ (q : Int) := by omega
                    have hnT : decide (n < T) = true := by simp; omega
                    have hnT2 : (n : Int) < (T : Int) := by omega
                    have HSR := hid Sr
                    have HTK := hid htk
                    have HNM := hid hnm
                    have HNL := hid hnl
                    clear Sr htk hnm hnl hgm hn
                    go_wp2_with fail
                    have w1 : IntKind.i64.wrap ((F : Int) + (a : Int)) = (o : Int) := by rw [IntWalk.i64_in _ (by omega)]; omega
                    have w2' : IntKind.i64.wrap ((o : Int) + (q : Int)) = (n : Int) := by rw [IntWalk.i64_in _ (by omega)]; omega
                    have x1 := xor_int c V q
                    go_region
                    clear x1 w1 w2'
                    have H7 := hid ((HSR.out.bytesSet n HNL.out (c ^^^ xorB V q)).drew)
                    have hsm := set_mid P A (M.drop (q + 1) ++ R) c (c ^^^ xorB V q) n HNM.out
                    have HSM := hid hsm
                    clear hsm HSR
                    have hbne := xorB_ne V q
                    obtain ⟨bq, hbq⟩ : ∃ b, (xorB V q != 0) = b := ⟨_, rfl⟩
                    rw [hbq] at hbne
                    have hch := chB_succ V q
                    rw [hbq] at hch
                    cases hcq : chB V q
                    · rw [hcq, Bool.false_or] at hch
                      have HCH := hid hch
                      clear hch hcq hbq
                      go_wp2_with fail
                      go_roundw
                      case rel =>
                        refine ⟨q + 1, by omega, by go_num, by rw [HCH.out], ?_⟩
                        have h := H7.out
                        rw [HSM.out] at h
                        rw [HTK.out]; simpa [List.append_assoc] using h
                      case measure => (simp [intOf] <;> omega)
                    · rw [hcq, Bool.true_or] at hch
                      have HCH := hid hch
                      clear hch hcq hbq hbne
                      go_wp2_with fail
                      go_roundw
                      case rel =>
                        refine ⟨q + 1, by omega, by go_num, by rw [HCH.out], ?_⟩
                        have h := H7.out
                        rw [HSM.out] at h
                        rw [HTK.out]; simpa [List.append_assoc] using h
                      case measure => (simp [intOf] <;> omega)
                  · obtain rfl : q = m := by omega
                    rw [← HML.out, List.take_length, List.drop_length, List.nil_append] at Sr
                    have HS7 := hid Sr
                    have hx : (q = 4 ∧ ¬ (q : Int) < 4) ∨ (¬ n < T ∧ (q : Int) < 4) := by have := HME.out; omega
                    clear Sr
                    rcases hx with ⟨-, hx⟩ | ⟨hx, hx2⟩
                    · clear hn
                      go_wp2_with fail
                      go_meet
                      exact ⟨rfl, HS7.out⟩
                    · have hd3 : decide (n < T) = false := by simpa using hx
                      clear hn
                      go_wp2_with fail
                      go_meet
                      exact ⟨rfl, HS7.out⟩
              case rest =>
                obtain ⟨rfl, S7⟩ := hcut
                obtain ⟨Q, hQ⟩ : ∃ Q, P ++ (xM V M 0 ++ R) = Q := ⟨_, rfl⟩
                rw [hQ] at S7
                have hQl : Q.length = s.size := by
                  have h1 := congrArg List.length HL1.out
                  rw [openR_ba] at h1
                  rw [h1, ← hQ]; simp only [List.length_append, xM_len]
                have hconv := S7.bytesStr C s.size hQl
                have H8 := hid S7.drop
                obtain ⟨t, ht⟩ : ∃ t : ByteArray, (⟨Q.toArray⟩ : ByteArray) = t := ⟨_, rfl⟩
                have htl : t.data.toList = Q := by rw [← ht]
                have hts : t.size = s.size := by rw [← openR_ba t, htl, hQl]
                rw [ht] at hconv
                cases hch : chB V m
                · have hno := chB_no hch
                  have hsame : xM V M 0 = M := xM_same V M 0 (fun i hi => by rw [Nat.zero_add]; exact hno i (by have := HML.out; omega))
                  have hsc : scanR t.data.toList = (cs, s.size) := by
                    rw [htl, ← hQ, hsame, ← HL1.out, HSD.out, scanR_laid cs HC50.out, HSZ.out]
                  have HSC := hid hsc
                  clear S7 hQ hQl ht htl hch hno hsame hsc H6
                  go_wp2_with fail
                  refine (scan_sat HTJ.out t (by omega) HSC.out H8.out).mono ?_; rintro e w9 ⟨J2, ad2, cp2, rfl, hg1, hg2, hJ2, hrg, S9⟩
                  have H9 := hid S9
                  have hJJ := Part.le_trans hJ hJ2
                  clear S9 hrg H8
                  go_wp2_with fail
                  go_ret
                  exact ⟨by simp, H9.out.toBelow hJJ⟩
                · obtain ⟨i, hi, hne⟩ := chB_yes hch
                  have hdiff : xM V M 0 ≠ M := xM_diff V M 0 i (by have := HML.out; omega) (by rw [Nat.zero_add]; exact hne)
                  have hsc : scanR t.data.toList = (cs.take k, B0) := by
                    rw [htl, ← hQ, HLAW.out (xM V M 0) (by rw [xM_len, HML.out]) hdiff, HB0.out]
                  have hgl : (cs.take k).length = k := by rw [List.length_take]; omega
                  have HSC := hid hsc
                  have HGL := hid hgl
                  clear S7 hQ hQl ht htl hch hdiff hsc hgl hi hne H6
                  go_wp2_with fail
                  refine (scan_sat HTJ.out t (by omega) HSC.out H8.out).mono ?_; rintro e w9 ⟨J2, ad2, cp2, rfl, hg1, hg2, hJ2, hrg, S9⟩
                  rw [HGL.out] at hg1 ⊢
                  have H9 := hid S9
                  have hJJ := Part.le_trans hJ hJ2
                  clear S9 hrg H8
                  go_wp2_with fail
                  go_ret
                  exact ⟨by simp, H9.out.toBelow hJJ⟩
    · have hkd : decide (cs.length ≤ k) = true := by simp; omega
      go_wp2_with fail
      refine (sawake_sat HTJ.out H2.out).mono ?_; rintro e w3 ⟨rfl, S3⟩
      have H3 := hid S3
      clear S3 H2
      go_wp2_with fail
      go_ret
      exact ⟨rfl, H3.out.toBelow hJ⟩
end Go.Proofs.YtgnoojphbnfjbaaDoor
