/- GlacierCommands: a command goes through a log: walked (its last drawn region by an invariant; printed by tool/mkgc.py). -/
import Derived.Test.YtekioplbfoonkaaGreatDoorGcA
import Derived.Test.YtekioplbfoonkaaGreatDoorInv
namespace Go.Proofs.YtekioplbfoonkaaGreatDoor
open Go.RowKit
set_option linter.unusedVariables false
set_option maxRecDepth 100000
inductive gcPhi (w0 : World) (J4 : Part) (cm : Cmd) (sa sb sc : Int) (la0 : Option Addr) (len0 cap0 g x14b : Nat) (da da2 : Option Addr) (dc dc2 : Nat) (f : Nat → Bool) (w : World) : Act → Prop
  | mk (x0 x1 x2 x3 x4 x5 x6 x7 x8 x9 x10 x11 x12 x13 x14 x15 x16 x17 : Value) (v0 : Value) (v1 : Value) (v2 : Value) (v5 : Value) (v6 : Value) (v7 : Value) (v8 : Value) (v9 : Value) (v10 : Value) (v11 : Value) (v12 : Value) (v13 : Value) (v16 : Value) (v17 : Value) (v18 : Value) (v19 : Value) (v20 : Value) (v21 : Value) (v22 : Value) (v23 : Value) (v24 : Value) (v25 : Value) (v26 : Value) (v27 : Value) (v28 : Value) (v29 : Value) (v30 : Value) (v31 : Value) (v32 : Value) (v33 : Value) (v34 : Value) (v35 : Value) (v36 : Value) (v37 : Value) (v38 : Value) (v39 : Value) (v40 : Value) (v41 : Value) (v42 : Value) (v43 : Value) (v44 : Value) (v45 : Value) (v46 : Value) (v47 : Value) (v48 : Value) (v49 : Value) (v50 : Value) (v51 : Value) (v52 : Value) (v53 : Value) (v54 : Value) (v55 : Value) (v56 : Value) (v57 : Value) (v58 : Value) (v59 : Value) (v60 : Value) (v61 : Value) (v62 : Value) (v63 : Value) (v64 : Value) (v65 : Value) (v66 : Value) (v67 : Value) (v68 : Value) (v69 : Value) (v70 : Value) (v71 : Value) (v72 : Value) (v73 : Value) (v74 : Value) (v75 : Value) (v76 : Value) (v77 : Value) (v78 : Value) (v79 : Value) (v80 : Value) (v81 : Value) (v82 : Value) (F0 : Hid (f 0 = true → x0 = (.int .i64 0 : Value))) (F1 : Hid (f 1 = true → x1 = (.bool true : Value))) (F2 : Hid (f 2 = true → x2 = (.bool true : Value))) (F3 : Hid (f 3 = true → x3 = (.agg #[.int .i64 (cm.kind : Int), .int .i64 (cm.client : Int), .int .i64 (cm.seq : Int), .string cm.name, .int .u64 (cm.blob : Int), .int .i64 (cm.size : Int), .int .u32 (cm.sum : Int), .slice da2 cm.disks.length dc2, .int .i64 (cm.pool : Int), .int .i64 (cm.vol : Int), .int .i64 (cm.at_ : Int)] : Value))) (F4 : Hid (f 4 = true → x4 = (.agg #[.int .i64 (cm.kind : Int), .int .i64 (cm.client : Int), .int .i64 (cm.seq : Int), .string cm.name, .int .u64 (cm.blob : Int), .int .i64 (cm.size : Int), .int .u32 (cm.sum : Int), .slice da2 cm.disks.length dc2, .int .i64 (cm.pool : Int), .int .i64 (cm.vol : Int), .int .i64 (cm.at_ : Int)] : Value))) (F5 : Hid (f 5 = true → x5 = (.string cm.name : Value))) (F6 : Hid (f 6 = true → x6 = (.pointer (some ⟨g + 1, 3, none⟩) : Value))) (F7 : Hid (f 7 = true → x7 = (.string cm.name : Value))) (F8 : Hid (f 8 = true → x8 = (.bool true : Value))) (F9 : Hid (f 9 = true → x9 = (.bool true : Value))) (F10 : Hid (f 10 = true → x10 = (.bool true : Value))) (F11 : Hid (f 11 = true → x11 = (.agg #[.int .i64 (cm.kind : Int), .int .i64 (cm.client : Int), .int .i64 (cm.seq : Int), .string cm.name, .int .u64 (cm.blob : Int), .int .i64 (cm.size : Int), .int .u32 (cm.sum : Int), .slice da2 cm.disks.length dc2, .int .i64 (cm.pool : Int), .int .i64 (cm.vol : Int), .int .i64 (cm.at_ : Int)] : Value))) (F12 : Hid (f 12 = true → x12 = (.string ⟨(cmdB cm).toArray⟩ : Value))) (F13 : Hid (f 13 = true → x13 = (.agg #[.int .i64 (cm.kind : Int), .int .i64 (cm.client : Int), .int .i64 (cm.seq : Int), .string cm.name, .int .u64 (cm.blob : Int), .int .i64 (cm.size : Int), .int .u32 (cm.sum : Int), .slice da cm.disks.length dc, .int .i64 (cm.pool : Int), .int .i64 (cm.vol : Int), .int .i64 (cm.at_ : Int)] : Value))) (F14 : Hid (f 14 = true → x14 = (.string ⟨(cmdB cm).toArray⟩ : Value))) (F15 : Hid (f 15 = true → x15 = (.bool true : Value))) (F16 : Hid (f 16 = true → x16 = (.bool true : Value))) (F17 : Hid (f 17 = true → x17 = (.bool true : Value))) 
    (HS : Hid (Sat w0 J4 [blk x14b 54 (cm.cells (.slice da2 cm.disks.length dc2)), blk (g + 1) 54 (cm.cells (.slice da cm.disks.length dc)), blk g 51 [.int .i64 sa, .int .i64 sb, .int .i64 sc, .slice la0 len0 cap0]] w)) : gcPhi w0 J4 cm sa sb sc la0 len0 cap0 g x14b da da2 dc dc2 f w ⟨#[v0, v1, v2, (.pointer (some ⟨g + 1, 0, none⟩) : Value), x17, v5, v6, v7, v8, v9, v10, v11, v12, v13, (.pointer (some ⟨x14b, 0, none⟩) : Value), (.int .i64 0 : Value), v16, v17, v18, v19, v20, v21, v22, v23, v24, v25, v26, v27, v28, v29, v30, v31, v32, v33, v34, v35, v36, v37, v38, v39, v40, v41, v42, v43, v44, v45, v46, v47, v48, v49, v50, v51, v52, v53, v54, v55, v56, v57, v58, v59, v60, v61, v62, v63, v64, v65, v66, v67, v68, v69, v70, v71, v72, v73, v74, v75, v76, v77, v78, v79, v80, v81, v82, x0, x1, x2, x3, x4, x5, x6, x7, x8, x9, x10, x11, x12, x13, x14, x15, x16], []⟩

set_option maxHeartbeats 20000000 in
theorem glacierCommands_walk0 (sa sb sc : Int) (la0 : Option Addr) (len0 cap0 : Nat) (ts : List Int) (htl : ts.length = len0) (hlen0 : len0 ≤ 9223372036854775807) (k cl sq : Int) (nm : ByteArray) (bl sz sm : Int) (la : Option Addr) (len cap : Nat) (po vo at_ : Int) (zs : List Int) (hzl : zs.length = len) (hreach : len * 8 ≤ 140737488351232) (hbl : 0 ≤ bl ∧ bl ≤ 18446744073709551615) (hsm : 0 ≤ sm ∧ sm ≤ 4294967295) (wi : World) (hT : Rd (wpart wi) (some ⟨0, 0, none⟩) tabV) (hts : Rd (wpart wi) la0 (ts.map (Value.int .i64))) (hzs : Rd (wpart wi) la (zs.map (Value.int .i64))) :
    Calls Tryz.prog 4 #[.agg #[.int .i64 sa, .int .i64 sb, .int .i64 sc, .slice la0 len0 cap0], .agg #[.int .i64 k, .int .i64 cl, .int .i64 sq, .string nm, .int .u64 bl, .int .i64 sz, .int .u32 sm, .slice la len cap, .int .i64 po, .int .i64 vo, .int .i64 at_]] wi (RetB (.bool true) wi.heap.size wi) := by
  obtain ⟨g, hg⟩ : ∃ g, wi.heap.size = g := ⟨_, rfl⟩
  have H0 := hid (((Sat.start wi).alloc (b := g) (T := 51) (cs := [.int .i64 sa, .int .i64 sb, .int .i64 sc, .slice la0 len0 cap0]) rfl hg.symm).alloc (b := g + 1) (T := 54) (cs := [.int .i64 k, .int .i64 cl, .int .i64 sq, .string nm, .int .u64 bl, .int .i64 sz, .int .u32 sm, .slice la len cap, .int .i64 po, .int .i64 vo, .int .i64 at_]) rfl (by simp [hg]))
  have HT := hid hT
  have HTS := hid hts
  have HZS := hid hzs
  have HTL := hid htl
  have HZL := hid hzl
  clear hT hts hzs htl hzl
  go_enter Tryz.func4, Tryz.ntmps4
  go_upto_region 1 with fail
  try rw [hg]
  refine wp_gen (fun w1 => Sat wi (wpart wi) [blk (g + 1) 54 [.int .i64 k, .int .i64 cl, .int .i64 sq, .string nm, .int .u64 bl, .int .i64 sz, .int .u32 sm, .slice la len cap, .int .i64 po, .int .i64 vo, .int .i64 at_], blk g 51 [.int .i64 sa, .int .i64 sb, .int .i64 sc, .slice la0 len0 cap0]] w1) H0.out ?_
  clear H0
  intro w1 S1
  have H1 := hid S1
  clear S1
  go_wp2_with fail
  refine (live_sat HT.out H1.out).mono ?_; rintro e w2 ⟨rfl, S2⟩
  have c7 := S2.isBlk.cell 7 (v := .slice la len cap) rfl
  have H2 := hid S2
  clear S2 H1
  go_wp2_with fail
  refine (diskN_sat la len cap zs HZL.out hreach HZS.out H2.out).mono ?_; rintro e w3 ⟨J, da, n, dc, ds, rfl, hdn, hJ, hndc, hn, hrd, S3⟩
  have c7 := S3.isBlk.cell 7 (v := .slice la len cap) rfl
  have f7 := S3.isBlk.frozen 7
  have H3 := hid (S3.set 7 (.slice da n dc) (cs' := [.int .i64 k, .int .i64 cl, .int .i64 sq, .string nm, .int .u64 bl, .int .i64 sz, .int .u32 sm, .slice da n dc, .int .i64 po, .int .i64 vo, .int .i64 at_]) rfl)
  have HJ := hid hJ
  have HRD := hid hrd
  have HDN := hid hdn
  clear S3 H2 hJ hrd hdn
  go_wp2_with (refine wpList_loadS whCmd rfl _ rfl rfl rfl H3.out ?_)
  clear c7 f7
  refine (good_sat k cl sq nm bl sz sm po vo at_ da n dc ds HDN.out (by omega) hndc HRD.out H3.out).mono ?_; rintro e w4 ⟨⟨b, rfl, hb⟩, S4⟩
  cases b with
  | false =>
    have H4 := hid S4
    clear S4 H3 hb
    go_wp2_with fail
    go_ret
    exact ⟨rfl, H4.out.toBelow HJ.out⟩
  | true =>
    obtain ⟨cm, hok, e1, e2, e3, e4, e5, e6, e7, e8, e9, e10, e11⟩ := good_cmd (hb.1 rfl) hbl hsm
    subst e1 e2 e3 e4 e5 e6 e7 e8 e9 e10 e11
    obtain rfl : n = cm.disks.length := by rw [← HDN.out, cm.zs_len]
    have H4 := hid (show Sat wi J [blk (g + 1) 54 (cm.cells (.slice da cm.disks.length dc)), blk g 51 [.int .i64 sa, .int .i64 sb, .int .i64 sc, .slice la0 len0 cap0]] w4 from S4)
    have HTJ := hid (HT.out.mono HJ.out)
    have HTSJ := hid (HTS.out.mono HJ.out)
    have HOK := hid hok
    clear S4 H3 hb hok HT HTS hbl hsm HDN
    go_wp2_with (refine wpList_loadS whStart rfl _ rfl rfl rfl (H4.out.pick 1) ?_)
    refine (kept_sat HTJ.out sa sb sc la0 len0 cap0 ts HTL.out hlen0 HTSJ.out H4.out).mono ?_; rintro e w5 ⟨J2, p, s, D, sv, rfl, hsv, hk, hJ2, S5⟩
    obtain ⟨x6, hx6⟩ := S5.sizeQ
    have H5 := hid (S5.alloc (b := x6) (T := 59) (cs := st90) rfl hx6.symm)
    have HC := hid (stc9_one s hsv)
    have HJ2 := hid (Part.le_trans HJ.out hJ2)
    have HT2 := hid (HTJ.out.mono hJ2)
    have HDA := hid (HRD.out.mono hJ2)
    have HK := hid hk
    have hst := hk.term
    have hsl := hk.len
    clear S5 H4 hJ2 hk HTJ HTSJ HRD
    go_wp2_with (refine wpList_storeS whR9 rfl _ _ rfl rfl rfl rfl rfl HC.out H5.out ?_; intro w6 S6)
    have H6 := hid (S6.drop)
    clear S6 H5 hx6
    refine (ropen_sat HT2.out (HK.out.dk.calm (by omega) (by omega)) s HK.out.ok HK.out.kd H6.out).mono ?_; rintro e w7 ⟨r, rfl, S7⟩
    have H7 := hid S7
    clear S7 H6
    go_wp2_with fail
    go_loopw [9] (fun ix wr => (∃ i : Nat, i ≤ 3 ∧ ix = .int .i64 (i : Int) ∧ Sat wi J2 [nodF r p s i, dskp p D, blk (g + 1) 54 (cm.cells (.slice da cm.disks.length dc)), blk g 51 [.int .i64 sa, .int .i64 sb, .int .i64 sc, .slice la0 len0 cap0]] wr) ∨ (ix = .int .i64 4 ∧ ∃ D2, Dk D2 7460 10 ∧ Kd D2 (s.el.add ⟨#[]⟩) ∧ Sat wi J2 [nodL r p (s.el.add ⟨#[]⟩), dskp p D2, blk (g + 1) 54 (cm.cells (.slice da cm.disks.length dc)), blk g 51 [.int .i64 sa, .int .i64 sb, .int .i64 sc, .slice la0 len0 cap0]] wr)) (fun ix _ => 10 - (intOf ix).toNat)
    case atStart => exact Or.inl ⟨0, by omega, rfl, H7.out⟩
    case round =>
      clear H7
      rcases hrel with ⟨i, hi, rfl, Sr⟩ | ⟨rfl, D2, d2, k2, Sr⟩
      · have HS := hid Sr
        clear Sr
        by_cases hi3 : i < 3
        · have hi4 : (i : Int) < 4 := by omega
          go_wp2_with fail
          refine (tickF_sat i hi3 HS.out).mono ?_; rintro e w8 ⟨rfl, S8⟩
          have H8 := hid S8
          clear S8 HS
          go_wp2_with fail
          go_roundw
          case rel => exact Or.inl ⟨i + 1, by omega, by go_num, H8.out⟩
          case measure => simp [intOf]; omega
        · obtain rfl : i = 3 := by omega
          go_wp2_with fail
          refine (tickE_sat HT2.out HK.out.dk HK.out.kd HK.out.ok (by omega) (by omega) (by omega) (by omega) HS.out).mono ?_; rintro e w8 ⟨D2, rfl, d2, k2, S8⟩
          have H8 := hid S8
          have K1 := hid d2
          have K2 := hid k2
          clear S8 HS d2 k2
          go_wp2_with fail
          go_roundw
          case rel => exact Or.inr ⟨rfl, D2, K1.out, K2.out, H8.out⟩
          case measure => simp [intOf]
      · have HS := hid Sr
        have K1 := hid d2
        have K2 := hid k2
        clear Sr d2 k2
        obtain ⟨s2, hs2⟩ : ∃ s2, s.el.add ⟨#[]⟩ = s2 := ⟨_, rfl⟩
        have hl2 : s2.log.length = s.log.length + 1 := by rw [← hs2]; show (s.log ++ [_]).length = _; simp
        have HOK2 := hid (show s2.Ok from hs2 ▸ Nst.addOk (Nst.elOk HK.out.ok (by omega)) ⟨#[]⟩ (by decide) (by show s.log.length < 20; omega))
        rw [hs2] at HS K2
        obtain ⟨CM, hCM⟩ : ∃ x : ByteArray, (⟨(cmdB cm).toArray⟩ : ByteArray) = x := ⟨_, rfl⟩
        have hCs : CM.size ≤ 1000 := by rw [← hCM, baSz]; have := cmdB_len HOK.out; omega
        obtain ⟨s3, hs3⟩ : ∃ s3, s2.add CM = s3 := ⟨_, rfl⟩
        obtain ⟨X, hX⟩ : ∃ X : Int, ((lastI s2 + 1 : Nat) : Int) = X := ⟨_, rfl⟩
        have hl3 : s3.log.length = s2.log.length + 1 := by rw [← hs3]; show (s2.log ++ [_]).length = _; simp
        obtain ⟨m, hm⟩ : ∃ m, s2.log.length = m := ⟨_, rfl⟩
        rw [hm] at hl2 hl3
        have hm7 : m ≤ 7 := by omega
        have hs2l : s2.log.length < 20 := by omega
        clear hl2
        have hx3 : s3.log[s3.log.length - 1]? = some ⟨lastI s2 + 1, s2.term, CM⟩ := by rw [← hs3]; show (s2.log ++ [_])[(s2.log ++ [_]).length - 1]? = _; simp
        have k0 := entGetL s3.log (by omega) _ hx3 0 _ rfl
        have k2 := entGetL s3.log (by omega) _ hx3 2 _ rfl
        rw [hl3, Nat.add_sub_cancel, Nat.add_zero] at k0
        rw [hl3, Nat.add_sub_cancel] at k2
        rw [show (((⟨lastI s2 + 1, s2.term, CM⟩ : Ent).idx : Nat) : Int) = X from hX] at k0
        have E0 := hid k0
        have E2 := hid k2
        have HL3 := hid hl3
        have HCM := hid hCM
        have HX := hid hX
        have HS3 := hid hs3
        clear k0 k2 hs2 hx3 hl3 hs3 hX hCM hm
        go_wp2_with (refine wpList_loadS whCmd rfl _ rfl rfl rfl (HS.out.pick 2) ?_)
        refine (cwrite_sat cm HOK.out da dc HDA.out HS.out).mono ?_; rintro e w9 ⟨rfl, S9⟩
        rw [HCM.out]
        have H9 := hid S9
        clear S9 HS
        go_wp2_with fail
        refine (propose_sat HT2.out K1.out K2.out HOK2.out CM hCs hs2l (by omega) (by omega) H9.out).mono ?_; rintro e w10 ⟨D3, rfl, d3, k3, S10⟩
        rw [HX.out]
        rw [HS3.out] at S10
        have H10 := hid S10
        clear S10 H9 d3 k3
        go_wp2_with fail
        refine (state_sat (by rw [HL3.out]; omega) (by rw [HL3.out]; omega) H10.out).mono ?_; rintro e w11 ⟨J3, ad, cp, rfl, hJ3, S11⟩
        rw [HL3.out] at S11 ⊢
        have e0 := own_cell S11.isRow _ E0.out
        have e2 := own_cell S11.isRow _ E2.out
        have HJ3 := hid (Part.le_trans HJ2.out hJ3)
        have HDA3 := hid (HDA.out.mono hJ3)
        have H11 := hid S11
        clear S11 H10 hJ3
        have hm0 : (0 : Int) ≤ (m : Int) := by omega
        have hml : (m : Int) < ((m + 1 : Nat) : Int) := by omega
        have hml2 : (m : Int) < (m : Int) + 1 := by omega
        have hw : IntKind.i64.wrap (((m + 1 : Nat) : Int) - 1) = (m : Int) := by rw [show ((m + 1 : Nat) : Int) - 1 = (m : Int) by omega]; exact IntWalk.i64_in _ (by omega)
        have hw2 : IntKind.i64.wrap ((m : Int) + 1 - 1) = (m : Int) := by rw [show (m : Int) + 1 - 1 = (m : Int) by omega]; exact IntWalk.i64_in _ (by omega)
        have hz1 : (((m + 1 : Nat) : Int) == 0) = false := by rw [beq_eq_false_iff_ne]; omega
        have hz2 : ((m : Int) + 1 == 0) = false := by rw [beq_eq_false_iff_ne]; omega
        have hfl := field_log
        go_wp2_with fail
        rw [← HCM.out]
        refine (cread_sat cm HOK.out H11.out).mono ?_; rintro e w12 ⟨J4, da2, dc2, rfl, hJ4, hd2, hr2, S12⟩
        obtain ⟨x14, hx14⟩ := S12.sizeQ
        have H12 := hid (S12.drop.drop.alloc (b := x14) (T := 54) (cs := cm0) rfl hx14.symm)
        have HC2 := hid (cm.one (.slice da2 cm.disks.length dc2) rfl)
        have HR2 := hid hr2
        have HDA4 := hid (HDA3.out.mono hJ4)
        have HJ4 := hid (Part.le_trans HJ3.out hJ4)
        clear S12 H11 hJ4 hr2 e0 e2 hw hw2 hz1 hz2 hml hml2 hm0 hfl
        have hfl := field_name
        go_upto_region 19 with (refine wpList_storeS whCmd rfl _ _ rfl rfl rfl rfl rfl HC2.out H12.out ?_; intro w13 S13)
        have H13 := hid S13
        clear S13 H12 hx14
        refine wp_region_inv (by kernel_rfl) (by kernel_rfl) (fun f a w => gcPhi wi J4 cm sa sb sc la0 len0 cap0 g x14 da da2 dc dc2 f w a) ?h0 ?hs ?he
        case h0 => exact gcPhi.mk _ _ _ _ _ _ _ _ _ _ _ _ _ _ _ _ _ _ (_) (_) (_) (_) (_) (_) (_) (_) (_) (_) (_) (_) (_) (_) (_) (_) (_) (_) (_) (_) (_) (_) (_) (_) (_) (_) (_) (_) (_) (_) (_) (_) (_) (_) (_) (_) (_) (_) (_) (_) (_) (_) (_) (_) (_) (_) (_) (_) (_) (_) (_) (_) (_) (_) (_) (_) (_) (_) (_) (_) (_) (_) (_) (_) (_) (_) (_) (_) (_) (_) (_) (_) (_) (_) (_) (_) (_) (_) (_) (hid (fun h => by cases h)) (hid (fun h => by cases h)) (hid (fun h => by cases h)) (hid (fun h => by cases h)) (hid (fun h => by cases h)) (hid (fun h => by cases h)) (hid (fun h => by cases h)) (hid (fun h => by cases h)) (hid (fun h => by cases h)) (hid (fun h => by cases h)) (hid (fun h => by cases h)) (hid (fun h => by cases h)) (hid (fun h => by cases h)) (hid (fun h => by cases h)) (hid (fun h => by cases h)) (hid (fun h => by cases h)) (hid (fun h => by cases h)) (hid (fun h => by cases h))  (hid H13.out.drew)
        case hs =>
          clear H13
          rintro f a w i o ⟨x0, x1, x2, x3, x4, x5, x6, x7, x8, x9, x10, x11, x12, x13, x14, x15, x16, x17, v0, v1, v2, v5, v6, v7, v8, v9, v10, v11, v12, v13, v16, v17, v18, v19, v20, v21, v22, v23, v24, v25, v26, v27, v28, v29, v30, v31, v32, v33, v34, v35, v36, v37, v38, v39, v40, v41, v42, v43, v44, v45, v46, v47, v48, v49, v50, v51, v52, v53, v54, v55, v56, v57, v58, v59, v60, v61, v62, v63, v64, v65, v66, v67, v68, v69, v70, v71, v72, v73, v74, v75, v76, v77, v78, v79, v80, v81, v82, F0, F1, F2, F3, F4, F5, F6, F7, F8, F9, F10, F11, F12, F13, F14, F15, F16, F17, HS⟩ ho hf hall K' hK
          have hi : i < 18 := (Array.getElem?_eq_some_iff.1 ho).1
          have hi2 : i = 0 ∨ i = 1 ∨ i = 2 ∨ i = 3 ∨ i = 4 ∨ i = 5 ∨ i = 6 ∨ i = 7 ∨ i = 8 ∨ i = 9 ∨ i = 10 ∨ i = 11 ∨ i = 12 ∨ i = 13 ∨ i = 14 ∨ i = 15 ∨ i = 16 ∨ i = 17 := by omega
          clear hi
          rcases hi2 with rfl | rfl | rfl | rfl | rfl | rfl | rfl | rfl | rfl | rfl | rfl | rfl | rfl | rfl | rfl | rfl | rfl | rfl
          · obtain rfl := Option.some.inj ho
            go_simp
            exact hK _ _ (gcPhi.mk _ x1 x2 x3 x4 x5 x6 x7 x8 x9 x10 x11 x12 x13 x14 x15 x16 x17 (v0) (v1) (v2) (v5) (v6) (v7) (v8) (v9) (v10) (v11) (v12) (v13) (v16) (v17) (v18) (v19) (v20) (v21) (v22) (v23) (v24) (v25) (v26) (v27) (v28) (v29) (v30) (v31) (v32) (v33) (v34) (v35) (v36) (v37) (v38) (v39) (v40) (v41) (v42) (v43) (v44) (v45) (v46) (v47) (v48) (v49) (v50) (v51) (v52) (v53) (v54) (v55) (v56) (v57) (v58) (v59) (v60) (v61) (v62) (v63) (v64) (v65) (v66) (v67) (v68) (v69) (v70) (v71) (v72) (v73) (v74) (v75) (v76) (v77) (v78) (v79) (v80) (v81) (v82) (hid (fun _ => rfl)) (F1) (F2) (F3) (F4) (F5) (F6) (F7) (F8) (F9) (F10) (F11) (F12) (F13) (F14) (F15) (F16) (F17)  HS)
          · obtain rfl := Option.some.inj ho
            have d0 : f 0 = true := hall { on := 0, ground := Ground.data } (by simp) (by rfl)
            obtain rfl := F0.out d0
            go_simp
            exact hK _ _ (gcPhi.mk _ _ x2 x3 x4 x5 x6 x7 x8 x9 x10 x11 x12 x13 x14 x15 x16 x17 (v0) (v1) (v2) (v5) (v6) (v7) (v8) (v9) (v10) (v11) (v12) (v13) (v16) (v17) (v18) (v19) (v20) (v21) (v22) (v23) (v24) (v25) (v26) (v27) (v28) (v29) (v30) (v31) (v32) (v33) (v34) (v35) (v36) (v37) (v38) (v39) (v40) (v41) (v42) (v43) (v44) (v45) (v46) (v47) (v48) (v49) (v50) (v51) (v52) (v53) (v54) (v55) (v56) (v57) (v58) (v59) (v60) (v61) (v62) (v63) (v64) (v65) (v66) (v67) (v68) (v69) (v70) (v71) (v72) (v73) (v74) (v75) (v76) (v77) (v78) (v79) (v80) (v81) (v82) (F0) (hid (fun _ => rfl)) (F2) (F3) (F4) (F5) (F6) (F7) (F8) (F9) (F10) (F11) (F12) (F13) (F14) (F15) (F16) (F17)  HS)
          · obtain rfl := Option.some.inj ho
            have d1 : f 1 = true := hall { on := 1, ground := Ground.data } (by simp) (by rfl)
            obtain rfl := F1.out d1
            go_simp
            exact hK _ _ (gcPhi.mk x0 _ _ x3 x4 x5 x6 x7 x8 x9 x10 x11 x12 x13 x14 x15 x16 x17 (v0) (v1) (v2) (v5) (v6) (v7) (v8) (v9) (v10) (v11) (v12) (v13) (v16) (v17) (v18) (v19) (v20) (v21) (v22) (v23) (v24) (v25) (v26) (v27) (v28) (v29) (v30) (v31) (v32) (v33) (v34) (v35) (v36) (v37) (v38) (v39) (v40) (v41) (v42) (v43) (v44) (v45) (v46) (v47) (v48) (v49) (v50) (v51) (v52) (v53) (v54) (v55) (v56) (v57) (v58) (v59) (v60) (v61) (v62) (v63) (v64) (v65) (v66) (v67) (v68) (v69) (v70) (v71) (v72) (v73) (v74) (v75) (v76) (v77) (v78) (v79) (v80) (v81) (v82) (F0) (F1) (hid (fun _ => rfl)) (F3) (F4) (F5) (F6) (F7) (F8) (F9) (F10) (F11) (F12) (F13) (F14) (F15) (F16) (F17)  HS)
          · obtain rfl := Option.some.inj ho
            have d2 : f 2 = true := hall { on := 2, ground := Ground.guard } (by simp) (by rfl)
            obtain rfl := F2.out d2
            refine step_loadSG whCmd (by rfl) (.tmp 14) rfl rfl rfl HS.out ?_
            exact hK _ _ (gcPhi.mk x0 x1 _ _ x4 x5 x6 x7 x8 x9 x10 x11 x12 x13 x14 x15 x16 x17 (v0) (v1) (v2) (v5) (v6) (v7) (v8) (v9) (v10) (v11) (v12) (v13) (v16) (v17) (v18) (v19) (v20) (v21) (v22) (v23) (v24) (v25) (v26) (v27) (v28) (v29) (v30) (v31) (v32) (v33) (v34) (v35) (v36) (v37) (v38) (v39) (v40) (v41) (v42) (v43) (v44) (v45) (v46) (v47) (v48) (v49) (v50) (v51) (v52) (v53) (v54) (v55) (v56) (v57) (v58) (v59) (v60) (v61) (v62) (v63) (v64) (v65) (v66) (v67) (v68) (v69) (v70) (v71) (v72) (v73) (v74) (v75) (v76) (v77) (v78) (v79) (v80) (v81) (v82) (F0) (F1) (F2) (hid (fun _ => rfl)) (F4) (F5) (F6) (F7) (F8) (F9) (F10) (F11) (F12) (F13) (F14) (F15) (F16) (F17)  HS)
          · obtain rfl := Option.some.inj ho
            have d3 : f 3 = true := hall { on := 3, ground := Ground.data } (by simp) (by rfl)
            have d2 : f 2 = true := hall { on := 2, ground := Ground.guard } (by simp) (by rfl)
            obtain rfl := F3.out d3
            obtain rfl := F2.out d2
            rw [if_pos (show Region.wanted _ _ = true from by rfl)]
            go_simp
            go_at_call 27
            refine (told_sat (cm.kind : Int) (cm.client : Int) (cm.seq : Int) cm.name (cm.blob : Int) (cm.size : Int) (cm.sum : Int) (cm.pool : Int) (cm.vol : Int) (cm.at_ : Int) da2 cm.disks.length dc2 HS.out).mono ?_
            rintro e w5 ⟨rfl, S5⟩
            have H5 := hid S5
            clear S5 HS
            exact hK _ _ (gcPhi.mk x0 x1 _ _ _ x5 x6 x7 x8 x9 x10 x11 x12 x13 x14 x15 x16 x17 (v0) (v1) (v2) (v5) (v6) (v7) (v8) (v9) (v10) (v11) (v12) (v13) (v16) (v17) (v18) (v19) (v20) (v21) (v22) (v23) (v24) (v25) (v26) (v27) (v28) (v29) (v30) (v31) (v32) (v33) (v34) (v35) (v36) (v37) (v38) (v39) (v40) (v41) (v42) (v43) (v44) (v45) (v46) (v47) (v48) (v49) (v50) (v51) (v52) (v53) (v54) (v55) (v56) (v57) (v58) (v59) (v60) (v61) (v62) (v63) (v64) (v65) (v66) (v67) (v68) (v69) (v70) (v71) (v72) (v73) (v74) (v75) (v76) (v77) (v78) (v79) (v80) (v81) (v82) (F0) (F1) (F2) (F3) (hid (fun _ => rfl)) (F5) (F6) (F7) (F8) (F9) (F10) (F11) (F12) (F13) (F14) (F15) (F16) (F17)  H5)
          · obtain rfl := Option.some.inj ho
            have d4 : f 4 = true := hall { on := 4, ground := Ground.data } (by simp) (by rfl)
            have d2 : f 2 = true := hall { on := 2, ground := Ground.guard } (by simp) (by rfl)
            obtain rfl := F4.out d4
            obtain rfl := F2.out d2
            rw [if_pos (show Region.wanted _ _ = true from by rfl)]
            go_simp
            exact hK _ _ (gcPhi.mk x0 x1 _ x3 _ _ x6 x7 x8 x9 x10 x11 x12 x13 x14 x15 x16 x17 (v0) (v1) (v2) (v5) (v6) (v7) (v8) (v9) (v10) (v11) (v12) (v13) (v16) (v17) (v18) (v19) (v20) (v21) (v22) (v23) (v24) (v25) (v26) (v27) (v28) (v29) (v30) (v31) (v32) (v33) (v34) (v35) (v36) (v37) (v38) (v39) (v40) (v41) (v42) (v43) (v44) (v45) (v46) (v47) (v48) (v49) (v50) (v51) (v52) (v53) (v54) (v55) (v56) (v57) (v58) (v59) (v60) (v61) (v62) (v63) (v64) (v65) (v66) (v67) (v68) (v69) (v70) (v71) (v72) (v73) (v74) (v75) (v76) (v77) (v78) (v79) (v80) (v81) (v82) (F0) (F1) (F2) (F3) (F4) (hid (fun _ => rfl)) (F6) (F7) (F8) (F9) (F10) (F11) (F12) (F13) (F14) (F15) (F16) (F17)  HS)
          · obtain rfl := Option.some.inj ho
            have d2 : f 2 = true := hall { on := 2, ground := Ground.guard } (by simp) (by rfl)
            obtain rfl := F2.out d2
            rw [if_pos (show Region.wanted _ _ = true from by rfl)]
            go_simp
            exact hK _ _ (gcPhi.mk x0 x1 _ x3 x4 x5 _ x7 x8 x9 x10 x11 x12 x13 x14 x15 x16 x17 (v0) (v1) (v2) (v5) (v6) (v7) (v8) (v9) (v10) (v11) (v12) (v13) (v16) (v17) (v18) (v19) (v20) (v21) (v22) (v23) (v24) (v25) (v26) (v27) (v28) (v29) (v30) (v31) (v32) (v33) (v34) (v35) (v36) (v37) (v38) (v39) (v40) (v41) (v42) (v43) (v44) (v45) (v46) (v47) (v48) (v49) (v50) (v51) (v52) (v53) (v54) (v55) (v56) (v57) (v58) (v59) (v60) (v61) (v62) (v63) (v64) (v65) (v66) (v67) (v68) (v69) (v70) (v71) (v72) (v73) (v74) (v75) (v76) (v77) (v78) (v79) (v80) (v81) (v82) (F0) (F1) (F2) (F3) (F4) (F5) (hid (fun _ => rfl)) (F7) (F8) (F9) (F10) (F11) (F12) (F13) (F14) (F15) (F16) (F17)  HS)
          · obtain rfl := Option.some.inj ho
            have d6 : f 6 = true := hall { on := 6, ground := Ground.data } (by simp) (by rfl)
            have d2 : f 2 = true := hall { on := 2, ground := Ground.guard } (by simp) (by rfl)
            obtain rfl := F6.out d6
            obtain rfl := F2.out d2
            rw [if_pos (show Region.wanted _ _ = true from by rfl)]
            have c0 : w.cell? ⟨g + 1, 3, none⟩ = some (.string cm.name) := HS.out.swap.isBlk.cell 3 rfl
            go_simp
            exact hK _ _ (gcPhi.mk x0 x1 _ x3 x4 x5 _ _ x8 x9 x10 x11 x12 x13 x14 x15 x16 x17 (v0) (v1) (v2) (v5) (v6) (v7) (v8) (v9) (v10) (v11) (v12) (v13) (v16) (v17) (v18) (v19) (v20) (v21) (v22) (v23) (v24) (v25) (v26) (v27) (v28) (v29) (v30) (v31) (v32) (v33) (v34) (v35) (v36) (v37) (v38) (v39) (v40) (v41) (v42) (v43) (v44) (v45) (v46) (v47) (v48) (v49) (v50) (v51) (v52) (v53) (v54) (v55) (v56) (v57) (v58) (v59) (v60) (v61) (v62) (v63) (v64) (v65) (v66) (v67) (v68) (v69) (v70) (v71) (v72) (v73) (v74) (v75) (v76) (v77) (v78) (v79) (v80) (v81) (v82) (F0) (F1) (F2) (F3) (F4) (F5) (F6) (hid (fun _ => rfl)) (F8) (F9) (F10) (F11) (F12) (F13) (F14) (F15) (F16) (F17)  HS)
          · obtain rfl := Option.some.inj ho
            have d5 : f 5 = true := hall { on := 5, ground := Ground.data } (by simp) (by rfl)
            have d7 : f 7 = true := hall { on := 7, ground := Ground.data } (by simp) (by rfl)
            have d2 : f 2 = true := hall { on := 2, ground := Ground.guard } (by simp) (by rfl)
            obtain rfl := F5.out d5
            obtain rfl := F7.out d7
            obtain rfl := F2.out d2
            rw [if_pos (show Region.wanted _ _ = true from by rfl)]
            go_simp
            exact hK _ _ (gcPhi.mk x0 x1 _ x3 x4 _ x6 _ _ x9 x10 x11 x12 x13 x14 x15 x16 x17 (v0) (v1) (v2) (v5) (v6) (v7) (v8) (v9) (v10) (v11) (v12) (v13) (v16) (v17) (v18) (v19) (v20) (v21) (v22) (v23) (v24) (v25) (v26) (v27) (v28) (v29) (v30) (v31) (v32) (v33) (v34) (v35) (v36) (v37) (v38) (v39) (v40) (v41) (v42) (v43) (v44) (v45) (v46) (v47) (v48) (v49) (v50) (v51) (v52) (v53) (v54) (v55) (v56) (v57) (v58) (v59) (v60) (v61) (v62) (v63) (v64) (v65) (v66) (v67) (v68) (v69) (v70) (v71) (v72) (v73) (v74) (v75) (v76) (v77) (v78) (v79) (v80) (v81) (v82) (F0) (F1) (F2) (F3) (F4) (F5) (F6) (F7) (hid (fun _ => rfl)) (F9) (F10) (F11) (F12) (F13) (F14) (F15) (F16) (F17)  HS)
          · obtain rfl := Option.some.inj ho
            have d2 : f 2 = true := hall { on := 2, ground := Ground.data } (by simp) (by rfl)
            have d8 : f 8 = true := hall { on := 8, ground := Ground.data } (by simp) (by rfl)
            obtain rfl := F2.out d2
            obtain rfl := F8.out d8
            go_simp
            exact hK _ _ (gcPhi.mk x0 x1 _ x3 x4 x5 x6 x7 _ _ x10 x11 x12 x13 x14 x15 x16 x17 (v0) (v1) (v2) (v5) (v6) (v7) (v8) (v9) (v10) (v11) (v12) (v13) (v16) (v17) (v18) (v19) (v20) (v21) (v22) (v23) (v24) (v25) (v26) (v27) (v28) (v29) (v30) (v31) (v32) (v33) (v34) (v35) (v36) (v37) (v38) (v39) (v40) (v41) (v42) (v43) (v44) (v45) (v46) (v47) (v48) (v49) (v50) (v51) (v52) (v53) (v54) (v55) (v56) (v57) (v58) (v59) (v60) (v61) (v62) (v63) (v64) (v65) (v66) (v67) (v68) (v69) (v70) (v71) (v72) (v73) (v74) (v75) (v76) (v77) (v78) (v79) (v80) (v81) (v82) (F0) (F1) (F2) (F3) (F4) (F5) (F6) (F7) (F8) (hid (fun _ => rfl)) (F10) (F11) (F12) (F13) (F14) (F15) (F16) (F17)  HS)
          · obtain rfl := Option.some.inj ho
            have d9 : f 9 = true := hall { on := 9, ground := Ground.data } (by simp) (by rfl)
            obtain rfl := F9.out d9
            go_simp
            exact hK _ _ (gcPhi.mk x0 x1 x2 x3 x4 x5 x6 x7 x8 _ _ x11 x12 x13 x14 x15 x16 x17 (v0) (v1) (v2) (v5) (v6) (v7) (v8) (v9) (v10) (v11) (v12) (v13) (v16) (v17) (v18) (v19) (v20) (v21) (v22) (v23) (v24) (v25) (v26) (v27) (v28) (v29) (v30) (v31) (v32) (v33) (v34) (v35) (v36) (v37) (v38) (v39) (v40) (v41) (v42) (v43) (v44) (v45) (v46) (v47) (v48) (v49) (v50) (v51) (v52) (v53) (v54) (v55) (v56) (v57) (v58) (v59) (v60) (v61) (v62) (v63) (v64) (v65) (v66) (v67) (v68) (v69) (v70) (v71) (v72) (v73) (v74) (v75) (v76) (v77) (v78) (v79) (v80) (v81) (v82) (F0) (F1) (F2) (F3) (F4) (F5) (F6) (F7) (F8) (F9) (hid (fun _ => rfl)) (F11) (F12) (F13) (F14) (F15) (F16) (F17)  HS)
          · obtain rfl := Option.some.inj ho
            have d10 : f 10 = true := hall { on := 10, ground := Ground.guard } (by simp) (by rfl)
            obtain rfl := F10.out d10
            refine step_loadSG whCmd (by rfl) (.tmp 14) rfl rfl rfl HS.out ?_
            exact hK _ _ (gcPhi.mk x0 x1 x2 x3 x4 x5 x6 x7 x8 x9 _ _ x12 x13 x14 x15 x16 x17 (v0) (v1) (v2) (v5) (v6) (v7) (v8) (v9) (v10) (v11) (v12) (v13) (v16) (v17) (v18) (v19) (v20) (v21) (v22) (v23) (v24) (v25) (v26) (v27) (v28) (v29) (v30) (v31) (v32) (v33) (v34) (v35) (v36) (v37) (v38) (v39) (v40) (v41) (v42) (v43) (v44) (v45) (v46) (v47) (v48) (v49) (v50) (v51) (v52) (v53) (v54) (v55) (v56) (v57) (v58) (v59) (v60) (v61) (v62) (v63) (v64) (v65) (v66) (v67) (v68) (v69) (v70) (v71) (v72) (v73) (v74) (v75) (v76) (v77) (v78) (v79) (v80) (v81) (v82) (F0) (F1) (F2) (F3) (F4) (F5) (F6) (F7) (F8) (F9) (F10) (hid (fun _ => rfl)) (F12) (F13) (F14) (F15) (F16) (F17)  HS)
          · obtain rfl := Option.some.inj ho
            have d11 : f 11 = true := hall { on := 11, ground := Ground.data } (by simp) (by rfl)
            have d10 : f 10 = true := hall { on := 10, ground := Ground.guard } (by simp) (by rfl)
            obtain rfl := F11.out d11
            obtain rfl := F10.out d10
            rw [if_pos (show Region.wanted _ _ = true from by rfl)]
            go_simp
            go_at_call 24
            refine (cwrite_sat cm HOK.out da2 dc2 HR2.out HS.out).mono ?_
            rintro e w5 ⟨rfl, S5⟩
            have H5 := hid S5
            clear S5 HS
            exact hK _ _ (gcPhi.mk x0 x1 x2 x3 x4 x5 x6 x7 x8 x9 _ _ _ x13 x14 x15 x16 x17 (v0) (v1) (v2) (v5) (v6) (v7) (v8) (v9) (v10) (v11) (v12) (v13) (v16) (v17) (v18) (v19) (v20) (v21) (v22) (v23) (v24) (v25) (v26) (v27) (v28) (v29) (v30) (v31) (v32) (v33) (v34) (v35) (v36) (v37) (v38) (v39) (v40) (v41) (v42) (v43) (v44) (v45) (v46) (v47) (v48) (v49) (v50) (v51) (v52) (v53) (v54) (v55) (v56) (v57) (v58) (v59) (v60) (v61) (v62) (v63) (v64) (v65) (v66) (v67) (v68) (v69) (v70) (v71) (v72) (v73) (v74) (v75) (v76) (v77) (v78) (v79) (v80) (v81) (v82) (F0) (F1) (F2) (F3) (F4) (F5) (F6) (F7) (F8) (F9) (F10) (F11) (hid (fun _ => rfl)) (F13) (F14) (F15) (F16) (F17)  H5)
          · obtain rfl := Option.some.inj ho
            have d10 : f 10 = true := hall { on := 10, ground := Ground.guard } (by simp) (by rfl)
            obtain rfl := F10.out d10
            refine step_loadSG whCmd (by rfl) (.tmp 3) rfl rfl rfl HS.out.swap ?_
            exact hK _ _ (gcPhi.mk x0 x1 x2 x3 x4 x5 x6 x7 x8 x9 _ x11 x12 _ x14 x15 x16 x17 (v0) (v1) (v2) (v5) (v6) (v7) (v8) (v9) (v10) (v11) (v12) (v13) (v16) (v17) (v18) (v19) (v20) (v21) (v22) (v23) (v24) (v25) (v26) (v27) (v28) (v29) (v30) (v31) (v32) (v33) (v34) (v35) (v36) (v37) (v38) (v39) (v40) (v41) (v42) (v43) (v44) (v45) (v46) (v47) (v48) (v49) (v50) (v51) (v52) (v53) (v54) (v55) (v56) (v57) (v58) (v59) (v60) (v61) (v62) (v63) (v64) (v65) (v66) (v67) (v68) (v69) (v70) (v71) (v72) (v73) (v74) (v75) (v76) (v77) (v78) (v79) (v80) (v81) (v82) (F0) (F1) (F2) (F3) (F4) (F5) (F6) (F7) (F8) (F9) (F10) (F11) (F12) (hid (fun _ => rfl)) (F14) (F15) (F16) (F17)  HS)
          · obtain rfl := Option.some.inj ho
            have d13 : f 13 = true := hall { on := 13, ground := Ground.data } (by simp) (by rfl)
            have d10 : f 10 = true := hall { on := 10, ground := Ground.guard } (by simp) (by rfl)
            obtain rfl := F13.out d13
            obtain rfl := F10.out d10
            rw [if_pos (show Region.wanted _ _ = true from by rfl)]
            go_simp
            go_at_call 24
            refine (cwrite_sat cm HOK.out da dc HDA4.out HS.out).mono ?_
            rintro e w5 ⟨rfl, S5⟩
            have H5 := hid S5
            clear S5 HS
            exact hK _ _ (gcPhi.mk x0 x1 x2 x3 x4 x5 x6 x7 x8 x9 _ x11 x12 _ _ x15 x16 x17 (v0) (v1) (v2) (v5) (v6) (v7) (v8) (v9) (v10) (v11) (v12) (v13) (v16) (v17) (v18) (v19) (v20) (v21) (v22) (v23) (v24) (v25) (v26) (v27) (v28) (v29) (v30) (v31) (v32) (v33) (v34) (v35) (v36) (v37) (v38) (v39) (v40) (v41) (v42) (v43) (v44) (v45) (v46) (v47) (v48) (v49) (v50) (v51) (v52) (v53) (v54) (v55) (v56) (v57) (v58) (v59) (v60) (v61) (v62) (v63) (v64) (v65) (v66) (v67) (v68) (v69) (v70) (v71) (v72) (v73) (v74) (v75) (v76) (v77) (v78) (v79) (v80) (v81) (v82) (F0) (F1) (F2) (F3) (F4) (F5) (F6) (F7) (F8) (F9) (F10) (F11) (F12) (F13) (hid (fun _ => rfl)) (F15) (F16) (F17)  H5)
          · obtain rfl := Option.some.inj ho
            have d12 : f 12 = true := hall { on := 12, ground := Ground.data } (by simp) (by rfl)
            have d14 : f 14 = true := hall { on := 14, ground := Ground.data } (by simp) (by rfl)
            have d10 : f 10 = true := hall { on := 10, ground := Ground.guard } (by simp) (by rfl)
            obtain rfl := F12.out d12
            obtain rfl := F14.out d14
            obtain rfl := F10.out d10
            rw [if_pos (show Region.wanted _ _ = true from by rfl)]
            go_simp
            exact hK _ _ (gcPhi.mk x0 x1 x2 x3 x4 x5 x6 x7 x8 x9 _ x11 _ x13 _ _ x16 x17 (v0) (v1) (v2) (v5) (v6) (v7) (v8) (v9) (v10) (v11) (v12) (v13) (v16) (v17) (v18) (v19) (v20) (v21) (v22) (v23) (v24) (v25) (v26) (v27) (v28) (v29) (v30) (v31) (v32) (v33) (v34) (v35) (v36) (v37) (v38) (v39) (v40) (v41) (v42) (v43) (v44) (v45) (v46) (v47) (v48) (v49) (v50) (v51) (v52) (v53) (v54) (v55) (v56) (v57) (v58) (v59) (v60) (v61) (v62) (v63) (v64) (v65) (v66) (v67) (v68) (v69) (v70) (v71) (v72) (v73) (v74) (v75) (v76) (v77) (v78) (v79) (v80) (v81) (v82) (F0) (F1) (F2) (F3) (F4) (F5) (F6) (F7) (F8) (F9) (F10) (F11) (F12) (F13) (F14) (hid (fun _ => rfl)) (F16) (F17)  HS)
          · obtain rfl := Option.some.inj ho
            have d10 : f 10 = true := hall { on := 10, ground := Ground.data } (by simp) (by rfl)
            have d15 : f 15 = true := hall { on := 15, ground := Ground.data } (by simp) (by rfl)
            obtain rfl := F10.out d10
            obtain rfl := F15.out d15
            go_simp
            exact hK _ _ (gcPhi.mk x0 x1 x2 x3 x4 x5 x6 x7 x8 x9 _ x11 x12 x13 x14 _ _ x17 (v0) (v1) (v2) (v5) (v6) (v7) (v8) (v9) (v10) (v11) (v12) (v13) (v16) (v17) (v18) (v19) (v20) (v21) (v22) (v23) (v24) (v25) (v26) (v27) (v28) (v29) (v30) (v31) (v32) (v33) (v34) (v35) (v36) (v37) (v38) (v39) (v40) (v41) (v42) (v43) (v44) (v45) (v46) (v47) (v48) (v49) (v50) (v51) (v52) (v53) (v54) (v55) (v56) (v57) (v58) (v59) (v60) (v61) (v62) (v63) (v64) (v65) (v66) (v67) (v68) (v69) (v70) (v71) (v72) (v73) (v74) (v75) (v76) (v77) (v78) (v79) (v80) (v81) (v82) (F0) (F1) (F2) (F3) (F4) (F5) (F6) (F7) (F8) (F9) (F10) (F11) (F12) (F13) (F14) (F15) (hid (fun _ => rfl)) (F17)  HS)
          · obtain rfl := Option.some.inj ho
            have d16 : f 16 = true := hall { on := 16, ground := Ground.data } (by simp) (by rfl)
            obtain rfl := F16.out d16
            go_simp
            exact hK _ _ (gcPhi.mk x0 x1 x2 x3 x4 x5 x6 x7 x8 x9 x10 x11 x12 x13 x14 x15 _ _ (v0) (v1) (v2) (v5) (v6) (v7) (v8) (v9) (v10) (v11) (v12) (v13) (v16) (v17) (v18) (v19) (v20) (v21) (v22) (v23) (v24) (v25) (v26) (v27) (v28) (v29) (v30) (v31) (v32) (v33) (v34) (v35) (v36) (v37) (v38) (v39) (v40) (v41) (v42) (v43) (v44) (v45) (v46) (v47) (v48) (v49) (v50) (v51) (v52) (v53) (v54) (v55) (v56) (v57) (v58) (v59) (v60) (v61) (v62) (v63) (v64) (v65) (v66) (v67) (v68) (v69) (v70) (v71) (v72) (v73) (v74) (v75) (v76) (v77) (v78) (v79) (v80) (v81) (v82) (F0) (F1) (F2) (F3) (F4) (F5) (F6) (F7) (F8) (F9) (F10) (F11) (F12) (F13) (F14) (F15) (F16) (hid (fun _ => rfl))  HS)
        case he =>
          clear H13
          rintro f a w ⟨x0, x1, x2, x3, x4, x5, x6, x7, x8, x9, x10, x11, x12, x13, x14, x15, x16, x17, v0, v1, v2, v5, v6, v7, v8, v9, v10, v11, v12, v13, v16, v17, v18, v19, v20, v21, v22, v23, v24, v25, v26, v27, v28, v29, v30, v31, v32, v33, v34, v35, v36, v37, v38, v39, v40, v41, v42, v43, v44, v45, v46, v47, v48, v49, v50, v51, v52, v53, v54, v55, v56, v57, v58, v59, v60, v61, v62, v63, v64, v65, v66, v67, v68, v69, v70, v71, v72, v73, v74, v75, v76, v77, v78, v79, v80, v81, v82, F0, F1, F2, F3, F4, F5, F6, F7, F8, F9, F10, F11, F12, F13, F14, F15, F16, F17, HS⟩ hall
          have h17 := hall 17 (by decide)
          obtain rfl := F17.out h17
          have H14 := hid HS.out
          clear HS hall F0 F1 F2 F3 F4 F5 F6 F7 F8 F9 F10 F11 F12 F13 F14 F15 F16 F17
          go_wp2_with fail
          go_ret
          exact ⟨rfl, H14.out.toBelow HJ4.out⟩
end Go.Proofs.YtekioplbfoonkaaGreatDoor
