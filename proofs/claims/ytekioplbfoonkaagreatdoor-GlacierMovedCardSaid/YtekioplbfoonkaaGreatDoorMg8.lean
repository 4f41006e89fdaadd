/- A store of chunks in memory: Has, Put. A store of chunks in memory: Get. A store of chunks in memory: apply. A store of chunks that is opened: plain. A store of chunks in memory: Open. Blobs that go from chunks to volumes: plain; Get of what a store holds; a library of up to three drives behind its crash. -/
import Derived.Test.YtekioplbfoonkaaGreatDoorMg7
import Derived.Stop.BytesEq
import Derived.Test.YtekioplbfoonkaaGreatDoorMg9
namespace Go.Proofs.YtekioplbfoonkaaGreatDoor
open Go.RowKit
set_option linter.unusedVariables false
set_option maxRecDepth 100000
set_option maxHeartbeats 4000000
def Cst.put (s : Cst) (x : It) : Cst := ⟨(s.pre x).done, (s.pre x).cur ++ [x], true, (s.pre x).c + 1⟩
theorem put_F (s : Cst) (x : It) : (s.put x).F = fnPut s.F (ulit x.1) (plc ((s.pre x).done.length + 1) (segT (s.pre x).cur).length x) := by
  unfold Cst.put
  rw [F_put (s.pre x) x, (pre_F s x).1]
section
variable {w0 w : World} {I : Part} {L : List HP} {q p : Nat} {s : Cst} {d : Dst}
theorem chas_no (id : Nat) (hid1 : id ≤ 1000) (hno : s.F (ulit id) = none) (H : Sat w0 I (chp q p s :: L) w) :
    Calls Tryz.prog 77 #[.pointer (some ⟨q, 0, none⟩), .int .u64 (id : Int)] w fun e w' => e = .returned (.bool false) ∧ Sat w0 I (chp q p s :: L) w' := by
  obtain ⟨b, H1⟩ := H.chOpen
  have c2 := H1.isBlk.cell 2 (v := .map (some b)) rfl
  have hl := H1.swap.gmapGet2 placeT (keyU id hid1)
  rw [hno] at hl
  simp only [Option.getD_none, Option.isSome_none] at hl
  unfold cenc pl0 at hl
  have H2 := hid H
  clear H H1
  go_enter Tryz.func77, Tryz.ntmps77
  go_wp2_with fail
  go_ret
  exact ⟨rfl, H2.out.alloc_ _⟩
theorem cput_sat (hT : Rd I (some ⟨0, 0, none⟩) tabV) (h : DR s d) (x : It) (hx : CItm x) (hn : s.segs.flatten.length < 6) (hno : s.F (ulit x.1) = none) (H : Sat w0 I (chp q p s :: dskp p d :: L) w) :
    Calls Tryz.prog 30 #[.pointer (some ⟨q, 0, none⟩), .int .u64 (x.1 : Int), .string x.2] w fun e w' => ∃ D, e = .returned (.int .i64 0) ∧ DR (s.put x) D ∧ Sat w0 I (chp q p (s.put x) :: dskp p D :: L) w' := by
  have HT := hid hT
  have hDR := hid h
  have hsz := hx.sz
  have hi1 := hx.id
  have hsz1 : ¬ (4000 : Int) < (x.2.size : Int) := by omega
  have hsz2 : ¬ 4000 < x.2.size := by omega
  have hsc : s.c < 1000000 := by have := h.sc; omega
  have HPF := hid (put_F s x)
  have HPC := hid (pre_F s x)
  have HH := hid H
  have HNO := hid hno
  clear H hT h hno
  go_enter Tryz.func30, Tryz.ntmps30
  go_wp2_with fail
  refine (chas_no x.1 hi1 HNO.out HH.out).mono ?_; rintro e w1 ⟨rfl, S1⟩
  have H1 := hid S1
  clear S1 HH
  go_wp2_with fail
  refine (cadd_sat HT.out hDR.out x hx hn H1.out).mono ?_; rintro e w2 ⟨D, b, rfl, hD, S2⟩
  have hD2 := hid hD
  obtain ⟨PL, hPL⟩ : ∃ PL, plc ((s.pre x).done.length + 1) (segT (s.pre x).cur).length x = PL := ⟨_, rfl⟩
  have hplL : ∃ v0 v1 v2 v3 v4 v5 v6 v7 v8 v9 v10, PL = [v0, v1, v2, v3, v4, v5, v6, v7, v8, v9, v10] := by
    have h1 := plc_len ((s.pre x).done.length + 1) (segT (s.pre x).cur).length x
    rw [hPL] at h1
    match PL, h1 with
    | [v0, v1, v2, v3, v4, v5, v6, v7, v8, v9, v10], _ => exact ⟨v0, v1, v2, v3, v4, v5, v6, v7, v8, v9, v10, rfl⟩
  have hone : ∀ v ∈ PL, v.oneCell' = true := by rw [← hPL]; exact plc_one _ _ _
  rw [hPL]
  have HPL := hid hPL
  clear hPL hD
  obtain ⟨v0, v1, v2, v3, v4, v5, v6, v7, v8, v9, v10, rfl⟩ := hplL
  obtain ⟨z, hz⟩ := S2.sizeQ
  have H2 := hid (S2.alloc (b := z) (T := 156) (cs := pl0) rfl hz.symm)
  clear S2 H1
  go_upto_region 6 with (refine wpList_storeS whP rfl _ _ rfl rfl rfl rfl rfl hone H2.out ?_; intro w3 S3; have H3 := hid S3; clear S3)
  clear H2 hz
  have c2 := H3.out.swap.isBlk.cell 2 (v := .map (some b)) rfl
  have e0 := H3.out.isBlk.cell 0 (v := v0) rfl
  have e1 := H3.out.isBlk.cell 1 (v := v1) rfl
  have e2 := H3.out.isBlk.cell 2 (v := v2) rfl
  have e3 := H3.out.isBlk.cell 3 (v := v3) rfl
  have e4 := H3.out.isBlk.cell 4 (v := v4) rfl
  have e5 := H3.out.isBlk.cell 5 (v := v5) rfl
  have e6 := H3.out.isBlk.cell 6 (v := v6) rfl
  have e7 := H3.out.isBlk.cell 7 (v := v7) rfl
  have e8 := H3.out.isBlk.cell 8 (v := v8) rfl
  have e9 := H3.out.isBlk.cell 9 (v := v9) rfl
  have e10 := H3.out.isBlk.cell 10 (v := v10) rfl
  obtain ⟨w9, hrun, S9⟩ := (H3.out.pick 2).drew.gmapPut placeT (keyU x.1 hi1) [v0, v1, v2, v3, v4, v5, v6, v7, v8, v9, v10] hsc
  have HS9 := hid S9
  unfold cenc at hrun
  clear S9
  go_upto_region 8 with fail
  go_region
  all_goals
    go_wp2_with fail
    go_ret
    have hF : Sat w0 I (blk q 148 (stc p b (s.put x)) :: gmap 34 cenc b (s.put x).c (s.put x).F :: dskp p D :: L) w9 := by
      have h1 := HS9.out
      rw [HPF.out, HPL.out]
      have e1 : (s.put x).c = s.c + 1 := by unfold Cst.put; rw [HPC.out.2.1]
      rw [e1]
      exact h1.swap.drop.swap
    first
      | exact ⟨rfl, D, hD2.out, Sat.chClose hF⟩
      | exact ⟨D, rfl, hD2.out, Sat.chClose hF⟩
end
end Go.Proofs.YtekioplbfoonkaaGreatDoor
namespace Go.Proofs.YtekioplbfoonkaaGreatDoor
open Go.RowKit
set_option linter.unusedVariables false
set_option maxRecDepth 100000
set_option maxHeartbeats 4000000
section
variable {w0 w : World} {I : Part} {L : List HP} {q p : Nat} {s : Cst} {d : Dst}
theorem dread_yes (hd : d.calm) (name : ByteArray) (hs : name.size ≤ maxLen) {x : Fst} (hx : (d.F (.string name.data.toList)).getD fz = x) (hnt : x.nt = true) (H : Sat w0 I (dskp p d :: L) w) :
    Calls Tryz.prog 75 #[.pointer (some ⟨p, 0, none⟩), .string name] w fun e w' => e = .returned (.tuple #[.string x.nx, .int .i64 0]) ∧ Sat w0 I (dskp p d :: L) w' := by
  have := dread_sat hd name hs hx H
  rwa [if_pos hnt] at this
set_option maxRecDepth 20000 in
theorem cget_sat (hT : Rd I (some ⟨0, 0, none⟩) tabV) (hcal : d.calm) (x : It) (hx : CItm x) (k a : Nat) (hk1 : 1 ≤ k) (hk7 : k ≤ 7) (hF : s.F (ulit x.1) = some (plc k a x)) {f : Fst} (hf : (d.F (nk k)).getD fz = f) (hnt : f.nt = true)
    (hext : f.nx.extract a (a + recZ x) = ⟨(recF x.1 x.2).toArray⟩) (hle : a + recZ x ≤ f.nx.size) (hsz : f.nx.size ≤ 1000000) (H : Sat w0 I (chp q p s :: dskp p d :: L) w) :
    Calls Tryz.prog 32 #[.pointer (some ⟨q, 0, none⟩), .int .u64 (x.1 : Int)] w fun e w' => e = .returned (.tuple #[.string x.2, .int .i64 0]) ∧ Sat w0 I (chp q p s :: dskp p d :: L) w' := by
  have HT := hid hT
  have hi1 := hx.id
  have hz := recZ_le hx
  have hzp := recZ_pos x
  have hfs : (⟨(recF x.1 x.2).toArray⟩ : ByteArray).size = recZ x := rfl
  have HX : Hid ((d.F (.string (⟨(nmL k).toArray⟩ : ByteArray).data.toList)).getD fz = f) := hid hf
  have hO := onlyR_frame (recB x.1 x.2) (by have := recB_len hx; omega)
  have HO : Hid (onlyR (⟨(recF x.1 x.2).toArray⟩ : ByteArray).data.toList = (recB x.1 x.2, 0)) := hid hO
  obtain ⟨b, H1⟩ := H.chOpen
  have c2 := H1.isBlk.cell 2 (v := .map (some b)) rfl
  have hl := H1.swap.gmapGet2 placeT (keyU x.1 hi1)
  rw [hF] at hl
  simp only [Option.getD_some, Option.isSome_some] at hl
  unfold cenc at hl
  obtain ⟨z, hzz⟩ := H.sizeQ
  have H2 := hid (H.alloc (b := z) (T := 156) (cs := pl0) rfl hzz.symm)
  obtain ⟨N, hN⟩ : ∃ N, recZ x = N := ⟨_, rfl⟩
  have HN := hid hN
  have HEXT := hid hext
  clear H H1 hT hF hf hO
  go_enter Tryz.func32, Tryz.ntmps32
  go_upto_region 2 with (refine wpList_storeS whP rfl _ _ rfl rfl rfl rfl (plc_len _ _ _) (plc_one _ _ _) H2.out ?_; intro w3 S3; have H3 := hid S3; clear S3)
  clear H2 hzz hl c2
  obtain ⟨a0, a1, a2, a3, a4, a5, a6, a7, rr, hrr⟩ : ∃ a0 a1 a2 a3 a4 a5 a6 a7 rr, recF x.1 x.2 = a0 :: a1 :: a2 :: a3 :: a4 :: a5 :: a6 :: a7 :: rr := by
    have h8 : 8 ≤ (recF x.1 x.2).length := by have := recZ_pos x; unfold recZ at this; omega
    match hm : recF x.1 x.2, h8 with
    | b0 :: b1 :: b2 :: b3 :: b4 :: b5 :: b6 :: b7 :: r, _ => exact ⟨b0, b1, b2, b3, b4, b5, b6, b7, r, rfl⟩
  have hpl : plc k a x = [.int .i64 (k : Int), .int .i64 (a : Int), .int .i64 (N : Int), .int .u8 (a0.toNat : Int), .int .u8 (a1.toNat : Int), .int .u8 (a2.toNat : Int), .int .u8 (a3.toNat : Int), .int .u8 (a4.toNat : Int), .int .u8 (a5.toNat : Int), .int .u8 (a6.toNat : Int), .int .u8 (a7.toNat : Int)] := by
    unfold plc
    rw [HN.out, hrr]; rfl
  have HPL := hid hpl
  have H3' : Hid (Sat w0 I (blk z 156 [.int .i64 (k : Int), .int .i64 (a : Int), .int .i64 (N : Int), .int .u8 (a0.toNat : Int), .int .u8 (a1.toNat : Int), .int .u8 (a2.toNat : Int), .int .u8 (a3.toNat : Int), .int .u8 (a4.toNat : Int), .int .u8 (a5.toNat : Int), .int .u8 (a6.toNat : Int), .int .u8 (a7.toNat : Int)] :: chp q p s :: dskp p d :: L) w3) := hid (by rw [← hpl]; exact H3.out)
  have hhd : hd8 (⟨(recF x.1 x.2).toArray⟩ : ByteArray).data.toList = [.int .u8 (a0.toNat : Int), .int .u8 (a1.toNat : Int), .int .u8 (a2.toNat : Int), .int .u8 (a3.toNat : Int), .int .u8 (a4.toNat : Int), .int .u8 (a5.toNat : Int), .int .u8 (a6.toNat : Int), .int .u8 (a7.toNat : Int)] := by
    show hd8 (recF x.1 x.2) = _
    rw [hrr]; rfl
  have HHD := hid hhd
  clear H3 hpl hhd hrr
  rw [hN] at hz hzp hfs hle hext
  clear hN
  have S3 := H3'.out
  have z0 := S3.isBlk.cell 0 (v := .int .i64 (k : Int)) rfl
  obtain ⟨b2, S4⟩ := S3.swap.chOpen
  have c0 := S4.isBlk.cell 0 (v := .pointer (some ⟨p, 0, none⟩)) rfl
  have HNM := hid (fun (w : World) => nameK w k hk1 hk7)
  clear S3 S4
  generalize hPLC : ([.int .i64 (k : Int), .int .i64 (a : Int), .int .i64 (N : Int), .int .u8 (a0.toNat : Int), .int .u8 (a1.toNat : Int), .int .u8 (a2.toNat : Int), .int .u8 (a3.toNat : Int), .int .u8 (a4.toNat : Int), .int .u8 (a5.toNat : Int), .int .u8 (a6.toNat : Int), .int .u8 (a7.toNat : Int)] : List Value) = PLC at *
  have HPC := hid hPLC
  clear hPLC
  go_upto_region 4 with fail
  go_cut [8, 9] (fun t e wx => t = .string f.nx ∧ e = .int .i64 0 ∧ Sat w0 I (blk z 156 PLC :: chp q p s :: dskp p d :: L) wx)
  case first =>
    go_region_with (first
      | (go_at_call 38; refine (HNM.out _).mono ?_; rintro e w5 ⟨rfl, n5, rfl⟩)
      | (go_at_call 75; refine (dread_yes hcal ⟨(nmL k).toArray⟩ (nmz k) HX.out hnt ((H3'.out.drewN (1 + n5)).pick 2)).mono ?_; rintro e w6 ⟨rfl, S6⟩; have H6 := hid S6; clear S6))
    all_goals
      go_wp2_with fail
      go_meet
      exact ⟨rfl, rfl, (H6.out.pick 2).pick 2⟩
  case rest =>
    obtain ⟨rfl, rfl, S6⟩ := hcut
    clear z0 c0 H3'
    rw [← HPC.out] at S6
    have z1 := S6.isBlk.cell 1 (v := .int .i64 (a : Int)) rfl
    have z2 := S6.isBlk.cell 2 (v := .int .i64 (N : Int)) rfl
    obtain ⟨M, hM⟩ : ∃ M, a + N = M := ⟨_, rfl⟩
    have hw : IntKind.i64.wrap ((a : Int) + (N : Int)) = (M : Int) := by rw [IntWalk.i64_in _ (by omega)]; omega
    rw [hM] at hle hext
    have hnl : decide (f.nx.size < M) = false := by simp; omega
    have hnl2 : ¬ f.nx.size < M := by omega
    have hai : (a : Int) ≤ (M : Int) := by omega
    have ha0 : (0 : Int) ≤ (a : Int) := by omega
    have han : a ≤ M := by omega
    have hal : (M : Int) ≤ (f.nx.size : Int) := by omega
    clear hM
    have H6 := hid S6
    clear S6
    obtain ⟨fr, hfr⟩ : ∃ fr : ByteArray, (⟨(recF x.1 x.2).toArray⟩ : ByteArray) = fr := ⟨_, rfl⟩
    rw [hfr] at hext hfs HO HHD
    clear hfr HEXT
    go_upto_region 10 with fail
    go_wp2_with fail
    refine (only_sat HT.out fr (by rw [hfs]; omega) HO.out H6.out).mono ?_; rintro e w7 ⟨rfl, S7⟩
    clear z1 z2
    have y3 := S7.isBlk.cell 3 (v := .int .u8 (a0.toNat : Int)) rfl
    have y4 := S7.isBlk.cell 4 (v := .int .u8 (a1.toNat : Int)) rfl
    have y5 := S7.isBlk.cell 5 (v := .int .u8 (a2.toNat : Int)) rfl
    have y6 := S7.isBlk.cell 6 (v := .int .u8 (a3.toNat : Int)) rfl
    have y7 := S7.isBlk.cell 7 (v := .int .u8 (a4.toNat : Int)) rfl
    have y8 := S7.isBlk.cell 8 (v := .int .u8 (a5.toNat : Int)) rfl
    have y9 := S7.isBlk.cell 9 (v := .int .u8 (a6.toNat : Int)) rfl
    have y10 := S7.isBlk.cell 10 (v := .int .u8 (a7.toNat : Int)) rfl
    have H7 := hid S7
    have h8 : 8 ≤ fr.size := by omega
    clear S7 H6
    go_upto_region 11 with fail
    have heq : ∀ w, (Op.equalIn 10000 154 (.agg #[.int .u8 (a0.toNat : Int), .int .u8 (a1.toNat : Int), .int .u8 (a2.toNat : Int), .int .u8 (a3.toNat : Int), .int .u8 (a4.toNat : Int), .int .u8 (a5.toNat : Int), .int .u8 (a6.toNat : Int), .int .u8 (a7.toNat : Int)]) (.agg #[.int .u8 (a0.toNat : Int), .int .u8 (a1.toNat : Int), .int .u8 (a2.toNat : Int), .int .u8 (a3.toNat : Int), .int .u8 (a4.toNat : Int), .int .u8 (a5.toNat : Int), .int .u8 (a6.toNat : Int), .int .u8 (a7.toNat : Int)])).run Tryz.prog w = .ok true w := fun w => by
      have h1 := run_equalIn_bytes (P := Tryz.prog) w 9998 154 5 8 Tryz.underlying154 Tryz.underlying5 (fun w => by simp [go_sem]) [a0, a1, a2, a3, a4, a5, a6, a7] [a0, a1, a2, a3, a4, a5, a6, a7] rfl rfl
      rw [show ([a0, a1, a2, a3, a4, a5, a6, a7] == [a0, a1, a2, a3, a4, a5, a6, a7]) = true by simp] at h1
      exact h1
    go_cut [68] (fun t wx => t = .bool false ∧ Sat w0 I (blk z 156 [.int .i64 (k : Int), .int .i64 (a : Int), .int .i64 (N : Int), .int .u8 (a0.toNat : Int), .int .u8 (a1.toNat : Int), .int .u8 (a2.toNat : Int), .int .u8 (a3.toNat : Int), .int .u8 (a4.toNat : Int), .int .u8 (a5.toNat : Int), .int .u8 (a6.toNat : Int), .int .u8 (a7.toNat : Int)] :: chp q p s :: dskp p d :: L) wx)
    case first =>
      go_region_with (first
        | (go_at_call 81; refine (headOf_sat fr h8 H7.out.drew).mono ?_; rintro e w8 ⟨rfl, S8⟩; rw [HHD.out]; have u3 := S8.isBlk.cell 3 (v := .int .u8 (a0.toNat : Int)) rfl; have u4 := S8.isBlk.cell 4 (v := .int .u8 (a1.toNat : Int)) rfl; have u5 := S8.isBlk.cell 5 (v := .int .u8 (a2.toNat : Int)) rfl; have u6 := S8.isBlk.cell 6 (v := .int .u8 (a3.toNat : Int)) rfl; have u7 := S8.isBlk.cell 7 (v := .int .u8 (a4.toNat : Int)) rfl; have u8 := S8.isBlk.cell 8 (v := .int .u8 (a5.toNat : Int)) rfl; have u9 := S8.isBlk.cell 9 (v := .int .u8 (a6.toNat : Int)) rfl; have u10 := S8.isBlk.cell 10 (v := .int .u8 (a7.toNat : Int)) rfl; have H8 := hid S8; clear S8))
      all_goals
        go_wp2_with fail
        go_meet
        exact ⟨rfl, H8.out⟩
    case rest =>
      obtain ⟨rfl, S8⟩ := hcut
      have H8 := hid S8.drop
      clear S8 H7 y3 y4 y5 y6 y7 y8 y9 y10
      go_wp2_with fail
      refine (parse_sat x.1 x.2 hx ⟨(recB x.1 x.2).toArray⟩ rfl H8.out).mono ?_; rintro e w9 ⟨rfl, S9⟩
      have H9 := hid S9
      clear S9 H8
      go_wp2_with fail
      go_returns
      exact ⟨rfl, H9.out.alloc_ _⟩
end
end Go.Proofs.YtekioplbfoonkaaGreatDoor
namespace Go.Proofs.YtekioplbfoonkaaGreatDoor
open Go.RowKit
set_option linter.unusedVariables false
set_option maxRecDepth 100000
set_option maxHeartbeats 4000000
theorem segT_split (l : List It) (j : Nat) (hj : j < l.length) : segT l = segT (l.take j) ++ (recF l[j].1 l[j].2 ++ segT (l.drop (j + 1))) := by
  have h1 : l = l.take j ++ (l[j] :: l.drop (j + 1)) := by
    rw [← List.drop_eq_getElem_cons hj]; exact (List.take_append_drop j l).symm
  have h2 : segT (l.take j ++ (l[j] :: l.drop (j + 1))) = segT (l.take j) ++ (recF l[j].1 l[j].2 ++ segT (l.drop (j + 1))) := by
    rw [segT_app]; rfl
  rw [← h2, ← h1]
theorem hd8_app (A B : List UInt8) (h : 8 ≤ A.length) : hd8 (A ++ B) = hd8 A := by
  unfold hd8
  rw [List.take_append_of_le_length h]
theorem hd8_at (l : List It) (j : Nat) (hj : j < l.length) : hd8 ((tx l).extract (segT (l.take j)).length (tx l).size).data.toList = hd8 (recF l[j].1 l[j].2) := by
  have h8 : 8 ≤ (recF l[j].1 l[j].2).length := by have := recZ_pos l[j]; unfold recZ at this; omega
  rw [dropS]
  show hd8 ((segT l).drop _) = _
  rw [segT_split l j hj, List.drop_left, hd8_app _ _ h8]
theorem take_at (l : List It) (j : Nat) (hj : j < l.length) : (segT (l.take (j + 1))).length = (segT (l.take j)).length + recZ l[j] := by
  rw [List.take_succ_eq_append_getElem hj, segT_app, segT_one, List.length_append]; rfl
theorem take_le (l : List It) (j : Nat) : (segT (l.take j)).length ≤ (segT l).length := by
  have h : segT l = segT (l.take j) ++ segT (l.drop j) := by rw [← segT_app, List.take_append_drop]
  rw [h, List.length_append]; omega
theorem plOf_take (F : Lit → Option Pl) (k : Nat) (l : List It) (j : Nat) (hj : j < l.length) : fnAll F (plOf k (l.take (j + 1)) 0) = fnPut (fnAll F (plOf k (l.take j) 0)) (ulit l[j].1) (plc k (segT (l.take j)).length l[j]) := by
  rw [List.take_succ_eq_append_getElem hj, plOf_app, fnAll_app]
  simp [plOf, fnAll]
section
variable {w0 w : World} {I : Part} {L : List HP} {q p b c : Nat} {F : Lit → Option Pl} {sc : List Value}
set_option maxRecDepth 20000 in
theorem capply_sat (hT : Rd I (some ⟨0, 0, none⟩) tabV) (l : List It) (hl : ∀ x ∈ l, CItm x) (k : Nat) (hk : k ≤ 100) (hsz : (segT l).length ≤ 100000) (hc : c + l.length ≤ 1000) (h2 : sc[2]? = some (.map (some b))) (H : Sat w0 I (blk q 148 sc :: gmap 34 cenc b c F :: L) w) :
    Calls Tryz.prog 76 #[.pointer (some ⟨q, 0, none⟩), .int .i64 (k : Int), .string (tx l)] w fun e w' => ∃ J, e = .returned (.tuple #[]) ∧ I.le J ∧ Sat w0 J (blk q 148 sc :: gmap 34 cenc b (c + l.length) (fnAll F (plOf k l 0)) :: L) w' := by
  have HT := hid hT
  have HL := hid hl
  have HH := hid H
  obtain ⟨T, hTx⟩ : ∃ T : ByteArray, tx l = T := ⟨_, rfl⟩
  have hTs : T.size ≤ 100000 := by rw [← hTx]; exact hsz
  have HS : Hid (scanR T.data.toList = (l.map fun x => recB x.1 x.2, (segT l).length)) := hid (by rw [← hTx]; exact segT_scan l hl)
  have HTX := hid hTx
  obtain ⟨N, hN⟩ : ∃ N, l.length = N := ⟨_, rfl⟩
  have HN := hid hN
  rw [hTx]
  clear H hl hT hTx
  go_enter Tryz.func76, Tryz.ntmps76
  go_wp2_with fail
  refine (scan_sat HT.out T (by omega) HS.out HH.out).mono ?_; rintro e w1 ⟨J, ad, cap, rfl, hc1, hc2, hJ, hrd, S1⟩
  rw [List.length_map, hN] at hc1 ⊢
  have H1 := hid S1
  have HJ := hid hJ
  have HR := hid hrd
  clear S1 HH hJ hrd hN
  go_wp2_with fail
  go_loopw [8, 9, 10, 11, 12, 13, 21, 54, 70, 78] (fun a _ _ _ _ _ i _ _ _ wr => ∃ j : Nat, j ≤ N ∧ i = .int .i64 (j : Int) ∧ a = .int .i64 ((segT (l.take j)).length : Int) ∧ Sat w0 J (blk q 148 sc :: gmap 34 cenc b (c + j) (fnAll F (plOf k (l.take j) 0)) :: L) wr) (fun _ _ _ _ _ _ i _ _ _ _ => N - (intOf i).toNat)
  case atStart => exact ⟨0, Nat.zero_le _, rfl, rfl, H1.out⟩
  case round =>
    clear H1
    obtain ⟨j, hj, rfl, rfl, Sr⟩ := hrel
    by_cases hlt : j < N
    · have hjl : j < l.length := by rw [HN.out]; exact hlt
      obtain ⟨b0, off, rfl, e0⟩ := HR.out.get Sr j (u := lvS (recB l[j].1 l[j].2)) (by simp [hjl])
      unfold lvS at e0
      have hix := HL.out l[j] (List.getElem_mem hjl)
      have hzp := recZ_pos l[j]
      have hz := recZ_le hix
      have hta := take_at l j hjl
      have htl := take_le l (j + 1)
      have HHD := hid (hd8_at l j hjl)
      have HPT := hid (plOf_take F k l j hjl)
      have hj1 : (j : Int) < (N : Int) := by omega
      have hj0 : (0 : Int) ≤ (j : Int) := by omega
      have hi1 := hix.id
      have hHD := hd8_at l j hjl
      rw [HTX.out] at hHD
      have hTl : T.size = (segT l).length := by rw [← HTX.out]; rfl
      have hbz : (⟨(recB l[j].1 l[j].2).toArray⟩ : ByteArray).size + 8 = recZ l[j] := (recF_len l[j]).symm
      clear HHD
      generalize l[j] = x at *
      obtain ⟨a0, a1, a2, a3, a4, a5, a6, a7, rr, hrr⟩ : ∃ a0 a1 a2 a3 a4 a5 a6 a7 rr, recF x.1 x.2 = a0 :: a1 :: a2 :: a3 :: a4 :: a5 :: a6 :: a7 :: rr := by
        have h8 : 8 ≤ (recF x.1 x.2).length := by have := recZ_pos x; unfold recZ at this; omega
        match hm : recF x.1 x.2, h8 with
        | b0 :: b1 :: b2 :: b3 :: b4 :: b5 :: b6 :: b7 :: r, _ => exact ⟨b0, b1, b2, b3, b4, b5, b6, b7, r, rfl⟩
      obtain ⟨n0, hn0⟩ : ∃ n0, (segT (l.take j)).length = n0 := ⟨_, rfl⟩
      obtain ⟨z, hzz⟩ : ∃ z, recZ x = z := ⟨_, rfl⟩
      have hpl : plc k n0 x = [.int .i64 (k : Int), .int .i64 (n0 : Int), .int .i64 (z : Int), .int .u8 (a0.toNat : Int), .int .u8 (a1.toNat : Int), .int .u8 (a2.toNat : Int), .int .u8 (a3.toNat : Int), .int .u8 (a4.toNat : Int), .int .u8 (a5.toNat : Int), .int .u8 (a6.toNat : Int), .int .u8 (a7.toNat : Int)] := by
        unfold plc
        rw [hzz, hrr]; rfl
      rw [hrr] at hHD
      have hhd : hd8 (T.extract n0 T.size).data.toList = [.int .u8 (a0.toNat : Int), .int .u8 (a1.toNat : Int), .int .u8 (a2.toNat : Int), .int .u8 (a3.toNat : Int), .int .u8 (a4.toNat : Int), .int .u8 (a5.toNat : Int), .int .u8 (a6.toNat : Int), .int .u8 (a7.toNat : Int)] := by rw [← hn0]; exact hHD
      rw [hn0] at hta HPT
      rw [hzz] at hzp hz hta hbz
      rw [hpl] at HPT
      rw [hn0]
      obtain ⟨ct, hct⟩ : ∃ ct : ByteArray, (⟨(recB x.1 x.2).toArray⟩ : ByteArray) = ct := ⟨_, rfl⟩
      have hcd : ct.data.toList = recB x.1 x.2 := by rw [← hct]
      rw [hct] at e0 hbz
      have hn1 : n0 + z ≤ T.size := by rw [hTl, ← hta]; exact htl
      have hTE : 8 ≤ (T.extract n0 T.size).size := by rw [ByteArray.size_extract]; omega
      have HHD2 := hid hhd
      have HCD := hid hcd
      have HTA := hid hta
      have HTE := hid hTE
      clear hHD hrr hn0 hzz hpl hhd hct hcd hta htl hTE hTl
      have HSr := hid Sr
      clear Sr
      have hw1 : IntKind.i64.wrap (8 + (ct.size : Int)) = (z : Int) := by rw [IntWalk.i64_in _ (by omega)]; omega
      have hw2 : IntKind.i64.wrap ((n0 : Int) + (z : Int)) = ((n0 + z : Nat) : Int) := by rw [IntWalk.i64_in _ (by omega)]; omega
      have hnT : n0 ≤ T.size := by omega
      have hnTI : (n0 : Int) ≤ (T.size : Int) := by omega
      have hn00 : (0 : Int) ≤ (n0 : Int) := by omega
      go_wp2_with fail
      refine (parse_sat x.1 x.2 hix ct HCD.out HSr.out).mono ?_; rintro e w2 ⟨rfl, S2⟩
      obtain ⟨r, hr⟩ := S2.sizeQ
      have H2 := hid (S2.alloc (b := r) (T := 160) (cs := [.int .u64 1, .int .u64 (x.1 : Int), .string x.2]) rfl hr.symm)
      clear S2 HSr e0
      go_upto_region 6 with fail
      refine wp_gen (fun w3 => Sat w0 J (blk r 160 [.int .u64 1, .int .u64 (x.1 : Int), .string x.2] :: blk q 148 sc :: gmap 34 cenc b (c + j) (fnAll F (plOf k (l.take j) 0)) :: L) w3) H2.out ?_
      clear H2 hr
      intro w3 S3
      have r0 := S3.isBlk.cell 0 (v := .int .u64 1) rfl
      have r1 := S3.isBlk.cell 1 (v := .int .u64 (x.1 : Int)) rfl
      have c2 := S3.swap.isBlk.cell 2 (v := .map (some b)) h2
      have H3 := hid S3
      clear S3
      go_upto_block 2 with fail
      go_cut [] (fun wx => Sat w0 J (blk q 148 sc :: gmap 34 cenc b (c + j + 1) (fnAll F (plOf k (l.take (j + 1)) 0)) :: L) wx)
      case first =>
        go_upto_region 10 with fail
        go_region_with (first
          | (go_at_call 81; refine (headOf_sat (T.extract n0 T.size) HTE.out H3.out.drew).mono ?_; rintro e w8 ⟨rfl, S8⟩; rw [HHD2.out]; have y1 := S8.isBlk.cell 1 (v := .int .u64 (x.1 : Int)) rfl; have y2 := S8.swap.isBlk.cell 2 (v := .map (some b)) h2; obtain ⟨w9, hrun, S9⟩ := (S8.drop.swap).gmapPut placeT (keyU x.1 hi1) [.int .i64 (k : Int), .int .i64 (n0 : Int), .int .i64 (z : Int), .int .u8 (a0.toNat : Int), .int .u8 (a1.toNat : Int), .int .u8 (a2.toNat : Int), .int .u8 (a3.toNat : Int), .int .u8 (a4.toNat : Int), .int .u8 (a5.toNat : Int), .int .u8 (a6.toNat : Int), .int .u8 (a7.toNat : Int)] (by omega); unfold cenc at hrun; have HS9 := hid S9; clear S8 S9))
        all_goals
          go_wp2_with fail
          go_meet
          rw [HPT.out]; exact HS9.out.swap
      case rest =>
        have H9 := hid hcut
        clear hcut H3 r0 r1 c2
        go_wp2_with fail
        go_roundw
        case rel => exact ⟨j + 1, by omega, by go_num, by rw [HTA.out, Int.natCast_add], by rw [← Nat.add_assoc]; exact H9.out⟩
        case measure => (simp [intOf] <;> omega)
    · obtain rfl : j = N := by omega
      rw [List.take_of_length_le (by rw [HN.out]; exact Nat.le_refl _)] at Sr
      have H1 := hid Sr
      clear Sr
      go_wp2_with fail
      go_returns
      exact ⟨J, rfl, HJ.out, by rw [HN.out]; exact H1.out⟩
end
end Go.Proofs.YtekioplbfoonkaaGreatDoor
namespace Go.Proofs.YtekioplbfoonkaaGreatDoor
open Go.RowKit
set_option linter.unusedVariables false
set_option maxRecDepth 100000
/-- the names of n files. -/
def nmS (n : Nat) : List (List UInt8) := (List.range n).map fun k => nmL (k + 1)
theorem nmS_len (n : Nat) : (nmS n).length = n := by simp [nmS]
theorem nmS_get (n k : Nat) (h : k < (nmS n).length) : (nmS n)[k] = nmL (k + 1) := by simp [nmS]
theorem nmS_mem (n : Nat) (x : List UInt8) : x ∈ nmS n ↔ ∃ k, k < n ∧ x = nmL (k + 1) := by
  simp only [nmS, List.mem_map, List.mem_range]
  exact ⟨fun ⟨k, h, e⟩ => ⟨k, h, e.symm⟩, fun ⟨k, h, e⟩ => ⟨k, h, e.symm⟩⟩
theorem nmS_nd (n : Nat) (h : n ≤ 90) : (nmS n).Nodup := by
  unfold nmS
  rw [List.Nodup, List.pairwise_iff_getElem]
  intro i j hi hj hij e
  simp only [List.length_map, List.length_range] at hi hj
  simp only [List.getElem_map, List.getElem_range] at e
  have := nmL_inj (by omega) (by omega) e
  omega
theorem nmL_le {a b : Nat} (hab : a ≤ b) (hb : b ≤ 100) : leB (nmL a) (nmL b) = true := by
  have h : (48 + a) % 256 ≤ (48 + b) % 256 := by omega
  rcases Nat.lt_or_ge a b with h1 | h1
  · simp only [decide_eq_true_eq]
    refine List.le_of_lt ?_
    unfold nmL
    iterate 10 (refine List.Lex.cons ?_)
    exact List.Lex.rel (by show UInt8.ofNat (48 + a) < UInt8.ofNat (48 + b); rw [UInt8.lt_iff_toNat_lt, UInt8.toNat_ofNat', UInt8.toNat_ofNat']; omega)
  · obtain rfl : a = b := by omega
    simp only [decide_eq_true_eq]
    exact List.le_refl _
theorem nmS_so (n : Nat) (h : n ≤ 90) : (nmS n).mergeSort leB = nmS n := by
  refine List.mergeSort_of_pairwise ?_
  rw [List.pairwise_iff_getElem]
  intro i j hi hj hij
  rw [nmS_get, nmS_get]
  have := nmS_len n
  exact nmL_le (by omega) (by omega)
/-- a disk's files are these. -/
structure Held (d : Dst) (segs : List (List It)) : Prop where
  calm : d.calm
  get : ∀ k (h : k < segs.length), ∃ st sx, d.F (nk (k + 1)) = some ⟨true, tx segs[k], st, sx⟩
  rest : ∀ x : List UInt8, (d.F (.string x)).isSome = true → ∃ k, k < segs.length ∧ x = nmL (k + 1)
  its : ∀ l ∈ segs, ∀ x ∈ l, CItm x
  len : segs.length ≤ 6
  num : segs.flatten.length ≤ 6
theorem Held.files {d : Dst} {segs : List (List It)} (h : Held d segs) : Files d (nmS segs.length) := by
  have hl := h.len
  refine ⟨nmS_nd _ (by omega), fun x => ?_, fun x hx => ?_, nmS_so _ (by omega), by rw [nmS_len]; omega⟩
  · rw [nmS_mem]
    constructor
    · rintro ⟨k, hk, rfl⟩
      obtain ⟨st, sx, e⟩ := h.get k hk
      rw [show Lit.string (nmL (k + 1)) = nk (k + 1) from rfl, e]; rfl
    · exact h.rest x
  · obtain ⟨k, hk, rfl⟩ := (nmS_mem _ _).1 hx
    show 11 ≤ 1000
    omega
theorem Held.there {d : Dst} {segs : List (List It)} (h : Held d segs) : ∀ x ∈ nmS segs.length, ∃ f, d.F (.string x) = some f ∧ f.nt = true := fun x hx => by
  obtain ⟨k, hk, rfl⟩ := (nmS_mem _ _).1 hx
  obtain ⟨st, sx, e⟩ := h.get k hk
  exact ⟨_, e, rfl⟩
/-- the files of a store. -/
def Cst.files (s : Cst) : List (List It) := if s.cur = [] then s.done else s.done ++ [s.cur]
theorem plOf_nil (k a : Nat) : plOf k [] a = [] := rfl
theorem plAll_nil (a : List (List It)) (k : Nat) : plAll (a ++ [[]]) k = plAll a k := by
  rw [plAll_app]; simp [plAll, plOf]
theorem Cst.files_pl (s : Cst) : plAll s.files 1 = plAll s.segs 1 := by
  unfold Cst.files Cst.segs
  split
  · rename_i h; rw [h, plAll_nil]
  · rfl
theorem Cst.files_flat (s : Cst) : s.files.flatten = s.segs.flatten := by
  unfold Cst.files Cst.segs
  split
  · rename_i h; rw [h]; simp
  · rfl
theorem DR.held {s : Cst} {d : Dst} (h : DR s d) : Held d s.files := by
  have hl := h.len
  have hlen : s.files.length = s.done.length + (if s.cur = [] then 0 else 1) := by
    unfold Cst.files; split <;> simp
  refine ⟨h.calm, fun k hk => ?_, fun x hx => ?_, fun l hl x hx => ?_, by omega, by rw [Cst.files_flat]; exact h.num⟩
  · by_cases hk2 : k < s.done.length
    · refine ⟨true, tx s.done[k], ?_⟩
      rw [h.old k hk2]
      have : s.files[k] = s.done[k] := by
        unfold Cst.files; split
        · rfl
        · exact List.getElem_append_left hk2
      rw [this]
    · by_cases hc : s.cur = []
      · rw [hlen, if_pos hc] at hk; omega
      · rw [hlen, if_neg hc] at hk
        obtain rfl : k = s.done.length := by omega
        obtain ⟨st, sx, e, _⟩ := h.new1 hc
        refine ⟨st, sx, ?_⟩
        rw [e]
        have : s.files[s.done.length] = s.cur := by
          simp only [Cst.files, if_neg hc]
          rw [List.getElem_append_right (Nat.le_refl _)]; simp
        rw [this]
  · obtain ⟨k, hk, e⟩ := h.rest x hx
    refine ⟨k, ?_, e⟩
    rw [hlen]
    split
    · rename_i hc
      by_cases hk2 : k < s.done.length
      · omega
      · obtain rfl : k = s.done.length := by omega
        have := (h.new0 hc).1
        subst e
        rw [show Lit.string (nmL (s.done.length + 1)) = nk (s.done.length + 1) from rfl, this] at hx
        cases hx
    · omega
  · refine h.its l ?_ x hx
    unfold Cst.files at hl
    unfold Cst.segs
    split at hl
    · exact List.mem_append_left _ hl
    · exact hl
theorem DR.safe {s : Cst} {d : Dst} (h : DR s d) (hd : s.dirty = false) : ∀ x ∈ nmS s.files.length, ∃ t, d.F (.string x) = some ⟨true, t, true, t⟩ := fun x hx => by
  obtain ⟨k, hk, rfl⟩ := (nmS_mem _ _).1 hx
  by_cases hk2 : k < s.done.length
  · exact ⟨_, h.old k hk2⟩
  · have hlen : s.files.length = s.done.length + (if s.cur = [] then 0 else 1) := by
      unfold Cst.files; split <;> simp
    by_cases hc : s.cur = []
    · rw [hlen, if_pos hc] at hk; omega
    · rw [hlen, if_neg hc] at hk
      obtain rfl : k = s.done.length := by omega
      obtain ⟨st, sx, e, _, h2⟩ := h.new1 hc
      obtain ⟨rfl, rfl⟩ := h2 hd
      exact ⟨_, e⟩
/-- a store that has read so many files. -/
def opn (segs : List (List It)) : Cst := ⟨segs, [], false, segs.flatten.length⟩
theorem opn_F (segs : List (List It)) : (opn segs).F = fnAll (fun _ => none) (plAll segs 1) := by
  unfold Cst.F Cst.segs opn
  simp only
  rw [plAll_nil]
theorem opn_nil : (opn []).F = fun _ => none := by rw [opn_F]; rfl
theorem opn_step (segs : List (List It)) (k : Nat) (hk : k < segs.length) : fnAll (opn (segs.take k)).F (plOf (k + 1) segs[k] 0) = (opn (segs.take (k + 1))).F := by
  rw [opn_F, opn_F, List.take_succ_eq_append_getElem hk, plAll_app, fnAll_app, List.length_take, Nat.min_eq_left (Nat.le_of_lt hk), Nat.add_comm 1]
  simp [plAll]
theorem opn_c (segs : List (List It)) (k : Nat) (hk : k < segs.length) : (segs.take (k + 1)).flatten.length = (segs.take k).flatten.length + segs[k].length := by
  rw [List.take_succ_eq_append_getElem hk, List.flatten_append, List.length_append, List.flatten_cons, List.flatten_nil, List.append_nil]
theorem flatT_le (segs : List (List It)) (k : Nat) : (segs.take k).flatten.length ≤ segs.flatten.length := by
  have h : segs.flatten = (segs.take k).flatten ++ (segs.drop k).flatten := by rw [← List.flatten_append, List.take_append_drop]
  rw [h, List.length_append]; omega
/-- where record j of file k is. -/
theorem plOf_get (k : Nat) : ∀ (l : List It) (a j : Nat) (hj : j < l.length), (l[j].1, plc k (a + (segT (l.take j)).length) l[j]) ∈ plOf k l a
  | x :: l, a, 0, _ => by simp [plOf, segT]
  | x :: l, a, j + 1, hj => by
    have hj' : j < l.length := by simpa using hj
    have ih := plOf_get k l (a + recZ x) j hj'
    have e : (segT ((x :: l).take (j + 1))).length = recZ x + (segT (l.take j)).length := by
      show (recF x.1 x.2 ++ segT (l.take j)).length = _
      rw [List.length_append]; rfl
    rw [e, ← Nat.add_assoc]
    exact List.mem_cons_of_mem _ ih
theorem plAll_get : ∀ (a : List (List It)) (n k j : Nat) (hk : k < a.length) (hj : j < a[k].length), (a[k][j].1, plc (n + k) (segT (a[k].take j)).length a[k][j]) ∈ plAll a n
  | l :: a, n, 0, j, _, hj => by
    have := plOf_get n l 0 j hj
    rw [Nat.zero_add] at this
    exact List.mem_append_left _ this
  | l :: a, n, k + 1, j, hk, hj => by
    have hk' : k < a.length := by simpa using hk
    have ih := plAll_get a (n + 1) k j hk' hj
    rw [show n + 1 + k = n + (k + 1) by omega] at ih
    exact List.mem_append_right _ ih
theorem plOf_ids (k : Nat) : ∀ (l : List It) (a : Nat), (plOf k l a).map (·.1) = l.map (·.1)
  | [], _ => rfl
  | x :: l, a => by simp [plOf, plOf_ids k l]
theorem plAll_ids : ∀ (a : List (List It)) (n : Nat), (plAll a n).map (·.1) = a.flatten.map (·.1)
  | [], _ => rfl
  | l :: a, n => by simp [plAll, plOf_ids, plAll_ids a]
/-- every record of a store is found. -/
theorem Held.find {d : Dst} {segs : List (List It)} (h : Held d segs) (hid : (segs.flatten.map (·.1)).Nodup) (x : It) (hx : x ∈ segs.flatten) :
    ∃ (k a : Nat) (f : Fst), 1 ≤ k ∧ k ≤ 7 ∧ fnAll (fun _ => none) (plAll segs 1) (ulit x.1) = some (plc k a x) ∧ (d.F (nk k)).getD fz = f ∧ f.nt = true ∧
      f.nx.extract a (a + recZ x) = ⟨(recF x.1 x.2).toArray⟩ ∧ a + recZ x ≤ f.nx.size ∧ f.nx.size ≤ 1000000 := by
  obtain ⟨l, hl, hxl⟩ := List.mem_flatten.1 hx
  obtain ⟨k, hk, rfl⟩ := List.mem_iff_getElem.1 hl
  obtain ⟨j, hj, rfl⟩ := List.mem_iff_getElem.1 hxl
  have hm := plAll_get segs 1 k j hk hj
  obtain ⟨i, hi, he⟩ := List.mem_iff_getElem.1 hm
  have hg := fnAll_get (plAll segs 1) (fun _ => none) i hi (by rw [plAll_ids]; exact hid)
  rw [he] at hg
  simp only at hg
  obtain ⟨st, sx, e⟩ := h.get k hk
  have hlen := h.len
  have hsp : segT segs[k] = segT (segs[k].take j) ++ (recF segs[k][j].1 segs[k][j].2 ++ segT (segs[k].drop (j + 1))) := by
    have h1 : segs[k] = segs[k].take j ++ (segs[k][j] :: segs[k].drop (j + 1)) := by
      rw [← List.drop_eq_getElem_cons hj]; exact (List.take_append_drop j _).symm
    have h2 : segT (segs[k].take j ++ (segs[k][j] :: segs[k].drop (j + 1))) = segT (segs[k].take j) ++ (recF segs[k][j].1 segs[k][j].2 ++ segT (segs[k].drop (j + 1))) := by
      rw [segT_app]; rfl
    rw [← h2, ← h1]
  have hsz : (segT segs[k]).length = (segT (segs[k].take j)).length + (recZ segs[k][j] + (segT (segs[k].drop (j + 1))).length) := by
    rw [hsp, List.length_append, List.length_append]; rfl
  have hle : segs[k].length ≤ 6 := by
    have h1 : segs.flatten = (segs.take k).flatten ++ (segs[k] ++ (segs.drop (k + 1)).flatten) := by
      have : segs = segs.take k ++ (segs[k] :: segs.drop (k + 1)) := by
        rw [← List.drop_eq_getElem_cons hk]; exact (List.take_append_drop k _).symm
      have h2 := congrArg List.flatten this
      rw [List.flatten_append, List.flatten_cons] at h2
      exact h2
    have h2 := congrArg List.length h1
    have h3 := h.num
    rw [List.length_append, List.length_append] at h2
    omega
  have hb := segT_le segs[k] (h.its _ (List.getElem_mem hk))
  refine ⟨1 + k, (segT (segs[k].take j)).length, ⟨true, tx segs[k], st, sx⟩, by omega, by omega, hg, ?_, rfl, ?_, ?_, ?_⟩
  · rw [show 1 + k = k + 1 by omega, e]; rfl
  · show (tx segs[k]).extract _ _ = _
    apply ByteArray.ext
    apply Array.toList_inj.1
    rw [ByteArray.data_extract, Array.toList_extract]
    show List.extract (segT segs[k]) _ _ = recF segs[k][j].1 segs[k][j].2
    rw [List.extract_eq_take_drop, hsp, List.drop_left, Nat.add_sub_cancel_left]
    exact List.take_left' rfl
  · show _ ≤ (tx segs[k]).size
    rw [tx_size]; omega
  · show (tx segs[k]).size ≤ _
    rw [tx_size]; omega
end Go.Proofs.YtekioplbfoonkaaGreatDoor
namespace Go.Proofs.YtekioplbfoonkaaGreatDoor
open Go.RowKit
set_option linter.unusedVariables false
set_option maxRecDepth 100000
set_option maxHeartbeats 4000000
section
variable {w0 w : World} {I : Part} {L : List HP} {q p : Nat} {s : Cst} {d : Dst}
theorem stc_opn (p b : Nat) (segs : List (List It)) (k : Nat) (hk : k ≤ segs.length) : stc p b (opn (segs.take k)) = [.pointer (some ⟨p, 0, none⟩), .int .i64 500, .map (some b), .int .i64 ((k + 1 : Nat) : Int), .int .i64 0, .bool false] := by
  simp [stc, opn, segT, Nat.min_eq_left hk]
theorem copen_sat (hT : Rd I (some ⟨0, 0, none⟩) tabV) {segs : List (List It)} (h : Held d segs) (H : Sat w0 I (dskp p d :: L) w) :
    Calls Tryz.prog 29 #[.pointer (some ⟨p, 0, none⟩), .int .i64 500] w fun e w' => ∃ q J, e = .returned (.tuple #[.pointer (some ⟨q, 0, none⟩), .int .i64 0]) ∧ I.le J ∧ Sat w0 J (chp q p (opn segs) :: dskp p d :: L) w' := by
  have HT := hid hT
  have HH := hid H
  have HD := hid h
  have hlen := h.len
  obtain ⟨N, hN⟩ : ∃ N, segs.length = N := ⟨_, rfl⟩
  rw [hN] at hlen
  have HN := hid hN
  clear H h hT hN
  go_enter Tryz.func29, Tryz.ntmps29
  go_wp2_with fail
  refine (dnames_sat HD.out.calm HD.out.files HD.out.there HH.out).mono ?_; rintro e w1 ⟨J, ad, cap, rfl, hc1, hc2, hJ, hrd, S1⟩
  rw [nmS_len, HN.out] at hc1 ⊢
  have HJ := hid hJ
  have HR := hid hrd
  obtain ⟨b, hb⟩ : ∃ b, w1.heap.size = b := ⟨_, rfl⟩
  have S2 := S1.gmapNew 34 cenc (b := b) hb.symm
  have H2 := hid (S2.alloc (b := b + 1) (T := 148) (cs := [.pointer (some ⟨p, 0, none⟩), .int .i64 500, .map (some b), .int .i64 1, .int .i64 0, .bool false]) rfl (by simp [hb]))
  clear S1 S2 HH hJ hrd
  have hmm := @run_makeMap Tryz.prog
  go_upto_region 5 with fail
  try rw [hb]
  refine wp_gen (fun w2 => Sat w0 J (blk (b + 1) 148 [.pointer (some ⟨p, 0, none⟩), .int .i64 500, .map (some b), .int .i64 1, .int .i64 0, .bool false] :: gmap 34 cenc b 0 (fun _ => none) :: dskp p d :: L) w2) H2.out ?_
  clear H2 hmm hb
  intro w2 S2
  have H2 := hid S2
  clear S2
  go_wp2_with fail
  go_loopw [10, 11, 12, 13, 14, 31] (fun _ _ _ _ _ i wr => ∃ (k : Nat) (J' : Part), k ≤ N ∧ i = .int .i64 (k : Int) ∧ Part.le J J' ∧ Sat w0 J' (blk (b + 1) 148 (stc p b (opn (segs.take k))) :: gmap 34 cenc b (opn (segs.take k)).c (opn (segs.take k)).F :: dskp p d :: L) wr) (fun _ _ _ _ _ i _ => N - (intOf i).toNat)
  case atStart => exact ⟨0, J, Nat.zero_le _, rfl, Part.le_refl _, by rw [stc_opn p b segs 0 (Nat.zero_le _), List.take_zero, opn_nil]; exact H2.out⟩
  case round =>
    clear H2
    obtain ⟨k, J', hk, rfl, hJ', Sr⟩ := hrel
    by_cases hlt : k < N
    · have hkN : k < segs.length := by rw [HN.out]; exact hlt
      obtain ⟨b0, off, rfl, e0⟩ := (HR.out.mono hJ').get Sr k (u := encStr (nmL (k + 1))) (by rw [List.getElem?_map, List.getElem?_eq_getElem (by rw [nmS_len]; exact hkN), nmS_get]; rfl)
      unfold encStr at e0
      obtain ⟨st, sx, hF⟩ := HD.out.get k hkN
      have hits := HD.out.its _ (List.getElem_mem hkN)
      have hnum := HD.out.num
      have hfl := flatT_le segs (k + 1)
      have hcc := opn_c segs k hkN
      have hst := opn_step segs k hkN
      have hsl := segT_le segs[k] hits
      have hk1 : (k : Int) < (N : Int) := by omega
      have hk0 : (0 : Int) ≤ (k : Int) := by omega
      have HITS := hid hits
      have HST := hid hst
      have HF := hid (show (d.F (.string (⟨(nmL (k + 1)).toArray⟩ : ByteArray).data.toList)).getD fz = ⟨true, tx segs[k], st, sx⟩ by rw [show Lit.string (⟨(nmL (k + 1)).toArray⟩ : ByteArray).data.toList = nk (k + 1) from rfl, hF]; rfl)
      obtain ⟨seg, hseg⟩ : ∃ seg, segs[k] = seg := ⟨_, rfl⟩
      rw [hseg] at hcc hsl
      have HSEG := hid hseg
      have HCC := hid hcc
      have hc0 : (opn (segs.take k)).c + seg.length ≤ 1000 := by
        show (segs.take k).flatten.length + _ ≤ _
        omega
      have hsz : seg.length ≤ 6 := by omega
      have HJ2 := hid hJ'
      have H3 := hid Sr
      clear hits hst hF hseg Sr hJ' hcc hfl hnum
      have HNS := hid (fun (w : World) => number_sat w (k + 1) (by omega) (by omega))
      go_wp2_with fail
      refine (HNS.out _).mono ?_; rintro e w3 ⟨rfl, n3, rfl⟩
      go_wp2_with fail
      refine (dread_yes HD.out.calm ⟨(nmL (k + 1)).toArray⟩ (nmz (k + 1)) HF.out rfl ((H3.out.drewN n3).pick 2)).mono ?_; rintro e w4 ⟨rfl, S4⟩
      have H4 := hid ((S4.pick 2).pick 2)
      clear S4 H3
      rw [HSEG.out]
      go_wp2_with fail
      refine (capply_sat (HT.out.mono (Part.le_trans HJ.out HJ2.out)) seg (by rw [← HSEG.out]; exact HITS.out) (k + 1) (by omega) (by omega) hc0 (by rw [stc_opn p b segs k (by omega)]; rfl) H4.out).mono ?_; rintro e w5 ⟨J2, rfl, hJ2, S5⟩
      rw [← HSEG.out, HST.out] at S5
      have H5 := hid S5
      have HJ3 := hid hJ2
      clear S5 H4 hJ2
      have c3 := H5.out.isBlk.cell 3 (v := .int .i64 ((k + 1 : Nat) : Int)) (by rw [stc_opn p b segs k (by omega)]; rfl)
      have f3 := H5.out.isBlk.frozen 3
      have hw : IntKind.i64.wrap ((k : Int) + 1 + 1) = ((k + 2 : Nat) : Int) := by rw [IntWalk.i64_in _ (by omega)]; omega
      have H6 := hid (H5.out.set 3 (.int .i64 ((k + 2 : Nat) : Int)) (cs' := stc p b (opn (segs.take (k + 1)))) (by rw [stc_opn p b segs k (by omega), stc_opn p b segs (k + 1) (by omega)]; rfl))
      clear H5
      go_wp2_with fail
      go_roundw
      case rel => exact ⟨k + 1, J2, by omega, by go_num, Part.le_trans HJ2.out HJ3.out, by rw [show (opn (segs.take (k + 1))).c = (opn (segs.take k)).c + segs[k].length by show (segs.take (k + 1)).flatten.length = _; rw [HCC.out, HSEG.out]; rfl]; exact H6.out⟩
      case measure => (simp [intOf] <;> omega)
    · obtain rfl : k = N := by omega
      rw [List.take_of_length_le (by rw [HN.out]; exact Nat.le_refl _)] at Sr
      have H1 := hid (Sat.chClose Sr)
      have HJ2 := hid hJ'
      clear Sr hJ'
      go_wp2_with fail
      go_returns
      exact ⟨b + 1, J', rfl, Part.le_trans HJ.out HJ2.out, H1.out⟩
end
end Go.Proofs.YtekioplbfoonkaaGreatDoor
namespace Go.Proofs.YtekioplbfoonkaaGreatDoor
open Go.RowKit
set_option linter.unusedVariables false
set_option maxRecDepth 100000
/-- the tapes behind k Writes. -/
def tvB (f : Nat → Nat × ByteArray) (vn : Nat → Nat) : Nat → Nat → TV
  | 0 => tv0
  | k + 1 => tvSet (tvB f vn k) (vn k) ⟨(tvB f vn k (vn k)).lab, (tvB f vn k (vn k)).er, (tvB f vn k (vn k)).es ++ [f k]⟩
section
variable (f : Nat → Nat × ByteArray) (vn : Nat → Nat)
theorem tvB_succ (k j : Nat) : tvB f vn (k + 1) j = if j = vn k then ⟨(tvB f vn k (vn k)).lab, (tvB f vn k (vn k)).er, (tvB f vn k (vn k)).es ++ [f k]⟩ else tvB f vn k j := rfl
theorem tvB_ok : ∀ k j, (tvB f vn k j).es.length ≤ k ∧ (tvB f vn k j).er = 0 ∧ (tvB f vn k j).lab = ⟨#[]⟩
  | 0, j => ⟨Nat.le_refl _, rfl, rfl⟩
  | k + 1, j => by
    rw [tvB_succ]
    by_cases h : j = vn k
    · rw [if_pos h]
      have := tvB_ok k (vn k)
      simp only [List.length_append, List.length_cons, List.length_nil]
      exact ⟨by omega, this.2⟩
    · rw [if_neg h]
      have := tvB_ok k j
      exact ⟨by omega, this.2⟩
theorem tvB_pre (i j : Nat) : ∀ d, ∃ r, (tvB f vn (i + d) j).es = (tvB f vn i j).es ++ r
  | 0 => ⟨[], by simp⟩
  | d + 1 => by
    obtain ⟨r, hr⟩ := tvB_pre i j d
    rw [← Nat.add_assoc, tvB_succ]
    by_cases h : j = vn (i + d)
    · rw [if_pos h]
      refine ⟨r ++ [f (i + d)], ?_⟩
      rw [← List.append_assoc, ← hr, h]
    · rw [if_neg h]
      exact ⟨r, hr⟩
theorem tvB_get {i n : Nat} (h : i < n) : (tvB f vn n (vn i)).es[(tvB f vn i (vn i)).es.length]? = some (f i) ∧ (tvB f vn n (vn i)).es.take (tvB f vn i (vn i)).es.length = (tvB f vn i (vn i)).es := by
  obtain ⟨r, hr⟩ := tvB_pre f vn (i + 1) (vn i) (n - (i + 1))
  rw [show i + 1 + (n - (i + 1)) = n by omega, tvB_succ, if_pos rfl] at hr
  rw [hr]
  simp
theorem tvB_at {i n : Nat} (h : i < n) : tapeAt (tvB f vn n (vn i)).lab (tvB f vn n (vn i)).es (tvB f vn i (vn i)).es.length = (tapeB (tvB f vn i (vn i)).lab (tvB f vn i (vn i)).es).length := by
  unfold tapeAt
  rw [(tvB_get f vn h).2, (tvB_ok f vn n (vn i)).2.2, (tvB_ok f vn i (vn i)).2.2]
def atsB (k : Nat) : List Value := (List.range k).map fun j => Value.int .i64 ((tapeB (tvB f vn j (vn j)).lab (tvB f vn j (vn j)).es).length : Int)
theorem atsB_succ (k : Nat) : atsB f vn (k + 1) = atsB f vn k ++ [.int .i64 ((tapeB (tvB f vn k (vn k)).lab (tvB f vn k (vn k)).es).length : Int)] := by
  unfold atsB
  rw [List.range_succ, List.map_append]
  rfl
theorem atsB_get {n k : Nat} (hk : k < n) : (atsB f vn n)[k]? = some (.int .i64 ((tapeB (tvB f vn k (vn k)).lab (tvB f vn k (vn k)).es).length : Int)) := by
  unfold atsB
  rw [List.getElem?_map, List.getElem?_range hk]
  rfl
end
/-- nothing fails, and there are at most three drives. -/
def CalmD (k : Nat) (S : Lst) : Prop := Calm k S ∧ S.drs.length ≤ 3
theorem mountS_len {S T : Lst} {N : Int} (hf : fineV S.vols) {i : Nat} (hi : i < S.vols.length) (h : mountS S (i : Int) = (N, 0, T)) : T.drs.length = S.drs.length := by
  rw [mountS_fine rfl hf (by omega) (by omega)] at h
  split at h
  · cases h; simp
  · split at h
    · cases h
    · cases h; simp
theorem calmD_mnt {k : Nat} (hk : k ≤ 1000) (i : Nat) : Mnt (CalmD k) (CalmD (k + 1)) i := fun S h hf hi => by
  obtain ⟨h1, N, T, h2, h3, h4⟩ := calm_mnt hk i S h.1 hf hi
  refine ⟨h1, N, T, h2, h3, fun vs => ⟨h4 vs, ?_⟩⟩
  show T.drs.length ≤ 3
  rw [mountS_len hf hi h2]; exact h.2
theorem calmD_crash {k : Nat} (S : Lst) (h : CalmD k S) : S.drs.length ≤ 1000 ∧ ∀ vs, CalmD k {S with drs := S.drs.map crD, vols := vs} :=
  ⟨by have := h.2; omega, fun vs => ⟨calm_crash S h.1 (by have := h.2; omega) vs, by show (S.drs.map crD).length ≤ 3; rw [List.length_map]; exact h.2⟩⟩
section
variable {w0 w : World} {I : Part} {L : List HP} {q p : Nat} {room : Int} {ps : List Nat}
theorem Sat.libDnew {n m : Nat} (hm : 0 < m) (hm3 : m ≤ 3) (hl : ps.length = n) (hr : 10000 ≤ room ∧ room ≤ 1000000) (H : Sat w0 I (libp q ⟨ps.zip ((List.replicate n room).map vNew), List.replicate m ⟨-1, 0, 0, false⟩, 0, 0⟩ :: L) w) : Sat w0 I (libP room q (CalmD 0) ps tv0 :: L) w := by
  refine Sat.toLibV ⟨by simp [hl], fun j hj h2 => ?_⟩ ⟨⟨by simpa using hm, fun d hd => ?_, Int.le_refl _, Int.le_refl _, Int.le_refl _, Int.le_refl _⟩, by simpa using hm3⟩ H
  · refine ⟨0, ⟨by show (⟨#[]⟩ : ByteArray).size ≤ 32; decide, by show (0 : Int) ≤ 0 ∧ (0 : Int) ≤ 1000000; omega, hr, fun e he => (by cases he), by show (0 : Nat) ≤ 11; omega, Nat.zero_le _, Nat.zero_le _⟩, ?_⟩
    simp only [List.getElem_zip, List.getElem_map, List.getElem_replicate]
    have e : max room 0 = room := by omega
    show (ps[j], vNew room) = (ps[j], tpv ⟨#[]⟩ 0 room [] 0 0)
    unfold vNew tpv lv
    rw [e]; rfl
  · have := List.eq_of_mem_replicate hd
    subst this; exact ⟨rfl, rfl⟩
/-- Get of a chunk that the files hold. -/
theorem cgetH {s : Cst} {d : Dst} {segs : List (List It)} (hT : Rd I (some ⟨0, 0, none⟩) tabV) (h : Held d segs) (hF : s.F = fnAll (fun _ => none) (plAll segs 1)) (hnd : (segs.flatten.map (·.1)).Nodup) (x : It) (hx : x ∈ segs.flatten) (H : Sat w0 I (chp q p s :: dskp p d :: L) w) :
    Calls Tryz.prog 32 #[.pointer (some ⟨q, 0, none⟩), .int .u64 (x.1 : Int)] w fun e w' => e = .returned (.tuple #[.string x.2, .int .i64 0]) ∧ Sat w0 I (chp q p s :: dskp p d :: L) w' := by
  obtain ⟨k, a, f, h1, h2, h3, h4, h5, h6, h7, h8⟩ := h.find hnd x hx
  obtain ⟨l, hl, hxl⟩ := List.mem_flatten.1 hx
  exact cget_sat hT h.calm x (h.its l hl x hxl) k a h1 h2 (by rw [hF]; exact h3) h4 h5 h6 h7 h8 H
end
/-- a new disk holds no file. -/
theorem held0 (r : Int) (hr : 0 ≤ r ∧ r ≤ 9223372036854775807) : Held ⟨r, 0, false, 0, fun _ => none, 0⟩ [] :=
  ⟨⟨⟨Int.le_refl _, hr.1, hr.2, Int.le_refl _, by show (0 : Int) ≤ 1073741825; omega, by show (0 : Nat) < _; omega⟩, rfl, rfl⟩, fun k hk => absurd hk (Nat.not_lt_zero _), fun x hx => (by cases hx), fun l hl => (by cases hl), by show (0 : Nat) ≤ 6; omega, by show (0 : Nat) ≤ 6; omega⟩
theorem dr0 : DR (opn []) ⟨1048576, 0, false, 0, fun _ => none, 0⟩ := by
  have hc := (held0 1048576 (by omega)).calm
  refine ⟨hc, rfl, ?_, fun k hk => absurd hk (Nat.not_lt_zero _), fun _ => ⟨rfl, rfl⟩, fun hn => absurd rfl hn, fun x hx => (by cases hx), fun l hl => (by cases hl), fun l hl x hx => ?_, ?_, ?_, ?_⟩
  · show (0 : Int) ≤ _; omega
  · have : l = [] := by simpa [Cst.segs, opn] using hl
    subst this; cases hx
  · show ([] : List It).length ≤ 6; simp
  · show (0 : Nat) + 0 ≤ _; omega
  · show (0 : Nat) ≤ _; omega
theorem put_flat (s : Cst) (x : It) : (s.put x).segs.flatten = s.segs.flatten ++ [x] := by
  rw [← (pre_F s x).2.2]
  unfold Cst.put Cst.segs
  simp
theorem F_no (s : Cst) (i : Nat) (h : ∀ x ∈ s.segs.flatten, x.1 ≠ i) : s.F (ulit i) = none := by
  unfold Cst.F
  refine fnAll_none _ _ i fun x hx => ?_
  have h1 : x.1 ∈ (plAll s.segs 1).map (·.1) := List.mem_map_of_mem (f := fun x : Nat × Pl => x.1) hx
  rw [plAll_ids] at h1
  obtain ⟨y, hy, e⟩ := List.mem_map.1 h1
  rw [← e]; exact h y hy
theorem range_nd (f : Nat → It) (hf : ∀ j, (f j).1 = j) (n : Nat) : (((List.range n).map f).map (·.1)).Nodup := by
  rw [List.map_map]
  have : (fun x : It => x.1) ∘ f = id := by funext j; exact hf j
  rw [this, List.map_id]
  exact List.nodup_range
end Go.Proofs.YtekioplbfoonkaaGreatDoor
