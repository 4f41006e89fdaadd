/- Layer 7: Write. -/
import Derived.Test.YtekioplbfoonkaaGreatDoorTpA
import Derived.Test.YtekioplbfoonkaaGreatDoorParse
import Derived.Test.YtekioplbfoonkaaGreatDoorSpell
import Derived.Deep.CutBlock
import Derived.Deep.DeepCutAuto
namespace Go.Proofs.YtekioplbfoonkaaGreatDoor
open Go.RowKit
set_option linter.unusedVariables false
set_option maxRecDepth 100000
set_option maxHeartbeats 1000000
def spellB (p : Pc) : ByteArray := ⟨(frameL (pbytes p)).toArray⟩
def tpPiece (lab : ByteArray) (frm blob : Nat) (data : ByteArray) (k : Nat) : Pc := ⟨lab, frm + k, blob, k, nparts data.size, data.size, crc data.data.toList, data.extract (k * 200) (min (k * 200 + 200) data.size)⟩
def tpBlock (lab : ByteArray) (frm blob : Nat) (data : ByteArray) (k : Nat) : Bk := ⟨spellB (tpPiece lab frm blob data k), false, false⟩
def markB : Bk := ⟨⟨#[]⟩, true, false⟩
def wFin (v : Vst) : Int × Vst := if (addS v markB).1 = 0 then (flushE (addS v markB).2, flushV (addS v markB).2) else addS v markB
def wGo (lab : ByteArray) (frm blob : Nat) (data : ByteArray) : Nat → Nat → Vst → Int × Vst
  | 0, _, v => wFin v
  | r + 1, k, v => if (addS v (tpBlock lab frm blob data k)).1 = 0 then wGo lab frm blob data r (k + 1) (addS v (tpBlock lab frm blob data k)).2 else addS v (tpBlock lab frm blob data k)
def writeS (v : Vst) (blob : Nat) (data : ByteArray) : Int × Int × Vst :=
  if 4000 < data.size then (0, 11, v) else
  if (seekS v v.bl.length).1 = 0 then
    if (weightN data.size : Int) ≤ (seekS v v.bl.length).2.room - wsum (seekS v v.bl.length).2.bl then
      if (wGo v.label v.bl.length blob data (nparts data.size) 0 (seekS v v.bl.length).2).1 = 0 then ((v.bl.length : Int), 0, (wGo v.label v.bl.length blob data (nparts data.size) 0 (seekS v v.bl.length).2).2)
      else (0, (wGo v.label v.bl.length blob data (nparts data.size) 0 (seekS v v.bl.length).2).1, (wGo v.label v.bl.length blob data (nparts data.size) 0 (seekS v v.bl.length).2).2)
    else (0, 7, (seekS v v.bl.length).2)
  else (0, (seekS v v.bl.length).1, (seekS v v.bl.length).2)
structure Vst.fit (v : Vst) : Prop where
  ok : v.ok
  room : v.room ≤ 1000000
theorem Vst.fit.len {v : Vst} (h : v.fit) : v.bl.length < 1048576 := by
  have h1 := wsum_len v.bl
  have := h.ok.used; have := h.room
  omega
theorem Vst.fit.try_ {v : Vst} (h : v.fit) : (tryV v).fit := ⟨tryV_ok h.ok, h.room⟩
theorem Vst.fit.add {v : Vst} (h : v.fit) (b : Bk) : (addS v b).2.fit ∧ (addS v b).2.label = v.label := by
  unfold addS
  split
  · split
    · exact ⟨h.try_, rfl⟩
    · split
      · split
        · exact ⟨h.try_, rfl⟩
        · split
          · rename_i hf
            have h1 := tryV_ok h.ok
            have h2 := wsum_app v.bl [b]
            have h3 := wsum_len (v.bl ++ [b])
            have := h.room; have := h.ok.used; have := h.ok.sure
            have e : wsum (v.bl ++ [b]) = wsum v.bl + bwt b := by rw [h2]; simp [wsum]
            have e2 : (v.bl ++ [b]).length = v.bl.length + 1 := by simp
            refine ⟨⟨⟨h.ok.room0, h.ok.room, ?_, h1.armed0, h1.armed, ?_, ?_, ?_, h.ok.erased0, h.ok.erased⟩, h.room⟩, rfl⟩
            · show ((wsum (v.bl ++ [b]) : Nat) : Int) ≤ v.room; omega
            · show v.sure ≤ (v.bl ++ [b]).length; omega
            · show v.bl.length + 1 ≤ (v.bl ++ [b]).length; omega
            · show (v.bl ++ [b]).length ≤ 1048576; omega
          · exact ⟨h.try_, rfl⟩
      · exact ⟨h.try_, rfl⟩
  · exact ⟨h.try_, rfl⟩
theorem Vst.fit.seek {v : Vst} (h : v.fit) (n : Int) : (seekS v n).2.fit ∧ (seekS v n).2.label = v.label := by
  unfold seekS
  split
  · split
    · exact ⟨h.try_, rfl⟩
    · split
      · exact ⟨h.try_, rfl⟩
      · have h1 := tryV_ok h.ok
        exact ⟨⟨⟨h.ok.room0, h.ok.room, h.ok.used, h1.armed0, h1.armed, h.ok.sure, by show n.toNat ≤ v.bl.length; omega, h.ok.len, h.ok.erased0, h.ok.erased⟩, h.room⟩, rfl⟩
  · exact ⟨h.try_, rfl⟩
theorem tpPiece_ok {lab : ByteArray} {frm blob : Nat} {data : ByteArray} {k : Nat} (hl : lab.size ≤ 32) (hf : frm ≤ 1048576) (hb : blob < 18446744073709551616) (hd : data.size ≤ 4000) (hk : k < nparts data.size) : (tpPiece lab frm blob data k).ok := by
  have hn : nparts data.size ≤ 21 := by unfold nparts; omega
  refine ⟨hl, ?_, hb, hk, ?_, hd, crc_lt _, ?_⟩
  · show frm + k ≤ _; omega
  · show nparts data.size ≤ _; omega
  · show (data.extract (k * 200) (min (k * 200 + 200) data.size)).size ≤ 200
    rw [ByteArray.size_extract]; omega
theorem spellB_size {p : Pc} (h : p.ok) : (spellB p).size ≤ 320 := by
  have := pbytes_len h
  show (frameL (pbytes p)).toArray.size ≤ 320
  rw [List.size_toArray, frameL_len]; omega
def partOf (q : Nat) (w : World) : Nat := (intOf ((w.cell? ⟨q, 3, none⟩).getD (.bool false))).toNat
section
variable {w0 w : World} {I : Part} {L : List HP} {p : Nat} {v : Vst}
set_option maxHeartbeats 4000000 in
theorem twrite_sat (hT : Rd I (some ⟨0, 0, none⟩) tabV) (hv : v.fit) (hlab : v.label.size ≤ 32) (blob : Nat) (hb : blob < 18446744073709551616) (data : ByteArray) (hd : data.size ≤ 9223372036854775807) {N E : Int} {V : Vst} (hA : writeS v blob data = (N, E, V)) (H : Sat w0 I (volp p v :: L) w) :
    Calls Tryz.prog 42 #[.pointer (some ⟨p, 0, none⟩), .int .u64 (blob : Int), .string data] w fun e w' => e = .returned (.tuple #[.int .i64 N, .int .i64 E]) ∧ Sat w0 I (volp p V :: L) w' := by
  have HT := hid hT
  have HS := hid H
  have HV := hid hv
  have hfl := hv.len
  clear hT H hv
  unfold writeS at hA
  by_cases h4 : 4000 < data.size
  · rw [if_pos h4] at hA
    cases hA
    have h4' : (4000 : Int) < (data.size : Int) := by omega
    go_enter Tryz.func42, Tryz.ntmps42
    go_wp2_with fail
    go_returns
    exact ⟨rfl, HS.out⟩
  · rw [if_neg h4] at hA
    have h4' : ¬ (4000 : Int) < (data.size : Int) := by omega
    obtain ⟨v1fit, v1lab⟩ := HV.out.seek v.bl.length
    obtain ⟨⟨e1, v1⟩, hsk⟩ : ∃ x, seekS v v.bl.length = x := ⟨_, rfl⟩
    rw [hsk] at hA v1fit v1lab
    simp only at hA v1fit v1lab
    have HSK := hid hsk
    clear hsk
    by_cases z1 : e1 = 0
    · rw [if_pos z1] at hA
      subst z1
      by_cases hf : (weightN data.size : Int) ≤ v1.room - wsum v1.bl
      · rw [if_pos hf] at hA
        obtain ⟨⟨e2, v2⟩, hgo⟩ : ∃ x, wGo v.label v.bl.length blob data (nparts data.size) 0 v1 = x := ⟨_, rfl⟩
        rw [hgo] at hA
        simp only at hA
        have HGO := hid hgo
        have HA := hid hA
        have HF := hid (show decide ((weightN data.size : Int) ≤ v1.room - wsum v1.bl) = true from decide_eq_true hf)
        have HV1 := hid v1fit
        have HL1 := hid v1lab
        clear hgo hA hf v1fit v1lab
        go_enter Tryz.func42, Tryz.ntmps42
        go_wp2_with fail
        refine (vlen HS.out).mono ?_; rintro e w1 ⟨rfl, S1⟩
        have H1 := hid S1
        clear S1 HS
        go_wp2_with fail
        refine (vseek v.bl.length HV.out.ok HSK.out H1.out).mono ?_; rintro e w2 ⟨rfl, S2⟩
        have H2 := hid S2
        clear S2 H1
        go_upto_region 7 with fail
        go_cut [33] (fun t wx => t = .bool false ∧ Sat w0 I (volp p v1 :: L) wx)
        case first =>
          go_region_with (first
            | (go_at_call 93; refine (weight7_sat data.size (by omega) (N := (weightN data.size : Int)) rfl H2.out.drew).mono ?_; rintro e w3 ⟨rfl, S3'⟩; have S3 := hid S3'; clear S3')
            | (go_at_call 92; refine (vfits (weightN data.size) HV1.out.ok HF.out S3.out).mono ?_; rintro e w4 ⟨rfl, S4'⟩; have S4 := hid S4'; clear S4'))
          all_goals
            go_wp2_with fail
            go_meet
            exact ⟨rfl, S4.out⟩
        case rest =>
          obtain ⟨rfl, S3⟩ := hcut
          have H3 := hid S3
          clear S3 H2 HF
          go_wp2_with fail
          refine (vlabel H3.out).mono ?_; rintro e w4 ⟨rfl, S4⟩
          rw [HL1.out]
          have H4 := hid S4
          clear S4 H3 HL1
          obtain ⟨lab, hlb⟩ : ∃ l, v.label = l := ⟨_, rfl⟩
          obtain ⟨frm, hfrm⟩ : ∃ f, v.bl.length = f := ⟨_, rfl⟩
          rw [hlb] at HGO hlab ⊢
          rw [hfrm] at HGO HA hfl ⊢
          obtain ⟨n, hnp⟩ : ∃ n, nparts data.size = n := ⟨_, rfl⟩
          rw [hnp] at HGO
          have HNP := hid hnp
          have hn21 : n ≤ 21 := by unfold nparts at hnp; omega
          obtain ⟨X, hX⟩ : ∃ X, crc data.data.toList = X := ⟨_, rfl⟩
          have HX := hid (show crcS [data] = X by rw [crcS_eq, ← hX]; simp)
          have HX2 := hid hX
          clear hnp hX HSK HV hlb hfrm
          go_wp2_with fail
          refine (parts_sat data.size (by omega) (N := (n : Int)) (by rw [HNP.out]) H4.out).mono ?_; rintro e w5 ⟨rfl, S5⟩
          obtain ⟨g, hg⟩ := S5.sizeEx
          obtain ⟨J, hJ, S6, hrd⟩ := (S5.alloc (b := g) (T := 9) (cs := [Value.string data]) rfl hg.symm).freezeBlk
          have H6 := hid S6
          have HR := hid (show Rd J (some ⟨g, 0, none⟩) ([data].map Value.string) from hrd)
          have HTJ := hid (HT.out.mono hJ)
          clear S5 S6 hrd H4 HT
          go_wp2_with fail
          try rw [hg]
          clear hg
          refine (sum_eq HTJ.out (some ⟨g, 0, none⟩) 1 1 [data] rfl HR.out (by omega) (by omega) (by intro t ht; simp at ht; subst ht; omega) (V := X) HX.out H6.out).mono ?_; rintro e w7 ⟨rfl, S7⟩
          obtain ⟨q, hq⟩ := S7.sizeEx
          have H7 := hid S7
          clear S7 H6 HR HX
          go_upto_region 10 with fail
          try rw [hq]
          have S8 := H7.out.alloc (b := q) (T := 181) (cs := [.string lab, .int .i64 0, .int .u64 (blob : Int), .int .i64 0, .int .i64 (n : Int), .int .i64 (data.size : Int), .int .u32 (X : Int), .string ⟨#[]⟩]) rfl hq.symm
          refine wp_gen (fun w8 => Sat w0 J (blk q 181 [.string lab, .int .i64 0, .int .u64 (blob : Int), .int .i64 0, .int .i64 (n : Int), .int .i64 (data.size : Int), .int .u32 (X : Int), .string ⟨#[]⟩] :: volp p v1 :: L) w8) S8 ?_
          clear S8 H7 hq
          intro w8 S8
          have c3 : w8.cell? ⟨q, 3, none⟩ = some (.int .i64 0) := S8.isBlk.cell 3 rfl
          have f3 := S8.isBlk.frozen 3
          have H9 := hid (S8.set 3 (.int .i64 0) (cs' := [.string lab, .int .i64 0, .int .u64 (blob : Int), .int .i64 0, .int .i64 (n : Int), .int .i64 (data.size : Int), .int .u32 (X : Int), .string ⟨#[]⟩]) rfl)
          clear S8
          go_wp2_with fail
          go_loopw [11, 12] (fun _ _ wr => ∃ (k b : Nat) (t : ByteArray) (vk : Vst), k ≤ n ∧ wGo lab frm blob data (n - k) k vk = (e2, v2) ∧ vk.fit ∧ Sat w0 J (blk q 181 [.string lab, .int .i64 (b : Int), .int .u64 (blob : Int), .int .i64 (k : Int), .int .i64 (n : Int), .int .i64 (data.size : Int), .int .u32 (X : Int), .string t] :: volp p vk :: L) wr) (fun _ _ wr => n - partOf q wr)
          case atStart => exact ⟨0, 0, ⟨#[]⟩, v1, Nat.zero_le _, HGO.out, HV1.out, H9.out⟩
          case round =>
            clear H9 HGO HV1 c3 f3
            obtain ⟨k, b, t, vk, hk, hgo, hfit, Sr⟩ := hrel
            have hpo : partOf q wr = k := by unfold partOf; rw [Sr.isBlk.cell 3 rfl]; simp [intOf]
            have HPO := hid hpo
            have HFIT := hid hfit
            have HGO := hid hgo
            have HS := hid Sr
            have c3 : wr.cell? ⟨q, 3, none⟩ = some (.int .i64 (k : Int)) := Sr.isBlk.cell 3 rfl
            have c4 : wr.cell? ⟨q, 4, none⟩ = some (.int .i64 (n : Int)) := Sr.isBlk.cell 4 rfl
            have fz1 := Sr.isBlk.frozen 1
            have fz7 := Sr.isBlk.frozen 7
            have c1 : wr.cell? ⟨q, 1, none⟩ = some (.int .i64 (b : Int)) := Sr.isBlk.cell 1 rfl
            have c7 : wr.cell? ⟨q, 7, none⟩ = some (.string t) := Sr.isBlk.cell 7 rfl
            clear Sr hpo hfit hgo
            by_cases hlt : k < n
            · have hkn : (k : Int) < (n : Int) := by omega
              obtain ⟨B, hB⟩ : ∃ B, frm + k = B := ⟨_, rfl⟩
              obtain ⟨A, hAt⟩ : ∃ A, k * 200 = A := ⟨_, rfl⟩
              obtain ⟨C, hC⟩ : ∃ C, min (A + 200) data.size = C := ⟨_, rfl⟩
              have hBI : (frm : Int) + (k : Int) = (B : Int) := by omega
              have hAI : (k : Int) * 200 = (A : Int) := by omega
              have HCI := hid (show min ((A : Int) + 200) (data.size : Int) = (C : Int) by omega)
              have hAC : A ≤ C := by have := HNP.out; unfold nparts at this; omega
              have hCs : C ≤ data.size := by omega
              have hB9 : B ≤ 2000000 := by omega
              have hA9 : A ≤ 8000 := by omega
              have HPC := hid (show tpPiece lab frm blob data k = ⟨lab, B, blob, k, n, data.size, X, data.extract A C⟩ by unfold tpPiece; rw [hB, hAt, hC, HNP.out, HX2.out])
              clear hB hC hAt
              obtain ⟨P, hP⟩ : ∃ P : Pc, (⟨lab, B, blob, k, n, data.size, X, data.extract A C⟩ : Pc) = P := ⟨_, rfl⟩
              have hPok : P.ok := by
                rw [← hP, ← HPC.out]
                exact tpPiece_ok hlab (by omega) hb (by omega) (by rw [HNP.out]; exact hlt)
              have HPOK := hid hPok
              have HP2 := hid (show tpBlock lab frm blob data k = ⟨spellB P, false, false⟩ by unfold tpBlock; rw [HPC.out, hP])
              obtain ⟨⟨e9, v9⟩, hadd⟩ : ∃ x, addS vk ⟨spellB P, false, false⟩ = x := ⟨_, rfl⟩
              have HADD := hid hadd
              have hgo := HGO.out
              rw [show n - k = (n - (k + 1)) + 1 by omega] at hgo
              unfold wGo at hgo
              rw [HP2.out, hadd] at hgo
              have hfit9 := (HFIT.out.add ⟨spellB P, false, false⟩).1
              rw [hadd] at hfit9
              simp only at hgo hfit9
              have HGO9 := hid hgo
              have HFIT9 := hid hfit9
              have hpc : pcc P = [.string lab, .int .i64 (B : Int), .int .u64 (blob : Int), .int .i64 (k : Int), .int .i64 (n : Int), .int .i64 (data.size : Int), .int .u32 (X : Int), .string (data.extract A C)] := by rw [← hP]; rfl
              have HPCC := hid hpc
              clear hadd hgo hfit9 hPok hP hpc HGO
              go_upto_region 16 with (refine wpList_min (o := ⟨some 70, _, _, _, _, _⟩) rfl rfl rfl rfl HCI.out ?_)
              refine wp_gen (fun w10 => Sat w0 J (blk q 181 [.string lab, .int .i64 (B : Int), .int .u64 (blob : Int), .int .i64 (k : Int), .int .i64 (n : Int), .int .i64 (data.size : Int), .int .u32 (X : Int), .string (data.extract A C)] :: volp p vk :: L) w10) ((HS.out.set 1 _ rfl).set 7 _ rfl) ?_
              clear HS c1 c3 c4 c7 fz1 fz7 hBI hAI HCI
              intro w10 S10
              have y0 : w10.cell? ⟨q, 0, none⟩ = some (.string lab) := S10.isBlk.cell 0 rfl
              have y1 : w10.cell? ⟨q, 1, none⟩ = some (.int .i64 (B : Int)) := S10.isBlk.cell 1 rfl
              have y2 : w10.cell? ⟨q, 2, none⟩ = some (.int .u64 (blob : Int)) := S10.isBlk.cell 2 rfl
              have y3 : w10.cell? ⟨q, 3, none⟩ = some (.int .i64 (k : Int)) := S10.isBlk.cell 3 rfl
              have y4 : w10.cell? ⟨q, 4, none⟩ = some (.int .i64 (n : Int)) := S10.isBlk.cell 4 rfl
              have y5 : w10.cell? ⟨q, 5, none⟩ = some (.int .i64 (data.size : Int)) := S10.isBlk.cell 5 rfl
              have y6 : w10.cell? ⟨q, 6, none⟩ = some (.int .u32 (X : Int)) := S10.isBlk.cell 6 rfl
              have y7 : w10.cell? ⟨q, 7, none⟩ = some (.string (data.extract A C)) := S10.isBlk.cell 7 rfl
              have H10 := hid S10
              clear S10
              go_wp2_with fail
              have hsp := spell_sat P HPOK.out HTJ.out H10.out
              rw [HPCC.out] at hsp
              refine hsp.mono ?_; rintro e w11 ⟨rfl, S11⟩
              have H11 := hid S11.swap
              clear S11 H10 hsp y0 y1 y2 y3 y4 y5 y6 y7
              have hss := spellB_size HPOK.out
              have HSS := hid hss
              clear hss
              obtain ⟨sp, hsp⟩ : ∃ sp, spellB P = sp := ⟨_, rfl⟩
              have e10 : (⟨(frameL (pbytes P)).toArray⟩ : ByteArray) = sp := hsp
              rw [e10]
              rw [hsp] at HADD HSS
              clear hsp e10
              go_wp2_with fail
              refine (vwrite sp HFIT.out.ok (by have := HSS.out; omega) HFIT.out.len HADD.out H11.out).mono ?_; rintro e w12 ⟨rfl, S12⟩
              have c3 : w12.cell? ⟨q, 3, none⟩ = some (.int .i64 (k : Int)) := S12.swap.isBlk.cell 3 rfl
              have f3 := S12.swap.isBlk.frozen 3
              have H12 := hid S12.swap
              clear S12 H11
              by_cases z9 : e9 = 0
              · subst z9
                have hk8 : k + 1 ≤ n := by omega
                have hgo := HGO9.out
                rw [if_pos rfl] at hgo
                have HGO := hid hgo
                clear hgo HGO9
                go_wp2_with fail
                have S13 := H12.out.set 3 (.int .i64 ((k + 1 : Nat) : Int)) (cs' := [.string lab, .int .i64 (B : Int), .int .u64 (blob : Int), .int .i64 ((k + 1 : Nat) : Int), .int .i64 (n : Int), .int .i64 (data.size : Int), .int .u32 (X : Int), .string (data.extract A C)]) rfl
                have e11 : ((k + 1 : Nat) : Int) = (k : Int) + 1 := by omega
                have hpo2 : partOf q (w12.setCell ⟨q, 3, none⟩ (.int .i64 ((k : Int) + 1))) = k + 1 := by
                  rw [← e11]; unfold partOf; rw [S13.isBlk.cell 3 rfl]; simp [intOf]
                have HPO2 := hid hpo2
                have H13 := hid S13
                clear S13 H12 hpo2
                go_roundw
                case rel => exact ⟨k + 1, B, data.extract A C, v9, hk8, HGO.out, HFIT9.out, by rw [e11] at H13; exact H13.out⟩
                case measure =>
                  have h1 := HPO2.out
                  have h2 := HPO.out
                  omega
              · have hgo := HGO9.out
                rw [if_neg z9] at hgo
                have z9' : (e9 == 0) = false := by simpa using z9
                cases hgo
                have hA := HA.out
                rw [if_neg z9] at hA
                cases hA
                go_wp2_with fail
                go_returns
                exact ⟨rfl, H12.out.drop.thaw hJ⟩
            · obtain rfl : k = n := by omega
              have hgo := HGO.out
              rw [Nat.sub_self] at hgo
              unfold wGo wFin at hgo
              obtain ⟨⟨e9, v9⟩, hadd⟩ : ∃ x, addS vk markB = x := ⟨_, rfl⟩
              have hfit9 := (HFIT.out.add markB).1
              rw [hadd] at hgo hfit9
              simp only at hgo hfit9
              have HADD := hid hadd
              have HGO9 := hid hgo
              have HFIT9 := hid hfit9
              clear hadd hgo hfit9 HGO fz1 fz7 c1 c7
              go_wp2_with fail
              refine (vmark HFIT.out.ok HFIT.out.len HADD.out HS.out.swap).mono ?_; rintro e w12 ⟨rfl, S12⟩
              have H12 := hid S12
              clear S12 HS c3 c4
              by_cases z9 : e9 = 0
              · subst z9
                have hgo := HGO9.out
                rw [if_pos rfl] at hgo
                simp only [Prod.mk.injEq] at hgo
                have HG1 := hid hgo.1
                have HG2 := hid hgo.2
                clear hgo HGO9
                go_wp2_with fail
                refine (vflush_eq HFIT9.out.ok HG1.out HG2.out H12.out).mono ?_; rintro e w13 ⟨rfl, S13⟩
                have H13 := hid S13
                clear S13 H12
                by_cases z2 : e2 = 0
                · subst z2
                  have hA := HA.out
                  rw [if_pos rfl] at hA
                  cases hA
                  go_wp2_with fail
                  go_returns
                  exact ⟨rfl, H13.out.swap.drop.thaw hJ⟩
                · have hA := HA.out
                  rw [if_neg z2] at hA
                  have z2' : (e2 == 0) = false := by simpa using z2
                  cases hA
                  go_wp2_with fail
                  go_returns
                  exact ⟨rfl, H13.out.swap.drop.thaw hJ⟩
              · have hgo := HGO9.out
                rw [if_neg z9] at hgo
                have z9' : (e9 == 0) = false := by simpa using z9
                cases hgo
                have hA := HA.out
                rw [if_neg z9] at hA
                cases hA
                go_wp2_with fail
                go_returns
                exact ⟨rfl, H12.out.swap.drop.thaw hJ⟩
      · rw [if_neg hf] at hA
        have HA := hid hA
        have HF := hid (show decide ((weightN data.size : Int) ≤ v1.room - wsum v1.bl) = false from decide_eq_false hf)
        have HV1 := hid v1fit
        clear hf v1fit v1lab hA
        go_enter Tryz.func42, Tryz.ntmps42
        go_wp2_with fail
        refine (vlen HS.out).mono ?_; rintro e w1 ⟨rfl, S1⟩
        have H1 := hid S1
        clear S1 HS
        go_wp2_with fail
        refine (vseek v.bl.length HV.out.ok HSK.out H1.out).mono ?_; rintro e w2 ⟨rfl, S2⟩
        have H2 := hid S2
        clear S2 H1
        go_upto_region 7 with fail
        go_cut [33] (fun t wx => t = .bool true ∧ Sat w0 I (volp p v1 :: L) wx)
        case first =>
          go_region_with (first
            | (go_at_call 93; refine (weight7_sat data.size (by omega) (N := (weightN data.size : Int)) rfl H2.out.drew).mono ?_; rintro e w3 ⟨rfl, S3'⟩; have S3 := hid S3'; clear S3')
            | (go_at_call 92; refine (vfits (weightN data.size) HV1.out.ok HF.out S3.out).mono ?_; rintro e w4 ⟨rfl, S4'⟩; have S4 := hid S4'; clear S4'))
          all_goals
            go_wp2_with fail
            go_meet
            exact ⟨rfl, S4.out⟩
        case rest =>
          obtain ⟨rfl, S3⟩ := hcut
          have H3 := hid S3
          clear S3 H2 HF
          go_wp2_with fail
          go_returns
          have hA := HA.out
          cases hA
          exact ⟨rfl, H3.out⟩
    · rw [if_neg z1] at hA
      have z1' : (e1 == 0) = false := by simpa using z1
      have HA := hid hA
      clear v1fit v1lab hA
      go_enter Tryz.func42, Tryz.ntmps42
      go_wp2_with fail
      refine (vlen HS.out).mono ?_; rintro e w1 ⟨rfl, S1⟩
      have H1 := hid S1
      clear S1 HS
      go_wp2_with fail
      refine (vseek v.bl.length HV.out.ok HSK.out H1.out).mono ?_; rintro e w2 ⟨rfl, S2⟩
      have H2 := hid S2
      clear S2 H1
      go_wp2_with fail
      go_returns
      have hA := HA.out
      cases hA
      exact ⟨rfl, H2.out⟩
end
end Go.Proofs.YtekioplbfoonkaaGreatDoor
