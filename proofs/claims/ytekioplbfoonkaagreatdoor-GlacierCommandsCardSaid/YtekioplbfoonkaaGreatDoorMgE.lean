/- Layer 9: Rewrite, SaveSnap, Append. Layer 9: read, only, loadTerm, loadSnap. -/
import Derived.Test.YtekioplbfoonkaaGreatDoorTmC
import Derived.Test.YtekioplbfoonkaaGreatDoorMgC
namespace Go.Proofs.YtekioplbfoonkaaGreatDoor
open Go.RowKit
set_option linter.unusedVariables false
set_option maxRecDepth 100000
set_option maxHeartbeats 2000000
theorem baAppL (a b : List UInt8) : (⟨a.toArray⟩ : ByteArray) ++ ⟨b.toArray⟩ = ⟨(a ++ b).toArray⟩ := by
  apply ByteArray.ext
  simp
section
variable {w0 w : World} {I : Part} {L : List HP} {p : Nat} {d : Dst}
theorem rewrite_sat (hT : Rd I (some ⟨0, 0, none⟩) tabV) {U C m : Nat} (h : Dk d U C) (la : Option Addr) (len cap : Nat) (l : List Ent) (hln : l.length = len) (hok : ∀ x ∈ l, x.Ok) (hlen : len ≤ 100) (hr : Rd I la (l.flatMap Ent.cells)) {a : ByteArray} (hsf : Sf d kLg a) (hsa : a.size ≤ 1000000000) (hm : (logB l).length ≤ m) (hU : U + m ≤ 1048576) (hC : C ≤ 1000) (H : Sat w0 I (dskp p d :: L) w) :
    Calls Tryz.prog 114 #[.pointer (some ⟨p, 0, none⟩), .slice la len cap] w fun e w' => ∃ D, e = .returned (.int .i64 0) ∧ Dk D (U + m) (C + 2) ∧ Upd d D kLg ⟨(logB l).toArray⟩ ∧ Sat w0 I (dskp p D :: L) w' := by
  have HH := hid H
  have HT := hid hT
  have HR := hid hr
  have HD := hid h
  have HSF := hid hsf
  clear H hT hr h hsf
  go_enter Tryz.func114, Tryz.ntmps114
  go_wp2_with fail
  refine (frames_sat HT.out la len cap l hln hok hlen HR.out HH.out).mono ?_; rintro e w1 ⟨rfl, S1⟩
  have H1 := hid S1
  clear S1 HH
  go_wp2_with fail
  refine (tsave_sat HD.out nmLg (by decide) nmLne ⟨(logB l).toArray⟩ (a := a) HSF.out hsa (m := m) (by rw [baSz]; exact hm) hU hC H1.out).mono ?_; rintro e w2 ⟨D, rfl, k1, k2, S2⟩
  have H2 := hid S2
  have K1 := hid k1
  have K2 := hid k2
  clear S2 H1 k1 k2
  go_wp2_with fail
  go_ret
  exact ⟨D, rfl, K1.out, K2.out, H2.out⟩
theorem saveSnap_sat (hT : Rd I (some ⟨0, 0, none⟩) tabV) {U C m : Nat} (h : Dk d U C) (b t : Nat) (s : ByteArray) (hb : b ≤ 1000) (ht : t ≤ 1000) (hs : s.size ≤ 100) (la : Option Addr) (len cap : Nat) (l : List Ent) (hln : l.length = len) (hok : ∀ x ∈ l, x.Ok) (hlen : len ≤ 100) (hr : Rd I la (l.flatMap Ent.cells)) {a a2 : ByteArray} (hsf : Sf d kSn a) (hsa : a.size ≤ 1000000000) (hsf2 : Sf d kLg a2) (hsa2 : a2.size ≤ 1000000000) (hm : (logB l).length ≤ m) (hU : U + 138 + m ≤ 1048576) (hC : C ≤ 900) (H : Sat w0 I (dskp p d :: L) w) :
    Calls Tryz.prog 56 #[.pointer (some ⟨p, 0, none⟩), .int .i64 (b : Int), .int .i64 (t : Int), .string s, .slice la len cap] w fun e w' => ∃ D1 D, e = .returned (.int .i64 0) ∧ Dk D (U + 138 + m) (C + 4) ∧ Upd d D1 kSn ⟨(snapB b t s).toArray⟩ ∧ Upd D1 D kLg ⟨(logB l).toArray⟩ ∧ Sat w0 I (dskp p D :: L) w' := by
  obtain ⟨g, hg⟩ := H.sizeEx
  have S1 := H.encNew (b := g) hg.symm
  obtain ⟨J, hJ, S2, hrd⟩ := ((S1.swap).alloc (b := g + 1) (T := 3) (cs := [.int .i64 (b : Int), .int .i64 (t : Int)]) rfl (by simp [hg])).freezeBlk
  have H2 := hid S2.swap
  have HRD := hid (show Rd J (some ⟨g + 1, 0, none⟩) ([(b : Int), (t : Int)].map (Value.int .i64)) from hrd)
  have HJ := hid hJ
  have HT := hid (hT.mono hJ)
  have HR := hid (hr.mono hJ)
  have e1 := encU_len b (by omega)
  have e2 := encU_len t (by omega)
  have hlen1 : (encU b ++ encU t).length ≤ 20 := by rw [List.length_append]; omega
  have htl := snapB_len b t s hb ht hs
  obtain ⟨B, hB⟩ : ∃ B, encU b ++ encU t ++ encS s = B := ⟨_, rfl⟩
  have hsn : snapB b t s = frameL B := by rw [← hB]; rfl
  rw [hsn] at htl ⊢
  have hBl : B.length ≤ 138 := by rw [frameL_len] at htl; omega
  have HB := hid hB
  have HLEN := hid hlen1
  have HTL := hid htl
  have HD := hid h
  have HSF := hid hsf
  have HSF2 := hid hsf2
  clear H S1 S2 hrd hJ hT hr e1 e2 hlen1 htl h hsf hsf2 hB hsn
  go_enter Tryz.func56, Tryz.ntmps56
  go_wp2_with fail
  try rw [hg]
  refine (encI_sat (some ⟨g + 1, 0, none⟩) 2 [(b : Int), (t : Int)] H2.out HRD.out (by intro z hz; simp at hz; omega) (by simp) (by simp)).mono ?_; rintro e w2 ⟨rfl, S3⟩
  rw [two_enc] at S3
  obtain ⟨q, hq⟩ := S3.sizeEx
  have H3 := hid S3
  clear S3 H2 hg
  go_wp2_with fail
  try rw [hq]
  refine (encS1_sat 9 s hq.symm H3.out (by omega) (by have := HLEN.out; omega)).mono ?_; rintro e w3 ⟨rfl, S4⟩
  rw [HB.out] at S4
  have H4 := hid S4
  clear S4 H3 hq
  go_wp2_with fail
  refine (bytes_sat H4.out).mono ?_; rintro e w4 ⟨rfl, S5⟩
  obtain ⟨q, hq⟩ := S5.sizeEx
  obtain ⟨J2, hJ2, S6, hrd2⟩ := ((S5.drop).alloc (b := q) (T := 9) (cs := [.string ⟨B.toArray⟩]) rfl hq.symm).freezeBlk
  have H6 := hid S6
  have HRD2 := hid (show Rd J2 (some ⟨q, 0, none⟩) ([(⟨B.toArray⟩ : ByteArray)].map Value.string) from hrd2)
  have HJ2 := hid hJ2
  clear S5 S6 hrd2 hJ2 H4
  go_wp2_with fail
  try rw [hq]
  refine (frame_sat (HT.out.mono HJ2.out) (some ⟨q, 0, none⟩) 1 1 [⟨B.toArray⟩] rfl HRD2.out (by omega) (by omega) (by omega) (by omega) (flatS_one _) (by omega) H6.out).mono ?_; rintro e w5 ⟨rfl, S7⟩
  have H7 := hid S7
  clear S7 H6 hq
  go_wp2_with fail
  refine (tsave_sat HD.out nmSn (by decide) nmSne ⟨(frameL B).toArray⟩ (a := a) HSF.out hsa (m := 138) (by rw [baSz]; exact HTL.out) (by omega) (by omega) H7.out).mono ?_; rintro e w6 ⟨D1, rfl, k1, k2, S8⟩
  have H8 := hid S8
  have K1 := hid k1
  have K2 := hid k2
  clear S8 H7 k1 k2
  go_wp2_with fail
  refine (rewrite_sat (HT.out.mono HJ2.out) K1.out la len cap l hln hok hlen (HR.out.mono HJ2.out) (a := a2) (K2.out.sfNe (fun e => kSL e.symm) HSF2.out) hsa2 hm hU (by omega) H8.out).mono ?_; rintro e w7 ⟨D, rfl, k3, k4, S9⟩
  have H9 := hid ((S9.thaw HJ2.out).thaw HJ.out)
  have K3 := hid k3
  have K4 := hid k4
  clear S9 H8 k3 k4
  go_wp2_with fail
  go_ret
  exact ⟨D1, D, rfl, K3.out, K2.out, K4.out, H9.out⟩
theorem tappend_sat (hT : Rd I (some ⟨0, 0, none⟩) tabV) {U C m : Nat} (h : Dk d U C) (la : Option Addr) (len cap : Nat) (l0 l : List Ent) (hln : l.length = len) (hok : ∀ x ∈ l, x.Ok) (hlen : len ≤ 100) (hr : Rd I la (l.flatMap Ent.cells)) (hsf : Sf d kLg ⟨(logB l0).toArray⟩) (hsa : (logB l0).length ≤ 1000000) (hm0 : (logB l).length ≤ m) (hU : U + m ≤ 1048576) (hC : C ≤ 1000) (H : Sat w0 I (dskp p d :: L) w) :
    Calls Tryz.prog 126 #[.pointer (some ⟨p, 0, none⟩), .slice la len cap] w fun e w' => ∃ D, e = .returned (.int .i64 0) ∧ Dk D (U + m) (C + 2) ∧ Upd d D kLg ⟨(logB (l0 ++ l)).toArray⟩ ∧ Sat w0 I (dskp p D :: L) w' := by
  obtain ⟨a, ha⟩ : ∃ a : ByteArray, (⟨(logB l0).toArray⟩ : ByteArray) = a := ⟨_, rfl⟩
  obtain ⟨fr, hfr⟩ : ∃ a : ByteArray, (⟨(logB l).toArray⟩ : ByteArray) = a := ⟨_, rfl⟩
  have has : a.size = (logB l0).length := by rw [← ha]; exact baSz _
  have hfs : fr.size = (logB l).length := by rw [← hfr]; exact baSz _
  have happ : (⟨(logB (l0 ++ l)).toArray⟩ : ByteArray) = a ++ fr := by rw [← ha, ← hfr, logB_app, baAppL]
  rw [happ]
  rw [ha] at hsf
  have hsz0 : (a ++ fr).size = a.size + fr.size := ByteArray.size_append
  obtain ⟨s, hs⟩ : ∃ s, a ++ fr = s := ⟨_, rfl⟩
  rw [hs] at hsz0 ⊢
  have hm : s.size ≤ a.size + m ∨ s.size ≤ m := Or.inl (by omega)
  obtain ⟨D1, D2, e1, e2, hD1, e3, hD2, hup⟩ := put2 h hsf hm hU
  have hc := h.calm (by omega) (by omega)
  have hnx : ((d.F kLg).getD fz).nx = a := hsf.nx
  have hsx : ((d.F kLg).getD fz).sx = a := hsf.sx
  obtain ⟨x, hx⟩ : ∃ x, (d.F kLg).getD fz = x := ⟨_, rfl⟩
  rw [hx] at hnx hsx e1 e2
  obtain ⟨st, hst⟩ : ∃ b, x.st = b := ⟨_, rfl⟩
  rw [hst] at e1 e2
  have hf : (D1.F kLg).getD fz = ⟨true, s, st, a⟩ := by rw [e2]; rfl
  have hEA : appS d (.string nmLg.data.toList) fr = (0, D1) := by
    unfold appS
    rw [hc.try_.1, if_pos rfl, hc.try_.2]
    show putS d kLg ⟨true, ((d.F kLg).getD fz).nx ++ fr, ((d.F kLg).getD fz).st, ((d.F kLg).getD fz).sx⟩ = _
    rw [hx, hnx, hst, hsx, hs]
    exact e1
  have hsz1 : s.size ≤ 1000000000 := by omega
  have hsa1 : a.size ≤ 1000000000 := by omega
  have hsp1 : x.nx.size + fr.size ≤ 1000000000 := by rw [hnx]; omega
  have hsp2 : x.sx.size ≤ 1000000000 := by rw [hsx]; exact hsa1
  have EB := hid hEA
  have EE := hid e3
  have HF := hid hf
  have HX := hid hx
  have DD := hid hD1
  have DD2 := hid hD2
  have UP := hid hup
  have HH := hid H
  have HT := hid hT
  have HR := hid hr
  have HFR := hid hfr
  clear e1 e2 e3 hf hx hD1 hD2 hup H hEA hT hr hnx hsx hst hs ha hfr hsf happ hm h
  go_enter Tryz.func126, Tryz.ntmps126
  go_wp2_with fail
  refine (frames_sat HT.out la len cap l hln hok hlen HR.out HH.out).mono ?_; rintro e w0' ⟨rfl, S0⟩
  have H0 := hid S0
  clear S0 HH
  go_wp2_with fail
  rw [HFR.out]
  refine (dappend_sat nmLg (by decide) nmLne fr HX.out hsp1 hsp2 hc.ok EB.out H0.out).mono ?_; rintro e w1 ⟨rfl, S1⟩
  obtain ⟨g, hg⟩ := S1.sizeEx
  obtain ⟨J, hJ, S2, hrd⟩ := (S1.alloc (b := g) (T := 9) (cs := [.string nmLg]) rfl hg.symm).freezeBlk
  have H2 := hid S2
  have HRD := hid hrd
  clear S1 S2 hrd H0
  go_wp2_with fail
  try rw [hg]
  refine (dsync1_sat (DD.out.calm hU (by omega)) (some ⟨g, 0, none⟩) 1 nmLg (by decide) HRD.out (x := ⟨true, s, st, a⟩) HF.out rfl hsz1 hsa1 EE.out H2.out).mono ?_; rintro e w3 ⟨rfl, S3⟩
  have H3 := hid (S3.thaw hJ)
  clear S3 H2
  go_wp2_with fail
  go_ret
  exact ⟨D2, rfl, DD2.out, UP.out, H3.out⟩
end
end Go.Proofs.YtekioplbfoonkaaGreatDoor
namespace Go.Proofs.YtekioplbfoonkaaGreatDoor
open Go.RowKit
set_option linter.unusedVariables false
set_option maxRecDepth 100000
set_option maxHeartbeats 2000000
section
variable {w0 w : World} {I : Part} {L : List HP} {p q : Nat} {d : Dst}
theorem tread_sat (hd : d.calm) (name : ByteArray) (hs : name.size ≤ maxLen) {s : ByteArray} (hF : d.F (.string name.data.toList) = some (fsf s)) (H : Sat w0 I (dskp p d :: L) w) :
    Calls Tryz.prog 167 #[.pointer (some ⟨p, 0, none⟩), .string name] w fun e w' => e = .returned (.tuple #[.string s, .int .i64 0]) ∧ Sat w0 I (dskp p d :: L) w' := by
  have HH := hid H
  have HX := hid (show (d.F (.string name.data.toList)).getD fz = fsf s by rw [hF]; rfl)
  clear H hF
  go_enter Tryz.func167, Tryz.ntmps167
  go_wp2_with fail
  refine (dread_sat hd name hs HX.out HH.out).mono ?_; rintro e w1 ⟨rfl, S1⟩
  rw [show (if (fsf s).nt = true then (.tuple #[.string (fsf s).nx, .int .i64 0] : Value) else .tuple #[.string ⟨#[]⟩, .int .i64 5]) = .tuple #[.string s, .int .i64 0] from if_pos rfl]
  have H1 := hid S1
  clear S1 HH
  go_wp2_with fail
  go_returns
  exact ⟨rfl, H1.out⟩
theorem tonly_sat (hT : Rd I (some ⟨0, 0, none⟩) tabV) (hd : d.calm) (name : ByteArray) (hs : name.size ≤ maxLen) (c : List UInt8) (hc : c.length ≤ 1048576) (hF : d.F (.string name.data.toList) = some (fsf ⟨(frameL c).toArray⟩)) (H : Sat w0 I (dskp p d :: L) w) :
    Calls Tryz.prog 166 #[.pointer (some ⟨p, 0, none⟩), .string name] w fun e w' => e = .returned (.tuple #[.string ⟨c.toArray⟩, .bool true, .int .i64 0]) ∧ Sat w0 I (dskp p d :: L) w' := by
  have HH := hid H
  have HF := hid hF
  have HT := hid hT
  have ho : onlyR (⟨(frameL c).toArray⟩ : ByteArray).data.toList = (c, 0) := onlyR_frame c hc
  have HO := hid ho
  have hsz : (⟨(frameL c).toArray⟩ : ByteArray).size ≤ 9223372036854775807 := by rw [baSz, frameL_len]; omega
  clear H hF hT ho
  go_enter Tryz.func166, Tryz.ntmps166
  go_wp2_with fail
  refine (tread_sat hd name hs HF.out HH.out).mono ?_; rintro e w1 ⟨rfl, S1⟩
  have H1 := hid S1
  clear S1 HH
  go_wp2_with fail
  refine (only_sat HT.out _ hsz HO.out H1.out).mono ?_; rintro e w2 ⟨rfl, S2⟩
  have H2 := hid S2
  clear S2 H1
  go_wp2_with fail
  go_returns
  exact ⟨rfl, H2.out⟩
theorem loadTerm_sat (hT : Rd I (some ⟨0, 0, none⟩) tabV) (hd : d.calm) (t v : Nat) (ht : t ≤ 1000) (hv : v ≤ 5) (hF : d.F kT = some (fsf ⟨(termB t v).toArray⟩)) (x0 x1 x2 x3 x4 x5 : Value) (H : Sat w0 I (blk q 70 [x0, x1, x2, x3, x4, x5] :: dskp p d :: L) w) :
    Calls Tryz.prog 115 #[.pointer (some ⟨q, 0, none⟩), .pointer (some ⟨p, 0, none⟩)] w fun e w' => e = .returned (.int .i64 0) ∧ Sat w0 I (blk q 70 [.int .i64 (t : Int), .int .i64 (v : Int), x2, x3, x4, x5] :: dskp p d :: L) w' := by
  have HH := hid H.swap
  have HF := hid hF
  have HT := hid hT
  obtain ⟨c, hc⟩ : ∃ c, encU t ++ encU v = c := ⟨_, rfl⟩
  have hcl : c.length ≤ 20 := by
    have e1 := encU_len t (by omega)
    have e2 := encU_len v (by omega)
    rw [← hc, List.length_append]; omega
  have hF2 : d.F (.string nmT.data.toList) = some (fsf ⟨(frameL c).toArray⟩) := by rw [← hc]; exact hF
  have HF2 := hid hF2
  have HC := hid (show (⟨c.toArray⟩ : ByteArray).data.toList = encU t ++ (encU v ++ []) by rw [← hc]; simp)
  have hsz : (⟨c.toArray⟩ : ByteArray).size ≤ 9223372036854775807 := by rw [baSz]; omega
  clear H hF hT hF2 hc
  go_enter Tryz.func115, Tryz.ntmps115
  go_wp2_with fail
  refine (tonly_sat HT.out hd nmT (by decide) c (by omega) HF2.out HH.out).mono ?_; rintro e w1 ⟨rfl, S1⟩
  have H1 := hid S1
  clear S1 HH
  go_wp2_with fail
  refine (from_sat _ H1.out hsz).mono ?_; rintro e w2 ⟨dc, rfl, S2⟩
  rw [HC.out] at S2
  have H2 := hid S2
  clear S2 H1
  go_wp2_with fail
  refine (decIe_sat _ t (by omega) (by omega) (by omega) H2.out).mono ?_; rintro e w3 ⟨rfl, S3⟩
  have S4 := S3.pick 2
  have f0 := S4.isBlk.frozen 0
  have c0 := S4.isBlk.cell 0 (v := x0) rfl
  have H4 := hid ((S4.set 0 (.int .i64 (t : Int)) (cs' := [.int .i64 (t : Int), x1, x2, x3, x4, x5]) rfl).pick 1)
  clear S3 S4 H2
  go_wp2_with fail
  clear f0 c0
  refine (decIe_sat _ v (by omega) (by omega) (by omega) H4.out).mono ?_; rintro e w5 ⟨rfl, S5⟩
  have S6 := S5.pick 1
  have f1 := S6.isBlk.frozen 1
  have c1 := S6.isBlk.cell 1 (v := x1) rfl
  have H6 := hid ((S6.set 1 (.int .i64 (v : Int)) (cs' := [.int .i64 (t : Int), .int .i64 (v : Int), x2, x3, x4, x5]) rfl).pick 1)
  clear S5 S6 H4
  go_wp2_with fail
  clear f1 c1
  refine (done_sat H6.out).mono ?_; rintro e w7 ⟨rfl, S7⟩
  have H7 := hid S7.drop
  clear S7 H6
  go_wp2_with fail
  go_ret
  exact ⟨rfl, H7.out⟩
theorem loadSnap_sat (hT : Rd I (some ⟨0, 0, none⟩) tabV) (hd : d.calm) (b t : Nat) (s : ByteArray) (hb : b ≤ 1000) (ht : t ≤ 1000) (hs : s.size ≤ 100) (hF : d.F kSn = some (fsf ⟨(snapB b t s).toArray⟩)) (x0 x1 x2 x3 x4 x5 : Value) (H : Sat w0 I (blk q 70 [x0, x1, x2, x3, x4, x5] :: dskp p d :: L) w) :
    Calls Tryz.prog 116 #[.pointer (some ⟨q, 0, none⟩), .pointer (some ⟨p, 0, none⟩)] w fun e w' => e = .returned (.int .i64 0) ∧ Sat w0 I (blk q 70 [x0, x1, .int .i64 (b : Int), .int .i64 (t : Int), .string s, x5] :: dskp p d :: L) w' := by
  have HH := hid H.swap
  have HT := hid hT
  obtain ⟨c, hc⟩ : ∃ c, encU b ++ encU t ++ encS s = c := ⟨_, rfl⟩
  have hcl : c.length ≤ 200 := by
    have e1 := snapB_len b t s hb ht hs
    unfold snapB at e1
    rw [hc, frameL_len] at e1
    omega
  have hF2 : d.F (.string nmSn.data.toList) = some (fsf ⟨(frameL c).toArray⟩) := by rw [← hc]; exact hF
  have HF2 := hid hF2
  have HC := hid (show (⟨c.toArray⟩ : ByteArray).data.toList = encU b ++ (encU t ++ (encS s ++ [])) by rw [← hc]; simp)
  have hsz : (⟨c.toArray⟩ : ByteArray).size ≤ 9223372036854775807 := by rw [baSz]; omega
  clear H hF hT hF2 hc
  go_enter Tryz.func116, Tryz.ntmps116
  go_wp2_with fail
  refine (tonly_sat HT.out hd nmSn (by decide) c (by omega) HF2.out HH.out).mono ?_; rintro e w1 ⟨rfl, S1⟩
  have H1 := hid S1
  clear S1 HH
  go_wp2_with fail
  refine (from_sat _ H1.out hsz).mono ?_; rintro e w2 ⟨dc, rfl, S2⟩
  rw [HC.out] at S2
  have H2 := hid S2
  clear S2 H1
  go_wp2_with fail
  refine (decIe_sat _ b (by omega) (by omega) (by omega) H2.out).mono ?_; rintro e w3 ⟨rfl, S3⟩
  have S4 := S3.pick 2
  have f0 := S4.isBlk.frozen 2
  have c0 := S4.isBlk.cell 2 (v := x2) rfl
  have H4 := hid ((S4.set 2 (.int .i64 (b : Int)) (cs' := [x0, x1, .int .i64 (b : Int), x3, x4, x5]) rfl).pick 1)
  clear S3 S4 H2
  go_wp2_with fail
  clear f0 c0
  refine (decIe_sat _ t (by omega) (by omega) (by omega) H4.out).mono ?_; rintro e w5 ⟨rfl, S5⟩
  have S6 := S5.pick 1
  have f1 := S6.isBlk.frozen 3
  have c1 := S6.isBlk.cell 3 (v := x3) rfl
  have H6 := hid ((S6.set 3 (.int .i64 (t : Int)) (cs' := [x0, x1, .int .i64 (b : Int), .int .i64 (t : Int), x4, x5]) rfl).pick 1)
  clear S5 S6 H4
  go_wp2_with fail
  clear f1 c1
  refine (decSe_sat _ s (by omega) (by omega) (by omega) H6.out).mono ?_; rintro e w7 ⟨rfl, S7⟩
  have S8 := S7.pick 1
  have f2 := S8.isBlk.frozen 4
  have c2 := S8.isBlk.cell 4 (v := x4) rfl
  have H8 := hid ((S8.set 4 (.string s) (cs' := [x0, x1, .int .i64 (b : Int), .int .i64 (t : Int), .string s, x5]) rfl).pick 1)
  clear S7 S8 H6
  go_wp2_with fail
  clear f2 c2
  refine (done_sat H8.out).mono ?_; rintro e w9 ⟨rfl, S9⟩
  have H9 := hid S9.drop
  clear S9 H8
  go_wp2_with fail
  go_ret
  exact ⟨rfl, H9.out⟩
end
end Go.Proofs.YtekioplbfoonkaaGreatDoor
