/- Parse: a block that is a piece's encoding is that piece; the error of a frame is handed on. -/
import Derived.Test.YtekioplbfoonkaaGreatDoorSealA
import Derived.Test.YtekioplbfoonkaaGreatDoorPiece
namespace Go.Proofs.YtekioplbfoonkaaGreatDoor
open Go.RowKit
set_option linter.unusedVariables false
set_option maxRecDepth 100000
section
variable {w0 w : World} {I : Part} {L : List HP} {d : Nat} {R : List UInt8}
theorem decS_enc (s : ByteArray) (most : Int) (hs : (s.size : Int) ≤ most) (hm : most ≤ 1048576) (h : Sat w0 I (decr d (encS s ++ R) 0 :: L) w) :
    Calls Tryz.prog 67 #[.pointer (some ⟨d, 0, none⟩), .int .i64 most] w fun e w' => e = .returned (.string s) ∧ Sat w0 I (decr d R 0 :: L) w' := by
  have := decS_sat most h (by omega)
  rw [takeS_enc most s (by omega) R (by omega)] at this
  exact this
theorem decI_enc (v : Nat) (most : Int) (hv : (v : Int) ≤ most) (hm : most ≤ 1073741824) (h : Sat w0 I (decr d (encU v ++ R) 0 :: L) w) :
    Calls Tryz.prog 66 #[.pointer (some ⟨d, 0, none⟩), .int .i64 most] w fun e w' => e = .returned (.int .i64 (v : Int)) ∧ Sat w0 I (decr d R 0 :: L) w' := by
  have := decI_sat most h (by omega)
  rw [takeI_enc most v (by omega) R (by omega)] at this
  exact this
theorem decU_enc (v : Nat) (hv : v < 18446744073709551616) (h : Sat w0 I (decr d (encU v ++ R) 0 :: L) w) :
    Calls Tryz.prog 68 #[.pointer (some ⟨d, 0, none⟩)] w fun e w' => e = .returned (.int .u64 (v : Int)) ∧ Sat w0 I (decr d R 0 :: L) w' := by
  have := decU_sat h
  rw [takeU_enc v hv R] at this
  exact this
end
theorem pbytes_eq (p : Pc) : pbytes p = encS p.label ++ (encU p.block ++ (encU p.blob ++ (encU p.part ++ (encU p.parts ++ (encU p.size ++ (encU p.sum ++ (encS p.data ++ []))))))) := by
  simp [pbytes, pparts]
def pc0 : List Value := [.string ⟨#[]⟩, .int .i64 0, .int .u64 0, .int .i64 0, .int .i64 0, .int .i64 0, .int .u32 0, .string ⟨#[]⟩]
set_option maxHeartbeats 2000000 in
theorem parse_err {w0 w : World} {I : Part} {L : List HP} (hT : Rd I (some ⟨0, 0, none⟩) tabV) (s : ByteArray) (hs : s.size ≤ 9223372036854775807) {c : List UInt8} {E : Int} (hO : onlyR s.data.toList = (c, E)) (hE : E ≠ 0) (H : Sat w0 I L w) :
    Calls Tryz.prog 150 #[.string s] w fun e w' => e = .returned (.tuple #[.agg pc0.toArray, .int .i64 E]) ∧ Sat w0 I L w' := by
  have HT := hid hT
  have HO := hid hO
  have H0 := hid H
  clear hT hO H
  obtain ⟨g, hg⟩ := H0.out.sizeEx
  go_enter Tryz.func150, Tryz.ntmps150
  go_wp2_with fail
  try rw [hg]
  have S1 := H0.out.alloc (b := g) (T := 181) (cs := pc0) rfl hg.symm
  refine (only_sat HT.out s hs HO.out S1).mono ?_; rintro e w1 ⟨rfl, S2⟩
  have H2 := hid S2
  have f0 := S2.isBlk.frozen 0
  have f1 := S2.isBlk.frozen 1
  have f2 := S2.isBlk.frozen 2
  have f3 := S2.isBlk.frozen 3
  have f4 := S2.isBlk.frozen 4
  have f5 := S2.isBlk.frozen 5
  have f6 := S2.isBlk.frozen 6
  have f7 := S2.isBlk.frozen 7
  have c0 : w1.cell? ⟨g, 0, none⟩ = some (.string ⟨#[]⟩) := S2.isBlk.cell 0 rfl
  have c1 : w1.cell? ⟨g, 1, none⟩ = some (.int .i64 0) := S2.isBlk.cell 1 rfl
  have c2 : w1.cell? ⟨g, 2, none⟩ = some (.int .u64 0) := S2.isBlk.cell 2 rfl
  have c3 : w1.cell? ⟨g, 3, none⟩ = some (.int .i64 0) := S2.isBlk.cell 3 rfl
  have c4 : w1.cell? ⟨g, 4, none⟩ = some (.int .i64 0) := S2.isBlk.cell 4 rfl
  have c5 : w1.cell? ⟨g, 5, none⟩ = some (.int .i64 0) := S2.isBlk.cell 5 rfl
  have c6 : w1.cell? ⟨g, 6, none⟩ = some (.int .u32 0) := S2.isBlk.cell 6 rfl
  have c7 : w1.cell? ⟨g, 7, none⟩ = some (.string ⟨#[]⟩) := S2.isBlk.cell 7 rfl
  clear S1 S2 H0 hg
  go_wp2_with fail
  have S3 := ((((((((H2.out.set 0 (.string ⟨#[]⟩) (cs' := pc0) rfl).set 1 (.int .i64 0) (cs' := pc0) rfl).set 2 (.int .u64 0) (cs' := pc0) rfl).set 3 (.int .i64 0) (cs' := pc0) rfl).set 4 (.int .i64 0) (cs' := pc0) rfl).set 5 (.int .i64 0) (cs' := pc0) rfl).set 6 (.int .u32 0) (cs' := pc0) rfl).set 7 (.string ⟨#[]⟩) (cs' := pc0) rfl)
  have k0 := S3.isBlk.cell 0 (v := .string ⟨#[]⟩) rfl
  have k1 := S3.isBlk.cell 1 (v := .int .i64 0) rfl
  have k2 := S3.isBlk.cell 2 (v := .int .u64 0) rfl
  have k3 := S3.isBlk.cell 3 (v := .int .i64 0) rfl
  have k4 := S3.isBlk.cell 4 (v := .int .i64 0) rfl
  have k5 := S3.isBlk.cell 5 (v := .int .i64 0) rfl
  have k6 := S3.isBlk.cell 6 (v := .int .u32 0) rfl
  have k7 := S3.isBlk.cell 7 (v := .string ⟨#[]⟩) rfl
  have H3 := hid S3.drop
  clear S3 c0 c1 c2 c3 c4 c5 c6 c7 f0 f1 f2 f3 f4 f5 f6 f7
  refine bodyPost_ret (v := .tuple #[.agg pc0.toArray, .int .i64 E]) (by simp [results, Tryz.results150, go_sem, k0, k1, k2, k3, k4, k5, k6, k7]; rfl) rfl ⟨rfl, ?_⟩
  exact H3.out
set_option maxHeartbeats 400000 in
theorem parse_ok {w0 w : World} {I : Part} {L : List HP} (hT : Rd I (some ⟨0, 0, none⟩) tabV) (p : Pc) (hok : p.ok) {s : ByteArray} (hs : s = ⟨(frameL (pbytes p)).toArray⟩) (H : Sat w0 I L w) :
    Calls Tryz.prog 150 #[.string s] w fun e w' => e = .returned (.tuple #[.agg (pcc p).toArray, .int .i64 0]) ∧ Sat w0 I L w' := by
  subst hs
  have HT := hid hT
  have OK := hid hok
  have H0 := hid H
  have hpl := pbytes_len hok
  have HO := hid (show onlyR (⟨(frameL (pbytes p)).toArray⟩ : ByteArray).data.toList = (pbytes p, 0) from onlyR_frame (pbytes p) (by omega))
  have hsz : (⟨(frameL (pbytes p)).toArray⟩ : ByteArray).size ≤ 9223372036854775807 := by
    show (frameL (pbytes p)).toArray.size ≤ _
    rw [List.size_toArray, frameL_len]; omega
  have HSZ := hid hsz
  clear hT hok H hpl hsz
  obtain ⟨fr, hfr⟩ : ∃ fr : ByteArray, (⟨(frameL (pbytes p)).toArray⟩ : ByteArray) = fr := ⟨_, rfl⟩
  rw [hfr] at HO HSZ ⊢
  clear hfr
  obtain ⟨g, hg⟩ := H0.out.sizeEx
  go_enter Tryz.func150, Tryz.ntmps150
  go_wp2_with fail
  try rw [hg]
  have S1 := H0.out.alloc (b := g) (T := 181) (cs := pc0) rfl hg.symm
  refine (only_sat HT.out fr HSZ.out HO.out S1).mono ?_; rintro e w1 ⟨rfl, S2⟩
  have H2 := hid S2
  clear S1 S2 H0 hg
  go_wp2_with fail
  refine (from_sat (⟨(pbytes p).toArray⟩ : ByteArray) H2.out (by have := pbytes_len OK.out; show (pbytes p).toArray.size ≤ _; rw [List.size_toArray]; omega)).mono ?_; rintro e w2 ⟨d, rfl, S3⟩
  have e3 : (⟨(pbytes p).toArray⟩ : ByteArray).data.toList = encS p.label ++ (encU p.block ++ (encU p.blob ++ (encU p.part ++ (encU p.parts ++ (encU p.size ++ (encU p.sum ++ (encS p.data ++ []))))))) := by rw [← pbytes_eq]
  rw [e3] at S3
  have H3 := hid S3
  clear S3 e3 H2
  go_upto_region 6 with fail
  obtain ⟨q, hq⟩ := H3.out.sizeEx
  try rw [hq]
  have S4 := (H3.out.alloc (b := q) (T := 181) (cs := pc0) rfl hq.symm).swap
  refine wp_gen (fun w4 => Sat w0 I (decr d (encS p.label ++ (encU p.block ++ (encU p.blob ++ (encU p.part ++ (encU p.parts ++ (encU p.size ++ (encU p.sum ++ (encS p.data ++ []))))))) ) 0 :: blk q 181 pc0 :: blk g 181 pc0 :: L) w4) S4 ?_
  clear S4 H3 hq
  intro w4 S4
  have H4 := hid S4
  clear S4
  go_wp2_with fail
  (with_reducible refine (decS_enc p.label 32 (by have := OK.out.label; omega) (by omega) H4.out).mono ?_); rintro e w5 ⟨rfl, S5⟩
  have fz0 := S5.swap.isBlk.frozen 0
  have cz0 : w5.cell? ⟨q, 0, none⟩ = some (.string ⟨#[]⟩) := S5.swap.isBlk.cell 0 rfl
  have H5 := hid (S5.set1 0 (.string p.label) rfl)
  clear S5 H4
  go_wp2_with fail
  (with_reducible refine (decI_enc p.block 1073741824 (by have := OK.out.block; omega) (by omega) H5.out).mono ?_); rintro e w6 ⟨rfl, S6⟩
  have fz1 := S6.swap.isBlk.frozen 1
  have cz1 : w6.cell? ⟨q, 1, none⟩ = some (.int .i64 0) := S6.swap.isBlk.cell 1 rfl
  have H6 := hid (S6.set1 1 (.int .i64 (p.block : Int)) rfl)
  clear S6 H5
  go_wp2_with fail
  (with_reducible refine (decU_enc p.blob OK.out.blob H6.out).mono ?_); rintro e w7 ⟨rfl, S7⟩
  have fz2 := S7.swap.isBlk.frozen 2
  have cz2 : w7.cell? ⟨q, 2, none⟩ = some (.int .u64 0) := S7.swap.isBlk.cell 2 rfl
  have H7 := hid (S7.set1 2 (.int .u64 (p.blob : Int)) rfl)
  clear S7 H6
  go_wp2_with fail
  (with_reducible refine (decI_enc p.part 1048576 (by have := OK.out.part; have := OK.out.parts; omega) (by omega) H7.out).mono ?_); rintro e w8 ⟨rfl, S8⟩
  have fz3 := S8.swap.isBlk.frozen 3
  have cz3 : w8.cell? ⟨q, 3, none⟩ = some (.int .i64 0) := S8.swap.isBlk.cell 3 rfl
  have H8 := hid (S8.set1 3 (.int .i64 (p.part : Int)) rfl)
  clear S8 H7
  go_wp2_with fail
  (with_reducible refine (decI_enc p.parts 1048576 (by have := OK.out.parts; omega) (by omega) H8.out).mono ?_); rintro e w9 ⟨rfl, S9⟩
  have fz4 := S9.swap.isBlk.frozen 4
  have cz4 : w9.cell? ⟨q, 4, none⟩ = some (.int .i64 0) := S9.swap.isBlk.cell 4 rfl
  have H9 := hid (S9.set1 4 (.int .i64 (p.parts : Int)) rfl)
  clear S9 H8
  go_wp2_with fail
  (with_reducible refine (decI_enc p.size 4000 (by have := OK.out.size; omega) (by omega) H9.out).mono ?_); rintro e w10 ⟨rfl, S10⟩
  have fz5 := S10.swap.isBlk.frozen 5
  have cz5 : w10.cell? ⟨q, 5, none⟩ = some (.int .i64 0) := S10.swap.isBlk.cell 5 rfl
  have H10 := hid (S10.set1 5 (.int .i64 (p.size : Int)) rfl)
  clear S10 H9
  go_wp2_with fail
  (with_reducible refine (decU_enc p.sum (by have := OK.out.sum; omega) H10.out).mono ?_); rintro e w11 ⟨rfl, S11⟩
  have H11 := hid S11
  clear S11 H10
  go_wp2_with fail
  (with_reducible refine (decS_enc p.data 200 (by have := OK.out.data; omega) (by omega) H11.out).mono ?_); rintro e w12 ⟨rfl, S12⟩
  have fz7 := S12.swap.isBlk.frozen 7
  have cz7 : w12.cell? ⟨q, 7, none⟩ = some (.string ⟨#[]⟩) := S12.swap.isBlk.cell 7 rfl
  have H12 := hid (S12.set1 7 (.string p.data) rfl)
  clear S12 H11
  have q3 := H12.out.swap.isBlk.cell 3 rfl
  have q4 := H12.out.swap.isBlk.cell 4 rfl
  have hs1 : ¬ 4294967295 < (p.sum : Int) := by have := OK.out.sum; omega
  have hpp : (p.part : Int) < (p.parts : Int) := by have := OK.out.part; omega
  go_wp2_with fail
  refine (done_sat H12.out).mono ?_; rintro e w13 ⟨rfl, S13⟩
  have fz6 := S13.swap.isBlk.frozen 6
  have cz6 : w13.cell? ⟨q, 6, none⟩ = some (.int .u32 0) := S13.swap.isBlk.cell 6 rfl
  have hwr : IntKind.u32.wrap (p.sum : Int) = (p.sum : Int) := by have := OK.out.sum; rw [IntKind.wrap_u32]; omega
  have H13 := hid ((S13.swap.set 6 (.int .u32 (p.sum : Int)) (cs' := pcc p) rfl).pick 2)
  clear S13 H12 q3 q4 fz0 fz1 fz2 fz3 fz4 fz5 fz7 cz0 cz1 cz2 cz3 cz4 cz5 cz7 hs1 hpp
  go_upto_region 20 with fail
  refine wp_gen (fun w14 => Sat w0 I (blk g 181 pc0 :: blk q 181 (pcc p) :: L) w14) (H13.out.pick 2).drop ?_
  clear fz6 cz6 H13
  intro w14 S14
  have y0 : w14.cell? ⟨q, 0, none⟩ = some (.string p.label) := S14.swap.isBlk.cell 0 rfl
  have z0 : w14.cell? ⟨g, 0, none⟩ = some (.string ⟨#[]⟩) := S14.isBlk.cell 0 rfl
  have f0 := S14.isBlk.frozen 0
  have y1 : w14.cell? ⟨q, 1, none⟩ = some (.int .i64 (p.block : Int)) := S14.swap.isBlk.cell 1 rfl
  have z1 : w14.cell? ⟨g, 1, none⟩ = some (.int .i64 0) := S14.isBlk.cell 1 rfl
  have f1 := S14.isBlk.frozen 1
  have y2 : w14.cell? ⟨q, 2, none⟩ = some (.int .u64 (p.blob : Int)) := S14.swap.isBlk.cell 2 rfl
  have z2 : w14.cell? ⟨g, 2, none⟩ = some (.int .u64 0) := S14.isBlk.cell 2 rfl
  have f2 := S14.isBlk.frozen 2
  have y3 : w14.cell? ⟨q, 3, none⟩ = some (.int .i64 (p.part : Int)) := S14.swap.isBlk.cell 3 rfl
  have z3 : w14.cell? ⟨g, 3, none⟩ = some (.int .i64 0) := S14.isBlk.cell 3 rfl
  have f3 := S14.isBlk.frozen 3
  have y4 : w14.cell? ⟨q, 4, none⟩ = some (.int .i64 (p.parts : Int)) := S14.swap.isBlk.cell 4 rfl
  have z4 : w14.cell? ⟨g, 4, none⟩ = some (.int .i64 0) := S14.isBlk.cell 4 rfl
  have f4 := S14.isBlk.frozen 4
  have y5 : w14.cell? ⟨q, 5, none⟩ = some (.int .i64 (p.size : Int)) := S14.swap.isBlk.cell 5 rfl
  have z5 : w14.cell? ⟨g, 5, none⟩ = some (.int .i64 0) := S14.isBlk.cell 5 rfl
  have f5 := S14.isBlk.frozen 5
  have y6 : w14.cell? ⟨q, 6, none⟩ = some (.int .u32 (p.sum : Int)) := S14.swap.isBlk.cell 6 rfl
  have z6 : w14.cell? ⟨g, 6, none⟩ = some (.int .u32 0) := S14.isBlk.cell 6 rfl
  have f6 := S14.isBlk.frozen 6
  have y7 : w14.cell? ⟨q, 7, none⟩ = some (.string p.data) := S14.swap.isBlk.cell 7 rfl
  have z7 : w14.cell? ⟨g, 7, none⟩ = some (.string ⟨#[]⟩) := S14.isBlk.cell 7 rfl
  have f7 := S14.isBlk.frozen 7
  have H14 := hid S14
  clear S14
  go_wp2_with fail
  have S15 := ((((((((H14.out.set 0 (.string p.label) (cs' := [.string p.label, .int .i64 0, .int .u64 0, .int .i64 0, .int .i64 0, .int .i64 0, .int .u32 0, .string ⟨#[]⟩]) rfl).set 1 (.int .i64 (p.block : Int)) (cs' := [.string p.label, .int .i64 (p.block : Int), .int .u64 0, .int .i64 0, .int .i64 0, .int .i64 0, .int .u32 0, .string ⟨#[]⟩]) rfl).set 2 (.int .u64 (p.blob : Int)) (cs' := [.string p.label, .int .i64 (p.block : Int), .int .u64 (p.blob : Int), .int .i64 0, .int .i64 0, .int .i64 0, .int .u32 0, .string ⟨#[]⟩]) rfl).set 3 (.int .i64 (p.part : Int)) (cs' := [.string p.label, .int .i64 (p.block : Int), .int .u64 (p.blob : Int), .int .i64 (p.part : Int), .int .i64 0, .int .i64 0, .int .u32 0, .string ⟨#[]⟩]) rfl).set 4 (.int .i64 (p.parts : Int)) (cs' := [.string p.label, .int .i64 (p.block : Int), .int .u64 (p.blob : Int), .int .i64 (p.part : Int), .int .i64 (p.parts : Int), .int .i64 0, .int .u32 0, .string ⟨#[]⟩]) rfl).set 5 (.int .i64 (p.size : Int)) (cs' := [.string p.label, .int .i64 (p.block : Int), .int .u64 (p.blob : Int), .int .i64 (p.part : Int), .int .i64 (p.parts : Int), .int .i64 (p.size : Int), .int .u32 0, .string ⟨#[]⟩]) rfl).set 6 (.int .u32 (p.sum : Int)) (cs' := [.string p.label, .int .i64 (p.block : Int), .int .u64 (p.blob : Int), .int .i64 (p.part : Int), .int .i64 (p.parts : Int), .int .i64 (p.size : Int), .int .u32 (p.sum : Int), .string ⟨#[]⟩]) rfl).set 7 (.string p.data) (cs' := [.string p.label, .int .i64 (p.block : Int), .int .u64 (p.blob : Int), .int .i64 (p.part : Int), .int .i64 (p.parts : Int), .int .i64 (p.size : Int), .int .u32 (p.sum : Int), .string p.data]) rfl)
  have k0 := S15.isBlk.cell 0 (v := .string p.label) rfl
  have k1 := S15.isBlk.cell 1 (v := .int .i64 (p.block : Int)) rfl
  have k2 := S15.isBlk.cell 2 (v := .int .u64 (p.blob : Int)) rfl
  have k3 := S15.isBlk.cell 3 (v := .int .i64 (p.part : Int)) rfl
  have k4 := S15.isBlk.cell 4 (v := .int .i64 (p.parts : Int)) rfl
  have k5 := S15.isBlk.cell 5 (v := .int .i64 (p.size : Int)) rfl
  have k6 := S15.isBlk.cell 6 (v := .int .u32 (p.sum : Int)) rfl
  have k7 := S15.isBlk.cell 7 (v := .string p.data) rfl
  have H15 := hid S15.drop.drop
  clear S15 H14 y0 z0 f0 y1 z1 f1 y2 z2 f2 y3 z3 f3 y4 z4 f4 y5 z5 f5 y6 z6 f6 y7 z7 f7
  refine bodyPost_ret (v := .tuple #[.agg (pcc p).toArray, .int .i64 0]) (by simp [results, Tryz.results150, go_sem, k0, k1, k2, k3, k4, k5, k6, k7]; rfl) rfl ⟨rfl, ?_⟩
  exact H15.out
end Go.Proofs.YtekioplbfoonkaaGreatDoor
