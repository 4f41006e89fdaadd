/- Layer 7: next, the piece of the next block. -/
import Derived.Test.YtekioplbfoonkaaGreatDoorParse
import Derived.Test.YtekioplbfoonkaaGreatDoorMg3
namespace Go.Proofs.YtekioplbfoonkaaGreatDoor
open Go.RowKit
set_option linter.unusedVariables false
set_option maxRecDepth 100000
set_option maxHeartbeats 2000000
section
variable {w0 w : World} {I : Part} {L : List HP} {p : Nat} {v V : Vst}
theorem tnext_err (hv : v.ok) {s : ByteArray} {m : Bool} {E : Int} (hA : readS v = ((s, m, E), V)) (hE : E ≠ 0) (H : Sat w0 I (volp p v :: L) w) :
    Calls Tryz.prog 106 #[.pointer (some ⟨p, 0, none⟩)] w fun e w' => e = .returned (.tuple #[.agg pc0.toArray, .int .i64 E]) ∧ Sat w0 I (volp p V :: L) w' := by
  have HA := hid hA
  clear hA
  have HS0 := hid H
  clear H
  obtain ⟨g, hg⟩ := HS0.out.sizeEx
  have S1 := HS0.out.alloc (b := g) (T := 181) (cs := pc0) rfl hg.symm
  have H1 := hid S1.swap
  go_enter Tryz.func106, Tryz.ntmps106
  go_wp2_with fail
  try rw [hg]
  clear S1 HS0 hg
  refine (vread hv HA.out H1.out).mono ?_; rintro e w1 ⟨rfl, S2⟩
  have S3 := S2.swap
  have H2 := hid S3
  clear S2 H1
  have z0 : w1.cell? ⟨g, 0, none⟩ = some (.string ⟨#[]⟩) := S3.isBlk.cell 0 rfl
  have z1 : w1.cell? ⟨g, 1, none⟩ = some (.int .i64 0) := S3.isBlk.cell 1 rfl
  have z2 : w1.cell? ⟨g, 2, none⟩ = some (.int .u64 0) := S3.isBlk.cell 2 rfl
  have z3 : w1.cell? ⟨g, 3, none⟩ = some (.int .i64 0) := S3.isBlk.cell 3 rfl
  have z4 : w1.cell? ⟨g, 4, none⟩ = some (.int .i64 0) := S3.isBlk.cell 4 rfl
  have z5 : w1.cell? ⟨g, 5, none⟩ = some (.int .i64 0) := S3.isBlk.cell 5 rfl
  have z6 : w1.cell? ⟨g, 6, none⟩ = some (.int .u32 0) := S3.isBlk.cell 6 rfl
  have z7 : w1.cell? ⟨g, 7, none⟩ = some (.string ⟨#[]⟩) := S3.isBlk.cell 7 rfl
  have f0 := S3.isBlk.frozen 0
  have f1 := S3.isBlk.frozen 1
  have f2 := S3.isBlk.frozen 2
  have f3 := S3.isBlk.frozen 3
  have f4 := S3.isBlk.frozen 4
  have f5 := S3.isBlk.frozen 5
  have f6 := S3.isBlk.frozen 6
  have f7 := S3.isBlk.frozen 7
  clear S3
  have hE1 : (E == 0) = false := by simpa using hE
  go_wp2_with fail
  have S4 := ((((((((H2.out.set 0 (.string ⟨#[]⟩) (cs' := pc0) rfl).set 1 (.int .i64 0) (cs' := pc0) rfl).set 2 (.int .u64 0) (cs' := pc0) rfl).set 3 (.int .i64 0) (cs' := pc0) rfl).set 4 (.int .i64 0) (cs' := pc0) rfl).set 5 (.int .i64 0) (cs' := pc0) rfl).set 6 (.int .u32 0) (cs' := pc0) rfl).set 7 (.string ⟨#[]⟩) (cs' := pc0) rfl)
  have k0 := S4.isBlk.cell 0 (v := .string ⟨#[]⟩) rfl
  have k1 := S4.isBlk.cell 1 (v := .int .i64 0) rfl
  have k2 := S4.isBlk.cell 2 (v := .int .u64 0) rfl
  have k3 := S4.isBlk.cell 3 (v := .int .i64 0) rfl
  have k4 := S4.isBlk.cell 4 (v := .int .i64 0) rfl
  have k5 := S4.isBlk.cell 5 (v := .int .i64 0) rfl
  have k6 := S4.isBlk.cell 6 (v := .int .u32 0) rfl
  have k7 := S4.isBlk.cell 7 (v := .string ⟨#[]⟩) rfl
  have H4 := hid S4.drop
  clear S4 z0 z1 z2 z3 z4 z5 z6 z7 f0 f1 f2 f3 f4 f5 f6 f7
  refine bodyPost_ret (v := .tuple #[.agg pc0.toArray, .int .i64 E]) (by simp [results, Tryz.results106, go_sem, k0, k1, k2, k3, k4, k5, k6, k7]; rfl) rfl ⟨rfl, ?_⟩
  exact H4.out
theorem tnext_mark (hv : v.ok) {s : ByteArray} (hA : readS v = ((s, true, 0), V)) (H : Sat w0 I (volp p v :: L) w) :
    Calls Tryz.prog 106 #[.pointer (some ⟨p, 0, none⟩)] w fun e w' => e = .returned (.tuple #[.agg pc0.toArray, .int .i64 3]) ∧ Sat w0 I (volp p V :: L) w' := by
  have HA := hid hA
  clear hA
  have HS0 := hid H
  clear H
  obtain ⟨g, hg⟩ := HS0.out.sizeEx
  have S1 := HS0.out.alloc (b := g) (T := 181) (cs := pc0) rfl hg.symm
  have H1 := hid S1.swap
  go_enter Tryz.func106, Tryz.ntmps106
  go_wp2_with fail
  try rw [hg]
  clear S1 HS0 hg
  refine (vread hv HA.out H1.out).mono ?_; rintro e w1 ⟨rfl, S2⟩
  have S3 := S2.swap
  have H2 := hid S3
  clear S2 H1
  have z0 : w1.cell? ⟨g, 0, none⟩ = some (.string ⟨#[]⟩) := S3.isBlk.cell 0 rfl
  have z1 : w1.cell? ⟨g, 1, none⟩ = some (.int .i64 0) := S3.isBlk.cell 1 rfl
  have z2 : w1.cell? ⟨g, 2, none⟩ = some (.int .u64 0) := S3.isBlk.cell 2 rfl
  have z3 : w1.cell? ⟨g, 3, none⟩ = some (.int .i64 0) := S3.isBlk.cell 3 rfl
  have z4 : w1.cell? ⟨g, 4, none⟩ = some (.int .i64 0) := S3.isBlk.cell 4 rfl
  have z5 : w1.cell? ⟨g, 5, none⟩ = some (.int .i64 0) := S3.isBlk.cell 5 rfl
  have z6 : w1.cell? ⟨g, 6, none⟩ = some (.int .u32 0) := S3.isBlk.cell 6 rfl
  have z7 : w1.cell? ⟨g, 7, none⟩ = some (.string ⟨#[]⟩) := S3.isBlk.cell 7 rfl
  have f0 := S3.isBlk.frozen 0
  have f1 := S3.isBlk.frozen 1
  have f2 := S3.isBlk.frozen 2
  have f3 := S3.isBlk.frozen 3
  have f4 := S3.isBlk.frozen 4
  have f5 := S3.isBlk.frozen 5
  have f6 := S3.isBlk.frozen 6
  have f7 := S3.isBlk.frozen 7
  clear S3
  go_wp2_with fail
  have S4 := ((((((((H2.out.set 0 (.string ⟨#[]⟩) (cs' := pc0) rfl).set 1 (.int .i64 0) (cs' := pc0) rfl).set 2 (.int .u64 0) (cs' := pc0) rfl).set 3 (.int .i64 0) (cs' := pc0) rfl).set 4 (.int .i64 0) (cs' := pc0) rfl).set 5 (.int .i64 0) (cs' := pc0) rfl).set 6 (.int .u32 0) (cs' := pc0) rfl).set 7 (.string ⟨#[]⟩) (cs' := pc0) rfl)
  have k0 := S4.isBlk.cell 0 (v := .string ⟨#[]⟩) rfl
  have k1 := S4.isBlk.cell 1 (v := .int .i64 0) rfl
  have k2 := S4.isBlk.cell 2 (v := .int .u64 0) rfl
  have k3 := S4.isBlk.cell 3 (v := .int .i64 0) rfl
  have k4 := S4.isBlk.cell 4 (v := .int .i64 0) rfl
  have k5 := S4.isBlk.cell 5 (v := .int .i64 0) rfl
  have k6 := S4.isBlk.cell 6 (v := .int .u32 0) rfl
  have k7 := S4.isBlk.cell 7 (v := .string ⟨#[]⟩) rfl
  have H4 := hid S4.drop
  clear S4 z0 z1 z2 z3 z4 z5 z6 z7 f0 f1 f2 f3 f4 f5 f6 f7
  refine bodyPost_ret (v := .tuple #[.agg pc0.toArray, .int .i64 3]) (by simp [results, Tryz.results106, go_sem, k0, k1, k2, k3, k4, k5, k6, k7]; rfl) rfl ⟨rfl, ?_⟩
  exact H4.out
theorem tnext_bad (hT : Rd I (some ⟨0, 0, none⟩) tabV) (hv : v.ok) {s : ByteArray} (hs : s.size ≤ 9223372036854775807) {c : List UInt8} {E : Int} (hO : onlyR s.data.toList = (c, E)) (hE : E ≠ 0) (hA : readS v = ((s, false, 0), V)) (H : Sat w0 I (volp p v :: L) w) :
    Calls Tryz.prog 106 #[.pointer (some ⟨p, 0, none⟩)] w fun e w' => e = .returned (.tuple #[.agg pc0.toArray, .int .i64 E]) ∧ Sat w0 I (volp p V :: L) w' := by
  have HA := hid hA
  have HT := hid hT
  have HO := hid hO
  clear hA hT hO
  have HS0 := hid H
  clear H
  obtain ⟨g, hg⟩ := HS0.out.sizeEx
  have S1 := HS0.out.alloc (b := g) (T := 181) (cs := pc0) rfl hg.symm
  have H1 := hid S1.swap
  go_enter Tryz.func106, Tryz.ntmps106
  go_wp2_with fail
  try rw [hg]
  clear S1 HS0 hg
  refine (vread hv HA.out H1.out).mono ?_; rintro e w1 ⟨rfl, S2⟩
  have S3 := S2.swap
  have H2 := hid S3
  clear S2 H1
  clear S3
  go_wp2_with fail
  refine (parse_err HT.out s hs HO.out hE H2.out).mono ?_; rintro e w1 ⟨rfl, S3⟩
  have H2 := hid S3
  unfold pc0
  have z0 : w1.cell? ⟨g, 0, none⟩ = some (.string ⟨#[]⟩) := S3.isBlk.cell 0 rfl
  have z1 : w1.cell? ⟨g, 1, none⟩ = some (.int .i64 0) := S3.isBlk.cell 1 rfl
  have z2 : w1.cell? ⟨g, 2, none⟩ = some (.int .u64 0) := S3.isBlk.cell 2 rfl
  have z3 : w1.cell? ⟨g, 3, none⟩ = some (.int .i64 0) := S3.isBlk.cell 3 rfl
  have z4 : w1.cell? ⟨g, 4, none⟩ = some (.int .i64 0) := S3.isBlk.cell 4 rfl
  have z5 : w1.cell? ⟨g, 5, none⟩ = some (.int .i64 0) := S3.isBlk.cell 5 rfl
  have z6 : w1.cell? ⟨g, 6, none⟩ = some (.int .u32 0) := S3.isBlk.cell 6 rfl
  have z7 : w1.cell? ⟨g, 7, none⟩ = some (.string ⟨#[]⟩) := S3.isBlk.cell 7 rfl
  have f0 := S3.isBlk.frozen 0
  have f1 := S3.isBlk.frozen 1
  have f2 := S3.isBlk.frozen 2
  have f3 := S3.isBlk.frozen 3
  have f4 := S3.isBlk.frozen 4
  have f5 := S3.isBlk.frozen 5
  have f6 := S3.isBlk.frozen 6
  have f7 := S3.isBlk.frozen 7
  clear S3
  go_wp2_with fail
  have S4 := ((((((((H2.out.set 0 (.string ⟨#[]⟩) (cs' := pc0) rfl).set 1 (.int .i64 0) (cs' := pc0) rfl).set 2 (.int .u64 0) (cs' := pc0) rfl).set 3 (.int .i64 0) (cs' := pc0) rfl).set 4 (.int .i64 0) (cs' := pc0) rfl).set 5 (.int .i64 0) (cs' := pc0) rfl).set 6 (.int .u32 0) (cs' := pc0) rfl).set 7 (.string ⟨#[]⟩) (cs' := pc0) rfl)
  have k0 := S4.isBlk.cell 0 (v := .string ⟨#[]⟩) rfl
  have k1 := S4.isBlk.cell 1 (v := .int .i64 0) rfl
  have k2 := S4.isBlk.cell 2 (v := .int .u64 0) rfl
  have k3 := S4.isBlk.cell 3 (v := .int .i64 0) rfl
  have k4 := S4.isBlk.cell 4 (v := .int .i64 0) rfl
  have k5 := S4.isBlk.cell 5 (v := .int .i64 0) rfl
  have k6 := S4.isBlk.cell 6 (v := .int .u32 0) rfl
  have k7 := S4.isBlk.cell 7 (v := .string ⟨#[]⟩) rfl
  have H4 := hid S4.drop
  clear S4 z0 z1 z2 z3 z4 z5 z6 z7 f0 f1 f2 f3 f4 f5 f6 f7
  refine bodyPost_ret (v := .tuple #[.agg pc0.toArray, .int .i64 E]) (by simp [results, Tryz.results106, go_sem, k0, k1, k2, k3, k4, k5, k6, k7]; rfl) rfl ⟨rfl, ?_⟩
  exact H4.out
theorem tnext_ok (hT : Rd I (some ⟨0, 0, none⟩) tabV) (hv : v.ok) (P : Pc) (hok : P.ok) {s : ByteArray} (hs : s = ⟨(frameL (pbytes P)).toArray⟩) (hA : readS v = ((s, false, 0), V)) (H : Sat w0 I (volp p v :: L) w) :
    Calls Tryz.prog 106 #[.pointer (some ⟨p, 0, none⟩)] w fun e w' => e = .returned (.tuple #[.agg (pcc P).toArray, .int .i64 0]) ∧ Sat w0 I (volp p V :: L) w' := by
  have HA := hid hA
  have HT := hid hT
  have HSE := hid hs
  clear hA hT hs
  have HS0 := hid H
  clear H
  obtain ⟨g, hg⟩ := HS0.out.sizeEx
  have S1 := HS0.out.alloc (b := g) (T := 181) (cs := pc0) rfl hg.symm
  have H1 := hid S1.swap
  go_enter Tryz.func106, Tryz.ntmps106
  go_wp2_with fail
  try rw [hg]
  clear S1 HS0 hg
  refine (vread hv HA.out H1.out).mono ?_; rintro e w1 ⟨rfl, S2⟩
  have S3 := S2.swap
  have H2 := hid S3
  clear S2 H1
  clear S3
  go_wp2_with fail
  refine (parse_ok HT.out P hok HSE.out H2.out).mono ?_; rintro e w1 ⟨rfl, S3⟩
  have H2 := hid S3
  have ep : (pcc P).toArray = #[.string P.label, .int .i64 (P.block : Int), .int .u64 (P.blob : Int), .int .i64 (P.part : Int), .int .i64 (P.parts : Int), .int .i64 (P.size : Int), .int .u32 (P.sum : Int), .string P.data] := rfl
  rw [ep]
  have z0 : w1.cell? ⟨g, 0, none⟩ = some (.string ⟨#[]⟩) := S3.isBlk.cell 0 rfl
  have z1 : w1.cell? ⟨g, 1, none⟩ = some (.int .i64 0) := S3.isBlk.cell 1 rfl
  have z2 : w1.cell? ⟨g, 2, none⟩ = some (.int .u64 0) := S3.isBlk.cell 2 rfl
  have z3 : w1.cell? ⟨g, 3, none⟩ = some (.int .i64 0) := S3.isBlk.cell 3 rfl
  have z4 : w1.cell? ⟨g, 4, none⟩ = some (.int .i64 0) := S3.isBlk.cell 4 rfl
  have z5 : w1.cell? ⟨g, 5, none⟩ = some (.int .i64 0) := S3.isBlk.cell 5 rfl
  have z6 : w1.cell? ⟨g, 6, none⟩ = some (.int .u32 0) := S3.isBlk.cell 6 rfl
  have z7 : w1.cell? ⟨g, 7, none⟩ = some (.string ⟨#[]⟩) := S3.isBlk.cell 7 rfl
  have f0 := S3.isBlk.frozen 0
  have f1 := S3.isBlk.frozen 1
  have f2 := S3.isBlk.frozen 2
  have f3 := S3.isBlk.frozen 3
  have f4 := S3.isBlk.frozen 4
  have f5 := S3.isBlk.frozen 5
  have f6 := S3.isBlk.frozen 6
  have f7 := S3.isBlk.frozen 7
  clear S3
  go_wp2_with fail
  have S4 := ((((((((H2.out.set 0 (.string P.label) (cs' := [.string P.label, .int .i64 0, .int .u64 0, .int .i64 0, .int .i64 0, .int .i64 0, .int .u32 0, .string ⟨#[]⟩]) rfl).set 1 (.int .i64 (P.block : Int)) (cs' := [.string P.label, .int .i64 (P.block : Int), .int .u64 0, .int .i64 0, .int .i64 0, .int .i64 0, .int .u32 0, .string ⟨#[]⟩]) rfl).set 2 (.int .u64 (P.blob : Int)) (cs' := [.string P.label, .int .i64 (P.block : Int), .int .u64 (P.blob : Int), .int .i64 0, .int .i64 0, .int .i64 0, .int .u32 0, .string ⟨#[]⟩]) rfl).set 3 (.int .i64 (P.part : Int)) (cs' := [.string P.label, .int .i64 (P.block : Int), .int .u64 (P.blob : Int), .int .i64 (P.part : Int), .int .i64 0, .int .i64 0, .int .u32 0, .string ⟨#[]⟩]) rfl).set 4 (.int .i64 (P.parts : Int)) (cs' := [.string P.label, .int .i64 (P.block : Int), .int .u64 (P.blob : Int), .int .i64 (P.part : Int), .int .i64 (P.parts : Int), .int .i64 0, .int .u32 0, .string ⟨#[]⟩]) rfl).set 5 (.int .i64 (P.size : Int)) (cs' := [.string P.label, .int .i64 (P.block : Int), .int .u64 (P.blob : Int), .int .i64 (P.part : Int), .int .i64 (P.parts : Int), .int .i64 (P.size : Int), .int .u32 0, .string ⟨#[]⟩]) rfl).set 6 (.int .u32 (P.sum : Int)) (cs' := [.string P.label, .int .i64 (P.block : Int), .int .u64 (P.blob : Int), .int .i64 (P.part : Int), .int .i64 (P.parts : Int), .int .i64 (P.size : Int), .int .u32 (P.sum : Int), .string ⟨#[]⟩]) rfl).set 7 (.string P.data) (cs' := [.string P.label, .int .i64 (P.block : Int), .int .u64 (P.blob : Int), .int .i64 (P.part : Int), .int .i64 (P.parts : Int), .int .i64 (P.size : Int), .int .u32 (P.sum : Int), .string P.data]) rfl)
  have k0 := S4.isBlk.cell 0 (v := .string P.label) rfl
  have k1 := S4.isBlk.cell 1 (v := .int .i64 (P.block : Int)) rfl
  have k2 := S4.isBlk.cell 2 (v := .int .u64 (P.blob : Int)) rfl
  have k3 := S4.isBlk.cell 3 (v := .int .i64 (P.part : Int)) rfl
  have k4 := S4.isBlk.cell 4 (v := .int .i64 (P.parts : Int)) rfl
  have k5 := S4.isBlk.cell 5 (v := .int .i64 (P.size : Int)) rfl
  have k6 := S4.isBlk.cell 6 (v := .int .u32 (P.sum : Int)) rfl
  have k7 := S4.isBlk.cell 7 (v := .string P.data) rfl
  have H4 := hid S4.drop
  clear S4 z0 z1 z2 z3 z4 z5 z6 z7 f0 f1 f2 f3 f4 f5 f6 f7
  refine bodyPost_ret (v := .tuple #[.agg #[.string P.label, .int .i64 (P.block : Int), .int .u64 (P.blob : Int), .int .i64 (P.part : Int), .int .i64 (P.parts : Int), .int .i64 (P.size : Int), .int .u32 (P.sum : Int), .string P.data], .int .i64 0]) (by simp [results, Tryz.results106, go_sem, k0, k1, k2, k3, k4, k5, k6, k7]) rfl ⟨rfl, ?_⟩
  exact H4.out
end
end Go.Proofs.YtekioplbfoonkaaGreatDoor
