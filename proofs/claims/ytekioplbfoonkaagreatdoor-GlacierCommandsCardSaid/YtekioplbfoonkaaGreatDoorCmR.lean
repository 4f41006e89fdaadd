/- command.Read of a command's bytes; law 12's Told. -/
import Derived.Test.YtekioplbfoonkaaGreatDoorMgD
import Derived.Test.YtekioplbfoonkaaGreatDoorMgC
import Derived.Test.YtekioplbfoonkaaGreatDoorCmC
import Derived.Test.YtekioplbfoonkaaGreatDoorCmW
import Derived.Test.YtekioplbfoonkaaGreatDoorRow
import Derived.Carry
import Derived.Deep.CutBlock
import Derived.Deep.DeepCutAuto
namespace Go.Proofs.YtekioplbfoonkaaGreatDoor
open Go.RowKit
set_option linter.unusedVariables false
set_option maxRecDepth 100000
set_option maxHeartbeats 4000000
theorem whCmd : WholeT Tryz.prog 54 11 := ⟨⟨_, Tryz.underlying54, rfl⟩, by kernel_rfl⟩
theorem whCmr : WholeT Tryz.prog 76 11 := ⟨⟨_, Tryz.underlying76, rfl⟩, by kernel_rfl⟩
def cm0 : List Value := [.int .i64 0, .int .i64 0, .int .i64 0, .string ⟨#[]⟩, .int .u64 0, .int .i64 0, .int .u32 0, .slice none 0 0, .int .i64 0, .int .i64 0, .int .i64 0]
theorem Cmd.one (c : Cmd) (dv : Value) (h : dv.oneCell' = true) : ∀ u ∈ c.cells dv, u.oneCell' = true := by
  intro u hu
  simp only [Cmd.cells, List.mem_cons, List.not_mem_nil, or_false] at hu
  rcases hu with rfl | rfl | rfl | rfl | rfl | rfl | rfl | rfl | rfl | rfl | rfl
  all_goals first | rfl | exact h
theorem Cmd.Ok.good {c : Cmd} (h : c.Ok) : Raw.Good ⟨(c.kind : Int), (c.client : Int), (c.seq : Int), c.name, (c.blob : Int), (c.size : Int), (c.sum : Int), c.zs, (c.pool : Int), (c.vol : Int), (c.at_ : Int)⟩ := by
  have up : ∀ (n m : Nat), n ≤ m → upB (n : Int) (m : Int) = true := fun n m h => decide_eq_true ⟨by omega, by omega⟩
  have hk := h.kind0
  refine ⟨up c.kind 14 h.kind, by show (c.kind : Int) ≠ 0; omega, fun i hi => ?_, fun i hi => ?_, up c.client 1073741824 h.client, up c.seq 1073741824 h.seq, h.name, up c.size 4000 h.size, up c.pool 1 h.pool, up c.vol 11 h.vol, up c.at_ 1073741824 h.at_⟩
  · have hi2 : i < c.disks.length := by have : i < c.zs.length := hi; rwa [c.zs_len] at this
    have e : c.zs[i]'hi = (c.disks[i] : Int) := by simp [Cmd.zs]
    show upB (c.zs[i]'hi) 5 = true
    rw [e]; exact up _ 5 (h.disk i hi2)
  · have hi1 : i + 1 < c.zs.length := hi
    have hi2 : i + 1 < c.disks.length := by rwa [c.zs_len] at hi1
    have e : c.zs[i]'(by omega) = (c.disks[i]'(by omega) : Int) := by simp [Cmd.zs]
    have e2 : c.zs[i + 1]'hi1 = (c.disks[i + 1] : Int) := by simp [Cmd.zs]
    show c.zs[i]'(by omega) < c.zs[i + 1]'hi1
    rw [e, e2]
    have := h.rise i hi2
    omega
section
variable {w0 w : World} {I : Part} {L : List HP}
theorem goodOk_sat (c : Cmd) (hok : c.Ok) (da : Option Addr) (dc : Nat) (hdc : c.disks.length ≤ dc) (hr : Rd I da (c.zs.map (Value.int .i64))) (H : Sat w0 I L w) :
    Calls Tryz.prog 19 #[.agg (c.cells (.slice da c.disks.length dc)).toArray] w fun e w' => e = .returned (.bool true) ∧ Sat w0 I L w' := by
  have hl := hok.len
  refine (good_sat (c.kind : Int) (c.client : Int) (c.seq : Int) c.name (c.blob : Int) (c.size : Int) (c.sum : Int) (c.pool : Int) (c.vol : Int) (c.at_ : Int) da c.disks.length dc c.zs c.zs_len (by omega) hdc hr H).mono fun e w' ⟨⟨b, h1, h2⟩, h3⟩ => ⟨?_, h3⟩
  rw [h1, h2.2 hok.good]
end
set_option maxHeartbeats 20000000 in
theorem cread_sat {w0 w : World} {I : Part} {L : List HP} (c : Cmd) (hok : c.Ok) (H : Sat w0 I L w) :
    Calls Tryz.prog 26 #[.string ⟨(cmdB c).toArray⟩] w fun e w' => ∃ J da dc, e = .returned (.tuple #[.agg (c.cells (.slice da c.disks.length dc)).toArray, .int .i64 0]) ∧ I.le J ∧ c.disks.length ≤ dc ∧ Rd J da (c.zs.map (Value.int .i64)) ∧ Sat w0 J L w' := by
  obtain ⟨s, hs⟩ : ∃ s : ByteArray, (⟨(cmdB c).toArray⟩ : ByteArray) = s := ⟨_, rfl⟩
  have hsl : s.data.toList = cmdB c := by rw [← hs]
  have hsz : s.size ≤ 9223372036854775807 := by
    rw [← hs]
    show (cmdB c).toArray.size ≤ _
    rw [List.size_toArray]
    have := cmdB_len hok; omega
  rw [hs]
  obtain ⟨g, hg⟩ := H.sizeQ
  have H0 := hid (H.alloc (b := g) (T := 54) (cs := cm0) rfl hg.symm)
  have HSL := hid hsl
  have h1 := hok.kind; have h2 := hok.client; have h3 := hok.seq; have h4 := hok.name; have h5 := hok.blob; have h6 := hok.size; have h7 := hok.sum; have h8 := hok.pool; have h9 := hok.vol; have h10 := hok.at_
  have hl := hok.len
  have HOK := hid hok
  have hws : IntKind.u32.wrap (c.sum : Int) = (c.sum : Int) := by rw [IntKind.wrap_u32]; omega
  have hms : ¬ (4294967295 : Int) < (c.sum : Int) := by omega
  clear H hs hsl hok
  go_enter Tryz.func26, Tryz.ntmps26
  go_upto_region 1 with fail
  try rw [hg]
  refine wp_gen (fun w1 => Sat w0 I (blk g 54 cm0 :: L) w1) H0.out ?_
  clear H0 hg
  intro w1 S
  have H1 := hid S
  clear S
  go_wp2_with fail
  refine (from_sat s H1.out hsz).mono ?_; rintro e w2 ⟨d, rfl, S2⟩
  rw [HSL.out] at S2
  obtain ⟨x, hx⟩ := S2.sizeQ
  have H2 := hid (show Sat w0 I (decr d (encU c.kind ++ (encU c.client ++ (encU c.seq ++ (encS c.name ++ (encU c.blob ++ (encU c.size ++ (encU c.sum ++ (encU c.disks.length ++ (c.disks.flatMap encU ++ (encU c.pool ++ (encU c.vol ++ (encU c.at_ ++ [])))))))))))) 0 :: blk x 54 cm0 :: blk g 54 cm0 :: L) _ from (S2.alloc (b := x) (T := 54) (cs := cm0) rfl hx.symm).swap)
  clear S2 H1
  go_upto_region 3 with fail
  try rw [hx]
  refine wp_gen (fun w1 => Sat w0 I (decr d (encU c.kind ++ (encU c.client ++ (encU c.seq ++ (encS c.name ++ (encU c.blob ++ (encU c.size ++ (encU c.sum ++ (encU c.disks.length ++ (c.disks.flatMap encU ++ (encU c.pool ++ (encU c.vol ++ (encU c.at_ ++ [])))))))))))) 0 :: blk x 54 cm0 :: blk g 54 cm0 :: L) w1) H2.out ?_
  clear H2 hx
  intro w3 S
  have H1 := hid S
  clear S
  go_wp2_with fail
  refine (decIe_sat _ c.kind (by omega) (by omega) (by omega) H1.out).mono ?_; rintro e w4 ⟨rfl, S4⟩
  have f0 := S4.swap.isBlk.frozen 0
  have c0 := S4.swap.isBlk.cell 0 (v := .int .i64 0) rfl
  have S := S4.set1 0 (.int .i64 (c.kind : Int)) rfl
  have H2 := hid S
  clear S S4 H1
  go_wp2_with fail
  clear f0 c0
  refine (decIe_sat _ c.client (by omega) (by omega) (by omega) H2.out).mono ?_; rintro e w4 ⟨rfl, S4⟩
  have f0 := S4.swap.isBlk.frozen 1
  have c0 := S4.swap.isBlk.cell 1 (v := .int .i64 0) rfl
  have H1 := hid (S4.set1 1 (.int .i64 (c.client : Int)) rfl)
  clear S4 H2
  go_wp2_with fail
  clear f0 c0
  refine (decIe_sat _ c.seq (by omega) (by omega) (by omega) H1.out).mono ?_; rintro e w4 ⟨rfl, S4⟩
  have f0 := S4.swap.isBlk.frozen 2
  have c0 := S4.swap.isBlk.cell 2 (v := .int .i64 0) rfl
  have H2 := hid (S4.set1 2 (.int .i64 (c.seq : Int)) rfl)
  clear S4 H1
  go_wp2_with fail
  clear f0 c0
  refine (decSe_sat _ c.name (by omega) (by omega) (by omega) H2.out).mono ?_; rintro e w4 ⟨rfl, S4⟩
  have f0 := S4.swap.isBlk.frozen 3
  have c0 := S4.swap.isBlk.cell 3 (v := .string ⟨#[]⟩) rfl
  have H1 := hid (S4.set1 3 (.string c.name) rfl)
  clear S4 H2
  go_wp2_with fail
  clear f0 c0
  refine (decUe_sat c.blob (by omega) H1.out).mono ?_; rintro e w4 ⟨rfl, S4⟩
  have f0 := S4.swap.isBlk.frozen 4
  have c0 := S4.swap.isBlk.cell 4 (v := .int .u64 0) rfl
  have H2 := hid (S4.set1 4 (.int .u64 (c.blob : Int)) rfl)
  clear S4 H1
  go_wp2_with fail
  clear f0 c0
  refine (decIe_sat _ c.size (by omega) (by omega) (by omega) H2.out).mono ?_; rintro e w4 ⟨rfl, S4⟩
  have f0 := S4.swap.isBlk.frozen 5
  have c0 := S4.swap.isBlk.cell 5 (v := .int .i64 0) rfl
  have H1 := hid (S4.set1 5 (.int .i64 (c.size : Int)) rfl)
  clear S4 H2
  go_wp2_with fail
  clear f0 c0
  refine (decUe_sat c.sum (by omega) H1.out).mono ?_; rintro e w4 ⟨rfl, S4⟩
  have f0 := S4.swap.isBlk.frozen 6
  have c0 := S4.swap.isBlk.cell 6 (v := .int .u32 0) rfl
  have H2 := hid (S4.set1 6 (.int .u32 (c.sum : Int)) rfl)
  clear S4 H1
  go_wp2_with fail
  clear f0 c0
  refine (decLe_sat 6 5 c.disks (by omega) (by omega) (fun n hn => by have := HOK.out.mem n hn; omega) (by omega) (by omega) H2.out).mono ?_; rintro e w4 ⟨dv, rfl, S4⟩
  obtain ⟨J, da, dc, hJ, S5, rfl, hd1, hd2, _, hrd⟩ := S4.freezeRow
  have f0 := S5.swap.isBlk.frozen 7
  have c0 := S5.swap.isBlk.cell 7 (v := .slice none 0 0) rfl
  have HJ := hid hJ
  have HRD := hid (show Rd J da (c.zs.map (Value.int .i64)) from hrd)
  have H1 := hid (S5.set1 7 (.slice da c.disks.length dc) rfl)
  clear S4 S5 H2 hrd hJ
  go_wp2_with fail
  clear f0 c0
  refine (decIe_sat _ c.pool (by omega) (by omega) (by omega) H1.out).mono ?_; rintro e w4 ⟨rfl, S4⟩
  have f0 := S4.swap.isBlk.frozen 8
  have c0 := S4.swap.isBlk.cell 8 (v := .int .i64 0) rfl
  have H2 := hid (S4.set1 8 (.int .i64 (c.pool : Int)) rfl)
  clear S4 H1
  go_wp2_with fail
  clear f0 c0
  refine (decIe_sat _ c.vol (by omega) (by omega) (by omega) H2.out).mono ?_; rintro e w4 ⟨rfl, S4⟩
  have f0 := S4.swap.isBlk.frozen 9
  have c0 := S4.swap.isBlk.cell 9 (v := .int .i64 0) rfl
  have H1 := hid (S4.set1 9 (.int .i64 (c.vol : Int)) rfl)
  clear S4 H2
  go_wp2_with fail
  clear f0 c0
  refine (decIe_sat _ c.at_ (by omega) (by omega) (by omega) H1.out).mono ?_; rintro e w4 ⟨rfl, S4⟩
  have f0 := S4.swap.isBlk.frozen 10
  have c0 := S4.swap.isBlk.cell 10 (v := .int .i64 0) rfl
  have H2 := hid (show Sat w0 J (decr d [] 0 :: blk x 54 (c.cells (.slice da c.disks.length dc)) :: blk g 54 cm0 :: L) _ from S4.set1 10 (.int .i64 (c.at_ : Int)) rfl)
  clear S4 H1
  go_upto_region 15 with fail
  clear f0 c0
  refine wp_gen (fun w1 => Sat w0 J (decr d [] 0 :: blk x 54 (c.cells (.slice da c.disks.length dc)) :: blk g 54 cm0 :: L) w1) H2.out ?_
  clear H2
  intro w5 S
  have H1 := hid S
  have k0 := S.swap.isBlk.cell 0 rfl
  have k1 := S.swap.isBlk.cell 1 rfl
  have k2 := S.swap.isBlk.cell 2 rfl
  have k3 := S.swap.isBlk.cell 3 rfl
  have k4 := S.swap.isBlk.cell 4 rfl
  have k5 := S.swap.isBlk.cell 5 rfl
  have k6 := S.swap.isBlk.cell 6 rfl
  have k7 := S.swap.isBlk.cell 7 rfl
  have k8 := S.swap.isBlk.cell 8 rfl
  have k9 := S.swap.isBlk.cell 9 rfl
  have k10 := S.swap.isBlk.cell 10 rfl
  clear S
  go_wp2_with fail
  clear k0 k1 k2 k3 k4 k5 k6 k7 k8 k9 k10
  refine (goodOk_sat c HOK.out da dc hd1 HRD.out H1.out).mono ?_; rintro e w6 ⟨rfl, S6⟩
  have H2 := hid S6
  clear S6 H1
  go_wp2_with fail
  refine (done_sat H2.out).mono ?_; rintro e w7 ⟨rfl, S7⟩
  have HC := hid (c.one (.slice da c.disks.length dc) rfl)
  have H3 := hid S7
  clear S7 H2
  go_wp2_with (first
    | (refine wpList_loadS whCmd rfl _ rfl rfl rfl (H3.out.pick 1) ?_)
    | (refine wpList_storeS whCmd rfl _ _ rfl rfl rfl rfl rfl HC.out (H3.out.pick 2) ?_; intro w8 S8))
  refine bodyPost_ret (ret_cellS Tryz.results26 whCmd _ rfl rfl rfl S8) rfl ?_
  exact ⟨J, da, dc, rfl, HJ.out, hd1, HRD.out, S8.drop.drop.drop⟩
section
variable {w0 w : World} {I : Part} {L : List HP}
/-- law 12's Told: the same cells. -/
theorem told_sat (k cl sq : Int) (nm : ByteArray) (bl sz sm po vo at_ : Int) (da : Option Addr) (n dc : Nat) (H : Sat w0 I L w) :
    Calls Tryz.prog 27 #[.agg #[.int .i64 k, .int .i64 cl, .int .i64 sq, .string nm, .int .u64 bl, .int .i64 sz, .int .u32 sm, .slice da n dc, .int .i64 po, .int .i64 vo, .int .i64 at_]] w fun e w' => e = .returned (.agg #[.int .i64 k, .int .i64 cl, .int .i64 sq, .string nm, .int .u64 bl, .int .i64 sz, .int .u32 sm, .slice da n dc, .int .i64 po, .int .i64 vo, .int .i64 at_]) ∧ Sat w0 I L w' := by
  obtain ⟨g, hg⟩ := H.sizeQ
  have H0 := hid ((H.alloc (b := g) (T := 54) (cs := [.int .i64 k, .int .i64 cl, .int .i64 sq, .string nm, .int .u64 bl, .int .i64 sz, .int .u32 sm, .slice da n dc, .int .i64 po, .int .i64 vo, .int .i64 at_]) rfl hg.symm).alloc (b := g + 1) (T := 76) (cs := cm0) rfl (by simp [hg]))
  clear H
  go_enter Tryz.func27, Tryz.ntmps27
  go_upto_region 1 with fail
  try rw [hg]
  refine wp_gen (fun w1 => Sat w0 I (blk (g + 1) 76 cm0 :: blk g 54 [.int .i64 k, .int .i64 cl, .int .i64 sq, .string nm, .int .u64 bl, .int .i64 sz, .int .u32 sm, .slice da n dc, .int .i64 po, .int .i64 vo, .int .i64 at_] :: L) w1) H0.out ?_
  clear H0 hg
  intro w1 S
  have H1 := hid S
  have k0 := S.swap.isBlk.cell 0 rfl
  have k1 := S.swap.isBlk.cell 1 rfl
  have k2 := S.swap.isBlk.cell 2 rfl
  have k3 := S.swap.isBlk.cell 3 rfl
  have k4 := S.swap.isBlk.cell 4 rfl
  have k5 := S.swap.isBlk.cell 5 rfl
  have k6 := S.swap.isBlk.cell 6 rfl
  have k7 := S.swap.isBlk.cell 7 rfl
  have k8 := S.swap.isBlk.cell 8 rfl
  have k9 := S.swap.isBlk.cell 9 rfl
  have k10 := S.swap.isBlk.cell 10 rfl
  have HC := hid (show ∀ u ∈ ([.int .i64 k, .int .i64 cl, .int .i64 sq, .string nm, .int .u64 bl, .int .i64 sz, .int .u32 sm, .slice da n dc, .int .i64 po, .int .i64 vo, .int .i64 at_] : List Value), u.oneCell' = true from by
    intro u hu
    simp only [List.mem_cons, List.not_mem_nil, or_false] at hu
    rcases hu with rfl | rfl | rfl | rfl | rfl | rfl | rfl | rfl | rfl | rfl | rfl <;> rfl)
  clear S
  go_wp2_with (refine wpList_storeS whCmr rfl _ _ rfl rfl rfl rfl rfl HC.out H1.out ?_; intro w8 S8)
  refine bodyPost_ret (ret_cell1S Tryz.results27 whCmr _ rfl rfl S8) rfl ?_
  exact ⟨rfl, S8.drop.drop⟩
end
end Go.Proofs.YtekioplbfoonkaaGreatDoor
