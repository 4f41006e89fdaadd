/- Layer 5's document: Try, torn, Flush, Seek, Erase, New: the program's own words. -/
import Derived.Test.YtecdnlmagaoccaaRow
import Derived.Test.YtecdnlmagaoccaaMeterRef
import Derived.Test.YtecdnlmagaoccaaReelPl
import Derived.Test.YtecdnlmagaoccaaElems
import Derived.Deep.CutBlock
import Derived.Deep.DeepCutAuto
namespace Go.Proofs.Ytecdnlmagaoccaa
open Go.RowKit
set_option linter.unusedVariables false
set_option maxHeartbeats 2000000
/-- a volume as the document has it: its nine cells. -/
def rvl (v : Vst) (sl : Value) : List Value := [sl, .int .i64 v.sure, .int .i64 v.at_, .int .i64 v.room, .int .i64 v.erased, .string v.label, .bool v.prot, .bool v.lost, .int .i64 (v.armed - 1)]
def rv0 : List Value := [.slice none 0 0, .int .i64 0, .int .i64 0, .int .i64 0, .int .i64 0, .string ⟨#[]⟩, .bool false, .bool false, .int .i64 0]
theorem rvl_len (v : Vst) (sl : Value) : (rvl v sl).length = 9 := rfl
theorem rvl_one (v : Vst) (a : Option Addr) (n c : Nat) : ∀ u ∈ rvl v (.slice a n c), u.oneCell' = true := by
  intro u hu; simp [rvl] at hu; rcases hu with rfl | rfl | rfl | rfl | rfl | rfl | rfl | rfl | rfl <;> rfl
theorem whV : WholeT Try.prog 56 9 := ⟨⟨_, Try.underlying56, rfl⟩, by kernel_rfl⟩
theorem whL : WholeT Try.prog 54 2 := ⟨⟨_, Try.underlying54, rfl⟩, by kernel_rfl⟩
theorem whB : WholeT Try.prog 65 3 := ⟨⟨_, Try.underlying65, rfl⟩, by kernel_rfl⟩
theorem rTry_eq (lost : Bool) (a : Int) (h : 0 ≤ a) : rTryE lost (a - 1) = tryE lost a ∧ rTryF lost (a - 1) = tryA lost a - 1 := by
  unfold rTryE tryE rTryF tryA
  cases lost
  · simp only [Bool.false_eq_true, if_false]
    constructor
    · split <;> split <;> omega
    · split <;> split <;> (try split) <;> omega
  · simp
section
variable {w0 w : World} {I : Part} {L : List HP} {v : Vst} {a : Option Addr} {n c : Nat}
theorem rtry_sat (hv : v.ok) (H : Sat w0 I L w) :
    Calls Try.prog 52 #[.agg (rvl v (.slice a n c)).toArray] w fun e w' => e = .returned (.tuple #[.agg (rvl (tryV v) (.slice a n c)).toArray, .int .i64 (tryE v.lost v.armed)]) ∧ Sat w0 I L w' := by
  obtain ⟨g, hg⟩ := H.sizeQ
  have S1 := H.alloc (b := g) (T := 56) (cs := rvl v (.slice a n c)) rfl hg.symm
  have S2 := S1.alloc (b := g + 1) (T := 56) (cs := rv0) rfl (by simp [hg])
  have H2 := hid S2
  clear S1 S2 H
  have hb := hv.armed0
  have hb2 := hv.armed
  have HE := hid (rTry_eq v.lost v.armed hv.armed0)
  go_enter Try.func52, Try.ntmps52
  go_upto_region 1 with fail
  try rw [hg]
  refine wp_gen (fun w1 => Sat w0 I (blk (g + 1) 56 rv0 :: blk g 56 (rvl v (.slice a n c)) :: L) w1) H2.out ?_
  clear H2 hg
  intro w1 S1
  have c7 := S1.swap.isBlk.cell 7 (v := .bool v.lost) rfl
  have c8 := S1.swap.isBlk.cell 8 (v := .int .i64 (v.armed - 1)) rfl
  have H1 := hid S1
  clear S1
  go_wp2_with fail
  refine (retB_sat (refTry_any _ v.lost (v.armed - 1) (by omega) (by omega)) H1.out).mono ?_; rintro e w2 ⟨rfl, S2⟩
  rw [HE.out.1, HE.out.2]
  have H2 := hid S2
  clear S2 H1 c7 c8
  obtain ⟨q, hq⟩ := H2.out.sizeQ
  have S3 := H2.out.alloc (b := q) (T := 54) (cs := [.bool v.lost, .int .i64 (tryA v.lost v.armed - 1)]) rfl hq.symm
  go_upto_region 2 with fail
  try rw [hq]
  refine wp_gen (fun w3 => Sat w0 I (blk q 54 [.bool v.lost, .int .i64 (tryA v.lost v.armed - 1)] :: blk (g + 1) 56 rv0 :: blk g 56 (rvl v (.slice a n c)) :: L) w3) S3 ?_
  clear S3 H2 hq
  intro w3 S3
  have q0 := S3.isBlk.cell 0 (v := .bool v.lost) rfl
  have q1 := S3.isBlk.cell 1 (v := .int .i64 (tryA v.lost v.armed - 1)) rfl
  have c7 := (S3.pick 2).isBlk.cell 7 (v := .bool v.lost) rfl
  have c8 := (S3.pick 2).isBlk.cell 8 (v := .int .i64 (v.armed - 1)) rfl
  have f7 := (S3.pick 2).isBlk.frozen 7
  have f8 := (S3.pick 2).isBlk.frozen 8
  have H3 := hid S3
  clear S3
  go_upto_region 3 with fail
  refine wp_gen (fun w4 => Sat w0 I (blk g 56 (rvl (tryV v) (.slice a n c)) :: blk q 54 [.bool v.lost, .int .i64 (tryA v.lost v.armed - 1)] :: blk (g + 1) 56 rv0 :: L) w4) (((H3.out.pick 2).set 7 (.bool v.lost) (cs' := rvl v (.slice a n c)) rfl).set 8 (.int .i64 (tryA v.lost v.armed - 1)) rfl) ?_
  clear H3 q0 q1 c7 c8 f7 f8
  intro w4 S4
  have H4 := hid S4
  clear S4
  go_wp2_with (first
    | (refine wpList_loadS whV rfl _ rfl rfl rfl H4.out ?_)
    | (refine wpList_storeS whV rfl _ _ rfl rfl rfl rfl rfl (rvl_one (tryV v) a n c) (H4.out.pick 2) ?_; intro w5 S5))
  refine bodyPost_ret (v := .tuple #[.agg (rvl (tryV v) (.slice a n c)).toArray, .int .i64 (tryE v.lost v.armed)]) (ret_cellS Try.results52 whV _ rfl rfl rfl S5) rfl ⟨rfl, ?_⟩
  exact S5.drop.drop.drop
/-- .. begun: the box, Try, and its volume stored. -/
theorem rflush_sat (hv : v.ok) (H : Sat w0 I L w) :
    Calls Try.prog 40 #[.agg (rvl v (.slice a v.bl.length c)).toArray] w fun e w' => e = .returned (.tuple #[.agg (rvl (flushV v) (.slice a v.bl.length c)).toArray, .int .i64 (flushE v)]) ∧ Sat w0 I L w' := by
  unfold flushV flushE
  obtain ⟨g, hg⟩ := H.sizeQ
  have S1 := H.alloc (b := g) (T := 56) (cs := rvl v (.slice a v.bl.length c)) rfl hg.symm
  have S2 := S1.alloc (b := g + 1) (T := 56) (cs := rv0) rfl (by simp [hg])
  have H2 := hid S2
  clear S1 S2 H
  have HV := hid hv
  generalize hE : tryE v.lost v.armed = E0 at *
  have HE := hid hE
  clear hE hv
  by_cases h0 : E0 = 0
  · subst h0
    rw [if_pos rfl]
    go_enter Try.func40, Try.ntmps40
    go_upto_region 1 with fail
    try rw [hg]
    refine wp_gen (fun w1 => Sat w0 I (blk (g + 1) 56 rv0 :: blk g 56 (rvl v (.slice a v.bl.length c)) :: L) w1) H2.out ?_
    clear H2 hg
    intro w1 S1
    have H1 := hid S1
    clear S1
    go_wp2_with (refine wpList_loadS whV rfl _ rfl rfl rfl H1.out.swap ?_)
    refine (rtry_sat HV.out H1.out).mono ?_; rintro e w2 ⟨rfl, S2⟩
    rw [HE.out]
    have H2 := hid S2.swap
    clear S2 H1
    go_upto_region 2 with (refine wpList_storeS whV rfl _ _ rfl rfl rfl rfl rfl (rvl_one (tryV v) a v.bl.length c) H2.out ?_; intro w3 S3)
    have H3 := hid S3
    clear S3 H2
    have c0 := H3.out.isBlk.cell 0 (v := .slice a v.bl.length c) rfl
    have c1 := H3.out.isBlk.cell 1 (v := .int .i64 v.sure) rfl
    have c2 := H3.out.isBlk.cell 2 (v := .int .i64 v.at_) rfl
    have c3 := H3.out.isBlk.cell 3 (v := .int .i64 v.room) rfl
    have c4 := H3.out.isBlk.cell 4 (v := .int .i64 v.erased) rfl
    have c5 := H3.out.isBlk.cell 5 (v := .string v.label) rfl
    have c6 := H3.out.isBlk.cell 6 (v := .bool v.prot) rfl
    have f0 := H3.out.isBlk.frozen 0
    have f1 := H3.out.isBlk.frozen 1
    have f2 := H3.out.isBlk.frozen 2
    have f4 := H3.out.isBlk.frozen 4
    have f5 := H3.out.isBlk.frozen 5
    go_upto_region 4 with fail
    refine wp_gen (fun w4 => Sat w0 I (blk g 56 (rvl {tryV v with sure := v.bl.length} (.slice a v.bl.length c)) :: blk (g + 1) 56 rv0 :: L) w4) (H3.out.set 1 _ rfl) ?_
    clear H3 c0 c1 c2 c3 c4 c5 c6 f0 f1 f2 f4 f5
    intro w4 S4
    have H4 := hid S4
    clear S4
    go_wp2_with (first
      | (refine wpList_loadS whV rfl _ rfl rfl rfl H4.out ?_)
      | (refine wpList_storeS whV rfl _ _ rfl rfl rfl rfl rfl (rvl_one {tryV v with sure := v.bl.length} a v.bl.length c) H4.out.swap ?_; intro w5 S5))
    exact bodyPost_ret (ret_cellS Try.results40 whV _ rfl rfl rfl S5) rfl ⟨rfl, S5.drop.drop⟩
  · rw [if_neg h0]
    go_enter Try.func40, Try.ntmps40
    go_upto_region 1 with fail
    try rw [hg]
    refine wp_gen (fun w1 => Sat w0 I (blk (g + 1) 56 rv0 :: blk g 56 (rvl v (.slice a v.bl.length c)) :: L) w1) H2.out ?_
    clear H2 hg
    intro w1 S1
    have H1 := hid S1
    clear S1
    go_wp2_with (refine wpList_loadS whV rfl _ rfl rfl rfl H1.out.swap ?_)
    refine (rtry_sat HV.out H1.out).mono ?_; rintro e w2 ⟨rfl, S2⟩
    rw [HE.out]
    have H2 := hid S2.swap
    clear S2 H1
    go_upto_region 2 with (refine wpList_storeS whV rfl _ _ rfl rfl rfl rfl rfl (rvl_one (tryV v) a v.bl.length c) H2.out ?_; intro w3 S3)
    have H3 := hid S3
    clear S3 H2
    go_wp2_with (first
      | (refine wpList_loadS whV rfl _ rfl rfl rfl H3.out ?_)
      | (refine wpList_storeS whV rfl _ _ rfl rfl rfl rfl rfl (rvl_one (tryV v) a v.bl.length c) H3.out.swap ?_; intro w5 S5))
    exact bodyPost_ret (ret_cellS Try.results40 whV _ rfl rfl rfl S5) rfl ⟨rfl, S5.drop.drop⟩
theorem rseek_sat (z : Int) (hv : v.ok) {E : Int} {V : Vst} (hA : seekS v z = (E, V)) (H : Sat w0 I L w) :
    Calls Try.prog 29 #[.agg (rvl v (.slice a v.bl.length c)).toArray, .int .i64 z] w fun e w' => e = .returned (.tuple #[.agg (rvl V (.slice a v.bl.length c)).toArray, .int .i64 E]) ∧ Sat w0 I L w' := by
  unfold seekS at hA
  obtain ⟨g, hg⟩ := H.sizeQ
  have S1 := H.alloc (b := g) (T := 56) (cs := rvl v (.slice a v.bl.length c)) rfl hg.symm
  have S2 := S1.alloc (b := g + 1) (T := 56) (cs := rv0) rfl (by simp [hg])
  have H2 := hid S2
  clear S1 S2 H
  have HV := hid hv
  generalize hE : tryE v.lost v.armed = E0 at *
  have HE := hid hE
  clear hE hv
  by_cases h0 : E0 = 0
  · subst h0
    rw [if_pos rfl] at hA
    by_cases h1 : z < 0
    · rw [if_pos h1] at hA
      cases hA
      go_enter Try.func29, Try.ntmps29
      go_upto_region 1 with fail
      try rw [hg]
      refine wp_gen (fun w1 => Sat w0 I (blk (g + 1) 56 rv0 :: blk g 56 (rvl v (.slice a v.bl.length c)) :: L) w1) H2.out ?_
      clear H2 hg
      intro w1 S1
      have H1 := hid S1
      clear S1
      go_wp2_with (refine wpList_loadS whV rfl _ rfl rfl rfl H1.out.swap ?_)
      refine (rtry_sat HV.out H1.out).mono ?_; rintro e w2 ⟨rfl, S2⟩
      rw [HE.out]
      have H2 := hid S2.swap
      clear S2 H1
      go_upto_region 2 with (refine wpList_storeS whV rfl _ _ rfl rfl rfl rfl rfl (rvl_one (tryV v) a v.bl.length c) H2.out ?_; intro w3 S3)
      have H3 := hid S3
      clear S3 H2
      have c0 := H3.out.isBlk.cell 0 (v := .slice a v.bl.length c) rfl
      have c1 := H3.out.isBlk.cell 1 (v := .int .i64 v.sure) rfl
      have c2 := H3.out.isBlk.cell 2 (v := .int .i64 v.at_) rfl
      have c3 := H3.out.isBlk.cell 3 (v := .int .i64 v.room) rfl
      have c4 := H3.out.isBlk.cell 4 (v := .int .i64 v.erased) rfl
      have c5 := H3.out.isBlk.cell 5 (v := .string v.label) rfl
      have c6 := H3.out.isBlk.cell 6 (v := .bool v.prot) rfl
      have f0 := H3.out.isBlk.frozen 0
      have f1 := H3.out.isBlk.frozen 1
      have f2 := H3.out.isBlk.frozen 2
      have f4 := H3.out.isBlk.frozen 4
      have f5 := H3.out.isBlk.frozen 5
      go_wp2_with (first
        | (refine wpList_loadS whV rfl _ rfl rfl rfl H3.out ?_)
        | (refine wpList_storeS whV rfl _ _ rfl rfl rfl rfl rfl (rvl_one (tryV v) a v.bl.length c) H3.out.swap ?_; intro w5 S5))
      exact bodyPost_ret (ret_cellS Try.results29 whV _ rfl rfl rfl S5) rfl ⟨rfl, S5.drop.drop⟩
    · rw [if_neg h1] at hA
      by_cases h2 : (v.bl.length : Int) < z
      · rw [if_pos h2] at hA
        cases hA
        go_enter Try.func29, Try.ntmps29
        go_upto_region 1 with fail
        try rw [hg]
        refine wp_gen (fun w1 => Sat w0 I (blk (g + 1) 56 rv0 :: blk g 56 (rvl v (.slice a v.bl.length c)) :: L) w1) H2.out ?_
        clear H2 hg
        intro w1 S1
        have H1 := hid S1
        clear S1
        go_wp2_with (refine wpList_loadS whV rfl _ rfl rfl rfl H1.out.swap ?_)
        refine (rtry_sat HV.out H1.out).mono ?_; rintro e w2 ⟨rfl, S2⟩
        rw [HE.out]
        have H2 := hid S2.swap
        clear S2 H1
        go_upto_region 2 with (refine wpList_storeS whV rfl _ _ rfl rfl rfl rfl rfl (rvl_one (tryV v) a v.bl.length c) H2.out ?_; intro w3 S3)
        have H3 := hid S3
        clear S3 H2
        have c0 := H3.out.isBlk.cell 0 (v := .slice a v.bl.length c) rfl
        have c1 := H3.out.isBlk.cell 1 (v := .int .i64 v.sure) rfl
        have c2 := H3.out.isBlk.cell 2 (v := .int .i64 v.at_) rfl
        have c3 := H3.out.isBlk.cell 3 (v := .int .i64 v.room) rfl
        have c4 := H3.out.isBlk.cell 4 (v := .int .i64 v.erased) rfl
        have c5 := H3.out.isBlk.cell 5 (v := .string v.label) rfl
        have c6 := H3.out.isBlk.cell 6 (v := .bool v.prot) rfl
        have f0 := H3.out.isBlk.frozen 0
        have f1 := H3.out.isBlk.frozen 1
        have f2 := H3.out.isBlk.frozen 2
        have f4 := H3.out.isBlk.frozen 4
        have f5 := H3.out.isBlk.frozen 5
        go_wp2_with (first
          | (refine wpList_loadS whV rfl _ rfl rfl rfl H3.out ?_)
          | (refine wpList_storeS whV rfl _ _ rfl rfl rfl rfl rfl (rvl_one (tryV v) a v.bl.length c) H3.out.swap ?_; intro w5 S5))
        exact bodyPost_ret (ret_cellS Try.results29 whV _ rfl rfl rfl S5) rfl ⟨rfl, S5.drop.drop⟩
      · rw [if_neg h2] at hA
        cases hA
        obtain ⟨k, rfl⟩ := Int.eq_ofNat_of_zero_le (by omega : 0 ≤ z)
        rw [Int.toNat_natCast]
        go_enter Try.func29, Try.ntmps29
        go_upto_region 1 with fail
        try rw [hg]
        refine wp_gen (fun w1 => Sat w0 I (blk (g + 1) 56 rv0 :: blk g 56 (rvl v (.slice a v.bl.length c)) :: L) w1) H2.out ?_
        clear H2 hg
        intro w1 S1
        have H1 := hid S1
        clear S1
        go_wp2_with (refine wpList_loadS whV rfl _ rfl rfl rfl H1.out.swap ?_)
        refine (rtry_sat HV.out H1.out).mono ?_; rintro e w2 ⟨rfl, S2⟩
        rw [HE.out]
        have H2 := hid S2.swap
        clear S2 H1
        go_upto_region 2 with (refine wpList_storeS whV rfl _ _ rfl rfl rfl rfl rfl (rvl_one (tryV v) a v.bl.length c) H2.out ?_; intro w3 S3)
        have H3 := hid S3
        clear S3 H2
        have c0 := H3.out.isBlk.cell 0 (v := .slice a v.bl.length c) rfl
        have c1 := H3.out.isBlk.cell 1 (v := .int .i64 v.sure) rfl
        have c2 := H3.out.isBlk.cell 2 (v := .int .i64 v.at_) rfl
        have c3 := H3.out.isBlk.cell 3 (v := .int .i64 v.room) rfl
        have c4 := H3.out.isBlk.cell 4 (v := .int .i64 v.erased) rfl
        have c5 := H3.out.isBlk.cell 5 (v := .string v.label) rfl
        have c6 := H3.out.isBlk.cell 6 (v := .bool v.prot) rfl
        have f0 := H3.out.isBlk.frozen 0
        have f1 := H3.out.isBlk.frozen 1
        have f2 := H3.out.isBlk.frozen 2
        have f4 := H3.out.isBlk.frozen 4
        have f5 := H3.out.isBlk.frozen 5
        go_upto_region 7 with fail
        refine wp_gen (fun w4 => Sat w0 I (blk g 56 (rvl {tryV v with at_ := k} (.slice a v.bl.length c)) :: blk (g + 1) 56 rv0 :: L) w4) (H3.out.set 2 _ rfl) ?_
        clear H3 c0 c1 c2 c3 c4 c5 c6 f0 f1 f2 f4 f5
        intro w4 S4
        have H4 := hid S4
        clear S4
        go_wp2_with (first
          | (refine wpList_loadS whV rfl _ rfl rfl rfl H4.out ?_)
          | (refine wpList_storeS whV rfl _ _ rfl rfl rfl rfl rfl (rvl_one _ _ _ _) H4.out.swap ?_; intro w5 S5))
        exact bodyPost_ret (ret_cellS Try.results29 whV _ rfl rfl rfl S5) rfl ⟨rfl, S5.drop.drop⟩
  · rw [if_neg h0] at hA
    cases hA
    go_enter Try.func29, Try.ntmps29
    go_upto_region 1 with fail
    try rw [hg]
    refine wp_gen (fun w1 => Sat w0 I (blk (g + 1) 56 rv0 :: blk g 56 (rvl v (.slice a v.bl.length c)) :: L) w1) H2.out ?_
    clear H2 hg
    intro w1 S1
    have H1 := hid S1
    clear S1
    go_wp2_with (refine wpList_loadS whV rfl _ rfl rfl rfl H1.out.swap ?_)
    refine (rtry_sat HV.out H1.out).mono ?_; rintro e w2 ⟨rfl, S2⟩
    rw [HE.out]
    have H2 := hid S2.swap
    clear S2 H1
    go_upto_region 2 with (refine wpList_storeS whV rfl _ _ rfl rfl rfl rfl rfl (rvl_one (tryV v) a v.bl.length c) H2.out ?_; intro w3 S3)
    have H3 := hid S3
    clear S3 H2
    go_wp2_with (first
      | (refine wpList_loadS whV rfl _ rfl rfl rfl H3.out ?_)
      | (refine wpList_storeS whV rfl _ _ rfl rfl rfl rfl rfl (rvl_one (tryV v) a v.bl.length c) H3.out.swap ?_; intro w5 S5))
    exact bodyPost_ret (ret_cellS Try.results29 whV _ rfl rfl rfl S5) rfl ⟨rfl, S5.drop.drop⟩
theorem rerase_sat (l : ByteArray) (hv : v.ok) {E : Int} {V : Vst} (hA : eraseS v l = (E, V)) (H : Sat w0 I L w) :
    Calls Try.prog 44 #[.agg (rvl v (.slice a v.bl.length c)).toArray, .string l] w fun e w' => (e = .returned (.tuple #[.agg (rvl V (.slice a v.bl.length c)).toArray, .int .i64 E]) ∧ V.bl = v.bl ∨ e = .returned (.tuple #[.agg (rvl V (.slice none 0 0)).toArray, .int .i64 E]) ∧ V.bl = []) ∧ Sat w0 I L w' := by
  unfold eraseS at hA
  have her := hv.erased
  have her0 := hv.erased0
  obtain ⟨g, hg⟩ := H.sizeQ
  have S1 := H.alloc (b := g) (T := 56) (cs := rvl v (.slice a v.bl.length c)) rfl hg.symm
  have S2 := S1.alloc (b := g + 1) (T := 56) (cs := rv0) rfl (by simp [hg])
  have H2 := hid S2
  clear S1 S2 H
  have HV := hid hv
  generalize hE : tryE v.lost v.armed = E0 at *
  have HE := hid hE
  clear hE hv
  by_cases h0 : E0 = 0
  · subst h0
    rw [if_pos rfl] at hA
    cases hp : v.prot
    · rw [hp, if_neg (by simp)] at hA
      cases hA
      go_enter Try.func44, Try.ntmps44
      go_upto_region 1 with fail
      try rw [hg]
      refine wp_gen (fun w1 => Sat w0 I (blk (g + 1) 56 rv0 :: blk g 56 (rvl v (.slice a v.bl.length c)) :: L) w1) H2.out ?_
      clear H2 hg
      intro w1 S1
      have H1 := hid S1
      clear S1
      go_wp2_with (refine wpList_loadS whV rfl _ rfl rfl rfl H1.out.swap ?_)
      refine (rtry_sat HV.out H1.out).mono ?_; rintro e w2 ⟨rfl, S2⟩
      rw [HE.out]
      have H2 := hid S2.swap
      clear S2 H1
      go_upto_region 2 with (refine wpList_storeS whV rfl _ _ rfl rfl rfl rfl rfl (rvl_one (tryV v) a v.bl.length c) H2.out ?_; intro w3 S3)
      have H3 := hid S3
      clear S3 H2
      have c0 := H3.out.isBlk.cell 0 (v := .slice a v.bl.length c) rfl
      have c1 := H3.out.isBlk.cell 1 (v := .int .i64 v.sure) rfl
      have c2 := H3.out.isBlk.cell 2 (v := .int .i64 v.at_) rfl
      have c3 := H3.out.isBlk.cell 3 (v := .int .i64 v.room) rfl
      have c4 := H3.out.isBlk.cell 4 (v := .int .i64 v.erased) rfl
      have c5 := H3.out.isBlk.cell 5 (v := .string v.label) rfl
      have c6 := H3.out.isBlk.cell 6 (v := .bool v.prot) rfl
      have f0 := H3.out.isBlk.frozen 0
      have f1 := H3.out.isBlk.frozen 1
      have f2 := H3.out.isBlk.frozen 2
      have f4 := H3.out.isBlk.frozen 4
      have f5 := H3.out.isBlk.frozen 5
      rw [hp] at c6
      go_upto_region 11 with fail
      refine wp_gen (fun w4 => Sat w0 I (blk g 56 (rvl {cutV (tryV v) 0 with label := l, erased := v.erased + 1} (.slice none 0 0)) :: blk (g + 1) 56 rv0 :: L) w4) (((((H3.out.set 0 (.slice none 0 0) rfl).set 1 (.int .i64 0) rfl).set 2 (.int .i64 0) rfl).set 5 (.string l) rfl).set 4 (.int .i64 (v.erased + 1)) (by simp [rvl, cutV, tryV, hp])) ?_
      clear H3 c0 c1 c2 c3 c4 c5 c6 f0 f1 f2 f4 f5
      intro w4 S4
      have H4 := hid S4
      clear S4
      go_wp2_with (first
        | (refine wpList_loadS whV rfl _ rfl rfl rfl H4.out ?_)
        | (refine wpList_storeS whV rfl _ _ rfl rfl rfl rfl rfl (rvl_one _ _ _ _) H4.out.swap ?_; intro w5 S5))
      exact bodyPost_ret (ret_cellS Try.results44 whV _ rfl rfl rfl S5) rfl ⟨Or.inr ⟨rfl, rfl⟩, S5.drop.drop⟩
    · rw [hp, if_pos rfl] at hA
      cases hA
      go_enter Try.func44, Try.ntmps44
      go_upto_region 1 with fail
      try rw [hg]
      refine wp_gen (fun w1 => Sat w0 I (blk (g + 1) 56 rv0 :: blk g 56 (rvl v (.slice a v.bl.length c)) :: L) w1) H2.out ?_
      clear H2 hg
      intro w1 S1
      have H1 := hid S1
      clear S1
      go_wp2_with (refine wpList_loadS whV rfl _ rfl rfl rfl H1.out.swap ?_)
      refine (rtry_sat HV.out H1.out).mono ?_; rintro e w2 ⟨rfl, S2⟩
      rw [HE.out]
      have H2 := hid S2.swap
      clear S2 H1
      go_upto_region 2 with (refine wpList_storeS whV rfl _ _ rfl rfl rfl rfl rfl (rvl_one (tryV v) a v.bl.length c) H2.out ?_; intro w3 S3)
      have H3 := hid S3
      clear S3 H2
      have c0 := H3.out.isBlk.cell 0 (v := .slice a v.bl.length c) rfl
      have c1 := H3.out.isBlk.cell 1 (v := .int .i64 v.sure) rfl
      have c2 := H3.out.isBlk.cell 2 (v := .int .i64 v.at_) rfl
      have c3 := H3.out.isBlk.cell 3 (v := .int .i64 v.room) rfl
      have c4 := H3.out.isBlk.cell 4 (v := .int .i64 v.erased) rfl
      have c5 := H3.out.isBlk.cell 5 (v := .string v.label) rfl
      have c6 := H3.out.isBlk.cell 6 (v := .bool v.prot) rfl
      have f0 := H3.out.isBlk.frozen 0
      have f1 := H3.out.isBlk.frozen 1
      have f2 := H3.out.isBlk.frozen 2
      have f4 := H3.out.isBlk.frozen 4
      have f5 := H3.out.isBlk.frozen 5
      rw [hp] at c6
      go_wp2_with (first
        | (refine wpList_loadS whV rfl _ rfl rfl rfl H3.out ?_)
        | (refine wpList_storeS whV rfl _ _ rfl rfl rfl rfl rfl (rvl_one (tryV v) a v.bl.length c) H3.out.swap ?_; intro w5 S5))
      exact bodyPost_ret (ret_cellS Try.results44 whV _ rfl rfl rfl S5) rfl ⟨Or.inl ⟨rfl, rfl⟩, S5.drop.drop⟩
  · rw [if_neg h0] at hA
    cases hA
    go_enter Try.func44, Try.ntmps44
    go_upto_region 1 with fail
    try rw [hg]
    refine wp_gen (fun w1 => Sat w0 I (blk (g + 1) 56 rv0 :: blk g 56 (rvl v (.slice a v.bl.length c)) :: L) w1) H2.out ?_
    clear H2 hg
    intro w1 S1
    have H1 := hid S1
    clear S1
    go_wp2_with (refine wpList_loadS whV rfl _ rfl rfl rfl H1.out.swap ?_)
    refine (rtry_sat HV.out H1.out).mono ?_; rintro e w2 ⟨rfl, S2⟩
    rw [HE.out]
    have H2 := hid S2.swap
    clear S2 H1
    go_upto_region 2 with (refine wpList_storeS whV rfl _ _ rfl rfl rfl rfl rfl (rvl_one (tryV v) a v.bl.length c) H2.out ?_; intro w3 S3)
    have H3 := hid S3
    clear S3 H2
    go_wp2_with (first
      | (refine wpList_loadS whV rfl _ rfl rfl rfl H3.out ?_)
      | (refine wpList_storeS whV rfl _ _ rfl rfl rfl rfl rfl (rvl_one (tryV v) a v.bl.length c) H3.out.swap ?_; intro w5 S5))
    exact bodyPost_ret (ret_cellS Try.results44 whV _ rfl rfl rfl S5) rfl ⟨Or.inl ⟨rfl, rfl⟩, S5.drop.drop⟩
end
end Go.Proofs.Ytecdnlmagaoccaa
