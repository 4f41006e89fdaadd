/- awake of layer 5's laws. -/
import Derived.Test.YtecdnlmagaoccaaReelF
namespace Go.Proofs.Ytecdnlmagaoccaa
open Go.RowKit
set_option linter.unusedVariables false
def kAb : Bk := ⟨⟨#[97, 98]⟩, false, false⟩
def kCd : Bk := ⟨⟨#[99, 100]⟩, false, false⟩
def kC : Bk := ⟨⟨#[99]⟩, false, true⟩
def kEf : Bk := ⟨⟨#[101, 102]⟩, false, false⟩
def aw0 : Vst := ⟨100, false, 0, ⟨#[]⟩, [], 0, 0, 0, false⟩
def aw1 : Vst := ⟨100, false, 0, ⟨#[]⟩, [kAb], 0, 1, 0, false⟩
def aw2 : Vst := ⟨100, false, 0, ⟨#[]⟩, [kAb], 1, 1, 0, false⟩
def aw3 : Vst := ⟨100, false, 0, ⟨#[]⟩, [kAb, kCd], 1, 2, 0, false⟩
def aw4 : Vst := ⟨100, false, 0, ⟨#[]⟩, [kAb, kC], 2, 0, 0, false⟩
def aw5 : Vst := ⟨100, false, 0, ⟨#[]⟩, [kAb, kC], 2, 2, 0, false⟩
def aw6 : Vst := ⟨100, false, 0, ⟨#[]⟩, [kAb], 1, 1, 0, false⟩
def aw7 : Vst := ⟨100, false, 0, ⟨#[]⟩, [kAb, kEf], 1, 2, 0, false⟩
theorem aw0_ok : aw0.ok := by constructor <;> decide
theorem aw1_ok : aw1.ok := by constructor <;> decide
theorem aw2_ok : aw2.ok := by constructor <;> decide
theorem aw3_ok : aw3.ok := by constructor <;> decide
theorem aw4_ok : aw4.ok := by constructor <;> decide
theorem aw5_ok : aw5.ok := by constructor <;> decide
theorem aw6_ok : aw6.ok := by constructor <;> decide
theorem aw01 : addS aw0 ⟨⟨#[97, 98]⟩, false, false⟩ = (0, aw1) := rfl
theorem aw12e : flushE aw1 = 0 := rfl
theorem aw12v : flushV aw1 = aw2 := rfl
theorem aw23 : addS aw2 ⟨⟨#[99, 100]⟩, false, false⟩ = (0, aw3) := rfl
theorem aw34 : crashV aw3 [0, 1] = aw4 := rfl
theorem aw45 : seekS aw4 2 = (0, aw5) := rfl
theorem aw55 : addS aw5 ⟨⟨#[101, 102]⟩, false, false⟩ = (16, aw5) := rfl
theorem aw56 : trimS aw5 = (0, aw6) := rfl
theorem aw67 : addS aw6 ⟨⟨#[101, 102]⟩, false, false⟩ = (0, aw7) := rfl

set_option maxRecDepth 100000 in
set_option maxHeartbeats 2000000 in
theorem rawake_any (w : World) : Calls Try.prog 9 #[] w (RetB (.bool true) w.heap.size w) := by
  have H0 := hid (Sat.start w)
  go_enter Try.func9, Try.ntmps9
  go_wp2_with fail
  refine (vnew_eq 100 (R := 100) (by decide) H0.out).mono ?_; rintro e w1 ⟨p, rfl, S1⟩
  have H1 := hid (show Sat w (wpart w) (volp p aw0 :: []) w1 from S1)
  clear S1
  go_wp2_with fail
  refine (vwrite ⟨#[97, 98]⟩ aw0_ok (by decide) (by decide) aw01 H1.out).mono ?_; rintro e w2 ⟨rfl, S2⟩
  have H2 := hid S2
  clear S2
  go_wp2_with fail
  refine (vflush_eq aw1_ok aw12e aw12v H2.out).mono ?_; rintro e w3 ⟨rfl, S3⟩
  have H3 := hid S3
  clear S3
  go_wp2_with fail
  refine (vwrite ⟨#[99, 100]⟩ aw2_ok (by decide) (by decide) aw23 H3.out).mono ?_; rintro e w4 ⟨rfl, S4⟩
  have H4 := hid S4
  clear S4
  go_wp2_with fail
  obtain ⟨g, hg⟩ : ∃ g, w4.heap.size = g := ⟨_, rfl⟩
  have S5 : Sat w (wpart w) (blk g 3 [.int .i64 0, .int .i64 1] :: volp p aw3 :: []) _ := H4.out.alloc rfl hg.symm
  rw [hg]
  clear hg
  obtain ⟨J, hJ, S6, hrd⟩ := S5.freezeBlk
  have H6 := hid S6
  clear S5 S6
  refine (vcrash (some ⟨g, 0, none⟩) 2 2 [0, 1] rfl (by decide) hrd (by decide) aw3_ok aw34 H6.out).mono ?_; rintro e w7 ⟨rfl, S7⟩
  have H7 := hid S7
  clear S7
  go_wp2_with fail
  refine (vlen_eq (N := 2) rfl H7.out).mono ?_; rintro e w8 ⟨rfl, S8⟩
  have H8 := hid S8
  clear S8
  go_wp2_with fail
  refine (vseek 2 aw4_ok aw45 H8.out).mono ?_; rintro e w9 ⟨rfl, S9⟩
  have H9 := hid S9
  clear S9
  go_wp2_with fail
  refine (vwrite ⟨#[101, 102]⟩ aw5_ok (by decide) (by decide) aw55 H9.out).mono ?_; rintro e w10 ⟨rfl, S10⟩
  have H10 := hid S10
  clear S10
  go_wp2_with fail
  refine (vtrim aw5_ok aw56 H10.out).mono ?_; rintro e w11 ⟨rfl, S11⟩
  have H11 := hid S11
  clear S11
  go_wp2_with fail
  refine (vwrite ⟨#[101, 102]⟩ aw6_ok (by decide) (by decide) aw67 H11.out).mono ?_; rintro e w12 ⟨rfl, S12⟩
  have H12 := hid S12
  clear S12
  go_wp2_with fail
  refine (vused_eq (N := 12) rfl H12.out).mono ?_; rintro e w13 ⟨rfl, S13⟩
  have H13 := hid S13
  clear S13
  go_wp2_with fail
  go_ret
  exact ⟨rfl, H13.out.toBelow hJ⟩
theorem rawake_sat {w0 w : World} {I : Part} {L : List HP} (H : Sat w0 I L w) :
    Calls Try.prog 9 #[] w fun e w' => e = .returned (.bool true) ∧ Sat w0 I L w' := retB_sat (rawake_any w) H
end Go.Proofs.Ytecdnlmagaoccaa
