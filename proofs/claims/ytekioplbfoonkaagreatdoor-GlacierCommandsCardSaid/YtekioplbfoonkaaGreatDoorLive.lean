/- The top's live: answers that the document fixes. -/
import Derived.Test.YtekioplbfoonkaaGreatDoorName
import Derived.Test.YtekioplbfoonkaaGreatDoorSealA
import Derived.Test.YtekioplbfoonkaaGreatDoorMg4
import Derived.Test.YtekioplbfoonkaaGreatDoorTpA
namespace Go.Proofs.YtekioplbfoonkaaGreatDoor
open Go.RowKit
set_option linter.unusedVariables false
set_option maxRecDepth 100000
set_option maxHeartbeats 2000000
theorem live_sat {w0 w : World} {I : Part} {L : List HP} (hT : Rd I (some ⟨0, 0, none⟩) tabV) (H : Sat w0 I L w) :
    Calls Tryz.prog 6 #[] w fun e w' => e = .returned (.bool true) ∧ Sat w0 I L w' := by
  obtain ⟨g, hg⟩ := H.sizeEx
  have S1 := H.encNew (b := g) hg.symm
  have H1 := hid S1
  have HT := hid hT
  clear S1 hT H
  go_enter Tryz.func6, Tryz.ntmps6
  go_wp2_with fail
  refine (encU1_sat 34 300 (g := g + 1) (by simp [hg]) H1.out (by omega) (by simp)).mono ?_; rintro e w2 ⟨rfl, S2⟩
  have hb : ([] : List UInt8) ++ encU (300 : Int).toNat = [130, 44] := by decide +kernel
  rw [hb] at S2
  have H2 := hid S2
  clear S2 H1 hg hb
  go_wp2_with fail
  refine (bytes_sat H2.out).mono ?_; rintro e w3 ⟨rfl, S3⟩
  obtain ⟨q, hq⟩ := S3.sizeEx
  obtain ⟨J, hJ, S4, hrd⟩ := ((S3.drop).alloc (b := q) (T := 9) (cs := [.string ⟨#[49, 50, 51, 52, 53, 54, 55, 56, 57]⟩]) rfl hq.symm).freezeBlk
  have HJ := hid hJ
  have HR := hid (show Rd J (some ⟨q, 0, none⟩) ([⟨#[49, 50, 51, 52, 53, 54, 55, 56, 57]⟩].map Value.string) from hrd)
  have H4 := hid S4
  clear S3 S4 hrd hJ H2
  go_wp2_with fail
  try rw [hq]
  refine (sum_eq (HT.out.mono HJ.out) (some ⟨q, 0, none⟩) 1 1 [⟨#[49, 50, 51, 52, 53, 54, 55, 56, 57]⟩] rfl HR.out (by omega) (by omega) (by intro s hs; simp at hs; subst hs; decide) crc9 H4.out).mono ?_; rintro e w5 ⟨rfl, S5⟩
  have H5 := hid S5
  clear S5 H4 hq
  go_wp2_with fail
  refine (parts_sat 401 (by omega) (N := 3) (by rfl) H5.out).mono ?_; rintro e w6 ⟨rfl, S6⟩
  have H6 := hid S6
  clear S6 H5
  go_wp2_with fail
  refine (name1 _).mono ?_; rintro e w7 ⟨rfl, n7, rfl⟩
  have H7 := hid (H6.out.drewN n7)
  clear H6
  go_wp2_with fail
  go_ret
  exact ⟨rfl, H7.out.thaw HJ.out⟩
end Go.Proofs.YtekioplbfoonkaaGreatDoor
