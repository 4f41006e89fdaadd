/- Frames are opened as that; awake of layer 2's laws. -/
import Derived.Test.YtgnoojphbnfjbaaDoorSealO
namespace Go.Proofs.YtgnoojphbnfjbaaDoor
open Go.RowKit
set_option linter.unusedVariables false
set_option maxRecDepth 100000
theorem openR_frame (c t : List UInt8) (h : c.length ≤ 1048576) : openR (frameL c ++ t) = (c, c.length + 8, 0) := by
  have e : frameL c ++ t = be4 c.length ++ (be4 (crc (be4 c.length ++ c)) ++ (c ++ t)) := by simp [frameL]
  have h4 : (frameL c ++ t).take 4 = be4 c.length := by rw [e, List.take_append_of_le_length (by rw [be4_len]; omega)]; rfl
  have hd4 : (frameL c ++ t).drop 4 = be4 (crc (be4 c.length ++ c)) ++ (c ++ t) := by rw [e, List.drop_append_of_le_length (by rw [be4_len]; omega)]; rfl
  have hd8 : (frameL c ++ t).drop 8 = c ++ t := by
    have : (frameL c ++ t).drop 8 = ((frameL c ++ t).drop 4).drop 4 := by rw [List.drop_drop]
    rw [this, hd4, List.drop_append_of_le_length (by rw [be4_len]; omega)]; rfl
  have hl : (frameL c ++ t).length = c.length + 8 + t.length := by rw [List.length_append, frameL_len]
  have hv : valS (be4 c.length) = c.length := valS_be4 _ (by omega)
  unfold openR
  rw [h4, hv, hd8, hd4, hl, if_neg (by omega), if_neg (by omega), if_neg (by omega)]
  have h5 : (be4 (crc (be4 c.length ++ c)) ++ (c ++ t)).take 4 = be4 (crc (be4 c.length ++ c)) := by rw [List.take_append_of_le_length (by rw [be4_len]; omega)]; rfl
  have h6 : (c ++ t).take c.length = c := by rw [List.take_append_of_le_length (Nat.le_refl _), List.take_length]
  rw [h5, h6, valS_be4 _ (crc_lt _), if_pos rfl, Nat.add_comm]
theorem openR_frame0 (c : List UInt8) (h : c.length ≤ 1048576) : openR (frameL c) = (c, c.length + 8, 0) := by
  have := openR_frame c [] h
  rwa [List.append_nil] at this
theorem onlyR_frame (c : List UInt8) (h : c.length ≤ 1048576) : onlyR (frameL c) = (c, 0) := by
  unfold onlyR
  rw [openR_frame0 c h, frameL_len]
  simp
theorem onlyR_tail (c t : List UInt8) (h : c.length ≤ 1048576) (ht : 0 < t.length) : onlyR (frameL c ++ t) = ([], 3) := by
  unfold onlyR
  rw [openR_frame c t h, List.length_append, frameL_len]
  show (if (0 : Int) = 0 then (if c.length + 8 < c.length + 8 + t.length then _ else _) else _) = _
  rw [if_pos rfl, if_pos (by omega)]
theorem crc9 : crcS [⟨#[49, 50, 51, 52, 53, 54, 55, 56, 57]⟩] = 3421780262 := by decide +kernel
theorem crc3 : crcS [⟨#[49, 50, 51, 52]⟩, ⟨#[]⟩, ⟨#[53, 54, 55, 56, 57]⟩] = 3421780262 := by decide +kernel
theorem sum_eq {w0 w : World} {I : Part} {L : List HP} (hT : Rd I (some ⟨0, 0, none⟩) tabV) (la : Option Addr) (n cap : Nat) (ss : List ByteArray) (hn : ss.length = n) (hr : Rd I la (ss.map Value.string)) (hcap : n ≤ cap) (hcm : cap ≤ 9223372036854775807) (hsz : ∀ s ∈ ss, s.size ≤ 9223372036854775806) {V : Nat} (hV : crcS ss = V) (H : Sat w0 I L w) :
    Calls Tryd.prog 10 #[.slice la n cap] w fun e w' => e = .returned (.int .u32 (V : Int)) ∧ Sat w0 I L w' := by
  subst hV
  exact (sum_any hT la n cap ss hn hr hcap hcm hsz H).mono fun e w' ⟨h1, h2⟩ => ⟨h1, by subst h2; exact H⟩
set_option maxRecDepth 100000 in
set_option maxHeartbeats 1000000 in
theorem sawake_any (w : World) (hT : Rd (wpart w) (some ⟨0, 0, none⟩) tabV) : Calls Tryd.prog 11 #[] w (RetB (.bool true) w.heap.size w) := by
  have H0 := hid (Sat.start w)
  have HT := hid hT
  clear hT
  go_enter Tryd.func11, Tryd.ntmps11
  go_wp2_with fail
  obtain ⟨g, hg⟩ := H0.out.sizeEx
  have S1 : Sat w (wpart w) (blk g 9 [.string ⟨#[97]⟩] :: []) _ := H0.out.alloc rfl hg.symm
  rw [hg]
  clear hg
  obtain ⟨J, hJ, S2, hrd⟩ := S1.freezeBlk
  have H2 := hid S2
  have HRD := hid (show Rd J (some ⟨g, 0, none⟩) ([⟨#[97]⟩].map Value.string) from hrd)
  have HTJ := hid (HT.out.mono hJ)
  clear S1 S2 hrd H0 HT
  refine (frame_sat HTJ.out (some ⟨g, 0, none⟩) 1 1 [⟨#[97]⟩] rfl HRD.out (by omega) (by omega) (by omega) (by omega) (C := [97]) rfl (by decide) H2.out).mono ?_; rintro e w3 ⟨rfl, S3⟩
  have H3 := hid S3
  clear S3 H2
  obtain ⟨f, hf⟩ : ∃ f : ByteArray, (⟨(frameL [97]).toArray⟩ : ByteArray) = f := ⟨_, rfl⟩
  have hfl : openR f.data.toList = ([97], 9, 0) := by rw [← hf]; exact openR_frame0 [97] (by decide)
  have hfs : f.size ≤ 9223372036854775807 := by rw [← hf]; decide +kernel
  rw [hf]
  have HFL := hid hfl
  clear hf hfl
  go_wp2_with fail
  refine (open_sat HTJ.out f hfs HFL.out H3.out).mono ?_; rintro e w4 ⟨rfl, S4⟩
  have H4 := hid S4
  clear S4 H3 hfs
  go_wp2_with fail
  obtain ⟨g2, hg2⟩ := H4.out.sizeEx
  have S5 : Sat w J (blk g2 9 [.string ⟨#[49, 50, 51, 52, 53, 54, 55, 56, 57]⟩] :: []) _ := H4.out.alloc rfl hg2.symm
  rw [hg2]
  clear hg2
  obtain ⟨J2, hJ2, S6, hrd2⟩ := S5.freezeBlk
  have H6 := hid S6
  have HRD2 := hid (show Rd J2 (some ⟨g2, 0, none⟩) ([⟨#[49, 50, 51, 52, 53, 54, 55, 56, 57]⟩].map Value.string) from hrd2)
  have HTJ2 := hid (HTJ.out.mono hJ2)
  clear S5 S6 hrd2 H4
  refine (sum_eq HTJ2.out (some ⟨g2, 0, none⟩) 1 1 [⟨#[49, 50, 51, 52, 53, 54, 55, 56, 57]⟩] rfl HRD2.out (by omega) (by omega) (by decide) crc9 H6.out).mono ?_; rintro e w7 ⟨rfl, S7⟩
  have H7 := hid S7
  clear S7 H6
  go_wp2_with fail
  obtain ⟨g3, hg3⟩ := H7.out.sizeEx
  have S8 : Sat w J2 (blk g3 9 [.string ⟨#[49, 50, 51, 52]⟩, .string ⟨#[]⟩, .string ⟨#[53, 54, 55, 56, 57]⟩] :: []) _ := H7.out.alloc rfl hg3.symm
  rw [hg3]
  clear hg3
  obtain ⟨J3, hJ3, S9, hrd3⟩ := S8.freezeBlk
  have H9 := hid S9
  have HRD3 := hid (show Rd J3 (some ⟨g3, 0, none⟩) ([⟨#[49, 50, 51, 52]⟩, ⟨#[]⟩, ⟨#[53, 54, 55, 56, 57]⟩].map Value.string) from hrd3)
  have HTJ3 := hid (HTJ2.out.mono hJ3)
  clear S8 S9 hrd3 H7
  refine (sum_eq HTJ3.out (some ⟨g3, 0, none⟩) 3 3 [⟨#[49, 50, 51, 52]⟩, ⟨#[]⟩, ⟨#[53, 54, 55, 56, 57]⟩] rfl HRD3.out (by omega) (by omega) (by decide) crc3 H9.out).mono ?_; rintro e w10 ⟨rfl, S10⟩
  have H10 := hid S10
  clear S10 H9
  go_wp2_with fail
  go_ret
  exact ⟨rfl, H10.out.toBelow (Part.le_trans hJ (Part.le_trans hJ2 hJ3))⟩
theorem sawake_sat {w0 w : World} {I : Part} {L : List HP} (hT : Rd I (some ⟨0, 0, none⟩) tabV) (H : Sat w0 I L w) :
    Calls Tryd.prog 11 #[] w fun e w' => e = .returned (.bool true) ∧ Sat w0 I L w' := retB_sat (sawake_any w (hT.mono H.imm)) H
end Go.Proofs.YtgnoojphbnfjbaaDoor
