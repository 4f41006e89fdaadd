/- Frames are opened as that; awake of layer 2's laws. -/
import Derived.Test.YtekioplbfoonkaaGreatDoorSealO
namespace Go.Proofs.YtekioplbfoonkaaGreatDoor
open Go.RowKit
set_option linter.unusedVariables false
set_option maxRecDepth 100000
theorem openR_frame (c t : List UInt8) (h : c.length ≤ 1048576) : openR (frameL c ++ t) = (c, c.length + 8, 0) := by
  have e : frameL c ++ t = be4 c.length ++ (be4 (crc (be4 c.length ++ c)) ++ (c ++ t)) := by simp [frameL]
  have h4 : (frameL c ++ t).take 4 = be4 c.length := by rw [e, List.take_append_of_le_length (by rw [be4_len]; omega)]; rfl
  have hd4 : (frameL c ++ t).drop 4 = be4 (crc (be4 c.length ++ c)) ++ (c ++ t) := by rw [e, List.drop_append_of_le_length (by rw [be4_len]; omega)]; rfl
  have hd8 : (frameL c ++ t).drop 8 = c ++ t := by
    have : (frameL c ++ t).drop 8 = ((frameL c ++ t).drop 4).drop 4 := by rw [List.drop_drop]
    rw [this, hd4, List.drop_append_of_le_length (by rw [be4_len]; omega)]; rfl
  have hl : (frameL c ++ t).length = c.length + 8 + t.length := by rw [List.length_append, frameL_len]
  have hv : valS (be4 c.length) = c.length := valS_be4 _ (by omega)
  unfold openR
  rw [h4, hv, hd8, hd4, hl, if_neg (by omega), if_neg (by omega), if_neg (by omega)]
  have h5 : (be4 (crc (be4 c.length ++ c)) ++ (c ++ t)).take 4 = be4 (crc (be4 c.length ++ c)) := by rw [List.take_append_of_le_length (by rw [be4_len]; omega)]; rfl
  have h6 : (c ++ t).take c.length = c := by rw [List.take_append_of_le_length (Nat.le_refl _), List.take_length]
  rw [h5, h6, valS_be4 _ (crc_lt _), if_pos rfl, Nat.add_comm]
theorem openR_frame0 (c : List UInt8) (h : c.length ≤ 1048576) : openR (frameL c) = (c, c.length + 8, 0) := by
  have := openR_frame c [] h
  rwa [List.append_nil] at this
theorem onlyR_frame (c : List UInt8) (h : c.length ≤ 1048576) : onlyR (frameL c) = (c, 0) := by
  unfold onlyR
  rw [openR_frame0 c h, frameL_len]
  simp
theorem onlyR_tail (c t : List UInt8) (h : c.length ≤ 1048576) (ht : 0 < t.length) : onlyR (frameL c ++ t) = ([], 3) := by
  unfold onlyR
  rw [openR_frame c t h, List.length_append, frameL_len]
  show (if (0 : Int) = 0 then (if c.length + 8 < c.length + 8 + t.length then _ else _) else _) = _
  rw [if_pos rfl, if_pos (by omega)]
theorem crc9 : crcS [⟨#[49, 50, 51, 52, 53, 54, 55, 56, 57]⟩] = 3421780262 := by decide +kernel
theorem crc3 : crcS [⟨#[49, 50, 51, 52]⟩, ⟨#[]⟩, ⟨#[53, 54, 55, 56, 57]⟩] = 3421780262 := by decide +kernel
theorem sum_eq {w0 w : World} {I : Part} {L : List HP} (hT : Rd I (some ⟨0, 0, none⟩) tabV) (la : Option Addr) (n cap : Nat) (ss : List ByteArray) (hn : ss.length = n) (hr : Rd I la (ss.map Value.string)) (hcap : n ≤ cap) (hcm : cap ≤ 9223372036854775807) (hsz : ∀ s ∈ ss, s.size ≤ 9223372036854775806) {V : Nat} (hV : crcS ss = V) (H : Sat w0 I L w) :
    Calls Tryz.prog 36 #[.slice la n cap] w fun e w' => e = .returned (.int .u32 (V : Int)) ∧ Sat w0 I L w' := by
  subst hV
  exact (sum_any hT la n cap ss hn hr hcap hcm hsz H).mono fun e w' ⟨h1, h2⟩ => ⟨h1, by subst h2; exact H⟩
end Go.Proofs.YtekioplbfoonkaaGreatDoor
