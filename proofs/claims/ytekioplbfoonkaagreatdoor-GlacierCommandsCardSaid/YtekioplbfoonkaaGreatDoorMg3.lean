/- Volumes: contracts with the results named. Volumes on which nothing fails: what each call does, as plain laws. -/
import Derived.Test.YtekioplbfoonkaaGreatDoorReelE
import Derived.Test.YtekioplbfoonkaaGreatDoorMg1
namespace Go.Proofs.YtekioplbfoonkaaGreatDoor
open Go.RowKit
set_option linter.unusedVariables false
set_option maxRecDepth 100000
section
variable {w0 w : World} {I : Part} {L : List HP} {p : Nat} {v : Vst}
theorem vnew_eq (r : Int) {R : Int} (hR : max r 0 = R) (H : Sat w0 I L w) :
    Calls Tryz.prog 39 #[.int .i64 r] w fun e w' => ∃ p, e = .returned (.pointer (some ⟨p, 0, none⟩)) ∧ Sat w0 I (volp p ⟨R, false, 0, ⟨#[]⟩, [], 0, 0, 0, false⟩ :: L) w' := hR ▸ vnew r H
theorem vlen_eq {N : Int} (hN : (v.bl.length : Int) = N) (H : Sat w0 I (volp p v :: L) w) :
    Calls Tryz.prog 90 #[.pointer (some ⟨p, 0, none⟩)] w fun e w' => e = .returned (.int .i64 N) ∧ Sat w0 I (volp p v :: L) w' := hN ▸ vlen H
theorem vat_eq {N : Int} (hN : (v.at_ : Int) = N) (H : Sat w0 I (volp p v :: L) w) :
    Calls Tryz.prog 16 #[.pointer (some ⟨p, 0, none⟩)] w fun e w' => e = .returned (.int .i64 N) ∧ Sat w0 I (volp p v :: L) w' := hN ▸ vat H
theorem vused_eq {N : Int} (hN : ((wsum v.bl : Nat) : Int) = N) (H : Sat w0 I (volp p v :: L) w) :
    Calls Tryz.prog 140 #[.pointer (some ⟨p, 0, none⟩)] w fun e w' => e = .returned (.int .i64 N) ∧ Sat w0 I (volp p v :: L) w' := hN ▸ vused H
theorem vflush_eq {E : Int} {V : Vst} (hv : v.ok) (hE : flushE v = E) (hV : flushV v = V) (H : Sat w0 I (volp p v :: L) w) :
    Calls Tryz.prog 98 #[.pointer (some ⟨p, 0, none⟩)] w fun e w' => e = .returned (.int .i64 E) ∧ Sat w0 I (volp p V :: L) w' := hE ▸ hV ▸ vflush hv H
end
end Go.Proofs.YtekioplbfoonkaaGreatDoor
namespace Go.Proofs.YtekioplbfoonkaaGreatDoor
set_option linter.unusedVariables false
set_option maxRecDepth 100000
/-- a volume on which nothing fails. -/
def pv (room : Int) (bl : List Bk) (sure at_ : Nat) : Vst := ⟨room, false, 0, ⟨#[]⟩, bl, sure, at_, 0, false⟩
theorem pv_ok {room : Int} {bl : List Bk} {sure at_ : Nat} (h0 : 0 ≤ room) (h1 : room ≤ 9223372036854775807) (h2 : (wsum bl : Int) ≤ room) (h3 : sure ≤ bl.length) (h4 : at_ ≤ bl.length) (h5 : bl.length ≤ 1048576) : (pv room bl sure at_).ok :=
  ⟨h0, h1, h2, by simp [pv], by simp [pv], h3, h4, h5, by simp [pv], by simp [pv]⟩
theorem pv_try (room : Int) (bl : List Bk) (sure at_ : Nat) : tryV (pv room bl sure at_) = pv room bl sure at_ := rfl
theorem pv_add {room : Int} {bl : List Bk} {sure at_ : Nat} (b : Bk) (h : at_ = bl.length) (ht : tornL bl = false) (hf : (bwt b : Int) ≤ room - wsum bl) : addS (pv room bl sure at_) b = (0, pv room (bl ++ [b]) sure (bl.length + 1)) := by
  simp [addS, pv, tryV, tryE, tryA, h, ht, hf]
theorem pv_full {room : Int} {bl : List Bk} {sure at_ : Nat} (b : Bk) (h : at_ = bl.length) (ht : tornL bl = false) (hf : ¬ (bwt b : Int) ≤ room - wsum bl) : addS (pv room bl sure at_) b = (7, pv room bl sure at_) := by
  simp [addS, pv, tryV, tryE, tryA, h, ht]
  omega
theorem pv_order {room : Int} {bl : List Bk} {sure at_ : Nat} (b : Bk) (h : ¬ at_ = bl.length) : addS (pv room bl sure at_) b = (16, pv room bl sure at_) := by
  simp [addS, pv, tryV, tryE, tryA, h]
theorem tornL_app (bl : List Bk) (b : Bk) : tornL (bl ++ [b]) = b.torn := by simp [tornL]
theorem pv_flushE (room : Int) (bl : List Bk) (sure at_ : Nat) : flushE (pv room bl sure at_) = 0 := rfl
theorem pv_flushV (room : Int) (bl : List Bk) (sure at_ : Nat) : flushV (pv room bl sure at_) = pv room bl bl.length at_ := rfl
theorem pv_seek {room : Int} {bl : List Bk} {sure at_ : Nat} (n : Nat) (h : n ≤ bl.length) : seekS (pv room bl sure at_) (n : Int) = (0, pv room bl sure n) := by
  have h1 : ¬ (n : Int) < 0 := by omega
  have h2 : ¬ bl.length < n := by omega
  simp [seekS, pv, tryV, tryE, tryA, h1, h2]
theorem pv_seekNo {room : Int} {bl : List Bk} {sure at_ : Nat} (n : Int) (h : n < 0 ∨ (bl.length : Int) < n) : seekS (pv room bl sure at_) n = (1, pv room bl sure at_) := by
  by_cases h1 : n < 0
  · simp [seekS, pv, tryV, tryE, tryA, h1]
  · have h2 : (bl.length : Int) < n := by omega
    simp [seekS, pv, tryV, tryE, tryA, h1, h2]
end Go.Proofs.YtekioplbfoonkaaGreatDoor
