/- Volumes: contracts with the results named. -/
import Derived.Test.YtecdnlmagaoccaaReelE
namespace Go.Proofs.Ytecdnlmagaoccaa
open Go.RowKit
set_option linter.unusedVariables false
section
variable {w0 w : World} {I : Part} {L : List HP} {p : Nat} {v : Vst}
theorem vnew_eq (r : Int) {R : Int} (hR : max r 0 = R) (H : Sat w0 I L w) :
    Calls Try.prog 10 #[.int .i64 r] w fun e w' => ∃ p, e = .returned (.pointer (some ⟨p, 0, none⟩)) ∧ Sat w0 I (volp p ⟨R, false, 0, ⟨#[]⟩, [], 0, 0, 0, false⟩ :: L) w' := hR ▸ vnew r H
theorem vlen_eq {N : Int} (hN : (v.bl.length : Int) = N) (H : Sat w0 I (volp p v :: L) w) :
    Calls Try.prog 14 #[.pointer (some ⟨p, 0, none⟩)] w fun e w' => e = .returned (.int .i64 N) ∧ Sat w0 I (volp p v :: L) w' := hN ▸ vlen H
theorem vat_eq {N : Int} (hN : (v.at_ : Int) = N) (H : Sat w0 I (volp p v :: L) w) :
    Calls Try.prog 16 #[.pointer (some ⟨p, 0, none⟩)] w fun e w' => e = .returned (.int .i64 N) ∧ Sat w0 I (volp p v :: L) w' := hN ▸ vat H
theorem vused_eq {N : Int} (hN : ((wsum v.bl : Nat) : Int) = N) (H : Sat w0 I (volp p v :: L) w) :
    Calls Try.prog 13 #[.pointer (some ⟨p, 0, none⟩)] w fun e w' => e = .returned (.int .i64 N) ∧ Sat w0 I (volp p v :: L) w' := hN ▸ vused H
theorem verased_eq {N : Int} (hN : v.erased = N) (H : Sat w0 I (volp p v :: L) w) :
    Calls Try.prog 24 #[.pointer (some ⟨p, 0, none⟩)] w fun e w' => e = .returned (.int .i64 N) ∧ Sat w0 I (volp p v :: L) w' := hN ▸ verased H
theorem vflush_eq {E : Int} {V : Vst} (hv : v.ok) (hE : flushE v = E) (hV : flushV v = V) (H : Sat w0 I (volp p v :: L) w) :
    Calls Try.prog 17 #[.pointer (some ⟨p, 0, none⟩)] w fun e w' => e = .returned (.int .i64 E) ∧ Sat w0 I (volp p V :: L) w' := hE ▸ hV ▸ vflush hv H
end
end Go.Proofs.Ytecdnlmagaoccaa
