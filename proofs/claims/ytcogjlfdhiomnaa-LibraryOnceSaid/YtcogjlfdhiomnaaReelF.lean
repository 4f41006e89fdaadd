/- Volumes: contracts with the results named. -/
import Derived.Test.YtcogjlfdhiomnaaReelE
namespace Go.Proofs.Ytcogjlfdhiomnaa
open Go.RowKit
set_option linter.unusedVariables false
section
variable {w0 w : World} {I : Part} {L : List HP} {p : Nat} {v : Vst}
theorem vnew_eq (r : Int) {R : Int} (hR : max r 0 = R) (H : Sat w0 I L w) :
    Calls Try.prog 16 #[.int .i64 r] w fun e w' => ∃ p, e = .returned (.pointer (some ⟨p, 0, none⟩)) ∧ Sat w0 I (volp p ⟨R, false, 0, ⟨#[]⟩, [], 0, 0, 0, false⟩ :: L) w' := hR ▸ vnew r H
theorem vused_eq {N : Int} (hN : ((wsum v.bl : Nat) : Int) = N) (H : Sat w0 I (volp p v :: L) w) :
    Calls Try.prog 30 #[.pointer (some ⟨p, 0, none⟩)] w fun e w' => e = .returned (.int .i64 N) ∧ Sat w0 I (volp p v :: L) w' := hN ▸ vused H
end
end Go.Proofs.Ytcogjlfdhiomnaa
