/- Volumes: contracts with the results named. -/
import Derived.Test.YtcogjlfdhiomnaaDoorReelE
namespace Go.Proofs.YtcogjlfdhiomnaaDoor
open Go.RowKit
set_option linter.unusedVariables false
set_option maxRecDepth 100000
section
variable {w0 w : World} {I : Part} {L : List HP} {p : Nat} {v : Vst}
theorem vnew_eq (r : Int) {R : Int} (hR : max r 0 = R) (H : Sat w0 I L w) :
    Calls Tryd.prog 11 #[.int .i64 r] w fun e w' => ∃ p, e = .returned (.pointer (some ⟨p, 0, none⟩)) ∧ Sat w0 I (volp p ⟨R, false, 0, ⟨#[]⟩, [], 0, 0, 0, false⟩ :: L) w' := hR ▸ vnew r H
theorem vlen_eq {N : Int} (hN : (v.bl.length : Int) = N) (H : Sat w0 I (volp p v :: L) w) :
    Calls Tryd.prog 17 #[.pointer (some ⟨p, 0, none⟩)] w fun e w' => e = .returned (.int .i64 N) ∧ Sat w0 I (volp p v :: L) w' := hN ▸ vlen H
theorem vused_eq {N : Int} (hN : ((wsum v.bl : Nat) : Int) = N) (H : Sat w0 I (volp p v :: L) w) :
    Calls Tryd.prog 15 #[.pointer (some ⟨p, 0, none⟩)] w fun e w' => e = .returned (.int .i64 N) ∧ Sat w0 I (volp p v :: L) w' := hN ▸ vused H
theorem vflush_eq {E : Int} {V : Vst} (hv : v.ok) (hE : flushE v = E) (hV : flushV v = V) (H : Sat w0 I (volp p v :: L) w) :
    Calls Tryd.prog 44 #[.pointer (some ⟨p, 0, none⟩)] w fun e w' => e = .returned (.int .i64 E) ∧ Sat w0 I (volp p V :: L) w' := hE ▸ hV ▸ vflush hv H
end
end Go.Proofs.YtcogjlfdhiomnaaDoor
