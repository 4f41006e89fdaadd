/- Libraries: New, of a slice of the call's own. -/
import Derived.Test.YtcogjlfdhiomnaaLibD
import Derived.Test.YtcogjlfdhiomnaaMk
namespace Go.Proofs.Ytcogjlfdhiomnaa
open Go.RowKit
set_option linter.unusedVariables false
section
variable {w0 w : World} {I : Part} {L : List HP}
theorem lnew_row {g n rc : Nat} {cs : List Value} {zs : List Int} (hcs : cs = zs.map (Value.int .i64)) (d : Int) (m : Nat) (hm : (m : Int) = min (max d 0) 3) (hn : zs.length = n) (hz : ∀ z ∈ zs, -9223372036854775808 ≤ z ∧ z ≤ 9223372036854775807) (hn2 : n ≤ 1000000) (H : Sat w0 I (row 3 1 (.slice (some ⟨g, 0, none⟩) n rc) n cs :: L) w) :
    Calls Try.prog 6 #[.slice (some ⟨g, 0, none⟩) n rc, .int .i64 d] w fun e w' => ∃ (q : Nat) (ps : List Nat), e = .returned (.pointer (some ⟨q, 0, none⟩)) ∧ ps.length = n ∧ Sat w0 I (libp q ⟨ps.zip (zs.map vNew), List.replicate m ⟨-1, 0, 0, false⟩, 0, 0⟩ :: L) w' := by
  subst hcs
  obtain ⟨J, a, c, hJ, S, hv, _, _, _, hrd⟩ := H.freezeRow
  cases hv
  exact (lnew_sat _ n _ zs d m hm hn hrd hz hn2 S).mono fun e w' ⟨q, ps, h1, h2, h3⟩ => ⟨q, ps, h1, h2, h3.thawM hJ⟩
/-- .. beside whatever else is known (Sat.frame). -/
theorem lnew_fr {g n rc : Nat} {cs : List Value} {zs : List Int} (hcs : cs = zs.map (Value.int .i64)) (d : Int) (m : Nat) (hm : (m : Int) = min (max d 0) 3) (hn : zs.length = n) (hz : ∀ z ∈ zs, -9223372036854775808 ≤ z ∧ z ≤ 9223372036854775807) (hn2 : n ≤ 1000000) (H : Blk w g 3 cs) :
    Calls Try.prog 6 #[.slice (some ⟨g, 0, none⟩) n rc, .int .i64 d] w fun e w' => ∃ (q : Nat) (ps : List Nat), e = .returned (.pointer (some ⟨q, 0, none⟩)) ∧ ps.length = n ∧ Sat w (wpart w) [libp q ⟨ps.zip (zs.map vNew), List.replicate m ⟨-1, 0, 0, false⟩, 0, 0⟩] w' :=
  lnew_sat _ n rc zs d m hm hn (hcs ▸ H.rd) hz hn2 (Sat.start w)
end
end Go.Proofs.Ytcogjlfdhiomnaa
