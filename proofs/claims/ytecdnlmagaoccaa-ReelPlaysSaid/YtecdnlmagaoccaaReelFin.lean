/- ReelPlays: what the last look sees: plain. -/
import Derived.Test.YtecdnlmagaoccaaReelPl
namespace Go.Proofs.Ytecdnlmagaoccaa
set_option linter.unusedVariables false
def atV (v : Vst) (k : Nat) : Vst := {v with at_ := k}
theorem atV_ok {v : Vst} (hv : v.ok) {k : Nat} (hk : k ≤ v.bl.length) : (atV v k).ok := ⟨hv.room0, hv.room, hv.used, hv.armed0, hv.armed, hv.sure, hk, hv.len, hv.erased0, hv.erased⟩
theorem tryA_zero (l : Bool) : tryA l 0 = 0 := by unfold tryA; cases l <;> simp
theorem tryV_rest {v : Vst} (ha : v.armed = 0) : tryV v = v := by
  obtain ⟨room, lost, armed, label, bl, sure, at_, er, prot⟩ := v
  simp only at ha
  subst ha
  simp [tryV, tryA_zero]
theorem tryE_atV (v : Vst) (k : Nat) : tryE (atV v k).lost (atV v k).armed = tryE v.lost v.armed := rfl
theorem seek_rest {v : Vst} (ha : v.armed = 0) (k i : Nat) (hi : i ≤ v.bl.length) :
    seekS (atV v k) (i : Int) = if tryE v.lost v.armed = 0 then (0, atV v i) else (tryE v.lost v.armed, atV v k) := by
  unfold seekS
  rw [tryV_rest (v := atV v k) ha, tryE_atV]
  by_cases h0 : tryE v.lost v.armed = 0
  · rw [if_pos h0, if_pos h0, if_neg (by omega), if_neg (by show ¬ (v.bl.length : Int) < (i : Int); omega)]
    simp [atV]
  · rw [if_neg h0, if_neg h0]
theorem read_rest {v : Vst} (ha : v.armed = 0) (k : Nat) (hk : k ≤ v.bl.length) : ∃ s m G k2, readS (atV v k) = ((s, m, G), atV v k2) ∧ k2 ≤ v.bl.length := by
  unfold readS
  rw [tryV_rest (v := atV v k) ha, tryE_atV]
  by_cases h0 : tryE v.lost v.armed = 0
  · rw [if_pos h0]
    by_cases h1 : (atV v k).at_ < (atV v k).bl.length
    · rw [dif_pos h1]
      have h1' : k < v.bl.length := h1
      split
      · exact ⟨_, _, _, k, rfl, hk⟩
      · exact ⟨_, _, _, k + 1, rfl, h1'⟩
    · rw [dif_neg h1]
      exact ⟨_, _, _, k, rfl, hk⟩
  · rw [if_neg h0]
    exact ⟨_, _, _, k, rfl, hk⟩
theorem read_lost {v : Vst} (ha : v.armed = 0) (k : Nat) (h0 : ¬ tryE v.lost v.armed = 0) : readS (atV v k) = ((⟨#[]⟩, false, tryE v.lost v.armed), atV v k) := by
  unfold readS
  rw [tryV_rest (v := atV v k) ha, tryE_atV, if_neg h0]
/-- Seek and Read behind one another, wherever both stood. -/
theorem end_eq {v : Vst} (ha : v.armed = 0) (k i : Nat) (hk : k ≤ v.bl.length) (hi : i ≤ v.bl.length) :
    ∃ (E : Int) (s : ByteArray) (m : Bool) (G : Int) (k1 k2 : Nat) (Y Z : Nat), seekS (atV v k) (i : Int) = (E, atV v k1) ∧ k1 ≤ v.bl.length ∧ readS (atV v k1) = ((s, m, G), atV v k2) ∧ k2 ≤ v.bl.length ∧
      seekS v (i : Int) = (E, atV v Y) ∧ (Y ≤ v.bl.length ∨ Y = v.at_) ∧ readS (atV v Y) = ((s, m, G), atV v Z) := by
  have hv : v = atV v v.at_ := rfl
  by_cases h0 : tryE v.lost v.armed = 0
  · have e1 := seek_rest ha k i hi
    have e2 := seek_rest ha v.at_ i hi
    rw [if_pos h0] at e1 e2
    obtain ⟨s, m, G, k2, e3, h3⟩ := read_rest ha i hi
    exact ⟨0, s, m, G, i, k2, i, k2, e1, hi, e3, h3, e2, Or.inl hi, e3⟩
  · have e1 := seek_rest ha k i hi
    have e2 := seek_rest ha v.at_ i hi
    rw [if_neg h0] at e1 e2
    exact ⟨_, _, _, _, k, k, v.at_, v.at_, e1, hk, read_lost ha k h0, hk, e2, Or.inr rfl, read_lost ha v.at_ h0⟩
end Go.Proofs.Ytecdnlmagaoccaa
