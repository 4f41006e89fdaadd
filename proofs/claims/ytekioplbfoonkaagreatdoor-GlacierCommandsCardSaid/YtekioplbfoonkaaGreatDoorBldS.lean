/- strings.Builder.String, in parts of the memory: the bytes are frozen. -/
import Derived.Test.YtekioplbfoonkaaGreatDoorBld
import Derived.Lib.UnsafeStr
namespace Go.Proofs.YtekioplbfoonkaaGreatDoor
open Go.RowKit
set_option linter.unusedVariables false
set_option maxRecDepth 100000
set_option maxHeartbeats 1000000
/-- a builder's bytes, perhaps frozen. -/
def frz (sv : Value) (l : List UInt8) : HP := fun h => ∃ g cap cur fr, sv = .slice (some ⟨g, 0, none⟩) l.length cap ∧ l.length ≤ cap ∧ cap ≤ 9223372036854775807 ∧ h g = some (.cells cur 5 fr) ∧ cur.size = cap ∧ ∀ i (hi : i < l.length), cur[i]? = some (.int .u8 (l[i].toNat : Int))
/-- a builder of which String may have been called. -/
def bldF (b : Nat) (l : List UInt8) : HP := fun h => ∃ pv sv, (l = [] ∧ sv = .slice none 0 0 ∧ blk b 190 [pv, sv] h) ∨ (l ≠ [] ∧ sepL [blk b 190 [pv, sv], frz sv l] h)
section
variable {w0 w : World} {I : Part} {L : List HP} {b : Nat} {l : List UInt8}
theorem row_frz {sv : Value} (h0 : l ≠ []) : ∀ g, row 5 1 sv l.length (Lib.byteCells l) g → frz sv l g := by
  rintro h ⟨hl, hr⟩
  rcases hr with ⟨_, hz⟩ | ⟨g, cap, cur, hv, hh, h1, h2, h3, h4⟩
  · exact absurd (List.eq_nil_of_length_eq_zero hz) h0
  · refine ⟨g, cap, cur, (0, 0), hv, h1, by unfold maxLen at h2; omega, hh, by omega, fun i hi => ?_⟩
    have h5 : (cur.toList.take (l.length * 1))[i]? = (Lib.byteCells l)[i]? := by rw [h4]
    rw [List.getElem?_take_of_lt (by omega)] at h5
    have h6 : (Lib.byteCells l)[i]? = some (.int .u8 (l[i].toNat : Int)) := by simp [Lib.byteCells, hi]
    rw [h6] at h5
    simpa using h5
theorem Sat.bldToF (h : Sat w0 I (bld b l :: L) w) : Sat w0 I (bldF b l :: L) w := by
  obtain ⟨pv, sv, hp, he, S⟩ := h.bldOpen
  by_cases h0 : l = []
  · have S2 := S.swap.drop
    exact S2.weaken fun g hg => ⟨pv, sv, Or.inl ⟨h0, he h0, hg⟩⟩
  · have S2 := (S.swap.weaken (row_frz h0)).swap
    exact S2.of (M := [_, _]) fun g s => ⟨pv, sv, Or.inr ⟨h0, s⟩⟩
theorem bstr_sat (hl : l.length ≤ 1000000) (H : Sat w0 I (bldF b l :: L) w) :
    Calls Tryz.prog 109 #[.pointer (some ⟨b, 0, none⟩)] w fun e w' => e = .returned (.string ⟨l.toArray⟩) ∧ Sat w0 I (bldF b l :: L) w' := by
  obtain ⟨h, hg, ⟨pv, sv, hh⟩, r⟩ := H.sep
  rcases hh with ⟨h0, hsv, hb⟩ | ⟨h0, hs⟩
  · subst h0 hsv
    have S : Sat w0 I (blk b 190 [pv, .slice none 0 0] :: L) w := ⟨H.os, H.tape, H.output, H.size, H.imm, h, hg, hb, r⟩
    have c1 : w.drew.cell? ⟨b, 1, none⟩ = some (.slice none 0 0) := S.isBlk.cell 1 rfl
    have hUS : ∀ W : World, (Builtin.unsafeString_ #[233, 3] 9 #[.pointer none, .int .i64 0]).run Tryz.prog W = .ok (.string .empty) W := fun W => Lib.run_unsafeString_none W _ _ _ none
    have hSD : ∀ W : World, (Builtin.unsafeSliceData_ #[87] 233 #[.slice none 0 0]).run Tryz.prog W = .ok (.pointer none) W := fun W => Lib.run_unsafeSliceData_nil _ _ _ _ _
    have HS := hid H
    clear H S hg hb r
    go_enter Tryz.func109, Tryz.ntmps109
    go_wp2_with fail
    go_region
    all_goals
      go_wp2_with fail
      go_ret
      exact ⟨rfl, HS.out.drew⟩
  · have S : Sat w0 I (blk b 190 [pv, sv] :: frz sv l :: L) w := Sat.flat (M := [_, _]) ⟨H.os, H.tape, H.output, H.size, H.imm, h, hg, hs, r⟩
    obtain ⟨x, ⟨g, cap, cur, fr, rfl, k1, k2, hx, k3, k4⟩, hle, kk⟩ := S.swap.elim
    have hgw : w.heap[g]? = some (.cells cur 5 fr) := hle _ _ hx
    have hl0 : l.length ≠ 0 := fun e => h0 (List.eq_nil_of_length_eq_zero e)
    have c1 : w.drew.cell? ⟨b, 1, none⟩ = some (.slice (some ⟨g, 0, none⟩) l.length cap) := S.isBlk.cell 1 rfl
    have hSD : (Builtin.unsafeSliceData_ #[87] 233 #[.slice (some ⟨g, 0, none⟩) l.length cap]).run Tryz.prog w.drew = .ok (.pointer (some ⟨g, 0, none⟩)) w.drew :=
      Lib.run_unsafeSliceData_row _ _ _ _ _ _ (by omega)
    have hUS : (Builtin.unsafeString_ #[233, 3] 9 #[.pointer (some ⟨g, 0, none⟩), .int .i64 l.length]).run Tryz.prog w.drew = .ok (.string ⟨l.toArray⟩) (w.drew.freeze ⟨g, 0, none⟩ l.length) := by
      refine Lib.run_unsafeString_row w.drew 233 3 9 5 Tryz.underlying233 (by kernel_rfl) g cur.size (by show World.shape? w g = _; simp [World.shape?, hgw]) l h0 (by omega) (by omega) ?_
      intro j x hj
      obtain ⟨hjl, rfl⟩ := List.getElem?_eq_some_iff.1 hj
      have hc : w.cell? ⟨g, j, none⟩ = some (.int .u8 (l[j].toNat : Int)) := by
        unfold World.cell?
        rw [show (⟨g, j, none⟩ : Addr).block = g from rfl, hgw]
        simpa using k4 j hjl
      rw [add_zero_off]
      exact hc
    obtain ⟨fr', hfr⟩ : ∃ fr', (w.drew.freeze ⟨g, 0, none⟩ l.length).heap[g]? = some (.cells cur 5 fr') := by
      have hg' : w.drew.heap[g]? = some (.cells cur 5 fr) := hgw
      unfold World.freeze
      rw [if_neg hl0]
      obtain ⟨lo, hi⟩ := fr
      simp only [Array.getElem?_modify, hg', Option.map_some, ↓reduceIte]
      exact ⟨_, rfl⟩
    have hbel : Mod (fun k => k = g) w (w.drew.freeze ⟨g, 0, none⟩ l.length) := by
      unfold World.freeze
      rw [if_neg hl0]
      exact ⟨rfl, rfl, rfl, by simp, fun k hk hne => by
        simp only [Array.getElem?_modify]
        rw [if_neg (fun e => hne e.symm)]; rfl⟩
    have S9 : Sat w0 I (frz (.slice (some ⟨g, 0, none⟩) l.length cap) l :: blk b 190 [pv, .slice (some ⟨g, 0, none⟩) l.length cap] :: L) (w.drew.freeze ⟨g, 0, none⟩ l.length) := by
      have K := kk (fun y => y = x) rfl
      refine K.change fun y hy _ => ⟨fun k => k = g, fun k hk _ => by subst hy hk; rw [hx]; rfl, hbel, fun y' hy' => ?_⟩
      subst hy
      exact ⟨g, cap, cur, fr', rfl, k1, k2, by rw [hy' g (Or.inl (by rw [hx]; rfl))]; exact hfr, k3, k4⟩
    have HF : Hid (Sat w0 I (bldF b l :: L) (w.drew.freeze ⟨g, 0, none⟩ l.length)) := hid (Sat.of (M := [_, _]) S9.swap fun y s => ⟨pv, _, Or.inr ⟨h0, s⟩⟩)
    clear H S S9 hg hs r hle kk hgw hfr hbel hx k4
    go_enter Tryz.func109, Tryz.ntmps109
    go_wp2_with fail
    go_region
    all_goals
      go_wp2_with fail
      go_ret
      exact ⟨rfl, HF.out⟩
end
end Go.Proofs.YtekioplbfoonkaaGreatDoor
