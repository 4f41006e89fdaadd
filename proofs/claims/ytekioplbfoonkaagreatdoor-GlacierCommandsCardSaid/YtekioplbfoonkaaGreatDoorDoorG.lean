/- The listed tables of the top's seats, as the walk wants them. -/
import Derived.Test.YtekioplbfoonkaaGreatDoorRows
import Derived.Test.YtekioplbfoonkaaGreatDoorSeal
import Derived.ProofKit
import Derived.LaidMore
import Derived.OpenShut
import Derived.Stop.Joined
namespace Go.Proofs.YtekioplbfoonkaaGreatDoor
open Go.ChangeShapes Go.WideShapes Go.ChangeAt Go.RowKit
set_option linter.unusedVariables false
set_option maxRecDepth 100000
def doorL : List (String × DataW Unit) := [("math/bits.deBruijn32tab", Rows.laid_math_bits_deBruijn32tab), ("math/bits.deBruijn64tab", Rows.laid_math_bits_deBruijn64tab), ("internal/strconv.uint64pow10", Rows.laid_internal_strconv_uint64pow10), ("glacier/seal.steps", Rows.laid_glacier_seal_steps)]
theorem gSteps : Tryz.prog.globalNamed "glacier/seal.steps" = some 0 := by kernel_rfl
theorem tSteps : (Tryz.prog.globals[0]?).map (·.type) = some 176 := by kernel_rfl
theorem door_met (os : Os) (args : Array Value) : laidMetH Tryz.prog doorL ((World.doorLaid Tryz.prog 400 os).forCall (fun _ _ => 0) ⟨#[], args, []⟩).memory :=
  laidMetH_of_parts3 (fuel := 8) (laidMet_of_run' 8 (by kernel_rfl) (by kernel_rfl)) (by kernel_rfl) (by kernel_rfl)
theorem steps_at {W : World} (h : laidMetH Tryz.prog doorL W) : ∀ i, i < 16 → W.cell? ⟨0, i, none⟩ = some (.int .u32 (tabF i : Int)) := by
  rw [MakeChecks.laidMetH_plain _ _ _ (by kernel_rfl)] at h
  obtain ⟨ps, ⟨_, _, _, _, _, _, _, _, _, _, ⟨_, _, _, _, _, _, _, _, _, _, ⟨_, _, _, _, _, _, _, _, _, _, ⟨g0, t0, cs0, f0, p0, q0, hg0, ht0, hv0, hd0, _, _⟩, _⟩, _⟩, _⟩, _, _⟩ := h
  obtain rfl := Option.some.inj (gSteps.symm.trans hg0)
  obtain rfl := Option.some.inj (tSteps.symm.trans ht0)
  obtain ⟨xs, m1, rfl, hx1, hlen, hn3, hel⟩ := DataW.trod_array Tryz.underlying176 hd0
  have c23 : Tryz.prog.cellsOf 52 = 1 := by kernel_rfl
  simp only [Prod.mk.injEq] at hx1
  intro i hi
  have hi2 := hel i (by omega)
  rw [World.var?_cell hg0 hv0 i]
  obtain ⟨x, hx⟩ : ∃ x, xs[i]? = some x := ⟨xs[i]'(by omega), List.getElem?_eq_getElem (by omega)⟩
  rw [hx] at hi2
  obtain ⟨k, e1, e2, _⟩ := DataW.trod_int Tryz.underlying52 hi2
  have hfst : x.1 = .lit (.int .u32 (tabF i : Int)) := by
    have h1 : (xs.map (fun x => x.1))[i]? = some x.1 := by rw [List.getElem?_map, hx]; rfl
    have h2 : ∀ l : List (DataW Unit), Rows.laid_glacier_seal_steps = DataW.agg l → l[i]? = some (.lit (.int .u32 (tabF i : Int))) := fun l hl => by
      unfold Rows.laid_glacier_seal_steps at hl
      cases hl
      have : ∀ j : Fin 16, ([.lit (.int .u32 0), .lit (.int .u32 498536548), .lit (.int .u32 997073096), .lit (.int .u32 651767980), .lit (.int .u32 1994146192), .lit (.int .u32 1802195444), .lit (.int .u32 1303535960), .lit (.int .u32 1342533948), .lit (.int .u32 3988292384), .lit (.int .u32 4027552580), .lit (.int .u32 3604390888), .lit (.int .u32 3412177804), .lit (.int .u32 2607071920), .lit (.int .u32 2262029012), .lit (.int .u32 2685067896), .lit (.int .u32 3183342108)] : List (DataW Unit))[j.val]? = some (.lit (.int .u32 ((tabF j.val : Nat) : Int))) := fun j => by
        match j with
        | ⟨0, _⟩ => rfl
        | ⟨1, _⟩ => rfl
        | ⟨2, _⟩ => rfl
        | ⟨3, _⟩ => rfl
        | ⟨4, _⟩ => rfl
        | ⟨5, _⟩ => rfl
        | ⟨6, _⟩ => rfl
        | ⟨7, _⟩ => rfl
        | ⟨8, _⟩ => rfl
        | ⟨9, _⟩ => rfl
        | ⟨10, _⟩ => rfl
        | ⟨11, _⟩ => rfl
        | ⟨12, _⟩ => rfl
        | ⟨13, _⟩ => rfl
        | ⟨14, _⟩ => rfl
        | ⟨15, _⟩ => rfl
        | ⟨n + 16, h⟩ => exact absurd h (by omega)
      exact this ⟨i, hi⟩
    have h3 := h2 _ hx1.1
    rw [h1] at h3
    exact Option.some.inj h3
  rw [e2] at hfst
  have hk : k = (tabF i : Int) := by simpa using hfst
  subst hk
  rw [c23, Nat.mul_one] at e1
  have h5 : (cs0.toList.drop i)[0]? = some (.int .u32 (tabF i : Int)) := by
    have h6 : ((cs0.toList.drop i).take 1)[0]? = some (.int .u32 (tabF i : Int)) := by rw [e1]; rfl
    rwa [List.getElem?_take_of_lt (by omega)] at h6
  rw [List.getElem?_drop] at h5
  simpa using h5
theorem steps_rd {W : World} (h : laidMetH Tryz.prog doorL W) : Rd (wpart W) (some ⟨0, 0, none⟩) tabV := fun i hi => by
  have hi' : i < 16 := by simpa [tabV, tabL] using hi
  refine ⟨0, 0, rfl, ?_⟩
  rw [Nat.zero_add]
  have h1 := cellI_start (steps_at h i hi')
  rw [h1]
  have hl : i < tabL.length := hi'
  simp [tabV, tabF, List.getD_eq_getElem?_getD, List.getElem?_eq_getElem hl]
end Go.Proofs.YtekioplbfoonkaaGreatDoor
