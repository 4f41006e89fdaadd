/- LibraryMoves, the plain law: one drive, and three. -/
import Derived.Test.YtcogjlfdhiomnaaLib
import Derived.Test.YtcogjlfdhiomnaaMapB
namespace Go.Proofs.Ytcogjlfdhiomnaa
set_option linter.unusedVariables false
def fineV (vs : List (Nat × Vst)) : Prop := ∀ x ∈ vs, x.2.lost = false
theorem mountS_fine {S : Lst} {vs : List (Nat × Vst)} (hv : S.vols = vs) (hf : fineV vs) {v : Int} (h0 : 0 ≤ v) (h1 : v < (vs.length : Int)) : mountS S v = match inF S.drs v with
    | some n => (n, 0, {S with drs := S.drs.set n {(S.drs[n]?.getD default) with used := S.mounts + 1}, mounts := S.mounts + 1})
    | none => match nextF S.drs S.drs.length with
      | none => (-1, 10, S)
      | some n => (n, 0, {S with drs := S.drs.set n ⟨v, 0, S.mounts + 1, false⟩, moves := S.moves + 1, mounts := S.mounts + 1}) := by
  subst hv
  have hlt : v.toNat < S.vols.length := by omega
  unfold mountS
  rw [if_neg (by omega), List.getElem?_eq_getElem hlt]
  simp only
  rw [if_neg (by rw [hf _ (List.getElem_mem hlt)]; decide)]
  cases inF S.drs v with
  | some n => rfl
  | none => cases nextF S.drs S.drs.length <;> rfl
structure MA (vs : List (Nat × Vst)) (last want : Int) (S : Lst) : Prop where
  vols : S.vols = vs
  drs : ∃ u, S.drs = [⟨last, 0, u, false⟩]
  moves : S.moves = want
theorem MA.mount {vs : List (Nat × Vst)} {last want : Int} {S : Lst} (h : MA vs last want S) (hf : fineV vs) {v : Int} (h0 : 0 ≤ v) (h1 : v < (vs.length : Int)) :
    ∃ S', mountS S v = (0, 0, S') ∧ MA vs v (if v = last then want else want + 1) S' ∧ S'.mounts = S.mounts + 1 := by
  obtain ⟨e1, ⟨u, e2⟩, e3⟩ := h
  rw [mountS_fine e1 hf h0 h1]
  by_cases hl : v = last
  · subst hl
    refine ⟨⟨vs, [⟨v, 0, S.mounts + 1, false⟩], want, S.mounts + 1⟩, ?_, ⟨rfl, ⟨_, rfl⟩, by simp⟩, rfl⟩
    have : ¬ v < 0 := by omega
    simp [e2, inF, List.findIdx?_cons, this, e1, e3]
  · refine ⟨⟨vs, [⟨v, 0, S.mounts + 1, false⟩], want + 1, S.mounts + 1⟩, ?_, ⟨rfl, ⟨_, rfl⟩, by simp [hl]⟩, rfl⟩
    have h2 : ¬ v < 0 := by omega
    have h3 : ¬ last = v := fun e => hl e.symm
    simp [e2, inF, List.findIdx?_cons, h2, e1, e3, h3, nextF]
def dE : Dr := ⟨-1, 0, 0, false⟩
def dU (a u : Int) : Dr := ⟨a, 0, u, false⟩
def MBd (seen : List Int) (d : List Dr) : Prop :=
  (seen = [] ∧ d = [dE, dE, dE]) ∨ (∃ a u, 0 < u ∧ seen = [a] ∧ d = [dU a u, dE, dE]) ∨
  (∃ a u b x, 0 < u ∧ 0 < x ∧ a ≠ b ∧ seen = [a, b] ∧ d = [dU a u, dU b x, dE]) ∨
  (∃ a u b x c y, 0 < u ∧ 0 < x ∧ 0 < y ∧ a ≠ b ∧ a ≠ c ∧ b ≠ c ∧ seen = [a, b, c] ∧ d = [dU a u, dU b x, dU c y])
structure MB (vs : List (Nat × Vst)) (seen : List Int) (S : Lst) : Prop where
  vols : S.vols = vs
  drs : MBd seen S.drs
  bd : ∀ z ∈ seen, 0 ≤ z ∧ z < (vs.length : Int)
  moves : S.moves = seen.length
  mounts : 0 ≤ S.mounts
theorem MB.mount {vs : List (Nat × Vst)} {seen : List Int} {S : Lst} (h : MB vs seen S) (hf : fineV vs) (h3 : vs.length ≤ 3) {v : Int} (h0 : 0 ≤ v) (h1 : v < (vs.length : Int)) :
    ∃ n : Int, ∃ S', mountS S v = (n, 0, S') ∧ MB vs (setAdd seen v) S' ∧ S'.mounts = S.mounts + 1 := by
  obtain ⟨e1, hd, hb, e3, hm⟩ := h
  rw [mountS_fine e1 hf h0 h1]
  have h2 : ¬ v < 0 := by omega
  have h4 : ¬ (-1 : Int) = v := by omega
  have hm1 : 0 < S.mounts + 1 := by omega
  rcases hd with ⟨rfl, ed⟩ | ⟨a, u, hu, rfl, ed⟩ | ⟨a, u, b, x, hu, hx, hab, rfl, ed⟩ | ⟨a, u, b, x, c, y, hu, hx, hy, hab, hac, hbc, rfl, ed⟩
  · refine ⟨0, ⟨vs, [dU v (S.mounts + 1), dE, dE], 1, S.mounts + 1⟩, ?_, ⟨rfl, Or.inr (Or.inl ⟨v, S.mounts + 1, hm1, by simp [setAdd], rfl⟩), by simp [setAdd]; omega, by simp [setAdd], by show 0 ≤ S.mounts + 1; omega⟩, rfl⟩
    simp [ed, inF, List.findIdx?_cons, h2, e1, e3, h4, nextF, dE, dU]
  · by_cases k1 : a = v
    · subst k1
      refine ⟨0, ⟨vs, [dU a (S.mounts + 1), dE, dE], 1, S.mounts + 1⟩, ?_, ⟨rfl, Or.inr (Or.inl ⟨a, S.mounts + 1, hm1, by simp [setAdd], rfl⟩), by simp [setAdd]; omega, by simp [setAdd], by show 0 ≤ S.mounts + 1; omega⟩, rfl⟩
      simp [ed, inF, List.findIdx?_cons, h2, e1, e3, dE, dU]
    · refine ⟨1, ⟨vs, [dU a u, dU v (S.mounts + 1), dE], 2, S.mounts + 1⟩, ?_, ⟨rfl, Or.inr (Or.inr (Or.inl ⟨a, u, v, S.mounts + 1, hu, hm1, k1, ?_, rfl⟩)), ?_, ?_, by show 0 ≤ S.mounts + 1; omega⟩, rfl⟩
      · have : ¬ (0 : Int) ≥ u := by omega
        simp [ed, inF, List.findIdx?_cons, h2, e1, e3, h4, nextF, dE, dU, k1, hu]
      · rw [setAdd_out (by simp; exact fun e => k1 e.symm)]; rfl
      · rw [setAdd_out (by simp; exact fun e => k1 e.symm)]
        have := hb a (by simp)
        simp; omega
      · rw [setAdd_out (by simp; exact fun e => k1 e.symm)]; rfl
  · have ha := hb a (by simp)
    have hb' := hb b (by simp)
    by_cases k1 : a = v
    · subst k1
      refine ⟨0, ⟨vs, [dU a (S.mounts + 1), dU b x, dE], 2, S.mounts + 1⟩, ?_, ⟨rfl, Or.inr (Or.inr (Or.inl ⟨a, S.mounts + 1, b, x, hm1, hx, hab, by simp [setAdd], rfl⟩)), by simp [setAdd]; omega, by simp [setAdd], by show 0 ≤ S.mounts + 1; omega⟩, rfl⟩
      simp [ed, inF, List.findIdx?_cons, h2, e1, e3, dE, dU]
    · by_cases k2 : b = v
      · subst k2
        refine ⟨1, ⟨vs, [dU a u, dU b (S.mounts + 1), dE], 2, S.mounts + 1⟩, ?_, ⟨rfl, Or.inr (Or.inr (Or.inl ⟨a, u, b, S.mounts + 1, hu, hm1, hab, by simp [setAdd], rfl⟩)), by simp [setAdd]; omega, by simp [setAdd], by show 0 ≤ S.mounts + 1; omega⟩, rfl⟩
        simp [ed, inF, List.findIdx?_cons, h2, e1, e3, dE, dU, k1]
      · have hn : v ∉ [a, b] := by simp; exact ⟨fun e => k1 e.symm, fun e => k2 e.symm⟩
        refine ⟨2, ⟨vs, [dU a u, dU b x, dU v (S.mounts + 1)], 3, S.mounts + 1⟩, ?_, ⟨rfl, Or.inr (Or.inr (Or.inr ⟨a, u, b, x, v, S.mounts + 1, hu, hx, hm1, hab, k1, k2, ?_, rfl⟩)), ?_, ?_, by show 0 ≤ S.mounts + 1; omega⟩, rfl⟩
        · by_cases hxu : x < u
          · simp [ed, inF, List.findIdx?_cons, h2, e1, e3, h4, nextF, dE, dU, k1, k2, hx, hxu]
          · simp [ed, inF, List.findIdx?_cons, h2, e1, e3, h4, nextF, dE, dU, k1, k2, hu, hxu]
        · rw [setAdd_out hn]; rfl
        · rw [setAdd_out hn]; simp; omega
        · rw [setAdd_out hn]; rfl
  · have ha := hb a (by simp)
    have hb' := hb b (by simp)
    have hc := hb c (by simp)
    by_cases k1 : a = v
    · subst k1
      refine ⟨0, ⟨vs, [dU a (S.mounts + 1), dU b x, dU c y], 3, S.mounts + 1⟩, ?_, ⟨rfl, Or.inr (Or.inr (Or.inr ⟨a, S.mounts + 1, b, x, c, y, hm1, hx, hy, hab, hac, hbc, by simp [setAdd], rfl⟩)), by simp [setAdd]; omega, by simp [setAdd], by show 0 ≤ S.mounts + 1; omega⟩, rfl⟩
      simp [ed, inF, List.findIdx?_cons, h2, e1, e3, dU]
    · by_cases k2 : b = v
      · subst k2
        refine ⟨1, ⟨vs, [dU a u, dU b (S.mounts + 1), dU c y], 3, S.mounts + 1⟩, ?_, ⟨rfl, Or.inr (Or.inr (Or.inr ⟨a, u, b, S.mounts + 1, c, y, hu, hm1, hy, hab, hac, hbc, by simp [setAdd], rfl⟩)), by simp [setAdd]; omega, by simp [setAdd], by show 0 ≤ S.mounts + 1; omega⟩, rfl⟩
        simp [ed, inF, List.findIdx?_cons, h2, e1, e3, dU, k1]
      · by_cases k3 : c = v
        · subst k3
          refine ⟨2, ⟨vs, [dU a u, dU b x, dU c (S.mounts + 1)], 3, S.mounts + 1⟩, ?_, ⟨rfl, Or.inr (Or.inr (Or.inr ⟨a, u, b, x, c, S.mounts + 1, hu, hx, hm1, hab, hac, hbc, by simp [setAdd], rfl⟩)), by simp [setAdd]; omega, by simp [setAdd], by show 0 ≤ S.mounts + 1; omega⟩, rfl⟩
          simp [ed, inF, List.findIdx?_cons, h2, e1, e3, dU, k1, k2]
        · omega
end Go.Proofs.Ytcogjlfdhiomnaa
