/- LibraryOnce: what each call does to the drives and to what is held, plain. -/
import Derived.Test.YtcogjlfdhiomnaaLibOn
import Derived.Test.YtcogjlfdhiomnaaLibG
import Derived.Test.YtcogjlfdhiomnaaLibMv
namespace Go.Proofs.Ytcogjlfdhiomnaa
set_option linter.unusedVariables false
structure LInv (V D : Nat) (vs : List (Nat × Vst)) (k : Nat) (S : Lst) : Prop where
  vols : S.vols = vs
  len : S.drs.length = D
  dok : DOK V S.drs
  hb : ∀ d ∈ S.drs, d.holds ≤ k
  moves0 : 0 ≤ S.moves
  moves : S.moves ≤ k
  mounts0 : 0 ≤ S.mounts
  mounts : S.mounts ≤ k
section
variable {V D k : Nat} {vs : List (Nat × Vst)} {S T : Lst}
theorem LInv.ok (h : LInv V D vs k S) (hk : k ≤ 1000) : S.ok := ⟨h.moves0, by have := h.moves; omega, h.mounts0, by have := h.mounts; omega⟩
theorem LInv.up (h : LInv V D vs k S) : LInv V D vs (k + 1) S :=
  ⟨h.vols, h.len, h.dok, fun d hd => by have := h.hb d hd; omega, h.moves0, by have := h.moves; omega, h.mounts0, by have := h.mounts; omega⟩
theorem set_holds {l : List Dr} {j : Nat} {d : Dr} {b : Int} (h : ∀ x ∈ l, x.holds ≤ b) (hd : d.holds ≤ b + 1) : ∀ x ∈ l.set j d, x.holds ≤ b + 1 := by
  intro x hx
  rcases mem_set hx with rfl | hx
  · exact hd
  · have := h x hx; omega
theorem LInv.mount (h : LInv V D vs k S) (hf : fineV vs) (hV : vs.length = V) {n N E : Int} (hA : mountS S n = (N, E, T)) :
    LInv V D vs (k + 1) T ∧ heldL V T.drs = heldL V S.drs ∧ (E ≠ 0 ∨ (E = 0 ∧ (∀ d ∈ T.drs, d.holds ≤ k) ∧ ∃ j : Nat, N = (j : Int) ∧ inF T.drs n = some j ∧ 0 ≤ n ∧ n < (V : Int))) := by
  by_cases hr : 0 ≤ n ∧ n < (vs.length : Int)
  · rw [mountS_fine h.vols hf hr.1 hr.2] at hA
    cases hin : inF S.drs n with
    | some j =>
      rw [hin] at hA
      cases hA
      obtain ⟨hj, hj1, hj2⟩ := inF_lt hin
      have hg : S.drs[j]?.getD default = S.drs[j] := by rw [List.getElem?_eq_getElem hj]; rfl
      obtain ⟨u1, u2⟩ := h.dok.upd hin (u := S.mounts + 1) (z := S.drs[j].holds) (h.dok.holds _ (List.getElem_mem hj))
      have e0 : ({(S.drs[j]?.getD default) with used := S.mounts + 1} : Dr) = ⟨n, S.drs[j].holds, S.mounts + 1, (S.drs[j]?.getD default).broken⟩ := by
        rw [hg]
        show (⟨S.drs[j].vol, _, _, _⟩ : Dr) = _
        rw [hj1]
      rw [e0]
      have hh : ∀ d ∈ S.drs.set j ⟨n, S.drs[j].holds, S.mounts + 1, (S.drs[j]?.getD default).broken⟩, d.holds ≤ (k : Int) := by
        intro x hx
        rcases mem_set hx with rfl | hx
        · exact (show S.drs[j].holds ≤ (k : Int) from h.hb _ (List.getElem_mem hj))
        · exact h.hb x hx
      refine ⟨⟨h.vols, by simpa using h.len, u1, fun d hd => by have := hh d hd; omega, h.moves0, by have := h.moves; show S.moves ≤ ((k + 1 : Nat) : Int); omega, by have := h.mounts0; show 0 ≤ S.mounts + 1; omega, by have := h.mounts; show S.mounts + 1 ≤ ((k + 1 : Nat) : Int); omega⟩, heldL_same fun x hx => ?_, Or.inr ⟨rfl, hh, j, rfl, ?_, hr.1, by rw [← hV]; exact hr.2⟩⟩
      · rw [u2 x hx]
        split
        · rename_i e; subst e; rw [heldOf_some hin hj]
        · rfl
      · show inF (S.drs.set j _) n = some j
        rw [h.dok.inF_set u1 hj hr.1, if_pos rfl]
    | none =>
      rw [hin] at hA
      cases hn : nextF S.drs S.drs.length with
      | none =>
        rw [hn] at hA
        cases hA
        exact ⟨h.up, rfl, Or.inl (by decide)⟩
      | some j =>
        rw [hn] at hA
        cases hA
        obtain ⟨hj, hj1, hj2⟩ := nextF_free _ _ _ hn
        obtain ⟨u1, u2⟩ := h.dok.mount hr.1 (by rw [← hV]; exact hr.2) hin hn (S.mounts + 1)
        have hh : ∀ d ∈ S.drs.set j ⟨n, 0, S.mounts + 1, false⟩, d.holds ≤ (k : Int) := by
          intro x hx
          rcases mem_set hx with rfl | hx
          · show (0 : Int) ≤ _; omega
          · exact h.hb x hx
        refine ⟨⟨h.vols, by simpa using h.len, u1, fun d hd => by have := hh d hd; omega, by have := h.moves0; show 0 ≤ S.moves + 1; omega, by have := h.moves; show S.moves + 1 ≤ ((k + 1 : Nat) : Int); omega, by have := h.mounts0; show 0 ≤ S.mounts + 1; omega, by have := h.mounts; show S.mounts + 1 ≤ ((k + 1 : Nat) : Int); omega⟩, heldL_same u2, Or.inr ⟨rfl, hh, j, rfl, ?_, hr.1, by rw [← hV]; exact hr.2⟩⟩
        show inF (S.drs.set j _) n = some j
        rw [h.dok.inF_set u1 hj hr.1, if_pos rfl]
  · have : mountS S n = (-1, 1, S) := by
      unfold mountS
      by_cases h0 : n < 0
      · rw [if_pos h0]
      · rw [if_neg h0, h.vols, List.getElem?_eq_none (by omega)]
    rw [this] at hA
    cases hA
    exact ⟨h.up, rfl, Or.inl (by decide)⟩
/-- the drive of a volume gets another count. -/
theorem LInv.held (h : LInv V D vs (k + 1) S) {n : Int} {j : Nat} (hin : inF S.drs n = some j) {hj : j < S.drs.length} {z : Int} (hz : 0 ≤ z) (hzk : z ≤ ((k + 1 : Nat) : Int)) (h1 : n < (V : Int)) :
    LInv V D vs (k + 1) {S with drs := S.drs.set j ⟨S.drs[j].vol, z, S.drs[j].used, S.drs[j].broken⟩} ∧ heldL V (S.drs.set j ⟨S.drs[j].vol, z, S.drs[j].used, S.drs[j].broken⟩) = (heldL V S.drs).set n.toNat z := by
  obtain ⟨_, hj1, hj2⟩ := inF_lt hin
  have hg : S.drs[j]?.getD default = S.drs[j] := by rw [List.getElem?_eq_getElem hj]; rfl
  obtain ⟨u1, u2⟩ := h.dok.upd hin (u := S.drs[j].used) (z := z) hz
  rw [hg] at u1 u2
  rw [hj1]
  refine ⟨⟨h.vols, by simpa using h.len, u1, ?_, h.moves0, h.moves, h.mounts0, h.mounts⟩, heldL_one (v := n.toNat) fun x hx => ?_⟩
  · intro x hx
    rcases mem_set hx with rfl | hx
    · exact hzk
    · exact h.hb x hx
  · rw [u2 x hx]
    have : ((n.toNat : Nat) : Int) = n := by omega
    rw [this]
/-- what is held while the drives are gone through ahead of a Break. -/
def hbL (V : Nat) (l : List Dr) (n : Int) (k : Nat) : List Int := (List.range V).map fun (v : Nat) => if v < k ∧ onI (inF l (v : Int)) = n then 0 else heldOf l (v : Int)
theorem hbL_len (V : Nat) (l : List Dr) (n : Int) (k : Nat) : (hbL V l n k).length = V := by simp [hbL]
theorem hbL_zero (V : Nat) (l : List Dr) (n : Int) : hbL V l n 0 = heldL V l := by simp [hbL, heldL]
theorem hbL_get (V : Nat) (l : List Dr) (n : Int) (k v : Nat) (h : v < V) : (hbL V l n k)[v]'(by rw [hbL_len]; exact h) = if v < k ∧ onI (inF l (v : Int)) = n then 0 else heldOf l (v : Int) := by simp [hbL]
theorem hbL_yes {V : Nat} {l : List Dr} {n : Int} {k : Nat} (h : onI (inF l (k : Int)) = n) : (hbL V l n k).set k 0 = hbL V l n (k + 1) := by
  apply List.ext_getElem
  · simp [hbL_len]
  · intro i h1 h2
    rw [hbL_len] at h2
    rw [List.getElem_set]
    by_cases e : k = i
    · subst e; rw [if_pos rfl, hbL_get _ _ _ _ _ h2, if_pos ⟨by omega, h⟩]
    · rw [if_neg e, hbL_get _ _ _ _ _ h2, hbL_get _ _ _ _ _ h2]
      by_cases c : onI (inF l (i : Int)) = n
      · by_cases d : i < k
        · rw [if_pos ⟨d, c⟩, if_pos ⟨by omega, c⟩]
        · rw [if_neg (fun x => d x.1), if_neg (fun x => d (by omega))]
      · rw [if_neg (fun x => c x.2), if_neg (fun x => c x.2)]
theorem hbL_no {V : Nat} {l : List Dr} {n : Int} {k : Nat} (h : ¬ onI (inF l (k : Int)) = n) : hbL V l n k = hbL V l n (k + 1) := by
  apply List.ext_getElem
  · simp [hbL_len]
  · intro i h1 h2
    rw [hbL_len] at h2
    rw [hbL_get _ _ _ _ _ h2, hbL_get _ _ _ _ _ h2]
    by_cases c : onI (inF l (i : Int)) = n
    · have : i ≠ k := fun e => h (e ▸ c)
      by_cases d : i < k
      · rw [if_pos ⟨d, c⟩, if_pos ⟨by omega, c⟩]
      · rw [if_neg (fun x => d x.1), if_neg (fun x => d (by omega))]
    · rw [if_neg (fun x => c x.2), if_neg (fun x => c x.2)]
theorem LInv.broke (h : LInv V D vs k S) {j : Nat} (hj : j < D) (b : Bool) : LInv V D vs k {S with drs := S.drs.set j ⟨-1, 0, 0, b⟩} ∧ hbL V S.drs (j : Int) V = heldL V (S.drs.set j ⟨-1, 0, 0, b⟩) := by
  have hj' : j < S.drs.length := by rw [h.len]; exact hj
  obtain ⟨u1, u2⟩ := h.dok.broke hj' b
  refine ⟨⟨h.vols, by simpa using h.len, u1, ?_, h.moves0, h.moves, h.mounts0, h.mounts⟩, ?_⟩
  · intro x hx
    rcases mem_set hx with rfl | hx
    · show (0 : Int) ≤ _; omega
    · exact h.hb x hx
  · unfold hbL heldL
    refine List.map_congr_left fun v hv => ?_
    have hv' := List.mem_range.1 hv
    rw [u2 _ (by omega)]
    cases hin : inF S.drs (v : Int) with
    | none => rw [if_neg (by rintro ⟨_, e⟩; simp only [onI] at e; omega), if_neg (by simp)]
    | some i =>
      by_cases e : i = j
      · subst e; rw [if_pos ⟨hv', rfl⟩, if_pos rfl]
      · rw [if_neg (by rintro ⟨_, x⟩; simp only [onI] at x; omega), if_neg (fun x => e (Option.some.inj x))]
theorem LInv.unbroke (h : LInv V D vs k S) {n : Int} (hn : n < 0 ∨ (D : Int) ≤ n) : hbL V S.drs n V = heldL V S.drs := by
  unfold hbL heldL
  refine List.map_congr_left fun v hv => ?_
  cases hin : inF S.drs (v : Int) with
  | none => rw [heldOf_none hin]; simp
  | some i =>
    obtain ⟨hi, _⟩ := inF_lt hin
    rw [if_neg (by rintro ⟨_, x⟩; simp only [onI] at x; rw [h.len] at hi; omega)]
theorem LInv.crash (h : LInv V D vs k S) : LInv V D vs k {S with drs := S.drs.map crD} ∧ heldL V (S.drs.map crD) = List.replicate V 0 := by
  have hc : ∀ d ∈ S.drs.map crD, d.vol = -1 ∧ d.holds = 0 := by
    intro d hd
    obtain ⟨x, _, rfl⟩ := List.mem_map.1 hd
    exact ⟨rfl, rfl⟩
  refine ⟨⟨h.vols, by simpa using h.len, DOK.empty fun d hd => ⟨(hc d hd).1, by rw [(hc d hd).2]; exact Int.le_refl _⟩, fun d hd => by rw [(hc d hd).2]; omega, h.moves0, h.moves, h.mounts0, h.mounts⟩, heldL_zero fun d hd => (hc d hd).1⟩
theorem LInv.start (V D : Nat) (vs : List (Nat × Vst)) : LInv V D vs 0 ⟨vs, List.replicate D ⟨-1, 0, 0, false⟩, 0, 0⟩ ∧ heldL V (List.replicate D ⟨-1, 0, 0, false⟩) = List.replicate V 0 := by
  have hc : ∀ d ∈ List.replicate D (⟨-1, 0, 0, false⟩ : Dr), d.vol = -1 ∧ d.holds = 0 := by
    intro d hd
    have := List.eq_of_mem_replicate hd
    subst this; exact ⟨rfl, rfl⟩
  exact ⟨⟨rfl, by simp, DOK.empty fun d hd => ⟨(hc d hd).1, by rw [(hc d hd).2]; exact Int.le_refl _⟩, fun d hd => by rw [(hc d hd).2]; omega, Int.le_refl _, by simp, Int.le_refl _, by simp⟩, heldL_zero fun d hd => (hc d hd).1⟩
end
end Go.Proofs.Ytcogjlfdhiomnaa
