/- LibraryOnce, the plain law: no volume is in two drives, what is held stays. -/
import Derived.Test.YtcogjlfdhiomnaaLib
namespace Go.Proofs.Ytcogjlfdhiomnaa
set_option linter.unusedVariables false
/-- the drives of a library of V volumes, as they should be. -/
structure DOK (V : Nat) (l : List Dr) : Prop where
  rng : ∀ d ∈ l, d.vol = -1 ∨ (0 ≤ d.vol ∧ d.vol < (V : Int))
  brk : ∀ d ∈ l, d.broken = true → d.vol = -1
  holds : ∀ d ∈ l, 0 ≤ d.holds
  one : ∀ i j (hi : i < l.length) (hj : j < l.length), l[i].vol = l[j].vol → 0 ≤ l[i].vol → i = j
theorem DOK.inF_iff {V : Nat} {l : List Dr} (h : DOK V l) {v : Int} (k : Nat) : inF l v = some k ↔ 0 ≤ v ∧ ∃ hk : k < l.length, l[k].vol = v := by
  constructor
  · intro e
    obtain ⟨hk, h1, h2⟩ := inF_lt e
    exact ⟨h2, hk, h1⟩
  · rintro ⟨h0, hk, h1⟩
    cases e : inF l v with
    | none => exact absurd h1 (inF_none e h0 _ (List.getElem_mem hk))
    | some j =>
      obtain ⟨hj, h2, _⟩ := inF_lt e
      rw [h.one j k hj hk (h2.trans h1.symm) (by omega)]
/-- how often a volume is held. -/
def heldOf (l : List Dr) (v : Int) : Int := match inF l v with
  | some k => (l[k]?.getD default).holds
  | none => 0
theorem DOK.nn {V : Nat} {l : List Dr} (h : DOK V l) (v : Int) : 0 ≤ heldOf l v := by
  unfold heldOf
  split
  · rename_i k hk
    obtain ⟨h1, _⟩ := inF_lt hk
    rw [List.getElem?_eq_getElem h1]
    exact h.holds _ (List.getElem_mem h1)
  · exact Int.le_refl _
theorem heldOf_none {l : List Dr} {v : Int} (h : inF l v = none) : heldOf l v = 0 := by unfold heldOf; rw [h]
theorem heldOf_some {l : List Dr} {v : Int} {k : Nat} (h : inF l v = some k) (hk : k < l.length) : heldOf l v = l[k].holds := by unfold heldOf; rw [h]; simp [hk]
theorem mem_set {l : List Dr} {k : Nat} {d x : Dr} (h : x ∈ l.set k d) : x = d ∨ x ∈ l := by
  rcases List.mem_or_eq_of_mem_set h with h | h
  · exact Or.inr h
  · exact Or.inl h
/-- a drive is made another one that has v, which is in no other. -/
theorem DOK.set {V : Nat} {l : List Dr} (h : DOK V l) {k : Nat} (hk : k < l.length) {d : Dr} (hr : d.vol = -1 ∨ (0 ≤ d.vol ∧ d.vol < (V : Int))) (hb : d.broken = true → d.vol = -1) (hh : 0 ≤ d.holds)
    (ho : 0 ≤ d.vol → ∀ i (hi : i < l.length), i ≠ k → l[i].vol ≠ d.vol) : DOK V (l.set k d) := by
  refine ⟨fun x hx => ?_, fun x hx => ?_, fun x hx => ?_, fun i j hi hj => ?_⟩
  · rcases mem_set hx with rfl | hx
    · exact hr
    · exact h.rng x hx
  · rcases mem_set hx with rfl | hx
    · exact hb
    · exact h.brk x hx
  · rcases mem_set hx with rfl | hx
    · exact hh
    · exact h.holds x hx
  · simp only [List.length_set] at hi hj
    rw [List.getElem_set, List.getElem_set]
    split
    · rename_i e1
      split
      · rename_i e2; intro _ _; omega
      · rename_i e2
        intro e3 e4
        exact absurd e3.symm (ho e4 j hj (fun e => e2 e.symm))
    · rename_i e1
      split
      · rename_i e2
        intro e3 e4
        exact absurd e3 (ho (by omega) i hi (fun e => e1 e.symm))
      · exact h.one i j hi hj
theorem DOK.inF_set {V : Nat} {l : List Dr} {k : Nat} {d : Dr} (h : DOK V l) (h' : DOK V (l.set k d)) (hk : k < l.length) {v : Int} (h0 : 0 ≤ v) : inF (l.set k d) v = if d.vol = v then some k else if inF l v = some k then none else inF l v := by
  split
  · rename_i e
    rw [h'.inF_iff]
    exact ⟨h0, by simpa using hk, by simpa using e⟩
  · rename_i e
    have key : ∀ j, inF (l.set k d) v = some j ↔ j ≠ k ∧ inF l v = some j := fun j => by
      rw [h'.inF_iff, h.inF_iff]
      constructor
      · rintro ⟨_, hj, h1⟩
        rw [List.getElem_set] at h1
        split at h1
        · exact absurd h1 e
        · rename_i e2
          exact ⟨fun e3 => e2 e3.symm, h0, by simpa using hj, h1⟩
      · rintro ⟨e2, _, hj, h1⟩
        refine ⟨h0, by simpa using hj, ?_⟩
        rw [List.getElem_set_ne (fun e3 => e2 e3.symm)]; exact h1
    cases e1 : inF (l.set k d) v with
    | none =>
      split
      · rfl
      · rename_i e2
        cases e3 : inF l v with
        | none => rfl
        | some j =>
          have := (key j).2 ⟨fun e4 => e2 (by rw [e3, e4]), e3⟩
          rw [e1] at this; cases this
    | some j =>
      obtain ⟨h1, h2⟩ := (key j).1 e1
      rw [if_neg (by rw [h2]; exact fun e4 => h1 (Option.some.inj e4))]
      exact h2.symm
theorem DOK.held_set {V : Nat} {l : List Dr} {k : Nat} {d : Dr} (h : DOK V l) (h' : DOK V (l.set k d)) (hk : k < l.length) {v : Int} (h0 : 0 ≤ v) : heldOf (l.set k d) v = if d.vol = v then d.holds else if inF l v = some k then 0 else heldOf l v := by
  have e := h.inF_set h' hk h0
  split
  · rename_i e1
    rw [if_pos e1] at e
    rw [heldOf_some e (by simpa using hk)]; simp
  · rename_i e1
    rw [if_neg e1] at e
    split
    · rename_i e2
      rw [if_pos e2] at e
      exact heldOf_none e
    · rename_i e2
      rw [if_neg e2] at e
      cases e3 : inF l v with
      | none => rw [e3] at e; rw [heldOf_none e, heldOf_none e3]
      | some j =>
        rw [e3] at e
        obtain ⟨hj, _⟩ := inF_lt e3
        rw [heldOf_some e (by simpa using hj), heldOf_some e3 hj, List.getElem_set_ne (fun e4 => e2 (by rw [e3, e4]))]
/-- the volume in a drive has other numbers. -/
theorem DOK.upd {V : Nat} {l : List Dr} (h : DOK V l) {v : Int} {k : Nat} (e : inF l v = some k) {u z : Int} (hz : 0 ≤ z) :
    DOK V (l.set k ⟨v, z, u, (l[k]?.getD default).broken⟩) ∧ ∀ x, 0 ≤ x → heldOf (l.set k ⟨v, z, u, (l[k]?.getD default).broken⟩) x = if x = v then z else heldOf l x := by
  obtain ⟨hk, h1, h0⟩ := inF_lt e
  have hg : l[k]?.getD default = l[k] := by rw [List.getElem?_eq_getElem hk]; rfl
  rw [hg]
  have h' : DOK V (l.set k ⟨v, z, u, l[k].broken⟩) := by
    refine h.set hk ?_ ?_ hz ?_
    · have := h.rng _ (List.getElem_mem hk); rw [h1] at this; exact this
    · intro hb; have := h.brk _ (List.getElem_mem hk) hb; rw [h1] at this; exact this
    · intro _ i hi hne e2
      exact hne (h.one i k hi hk (e2.trans h1.symm) (by rw [e2]; exact h0))
  refine ⟨h', fun x hx => ?_⟩
  rw [h.held_set h' hk hx]
  by_cases ex : x = v
  · rw [if_pos ex.symm, if_pos ex]
  · have ex' : ¬ v = x := fun e => ex e.symm
    rw [if_neg ex', if_neg ex, if_neg (fun e2 => ex (by obtain ⟨_, h3, _⟩ := inF_lt e2; rw [← h3, h1]))]
theorem nextF_free (l : List Dr) : ∀ k b, nextF l k = some b → ∃ hb : b < l.length, l[b].broken = false ∧ l[b].holds ≤ 0
  | 0, b, h => by cases h
  | k + 1, b, h => by
    unfold nextF at h
    have ih := nextF_free l k
    split at h
    · exact ih b h
    · rename_i d hd
      obtain ⟨hk, rfl⟩ := List.getElem?_eq_some_iff.1 hd
      split at h
      · exact ih b h
      · rename_i hn
        have hn1 : l[k].broken = false := by cases hx : l[k].broken; rfl; exact absurd (Or.inl hx) hn
        have hn2 : l[k].holds ≤ 0 := by have : ¬ 0 < l[k].holds := fun e => hn (Or.inr e); omega
        split at h
        · cases h; exact ⟨hk, hn1, hn2⟩
        · rename_i c hc
          split at h
          · cases h; exact ⟨hk, hn1, hn2⟩
          · cases h; exact ih _ hc
theorem DOK.mount {V : Nat} {l : List Dr} (h : DOK V l) {v : Int} (hv0 : 0 ≤ v) (hv1 : v < (V : Int)) (e : inF l v = none) {k : Nat} (hn : nextF l l.length = some k) (u : Int) :
    DOK V (l.set k ⟨v, 0, u, false⟩) ∧ ∀ x, 0 ≤ x → heldOf (l.set k ⟨v, 0, u, false⟩) x = heldOf l x := by
  obtain ⟨hk, h1, h2⟩ := nextF_free l _ _ hn
  have h' : DOK V (l.set k ⟨v, 0, u, false⟩) := by
    refine h.set hk (Or.inr ⟨hv0, hv1⟩) (by simp) (Int.le_refl _) ?_
    intro _ i hi hne e2
    exact inF_none e hv0 _ (List.getElem_mem hi) e2
  refine ⟨h', fun x hx => ?_⟩
  rw [h.held_set h' hk hx]
  split
  · rename_i e1
    simp only at e1
    rw [← e1, heldOf_none e]
  · split
    · rename_i e2
      rw [heldOf_some e2 hk]
      have := h.holds _ (List.getElem_mem hk)
      omega
    · rfl
theorem DOK.broke {V : Nat} {l : List Dr} (h : DOK V l) {k : Nat} (hk : k < l.length) (b : Bool) :
    DOK V (l.set k ⟨-1, 0, 0, b⟩) ∧ ∀ x, 0 ≤ x → heldOf (l.set k ⟨-1, 0, 0, b⟩) x = if inF l x = some k then 0 else heldOf l x := by
  have h' : DOK V (l.set k ⟨-1, 0, 0, b⟩) := h.set hk (Or.inl rfl) (fun _ => rfl) (Int.le_refl _) (fun h0 => by simp at h0)
  refine ⟨h', fun x hx => ?_⟩
  rw [h.held_set h' hk hx, if_neg (by show ¬ (-1 : Int) = x; omega)]
/-- all drives empty. -/
theorem DOK.empty {V : Nat} {l : List Dr} (h : ∀ d ∈ l, d.vol = -1 ∧ 0 ≤ d.holds) : DOK V l :=
  ⟨fun d hd => Or.inl (h d hd).1, fun d hd _ => (h d hd).1, fun d hd => (h d hd).2, fun i j hi hj _ h0 => by have := (h _ (List.getElem_mem hi)).1; omega⟩
theorem inF_empty {l : List Dr} (h : ∀ d ∈ l, d.vol = -1) (v : Int) : inF l v = none := by
  cases e : inF l v with
  | none => rfl
  | some k =>
    obtain ⟨hk, h1, h2⟩ := inF_lt e
    have := h _ (List.getElem_mem hk)
    omega
/-! ### what is held, of all volumes -/
def heldL (V : Nat) (l : List Dr) : List Int := (List.range V).map fun (v : Nat) => heldOf l (v : Int)
theorem heldL_len (V : Nat) (l : List Dr) : (heldL V l).length = V := by simp [heldL]
theorem heldL_get (V : Nat) (l : List Dr) (v : Nat) (h : v < V) : (heldL V l)[v]'(by rw [heldL_len]; exact h) = heldOf l (v : Int) := by simp [heldL]
theorem heldL_same {V : Nat} {l m : List Dr} (h : ∀ x, 0 ≤ x → heldOf m x = heldOf l x) : heldL V m = heldL V l := by
  unfold heldL
  exact List.map_congr_left fun v _ => h _ (by omega)
theorem heldL_one {V : Nat} {l m : List Dr} {v : Nat} {z : Int} (h : ∀ x, 0 ≤ x → heldOf m x = if x = (v : Int) then z else heldOf l x) : heldL V m = (heldL V l).set v z := by
  apply List.ext_getElem
  · simp [heldL_len]
  · intro i h1 h2
    rw [heldL_len] at h1
    rw [List.getElem_set, heldL_get V m i h1, h _ (by omega)]
    by_cases e : v = i
    · subst e; simp
    · rw [if_neg (by omega), if_neg e, heldL_get V l i h1]
theorem heldL_zero {V : Nat} {l : List Dr} (h : ∀ d ∈ l, d.vol = -1) : heldL V l = List.replicate V 0 := by
  apply List.ext_getElem
  · simp [heldL_len]
  · intro i h1 h2
    rw [heldL_len] at h1
    rw [heldL_get V l i h1, heldOf_none (inF_empty h _)]; simp
/-! ### no more are in drives than work -/
theorem nodup_le : ∀ (l m : List Nat), l.Nodup → (∀ x ∈ l, x ∈ m) → l.length ≤ m.length
  | [], m, _, _ => Nat.zero_le _
  | x :: l, m, h, k => by
    have hx : x ∈ m := k x (by simp)
    rw [List.nodup_cons] at h
    have := nodup_le l (m.erase x) h.2 fun y hy => by
      have hne : y ≠ x := fun e => h.1 (e ▸ hy)
      exact (List.mem_erase_of_ne hne).2 (k y (by simp [hy]))
    rw [List.length_erase_of_mem hx] at this
    have hp : 0 < m.length := List.length_pos_of_mem hx
    simp only [List.length_cons]; omega
/-- the drives of the first v volumes. -/
def inL (l : List Dr) (v : Nat) : List Nat := (List.range v).filterMap fun (x : Nat) => inF l (x : Int)
theorem inL_succ (l : List Dr) (v : Nat) : inL l (v + 1) = inL l v ++ (inF l (v : Int)).toList := by
  unfold inL
  rw [List.range_succ, List.filterMap_append]
  congr 1
theorem inL_mem {l : List Dr} {v k : Nat} (h : k ∈ inL l v) : ∃ x : Nat, x < v ∧ inF l (x : Int) = some k := by
  unfold inL at h
  obtain ⟨x, h1, h2⟩ := List.mem_filterMap.1 h
  exact ⟨x, List.mem_range.1 h1, h2⟩
theorem inL_new {l : List Dr} {v k : Nat} (e : inF l (v : Int) = some k) : k ∉ inL l v := by
  intro h
  obtain ⟨x, h1, h2⟩ := inL_mem h
  obtain ⟨_, a, _⟩ := inF_lt e
  obtain ⟨_, b, _⟩ := inF_lt h2
  omega
theorem inL_nodup (l : List Dr) : ∀ v, (inL l v).Nodup
  | 0 => by simp [inL]
  | v + 1 => by
    rw [inL_succ]
    cases h : inF l (v : Int) with
    | none => simpa using inL_nodup l v
    | some k =>
      rw [List.nodup_append]
      refine ⟨inL_nodup l v, by simp, fun a ha b hb => ?_⟩
      simp at hb; subst hb
      exact fun e => inL_new h (e ▸ ha)
def workN (l : List Dr) (k : Nat) : Nat := ((List.range k).filter fun i => !(l[i]?.getD default).broken).length
theorem workN_succ (l : List Dr) (k : Nat) (hk : k < l.length) : workN l (k + 1) = workN l k + (if l[k].broken = true then 0 else 1) := by
  unfold workN
  rw [List.range_succ, List.filter_append, List.length_append]
  congr 1
  have hg : l[k]?.getD default = l[k] := by rw [List.getElem?_eq_getElem hk]; rfl
  cases h : l[k].broken <;> simp [hg, h]
theorem DOK.work {V : Nat} {l : List Dr} (h : DOK V l) (v : Nat) : (inL l v).length ≤ workN l l.length := by
  unfold workN
  refine nodup_le _ _ (inL_nodup l v) fun k hk => ?_
  obtain ⟨x, h1, h2⟩ := inL_mem hk
  obtain ⟨a, b, _⟩ := inF_lt h2
  have hg : l[k]?.getD default = l[k] := by rw [List.getElem?_eq_getElem a]; rfl
  rw [List.mem_filter]
  refine ⟨List.mem_range.2 a, ?_⟩
  rw [hg]
  cases hb : l[k].broken
  · rfl
  · have := h.brk _ (List.getElem_mem a) hb; omega
end Go.Proofs.Ytcogjlfdhiomnaa
