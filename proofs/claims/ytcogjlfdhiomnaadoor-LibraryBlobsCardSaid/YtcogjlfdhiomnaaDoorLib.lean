/- Libraries (package library): what a library is in memory, and the plain laws of In, next and Mount. -/
import Derived.Test.YtcogjlfdhiomnaaDoorReel
import Derived.Test.YtcogjlfdhiomnaaDoorMg1
namespace Go.Proofs.YtcogjlfdhiomnaaDoor
open Go.RowKit
set_option linter.unusedVariables false
set_option maxRecDepth 100000

/-- a drive. -/
structure Dr where
  vol : Int
  holds : Int
  used : Int
  broken : Bool
instance : Inhabited Dr := ⟨⟨-1, 0, 0, false⟩⟩
def dc (d : Dr) : List Value := [.int .i64 d.vol, .int .i64 d.holds, .int .i64 d.used, .bool d.broken]
theorem dc_len (d : Dr) : (dc d).length = 4 := rfl
theorem dc_one1 (d : Dr) : ∀ u ∈ dc d, u.oneCell' = true := by
  intro u hu; simp [dc] at hu; rcases hu with rfl | rfl | rfl | rfl <;> rfl
def ptrV (p : Nat) : Value := .pointer (some ⟨p, 0, none⟩)
/-- what a library says: its volumes by their places, its drives. -/
structure Lst where
  vols : List (Nat × Vst)
  drs : List Dr
  moves : Int
  mounts : Int
def volsP (l : List (Nat × Vst)) : HP := sepL (l.map fun x => volp x.1 x.2)
def lcells (S : Lst) (sv sd : Value) : List Value := [sv, sd, .int .i64 S.moves, .int .i64 S.mounts]
def ptrs (l : List (Nat × Vst)) : List Value := l.map fun x => ptrV x.1
def libp (q : Nat) (S : Lst) : HP := fun g => ∃ av cv ad cd, sepL [blk q 103 (lcells S (.slice av S.vols.length cv) (.slice ad S.drs.length cd)), row 26 1 (.slice av S.vols.length cv) S.vols.length (ptrs S.vols), row 105 4 (.slice ad S.drs.length cd) S.drs.length (S.drs.flatMap dc), volsP S.vols] g
theorem slPtr : SliceT Tryd.prog 100 26 1 8 := ⟨Tryd.underlying100, ⟨_, _, rfl, rfl, rfl, rfl, rfl⟩, by decide⟩
theorem slDr : SliceT Tryd.prog 101 105 4 32 := ⟨Tryd.underlying101, ⟨_, _, rfl, rfl, rfl, rfl, rfl⟩, by decide⟩
/-! ### one of several parts taken out, and put back -/
theorem sepL_unpick : ∀ (i : Nat) {L : List HP} {A B : HP} {h : Part}, L[i]? = some B → sepL (A :: L.eraseIdx i) h → sepL (L.set i A) h
  | _, [], _, _, _, e, _ => by simp at e
  | 0, C :: L, A, B, h, e, s => by simpa using s
  | i + 1, C :: L, A, B, h, e, s => by
    have s2 : sepL (C :: A :: L.eraseIdx i) h := sepL_swap (by simpa using s)
    obtain ⟨g, hg, hC, hL⟩ := s2
    exact ⟨g, hg, hC, sepL_unpick i (B := B) (by simpa using e) hL⟩
section
variable {w0 w : World} {I : Part} {L : List HP} {q : Nat} {S : Lst} {l : List (Nat × Vst)}
def volsB (l : List (Nat × Vst)) (i : Nat) : HP := sepL ((l.map fun x => volp x.1 x.2).eraseIdx i)
theorem Sat.volTake (h : Sat w0 I (volsP l :: L) w) (i : Nat) {p : Nat} {v : Vst} (hi : l[i]? = some (p, v)) : Sat w0 I (volp p v :: volsB l i :: L) w := by
  have h2 : (l.map fun x => volp x.1 x.2)[i]? = some (volp p v) := by rw [List.getElem?_map, hi]; rfl
  have h3 : Sat w0 I (sepL (volp p v :: (l.map fun x => volp x.1 x.2).eraseIdx i) :: L) w := h.weaken fun g s => sepL_pick i h2 s
  have h4 : Sat w0 I (volp p v :: ((l.map fun x => volp x.1 x.2).eraseIdx i ++ L)) w := h3.flat
  exact h4.mapL fun g ⟨x, hx, a, s⟩ => ⟨x, hx, a, sepL_join _ s⟩
theorem Sat.volPut {i : Nat} {p : Nat} {v v' : Vst} (h : Sat w0 I (volp p v' :: volsB l i :: L) w) (hi : l[i]? = some (p, v)) : Sat w0 I (volsP (l.set i (p, v')) :: L) w := by
  have h2 : (l.map fun x => volp x.1 x.2)[i]? = some (volp p v) := by rw [List.getElem?_map, hi]; rfl
  refine h.of (M := [_, _]) fun g s => ?_
  have s2 : sepL ([volp p v'] ++ [sepL ((l.map fun x => volp x.1 x.2).eraseIdx i)]) g := s
  have s3 : sepL (volp p v' :: (l.map fun x => volp x.1 x.2).eraseIdx i) g := by
    obtain ⟨x, hx, a, s4⟩ := s2
    refine ⟨x, hx, a, ?_⟩
    have s5 : sepL ((l.map fun x => volp x.1 x.2).eraseIdx i ++ []) _ := sepL_flat _ s4
    simpa using s5
  have := sepL_unpick i h2 s3
  unfold volsP
  rw [List.map_set]
  exact this
theorem Sat.libOpen (h : Sat w0 I (libp q S :: L) w) : ∃ av cv ad cd, S.vols.length ≤ cv ∧ cv ≤ 9223372036854775807 ∧ S.drs.length ≤ cd ∧ cd ≤ 9223372036854775807 ∧
    Sat w0 I (blk q 103 (lcells S (.slice av S.vols.length cv) (.slice ad S.drs.length cd)) :: row 26 1 (.slice av S.vols.length cv) S.vols.length (ptrs S.vols) :: row 105 4 (.slice ad S.drs.length cd) S.drs.length (S.drs.flatMap dc) :: volsP S.vols :: L) w := by
  obtain ⟨g, hg, ⟨av, cv, ad, cd, s⟩, r⟩ := h.sep
  have h2 : Sat w0 I (sepL [_, _, _, _] :: L) w := ⟨h.os, h.tape, h.output, h.size, h.imm, g, hg, s, r⟩
  have h3 := h2.flat
  obtain ⟨_, _, e, k1, k2⟩ := own_shape (h3.pick 1).isRow
  obtain ⟨_, _, e2, k3, k4⟩ := own_shape (h3.pick 2).isRow
  simp only [Value.slice.injEq, true_and] at e e2
  obtain ⟨rfl, rfl⟩ := e
  obtain ⟨rfl, rfl⟩ := e2
  exact ⟨av, cv, ad, cd, k1, k2, k3, k4, h3⟩
theorem Sat.libClose {av ad : Option Addr} {cv cd : Nat} (h : Sat w0 I (blk q 103 (lcells S (.slice av S.vols.length cv) (.slice ad S.drs.length cd)) :: row 26 1 (.slice av S.vols.length cv) S.vols.length (ptrs S.vols) :: row 105 4 (.slice ad S.drs.length cd) S.drs.length (S.drs.flatMap dc) :: volsP S.vols :: L) w) : Sat w0 I (libp q S :: L) w :=
  h.of (M := [_, _, _, _]) fun g s => ⟨av, cv, ad, cd, s⟩
/-- the cells of a drive. -/
theorem row4 {l : List Dr} {sv : Value} (h : Sat w0 I (row 105 4 sv l.length (l.flatMap dc) :: L) w) (i : Nat) (hi : i < l.length) : ∃ g cap, sv = .slice (some ⟨g, 0, none⟩) l.length cap ∧
    w.cell? ⟨g, i * 4, none⟩ = some (.int .i64 l[i].vol) ∧ w.cell? ⟨g, i * 4 + 1, none⟩ = some (.int .i64 l[i].holds) ∧ w.cell? ⟨g, i * 4 + 2, none⟩ = some (.int .i64 l[i].used) ∧ w.cell? ⟨g, i * 4 + 3, none⟩ = some (.bool l[i].broken) ∧ ∀ j, w.frozen? ⟨g, j, none⟩ = false := by
  obtain ⟨g, cap, cur, rfl, _, _⟩ := own_open h.isRow (by omega)
  have c := fun j (hj : j < 4) => own_cell h.isRow (i * 4 + j) (u := (dc l[i])[j]'(by rw [dc_len]; exact hj)) (by rw [flat_get dc dc_len l i j hi hj, List.getElem?_eq_getElem])
  exact ⟨g, cap, rfl, c 0 (by omega), c 1 (by omega), c 2 (by omega), c 3 (by omega), fun j => own_frozen h.isRow j⟩
theorem row1 {l : List (Nat × Vst)} {sv : Value} (h : Sat w0 I (row 26 1 sv l.length (ptrs l) :: L) w) (i : Nat) (hi : i < l.length) : ∃ g cap, sv = .slice (some ⟨g, 0, none⟩) l.length cap ∧
    w.cell? ⟨g, i, none⟩ = some (.pointer (some ⟨l[i].1, 0, none⟩)) := by
  obtain ⟨g, cap, cur, rfl, _, _⟩ := own_open h.isRow (by omega)
  exact ⟨g, cap, rfl, own_cell h.isRow i (by unfold ptrs ptrV; rw [List.getElem?_map, List.getElem?_eq_getElem hi]; rfl)⟩
end
/-! ### the plain laws -/
def onI : Option Nat → Int
  | none => -1
  | some k => (k : Int)
/-- the drive that has a volume. -/
def inF (l : List Dr) (vol : Int) : Option Nat := if vol < 0 then none else l.findIdx? fun d => d.vol == vol
/-- the next drive, of the first k. -/
def nextF (l : List Dr) : Nat → Option Nat
  | 0 => none
  | k + 1 => match l[k]? with
    | none => nextF l k
    | some d => if d.broken = true ∨ 0 < d.holds then nextF l k else
      match nextF l k with
      | none => some k
      | some b => if d.used < (l[b]?.getD default).used then some k else some b
theorem nextF_lt (l : List Dr) : ∀ k b, nextF l k = some b → b < k ∧ b < l.length
  | 0, b, h => by cases h
  | k + 1, b, h => by
    unfold nextF at h
    have ih := nextF_lt l k
    split at h
    · obtain ⟨h1, h2⟩ := ih b h; exact ⟨by omega, h2⟩
    · rename_i d hd
      have hk : k < l.length := (List.getElem?_eq_some_iff.1 hd).1
      split at h
      · obtain ⟨h1, h2⟩ := ih b h; exact ⟨by omega, h2⟩
      · split at h
        · cases h; exact ⟨by omega, hk⟩
        · rename_i c hc
          split at h
          · cases h; exact ⟨by omega, hk⟩
          · cases h
            obtain ⟨h1, h2⟩ := ih _ hc; exact ⟨by omega, h2⟩
theorem inF_lt {l : List Dr} {vol : Int} {k : Nat} (h : inF l vol = some k) : ∃ hk : k < l.length, l[k].vol = vol ∧ 0 ≤ vol := by
  unfold inF at h
  split at h
  · cases h
  · obtain ⟨h1, h2, _⟩ := List.findIdx?_eq_some_iff_getElem.1 h
    exact ⟨h1, by simpa using h2, by omega⟩
theorem inF_none {l : List Dr} {vol : Int} (h : inF l vol = none) (h0 : 0 ≤ vol) : ∀ d ∈ l, d.vol ≠ vol := by
  unfold inF at h
  rw [if_neg (by omega)] at h
  intro d hd
  have := List.findIdx?_eq_none_iff.1 h d hd
  simpa using this
/-- what Mount does. -/
def mountS (S : Lst) (vol : Int) : Int × Int × Lst :=
  if vol < 0 then (-1, 1, S) else
  match S.vols[vol.toNat]? with
  | none => (-1, 1, S)
  | some x => if x.2.lost = true then (-1, 14, S) else
    match inF S.drs vol with
    | some n => (n, 0, {S with drs := S.drs.set n {(S.drs[n]?.getD default) with used := S.mounts + 1}, mounts := S.mounts + 1})
    | none => match nextF S.drs S.drs.length with
      | none => (-1, 10, S)
      | some n => (n, 0, {S with drs := S.drs.set n ⟨vol, 0, S.mounts + 1, false⟩, moves := S.moves + 1, mounts := S.mounts + 1})
def fineV (vs : List (Nat × Vst)) : Prop := ∀ x ∈ vs, x.2.lost = false
theorem mountS_fine {S : Lst} {vs : List (Nat × Vst)} (hv : S.vols = vs) (hf : fineV vs) {v : Int} (h0 : 0 ≤ v) (h1 : v < (vs.length : Int)) : mountS S v = match inF S.drs v with
    | some n => (n, 0, {S with drs := S.drs.set n {(S.drs[n]?.getD default) with used := S.mounts + 1}, mounts := S.mounts + 1})
    | none => match nextF S.drs S.drs.length with
      | none => (-1, 10, S)
      | some n => (n, 0, {S with drs := S.drs.set n ⟨v, 0, S.mounts + 1, false⟩, moves := S.moves + 1, mounts := S.mounts + 1}) := by
  subst hv
  have hlt : v.toNat < S.vols.length := by omega
  unfold mountS
  rw [if_neg (by omega), List.getElem?_eq_getElem hlt]
  simp only
  rw [if_neg (by rw [hf _ (List.getElem_mem hlt)]; decide)]
  all_goals (cases inF S.drs v; (cases nextF S.drs S.drs.length <;> rfl); rfl)
end Go.Proofs.YtcogjlfdhiomnaaDoor
