/- make([]int, n): a row of the call's own, in parts of the memory. Libraries (package library): what a library is in memory, and the plain laws of In, next and Mount. Libraries: contracts of Volume, In, next, Moves. -/
import Derived.Test.YtekioplbfoonkaaGreatDoorMg1
import Derived.OwnWalk
import Derived.Test.YtekioplbfoonkaaGreatDoorReel
import Derived.BigQuiet
namespace Go.Proofs.YtekioplbfoonkaaGreatDoor
open Go.RowKit
set_option linter.unusedVariables false
set_option maxRecDepth 100000
theorem infoInt : (Tryz.prog.info? 3).map (fun i => (i.zero, i.size, i.bytes)) = some (some (.int .i64 0), 1, 8) := by kernel_rfl
theorem madeInts (n : Nat) : (madeCells (Value.int .i64 0).cells (n * 1)).toList = (List.replicate n (0 : Int)).map (Value.int .i64) := by
  rw [Nat.mul_one]
  show (madeCells #[.int .i64 0] n).toList = _
  rw [toList_madeCells_one, List.map_replicate]
theorem Part.minus_antiM {I J : Part} (h : I.le J) (g : Part) : (g.minus J).le (g.minus I) := fun b o e => by
  refine Part.minus_some (Part.minus_le _ _ b o e) ?_
  have := Part.minus_none e
  cases hx : I b with
  | none => rfl
  | some u => rw [h b u hx] at this; cases this
/-- what was kept for a while may go. -/
theorem Sat.thawM {w0 w : World} {I J : Part} {L : List HP} (h : Sat w0 J L w) (k : I.le J) : Sat w0 I L w := ⟨h.os, h.tape, h.output, h.size, Part.le_trans k h.imm, sepL_mono L (Part.minus_antiM k _) h.sep⟩
/-- what a call did to its own memory, beside whatever else is known. -/
theorem Sat.frame {w0 w w' : World} {I : Part} {L M : List HP} (h : Sat w0 I L w) (k : Sat w (wpart w) M w') : Sat w0 I (M ++ L) w' := by
  refine ⟨k.os.trans h.os, k.tape.trans h.tape, k.output.trans h.output, Nat.le_trans h.size k.size, Part.le_trans h.imm k.imm, sepL_flat M ⟨(wpart w').minus (wpart w), ?_, k.sep, sepL_mono L ?_ h.sep⟩⟩
  · intro b o e
    have e1 := Part.minus_none e
    refine Part.minus_some (Part.minus_le _ _ b o e) ?_
    cases hx : I b with
    | none => rfl
    | some u => rw [h.imm b u hx] at e1; cases e1
  · intro b o e
    have e1 := Part.minus_none e
    have e2 := Part.minus_le _ _ b o e
    refine Part.minus_some (Part.minus_some (k.imm b o e2) e1) ?_
    unfold Part.minus
    rw [e2]; rfl
theorem Blk.rd {w : World} {b : Nat} {T : TypeId} {cs : List Value} (h : Blk w b T cs) : Rd (wpart w) (some ⟨b, 0, none⟩) cs := fun i hi =>
  ⟨b, 0, rfl, by rw [Nat.zero_add]; exact cellI_start (h.cell i (List.getElem?_eq_getElem hi))⟩
theorem Sat.madeRow {w0 w w' : World} {I : Part} {L : List HP} {base : Nat} {e : TypeId} {sz n m : Nat} {b : Nat} {xs : List Value} (h : Sat w0 I L w) (ho : w'.ownsRow base e sz (.slice (some ⟨b, 0, none⟩) n m) n xs) (hg : w.grownBy w' none) (hb : b = w.heap.size) : Sat w0 I (row e sz (.slice (some ⟨b, 0, none⟩) n m) n xs :: L) w' := by
  subst hb
  exact (h.nilRow e sz).grown ho hg (fun k hk => by simp only [Value.ownBlock, Option.some.injEq] at hk; right; omega)
def zsL (n : Nat) : List Value := (List.replicate n (0 : Int)).map (Value.int .i64)
/-- make([]int, n), for a region that draws its order: laid open ahead of it. -/
theorem run_mkInts (n : Nat) (hn : n ≤ 1000000) (w : World) : (Instr.makeSlice 23 (.int .i64 (n : Int)) (.int .i64 (n : Int))).run Tryz.prog w = .ok (.slice (some ⟨w.heap.size, 0, none⟩) n n) (w.alloc (.cells (zsL n).toArray 3)) := by
  unfold zsL
  obtain ⟨i, hi1, hi2, hi3, hi4⟩ := info_parts infoInt
  have hr := run_make (P := Tryz.prog) w 23 3 i (.int .i64 0) Tryz.underlying23 hi1 hi2 .i64 .i64 n n (by omega) (Int.le_refl _) (by rw [hi4]; omega) (by omega)
  rw [hr, hi3]
  simp only [Int.toNat_natCast]
  congr 3
  have := madeInts n
  rw [← this]
theorem Sat.madeAt {w0 w : World} {I : Part} {L : List HP} (h : Sat w0 I L w) {g n : Nat} (hg : g = w.heap.size) (hn : n ≤ 1000000) : Sat w0 I (row 3 1 (.slice (some ⟨g, 0, none⟩) n n) n ((List.replicate n (0 : Int)).map (Value.int .i64)) :: L) (w.alloc (.cells ((List.replicate n (0 : Int)).map (Value.int .i64)).toArray 3)) :=
  (h.alloc (cs := (List.replicate n (0 : Int)).map (Value.int .i64)) (T := 3) rfl hg).weaken fun x hx => ⟨by simp, Or.inr ⟨g, n, _, rfl, hx, Nat.le_refl _, by unfold maxLen; omega, by simp, by simp⟩⟩
section
variable {w0 w : World} {I : Part} {L : List HP} {ops : Array Oper} {rest : List Oper} {o : Oper} {a : Act} {Q : Exit → Act → World → Prop}
theorem wp_makeInts {K : Act → World → Prop} (l c : Operand) (hop : o.op = Op.makeSlice 23 l c) (n : Nat) {z y : Int} (hl : a.eval l = .int .i64 z) (hc : a.eval c = .int .i64 y) (hz : z = (n : Int)) (hy : y = (n : Int)) (hn : n ≤ 1000000) (H : Sat w0 I L w)
    (h : ∀ g w', Sat w0 I (row 3 1 (.slice (some ⟨g, 0, none⟩) n n) n (zsL n) :: L) w' → K (a.put o.dst (.slice (some ⟨g, 0, none⟩) n n)) w') : o.wp Tryz.prog a w K Q := by
  obtain ⟨i, hi1, hi2, hi3, hi4⟩ := info_parts infoInt
  subst hz hy
  obtain ⟨w', hrun, r1, r2⟩ := run_make_full (P := Tryz.prog) w 0 23 3 i (.int .i64 0) 1 Tryz.underlying23 hi1 hi2 hi3 .i64 .i64 n (by rw [hi4]; omega) (by unfold maxLen; omega) (Nat.zero_le _)
  rw [madeInts] at r1
  replace r1 : w'.ownsRow 0 3 1 (.slice (some ⟨w.heap.size, 0, none⟩) n n) n (zsL n) := r1
  unfold Oper.wp
  simp [execOp, hop, hl, hc, hrun, Result.andThen]
  exact h _ _ (H.madeRow r1 r2 rfl)
theorem wpList_makeInts (hg : o.guard = none) (l c : Operand) (hop : o.op = Op.makeSlice 23 l c) (n : Nat) {z y : Int} (hl : a.eval l = .int .i64 z) (hc : a.eval c = .int .i64 y) (hz : z = (n : Int)) (hy : y = (n : Int)) (hn : n ≤ 1000000) (H : Sat w0 I L w)
    (h : ∀ g w', Sat w0 I (row 3 1 (.slice (some ⟨g, 0, none⟩) n n) n (zsL n) :: L) w' → wpList Tryz.prog ops Q rest (a.put o.dst (.slice (some ⟨g, 0, none⟩) n n)) w') : wpList Tryz.prog ops Q (o :: rest) a w :=
  wpList_plain hg fun _ hK => wp_makeInts l c hop n hl hc hz hy hn H fun g w' h1 => hK _ _ (h g w' h1)
theorem step_makeInts {K : Act → World → Prop} {E : Prop} (hg : o.guard = none) (l c : Operand) (hop : o.op = Op.makeSlice 23 l c) (n : Nat) {z y : Int} (hl : a.eval l = .int .i64 z) (hc : a.eval c = .int .i64 y) (hz : z = (n : Int)) (hy : y = (n : Int)) (hn : n ≤ 1000000) (H : Sat w0 I L w)
    (h : ∀ g w', Sat w0 I (row 3 1 (.slice (some ⟨g, 0, none⟩) n n) n (zsL n) :: L) w' → K (a.put o.dst (.slice (some ⟨g, 0, none⟩) n n)) w') :
    if Region.wanted o (yielded ops a.tmps) = true then Oper.wp Tryz.prog o a w K Q else E := by
  have hw : Region.wanted o (yielded ops a.tmps) = true := by simp [Region.wanted, hg]
  rw [if_pos hw]
  exact wp_makeInts l c hop n hl hc hz hy hn H h
end
end Go.Proofs.YtekioplbfoonkaaGreatDoor
namespace Go.Proofs.YtekioplbfoonkaaGreatDoor
open Go.RowKit
set_option linter.unusedVariables false
set_option maxRecDepth 100000

/-- a drive. -/
structure Dr where
  vol : Int
  holds : Int
  used : Int
  broken : Bool
instance : Inhabited Dr := ⟨⟨-1, 0, 0, false⟩⟩
def dc (d : Dr) : List Value := [.int .i64 d.vol, .int .i64 d.holds, .int .i64 d.used, .bool d.broken]
theorem dc_len (d : Dr) : (dc d).length = 4 := rfl
theorem dc_one1 (d : Dr) : ∀ u ∈ dc d, u.oneCell' = true := by
  intro u hu; simp [dc] at hu; rcases hu with rfl | rfl | rfl | rfl <;> rfl
def ptrV (p : Nat) : Value := .pointer (some ⟨p, 0, none⟩)
/-- what a library says: its volumes by their places, its drives. -/
structure Lst where
  vols : List (Nat × Vst)
  drs : List Dr
  moves : Int
  mounts : Int
def volsP (l : List (Nat × Vst)) : HP := sepL (l.map fun x => volp x.1 x.2)
def lcells (S : Lst) (sv sd : Value) : List Value := [sv, sd, .int .i64 S.moves, .int .i64 S.mounts]
def ptrs (l : List (Nat × Vst)) : List Value := l.map fun x => ptrV x.1
def libp (q : Nat) (S : Lst) : HP := fun g => ∃ av cv ad cd, sepL [blk q 99 (lcells S (.slice av S.vols.length cv) (.slice ad S.drs.length cd)), row 47 1 (.slice av S.vols.length cv) S.vols.length (ptrs S.vols), row 101 4 (.slice ad S.drs.length cd) S.drs.length (S.drs.flatMap dc), volsP S.vols] g
theorem slPtr : SliceT Tryz.prog 96 47 1 8 := ⟨Tryz.underlying96, ⟨_, _, rfl, rfl, rfl, rfl, rfl⟩, by decide⟩
theorem slDr : SliceT Tryz.prog 97 101 4 32 := ⟨Tryz.underlying97, ⟨_, _, rfl, rfl, rfl, rfl, rfl⟩, by decide⟩
/-! ### one of several parts taken out, and put back -/
theorem sepL_unpick : ∀ (i : Nat) {L : List HP} {A B : HP} {h : Part}, L[i]? = some B → sepL (A :: L.eraseIdx i) h → sepL (L.set i A) h
  | _, [], _, _, _, e, _ => by simp at e
  | 0, C :: L, A, B, h, e, s => by simpa using s
  | i + 1, C :: L, A, B, h, e, s => by
    have s2 : sepL (C :: A :: L.eraseIdx i) h := sepL_swap (by simpa using s)
    obtain ⟨g, hg, hC, hL⟩ := s2
    exact ⟨g, hg, hC, sepL_unpick i (B := B) (by simpa using e) hL⟩
section
variable {w0 w : World} {I : Part} {L : List HP} {q : Nat} {S : Lst} {l : List (Nat × Vst)}
def volsB (l : List (Nat × Vst)) (i : Nat) : HP := sepL ((l.map fun x => volp x.1 x.2).eraseIdx i)
theorem Sat.volTake (h : Sat w0 I (volsP l :: L) w) (i : Nat) {p : Nat} {v : Vst} (hi : l[i]? = some (p, v)) : Sat w0 I (volp p v :: volsB l i :: L) w := by
  have h2 : (l.map fun x => volp x.1 x.2)[i]? = some (volp p v) := by rw [List.getElem?_map, hi]; rfl
  have h3 : Sat w0 I (sepL (volp p v :: (l.map fun x => volp x.1 x.2).eraseIdx i) :: L) w := h.weaken fun g s => sepL_pick i h2 s
  have h4 : Sat w0 I (volp p v :: ((l.map fun x => volp x.1 x.2).eraseIdx i ++ L)) w := h3.flat
  exact h4.mapL fun g ⟨x, hx, a, s⟩ => ⟨x, hx, a, sepL_join _ s⟩
theorem Sat.volPut {i : Nat} {p : Nat} {v v' : Vst} (h : Sat w0 I (volp p v' :: volsB l i :: L) w) (hi : l[i]? = some (p, v)) : Sat w0 I (volsP (l.set i (p, v')) :: L) w := by
  have h2 : (l.map fun x => volp x.1 x.2)[i]? = some (volp p v) := by rw [List.getElem?_map, hi]; rfl
  refine h.of (M := [_, _]) fun g s => ?_
  have s2 : sepL ([volp p v'] ++ [sepL ((l.map fun x => volp x.1 x.2).eraseIdx i)]) g := s
  have s3 : sepL (volp p v' :: (l.map fun x => volp x.1 x.2).eraseIdx i) g := by
    obtain ⟨x, hx, a, s4⟩ := s2
    refine ⟨x, hx, a, ?_⟩
    have s5 : sepL ((l.map fun x => volp x.1 x.2).eraseIdx i ++ []) _ := sepL_flat _ s4
    simpa using s5
  have := sepL_unpick i h2 s3
  unfold volsP
  rw [List.map_set]
  exact this
theorem Sat.libOpen (h : Sat w0 I (libp q S :: L) w) : ∃ av cv ad cd, S.vols.length ≤ cv ∧ cv ≤ 9223372036854775807 ∧ S.drs.length ≤ cd ∧ cd ≤ 9223372036854775807 ∧
    Sat w0 I (blk q 99 (lcells S (.slice av S.vols.length cv) (.slice ad S.drs.length cd)) :: row 47 1 (.slice av S.vols.length cv) S.vols.length (ptrs S.vols) :: row 101 4 (.slice ad S.drs.length cd) S.drs.length (S.drs.flatMap dc) :: volsP S.vols :: L) w := by
  obtain ⟨g, hg, ⟨av, cv, ad, cd, s⟩, r⟩ := h.sep
  have h2 : Sat w0 I (sepL [_, _, _, _] :: L) w := ⟨h.os, h.tape, h.output, h.size, h.imm, g, hg, s, r⟩
  have h3 := h2.flat
  obtain ⟨_, _, e, k1, k2⟩ := own_shape (h3.pick 1).isRow
  obtain ⟨_, _, e2, k3, k4⟩ := own_shape (h3.pick 2).isRow
  simp only [Value.slice.injEq, true_and] at e e2
  obtain ⟨rfl, rfl⟩ := e
  obtain ⟨rfl, rfl⟩ := e2
  exact ⟨av, cv, ad, cd, k1, k2, k3, k4, h3⟩
theorem Sat.libClose {av ad : Option Addr} {cv cd : Nat} (h : Sat w0 I (blk q 99 (lcells S (.slice av S.vols.length cv) (.slice ad S.drs.length cd)) :: row 47 1 (.slice av S.vols.length cv) S.vols.length (ptrs S.vols) :: row 101 4 (.slice ad S.drs.length cd) S.drs.length (S.drs.flatMap dc) :: volsP S.vols :: L) w) : Sat w0 I (libp q S :: L) w :=
  h.of (M := [_, _, _, _]) fun g s => ⟨av, cv, ad, cd, s⟩
/-- the cells of a drive. -/
theorem row4 {l : List Dr} {sv : Value} (h : Sat w0 I (row 101 4 sv l.length (l.flatMap dc) :: L) w) (i : Nat) (hi : i < l.length) : ∃ g cap, sv = .slice (some ⟨g, 0, none⟩) l.length cap ∧
    w.cell? ⟨g, i * 4, none⟩ = some (.int .i64 l[i].vol) ∧ w.cell? ⟨g, i * 4 + 1, none⟩ = some (.int .i64 l[i].holds) ∧ w.cell? ⟨g, i * 4 + 2, none⟩ = some (.int .i64 l[i].used) ∧ w.cell? ⟨g, i * 4 + 3, none⟩ = some (.bool l[i].broken) ∧ ∀ j, w.frozen? ⟨g, j, none⟩ = false := by
  obtain ⟨g, cap, cur, rfl, _, _⟩ := own_open h.isRow (by omega)
  have c := fun j (hj : j < 4) => own_cell h.isRow (i * 4 + j) (u := (dc l[i])[j]'(by rw [dc_len]; exact hj)) (by rw [flat_get dc dc_len l i j hi hj, List.getElem?_eq_getElem])
  exact ⟨g, cap, rfl, c 0 (by omega), c 1 (by omega), c 2 (by omega), c 3 (by omega), fun j => own_frozen h.isRow j⟩
theorem row1 {l : List (Nat × Vst)} {sv : Value} (h : Sat w0 I (row 47 1 sv l.length (ptrs l) :: L) w) (i : Nat) (hi : i < l.length) : ∃ g cap, sv = .slice (some ⟨g, 0, none⟩) l.length cap ∧
    w.cell? ⟨g, i, none⟩ = some (.pointer (some ⟨l[i].1, 0, none⟩)) := by
  obtain ⟨g, cap, cur, rfl, _, _⟩ := own_open h.isRow (by omega)
  exact ⟨g, cap, rfl, own_cell h.isRow i (by unfold ptrs ptrV; rw [List.getElem?_map, List.getElem?_eq_getElem hi]; rfl)⟩
end
/-! ### the plain laws -/
def onI : Option Nat → Int
  | none => -1
  | some k => (k : Int)
/-- the drive that has a volume. -/
def inF (l : List Dr) (vol : Int) : Option Nat := if vol < 0 then none else l.findIdx? fun d => d.vol == vol
/-- the next drive, of the first k. -/
def nextF (l : List Dr) : Nat → Option Nat
  | 0 => none
  | k + 1 => match l[k]? with
    | none => nextF l k
    | some d => if d.broken = true ∨ 0 < d.holds then nextF l k else
      match nextF l k with
      | none => some k
      | some b => if d.used < (l[b]?.getD default).used then some k else some b
theorem nextF_lt (l : List Dr) : ∀ k b, nextF l k = some b → b < k ∧ b < l.length
  | 0, b, h => by cases h
  | k + 1, b, h => by
    unfold nextF at h
    have ih := nextF_lt l k
    split at h
    · obtain ⟨h1, h2⟩ := ih b h; exact ⟨by omega, h2⟩
    · rename_i d hd
      have hk : k < l.length := (List.getElem?_eq_some_iff.1 hd).1
      split at h
      · obtain ⟨h1, h2⟩ := ih b h; exact ⟨by omega, h2⟩
      · split at h
        · cases h; exact ⟨by omega, hk⟩
        · rename_i c hc
          split at h
          · cases h; exact ⟨by omega, hk⟩
          · cases h
            obtain ⟨h1, h2⟩ := ih _ hc; exact ⟨by omega, h2⟩
theorem inF_lt {l : List Dr} {vol : Int} {k : Nat} (h : inF l vol = some k) : ∃ hk : k < l.length, l[k].vol = vol ∧ 0 ≤ vol := by
  unfold inF at h
  split at h
  · cases h
  · obtain ⟨h1, h2, _⟩ := List.findIdx?_eq_some_iff_getElem.1 h
    exact ⟨h1, by simpa using h2, by omega⟩
theorem inF_none {l : List Dr} {vol : Int} (h : inF l vol = none) (h0 : 0 ≤ vol) : ∀ d ∈ l, d.vol ≠ vol := by
  unfold inF at h
  rw [if_neg (by omega)] at h
  intro d hd
  have := List.findIdx?_eq_none_iff.1 h d hd
  simpa using this
/-- what Mount does. -/
def mountS (S : Lst) (vol : Int) : Int × Int × Lst :=
  if vol < 0 then (-1, 1, S) else
  match S.vols[vol.toNat]? with
  | none => (-1, 1, S)
  | some x => if x.2.lost = true then (-1, 14, S) else
    match inF S.drs vol with
    | some n => (n, 0, {S with drs := S.drs.set n {(S.drs[n]?.getD default) with used := S.mounts + 1}, mounts := S.mounts + 1})
    | none => match nextF S.drs S.drs.length with
      | none => (-1, 10, S)
      | some n => (n, 0, {S with drs := S.drs.set n ⟨vol, 0, S.mounts + 1, false⟩, moves := S.moves + 1, mounts := S.mounts + 1})
def fineV (vs : List (Nat × Vst)) : Prop := ∀ x ∈ vs, x.2.lost = false
theorem mountS_fine {S : Lst} {vs : List (Nat × Vst)} (hv : S.vols = vs) (hf : fineV vs) {v : Int} (h0 : 0 ≤ v) (h1 : v < (vs.length : Int)) : mountS S v = match inF S.drs v with
    | some n => (n, 0, {S with drs := S.drs.set n {(S.drs[n]?.getD default) with used := S.mounts + 1}, mounts := S.mounts + 1})
    | none => match nextF S.drs S.drs.length with
      | none => (-1, 10, S)
      | some n => (n, 0, {S with drs := S.drs.set n ⟨v, 0, S.mounts + 1, false⟩, moves := S.moves + 1, mounts := S.mounts + 1}) := by
  subst hv
  have hlt : v.toNat < S.vols.length := by omega
  unfold mountS
  rw [if_neg (by omega), List.getElem?_eq_getElem hlt]
  simp only
  rw [if_neg (by rw [hf _ (List.getElem_mem hlt)]; decide)]
  all_goals (cases inF S.drs v; (cases nextF S.drs S.drs.length <;> rfl); rfl)
end Go.Proofs.YtekioplbfoonkaaGreatDoor
namespace Go.Proofs.YtekioplbfoonkaaGreatDoor
open Go.RowKit
set_option linter.unusedVariables false
set_option maxRecDepth 100000
set_option maxHeartbeats 2000000
section
variable {w0 w : World} {I : Part} {L : List HP} {q : Nat} {S : Lst}
theorem lvol_no (vol : Int) (hv : vol < 0 ∨ (S.vols.length : Int) ≤ vol) (H : Sat w0 I (libp q S :: L) w) :
    Calls Tryz.prog 15 #[.pointer (some ⟨q, 0, none⟩), .int .i64 vol] w fun e w' => e = .returned (.pointer none) ∧ Sat w0 I (libp q S :: L) w' := by
  obtain ⟨av, cv, ad, cd, k1, k2, k3, k4, H1⟩ := H.libOpen
  have c : w.cell? ⟨q, 0, none⟩ = some (.slice av S.vols.length cv) := H1.isBlk.cell 0 rfl
  refine ret_sat ?_ H
  clear H H1
  by_cases h0 : vol < 0
  · go_enter Tryz.func15, Tryz.ntmps15
    go_wp2
    go_ret
    exact ⟨rfl, 0, rfl⟩
  · have h1 : (S.vols.length : Int) ≤ vol := by omega
    go_enter Tryz.func15, Tryz.ntmps15
    go_wp2
    go_ret
    exact ⟨rfl, 0, rfl⟩
theorem lvol_yes (i : Nat) {vol : Int} (hV : vol = (i : Int)) {p : Nat} {v : Vst} (hi : S.vols[i]? = some (p, v)) (H : Sat w0 I (libp q S :: L) w) :
    Calls Tryz.prog 15 #[.pointer (some ⟨q, 0, none⟩), .int .i64 vol] w fun e w' => e = .returned (.pointer (some ⟨p, 0, none⟩)) ∧ Sat w0 I (libp q S :: L) w' := by
  subst hV
  obtain ⟨av, cv, ad, cd, k1, k2, k3, k4, H1⟩ := H.libOpen
  obtain ⟨hlt, hx⟩ := List.getElem?_eq_some_iff.1 hi
  obtain ⟨g, cap', hsv, c1⟩ := row1 (H1.pick 1) i hlt
  cases hsv
  rw [hx] at c1
  have c : w.cell? ⟨q, 0, none⟩ = some (.slice (some ⟨g, 0, none⟩) S.vols.length cv) := H1.isBlk.cell 0 rfl
  refine ret_sat ?_ H
  have h1 : (i : Int) < (S.vols.length : Int) := by omega
  have h0 : ¬ (i : Int) < 0 := by omega
  clear H H1 hx hi
  go_enter Tryz.func15, Tryz.ntmps15
  go_wp2
  go_ret
  exact ⟨rfl, 0, rfl⟩
theorem lin_sat (vol : Int) {N : Int} (hN : onI (inF S.drs vol) = N) (H : Sat w0 I (libp q S :: L) w) :
    Calls Tryz.prog 145 #[.pointer (some ⟨q, 0, none⟩), .int .i64 vol] w fun e w' => e = .returned (.int .i64 N) ∧ Sat w0 I (libp q S :: L) w' := by
  by_cases h0 : vol < 0
  · have hr : N = -1 := by rw [← hN]; unfold inF; rw [if_pos h0]; rfl
    subst hr
    refine ret_sat ?_ H
    clear H hN
    go_enter Tryz.func145, Tryz.ntmps145
    go_wp2
    go_ret
    exact ⟨rfl, 0, rfl⟩
  · obtain ⟨av, cv, ad, cd, k1, k2, k3, k4, H1⟩ := H.libOpen
    have c : w.cell? ⟨q, 1, none⟩ = some (.slice ad S.drs.length cd) := H1.isBlk.cell 1 rfl
    have HS := hid H
    have HO := hid H1
    have hF : inF S.drs vol = S.drs.findIdx? fun d => d.vol == vol := by unfold inF; rw [if_neg h0]
    have HF := hid hF
    have HN := hid hN
    clear H H1 hF hN
    go_enter Tryz.func145, Tryz.ntmps145
    go_wp2_with fail
    go_loopw [5, 6, 14] (fun _ _ i wr => ∃ k : Nat, k ≤ S.drs.length ∧ i = .int .i64 k ∧ (∀ j (hj : j < k) (hj2 : j < S.drs.length), S.drs[j].vol ≠ vol) ∧ Sat w0 I (blk q 99 (lcells S (.slice av S.vols.length cv) (.slice ad S.drs.length cd)) :: row 47 1 (.slice av S.vols.length cv) S.vols.length (ptrs S.vols) :: row 101 4 (.slice ad S.drs.length cd) S.drs.length (S.drs.flatMap dc) :: volsP S.vols :: L) wr) (fun _ _ i _ => S.drs.length - (intOf i).toNat)
    case atStart => exact ⟨0, Nat.zero_le _, rfl, fun j hj => absurd hj (Nat.not_lt_zero _), HO.out⟩
    case round =>
      clear HO HS c
      obtain ⟨k, hk, rfl, hno, Sr⟩ := hrel
      have HO := hid Sr
      have HNO := hid hno
      clear Sr hno
      by_cases hlt : k < S.drs.length
      · obtain ⟨g, cap', hsv, c0, c1, c2, c3, _⟩ := row4 (HO.out.pick 2) k hlt
        cases hsv
        have hk1 : (k : Int) < (S.drs.length : Int) := by omega
        have hk0 : (0 : Int) ≤ (k : Int) := by omega
        generalize hx : S.drs[k] = x at *
        have HX := hid hx
        clear hx
        by_cases he : x.vol = vol
        · have hR : N = (k : Int) := by
            rw [← HN.out, HF.out, List.findIdx?_eq_some_iff_getElem.2 ⟨hlt, by rw [HX.out]; simpa using he, fun j hj => by have := HNO.out j hj (by omega); simpa using this⟩]; rfl
          subst hR
          skip
          go_wp2_with fail
          go_ret
          exact ⟨rfl, Sat.libClose (HO.out.alloc_ _)⟩
        · skip
          go_wp2_with fail
          go_roundw
          case rel => exact ⟨k + 1, by omega, by go_num, fun j hj hj2 => by
            by_cases hjk : j = k
            · subst hjk; rw [HX.out]; exact he
            · exact HNO.out j (by omega) hj2, HO.out.alloc_ _⟩
          case measure => (simp [intOf] <;> omega)
      · obtain rfl : k = S.drs.length := by omega
        have hR : N = -1 := by
          rw [← HN.out, HF.out, List.findIdx?_eq_none_iff.2 fun d hd => ?_]; rfl
          obtain ⟨j, hj, rfl⟩ := List.getElem_of_mem hd
          have := HNO.out j hj hj
          simpa using this
        subst hR
        go_wp2_with fail
        go_ret
        exact ⟨rfl, Sat.libClose HO.out⟩
theorem nextF_lt2 {l : List Dr} {k : Nat} (hk : k < l.length) : nextF l (k + 1) = if l[k].broken = true ∨ 0 < l[k].holds then nextF l k else match nextF l k with
      | none => some k
      | some b => if l[k].used < (l[b]?.getD default).used then some k else some b := by
  conv => lhs; unfold nextF
  rw [List.getElem?_eq_getElem hk]
  all_goals rfl
theorem lnext_sat {N : Int} (hN : onI (nextF S.drs S.drs.length) = N) (H : Sat w0 I (libp q S :: L) w) :
    Calls Tryz.prog 146 #[.pointer (some ⟨q, 0, none⟩)] w fun e w' => e = .returned (.int .i64 N) ∧ Sat w0 I (libp q S :: L) w' := by
  obtain ⟨av, cv, ad, cd, k1, k2, k3, k4, H1⟩ := H.libOpen
  have c : w.cell? ⟨q, 1, none⟩ = some (.slice ad S.drs.length cd) := H1.isBlk.cell 1 rfl
  have HO := hid H1
  have HN := hid hN
  clear H H1 hN
  go_enter Tryz.func146, Tryz.ntmps146
  go_wp2_with fail
  go_loopw [3, 4, 5, 11] (fun best _ _ i wr => ∃ k : Nat, k ≤ S.drs.length ∧ i = .int .i64 k ∧ best = .int .i64 (onI (nextF S.drs k)) ∧ Sat w0 I (blk q 99 (lcells S (.slice av S.vols.length cv) (.slice ad S.drs.length cd)) :: row 47 1 (.slice av S.vols.length cv) S.vols.length (ptrs S.vols) :: row 101 4 (.slice ad S.drs.length cd) S.drs.length (S.drs.flatMap dc) :: volsP S.vols :: L) wr) (fun _ _ _ i _ => S.drs.length - (intOf i).toNat)
  case atStart => exact ⟨0, Nat.zero_le _, rfl, rfl, HO.out⟩
  case round =>
    clear HO c
    obtain ⟨k, hk, rfl, rfl, Sr⟩ := hrel
    have HO := hid Sr
    clear Sr
    by_cases hlt : k < S.drs.length
    · obtain ⟨g, cap', hsv, c0, c1, c2, c3, _⟩ := row4 (HO.out.pick 2) k hlt
      cases hsv
      have hk1 : (k : Int) < (S.drs.length : Int) := by omega
      have hk0 : (0 : Int) ≤ (k : Int) := by omega
      have HNX := hid (nextF_lt2 hlt)
      have HLT := hid (nextF_lt S.drs k)
      generalize hx : S.drs[k] = x at *
      clear hx
      cases hb : x.broken
      · rw [hb] at c3
        by_cases hh : 0 < x.holds
        · have hr : nextF S.drs (k + 1) = nextF S.drs k := by rw [HNX.out, if_pos (Or.inr hh)]
          have HR := hid hr
          clear hr hb
          have hd : decide (0 < x.holds) = true := by simpa using hh
          go_wp2_with fail
          go_roundw
          case rel => exact ⟨k + 1, by omega, by go_num, by rw [HR.out], HO.out.alloc_ _⟩
          case measure => (simp [intOf] <;> omega)
        · have hd : decide (0 < x.holds) = false := by simpa using hh
          have hr := HNX.out
          rw [if_neg (by rintro (e | e); rw [hb] at e; cases e; exact hh e)] at hr
          clear hb
          cases hnx : nextF S.drs k with
          | none =>
            rw [hnx] at hr
            have HR := hid hr
            clear hr hnx
            have hm : onI none = -1 := rfl
            rw [hm]
            go_wp2_with fail
            go_quiet (fail)
            go_wp2_with fail
            go_roundw
            case rel => exact ⟨k + 1, by omega, by go_num, by rw [HR.out]; rfl, by have HO2 := HO.out; (repeat' (first | (with_reducible assumption) | (with_reducible refine Sat.drewN ?_ _) | (with_reducible refine Sat.drew ?_) | ((with_reducible refine Sat.alloc ?_ ?_ ?_); rotate_left; (first | rfl | (simp; done)); (first | rfl | omega | (simp <;> omega))) | (with_reducible refine Sat.alloc_ ?_ _) | ((with_reducible refine Sat.set ?_ _ _ ?_); rotate_left; (first | rfl | (simp; done))) | ((with_reducible refine Sat.set1 ?_ _ _ ?_); rotate_left; (first | rfl | (simp; done))) | ((with_reducible refine Sat.set2 ?_ _ _ ?_); rotate_left; (first | rfl | (simp; done))) | ((with_reducible refine Sat.set3 ?_ _ _ ?_); rotate_left; (first | rfl | (simp; done)))))⟩
            case measure => (simp [intOf] <;> omega)
          | some b =>
            rw [hnx] at hr
            simp only at hr
            obtain ⟨hb1, hb2⟩ := HLT.out b hnx
            have hg : S.drs[b]?.getD default = S.drs[b] := by rw [List.getElem?_eq_getElem hb2]; rfl
            rw [hg] at hr
            obtain ⟨g', cap2, hsv, _, _, d2, _, _⟩ := row4 (HO.out.pick 2) b hb2
            cases hsv
            generalize hy : S.drs[b] = y at *
            have hm : onI (some b) = (b : Int) := rfl
            rw [hm]
            have e1 : (b : Int) < (S.drs.length : Int) := by omega
            have e2 : (0 : Int) ≤ (b : Int) := by omega
            have e3 : ¬ (b : Int) = -1 := by omega
            have e4 : decide ((b : Int) = -1) = false := decide_eq_false e3
            have C1 : w.cell? ⟨q, 1, none⟩ = some (.slice (some ⟨g, 0, none⟩) S.drs.length cd) → True := fun _ => trivial
            have q1 := fun o => (HO.out.alloc_ o).isBlk.cell 1 rfl
            have q2 := fun o => cell_alloc d2 o
            clear hy hg hnx C1
            by_cases hu : x.used < y.used
            · rw [if_pos hu] at hr
              have HR := hid hr
              clear hr
              have hd2 : decide (x.used < y.used) = true := by simpa using hu
              go_wp2_with fail
              go_quiet (fail)
              go_wp2_with fail
              go_roundw
              case rel => exact ⟨k + 1, by omega, by go_num, by rw [HR.out]; rfl, by have HO2 := HO.out; (repeat' (first | (with_reducible assumption) | (with_reducible refine Sat.drewN ?_ _) | (with_reducible refine Sat.drew ?_) | ((with_reducible refine Sat.alloc ?_ ?_ ?_); rotate_left; (first | rfl | (simp; done)); (first | rfl | omega | (simp <;> omega))) | (with_reducible refine Sat.alloc_ ?_ _) | ((with_reducible refine Sat.set ?_ _ _ ?_); rotate_left; (first | rfl | (simp; done))) | ((with_reducible refine Sat.set1 ?_ _ _ ?_); rotate_left; (first | rfl | (simp; done))) | ((with_reducible refine Sat.set2 ?_ _ _ ?_); rotate_left; (first | rfl | (simp; done))) | ((with_reducible refine Sat.set3 ?_ _ _ ?_); rotate_left; (first | rfl | (simp; done)))))⟩
              case measure => (simp [intOf] <;> omega)
            · rw [if_neg hu] at hr
              have HR := hid hr
              clear hr
              have hd2 : decide (x.used < y.used) = false := by simpa using hu
              go_wp2_with fail
              go_quiet (fail)
              go_wp2_with fail
              go_roundw
              case rel => exact ⟨k + 1, by omega, by go_num, by rw [HR.out]; rfl, by have HO2 := HO.out; (repeat' (first | (with_reducible assumption) | (with_reducible refine Sat.drewN ?_ _) | (with_reducible refine Sat.drew ?_) | ((with_reducible refine Sat.alloc ?_ ?_ ?_); rotate_left; (first | rfl | (simp; done)); (first | rfl | omega | (simp <;> omega))) | (with_reducible refine Sat.alloc_ ?_ _) | ((with_reducible refine Sat.set ?_ _ _ ?_); rotate_left; (first | rfl | (simp; done))) | ((with_reducible refine Sat.set1 ?_ _ _ ?_); rotate_left; (first | rfl | (simp; done))) | ((with_reducible refine Sat.set2 ?_ _ _ ?_); rotate_left; (first | rfl | (simp; done))) | ((with_reducible refine Sat.set3 ?_ _ _ ?_); rotate_left; (first | rfl | (simp; done)))))⟩
              case measure => (simp [intOf] <;> omega)
      · have hr : nextF S.drs (k + 1) = nextF S.drs k := by rw [HNX.out, if_pos (Or.inl hb)]
        have HR := hid hr
        rw [hb] at c3
        clear hr hb
        go_wp2_with fail
        go_roundw
        case rel => exact ⟨k + 1, by omega, by go_num, by rw [HR.out], HO.out.alloc_ _⟩
        case measure => (simp [intOf] <;> omega)
    · obtain rfl : k = S.drs.length := by omega
      rw [HN.out]
      go_wp2_with fail
      go_ret
      exact ⟨rfl, Sat.libClose HO.out⟩
theorem lmoves_sat {N : Int} (hN : S.moves = N) (H : Sat w0 I (libp q S :: L) w) :
    Calls Tryz.prog 12 #[.pointer (some ⟨q, 0, none⟩)] w fun e w' => e = .returned (.int .i64 N) ∧ Sat w0 I (libp q S :: L) w' := by
  subst hN
  obtain ⟨av, cv, ad, cd, k1, k2, k3, k4, H1⟩ := H.libOpen
  have c : w.cell? ⟨q, 2, none⟩ = some (.int .i64 S.moves) := H1.isBlk.cell 2 rfl
  refine ret_sat ?_ H
  clear H1 H
  go_enter Tryz.func12, Tryz.ntmps12
  go_wp2
  go_ret
  exact ⟨rfl, 0, rfl⟩
end
end Go.Proofs.YtekioplbfoonkaaGreatDoor
