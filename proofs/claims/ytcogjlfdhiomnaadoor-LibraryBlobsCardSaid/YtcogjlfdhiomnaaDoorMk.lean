/- make([]int, n): a row of the call's own, in parts of the memory. -/
import Derived.Test.YtcogjlfdhiomnaaDoorMg1
import Derived.OwnWalk
namespace Go.Proofs.YtcogjlfdhiomnaaDoor
open Go.RowKit
set_option linter.unusedVariables false
set_option maxRecDepth 100000
theorem infoInt : (Tryd.prog.info? 3).map (fun i => (i.zero, i.size, i.bytes)) = some (some (.int .i64 0), 1, 8) := by kernel_rfl
theorem madeInts (n : Nat) : (madeCells (Value.int .i64 0).cells (n * 1)).toList = (List.replicate n (0 : Int)).map (Value.int .i64) := by
  rw [Nat.mul_one]
  show (madeCells #[.int .i64 0] n).toList = _
  rw [toList_madeCells_one, List.map_replicate]
theorem Part.minus_antiM {I J : Part} (h : I.le J) (g : Part) : (g.minus J).le (g.minus I) := fun b o e => by
  refine Part.minus_some (Part.minus_le _ _ b o e) ?_
  have := Part.minus_none e
  cases hx : I b with
  | none => rfl
  | some u => rw [h b u hx] at this; cases this
/-- what was kept for a while may go. -/
theorem Sat.thawM {w0 w : World} {I J : Part} {L : List HP} (h : Sat w0 J L w) (k : I.le J) : Sat w0 I L w := ⟨h.os, h.tape, h.output, h.size, Part.le_trans k h.imm, sepL_mono L (Part.minus_antiM k _) h.sep⟩
/-- what a call did to its own memory, beside whatever else is known. -/
theorem Sat.frame {w0 w w' : World} {I : Part} {L M : List HP} (h : Sat w0 I L w) (k : Sat w (wpart w) M w') : Sat w0 I (M ++ L) w' := by
  refine ⟨k.os.trans h.os, k.tape.trans h.tape, k.output.trans h.output, Nat.le_trans h.size k.size, Part.le_trans h.imm k.imm, sepL_flat M ⟨(wpart w').minus (wpart w), ?_, k.sep, sepL_mono L ?_ h.sep⟩⟩
  · intro b o e
    have e1 := Part.minus_none e
    refine Part.minus_some (Part.minus_le _ _ b o e) ?_
    cases hx : I b with
    | none => rfl
    | some u => rw [h.imm b u hx] at e1; cases e1
  · intro b o e
    have e1 := Part.minus_none e
    have e2 := Part.minus_le _ _ b o e
    refine Part.minus_some (Part.minus_some (k.imm b o e2) e1) ?_
    unfold Part.minus
    rw [e2]; rfl
theorem Blk.rd {w : World} {b : Nat} {T : TypeId} {cs : List Value} (h : Blk w b T cs) : Rd (wpart w) (some ⟨b, 0, none⟩) cs := fun i hi =>
  ⟨b, 0, rfl, by rw [Nat.zero_add]; exact cellI_start (h.cell i (List.getElem?_eq_getElem hi))⟩
theorem Sat.madeRow {w0 w w' : World} {I : Part} {L : List HP} {base : Nat} {e : TypeId} {sz n m : Nat} {b : Nat} {xs : List Value} (h : Sat w0 I L w) (ho : w'.ownsRow base e sz (.slice (some ⟨b, 0, none⟩) n m) n xs) (hg : w.grownBy w' none) (hb : b = w.heap.size) : Sat w0 I (row e sz (.slice (some ⟨b, 0, none⟩) n m) n xs :: L) w' := by
  subst hb
  exact (h.nilRow e sz).grown ho hg (fun k hk => by simp only [Value.ownBlock, Option.some.injEq] at hk; right; omega)
def zsL (n : Nat) : List Value := (List.replicate n (0 : Int)).map (Value.int .i64)
/-- make([]int, n), for a region that draws its order: laid open ahead of it. -/
theorem run_mkInts (n : Nat) (hn : n ≤ 1000000) (w : World) : (Instr.makeSlice 44 (.int .i64 (n : Int)) (.int .i64 (n : Int))).run Tryd.prog w = .ok (.slice (some ⟨w.heap.size, 0, none⟩) n n) (w.alloc (.cells (zsL n).toArray 3)) := by
  unfold zsL
  obtain ⟨i, hi1, hi2, hi3, hi4⟩ := info_parts infoInt
  have hr := run_make (P := Tryd.prog) w 44 3 i (.int .i64 0) Tryd.underlying44 hi1 hi2 .i64 .i64 n n (by omega) (Int.le_refl _) (by rw [hi4]; omega) (by omega)
  rw [hr, hi3]
  simp only [Int.toNat_natCast]
  congr 3
  have := madeInts n
  rw [← this]
theorem Sat.madeAt {w0 w : World} {I : Part} {L : List HP} (h : Sat w0 I L w) {g n : Nat} (hg : g = w.heap.size) (hn : n ≤ 1000000) : Sat w0 I (row 3 1 (.slice (some ⟨g, 0, none⟩) n n) n ((List.replicate n (0 : Int)).map (Value.int .i64)) :: L) (w.alloc (.cells ((List.replicate n (0 : Int)).map (Value.int .i64)).toArray 3)) :=
  (h.alloc (cs := (List.replicate n (0 : Int)).map (Value.int .i64)) (T := 3) rfl hg).weaken fun x hx => ⟨by simp, Or.inr ⟨g, n, _, rfl, hx, Nat.le_refl _, by unfold maxLen; omega, by simp, by simp⟩⟩
section
variable {w0 w : World} {I : Part} {L : List HP} {ops : Array Oper} {rest : List Oper} {o : Oper} {a : Act} {Q : Exit → Act → World → Prop}
theorem wp_makeInts {K : Act → World → Prop} (l c : Operand) (hop : o.op = Op.makeSlice 44 l c) (n : Nat) {z y : Int} (hl : a.eval l = .int .i64 z) (hc : a.eval c = .int .i64 y) (hz : z = (n : Int)) (hy : y = (n : Int)) (hn : n ≤ 1000000) (H : Sat w0 I L w)
    (h : ∀ g w', Sat w0 I (row 3 1 (.slice (some ⟨g, 0, none⟩) n n) n (zsL n) :: L) w' → K (a.put o.dst (.slice (some ⟨g, 0, none⟩) n n)) w') : o.wp Tryd.prog a w K Q := by
  obtain ⟨i, hi1, hi2, hi3, hi4⟩ := info_parts infoInt
  subst hz hy
  obtain ⟨w', hrun, r1, r2⟩ := run_make_full (P := Tryd.prog) w 0 44 3 i (.int .i64 0) 1 Tryd.underlying44 hi1 hi2 hi3 .i64 .i64 n (by rw [hi4]; omega) (by unfold maxLen; omega) (Nat.zero_le _)
  rw [madeInts] at r1
  replace r1 : w'.ownsRow 0 3 1 (.slice (some ⟨w.heap.size, 0, none⟩) n n) n (zsL n) := r1
  unfold Oper.wp
  simp [execOp, hop, hl, hc, hrun, Result.andThen]
  exact h _ _ (H.madeRow r1 r2 rfl)
theorem wpList_makeInts (hg : o.guard = none) (l c : Operand) (hop : o.op = Op.makeSlice 44 l c) (n : Nat) {z y : Int} (hl : a.eval l = .int .i64 z) (hc : a.eval c = .int .i64 y) (hz : z = (n : Int)) (hy : y = (n : Int)) (hn : n ≤ 1000000) (H : Sat w0 I L w)
    (h : ∀ g w', Sat w0 I (row 3 1 (.slice (some ⟨g, 0, none⟩) n n) n (zsL n) :: L) w' → wpList Tryd.prog ops Q rest (a.put o.dst (.slice (some ⟨g, 0, none⟩) n n)) w') : wpList Tryd.prog ops Q (o :: rest) a w :=
  wpList_plain hg fun _ hK => wp_makeInts l c hop n hl hc hz hy hn H fun g w' h1 => hK _ _ (h g w' h1)
theorem step_makeInts {K : Act → World → Prop} {E : Prop} (hg : o.guard = none) (l c : Operand) (hop : o.op = Op.makeSlice 44 l c) (n : Nat) {z y : Int} (hl : a.eval l = .int .i64 z) (hc : a.eval c = .int .i64 y) (hz : z = (n : Int)) (hy : y = (n : Int)) (hn : n ≤ 1000000) (H : Sat w0 I L w)
    (h : ∀ g w', Sat w0 I (row 3 1 (.slice (some ⟨g, 0, none⟩) n n) n (zsL n) :: L) w' → K (a.put o.dst (.slice (some ⟨g, 0, none⟩) n n)) w') :
    if Region.wanted o (yielded ops a.tmps) = true then Oper.wp Tryd.prog o a w K Q else E := by
  have hw : Region.wanted o (yielded ops a.tmps) = true := by simp [Region.wanted, hg]
  rw [if_pos hw]
  exact wp_makeInts l c hop n hl hc hz hy hn H h
end
end Go.Proofs.YtcogjlfdhiomnaaDoor
