/- A map[int]bool of the call's own: a set of integers, in parts of the memory. -/
import Derived.Test.YtekioplbfoonkaaGreatDoorMg1
import Derived.Maps.OwnSet
import Derived.Maps.OwnOps
import Derived.Maps.Views
namespace Go.Proofs.YtekioplbfoonkaaGreatDoor
open Go.RowKit
set_option linter.unusedVariables false
set_option maxRecDepth 100000

def wfI (z : Int) : Prop := -9223372036854775808 ≤ z ∧ z ≤ 9223372036854775807
theorem wfI_lit {z : Int} (h : wfI z) : (Lit.int .i64 z).wf = true := by
  unfold wfI at h
  simp [Lit.wf, IntKind.min, IntKind.max, IntKind.bits, IntKind.signed]; omega
theorem KInt : Maps.Keyed Tryz.prog 3 := Maps.int_keyed Tryz.underlying3
theorem keyInt {z : Int} (h : wfI z) : keyOf Tryz.prog 3 (.int .i64 z) = some (.int .i64 z) := by
  have := wfI_lit h
  rw [keyOf_int Tryz.underlying3]; simp [mapKey, Tryz.underlying3, this]
/-- the datum D is the set S. -/
structure IsSet (D : DataW Unit) (S : List Int) : Prop where
  nodup : S.Nodup
  has : ∀ z, wfI z → Maps.has D (.int .i64 z) = decide (z ∈ S)
  at_ : ∀ z, wfI z → D.atKey (.int .i64 z) (.lit (.bool false)) = .lit (.bool (decide (z ∈ S)))
  size : Maps.size D = S.length
/-- block b is a map of at most c entries: the set S. -/
def bmap (b c : Nat) (S : List Int) : HP := fun g => ∃ (o : Obj) (D : DataW Unit), g b = some o ∧ IsSet D S ∧ ∀ w : World, w.heap[b]? = some o → w.ownsMap Tryz.prog 3 (plainElem Tryz.prog 4) b c D
theorem key_ne {z y : Int} (h : z ≠ y) : (Lit.int .i64 z) ≠ (Lit.int .i64 y) := fun e => h (by cases e; rfl)
theorem IsSet.empty : IsSet (.map []) [] := ⟨List.nodup_nil, fun z _ => by simp [Maps.has], fun z _ => by simp [DataW.atKey], rfl⟩
theorem IsSet.add {D : DataW Unit} {S : List Int} (h : IsSet D S) (hT : Maps.Tidy D) {z : Int} (hz : wfI z) (hn : z ∉ S) : IsSet (D.put (.int .i64 z) (.lit (.bool true))) (S ++ [z]) := by
  refine ⟨?_, fun y hy => ?_, fun y hy => ?_, ?_⟩
  · rw [List.nodup_append]
    exact ⟨h.nodup, by simp, fun a ha b hb => by simp at hb; subst hb; exact fun e => hn (e ▸ ha)⟩
  · by_cases e : y = z
    · subst e; rw [Maps.has_put_same (k := Lit.int .i64 y) hT.isMap trivial]; simp
    · rw [Maps.has_put_other (key_ne e), h.has y hy]; simp [e]
  · by_cases e : y = z
    · subst e; rw [Maps.atKey_put_same (k := Lit.int .i64 y) hT.isMap trivial]; simp
    · rw [Maps.atKey_put_other (key_ne e), h.at_ y hy]; simp [e]
  · rw [Maps.size_put hT, h.has z hz, h.size]; simp [hn]
theorem IsSet.again {D : DataW Unit} {S : List Int} (h : IsSet D S) (hT : Maps.Tidy D) {z : Int} (hz : wfI z) (hn : z ∈ S) : IsSet (D.put (.int .i64 z) (.lit (.bool true))) S := by
  refine ⟨h.nodup, fun y hy => ?_, fun y hy => ?_, ?_⟩
  · by_cases e : y = z
    · subst e; rw [Maps.has_put_same (k := Lit.int .i64 y) hT.isMap trivial]; simp [hn]
    · rw [Maps.has_put_other (key_ne e), h.has y hy]
  · by_cases e : y = z
    · subst e; rw [Maps.atKey_put_same (k := Lit.int .i64 y) hT.isMap trivial]; simp [hn]
    · rw [Maps.atKey_put_other (key_ne e), h.at_ y hy]
  · rw [Maps.size_put hT, h.has z hz, h.size]; simp [hn]
theorem IsSet.del {D : DataW Unit} {S : List Int} (h : IsSet D S) (hT : Maps.Tidy D) {z : Int} (hz : wfI z) : IsSet (D.del (.int .i64 z)) (S.erase z) := by
  refine ⟨h.nodup.erase z, fun y hy => ?_, fun y hy => ?_, ?_⟩
  · by_cases e : y = z
    · subst e; rw [Maps.has_del_same]; simp [h.nodup.mem_erase_iff]
    · rw [Maps.has_del_other (key_ne e), h.has y hy]; simp [h.nodup.mem_erase_iff, e]
  · by_cases e : y = z
    · subst e; rw [Maps.atKey_del_same]; simp [h.nodup.mem_erase_iff]
    · rw [Maps.atKey_del_other (key_ne e), h.at_ y hy]; simp [h.nodup.mem_erase_iff, e]
  · have := Maps.size_del (k := .int .i64 z) hT
    rw [h.has z hz, h.size] at this
    rw [List.length_erase]
    by_cases e : z ∈ S
    · simp only [e, decide_true, ↓reduceIte] at this ⊢; omega
    · simp only [e, decide_false, Bool.false_eq_true, ↓reduceIte] at this ⊢; omega
section
variable {w0 w w' : World} {I : Part} {L : List HP} {b c : Nat} {S : List Int}
theorem Sat.isMap (h : Sat w0 I (bmap b c S :: L) w) : ∃ D : DataW Unit, IsSet D S ∧ w.ownsMap Tryz.prog 3 (plainElem Tryz.prog 4) b c D ∧
    ∀ w' c' S' (D' : DataW Unit), IsSet D' S' → w'.ownsMap Tryz.prog 3 (plainElem Tryz.prog 4) b c' D' → w.grownBy w' (some b) → Sat w0 I (bmap b c' S' :: L) w' := by
  obtain ⟨g, ⟨o, D, hb, hs, hw⟩, hle, k⟩ := h.elim
  refine ⟨D, hs, hw w (hle _ _ hb), fun w' c' S' D' hs' ho hg => ?_⟩
  have H := k (fun x => x = g) rfl
  refine H.change fun g' hg' _ => ⟨fun i => i = b, fun i hi _ => by subst hg' hi; rw [hb]; rfl, (Mod.refl _ _).grown hg (fun i hi _ => by cases hi; rfl), fun g3 h3 => ?_⟩
  subst hg'
  obtain ⟨es, clock, hh, F, hsz, hD⟩ := ho
  refine ⟨.map es clock, D', ?_, hs', fun w2 hw2 => ⟨es, clock, hw2, F, hsz, hD⟩⟩
  rw [h3 b (Or.inl (by rw [hb]; rfl))]
  exact hh
theorem Sat.mapNew (h : Sat w0 I L w) (hb : b = w.heap.size) : Sat w0 I (bmap b 0 [] :: L) (w.alloc (.map #[] 0)) := by
  subst hb
  refine (h.allocO (.map #[] 0)).weaken fun g hg => ⟨_, .map [], hg, IsSet.empty, fun w2 hw2 => ?_⟩
  obtain ⟨es, clock, hh, F, hsz, hD⟩ := World.ownsMap_made (H := Unit) w Tryz.prog 3 (plainElem Tryz.prog 4)
  have e1 : (w.alloc (.map #[] 0)).heap[w.heap.size]? = some (.map #[] 0) := by unfold World.alloc; simp
  rw [e1] at hh
  cases hh
  exact ⟨_, _, hw2, F, hsz, hD⟩
def setAdd (S : List Int) (z : Int) : List Int := if z ∈ S then S else S ++ [z]
theorem setAdd_in {S : List Int} {z : Int} (h : z ∈ S) : setAdd S z = S := if_pos h
theorem setAdd_out {S : List Int} {z : Int} (h : z ∉ S) : setAdd S z = S ++ [z] := if_neg h
/-- m[z]. -/
theorem Sat.mapGet (h : Sat w0 I (bmap b c S :: L) w) {z : Int} (hz : wfI z) : (Instr.lookup 30 (.map (some b)) (.int .i64 z) false).run Tryz.prog w = .ok (.bool (decide (z ∈ S))) w := by
  obtain ⟨D, hs, ho, _⟩ := h.isMap
  obtain ⟨v, ps, hrun, hv⟩ := ho.lookup KInt Tryz.underlying30 (z := .bool false) (by kernel_rfl) (plainElem_bool Tryz.underlying4 false) (keyInt hz)
  rw [hs.at_ z hz] at hv
  rw [hrun]
  unfold plainElem at hv
  rw [Tryz.underlying4] at hv
  cases v <;> simp at hv
  obtain ⟨rfl, _⟩ := hv
  rfl
/-- m[z] = true. -/
theorem Sat.mapPut (h : Sat w0 I (bmap b c S :: L) w) {z : Int} (hz : wfI z) (hc : c < 1000000) : ∃ w', (Instr.mapUpdate 30 (.map (some b)) (.int .i64 z) (.bool true)).run Tryz.prog w = .ok () w' ∧ Sat w0 I (bmap b (c + 1) (setAdd S z) :: L) w' := by
  obtain ⟨D, hs, ho, k⟩ := h.isMap
  have hT := ho.tidy KInt
  obtain ⟨w', hrun, ho', hg⟩ := ho.update KInt Tryz.underlying30 (by unfold maxLen; omega) (keyInt hz) (plainElem_bool Tryz.underlying4 true)
  refine ⟨w', hrun, k _ _ _ _ ?_ ho' hg⟩
  unfold setAdd
  split
  · exact hs.again hT hz (by assumption)
  · exact hs.add hT hz (by assumption)
theorem Sat.mapDel (h : Sat w0 I (bmap b c S :: L) w) {z : Int} (hz : wfI z) (ty : TypeId) : ∃ w', (Builtin.delete_ #[30, 3] ty #[.map (some b), .int .i64 z]).run Tryz.prog w = .ok (.tuple #[]) w' ∧ Sat w0 I (bmap b c (S.erase z) :: L) w' := by
  obtain ⟨D, hs, ho, k⟩ := h.isMap
  have hT := ho.tidy KInt
  obtain ⟨w', hrun, ho', hg⟩ := ho.drop KInt Tryz.underlying30 (keyInt hz) ty
  exact ⟨w', hrun, k _ _ _ _ (hs.del hT hz) ho' hg.grown⟩
theorem Sat.mapLen (h : Sat w0 I (bmap b c S :: L) w) (ty : TypeId) : (Builtin.len_ #[30] ty #[.map (some b)]).run Tryz.prog w = .ok (.int .i64 (S.length : Int)) w := by
  obtain ⟨D, hs, ho, k⟩ := h.isMap
  rw [ho.len Tryz.underlying30 ty, hs.size]
end
section
variable {w0 w : World} {I : Part} {L : List HP} {b c : Nat} {S : List Int} {ops : Array Oper} {rest : List Oper} {o : Oper} {a : Act} {Q : Exit → Act → World → Prop}
theorem wpList_mapPut (hg : o.guard = none) (m x v : Operand) (hop : o.op = Op.mapUpdate 30 m x v) (hm : a.eval m = .map (some b)) {z : Int} (hx : a.eval x = .int .i64 z) (hv : a.eval v = .bool true)
    (H : Sat w0 I (bmap b c S :: L) w) (hz : wfI z) (hc : c < 1000000) (hK : ∀ w', Sat w0 I (bmap b (c + 1) (setAdd S z) :: L) w' → wpList Tryz.prog ops Q rest (a.put o.dst undef) w') : wpList Tryz.prog ops Q (o :: rest) a w := by
  refine wpList_plain hg fun K' hK' => ?_
  obtain ⟨w', hrun, r1⟩ := H.mapPut hz hc
  unfold Oper.wp
  simp [execOp, hop, hm, hx, hv, hrun, Result.andThen]
  exact hK' _ _ (hK w' r1)
theorem wpList_mapDel (hg : o.guard = none) (m x : Operand) (hop : o.op = Op.call { callee := Callee.builtin Builtin.delete, args := #[m, x], argTypes := #[30, 3] }) (hm : a.eval m = .map (some b)) {z : Int} (hx : a.eval x = .int .i64 z)
    (H : Sat w0 I (bmap b c S :: L) w) (hz : wfI z) (hK : ∀ w', Sat w0 I (bmap b c (S.erase z) :: L) w' → wpList Tryz.prog ops Q rest (a.put o.dst (.tuple #[])) w') : wpList Tryz.prog ops Q (o :: rest) a w := by
  refine wpList_plain hg fun K' hK' => ?_
  obtain ⟨w', hrun, r1⟩ := H.mapDel hz o.type
  unfold Oper.wp
  simp [execOp, hop, resolve, invoke, builtin, hm, hx, hrun, Result.andThen]
  exact hK' _ _ (hK w' r1)
theorem wpList_mapLen (hg : o.guard = none) (m : Operand) (hop : o.op = Op.call { callee := Callee.builtin Builtin.len, args := #[m], argTypes := #[30] }) (hm : a.eval m = .map (some b))
    (H : Sat w0 I (bmap b c S :: L) w) (hK : wpList Tryz.prog ops Q rest (a.put o.dst (.int .i64 (S.length : Int))) w) : wpList Tryz.prog ops Q (o :: rest) a w := by
  refine wpList_plain hg fun K' hK' => ?_
  unfold Oper.wp
  simp [execOp, hop, resolve, invoke, builtin, hm, H.mapLen o.type, Result.andThen]
  exact hK' _ _ hK
/-- an operation whose guard lets it by. -/
theorem wpList_wanted {P : Program} (hw : Region.wanted o (yielded ops a.tmps) = true) (h : ∀ K : Act → World → Prop, (∀ a w, wpList P ops Q rest a w → K a w) → o.wp P a w K Q) : wpList P ops Q (o :: rest) a w := by
  unfold wpList
  rw [if_pos hw]
  exact .inl (h _ (fun _ _ h => h))
theorem wpList_mapLenG (hw : Region.wanted o (yielded ops a.tmps) = true) (m : Operand) (hop : o.op = Op.call { callee := Callee.builtin Builtin.len, args := #[m], argTypes := #[30] }) (hm : a.eval m = .map (some b))
    (H : Sat w0 I (bmap b c S :: L) w) (hK : wpList Tryz.prog ops Q rest (a.put o.dst (.int .i64 (S.length : Int))) w) : wpList Tryz.prog ops Q (o :: rest) a w := by
  refine wpList_wanted hw fun K' hK' => ?_
  unfold Oper.wp
  simp [execOp, hop, resolve, invoke, builtin, hm, H.mapLen o.type, Result.andThen]
  exact hK' _ _ hK
end
end Go.Proofs.YtekioplbfoonkaaGreatDoor
