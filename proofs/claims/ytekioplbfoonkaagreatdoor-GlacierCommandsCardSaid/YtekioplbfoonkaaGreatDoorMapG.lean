/- A map of the call's own, whatever its keys and elements: a partial function, in parts of the memory. -/
import Derived.Test.YtekioplbfoonkaaGreatDoorMg1
import Derived.Maps.OwnSet
import Derived.Maps.OwnOps
import Derived.Maps.Views
namespace Go.Proofs.YtekioplbfoonkaaGreatDoor
open Go.RowKit
set_option linter.unusedVariables false
set_option maxRecDepth 100000
/-- how an element reads that enc writes. -/
noncomputable def encR {α : Type} (enc : α → Value) : Value → Option (DataW α × List MemPlace) := by
  classical
  exact fun v => if h : ∃ x, v = enc x then some (.held h.choose, []) else none
theorem encR_mk {α : Type} {enc : α → Value} (hi : ∀ x y, enc x = enc y → x = y) (x : α) : encR enc (enc x) = some (.held x, []) := by
  unfold encR
  have h : ∃ y, enc x = enc y := ⟨x, rfl⟩
  rw [dif_pos h]
  have := hi _ _ h.choose_spec
  rw [← this]
theorem encR_inv {α : Type} {enc : α → Value} {v : Value} {x : α} {ps : List MemPlace} (h : encR enc v = some (.held x, ps)) : v = enc x := by
  unfold encR at h
  split at h
  · rename_i hx
    simp only [Option.some.injEq, Prod.mk.injEq, DataW.held.injEq] at h
    rw [← h.1]
    exact hx.choose_spec
  · cases h
/-- the datum D is the function F. -/
structure IsFn {α : Type} (D : DataW α) (F : Lit → Option α) : Prop where
  has : ∀ k, WideAt.IsKeyLit k → Maps.has D k = (F k).isSome
  at_ : ∀ k z, WideAt.IsKeyLit k → D.atKey k (.held z) = .held ((F k).getD z)
open Classical in
noncomputable def fnPut {α : Type} (F : Lit → Option α) (k : Lit) (x : α) : Lit → Option α := fun j => if j = k then some x else F j
open Classical in
noncomputable def fnDel {α : Type} (F : Lit → Option α) (k : Lit) : Lit → Option α := fun j => if j = k then none else F j
theorem fnPut_eq {α : Type} (F : Lit → Option α) (k : Lit) (x : α) : fnPut F k x k = some x := if_pos rfl
theorem fnPut_ne {α : Type} (F : Lit → Option α) {k j : Lit} (x : α) (h : j ≠ k) : fnPut F k x j = F j := if_neg h
theorem fnDel_eq {α : Type} (F : Lit → Option α) (k : Lit) : fnDel F k k = none := if_pos rfl
theorem fnDel_ne {α : Type} (F : Lit → Option α) {k j : Lit} (h : j ≠ k) : fnDel F k j = F j := if_neg h
theorem IsFn.empty {α : Type} : IsFn (.map [] : DataW α) (fun _ => none) := ⟨fun k _ => by simp [Maps.has], fun k z _ => by simp [DataW.atKey]⟩
theorem IsFn.put {α : Type} {D : DataW α} {F : Lit → Option α} (h : IsFn D F) (hD : Maps.IsMap D) {k : Lit} (hk : WideAt.IsKeyLit k) (x : α) : IsFn (D.put k (.held x)) (fnPut F k x) := by
  refine ⟨fun j hj => ?_, fun j z hj => ?_⟩
  · by_cases e : j = k
    · subst e; rw [Maps.has_put_same hD hk, fnPut_eq]; rfl
    · rw [Maps.has_put_other e, h.has j hj, fnPut_ne _ _ e]
  · by_cases e : j = k
    · subst e; rw [Maps.atKey_put_same hD hk, fnPut_eq]; rfl
    · rw [Maps.atKey_put_other e, h.at_ j z hj, fnPut_ne _ _ e]
theorem IsFn.del {α : Type} {D : DataW α} {F : Lit → Option α} (h : IsFn D F) {k : Lit} : IsFn (D.del k) (fnDel F k) := by
  refine ⟨fun j hj => ?_, fun j z hj => ?_⟩
  · by_cases e : j = k
    · subst e; rw [Maps.has_del_same, fnDel_eq]; rfl
    · rw [Maps.has_del_other e, h.has j hj, fnDel_ne _ e]
  · by_cases e : j = k
    · subst e; rw [Maps.atKey_del_same, fnDel_eq]; rfl
    · rw [Maps.atKey_del_other e, h.at_ j z hj, fnDel_ne _ e]
/-- block b is a map with keys of type k, of at most c entries: the function F. -/
def gmap {α : Type} (k : TypeId) (enc : α → Value) (b c : Nat) (F : Lit → Option α) : HP := fun g => ∃ (o : Obj) (D : DataW α), g b = some o ∧ IsFn D F ∧ ∀ w : World, w.heap[b]? = some o → w.ownsMap Tryz.prog k (encR enc) b c D
section
variable {α : Type} {k e t : TypeId} {enc : α → Value} {w0 w w' : World} {I : Part} {L : List HP} {b c : Nat} {F : Lit → Option α}
theorem Sat.isGMap (h : Sat w0 I (gmap k enc b c F :: L) w) : ∃ D : DataW α, IsFn D F ∧ w.ownsMap Tryz.prog k (encR enc) b c D ∧
    ∀ w' c' F' (D' : DataW α), IsFn D' F' → w'.ownsMap Tryz.prog k (encR enc) b c' D' → w.grownBy w' (some b) → Sat w0 I (gmap k enc b c' F' :: L) w' := by
  obtain ⟨g, ⟨o, D, hb, hs, hw⟩, hle, kk⟩ := h.elim
  refine ⟨D, hs, hw w (hle _ _ hb), fun w' c' F' D' hs' ho hg => ?_⟩
  have H := kk (fun x => x = g) rfl
  refine H.change fun g' hg' _ => ⟨fun i => i = b, fun i hi _ => by subst hg' hi; rw [hb]; rfl, (Mod.refl _ _).grown hg (fun i hi _ => by cases hi; rfl), fun g3 h3 => ?_⟩
  subst hg'
  obtain ⟨es, clock, hh, F, hsz, hD⟩ := ho
  refine ⟨.map es clock, D', ?_, hs', fun w2 hw2 => ⟨es, clock, hw2, F, hsz, hD⟩⟩
  rw [h3 b (Or.inl (by rw [hb]; rfl))]
  exact hh
theorem Sat.gmapNew (k : TypeId) (enc : α → Value) (h : Sat w0 I L w) (hb : b = w.heap.size) : Sat w0 I (gmap k enc b 0 (fun _ => none) :: L) (w.alloc (.map #[] 0)) := by
  subst hb
  refine (h.allocO (.map #[] 0)).weaken fun g hg => ⟨_, .map [], hg, IsFn.empty, fun w2 hw2 => ?_⟩
  obtain ⟨es, clock, hh, F, hsz, hD⟩ := World.ownsMap_made (H := α) w Tryz.prog k (encR enc)
  have e1 : (w.alloc (.map #[] 0)).heap[w.heap.size]? = some (.map #[] 0) := by unfold World.alloc; simp
  rw [e1] at hh
  cases hh
  exact ⟨_, _, hw2, F, hsz, hD⟩
/-- what is asked of the types. -/
structure GMapT (t k e : TypeId) (enc : α → Value) (x0 : α) : Prop where
  keyed : Maps.Keyed Tryz.prog k
  ht : Tryz.prog.underlying t = some (.map k e)
  inj : ∀ x y, enc x = enc y → x = y
  zero : ∀ w, (zeroValue e).run Tryz.prog w = .ok (enc x0) w
variable {x0 : α}
/-- m[key]. -/
theorem Sat.gmapGet (T : GMapT t k e enc x0) (h : Sat w0 I (gmap k enc b c F :: L) w) {key : Value} {kl : Lit} (hkey : keyOf Tryz.prog k key = some kl) : (Instr.lookup t (.map (some b)) key false).run Tryz.prog w = .ok (enc ((F kl).getD x0)) w := by
  obtain ⟨D, hs, ho, _⟩ := h.isGMap
  obtain ⟨v, ps, hrun, hv⟩ := ho.lookup T.keyed T.ht (T.zero w) (encR_mk T.inj x0) hkey
  rw [hs.at_ _ _ (T.keyed.key hkey)] at hv
  rw [hrun, encR_inv hv]
/-- v, ok := m[key]. -/
theorem Sat.gmapGet2 (T : GMapT t k e enc x0) (h : Sat w0 I (gmap k enc b c F :: L) w) {key : Value} {kl : Lit} (hkey : keyOf Tryz.prog k key = some kl) : (Instr.lookup t (.map (some b)) key true).run Tryz.prog w = .ok (.tuple #[enc ((F kl).getD x0), .bool (F kl).isSome]) w := by
  obtain ⟨D, hs, ho, _⟩ := h.isGMap
  obtain ⟨v, ps, hrun, hv⟩ := ho.look_ok T.keyed T.ht (T.zero w) (encR_mk T.inj x0) hkey
  rw [hs.at_ _ _ (T.keyed.key hkey)] at hv
  rw [hrun, encR_inv hv, hs.has _ (T.keyed.key hkey)]
/-- m[key] = x. -/
theorem Sat.gmapPut (T : GMapT t k e enc x0) (h : Sat w0 I (gmap k enc b c F :: L) w) {key : Value} {kl : Lit} (hkey : keyOf Tryz.prog k key = some kl) (x : α) (hc : c < 1000000) : ∃ w', (Instr.mapUpdate t (.map (some b)) key (enc x)).run Tryz.prog w = .ok () w' ∧ Sat w0 I (gmap k enc b (c + 1) (fnPut F kl x) :: L) w' := by
  obtain ⟨D, hs, ho, kk⟩ := h.isGMap
  have hT := ho.tidy T.keyed
  obtain ⟨w', hrun, ho', hg⟩ := ho.update T.keyed T.ht (by unfold maxLen; omega) hkey (encR_mk T.inj x)
  exact ⟨w', hrun, kk _ _ _ _ (hs.put hT.isMap (T.keyed.key hkey) x) ho' hg⟩
/-- delete(m, key). -/
theorem Sat.gmapDel (T : GMapT t k e enc x0) (h : Sat w0 I (gmap k enc b c F :: L) w) {key : Value} {kl : Lit} (hkey : keyOf Tryz.prog k key = some kl) (ty : TypeId) : ∃ w', (Builtin.delete_ #[t, k] ty #[.map (some b), key]).run Tryz.prog w = .ok (.tuple #[]) w' ∧ Sat w0 I (gmap k enc b c (fnDel F kl) :: L) w' := by
  obtain ⟨D, hs, ho, kk⟩ := h.isGMap
  obtain ⟨w', hrun, ho', hg⟩ := ho.drop T.keyed T.ht hkey ty
  exact ⟨w', hrun, kk _ _ _ _ hs.del ho' hg.grown⟩
section
variable {ops : Array Oper} {rest : List Oper} {o : Oper} {a : Act} {Q : Exit → Act → World → Prop}
theorem wpList_gmapPut (T : GMapT t k e enc x0) (hg : o.guard = none) (m x v : Operand) (hop : o.op = Op.mapUpdate t m x v) (hm : a.eval m = .map (some b)) {key : Value} {kl : Lit} (hx : a.eval x = key) (hkey : keyOf Tryz.prog k key = some kl) {y : α} (hv : a.eval v = enc y)
    (H : Sat w0 I (gmap k enc b c F :: L) w) (hc : c < 1000000) (hK : ∀ w', Sat w0 I (gmap k enc b (c + 1) (fnPut F kl y) :: L) w' → wpList Tryz.prog ops Q rest (a.put o.dst undef) w') : wpList Tryz.prog ops Q (o :: rest) a w := by
  refine wpList_plain hg fun K' hK' => ?_
  obtain ⟨w', hrun, r1⟩ := H.gmapPut T hkey y hc
  unfold Oper.wp
  simp [execOp, hop, hm, hx, hv, hrun, Result.andThen]
  exact hK' _ _ (hK w' r1)
theorem wpList_gmapDel (T : GMapT t k e enc x0) (hg : o.guard = none) (m x : Operand) (hop : o.op = Op.call { callee := Callee.builtin Builtin.delete, args := #[m, x], argTypes := #[t, k] }) (hm : a.eval m = .map (some b)) {key : Value} {kl : Lit} (hx : a.eval x = key) (hkey : keyOf Tryz.prog k key = some kl)
    (H : Sat w0 I (gmap k enc b c F :: L) w) (hK : ∀ w', Sat w0 I (gmap k enc b c (fnDel F kl) :: L) w' → wpList Tryz.prog ops Q rest (a.put o.dst (.tuple #[])) w') : wpList Tryz.prog ops Q (o :: rest) a w := by
  refine wpList_plain hg fun K' hK' => ?_
  obtain ⟨w', hrun, r1⟩ := H.gmapDel T hkey o.type
  unfold Oper.wp
  simp [execOp, hop, resolve, invoke, builtin, hm, hx, hrun, Result.andThen]
  exact hK' _ _ (hK w' r1)
end
end
end Go.Proofs.YtekioplbfoonkaaGreatDoor
