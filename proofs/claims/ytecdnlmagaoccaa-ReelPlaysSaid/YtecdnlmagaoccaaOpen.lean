/- What an argument's values are, from its reading: one law for every plain type (integers, bools, strings, structs, slices of them). -/
import Derived.Test.YtecdnlmagaoccaaBase
import Derived.ChangeArms
import Derived.Deep.Slices
namespace Go.Proofs.Ytecdnlmagaoccaa
open Go.RowKit

/-- what the cells of a value of type t are, to a depth d. -/
def OkT (P : Program) (w : World) : Nat → TypeId → List Value → Prop
  | 0, _, _ => True
  | d + 1, t, cs => match P.underlying t with
    | some .bool => ∃ b, cs = [.bool b]
    | some (.int k) => ∃ n, cs = [.int k n] ∧ (Lit.int k n).wf = true
    | some .string => ∃ s : ByteArray, cs = [.string s] ∧ s.size ≤ maxLen
    | some (.slice e) => ∃ a len cap, cs = [.slice a len cap] ∧ len ≤ cap ∧ cap ≤ maxLen ∧
        (0 < P.cellsOf e → ∀ i, i < cap → ∃ b off cs', a = some ⟨b, off, none⟩ ∧ cs'.length = P.cellsOf e ∧ OkT P w d e cs' ∧ ∀ j (hj : j < cs'.length), w.cell? ⟨b, off + (i * P.cellsOf e + j), none⟩ = some cs'[j])
    | some (.struct fs) => cs.length = P.cellsOf t ∧ ∀ (i : Nat) (f : Field), fs[i]? = some f → OkT P w d f.type ((cs.drop f.offset).take (P.cellsOf f.type))
    | _ => True

theorem cells_at {w : World} {base : Nat} {a : Addr} {n : Nat} {cs : List Value} (h : w.cells? base a n = some cs) :
    cs.length = n ∧ ∀ j (hj : j < cs.length), w.cell? (a.add j) = some cs[j] := by
  obtain ⟨h1, h2, h3⟩ := World.cells?_some h
  refine ⟨h2, fun j hj => ?_⟩
  have := h3 j (by omega)
  rw [List.getElem?_eq_getElem hj] at this
  exact this

theorem spot_of_cell {w : World} {a : Addr} {v : Value} (h : w.cell? a = some v) : a.spot = none := by
  cases hs : a.spot with
  | none => rfl
  | some x => simp [World.cell?, hs] at h; split at h <;> simp at h

theorem okT_of_trod {H : Type} {enc : TypeId × Value → H} {P : Program} {w : World} {base : Nat} {held : Bool} :
    ∀ (fuel : Nat) (d : Nat) (t : TypeId) (cs : List Value) {x : DataW H × List MemPlace},
      DataW.trod enc P w base (fun _ => true) held fuel t cs = some x → OkT P w d t cs := by
  intro fuel
  induction fuel with
  | zero => intro d t cs x h; simp [DataW.trod] at h
  | succ n ih =>
    intro d t cs x h
    cases d with
    | zero => trivial
    | succ d =>
      unfold OkT
      split
      · rename_i ht; obtain ⟨b, hb, _⟩ := DataW.trod_bool ht h; exact ⟨b, hb⟩
      · rename_i k ht; obtain ⟨m, hm, _, hw⟩ := DataW.trod_int ht h; exact ⟨m, hm, hw⟩
      · rename_i ht; obtain ⟨s, hs, _, hl⟩ := DataW.trod_string ht h; exact ⟨s, hs, hl⟩
      · rename_i e ht
        rcases DataW.trod_slice ht h with ⟨rfl, _⟩ | ⟨a, len, cap, elems, rest, m, hf, rfl, _, hb, hl, hm, hlen, hel, hsp, _⟩
        · exact ⟨none, 0, 0, rfl, Nat.le_refl _, Nat.zero_le _, fun _ i hi => absurd hi (Nat.not_lt_zero _)⟩
        · obtain rfl : n = m := by omega
          refine ⟨some a, len, cap, rfl, hl, hm, fun hsz i hi => ?_⟩
          obtain ⟨hr1, hr2⟩ := hsp rfl
          have key : ∀ i, i < cap → ∃ cs', w.cells? base (a.add (i * P.cellsOf e)) (P.cellsOf e) = some cs' ∧ ∃ y, DataW.trod enc P w base (fun _ => true) held n e cs' = some y := by
            intro i hi
            by_cases hil : i < len
            · have := hel i hil
              rw [List.getElem?_eq_getElem (by omega)] at this
              obtain ⟨cs', h1, h2⟩ := Option.bind_eq_some_iff.1 this
              exact ⟨cs', h1, _, h2⟩
            · have := hr2 (i - len) (by omega)
              rw [show len + (i - len) = i by omega, List.getElem?_eq_getElem (by omega)] at this
              obtain ⟨cs', h1, h2⟩ := Option.bind_eq_some_iff.1 this
              exact ⟨cs', h1, _, h2⟩
          have hspot : a.spot = none := by
            obtain ⟨cs', h1, _⟩ := key 0 (by omega)
            obtain ⟨h2, h3⟩ := cells_at h1
            have := spot_of_cell (h3 0 (by omega))
            simpa [Addr.add] using this
          obtain ⟨cs', h1, y, h2⟩ := key i hi
          obtain ⟨h3, h4⟩ := cells_at h1
          obtain ⟨b, off, spot⟩ := a
          simp only at hspot
          subst hspot
          refine ⟨b, off, cs', rfl, h3, ih d e cs' h2, fun j hj => ?_⟩
          have h5 := h4 j hj
          rw [Deep.add_add] at h5
          rw [← h5]
          congr 1
          unfold Addr.add
          split <;> simp_all
      · rename_i fs ht
        obtain ⟨xs, m, hf, _, hlen, hxs, hfl⟩ := DataW.trod_struct ht h
        obtain rfl : n = m := by omega
        refine ⟨hlen, fun i f hfi => ?_⟩
        have h1 := hfl i f hfi
        have hi : i < fs.size := (Array.getElem?_eq_some_iff.1 hfi).1
        rw [List.getElem?_eq_getElem (by omega)] at h1
        exact ih d _ _ h1
      · trivial

/-- a slice of integers that came in. -/
theorem okT_ints {P : Program} {w : World} {d : Nat} {t e : TypeId} {k : IntKind} {a : Option Addr} {len cap : Nat} (ht : P.underlying t = some (.slice e)) (he : P.underlying e = some (.int k)) (hc : P.cellsOf e = 1)
    (h : OkT P w (d + 2) t [.slice a len cap]) : ∃ zs : List Int, zs.length = cap ∧ len ≤ cap ∧ cap ≤ maxLen ∧ IntsAt k w a zs ∧ ∀ z ∈ zs, (Lit.int k z).wf = true := by
  unfold OkT at h
  rw [ht] at h
  obtain ⟨a', len', cap', heq, hl, hm, hx⟩ := h
  simp only [List.cons.injEq, Value.slice.injEq, and_true] at heq
  obtain ⟨rfl, rfl, rfl⟩ := heq
  have hx' : ∀ i, i < cap → ∃ z : Int, (∃ b off, a = some ⟨b, off, none⟩ ∧ w.cell? ⟨b, off + i, none⟩ = some (.int k z)) ∧ (Lit.int k z).wf = true := by
    intro i hi
    obtain ⟨b, off, cs', ha, hcl, hok, hcell⟩ := hx (by omega) i hi
    unfold OkT at hok
    rw [he] at hok
    obtain ⟨z, hz, hw⟩ := hok
    subst hz
    have := hcell 0 (by simp)
    rw [hc] at this
    exact ⟨z, ⟨b, off, ha, by simpa using this⟩, hw⟩
  obtain ⟨f, hf⟩ := Deep.choose_lt hx'
  refine ⟨(List.range cap).map f, by simp, hl, hm, fun i hi => ?_, fun z hz => ?_⟩
  · have hi' : i < cap := by simpa using hi
    obtain ⟨b, off, h1, h2⟩ := (hf i hi').1
    exact ⟨b, off, h1, by simpa using h2⟩
  · obtain ⟨i, hi, rfl⟩ := List.mem_map.1 hz
    exact (hf i (List.mem_range.1 hi)).2
theorem wf_i64 {n : Int} (h : (Lit.int .i64 n).wf = true) : -9223372036854775808 ≤ n ∧ n ≤ 9223372036854775807 := by
  simp [Lit.wf, IntKind.min, IntKind.max, IntKind.bits, IntKind.signed] at h; omega
theorem wf_u64 {n : Int} (h : (Lit.int .u64 n).wf = true) : 0 ≤ n ∧ n ≤ 18446744073709551615 := by
  simp [Lit.wf, IntKind.min, IntKind.max, IntKind.bits, IntKind.signed] at h; omega
theorem wf_u8 {n : Int} (h : (Lit.int .u8 n).wf = true) : 0 ≤ n ∧ n ≤ 255 := by
  simp [Lit.wf, IntKind.min, IntKind.max, IntKind.bits, IntKind.signed] at h; omega
theorem IntsAt.ne {k : IntKind} {w : World} {a : Option Addr} {zs : List Int} (h : IntsAt k w a zs) {p : Addr} (hp : ∀ x, a = some x → x.block ≠ p.block) (v : Value) : IntsAt k (w.setCell p v) a zs := fun i hi => by
  obtain ⟨b, off, ha, hc⟩ := h i hi
  refine ⟨b, off, ha, ?_⟩
  have := hp _ ha
  rw [World.cell?_setCell_other _ _ _ _ (by intro e; apply this; rw [e])]
  exact hc
theorem IntsAt.drewN {k : IntKind} {w : World} {a : Option Addr} {zs : List Int} (h : IntsAt k w a zs) (n : Nat) : IntsAt k (w.drewN n) a zs := h
theorem Blk.ints {k : IntKind} {w : World} {b : Nat} {T : TypeId} {zs : List Int} (h : Blk w b T (zs.map (Value.int k))) : IntsAt k w (some ⟨b, 0, none⟩) zs := fun i hi =>
  ⟨b, 0, rfl, by rw [Nat.zero_add]; exact h.cell i (by simp [hi])⟩
section
variable {P : Program} {w : World} {d : Nat} {t : TypeId}
theorem okT_slice {e : TypeId} {sz : Nat} {a : Option Addr} {len cap : Nat} (ht : P.underlying t = some (.slice e)) (hc : P.cellsOf e = sz) (h0 : 0 < sz) (h : OkT P w (d + 1) t [.slice a len cap]) :
    len ≤ cap ∧ cap ≤ 9223372036854775807 ∧ ∀ i, i < cap → ∃ b off cs', a = some ⟨b, off, none⟩ ∧ b < w.heap.size ∧ cs'.length = sz ∧ OkT P w d e cs' ∧ ∀ j (hj : j < cs'.length), w.cell? ⟨b, off + (i * sz + j), none⟩ = some cs'[j] := by
  unfold OkT at h
  rw [ht] at h
  obtain ⟨a', len', cap', heq, hl1, hl2, hx⟩ := h
  simp only [List.cons.injEq, Value.slice.injEq, and_true] at heq
  obtain ⟨rfl, rfl, rfl⟩ := heq
  rw [hc] at hx
  unfold maxLen at hl2
  refine ⟨hl1, by omega, fun i hi => ?_⟩
  obtain ⟨b, off, cs, ha, hlen, hok, hcell⟩ := hx h0 i hi
  exact ⟨b, off, cs, ha, World.block_lt_of_cell? _ _ (hcell 0 (by omega)), hlen, hok, hcell⟩
theorem okT_sub {fs : Array Field} {cs : List Value} (i : Nat) {f : Field} (ht : P.underlying t = some (.struct fs)) (hf : fs[i]? = some f) (h : OkT P w (d + 1) t cs) : OkT P w d f.type ((cs.drop f.offset).take (P.cellsOf f.type)) := by
  unfold OkT at h
  rw [ht] at h
  exact h.2 i f hf
theorem okT_len {fs : Array Field} {cs : List Value} (ht : P.underlying t = some (.struct fs)) (h : OkT P w (d + 1) t cs) : cs.length = P.cellsOf t := by
  unfold OkT at h
  rw [ht] at h
  exact h.1
theorem okT_fld {fs : Array Field} {cs : List Value} (i : Nat) {T o : Nat} {f : Field} (ht : P.underlying t = some (.struct fs)) (hf : fs[i]? = some f) (hT : f.type = T) (ho : f.offset = o) (hc : P.cellsOf T = 1) (hlt : o < cs.length) (h : OkT P w (d + 1) t cs) :
    OkT P w d T [cs[o]] := by
  subst hT ho
  have := okT_sub i ht hf h
  rw [hc] at this
  rw [show (cs.drop f.offset).take 1 = [cs[f.offset]] from by rw [List.drop_eq_getElem_cons hlt]; rfl] at this
  exact this
theorem okT_int {k : IntKind} {v : Value} (ht : P.underlying t = some (.int k)) (h : OkT P w (d + 1) t [v]) : ∃ n, v = .int k n ∧ (Lit.int k n).wf = true := by
  unfold OkT at h
  rw [ht] at h
  obtain ⟨n, hn, hw⟩ := h
  exact ⟨n, by simpa using hn, hw⟩
theorem okT_bool {v : Value} (ht : P.underlying t = some .bool) (h : OkT P w (d + 1) t [v]) : ∃ b, v = .bool b := by
  unfold OkT at h
  rw [ht] at h
  obtain ⟨n, hn⟩ := h
  exact ⟨n, by simpa using hn⟩
theorem okT_str {v : Value} (ht : P.underlying t = some .string) (h : OkT P w (d + 1) t [v]) : ∃ s : ByteArray, v = .string s ∧ s.size ≤ maxLen := by
  unfold OkT at h
  rw [ht] at h
  obtain ⟨n, hn, hw⟩ := h
  exact ⟨n, by simpa using hn, hw⟩
end
/-- one operation, by its value: to keep a split out of the walk. -/
theorem wpList_val {P : Program} {ops : Array Oper} {rest : List Oper} {o : Oper} {a : Act} {w : World} {Q : Exit → Act → World → Prop} (hgd : o.guard = none) (v : Value)
    (hrun : (execOp a.eval o).run P w = .ok (.value v) w) (h : wpList P ops Q rest (a.put o.dst v) w) : wpList P ops Q (o :: rest) a w :=
  wpList_plain hgd fun K hK => by unfold Oper.wp; rw [hrun]; exact hK _ _ h
end Go.Proofs.Ytecdnlmagaoccaa
