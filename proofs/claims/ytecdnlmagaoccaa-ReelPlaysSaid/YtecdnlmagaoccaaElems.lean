/- Arguments that came in: slices of one-cell elements, for good in the memory; rows of strings and of integers. -/
import Derived.Test.YtecdnlmagaoccaaOpen
import Derived.Test.YtecdnlmagaoccaaSat
namespace Go.Proofs.Ytecdnlmagaoccaa
open Go.RowKit
set_option linter.unusedVariables false
set_option maxRecDepth 100000
theorem cellI_start {w : World} {b o : Nat} {v : Value} (h : w.cell? ⟨b, o, none⟩ = some v) : cellI (wpart w) b o = some v := by
  unfold cellI wpart
  unfold World.cell? at h
  simp only at h
  cases hx : w.heap[b]? with
  | none => rw [hx] at h; cases h
  | some u => rw [hx] at h; cases u <;> simp_all
theorem okT_slc {P : Program} {w : World} {d t e : Nat} {v : Value} (ht : P.underlying t = some (.slice e)) (h : OkT P w (d + 1) t [v]) : ∃ a len cap, v = .slice a len cap := by
  unfold OkT at h
  rw [ht] at h
  obtain ⟨a, len, cap, hn, _⟩ := h
  exact ⟨a, len, cap, by simpa using hn⟩
theorem Rd.take {I : Part} {a : Option Addr} {vs : List Value} (h : Rd I a vs) (n : Nat) : Rd I a (vs.take n) := fun i hi => by
  have hi' : i < vs.length := by simp at hi; omega
  obtain ⟨b, off, e, hc⟩ := h i hi'
  exact ⟨b, off, e, by rw [hc]; simp⟩
theorem Sat.emptyRow {w0 w : World} {I : Part} {L : List HP} {b : Nat} {T : TypeId} (h : Sat w0 I (blk b T [] :: L) w) (sz : Nat) : Sat w0 I (row T sz (.slice (some ⟨b, 0, none⟩) 0 0) 0 [] :: L) w :=
  h.weaken fun g hg => ⟨by simp, Or.inr ⟨b, 0, #[], rfl, hg, Nat.le_refl _, Nat.zero_le _, by simp, by simp⟩⟩
theorem Sat.one {w0 w : World} {I : Part} {A : HP} {L : List HP} (h : Sat w0 I (A :: L) w) : Sat w0 I [A] w := h.mapL fun g ⟨x, hx, a, _⟩ => ⟨x, hx, a, trivial⟩
theorem Sat.two {w0 w : World} {I : Part} {A B : HP} {L : List HP} (h : Sat w0 I (A :: B :: L) w) : Sat w0 I [A, B] w := h.mapL fun g ⟨x, hx, a, y, hy, b, _⟩ => ⟨x, hx, a, y, hy, b, trivial⟩
theorem slStr : SliceT Try.prog 22 9 1 16 := ⟨Try.underlying22, ⟨_, _, rfl, rfl, rfl, rfl, rfl⟩, by decide⟩
theorem slInt : SliceT Try.prog 42 3 1 8 := ⟨Try.underlying42, ⟨_, _, rfl, rfl, rfl, rfl, rfl⟩, by decide⟩
theorem okT_elems {d : Nat} {w : World} {t e : TypeId} {la : Option Addr} {len cap : Nat} {α : Type} (mk : α → Value) (ht : Try.prog.underlying t = some (.slice e)) (hc : Try.prog.cellsOf e = 1)
    (ho : ∀ v, OkT Try.prog w d e [v] → ∃ x, v = mk x) (hl : OkT Try.prog w (d + 1) t [.slice la len cap]) : len ≤ cap ∧ cap ≤ 9223372036854775807 ∧ ∃ xs : List α, xs.length = len ∧ Rd (wpart w) la (xs.map mk) ∧ ∀ x ∈ xs, OkT Try.prog w d e [mk x] := by
  obtain ⟨h1, h2, h3⟩ := okT_slice ht (sz := 1) hc (by omega) hl
  refine ⟨h1, h2, ?_⟩
  have h4 : ∀ i, i < len → ∃ x : α, (∃ b off, la = some ⟨b, off, none⟩ ∧ cellI (wpart w) b (off + i) = some (mk x)) ∧ OkT Try.prog w d e [mk x] := fun i hi => by
    obtain ⟨b, off, cs, ha, hb, hlen, hok, hc⟩ := h3 i (by omega)
    match cs, hlen with
    | [c], _ =>
      obtain ⟨x, rfl⟩ := ho c hok
      exact ⟨x, ⟨b, off, ha, cellI_start (by simpa using hc 0 (by simp))⟩, hok⟩
  have h5 : ∃ f : Nat → Option α, ∀ i, i < len → ∃ x, f i = some x ∧ (∃ b off, la = some ⟨b, off, none⟩ ∧ cellI (wpart w) b (off + i) = some (mk x)) ∧ OkT Try.prog w d e [mk x] := by
    obtain ⟨f, hf⟩ := Deep.choose_lt (p := fun i (x : Option α) => ∃ y, x = some y ∧ (∃ b off, la = some ⟨b, off, none⟩ ∧ cellI (wpart w) b (off + i) = some (mk y)) ∧ OkT Try.prog w d e [mk y]) (n := len) (fun i hi => by
      obtain ⟨x, hx⟩ := h4 i hi
      exact ⟨some x, x, rfl, hx⟩)
    exact ⟨f, hf⟩
  obtain ⟨f, hf⟩ := h5
  have h6 : ∀ n, n ≤ len → ∃ xs : List α, xs.length = n ∧ ∀ i (h : i < xs.length), f i = some xs[i] := by
    intro n
    induction n with
    | zero => intro _; exact ⟨[], rfl, fun i h => absurd h (Nat.not_lt_zero _)⟩
    | succ n ih =>
      intro hn
      obtain ⟨xs, hx, hg⟩ := ih (by omega)
      obtain ⟨x, hfx, _⟩ := hf n (by omega)
      refine ⟨xs ++ [x], by simp [hx], fun i hi => ?_⟩
      by_cases h : i < xs.length
      · rw [List.getElem_append_left h]; exact hg i h
      · have : i = n := by simp at hi; omega
        subst this
        rw [hfx, List.getElem_append_right (by omega)]
        simp
  obtain ⟨xs, hx, hg⟩ := h6 len (Nat.le_refl _)
  refine ⟨xs, hx, fun i hi => ?_, fun x hxm => ?_⟩
  · have hi' : i < xs.length := by simpa using hi
    obtain ⟨y, hy, ⟨b, off, e1, e2⟩, _⟩ := hf i (by omega)
    have := hg i hi'
    rw [hy] at this
    cases this
    exact ⟨b, off, e1, by simpa using e2⟩
  · obtain ⟨i, hi, rfl⟩ := List.mem_iff_getElem.1 hxm
    obtain ⟨y, hy, _, ok⟩ := hf i (by omega)
    have := hg i hi
    rw [hy] at this
    cases this
    exact ok
theorem okT_strs {d : Nat} {w : World} {la : Option Addr} {len cap : Nat} (hl : OkT Try.prog w (d + 2) 22 [.slice la len cap]) : len ≤ cap ∧ cap ≤ 9223372036854775807 ∧ ∃ ss : List ByteArray, ss.length = len ∧ Rd (wpart w) la (ss.map Value.string) ∧ ∀ s ∈ ss, s.size ≤ 9223372036854775807 := by
  obtain ⟨h1, h2, xs, h3, h4, h5⟩ := okT_elems Value.string Try.underlying22 (by kernel_rfl) (fun v hv => by obtain ⟨z, hz, _⟩ := okT_str Try.underlying9 hv; exact ⟨z, hz⟩) hl
  exact ⟨h1, h2, xs, h3, h4, fun s hs => by
    obtain ⟨y, hy, hw⟩ := okT_str Try.underlying9 (h5 s hs); cases hy; unfold maxLen at hw; exact hw⟩
theorem okT_intl {d : Nat} {w : World} {la : Option Addr} {len cap : Nat} (hl : OkT Try.prog w (d + 2) 42 [.slice la len cap]) : len ≤ cap ∧ cap ≤ 9223372036854775807 ∧ ∃ zs : List Int, zs.length = len ∧ Rd (wpart w) la (zs.map (Value.int .i64)) ∧ ∀ z ∈ zs, -9223372036854775808 ≤ z ∧ z ≤ 9223372036854775807 := by
  obtain ⟨h1, h2, xs, h3, h4, h5⟩ := okT_elems (Value.int .i64) Try.underlying42 (by kernel_rfl) (fun v hv => by obtain ⟨z, hz, _⟩ := okT_int Try.underlying3 hv; exact ⟨z, hz⟩) hl
  exact ⟨h1, h2, xs, h3, h4, fun s hs => by
    obtain ⟨y, hy, hw⟩ := okT_int Try.underlying3 (h5 s hs); cases hy; exact wf_i64 hw⟩
end Go.Proofs.Ytecdnlmagaoccaa
