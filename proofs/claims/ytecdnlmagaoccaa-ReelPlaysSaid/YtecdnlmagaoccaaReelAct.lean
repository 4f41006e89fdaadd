/- Calls of a volume that came in. -/
import Derived.Test.YtecdnlmagaoccaaReelSt
namespace Go.Proofs.Ytecdnlmagaoccaa
open Go.RowKit
set_option linter.unusedVariables false
/-- a call that came in. -/
structure RAct where
  kind : Int
  n : Int
  m : Int
  s : ByteArray
  ca : Option Addr
  cl : Nat
  cc : Nat
  by_ : Int
  zs : List Int
instance : Inhabited RAct := ⟨⟨0, 0, 0, ⟨#[]⟩, none, 0, 0, 0, []⟩⟩
def RAct.cells (t : RAct) : List Value := [.int .i64 t.kind, .int .i64 t.n, .int .i64 t.m, .string t.s, .slice t.ca t.cl t.cc, .int .u8 t.by_]
structure RAct.good (t : RAct) (I : Part) : Prop where
  n : -9223372036854775808 ≤ t.n ∧ t.n ≤ 9223372036854775807
  m : -9223372036854775808 ≤ t.m ∧ t.m ≤ 9223372036854775807
  s : t.s.size ≤ 9223372036854775807
  by_ : 0 ≤ t.by_ ∧ t.by_ ≤ 255
  zl : t.zs.length = t.cl
  cl : t.cl ≤ 9223372036854775807
  rd : Rd I t.ca (t.zs.map (Value.int .i64))
  zb : ∀ z ∈ t.zs, -9223372036854775808 ≤ z ∧ z ≤ 9223372036854775807
theorem RAct.good.mono {t : RAct} {I J : Part} (h : t.good I) (k : I.le J) : t.good J := ⟨h.n, h.m, h.s, h.by_, h.zl, h.cl, h.rd.mono k, h.zb⟩
def RActAt (I : Part) (la : Option Addr) (i : Nat) (t : RAct) : Prop := t.good I ∧ ∃ b off, la = some ⟨b, off, none⟩ ∧ ∀ j v, t.cells[j]? = some v → cellI I b (off + i * 6 + j) = some v
theorem okT_ract {w : World} {d : Nat} {cs : List Value} (hl : cs.length = 6) (hok : OkT Try.prog w (d + 3) 48 cs) : ∃ t : RAct, cs = t.cells ∧ t.good (wpart w) := by
  match cs, hl with
  | [c0, c1, c2, c3, c4, c5], _ =>
    obtain ⟨a0, h0, w0⟩ := okT_int Try.underlying3 (okT_fld 0 (T := 3) (o := 0) Try.underlying48 rfl rfl rfl (by kernel_rfl) (by simp) hok)
    obtain ⟨a1, h1, w1⟩ := okT_int Try.underlying3 (okT_fld 1 (T := 3) (o := 1) Try.underlying48 rfl rfl rfl (by kernel_rfl) (by simp) hok)
    obtain ⟨a2, h2, w2⟩ := okT_int Try.underlying3 (okT_fld 2 (T := 3) (o := 2) Try.underlying48 rfl rfl rfl (by kernel_rfl) (by simp) hok)
    obtain ⟨a3, h3, w3⟩ := okT_str Try.underlying9 (okT_fld 3 (T := 9) (o := 3) Try.underlying48 rfl rfl rfl (by kernel_rfl) (by simp) hok)
    have f4 := okT_fld 4 (T := 42) (o := 4) Try.underlying48 rfl rfl rfl (by kernel_rfl) (by simp) hok
    obtain ⟨ca, cl, cc, h4⟩ := okT_slc Try.underlying42 f4
    rw [h4] at f4
    obtain ⟨e1, e2, zs, e3, e4, e5⟩ := okT_intl f4
    obtain ⟨a5, h5, w5⟩ := okT_int Try.underlying5 (okT_fld 5 (T := 5) (o := 5) Try.underlying48 rfl rfl rfl (by kernel_rfl) (by simp) hok)
    simp only [List.getElem_cons_zero, List.getElem_cons_succ] at h0 h1 h2 h3 h4 h5
    subst h0 h1 h2 h3 h4 h5
    unfold maxLen at w3
    exact ⟨⟨a0, a1, a2, a3, ca, cl, cc, a5, zs⟩, rfl, wf_i64 w1, wf_i64 w2, w3, wf_u8 w5, e3, by show cl ≤ _; omega, e4, e5⟩
theorem okT_racts {w : World} {la : Option Addr} {len cap : Nat} (hl : OkT Try.prog w 6 46 [.slice la len cap]) : len ≤ cap ∧ cap ≤ 9223372036854775807 ∧ ∀ i, i < len → ∃ t, RActAt (wpart w) la i t := by
  obtain ⟨h1, h2, h3⟩ := okT_slice Try.underlying46 (sz := 6) (by kernel_rfl) (by omega) hl
  refine ⟨h1, h2, fun i hi => ?_⟩
  obtain ⟨b, off, cs, ha, hb, hlen, hok, hc⟩ := h3 i (by omega)
  obtain ⟨t, rfl, hg⟩ := okT_ract hlen hok
  refine ⟨t, hg, b, off, ha, fun j v hj => ?_⟩
  obtain ⟨hj1, hj2⟩ := List.getElem?_eq_some_iff.1 hj
  have := hc j hj1
  rw [hj2] at this
  rw [Nat.add_assoc]
  exact cellI_start this
theorem RActAt.get {I : Part} {la : Option Addr} {i : Nat} {t : RAct} (h : RActAt I la i t) {w0 w : World} {L : List HP} (H : Sat w0 I L w) : ∃ b off, la = some ⟨b, off, none⟩ ∧
    w.cell? ⟨b, off + i * 6, none⟩ = some (.int .i64 t.kind) ∧ w.cell? ⟨b, off + i * 6 + 1, none⟩ = some (.int .i64 t.n) ∧ w.cell? ⟨b, off + i * 6 + 2, none⟩ = some (.int .i64 t.m) ∧ w.cell? ⟨b, off + i * 6 + 3, none⟩ = some (.string t.s) ∧
    w.cell? ⟨b, off + i * 6 + 4, none⟩ = some (.slice t.ca t.cl t.cc) ∧ w.cell? ⟨b, off + i * 6 + 5, none⟩ = some (.int .u8 t.by_) := by
  obtain ⟨_, b, off, e, hc⟩ := h
  exact ⟨b, off, e, H.atI (hc 0 _ rfl), H.atI (hc 1 _ rfl), H.atI (hc 2 _ rfl), H.atI (hc 3 _ rfl), H.atI (hc 4 _ rfl), H.atI (hc 5 _ rfl)⟩
theorem RActAt.mono {I J : Part} {la : Option Addr} {i : Nat} {t : RAct} (h : RActAt I la i t) (k : I.le J) : RActAt J la i t := by
  obtain ⟨g, b, off, e, hc⟩ := h
  exact ⟨g.mono k, b, off, e, fun j v hj => cellI_mono k (hc j v hj)⟩
/-! ### What was written stays -/
structure StI (A : List ByteArray) (n : Nat) (bl : List Bk) (su a : Nat) : Prop where
  ex : ∃ X, bl = bks A ++ X ∧ X.length ≤ n ∧ wsum X ≤ 34 * n
  lo : A.length ≤ su
  su : su ≤ bl.length
  a : a ≤ bl.length
def StP (A : List ByteArray) (n : Nat) (v : Vst) : Prop := ∃ bl su a, v = pv 100000 bl su a ∧ StI A n bl su a
theorem StI.wt {A : List ByteArray} {n : Nat} {bl : List Bk} {su a : Nat} (h : StI A n bl su a) (hA : ∀ s ∈ A, s.size ≤ 30) : wsum bl ≤ 34 * (A.length + n) ∧ bl.length ≤ A.length + n := by
  obtain ⟨X, rfl, h1, h2⟩ := h.ex
  have := bks_wsum A hA
  rw [wsum_app, List.length_append, bks_len]; omega
theorem StP.ok {A : List ByteArray} {n : Nat} {v : Vst} (h : StP A n v) (hA : ∀ s ∈ A, s.size ≤ 30) (hl : A.length ≤ 8) (hn : n ≤ 20) : v.ok ∧ v.bl.length < 1048576 := by
  obtain ⟨bl, su, a, rfl, hi⟩ := h
  have := hi.wt hA
  exact ⟨pv_ok (by omega) (by omega) (by omega) hi.su hi.a (by omega), by show bl.length < _; omega⟩
theorem StI.same {A : List ByteArray} {n : Nat} {bl : List Bk} {su a : Nat} (h : StI A n bl su a) (a' : Nat) (ha : a' ≤ bl.length) : StI A (n + 1) bl su a' := by
  obtain ⟨X, h0, h1, h2⟩ := h.ex
  exact ⟨⟨X, h0, by omega, by omega⟩, h.lo, h.su, ha⟩
section
variable {A : List ByteArray} {n : Nat} {v V : Vst} {E : Int}
theorem StP.add (h : StP A n v) (b : Bk) (hb : bwt b ≤ 34) (hA : addS v b = (E, V)) : StP A (n + 1) V := by
  obtain ⟨bl, su, a, rfl, hi⟩ := h
  by_cases h1 : a = bl.length
  · cases ht : tornL bl
    · by_cases hf : (bwt b : Int) ≤ 100000 - wsum bl
      · rw [pv_add b h1 ht hf] at hA
        cases hA
        obtain ⟨X, h0, h2, h3⟩ := hi.ex
        refine ⟨_, _, _, rfl, ⟨X ++ [b], by rw [h0, List.append_assoc], by simp; omega, by rw [wsum_app]; simp only [wsum]; omega⟩, hi.lo, by have := hi.su; simp; omega, by simp⟩
      · rw [pv_full b h1 ht hf] at hA
        cases hA
        exact ⟨_, _, _, rfl, hi.same _ hi.a⟩
    · have : addS (pv 100000 bl su a) b = (16, pv 100000 bl su a) := by simp [addS, pv, tryV, tryE, tryA, h1, ht]
      rw [this] at hA
      cases hA
      exact ⟨_, _, _, rfl, hi.same _ hi.a⟩
  · rw [pv_order b h1] at hA
    cases hA
    exact ⟨_, _, _, rfl, hi.same _ hi.a⟩
theorem StP.flush (h : StP A n v) : StP A (n + 1) (flushV v) := by
  obtain ⟨bl, su, a, rfl, hi⟩ := h
  have h2 := hi.same a hi.a
  have := hi.lo; have := hi.su
  exact ⟨bl, bl.length, a, rfl, h2.ex, by omega, Nat.le_refl _, hi.a⟩
theorem StP.read (h : StP A n v) {s : ByteArray} {m : Bool} (hA : readS v = ((s, m, E), V)) : StP A (n + 1) V := by
  obtain ⟨bl, su, a, rfl, hi⟩ := h
  by_cases h1 : a < bl.length
  · cases ht : bl[a].torn
    · rw [pv_read h1 ht] at hA
      cases hA
      exact ⟨_, _, _, rfl, hi.same _ (by omega)⟩
    · rw [pv_readTorn h1 ht] at hA
      cases hA
      exact ⟨_, _, _, rfl, hi.same _ hi.a⟩
  · rw [pv_readEnd h1] at hA
    cases hA
    exact ⟨_, _, _, rfl, hi.same _ hi.a⟩
theorem StP.seek (h : StP A n v) (k : Int) (hA : seekS v k = (E, V)) : StP A (n + 1) V := by
  obtain ⟨bl, su, a, rfl, hi⟩ := h
  by_cases h1 : k < 0 ∨ (bl.length : Int) < k
  · rw [pv_seekNo k h1] at hA
    cases hA
    exact ⟨_, _, _, rfl, hi.same _ hi.a⟩
  · obtain ⟨m, rfl⟩ := Int.eq_ofNat_of_zero_le (by omega : 0 ≤ k)
    rw [pv_seek m (by omega)] at hA
    cases hA
    exact ⟨_, _, _, rfl, hi.same _ (by omega)⟩
theorem StP.skip (h : StP A n v) (hA : skipS v = (E, V)) : StP A (n + 1) V := by
  obtain ⟨bl, su, a, rfl, hi⟩ := h
  cases h1 : findMark bl a with
  | none =>
    rw [pv_skipNo h1] at hA
    cases hA
    exact ⟨_, _, _, rfl, hi.same _ hi.a⟩
  | some j =>
    rw [pv_skip h1] at hA
    cases hA
    have := findMark_lt bl a j h1
    exact ⟨_, _, _, rfl, hi.same _ (by omega)⟩
theorem wsum_take_le (l : List Bk) (k : Nat) : wsum (l.take k) ≤ wsum l := by
  have := wsum_split l k; omega
theorem take_over (A : List ByteArray) (X : List Bk) (k : Nat) (h : A.length ≤ k) : (bks A ++ X).take k = bks A ++ X.take (k - A.length) := by
  rw [List.take_append, bks_len, List.take_of_length_le (by rw [bks_len]; exact h)]
theorem StP.trim (h : StP A n v) (hA : trimS v = (E, V)) : StP A (n + 1) V := by
  obtain ⟨bl, su, a, rfl, hi⟩ := h
  cases ht : tornL bl
  · have : trimS (pv 100000 bl su a) = (5, pv 100000 bl su a) := by simp [trimS, pv, tryV, tryE, tryA, ht]
    rw [this] at hA
    cases hA
    exact ⟨_, _, _, rfl, hi.same _ hi.a⟩
  · have : trimS (pv 100000 bl su a) = (0, pv 100000 (bl.take (bl.length - 1)) (min su (bl.length - 1)) (min a (bl.length - 1))) := by simp [trimS, pv, tryV, tryE, tryA, ht, cutV]
    rw [this] at hA
    cases hA
    have hp := tornL_pos bl ht
    obtain ⟨X, h0, h1, h2⟩ := hi.ex
    have hX : X ≠ [] := fun e => by
      rw [h0, e, List.append_nil, bks_torn] at ht; cases ht
    have hXl : 0 < X.length := List.length_pos_iff.2 hX
    have hbl : bl.length = A.length + X.length := by rw [h0, List.length_append, bks_len]
    have hlt : (bl.take (bl.length - 1)).length = bl.length - 1 := by rw [List.length_take]; omega
    have hlo := hi.lo
    refine ⟨_, _, _, rfl, ⟨X.take (bl.length - 1 - A.length), ?_, ?_, ?_⟩, by omega, by rw [hlt]; omega, by rw [hlt]; omega⟩
    · have e := take_over A X (bl.length - 1) (by omega)
      rw [← h0] at e; exact e
    · rw [List.length_take]; omega
    · have := wsum_take_le X (bl.length - 1 - A.length); omega
theorem StP.crash (h : StP A n v) (hv : v.ok) (zs : List Int) : StP A (n + 1) (crashV v zs) := by
  obtain ⟨bl, su, a, rfl, hi⟩ := h
  have h1 := crashN_le hv zs
  have h2 := crashB_len (pv 100000 bl su a) zs
  have h3 := crashB_wt (pv 100000 bl su a) zs
  have e : crashV (pv 100000 bl su a) zs = pv 100000 (bl.take (crashN (pv 100000 bl su a) zs) ++ crashB (pv 100000 bl su a) zs) (crashN (pv 100000 bl su a) zs + (crashB (pv 100000 bl su a) zs).length) 0 := rfl
  rw [e]
  simp only [show (pv 100000 bl su a).bl = bl from rfl, show (pv 100000 bl su a).sure = su from rfl] at h1 h2 h3
  generalize crashN (pv 100000 bl su a) zs = k at *
  generalize crashB (pv 100000 bl su a) zs = B at *
  obtain ⟨X, h0, h4, h5⟩ := hi.ex
  have hlo := hi.lo
  have hbl : bl.length = A.length + X.length := by rw [h0, List.length_append, bks_len]
  have hlt : (bl.take k).length = k := by rw [List.length_take]; omega
  have ht := take_over A X k (by omega)
  rw [← h0] at ht
  refine ⟨_, _, _, rfl, ⟨X.take (k - A.length) ++ B, by rw [ht, List.append_assoc], ?_, ?_⟩, by omega, by rw [List.length_append, hlt]; omega, Nat.zero_le _⟩
  · rw [List.length_append, List.length_take]; omega
  · rw [ht, wsum_app] at h3
    rw [h0, wsum_app] at h3
    rw [wsum_app]; omega
theorem kinds9 (k : Int) : k = 1 ∨ k = 2 ∨ k = 3 ∨ k = 4 ∨ k = 5 ∨ k = 6 ∨ k = 7 ∨ k = 8 ∨ k = 9 ∨ k = 10 ∨ k = 11 ∨ k = 12 ∨ ((k == 1) = false ∧ (k == 2) = false ∧ (k == 3) = false ∧ (k == 4) = false ∧ (k == 5) = false ∧ (k == 6) = false ∧ (k == 7) = false ∧ (k == 8) = false ∧ (k == 9) = false ∧ (k == 10) = false ∧ (k == 11) = false ∧ (k == 12) = false) := by
  simp only [beq_eq_false_iff_ne, ne_eq]; omega
end
end Go.Proofs.Ytecdnlmagaoccaa
