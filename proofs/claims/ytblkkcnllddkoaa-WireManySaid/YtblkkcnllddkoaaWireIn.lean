/- Things and texts that came in. -/
import Derived.Test.YtblkkcnllddkoaaWirePut
namespace Go.Proofs.Ytblkkcnllddkoaa
open Go.RowKit
set_option linter.unusedVariables false

theorem cellI_start {w : World} {b o : Nat} {v : Value} (h : w.cell? ⟨b, o, none⟩ = some v) : cellI (wpart w) b o = some v := by
  unfold cellI wpart
  unfold World.cell? at h
  simp only at h
  cases hx : w.heap[b]? with
  | none => rw [hx] at h; cases h
  | some u => rw [hx] at h; cases u <;> simp_all
theorem rd_ints {k : IntKind} {w : World} {a : Option Addr} {zs : List Int} (h : IntsAt k w a zs) : Rd (wpart w) a (zs.map (Value.int k)) := fun i hi => by
  obtain ⟨b, off, e, hc⟩ := h i (by simpa using hi)
  exact ⟨b, off, e, by simpa using cellI_start hc⟩
/-- one thing of a list that came in. -/
structure Thg where
  kind : Int
  n : Int
  m : Int
  u : Int
  is : Bool
  s : ByteArray
  la : Option Addr
  cap : Nat
  zs : List Int
def Thg.cells (t : Thg) : List Value := [.int .i64 t.kind, .int .i64 t.n, .int .i64 t.m, .int .u64 t.u, .bool t.is, .string t.s, .slice t.la t.zs.length t.cap]
structure Thg.Ok (I : Part) (t : Thg) : Prop where
  k0 : -9223372036854775808 ≤ t.kind ∧ t.kind ≤ 9223372036854775807
  n0 : -9223372036854775808 ≤ t.n ∧ t.n ≤ 9223372036854775807
  m0 : -9223372036854775808 ≤ t.m ∧ t.m ≤ 9223372036854775807
  u0 : 0 ≤ t.u ∧ t.u ≤ 18446744073709551615
  s0 : t.s.size ≤ 9223372036854775807
  rd : Rd I t.la (t.zs.map (Value.int .i64))
  zwf : ∀ z ∈ t.zs, -9223372036854775808 ≤ z ∧ z ≤ 9223372036854775807
  cap0 : t.zs.length ≤ t.cap ∧ t.cap ≤ 9223372036854775807
def ThgAt (I : Part) (la : Option Addr) (i : Nat) (t : Thg) : Prop := ∃ b off, la = some ⟨b, off, none⟩ ∧ (∀ j v, t.cells[j]? = some v → cellI I b (off + i * 7 + j) = some v) ∧ t.Ok I
theorem okT_thing {w : World} {d : Nat} {cs : List Value} (hl : cs.length = 7) (hok : OkT Try.prog w (d + 4) 35 cs) : ∃ t : Thg, cs = t.cells ∧ t.Ok (wpart w) := by
  match cs, hl with
  | [c0, c1, c2, c3, c4, c5, c6], _ =>
    obtain ⟨a0, h0, w0⟩ := okT_int Try.underlying3 (okT_fld 0 (T := 3) (o := 0) Try.underlying35 rfl rfl rfl (by kernel_rfl) (by simp) hok)
    obtain ⟨a1, h1, w1⟩ := okT_int Try.underlying3 (okT_fld 1 (T := 3) (o := 1) Try.underlying35 rfl rfl rfl (by kernel_rfl) (by simp) hok)
    obtain ⟨a2, h2, w2⟩ := okT_int Try.underlying3 (okT_fld 2 (T := 3) (o := 2) Try.underlying35 rfl rfl rfl (by kernel_rfl) (by simp) hok)
    obtain ⟨a3, h3, w3⟩ := okT_int Try.underlying22 (okT_fld 3 (T := 22) (o := 3) Try.underlying35 rfl rfl rfl (by kernel_rfl) (by simp) hok)
    obtain ⟨a4, h4⟩ := okT_bool Try.underlying4 (okT_fld 4 (T := 4) (o := 4) Try.underlying35 rfl rfl rfl (by kernel_rfl) (by simp) hok)
    obtain ⟨a5, h5, w5⟩ := okT_str Try.underlying9 (okT_fld 5 (T := 9) (o := 5) Try.underlying35 rfl rfl rfl (by kernel_rfl) (by simp) hok)
    have ok6 := okT_fld 6 (T := 33) (o := 6) Try.underlying35 rfl rfl rfl (by kernel_rfl) (by simp) hok
    simp only [List.getElem_cons_zero, List.getElem_cons_succ] at h0 h1 h2 h3 h4 h5 ok6
    have ok6' := ok6
    unfold OkT at ok6'
    rw [Try.underlying33] at ok6'
    obtain ⟨la, len, cap, heq, hlc, hcm, _⟩ := ok6'
    simp only [List.cons.injEq, and_true] at heq
    subst heq
    obtain ⟨ys, hyl, _, _, hia, hwf⟩ := okT_ints Try.underlying33 Try.underlying3 (by kernel_rfl) ok6
    subst h0 h1 h2 h3 h4 h5
    have hlen : (ys.take len).length = len := by rw [List.length_take]; omega
    refine ⟨⟨a0, a1, a2, a3, a4, a5, la, cap, ys.take len⟩, by unfold Thg.cells; rw [hlen], ⟨wf_i64 w0, wf_i64 w1, wf_i64 w2, wf_u64 w3, by unfold maxLen at w5; exact w5, ?_, fun z hz => wf_i64 (hwf z (List.mem_of_mem_take hz)), by show (ys.take len).length ≤ cap ∧ _; rw [hlen]; unfold maxLen at hcm; exact ⟨hlc, hcm⟩⟩⟩
    show Rd _ la ((ys.take len).map _)
    rw [List.map_take]
    exact (rd_ints hia).take len
theorem okT_things {w : World} {la : Option Addr} {len cap : Nat} (hl : OkT Try.prog w 6 31 [.slice la len cap]) : len ≤ 9223372036854775807 ∧ len ≤ cap ∧ ∀ i, i < len → ∃ t, ThgAt (wpart w) la i t := by
  obtain ⟨h1, h2, h3⟩ := okT_slice Try.underlying31 (sz := 7) (by kernel_rfl) (by omega) hl
  refine ⟨by omega, h1, fun i hi => ?_⟩
  obtain ⟨b, off, cs, ha, hb, hlen, hok, hc⟩ := h3 i (by omega)
  obtain ⟨t, rfl, ht⟩ := okT_thing hlen hok
  refine ⟨t, b, off, ha, fun j v hj => ?_, ht⟩
  obtain ⟨hj1, hj2⟩ := List.getElem?_eq_some_iff.1 hj
  have := hc j hj1
  rw [hj2] at this
  rw [Nat.add_assoc]
  exact cellI_start this
theorem ThgAt.ok {I : Part} {la : Option Addr} {i : Nat} {t : Thg} (h : ThgAt I la i t) : t.Ok I := by
  obtain ⟨_, _, _, _, ok⟩ := h; exact ok
/-- their cells, in a world. -/
theorem ThgAt.get {I : Part} {la : Option Addr} {i : Nat} {t : Thg} (h : ThgAt I la i t) {w0 w : World} {L : List HP} (H : Sat w0 I L w) : ∃ b off, la = some ⟨b, off, none⟩ ∧
    w.cell? ⟨b, off + i * 7, none⟩ = some (.int .i64 t.kind) ∧ w.cell? ⟨b, off + i * 7 + 1, none⟩ = some (.int .i64 t.n) ∧ w.cell? ⟨b, off + i * 7 + 2, none⟩ = some (.int .i64 t.m) ∧ w.cell? ⟨b, off + i * 7 + 3, none⟩ = some (.int .u64 t.u) ∧
    w.cell? ⟨b, off + i * 7 + 4, none⟩ = some (.bool t.is) ∧ w.cell? ⟨b, off + i * 7 + 5, none⟩ = some (.string t.s) ∧ w.cell? ⟨b, off + i * 7 + 6, none⟩ = some (.slice t.la t.zs.length t.cap) := by
  obtain ⟨b, off, e, hc, _⟩ := h
  exact ⟨b, off, e, H.atI (hc 0 _ rfl), H.atI (hc 1 _ rfl), H.atI (hc 2 _ rfl), H.atI (hc 3 _ rfl), H.atI (hc 4 _ rfl), H.atI (hc 5 _ rfl), H.atI (hc 6 _ rfl)⟩
/-- texts that came in. -/
theorem okT_strs {w : World} {la : Option Addr} {len cap : Nat} (hl : OkT Try.prog w 6 45 [.slice la len cap]) : len ≤ 9223372036854775807 ∧ len ≤ cap ∧ ∃ ss : List ByteArray, ss.length = len ∧ Rd (wpart w) la (ss.map Value.string) ∧ ∀ s ∈ ss, s.size ≤ 9223372036854775807 := by
  obtain ⟨h1, h2, h3⟩ := okT_slice Try.underlying45 (sz := 1) (by kernel_rfl) (by omega) hl
  refine ⟨by omega, h1, ?_⟩
  have h4 : ∀ i, i < len → ∃ s : ByteArray, (∃ b off, la = some ⟨b, off, none⟩ ∧ cellI (wpart w) b (off + i) = some (.string s)) ∧ s.size ≤ 9223372036854775807 := fun i hi => by
    obtain ⟨b, off, cs, ha, hb, hlen, hok, hc⟩ := h3 i (by omega)
    match cs, hlen with
    | [c], _ =>
      obtain ⟨s, rfl, hs⟩ := okT_str Try.underlying9 hok
      have := hc 0 (by simp)
      unfold maxLen at hs
      exact ⟨s, ⟨b, off, ha, cellI_start (by simpa using this)⟩, hs⟩
  obtain ⟨f, hf⟩ := Deep.choose_lt h4
  refine ⟨(List.range len).map f, by simp, fun i hi => ?_, fun s hs => ?_⟩
  · have hi' : i < len := by simpa using hi
    obtain ⟨b, off, e1, e2⟩ := (hf i hi').1
    exact ⟨b, off, e1, by simpa using e2⟩
  · obtain ⟨i, hi, rfl⟩ := List.mem_map.1 hs
    exact (hf i (List.mem_range.1 hi)).2
end Go.Proofs.Ytblkkcnllddkoaa
