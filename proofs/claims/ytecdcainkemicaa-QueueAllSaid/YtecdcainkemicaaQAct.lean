/- Calls of the queue that came in; what is known behind them. -/
import Derived.Test.YtecdcainkemicaaQList
import Derived.Test.YtecdcainkemicaaAppSat
import Derived.Test.YtecdcainkemicaaMinMax
import Derived.Test.YtecdcainkemicaaWQueueSweep
namespace Go.Proofs.Ytecdcainkemicaa
open Go.RowKit
set_option linter.unusedVariables false

theorem cellI_start {w : World} {b o : Nat} {v : Value} (h : w.cell? ⟨b, o, none⟩ = some v) : cellI (wpart w) b o = some v := by
  unfold cellI wpart
  unfold World.cell? at h
  simp only at h
  cases hx : w.heap[b]? with
  | none => rw [hx] at h; cases h
  | some u => rw [hx] at h; cases u <;> simp_all
/-- a call that came in. -/
structure QAct where
  kind : Int
  n : Int
  m : Int
  id : Int
  blob : Int
  vol : Int
  at_ : Int
def QAct.cells (t : QAct) : List Value := [.int .i64 t.kind, .int .i64 t.n, .int .i64 t.m, .int .i64 t.id, .int .u64 t.blob, .int .i64 t.vol, .int .i64 t.at_]
def QActAt (I : Part) (la : Option Addr) (i : Nat) (t : QAct) : Prop := ∃ b off, la = some ⟨b, off, none⟩ ∧ ∀ j v, t.cells[j]? = some v → cellI I b (off + i * 7 + j) = some v
theorem okT_qact {w : World} {d : Nat} {cs : List Value} (hl : cs.length = 7) (hok : OkT Try.prog w (d + 4) 44 cs) : ∃ t : QAct, cs = t.cells := by
  match cs, hl with
  | [c0, c1, c2, c3, c4, c5, c6], _ =>
    obtain ⟨a0, h0, w0⟩ := okT_int Try.underlying3 (okT_fld 0 (T := 3) (o := 0) Try.underlying44 rfl rfl rfl (by kernel_rfl) (by simp) hok)
    obtain ⟨a1, h1, w1⟩ := okT_int Try.underlying3 (okT_fld 1 (T := 3) (o := 1) Try.underlying44 rfl rfl rfl (by kernel_rfl) (by simp) hok)
    obtain ⟨a2, h2, w2⟩ := okT_int Try.underlying3 (okT_fld 2 (T := 3) (o := 2) Try.underlying44 rfl rfl rfl (by kernel_rfl) (by simp) hok)
    have h3 := okT_sub 3 Try.underlying44 rfl hok
    have h4 : OkT Try.prog w (d + 3) 25 [c3, c4, c5, c6] := by
      have e : Try.prog.cellsOf 25 = 4 := by kernel_rfl
      have h5 : OkT Try.prog w (d + 3) 25 (([c0, c1, c2, c3, c4, c5, c6].drop 3).take (Try.prog.cellsOf 25)) := h3
      rw [e] at h5
      exact h5
    obtain ⟨id, blob, vol, at_, h6⟩ := okT_req (d := d + 1) rfl h4
    simp only [List.getElem_cons_zero, List.getElem_cons_succ] at h0 h1 h2
    simp only [List.cons.injEq, and_true] at h6
    obtain ⟨rfl, rfl, rfl, rfl⟩ := h6
    subst h0 h1 h2
    exact ⟨⟨a0, a1, a2, id, blob, vol, at_⟩, rfl⟩
instance : Inhabited QAct := ⟨⟨0, 0, 0, 0, 0, 0, 0⟩⟩
theorem okT_qacts {w : World} {la : Option Addr} {len cap : Nat} (hl : OkT Try.prog w 6 41 [.slice la len cap]) : len ≤ 9223372036854775807 ∧ len ≤ cap ∧ ∀ i, i < len → ∃ t, QActAt (wpart w) la i t := by
  obtain ⟨h1, h2, h3⟩ := okT_slice Try.underlying41 (sz := 7) (by kernel_rfl) (by omega) hl
  refine ⟨by omega, h1, fun i hi => ?_⟩
  obtain ⟨b, off, cs, ha, hb, hlen, hok, hc⟩ := h3 i (by omega)
  obtain ⟨t, rfl⟩ := okT_qact hlen hok
  refine ⟨t, b, off, ha, fun j v hj => ?_⟩
  obtain ⟨hj1, hj2⟩ := List.getElem?_eq_some_iff.1 hj
  have := hc j hj1
  rw [hj2] at this
  rw [Nat.add_assoc]
  exact cellI_start this
theorem QActAt.get {I : Part} {la : Option Addr} {i : Nat} {t : QAct} (h : QActAt I la i t) {w0 w : World} {L : List HP} (H : Sat w0 I L w) : ∃ b off, la = some ⟨b, off, none⟩ ∧
    w.cell? ⟨b, off + i * 7, none⟩ = some (.int .i64 t.kind) ∧ w.cell? ⟨b, off + i * 7 + 1, none⟩ = some (.int .i64 t.n) ∧ w.cell? ⟨b, off + i * 7 + 2, none⟩ = some (.int .i64 t.m) ∧ w.cell? ⟨b, off + i * 7 + 3, none⟩ = some (.int .i64 t.id) ∧
    w.cell? ⟨b, off + i * 7 + 4, none⟩ = some (.int .u64 t.blob) ∧ w.cell? ⟨b, off + i * 7 + 5, none⟩ = some (.int .i64 t.vol) ∧ w.cell? ⟨b, off + i * 7 + 6, none⟩ = some (.int .i64 t.at_) := by
  obtain ⟨b, off, e, hc⟩ := h
  exact ⟨b, off, e, H.atI (hc 0 _ rfl), H.atI (hc 1 _ rfl), H.atI (hc 2 _ rfl), H.atI (hc 3 _ rfl), H.atI (hc 4 _ rfl), H.atI (hc 5 _ rfl), H.atI (hc 6 _ rfl)⟩
theorem QActAt.mono {I J : Part} {la : Option Addr} {i : Nat} {t : QAct} (h : QActAt I la i t) (k : I.le J) : QActAt J la i t := by
  obtain ⟨b, off, e, hc⟩ := h
  exact ⟨b, off, e, fun j v hj => cellI_mono k (hc j v hj)⟩
theorem rd4 {w0 w : World} {I : Part} {L : List HP} {la : Option Addr} {l : List Wt} (h : Rd I la (l.flatMap rc)) (H : Sat w0 I L w) (i : Nat) (hi : i < l.length) : ∃ b off, la = some ⟨b, off, none⟩ ∧
    w.cell? ⟨b, off + i * 4, none⟩ = some (.int .i64 l[i].id) ∧ w.cell? ⟨b, off + i * 4 + 1, none⟩ = some (.int .u64 l[i].blob) ∧ w.cell? ⟨b, off + i * 4 + 2, none⟩ = some (.int .i64 l[i].vol) ∧ w.cell? ⟨b, off + i * 4 + 3, none⟩ = some (.int .i64 l[i].at_) := by
  have g : ∀ j v, j < 4 → (rc l[i])[j]? = some v → ∃ b off, la = some ⟨b, off, none⟩ ∧ w.cell? ⟨b, off + (i * 4 + j), none⟩ = some v := fun j v hj hv =>
    h.get H (i * 4 + j) (by rw [flat_get rc rc_len l i j hi hj]; exact hv)
  obtain ⟨b, off, e0, c0⟩ := g 0 _ (by omega) rfl
  obtain ⟨b1, off1, e1, c1⟩ := g 1 _ (by omega) rfl
  obtain ⟨b2, off2, e2, c2⟩ := g 2 _ (by omega) rfl
  obtain ⟨b3, off3, e3, c3⟩ := g 3 _ (by omega) rfl
  rw [e0] at e1 e2 e3
  cases e1; cases e2; cases e3
  exact ⟨b, off, e0, c0, by rw [Nat.add_assoc]; exact c1, by rw [Nat.add_assoc]; exact c2, by rw [Nat.add_assoc]; exact c3⟩
/-- what is known of the requests behind n calls. -/
def QInv (n : Nat) (l : List Wt) : Prop := l.length ≤ n ∧ ∀ y ∈ l, (0 ≤ y.vol ∧ y.vol ≤ 11 ∧ 0 ≤ y.at_ ∧ y.at_ ≤ 1000000000) ∧ 0 ≤ y.passed ∧ y.passed ≤ n
theorem QInv.same {n : Nat} {l : List Wt} (h : QInv n l) : QInv (n + 1) l := ⟨by have := h.1; omega, fun y hy => ⟨(h.2 y hy).1, (h.2 y hy).2.1, by have := (h.2 y hy).2.2; omega⟩⟩
theorem QInv.add {n : Nat} {l : List Wt} (h : QInv n l) (x : Wt) (hx : 0 ≤ x.vol ∧ x.vol ≤ 11 ∧ 0 ≤ x.at_ ∧ x.at_ ≤ 1000000000) (hp : x.passed = 0) : QInv (n + 1) (l ++ [x]) :=
  ⟨by have := h.1; simp; omega, fun y hy => by
    rcases List.mem_append.1 hy with hy | hy
    · exact h.same.2 y hy
    · simp at hy; subst hy; exact ⟨hx, by omega, by omega⟩⟩
theorem QInv.erase {n : Nat} {l : List Wt} (h : QInv n l) (i : Nat) : QInv (n + 1) (l.eraseIdx i) :=
  ⟨by have := h.1; have := List.length_eraseIdx_le l i; omega, fun y hy => h.same.2 y (List.mem_of_mem_eraseIdx hy)⟩
theorem QInv.next {n : Nat} {l : List Wt} (h : QInv n l) (i : Nat) : QInv (n + 1) ((bump i l).eraseIdx i) :=
  ⟨by have := h.1; have h2 := List.length_eraseIdx_le (bump i l) i; rw [bump_len] at h2; omega, fun y hy => by
    obtain ⟨z, hz, _, _, hv, ha, h1, h2⟩ := mem_left hy
    have := h.2 z hz
    rw [hv, ha]
    exact ⟨this.1, by omega, by omega⟩⟩
theorem Sat.one {w0 w : World} {I : Part} {A : HP} {L : List HP} (h : Sat w0 I (A :: L) w) : Sat w0 I [A] w := h.mapL fun g ⟨x, hx, a, _⟩ => ⟨x, hx, a, trivial⟩
theorem Sat.two {w0 w : World} {I : Part} {A B : HP} {L : List HP} (h : Sat w0 I (A :: B :: L) w) : Sat w0 I [A, B] w := h.mapL fun g ⟨x, hx, a, y, hy, b, _⟩ => ⟨x, hx, a, y, hy, b, trivial⟩
end Go.Proofs.Ytecdcainkemicaa
