/- Contracts of package queue. -/
import Derived.Test.YtecdcainkemicaaOwn
import Derived.Test.YtecdcainkemicaaOpen
namespace Go.Proofs.Ytecdcainkemicaa
open Go.RowKit
set_option linter.unusedVariables false
set_option maxHeartbeats 400000

/-- a request that waits. -/
structure Wt where
  id : Int
  blob : Int
  vol : Int
  at_ : Int
  passed : Int
def wc (x : Wt) : List Value := [.int .i64 x.id, .int .u64 x.blob, .int .i64 x.vol, .int .i64 x.at_, .int .i64 x.passed]
theorem wc_len (x : Wt) : (wc x).length = 5 := rfl
theorem wc_one (l : List Wt) : ∀ u ∈ l.flatMap wc, u.oneCell' = true := by
  intro u hu
  obtain ⟨x, _, hx⟩ := List.mem_flatMap.1 hu
  simp [wc] at hx
  rcases hx with rfl | rfl | rfl | rfl | rfl <;> rfl
theorem wc_one1 (x : Wt) : ∀ u ∈ wc x, u.oneCell' = true := by
  intro u hu
  simp [wc] at hu
  rcases hu with rfl | rfl | rfl | rfl | rfl <;> rfl
theorem slWait : SliceT Try.prog 28 56 5 40 := ⟨Try.underlying28, ⟨_, _, rfl, rfl, rfl, rfl, rfl⟩, by decide⟩

/-- block q is a queue whose requests are l; they lie in the slice sv. -/
structure IsQ (w : World) (q : Nat) (sv : Value) (l : List Wt) : Prop where
  blk : Blk w q 30 [sv]
  row : w.ownsRow (q + 1) 56 5 sv l.length (l.flatMap wc)
  small : l.length ≤ 1048576

section
variable {w : World} {q : Nat} {sv : Value} {l : List Wt}
theorem IsQ.elem (h : IsQ w q sv l) (i : Nat) (hi : i < l.length) : ∃ g cap, sv = .slice (some ⟨g, 0, none⟩) l.length cap ∧ q < g ∧ g < w.heap.size ∧ l.length ≤ cap ∧
    ∀ j (hj : j < 5), w.cell? ⟨g, i * 5 + j, none⟩ = some ((wc l[i])[j]'(by rw [wc_len]; exact hj)) := by
  obtain ⟨g, cap, cur, rfl, hg, hh, hc, _⟩ := own_open h.row (by omega)
  have := h.row.lt g rfl
  refine ⟨g, cap, rfl, by omega, by omega, hc, fun j hj => ?_⟩
  refine own_cell h.row _ ?_
  rw [flat_get wc wc_len l i j hi hj, List.getElem?_eq_getElem]
/-- the five cells of a request in a later world. -/
theorem IsQ.five (h : IsQ w q sv l) {wr : World} (Lr : Below w.heap.size w wr) (i : Nat) (hi : i < l.length) : ∃ g cap, sv = .slice (some ⟨g, 0, none⟩) l.length cap ∧ g < w.heap.size ∧
    wr.cell? ⟨g, i * 5, none⟩ = some (.int .i64 l[i].id) ∧ wr.cell? ⟨g, i * 5 + 1, none⟩ = some (.int .u64 l[i].blob) ∧ wr.cell? ⟨g, i * 5 + 2, none⟩ = some (.int .i64 l[i].vol) ∧
    wr.cell? ⟨g, i * 5 + 3, none⟩ = some (.int .i64 l[i].at_) ∧ wr.cell? ⟨g, i * 5 + 4, none⟩ = some (.int .i64 l[i].passed) := by
  obtain ⟨g, cap, hsv, hqg, hgs, hcap, hcell⟩ := h.elem i hi
  exact ⟨g, cap, hsv, hgs, (Lr.cell (p := ⟨g, i * 5 + 0, none⟩) hgs).trans (hcell 0 (by omega)), (Lr.cell (p := ⟨g, i * 5 + 1, none⟩) hgs).trans (hcell 1 (by omega)), (Lr.cell (p := ⟨g, i * 5 + 2, none⟩) hgs).trans (hcell 2 (by omega)),
    (Lr.cell (p := ⟨g, i * 5 + 3, none⟩) hgs).trans (hcell 3 (by omega)), (Lr.cell (p := ⟨g, i * 5 + 4, none⟩) hgs).trans (hcell 4 (by omega))⟩
theorem IsQ.shape (h : IsQ w q sv l) : ∃ a cap, sv = .slice a l.length cap ∧ l.length ≤ cap ∧ cap ≤ 9223372036854775807 := own_shape h.row
theorem IsQ.below {w' : World} (h : IsQ w q sv l) (hb : Below w.heap.size w w') : IsQ w' q sv l := by
  refine ⟨h.blk.below hb h.blk.lt, ?_, h.small⟩
  obtain ⟨h1, h2⟩ := h.row
  refine ⟨h1, ?_⟩
  rcases h2 with h2 | ⟨g, cap, cur, hv, hg, hh, r⟩
  · exact Or.inl h2
  · exact Or.inr ⟨g, cap, cur, hv, hg, by rw [hb.block g (Array.getElem?_eq_some_iff.1 hh).1]; exact hh, r⟩
end

/-- what a method of the queue may change. -/
def QFp (q : Nat) (sv : Value) (k : Nat) : Prop := k = q ∨ sv.ownBlock = some k
theorem IsQ.fp {w : World} {q : Nat} {sv : Value} {l : List Wt} (h : IsQ w q sv l) (k : Nat) (hk : QFp q sv k) : q ≤ k := by
  rcases hk with rfl | hk
  · exact Nat.le_refl _
  · have := h.row.lt k hk; omega
theorem qlen_any (w : World) (q : Nat) (sv : Value) (l : List Wt) (h : IsQ w q sv l) :
    Calls Try.prog 10 #[.pointer (some ⟨q, 0, none⟩)] w (Ret (.int .i64 l.length) w) := by
  obtain ⟨a, cap, rfl, h1, h2⟩ := h.shape
  have hc := h.blk.cell 0 rfl
  go_enter Try.func10, Try.ntmps10
  go_wp2
  go_ret
  exact ⟨rfl, 0, rfl⟩

/-- where the number is, from place k on; -1: nowhere. -/
def findF (id : Int) : List Wt → Nat → Int
  | [], _ => -1
  | x :: r, k => if x.id = id then (k : Int) else findF id r (k + 1)
theorem find_any (w : World) (q : Nat) (sv : Value) (l : List Wt) (id : Int) (h : IsQ w q sv l) :
    Calls Try.prog 17 #[.pointer (some ⟨q, 0, none⟩), .int .i64 id] w (RetB (.int .i64 (findF id l 0)) w.heap.size w) := by
  have hq := h.blk.lt
  have HQ := hid h
  obtain ⟨a, cap, hsv, h1, h2⟩ := h.shape
  have hc := h.blk.cell 0 rfl
  have hsm := h.small
  subst hsv
  clear h
  go_enter Try.func17, Try.ntmps17
  go_wp2
  go_loopw [12] (fun i wr => ∃ k : Nat, k ≤ l.length ∧ i = .int .i64 k ∧ findF id (l.drop k) k = findF id l 0 ∧ Below w.heap.size w wr) (fun i _ => l.length - (intOf i).toNat)
  case atStart => exact ⟨0, Nat.zero_le _, rfl, rfl, Below.refl _ _⟩
  case round =>
    obtain ⟨k, hk, rfl, he, Lr⟩ := hrel
    have HE := hid he
    clear he
    by_cases hlt : k < l.length
    · obtain ⟨g, cap', hsv, hgs, c0, c1, c2, c3, c4⟩ := HQ.out.five Lr k hlt
      simp only [Value.slice.injEq, true_and] at hsv
      obtain ⟨rfl, rfl⟩ := hsv
      have hd : l.drop k = l[k] :: l.drop (k+1) := List.drop_eq_getElem_cons hlt
      generalize l[k] = x at *
      have HD := hid hd
      clear hd
      by_cases hx : x.id = id
      · have hx' : (x.id == id) = true := by simpa using hx
        have HX := hid hx
        clear hx
        go_wp2_with fail
        go_ret
        refine ⟨ret_int ?_, by (repeat' (first | (with_reducible assumption) | (with_reducible exact Below.refl _ _) | (with_reducible refine below_drewN ?_ _) | (with_reducible refine Below.drew ?_) | ((with_reducible refine below_alloc' ?_ ?_ _); rotate_left; (first | exact Nat.le_refl _ | assumption | omega)) | ((with_reducible refine Below.alloc ?_ ?_ _); rotate_left; (first | omega | (simp <;> omega))) | ((with_reducible refine Below.setCell ?_ ?_ _); rotate_left; (first | omega | (simp <;> omega)))))⟩
        have := HE.out
        rw [HD.out, findF, if_pos HX.out] at this
        exact this
      · have hx' : (x.id == id) = false := by simpa using hx
        have HX := hid hx
        clear hx
        go_wp2_with fail
        go_roundw
        case rel => exact ⟨k + 1, by omega, by go_num, by have := HE.out; rw [HD.out, findF, if_neg HX.out] at this; exact this, by (repeat' (first | (with_reducible assumption) | (with_reducible exact Below.refl _ _) | (with_reducible refine below_drewN ?_ _) | (with_reducible refine Below.drew ?_) | ((with_reducible refine below_alloc' ?_ ?_ _); rotate_left; (first | exact Nat.le_refl _ | assumption | omega)) | ((with_reducible refine Below.alloc ?_ ?_ _); rotate_left; (first | omega | (simp <;> omega))) | ((with_reducible refine Below.setCell ?_ ?_ _); rotate_left; (first | omega | (simp <;> omega)))))⟩
        case measure => (simp [intOf] <;> omega)
    · obtain rfl : k = l.length := by omega
      go_wp2_with fail
      go_ret
      refine ⟨ret_int ?_, by (repeat' (first | (with_reducible assumption) | (with_reducible exact Below.refl _ _) | (with_reducible refine below_drewN ?_ _) | (with_reducible refine Below.drew ?_) | ((with_reducible refine below_alloc' ?_ ?_ _); rotate_left; (first | exact Nat.le_refl _ | assumption | omega)) | ((with_reducible refine Below.alloc ?_ ?_ _); rotate_left; (first | omega | (simp <;> omega))) | ((with_reducible refine Below.setCell ?_ ?_ _); rotate_left; (first | omega | (simp <;> omega)))))⟩
      have := HE.out
      rw [List.drop_length, findF] at this
      exact this

/-- Add: the request at the end, where its number isn't there. -/
theorem add_no (w : World) (q : Nat) (sv : Value) (l : List Wt) (id blob vol at_ : Int) (h : IsQ w q sv l) (hf : 0 ≤ findF id l 0) :
    Calls Try.prog 9 #[.pointer (some ⟨q, 0, none⟩), .agg #[.int .i64 id, .int .u64 blob, .int .i64 vol, .int .i64 at_]] w (RetB (.bool false) w.heap.size w) := by
  have hq := h.blk.lt
  have HQ := hid h
  clear h
  have hne : q ≠ w.heap.size := by omega
  go_enter Try.func9, Try.ntmps9
  go_wp2_with fail
  refine (find_any _ _ _ l id (HQ.out.below (by (repeat' (first | (with_reducible assumption) | (with_reducible exact Below.refl _ _) | (with_reducible refine below_drewN ?_ _) | (with_reducible refine Below.drew ?_) | ((with_reducible refine below_alloc' ?_ ?_ _); rotate_left; (first | exact Nat.le_refl _ | assumption | omega)) | ((with_reducible refine Below.alloc ?_ ?_ _); rotate_left; (first | omega | (simp <;> omega))) | ((with_reducible refine Below.setCell ?_ ?_ _); rotate_left; (first | omega | (simp <;> omega)))))))).mono ?_; rintro e w1 ⟨rfl, L1⟩
  have L2 : Below w.heap.size w w1 := Below.trans (by (repeat' (first | (with_reducible assumption) | (with_reducible exact Below.refl _ _) | (with_reducible refine below_drewN ?_ _) | (with_reducible refine Below.drew ?_) | ((with_reducible refine below_alloc' ?_ ?_ _); rotate_left; (first | exact Nat.le_refl _ | assumption | omega)) | ((with_reducible refine Below.alloc ?_ ?_ _); rotate_left; (first | omega | (simp <;> omega))) | ((with_reducible refine Below.setCell ?_ ?_ _); rotate_left; (first | omega | (simp <;> omega)))))) (L1.mono (by simp))
  clear L1
  go_wp2_with fail
  go_ret
  exact ⟨rfl, by (repeat' (first | (with_reducible assumption) | (with_reducible exact Below.refl _ _) | (with_reducible refine below_drewN ?_ _) | (with_reducible refine Below.drew ?_) | ((with_reducible refine below_alloc' ?_ ?_ _); rotate_left; (first | exact Nat.le_refl _ | assumption | omega)) | ((with_reducible refine Below.alloc ?_ ?_ _); rotate_left; (first | omega | (simp <;> omega))) | ((with_reducible refine Below.setCell ?_ ?_ _); rotate_left; (first | omega | (simp <;> omega)))))⟩
theorem add_yes (w : World) (q : Nat) (sv : Value) (l : List Wt) (id blob vol at_ : Int) (h : IsQ w q sv l) (hf : findF id l 0 < 0) (hl : l.length < 1048576) :
    Calls Try.prog 9 #[.pointer (some ⟨q, 0, none⟩), .agg #[.int .i64 id, .int .u64 blob, .int .i64 vol, .int .i64 at_]] w
      fun e w' => e = .returned (.bool true) ∧ ∃ sv', IsQ w' q sv' (l ++ [⟨id, blob, vol, at_, 0⟩]) ∧ Mod (QFp q sv) w w' ∧ Moved w sv sv' := by
  have hq := h.blk.lt
  have HQ := hid h
  clear h
  have hne : q ≠ w.heap.size := by omega
  go_enter Try.func9, Try.ntmps9
  go_wp2_with fail
  refine (find_any _ _ _ l id (HQ.out.below (by (repeat' (first | (with_reducible assumption) | (with_reducible exact Below.refl _ _) | (with_reducible refine below_drewN ?_ _) | (with_reducible refine Below.drew ?_) | ((with_reducible refine below_alloc' ?_ ?_ _); rotate_left; (first | exact Nat.le_refl _ | assumption | omega)) | ((with_reducible refine Below.alloc ?_ ?_ _); rotate_left; (first | omega | (simp <;> omega))) | ((with_reducible refine Below.setCell ?_ ?_ _); rotate_left; (first | omega | (simp <;> omega)))))))).mono ?_; rintro e w1 ⟨rfl, L1⟩
  have L2 : Below w.heap.size w w1 := Below.trans (by (repeat' (first | (with_reducible assumption) | (with_reducible exact Below.refl _ _) | (with_reducible refine below_drewN ?_ _) | (with_reducible refine Below.drew ?_) | ((with_reducible refine below_alloc' ?_ ?_ _); rotate_left; (first | exact Nat.le_refl _ | assumption | omega)) | ((with_reducible refine Below.alloc ?_ ?_ _); rotate_left; (first | omega | (simp <;> omega))) | ((with_reducible refine Below.setCell ?_ ?_ _); rotate_left; (first | omega | (simp <;> omega)))))) (L1.mono (by simp))
  have hB1 := (Blk.new w [.int .i64 id, .int .u64 blob, .int .i64 vol, .int .i64 at_] 25).below L1 (by simp)
  have Q1 := HQ.out.below L2
  have c0 := Q1.blk.cell 0 rfl
  have f0 := Q1.blk.frozen 0
  have d0 := hB1.cell 0 rfl
  have d1 := hB1.cell 1 rfl
  have d2 := hB1.cell 2 rfl
  have d3 := hB1.cell 3 rfl
  have c0' : ∀ o, (w1.alloc o).cell? ⟨q, 0, none⟩ = some sv := fun o => (Q1.blk.alloc o).cell 0 rfl
  have HQ1 := hid Q1
  clear L1 hB1 Q1
  go_wp2_with fail
  go_region_law (refine step_app1 (w := w1.drew) slWait (by rfl) (.tmp 14) (.tmp 17) (by rfl) (q + 1) sv l.length (l.flatMap wc) [.int .i64 id, .int .u64 blob, .int .i64 vol, .int .i64 at_, .int .i64 0] (by rfl) (by exact HQ1.out.row) (g := w1.heap.size) (by rfl) (by simp) rfl (wc_one1 ⟨id, blob, vol, at_, 0⟩) (by omega) (by omega) (by have := HQ1.out.blk.lt; simp; omega) ?_; intro v' w2 O2 G2 _ V2; obtain ⟨a2, cap2, rfl, _, _⟩ := own_shape O2; have q2 := (HQ1.out.blk.drew.grown_own G2 HQ1.out.row (Nat.lt_succ_self _)).cell 0 rfl; have z2 := (HQ1.out.blk.drew.grown_own G2 HQ1.out.row (Nat.lt_succ_self _)).frozen 0)
  all_goals
    have B2 := HQ1.out.blk.drew.grown_own G2 HQ1.out.row (Nat.lt_succ_self _)
    have L3 : Mod (QFp q sv) w w2 := (Mod.of_below L2.drew).grown G2 (fun k hk _ => Or.inr hk)
    go_wp2_with fail
    go_ret
    refine ⟨rfl, _, ⟨B2.set' 0 _ rfl, ?_, by simp; omega⟩, L3.setCell (fun _ => Or.inl rfl) _, fun k hk => by rcases V2 k hk with h | h; exact Or.inl h; right; have := L2.size; simp at h; omega⟩
    have := own_setCell_lt O2 (a := ⟨q, 0, none⟩) (Nat.lt_succ_self _) (.slice a2 (l.length + 1) cap2)
    simpa [wc] using this

theorem eraseIdx_flat (l : List Wt) (i : Nat) (hi : i < l.length) : (l.flatMap wc).take (i * 5) ++ (l.flatMap wc).drop ((i + 1) * 5) = (l.eraseIdx i).flatMap wc := by
  rw [flat_take wc wc_len, flat_drop wc wc_len, ← List.flatMap_append, List.eraseIdx_eq_take_drop_succ]
theorem remove_any (w : World) (q : Nat) (sv : Value) (l : List Wt) (i : Nat) (h : IsQ w q sv l) (hi : i < l.length) :
    Calls Try.prog 19 #[.pointer (some ⟨q, 0, none⟩), .int .i64 i] w
      fun e w' => e = .returned (.tuple #[]) ∧ ∃ sv', IsQ w' q sv' (l.eraseIdx i) ∧ Mod (QFp q sv) w w' ∧ Moved w sv sv' := by
  have hq := h.blk.lt
  obtain ⟨g, cap, hsv, hqg, hgs, hcap, _⟩ := h.elem i hi
  obtain ⟨_, _, hsv', _, hcb⟩ := h.shape
  rw [hsv] at hsv'
  simp only [Value.slice.injEq, true_and] at hsv'
  obtain ⟨rfl, rfl⟩ := hsv'
  subst hsv
  have c0 := h.blk.cell 0 rfl
  have f0 := h.blk.frozen 0
  have hsm := h.small
  have HQ := hid h
  clear h
  have hii : (i : Int) ≤ l.length := by omega
  have hi0 : (0 : Int) ≤ (i : Int) := by omega
  have hic : (i : Int) ≤ (cap : Int) := by omega
  have hi2 : (i : Int) + 1 ≤ (l.length : Int) := by omega
  have hi3 : (0 : Int) ≤ (i : Int) + 1 := by omega
  have hi4 : (l.length : Int) ≤ (cap : Int) := by omega
  have hi5 : ((i : Int) + 1).toNat = i + 1 := by omega
  have hi1 : IntKind.i64.wrap (↑i + 1) = ↑i + 1 := IntWalk.i64_in _ (by omega)
  by_cases hce : cap = i + 1
  · have hll : l.length = i + 1 := by omega
    subst hce
    have HLL := hid hll
    clear hll
    have hlx : (l.length : Int) = (i : Int) + 1 := by have := HLL.out; omega
    have hly : (i : Int) ≤ (i : Int) + 1 := by omega
    go_enter Try.func19, Try.ntmps19
    go_wp2_with fail
    go_region_law (refine step_delete (w := w.drew) slWait (by rfl) (.tmp 10) (.tmp 17) (by rfl) (q + 1) l.length (i + 1) g i (l.flatMap wc) (by exact HQ.out.row) hi (wc_one l) (some ⟨g, 0, none⟩) (0) (0) (by have := HLL.out; omega) (fun h => absurd h (by omega)) (fun _ => ⟨_, rfl⟩) (by rfl) (by rfl) ?_; intro w2 O2 G2; have q2 := (HQ.out.blk.drew.grown_own G2 HQ.out.row (Nat.lt_succ_self _)).cell 0 rfl; have z2 := (HQ.out.blk.drew.grown_own G2 HQ.out.row (Nat.lt_succ_self _)).frozen 0)
    all_goals
      have B2 := HQ.out.blk.drew.grown_own G2 HQ.out.row (Nat.lt_succ_self _)
      have L3 : Mod (QFp q (.slice (some ⟨g, 0, none⟩) l.length (i + 1))) w w2 := ((Mod.refl _ w).drew).grown G2 (fun k hk _ => by cases hk; exact Or.inr rfl)
      go_wp2_with fail
      go_returns
      have hel : (l.eraseIdx i).length = l.length - 1 := List.length_eraseIdx_of_lt hi
      refine ⟨rfl, _, ⟨B2.set' 0 _ rfl, ?_, by rw [hel]; omega⟩, L3.setCell (fun _ => Or.inl rfl) _, fun k hk => Or.inl hk⟩
      have := own_setCell_lt O2 (a := ⟨q, 0, none⟩) (Nat.lt_succ_self _) (.slice (some ⟨g, 0, none⟩) (l.length - 1) (i + 1))
      rw [eraseIdx_flat l i hi] at this
      rw [hel]; exact this
  · have hlc : i + 1 ≤ cap := by omega
    go_enter Try.func19, Try.ntmps19
    go_wp2_with fail
    go_region_law (refine step_delete (w := w.drew) slWait (by rfl) (.tmp 10) (.tmp 17) (by rfl) (q + 1) l.length cap g i (l.flatMap wc) (by exact HQ.out.row) hi (wc_one l) (some ⟨g, (i + 1) * 5, none⟩) (cap - (i + 1)) (l.length - (i + 1)) rfl (fun _ => rfl) (fun _ => ⟨_, rfl⟩) (by rfl) (by rfl) ?_; intro w2 O2 G2; have q2 := (HQ.out.blk.drew.grown_own G2 HQ.out.row (Nat.lt_succ_self _)).cell 0 rfl; have z2 := (HQ.out.blk.drew.grown_own G2 HQ.out.row (Nat.lt_succ_self _)).frozen 0)
    all_goals
      have B2 := HQ.out.blk.drew.grown_own G2 HQ.out.row (Nat.lt_succ_self _)
      have L3 : Mod (QFp q (.slice (some ⟨g, 0, none⟩) l.length cap)) w w2 := ((Mod.refl _ w).drew).grown G2 (fun k hk _ => by cases hk; exact Or.inr rfl)
      go_wp2_with fail
      go_returns
      have hel : (l.eraseIdx i).length = l.length - 1 := List.length_eraseIdx_of_lt hi
      refine ⟨rfl, _, ⟨B2.set' 0 _ rfl, ?_, by rw [hel]; omega⟩, L3.setCell (fun _ => Or.inl rfl) _, fun k hk => Or.inl hk⟩
      have := own_setCell_lt O2 (a := ⟨q, 0, none⟩) (Nat.lt_succ_self _) (.slice (some ⟨g, 0, none⟩) (l.length - 1) cap)
      rw [eraseIdx_flat l i hi] at this
      rw [hel]; exact this
end Go.Proofs.Ytecdcainkemicaa
