/- Contracts of package queue. Contracts of package queue: Drop, lowest, choose, List. Contracts of package queue: choose, Next, List. Contracts of package queue: Next, List. small, awake of layer 16's laws. Plain laws of the queue: what is chosen is the lowest; what Next leaves. Plain law of the queue: a request comes within so many Nexts. -/
import Derived.Test.YtekioplbfoonkaaGreatDoorMg1
namespace Go.Proofs.YtekioplbfoonkaaGreatDoor
open Go.RowKit
set_option linter.unusedVariables false
set_option maxRecDepth 100000
set_option maxHeartbeats 400000

/-- a request that waits. -/
structure Wt where
  id : Int
  blob : Int
  vol : Int
  at_ : Int
  passed : Int
def wc (x : Wt) : List Value := [.int .i64 x.id, .int .u64 x.blob, .int .i64 x.vol, .int .i64 x.at_, .int .i64 x.passed]
theorem wc_len (x : Wt) : (wc x).length = 5 := rfl
theorem wc_one (l : List Wt) : ∀ u ∈ l.flatMap wc, u.oneCell' = true := by
  intro u hu
  obtain ⟨x, _, hx⟩ := List.mem_flatMap.1 hu
  simp [wc] at hx
  rcases hx with rfl | rfl | rfl | rfl | rfl <;> rfl
theorem wc_one1 (x : Wt) : ∀ u ∈ wc x, u.oneCell' = true := by
  intro u hu
  simp [wc] at hu
  rcases hu with rfl | rfl | rfl | rfl | rfl <;> rfl
theorem slWait : SliceT Tryz.prog 27 107 5 40 := ⟨Tryz.underlying27, ⟨_, _, rfl, rfl, rfl, rfl, rfl⟩, by decide⟩

/-- block q is a queue whose requests are l; they lie in the slice sv. -/
structure IsQ (w : World) (q : Nat) (sv : Value) (l : List Wt) : Prop where
  blk : Blk w q 29 [sv]
  row : w.ownsRow (q + 1) 107 5 sv l.length (l.flatMap wc)
  small : l.length ≤ 1048576

section
variable {w : World} {q : Nat} {sv : Value} {l : List Wt}
theorem IsQ.elem (h : IsQ w q sv l) (i : Nat) (hi : i < l.length) : ∃ g cap, sv = .slice (some ⟨g, 0, none⟩) l.length cap ∧ q < g ∧ g < w.heap.size ∧ l.length ≤ cap ∧
    ∀ j (hj : j < 5), w.cell? ⟨g, i * 5 + j, none⟩ = some ((wc l[i])[j]'(by rw [wc_len]; exact hj)) := by
  obtain ⟨g, cap, cur, rfl, hg, hh, hc, _⟩ := own_open h.row (by omega)
  have := h.row.lt g rfl
  refine ⟨g, cap, rfl, by omega, by omega, hc, fun j hj => ?_⟩
  refine own_cell h.row _ ?_
  rw [flat_get wc wc_len l i j hi hj, List.getElem?_eq_getElem]
/-- the five cells of a request in a later world. -/
theorem IsQ.five (h : IsQ w q sv l) {wr : World} (Lr : Below w.heap.size w wr) (i : Nat) (hi : i < l.length) : ∃ g cap, sv = .slice (some ⟨g, 0, none⟩) l.length cap ∧ g < w.heap.size ∧
    wr.cell? ⟨g, i * 5, none⟩ = some (.int .i64 l[i].id) ∧ wr.cell? ⟨g, i * 5 + 1, none⟩ = some (.int .u64 l[i].blob) ∧ wr.cell? ⟨g, i * 5 + 2, none⟩ = some (.int .i64 l[i].vol) ∧
    wr.cell? ⟨g, i * 5 + 3, none⟩ = some (.int .i64 l[i].at_) ∧ wr.cell? ⟨g, i * 5 + 4, none⟩ = some (.int .i64 l[i].passed) := by
  obtain ⟨g, cap, hsv, hqg, hgs, hcap, hcell⟩ := h.elem i hi
  exact ⟨g, cap, hsv, hgs, (Lr.cell (p := ⟨g, i * 5 + 0, none⟩) hgs).trans (hcell 0 (by omega)), (Lr.cell (p := ⟨g, i * 5 + 1, none⟩) hgs).trans (hcell 1 (by omega)), (Lr.cell (p := ⟨g, i * 5 + 2, none⟩) hgs).trans (hcell 2 (by omega)),
    (Lr.cell (p := ⟨g, i * 5 + 3, none⟩) hgs).trans (hcell 3 (by omega)), (Lr.cell (p := ⟨g, i * 5 + 4, none⟩) hgs).trans (hcell 4 (by omega))⟩
theorem IsQ.shape (h : IsQ w q sv l) : ∃ a cap, sv = .slice a l.length cap ∧ l.length ≤ cap ∧ cap ≤ 9223372036854775807 := own_shape h.row
theorem IsQ.below {w' : World} (h : IsQ w q sv l) (hb : Below w.heap.size w w') : IsQ w' q sv l := by
  refine ⟨h.blk.below hb h.blk.lt, ?_, h.small⟩
  obtain ⟨h1, h2⟩ := h.row
  refine ⟨h1, ?_⟩
  rcases h2 with h2 | ⟨g, cap, cur, hv, hg, hh, r⟩
  · exact Or.inl h2
  · exact Or.inr ⟨g, cap, cur, hv, hg, by rw [hb.block g (Array.getElem?_eq_some_iff.1 hh).1]; exact hh, r⟩
end

/-- what a method of the queue may change. -/
def QFp (q : Nat) (sv : Value) (k : Nat) : Prop := k = q ∨ sv.ownBlock = some k
theorem IsQ.fp {w : World} {q : Nat} {sv : Value} {l : List Wt} (h : IsQ w q sv l) (k : Nat) (hk : QFp q sv k) : q ≤ k := by
  rcases hk with rfl | hk
  · exact Nat.le_refl _
  · have := h.row.lt k hk; omega
theorem qlen_any (w : World) (q : Nat) (sv : Value) (l : List Wt) (h : IsQ w q sv l) :
    Calls Tryz.prog 17 #[.pointer (some ⟨q, 0, none⟩)] w (Ret (.int .i64 l.length) w) := by
  obtain ⟨a, cap, rfl, h1, h2⟩ := h.shape
  have hc := h.blk.cell 0 rfl
  go_enter Tryz.func17, Tryz.ntmps17
  go_wp2
  go_ret
  exact ⟨rfl, 0, rfl⟩

/-- where the number is, from place k on; -1: nowhere. -/
def findF (id : Int) : List Wt → Nat → Int
  | [], _ => -1
  | x :: r, k => if x.id = id then (k : Int) else findF id r (k + 1)
theorem find_any (w : World) (q : Nat) (sv : Value) (l : List Wt) (id : Int) (h : IsQ w q sv l) :
    Calls Tryz.prog 44 #[.pointer (some ⟨q, 0, none⟩), .int .i64 id] w (RetB (.int .i64 (findF id l 0)) w.heap.size w) := by
  have hq := h.blk.lt
  have HQ := hid h
  obtain ⟨a, cap, hsv, h1, h2⟩ := h.shape
  have hc := h.blk.cell 0 rfl
  have hsm := h.small
  subst hsv
  clear h
  go_enter Tryz.func44, Tryz.ntmps44
  go_wp2
  go_loopw [12] (fun i wr => ∃ k : Nat, k ≤ l.length ∧ i = .int .i64 k ∧ findF id (l.drop k) k = findF id l 0 ∧ Below w.heap.size w wr) (fun i _ => l.length - (intOf i).toNat)
  case atStart => exact ⟨0, Nat.zero_le _, rfl, rfl, Below.refl _ _⟩
  case round =>
    obtain ⟨k, hk, rfl, he, Lr⟩ := hrel
    have HE := hid he
    clear he
    by_cases hlt : k < l.length
    · obtain ⟨g, cap', hsv, hgs, c0, c1, c2, c3, c4⟩ := HQ.out.five Lr k hlt
      simp only [Value.slice.injEq, true_and] at hsv
      obtain ⟨rfl, rfl⟩ := hsv
      have hd : l.drop k = l[k] :: l.drop (k+1) := List.drop_eq_getElem_cons hlt
      generalize l[k] = x at *
      have HD := hid hd
      clear hd
      by_cases hx : x.id = id
      · have hx' : (x.id == id) = true := by simpa using hx
        have HX := hid hx
        clear hx
        go_wp2_with fail
        go_ret
        refine ⟨ret_int ?_, by (repeat' (first | (with_reducible assumption) | (with_reducible exact Below.refl _ _) | (with_reducible refine below_drewN ?_ _) | (with_reducible refine Below.drew ?_) | ((with_reducible refine below_alloc' ?_ ?_ _); rotate_left; (first | exact Nat.le_refl _ | assumption | omega)) | ((with_reducible refine Below.alloc ?_ ?_ _); rotate_left; (first | omega | (simp <;> omega))) | ((with_reducible refine Below.setCell ?_ ?_ _); rotate_left; (first | omega | (simp <;> omega)))))⟩
        have := HE.out
        rw [HD.out, findF, if_pos HX.out] at this
        exact this
      · have hx' : (x.id == id) = false := by simpa using hx
        have HX := hid hx
        clear hx
        go_wp2_with fail
        go_roundw
        case rel => exact ⟨k + 1, by omega, by go_num, by have := HE.out; rw [HD.out, findF, if_neg HX.out] at this; exact this, by (repeat' (first | (with_reducible assumption) | (with_reducible exact Below.refl _ _) | (with_reducible refine below_drewN ?_ _) | (with_reducible refine Below.drew ?_) | ((with_reducible refine below_alloc' ?_ ?_ _); rotate_left; (first | exact Nat.le_refl _ | assumption | omega)) | ((with_reducible refine Below.alloc ?_ ?_ _); rotate_left; (first | omega | (simp <;> omega))) | ((with_reducible refine Below.setCell ?_ ?_ _); rotate_left; (first | omega | (simp <;> omega)))))⟩
        case measure => (simp [intOf] <;> omega)
    · obtain rfl : k = l.length := by omega
      go_wp2_with fail
      go_ret
      refine ⟨ret_int ?_, by (repeat' (first | (with_reducible assumption) | (with_reducible exact Below.refl _ _) | (with_reducible refine below_drewN ?_ _) | (with_reducible refine Below.drew ?_) | ((with_reducible refine below_alloc' ?_ ?_ _); rotate_left; (first | exact Nat.le_refl _ | assumption | omega)) | ((with_reducible refine Below.alloc ?_ ?_ _); rotate_left; (first | omega | (simp <;> omega))) | ((with_reducible refine Below.setCell ?_ ?_ _); rotate_left; (first | omega | (simp <;> omega)))))⟩
      have := HE.out
      rw [List.drop_length, findF] at this
      exact this

/-- Add: the request at the end, where its number isn't there. -/
theorem add_no (w : World) (q : Nat) (sv : Value) (l : List Wt) (id blob vol at_ : Int) (h : IsQ w q sv l) (hf : 0 ≤ findF id l 0) :
    Calls Tryz.prog 10 #[.pointer (some ⟨q, 0, none⟩), .agg #[.int .i64 id, .int .u64 blob, .int .i64 vol, .int .i64 at_]] w (RetB (.bool false) w.heap.size w) := by
  have hq := h.blk.lt
  have HQ := hid h
  clear h
  have hne : q ≠ w.heap.size := by omega
  go_enter Tryz.func10, Tryz.ntmps10
  go_wp2_with fail
  refine (find_any _ _ _ l id (HQ.out.below (by (repeat' (first | (with_reducible assumption) | (with_reducible exact Below.refl _ _) | (with_reducible refine below_drewN ?_ _) | (with_reducible refine Below.drew ?_) | ((with_reducible refine below_alloc' ?_ ?_ _); rotate_left; (first | exact Nat.le_refl _ | assumption | omega)) | ((with_reducible refine Below.alloc ?_ ?_ _); rotate_left; (first | omega | (simp <;> omega))) | ((with_reducible refine Below.setCell ?_ ?_ _); rotate_left; (first | omega | (simp <;> omega)))))))).mono ?_; rintro e w1 ⟨rfl, L1⟩
  have L2 : Below w.heap.size w w1 := Below.trans (by (repeat' (first | (with_reducible assumption) | (with_reducible exact Below.refl _ _) | (with_reducible refine below_drewN ?_ _) | (with_reducible refine Below.drew ?_) | ((with_reducible refine below_alloc' ?_ ?_ _); rotate_left; (first | exact Nat.le_refl _ | assumption | omega)) | ((with_reducible refine Below.alloc ?_ ?_ _); rotate_left; (first | omega | (simp <;> omega))) | ((with_reducible refine Below.setCell ?_ ?_ _); rotate_left; (first | omega | (simp <;> omega)))))) (L1.mono (by simp))
  clear L1
  go_wp2_with fail
  go_ret
  exact ⟨rfl, by (repeat' (first | (with_reducible assumption) | (with_reducible exact Below.refl _ _) | (with_reducible refine below_drewN ?_ _) | (with_reducible refine Below.drew ?_) | ((with_reducible refine below_alloc' ?_ ?_ _); rotate_left; (first | exact Nat.le_refl _ | assumption | omega)) | ((with_reducible refine Below.alloc ?_ ?_ _); rotate_left; (first | omega | (simp <;> omega))) | ((with_reducible refine Below.setCell ?_ ?_ _); rotate_left; (first | omega | (simp <;> omega)))))⟩
theorem add_yes (w : World) (q : Nat) (sv : Value) (l : List Wt) (id blob vol at_ : Int) (h : IsQ w q sv l) (hf : findF id l 0 < 0) (hl : l.length < 1048576) :
    Calls Tryz.prog 10 #[.pointer (some ⟨q, 0, none⟩), .agg #[.int .i64 id, .int .u64 blob, .int .i64 vol, .int .i64 at_]] w
      fun e w' => e = .returned (.bool true) ∧ ∃ sv', IsQ w' q sv' (l ++ [⟨id, blob, vol, at_, 0⟩]) ∧ Mod (QFp q sv) w w' ∧ Moved w sv sv' := by
  have hq := h.blk.lt
  have HQ := hid h
  clear h
  have hne : q ≠ w.heap.size := by omega
  go_enter Tryz.func10, Tryz.ntmps10
  go_wp2_with fail
  refine (find_any _ _ _ l id (HQ.out.below (by (repeat' (first | (with_reducible assumption) | (with_reducible exact Below.refl _ _) | (with_reducible refine below_drewN ?_ _) | (with_reducible refine Below.drew ?_) | ((with_reducible refine below_alloc' ?_ ?_ _); rotate_left; (first | exact Nat.le_refl _ | assumption | omega)) | ((with_reducible refine Below.alloc ?_ ?_ _); rotate_left; (first | omega | (simp <;> omega))) | ((with_reducible refine Below.setCell ?_ ?_ _); rotate_left; (first | omega | (simp <;> omega)))))))).mono ?_; rintro e w1 ⟨rfl, L1⟩
  have L2 : Below w.heap.size w w1 := Below.trans (by (repeat' (first | (with_reducible assumption) | (with_reducible exact Below.refl _ _) | (with_reducible refine below_drewN ?_ _) | (with_reducible refine Below.drew ?_) | ((with_reducible refine below_alloc' ?_ ?_ _); rotate_left; (first | exact Nat.le_refl _ | assumption | omega)) | ((with_reducible refine Below.alloc ?_ ?_ _); rotate_left; (first | omega | (simp <;> omega))) | ((with_reducible refine Below.setCell ?_ ?_ _); rotate_left; (first | omega | (simp <;> omega)))))) (L1.mono (by simp))
  have hB1 := (Blk.new w [.int .i64 id, .int .u64 blob, .int .i64 vol, .int .i64 at_] 40).below L1 (by simp)
  have Q1 := HQ.out.below L2
  have c0 := Q1.blk.cell 0 rfl
  have f0 := Q1.blk.frozen 0
  have d0 := hB1.cell 0 rfl
  have d1 := hB1.cell 1 rfl
  have d2 := hB1.cell 2 rfl
  have d3 := hB1.cell 3 rfl
  have c0' : ∀ o, (w1.alloc o).cell? ⟨q, 0, none⟩ = some sv := fun o => (Q1.blk.alloc o).cell 0 rfl
  have HQ1 := hid Q1
  clear L1 hB1 Q1
  go_wp2_with fail
  go_region_law (refine step_app1 (w := w1.drew) slWait (by rfl) (.tmp 14) (.tmp 17) (by rfl) (q + 1) sv l.length (l.flatMap wc) [.int .i64 id, .int .u64 blob, .int .i64 vol, .int .i64 at_, .int .i64 0] (by rfl) (by exact HQ1.out.row) (g := w1.heap.size) (by rfl) (by simp) rfl (wc_one1 ⟨id, blob, vol, at_, 0⟩) (by omega) (by omega) (by have := HQ1.out.blk.lt; simp; omega) ?_; intro v' w2 O2 G2 _ V2; obtain ⟨a2, cap2, rfl, _, _⟩ := own_shape O2; have q2 := (HQ1.out.blk.drew.grown_own G2 HQ1.out.row (Nat.lt_succ_self _)).cell 0 rfl; have z2 := (HQ1.out.blk.drew.grown_own G2 HQ1.out.row (Nat.lt_succ_self _)).frozen 0)
  all_goals
    have B2 := HQ1.out.blk.drew.grown_own G2 HQ1.out.row (Nat.lt_succ_self _)
    have L3 : Mod (QFp q sv) w w2 := (Mod.of_below L2.drew).grown G2 (fun k hk _ => Or.inr hk)
    go_wp2_with fail
    go_ret
    refine ⟨rfl, _, ⟨B2.set' 0 _ rfl, ?_, by simp; omega⟩, L3.setCell (fun _ => Or.inl rfl) _, fun k hk => by rcases V2 k hk with h | h; exact Or.inl h; right; have := L2.size; simp at h; omega⟩
    have := own_setCell_lt O2 (a := ⟨q, 0, none⟩) (Nat.lt_succ_self _) (.slice a2 (l.length + 1) cap2)
    simpa [wc] using this

theorem eraseIdx_flat (l : List Wt) (i : Nat) (hi : i < l.length) : (l.flatMap wc).take (i * 5) ++ (l.flatMap wc).drop ((i + 1) * 5) = (l.eraseIdx i).flatMap wc := by
  rw [flat_take wc wc_len, flat_drop wc wc_len, ← List.flatMap_append, List.eraseIdx_eq_take_drop_succ]
theorem remove_any (w : World) (q : Nat) (sv : Value) (l : List Wt) (i : Nat) (h : IsQ w q sv l) (hi : i < l.length) :
    Calls Tryz.prog 49 #[.pointer (some ⟨q, 0, none⟩), .int .i64 i] w
      fun e w' => e = .returned (.tuple #[]) ∧ ∃ sv', IsQ w' q sv' (l.eraseIdx i) ∧ Mod (QFp q sv) w w' ∧ Moved w sv sv' := by
  have hq := h.blk.lt
  obtain ⟨g, cap, hsv, hqg, hgs, hcap, _⟩ := h.elem i hi
  obtain ⟨_, _, hsv', _, hcb⟩ := h.shape
  rw [hsv] at hsv'
  simp only [Value.slice.injEq, true_and] at hsv'
  obtain ⟨rfl, rfl⟩ := hsv'
  subst hsv
  have c0 := h.blk.cell 0 rfl
  have f0 := h.blk.frozen 0
  have hsm := h.small
  have HQ := hid h
  clear h
  have hii : (i : Int) ≤ l.length := by omega
  have hi0 : (0 : Int) ≤ (i : Int) := by omega
  have hic : (i : Int) ≤ (cap : Int) := by omega
  have hi2 : (i : Int) + 1 ≤ (l.length : Int) := by omega
  have hi3 : (0 : Int) ≤ (i : Int) + 1 := by omega
  have hi4 : (l.length : Int) ≤ (cap : Int) := by omega
  have hi5 : ((i : Int) + 1).toNat = i + 1 := by omega
  have hi1 : IntKind.i64.wrap (↑i + 1) = ↑i + 1 := IntWalk.i64_in _ (by omega)
  by_cases hce : cap = i + 1
  · have hll : l.length = i + 1 := by omega
    subst hce
    have HLL := hid hll
    clear hll
    have hlx : (l.length : Int) = (i : Int) + 1 := by have := HLL.out; omega
    have hly : (i : Int) ≤ (i : Int) + 1 := by omega
    go_enter Tryz.func49, Tryz.ntmps49
    go_wp2_with fail
    go_region_law (refine step_delete (w := w.drew) slWait (by rfl) (.tmp 10) (.tmp 17) (by rfl) (q + 1) l.length (i + 1) g i (l.flatMap wc) (by exact HQ.out.row) hi (wc_one l) (some ⟨g, 0, none⟩) (0) (0) (by have := HLL.out; omega) (fun h => absurd h (by omega)) (fun _ => ⟨_, rfl⟩) (by rfl) (by rfl) ?_; intro w2 O2 G2; have q2 := (HQ.out.blk.drew.grown_own G2 HQ.out.row (Nat.lt_succ_self _)).cell 0 rfl; have z2 := (HQ.out.blk.drew.grown_own G2 HQ.out.row (Nat.lt_succ_self _)).frozen 0)
    all_goals
      have B2 := HQ.out.blk.drew.grown_own G2 HQ.out.row (Nat.lt_succ_self _)
      have L3 : Mod (QFp q (.slice (some ⟨g, 0, none⟩) l.length (i + 1))) w w2 := ((Mod.refl _ w).drew).grown G2 (fun k hk _ => by cases hk; exact Or.inr rfl)
      go_wp2_with fail
      go_returns
      have hel : (l.eraseIdx i).length = l.length - 1 := List.length_eraseIdx_of_lt hi
      refine ⟨rfl, _, ⟨B2.set' 0 _ rfl, ?_, by rw [hel]; omega⟩, L3.setCell (fun _ => Or.inl rfl) _, fun k hk => Or.inl hk⟩
      have := own_setCell_lt O2 (a := ⟨q, 0, none⟩) (Nat.lt_succ_self _) (.slice (some ⟨g, 0, none⟩) (l.length - 1) (i + 1))
      rw [eraseIdx_flat l i hi] at this
      rw [hel]; exact this
  · have hlc : i + 1 ≤ cap := by omega
    go_enter Tryz.func49, Tryz.ntmps49
    go_wp2_with fail
    go_region_law (refine step_delete (w := w.drew) slWait (by rfl) (.tmp 10) (.tmp 17) (by rfl) (q + 1) l.length cap g i (l.flatMap wc) (by exact HQ.out.row) hi (wc_one l) (some ⟨g, (i + 1) * 5, none⟩) (cap - (i + 1)) (l.length - (i + 1)) rfl (fun _ => rfl) (fun _ => ⟨_, rfl⟩) (by rfl) (by rfl) ?_; intro w2 O2 G2; have q2 := (HQ.out.blk.drew.grown_own G2 HQ.out.row (Nat.lt_succ_self _)).cell 0 rfl; have z2 := (HQ.out.blk.drew.grown_own G2 HQ.out.row (Nat.lt_succ_self _)).frozen 0)
    all_goals
      have B2 := HQ.out.blk.drew.grown_own G2 HQ.out.row (Nat.lt_succ_self _)
      have L3 : Mod (QFp q (.slice (some ⟨g, 0, none⟩) l.length cap)) w w2 := ((Mod.refl _ w).drew).grown G2 (fun k hk _ => by cases hk; exact Or.inr rfl)
      go_wp2_with fail
      go_returns
      have hel : (l.eraseIdx i).length = l.length - 1 := List.length_eraseIdx_of_lt hi
      refine ⟨rfl, _, ⟨B2.set' 0 _ rfl, ?_, by rw [hel]; omega⟩, L3.setCell (fun _ => Or.inl rfl) _, fun k hk => Or.inl hk⟩
      have := own_setCell_lt O2 (a := ⟨q, 0, none⟩) (Nat.lt_succ_self _) (.slice (some ⟨g, 0, none⟩) (l.length - 1) cap)
      rw [eraseIdx_flat l i hi] at this
      rw [hel]; exact this
end Go.Proofs.YtekioplbfoonkaaGreatDoor
namespace Go.Proofs.YtekioplbfoonkaaGreatDoor
open Go.RowKit
set_option linter.unusedVariables false
set_option maxRecDepth 100000
set_option maxHeartbeats 400000

theorem findF_ge (id : Int) : ∀ (l : List Wt) (k : Nat), -1 ≤ findF id l k ∧ (findF id l k = -1 ∨ ((k : Int) ≤ findF id l k ∧ findF id l k < k + l.length))
  | [], k => by simp [findF]
  | x :: r, k => by
    have := findF_ge id r (k + 1)
    rw [findF]
    split
    · simp; omega
    · simp only [List.length_cons]; omega

def skipB (vol from_ : Int) (bound : Bool) (x : Wt) : Bool := decide (x.vol ≠ vol ∨ (bound = true ∧ x.at_ < from_))
/-- where the one is that has the lowest block. -/
def lowF (vol from_ : Int) (bound : Bool) : List Wt → Nat → Int → Int → Int
  | [], _, best, _ => best
  | x :: r, k, best, ba => if skipB vol from_ bound x = true then lowF vol from_ bound r (k + 1) best ba else if best < 0 ∨ x.at_ < ba then lowF vol from_ bound r (k + 1) k x.at_ else lowF vol from_ bound r (k + 1) best ba


set_option maxHeartbeats 2000000 in
theorem lowest_any (w : World) (q : Nat) (sv : Value) (l : List Wt) (vol from_ : Int) (bound : Bool) (h : IsQ w q sv l) :
    Calls Tryz.prog 105 #[.pointer (some ⟨q, 0, none⟩), .int .i64 vol, .int .i64 from_, .bool bound] w (RetB (.int .i64 (lowF vol from_ bound l 0 (-1) 0)) w.heap.size w) := by
  have hq := h.blk.lt
  have HQ := hid h
  obtain ⟨a, cap, hsv, h1, h2⟩ := h.shape
  have hc := h.blk.cell 0 rfl
  have hsm := h.small
  subst hsv
  clear h
  go_enter Tryz.func105, Tryz.ntmps105
  go_wp2_with fail
  go_loopw [9, 17] (fun bs i wr => ∃ (k : Nat) (best ba : Int), k ≤ l.length ∧ i = .int .i64 k ∧ bs = .int .i64 best ∧ (best = -1 ∨ ∃ j : Nat, best = j ∧ j < k ∧ ∃ hj : j < l.length, l[j].at_ = ba) ∧ lowF vol from_ bound (l.drop k) k best ba = lowF vol from_ bound l 0 (-1) 0 ∧ Below w.heap.size w wr) (fun _ i _ => l.length - (intOf i).toNat)
  case atStart => exact ⟨0, -1, 0, Nat.zero_le _, rfl, rfl, Or.inl rfl, rfl, Below.refl _ _⟩
  case round =>
    obtain ⟨k, best, ba, hk, rfl, rfl, hbest, he, Lr⟩ := hrel
    have HE := hid he
    clear he
    by_cases hlt : k < l.length
    · obtain ⟨g, cap', hsv, hgs, c0, c1, c2, c3, c4⟩ := HQ.out.five Lr k hlt
      simp only [Value.slice.injEq, true_and] at hsv
      obtain ⟨rfl, rfl⟩ := hsv
      have hd : l.drop k = l[k] :: l.drop (k+1) := List.drop_eq_getElem_cons hlt
      have hxat : ∃ hj : k < l.length, l[k].at_ = l[k].at_ := ⟨hlt, rfl⟩
      have HX : Hid (∀ x, l[k] = x → ∃ hj : k < l.length, l[k].at_ = x.at_) := hid (fun x hx => ⟨hlt, by rw [hx]⟩)
      generalize hxx : l[k] = x at *
      have HXX := hid hxx
      have HD := hid hd
      clear hd hxat HX hxx
      have hqw : q < w.heap.size := hq
      have hcq : wr.cell? ⟨q, 0, none⟩ = some (.slice (some ⟨g, 0, none⟩) l.length cap) := by rw [Lr.cell (p := ⟨q, 0, none⟩) hqw]; exact hc
      by_cases hv : x.vol = vol
      · have hvb : (x.vol != vol) = false := by simpa using hv
        cases bound
        · have HC : Hid (skipB vol from_ false x = false) := hid (by simp [skipB, hv])
          clear hv
          go_wp2_with fail
          rcases hbest with rfl | ⟨j, rfl, hjk, hj, hja⟩
          · go_quiet (fail)
            go_wp2_with fail
            go_roundw
            case rel => exact ⟨k + 1, k, x.at_, by omega, by go_num, by simp, Or.inr ⟨k, rfl, by omega, hlt, by rw [HXX.out]⟩, by have := HE.out; rw [HD.out, lowF, if_neg (by rw [HC.out]; exact Bool.false_ne_true), if_pos (Or.inl (by omega))] at this; exact this, by (repeat' (first | (with_reducible assumption) | (with_reducible exact Below.refl _ _) | (with_reducible refine below_drewN ?_ _) | (with_reducible refine Below.drew ?_) | ((with_reducible refine below_alloc' ?_ ?_ _); rotate_left; (first | exact Nat.le_refl _ | assumption | omega)) | ((with_reducible refine Below.alloc ?_ ?_ _); rotate_left; (first | omega | (simp <;> omega))) | ((with_reducible refine Below.setCell ?_ ?_ _); rotate_left; (first | omega | (simp <;> omega)))))⟩
            case measure => (simp [intOf] <;> omega)
          · obtain ⟨g', cap'', hsv', _, _, _, _, d3, _⟩ := HQ.out.five Lr j hj
            simp only [Value.slice.injEq, true_and, Option.some.injEq, Addr.mk.injEq, and_true] at hsv'
            obtain ⟨hg', hcp'⟩ := hsv'
            subst hg' hcp'
            rw [hja] at d3
            have HJA := hid hja
            clear hja
            have hgr : g < wr.heap.size := by have := Lr.size; omega
            have hqr : q < wr.heap.size := by have := Lr.size; omega
            have e3 : ∀ o, (wr.alloc o).cell? ⟨g, j * 5 + 3, none⟩ = some (.int .i64 ba) := fun o => by rw [World.cell?_alloc_lt _ _ _ hgr]; exact d3
            have eq : ∀ o, (wr.alloc o).cell? ⟨q, 0, none⟩ = some (.slice (some ⟨g, 0, none⟩) l.length cap) := fun o => by rw [World.cell?_alloc_lt _ _ _ hqr]; exact hcq
            have hj0 : (0 : Int) ≤ (j : Int) := by omega
            have hj1 : (j : Int) < (l.length : Int) := by omega
            have hj2 : decide ((j : Int) < 0) = false := by simp
            by_cases hat : x.at_ < ba
            · go_quiet (fail)
              go_wp2_with fail
              go_roundw
              case rel => exact ⟨k + 1, k, x.at_, by omega, by go_num, by simp, Or.inr ⟨k, rfl, by omega, hlt, by rw [HXX.out]⟩, by have := HE.out; rw [HD.out, lowF, if_neg (by rw [HC.out]; exact Bool.false_ne_true), if_pos (Or.inr hat)] at this; exact this, by (repeat' (first | (with_reducible assumption) | (with_reducible exact Below.refl _ _) | (with_reducible refine below_drewN ?_ _) | (with_reducible refine Below.drew ?_) | ((with_reducible refine below_alloc' ?_ ?_ _); rotate_left; (first | exact Nat.le_refl _ | assumption | omega)) | ((with_reducible refine Below.alloc ?_ ?_ _); rotate_left; (first | omega | (simp <;> omega))) | ((with_reducible refine Below.setCell ?_ ?_ _); rotate_left; (first | omega | (simp <;> omega)))))⟩
              case measure => (simp [intOf] <;> omega)
            · have hat2 : decide (x.at_ < ba) = false := by simpa using hat
              go_quiet (fail)
              go_wp2_with fail
              go_roundw
              case rel => exact ⟨k + 1, j, ba, by omega, by go_num, rfl, Or.inr ⟨j, rfl, by omega, hj, HJA.out⟩, by have := HE.out; rw [HD.out, lowF, if_neg (by rw [HC.out]; exact Bool.false_ne_true), if_neg (by omega)] at this; exact this, by (repeat' (first | (with_reducible assumption) | (with_reducible exact Below.refl _ _) | (with_reducible refine below_drewN ?_ _) | (with_reducible refine Below.drew ?_) | ((with_reducible refine below_alloc' ?_ ?_ _); rotate_left; (first | exact Nat.le_refl _ | assumption | omega)) | ((with_reducible refine Below.alloc ?_ ?_ _); rotate_left; (first | omega | (simp <;> omega))) | ((with_reducible refine Below.setCell ?_ ?_ _); rotate_left; (first | omega | (simp <;> omega)))))⟩
              case measure => (simp [intOf] <;> omega)
        · by_cases hfr : x.at_ < from_
          · have HC : Hid (skipB vol from_ true x = true) := hid (by simp [skipB, hfr])
            clear hv
            go_wp2_with fail
            go_roundw
            case rel => refine ⟨k + 1, best, ba, by omega, by go_num, rfl, ?_, by have := HE.out; rw [HD.out, lowF, if_pos HC.out] at this; exact this, by (repeat' (first | (with_reducible assumption) | (with_reducible exact Below.refl _ _) | (with_reducible refine below_drewN ?_ _) | (with_reducible refine Below.drew ?_) | ((with_reducible refine below_alloc' ?_ ?_ _); rotate_left; (first | exact Nat.le_refl _ | assumption | omega)) | ((with_reducible refine Below.alloc ?_ ?_ _); rotate_left; (first | omega | (simp <;> omega))) | ((with_reducible refine Below.setCell ?_ ?_ _); rotate_left; (first | omega | (simp <;> omega)))))⟩; rcases hbest with h | ⟨j, h1, h2, h3⟩; exact Or.inl h; exact Or.inr ⟨j, h1, by omega, h3⟩
            case measure => (simp [intOf] <;> omega)
          · have HC : Hid (skipB vol from_ true x = false) := hid (by simp [skipB, hv]; omega)
            clear hv
            go_wp2_with fail
            rcases hbest with rfl | ⟨j, rfl, hjk, hj, hja⟩
            · go_quiet (fail)
              go_wp2_with fail
              go_roundw
              case rel => exact ⟨k + 1, k, x.at_, by omega, by go_num, by simp, Or.inr ⟨k, rfl, by omega, hlt, by rw [HXX.out]⟩, by have := HE.out; rw [HD.out, lowF, if_neg (by rw [HC.out]; exact Bool.false_ne_true), if_pos (Or.inl (by omega))] at this; exact this, by (repeat' (first | (with_reducible assumption) | (with_reducible exact Below.refl _ _) | (with_reducible refine below_drewN ?_ _) | (with_reducible refine Below.drew ?_) | ((with_reducible refine below_alloc' ?_ ?_ _); rotate_left; (first | exact Nat.le_refl _ | assumption | omega)) | ((with_reducible refine Below.alloc ?_ ?_ _); rotate_left; (first | omega | (simp <;> omega))) | ((with_reducible refine Below.setCell ?_ ?_ _); rotate_left; (first | omega | (simp <;> omega)))))⟩
              case measure => (simp [intOf] <;> omega)
            · obtain ⟨g', cap'', hsv', _, _, _, _, d3, _⟩ := HQ.out.five Lr j hj
              simp only [Value.slice.injEq, true_and, Option.some.injEq, Addr.mk.injEq, and_true] at hsv'
              obtain ⟨hg', hcp'⟩ := hsv'
              subst hg' hcp'
              rw [hja] at d3
              have HJA := hid hja
              clear hja
              have hgr : g < wr.heap.size := by have := Lr.size; omega
              have hqr : q < wr.heap.size := by have := Lr.size; omega
              have e3 : ∀ o, (wr.alloc o).cell? ⟨g, j * 5 + 3, none⟩ = some (.int .i64 ba) := fun o => by rw [World.cell?_alloc_lt _ _ _ hgr]; exact d3
              have eq : ∀ o, (wr.alloc o).cell? ⟨q, 0, none⟩ = some (.slice (some ⟨g, 0, none⟩) l.length cap) := fun o => by rw [World.cell?_alloc_lt _ _ _ hqr]; exact hcq
              have hj0 : (0 : Int) ≤ (j : Int) := by omega
              have hj1 : (j : Int) < (l.length : Int) := by omega
              have hj2 : decide ((j : Int) < 0) = false := by simp
              by_cases hat : x.at_ < ba
              · go_quiet (fail)
                go_wp2_with fail
                go_roundw
                case rel => exact ⟨k + 1, k, x.at_, by omega, by go_num, by simp, Or.inr ⟨k, rfl, by omega, hlt, by rw [HXX.out]⟩, by have := HE.out; rw [HD.out, lowF, if_neg (by rw [HC.out]; exact Bool.false_ne_true), if_pos (Or.inr hat)] at this; exact this, by (repeat' (first | (with_reducible assumption) | (with_reducible exact Below.refl _ _) | (with_reducible refine below_drewN ?_ _) | (with_reducible refine Below.drew ?_) | ((with_reducible refine below_alloc' ?_ ?_ _); rotate_left; (first | exact Nat.le_refl _ | assumption | omega)) | ((with_reducible refine Below.alloc ?_ ?_ _); rotate_left; (first | omega | (simp <;> omega))) | ((with_reducible refine Below.setCell ?_ ?_ _); rotate_left; (first | omega | (simp <;> omega)))))⟩
                case measure => (simp [intOf] <;> omega)
              · have hat2 : decide (x.at_ < ba) = false := by simpa using hat
                go_quiet (fail)
                go_wp2_with fail
                go_roundw
                case rel => exact ⟨k + 1, j, ba, by omega, by go_num, rfl, Or.inr ⟨j, rfl, by omega, hj, HJA.out⟩, by have := HE.out; rw [HD.out, lowF, if_neg (by rw [HC.out]; exact Bool.false_ne_true), if_neg (by omega)] at this; exact this, by (repeat' (first | (with_reducible assumption) | (with_reducible exact Below.refl _ _) | (with_reducible refine below_drewN ?_ _) | (with_reducible refine Below.drew ?_) | ((with_reducible refine below_alloc' ?_ ?_ _); rotate_left; (first | exact Nat.le_refl _ | assumption | omega)) | ((with_reducible refine Below.alloc ?_ ?_ _); rotate_left; (first | omega | (simp <;> omega))) | ((with_reducible refine Below.setCell ?_ ?_ _); rotate_left; (first | omega | (simp <;> omega)))))⟩
                case measure => (simp [intOf] <;> omega)
      · have hvb : (x.vol != vol) = true := by simpa using hv
        go_wp2_with fail
        go_roundw
        case rel => refine ⟨k + 1, best, ba, by omega, by go_num, rfl, ?_, by have := HE.out; rw [HD.out, lowF, if_pos (by simp [skipB, hv])] at this; exact this, by (repeat' (first | (with_reducible assumption) | (with_reducible exact Below.refl _ _) | (with_reducible refine below_drewN ?_ _) | (with_reducible refine Below.drew ?_) | ((with_reducible refine below_alloc' ?_ ?_ _); rotate_left; (first | exact Nat.le_refl _ | assumption | omega)) | ((with_reducible refine Below.alloc ?_ ?_ _); rotate_left; (first | omega | (simp <;> omega))) | ((with_reducible refine Below.setCell ?_ ?_ _); rotate_left; (first | omega | (simp <;> omega)))))⟩; rcases hbest with h | ⟨j, h1, h2, h3⟩; exact Or.inl h; exact Or.inr ⟨j, h1, by omega, h3⟩
        case measure => (simp [intOf] <;> omega)
    · obtain rfl : k = l.length := by omega
      go_wp2_with fail
      go_ret
      refine ⟨ret_int ?_, by (repeat' (first | (with_reducible assumption) | (with_reducible exact Below.refl _ _) | (with_reducible refine below_drewN ?_ _) | (with_reducible refine Below.drew ?_) | ((with_reducible refine below_alloc' ?_ ?_ _); rotate_left; (first | exact Nat.le_refl _ | assumption | omega)) | ((with_reducible refine Below.alloc ?_ ?_ _); rotate_left; (first | omega | (simp <;> omega))) | ((with_reducible refine Below.setCell ?_ ?_ _); rotate_left; (first | omega | (simp <;> omega)))))⟩
      have := HE.out
      rw [List.drop_length, lowF] at this
      exact this
end Go.Proofs.YtekioplbfoonkaaGreatDoor
namespace Go.Proofs.YtekioplbfoonkaaGreatDoor
open Go.RowKit
set_option linter.unusedVariables false
set_option maxRecDepth 100000
set_option maxHeartbeats 400000

theorem lowF_rng (vol f : Int) (b : Bool) : ∀ (l : List Wt) (k : Nat) (best ba : Int), -1 ≤ best → best < k → -1 ≤ lowF vol f b l k best ba ∧ lowF vol f b l k best ba < k + l.length
  | [], k, best, ba, h, h' => by simp [lowF]; omega
  | x :: r, k, best, ba, h, h' => by
    rw [lowF]
    simp only [List.length_cons]
    split
    · have := lowF_rng vol f b r (k + 1) best ba h (by omega); omega
    · split
      · have := lowF_rng vol f b r (k + 1) k x.at_ (by omega) (by omega); omega
      · have := lowF_rng vol f b r (k + 1) best ba h (by omega); omega
theorem lowF_mono (vol f : Int) (b : Bool) : ∀ (l : List Wt) (k : Nat) (best ba : Int), 0 ≤ best → 0 ≤ lowF vol f b l k best ba
  | [], k, best, ba, h => by simpa [lowF] using h
  | x :: r, k, best, ba, h => by
    rw [lowF]
    split
    · exact lowF_mono vol f b r (k + 1) best ba h
    · split
      · exact lowF_mono vol f b r (k + 1) k x.at_ (by omega)
      · exact lowF_mono vol f b r (k + 1) best ba h
theorem lowF_some (vol f : Int) (b : Bool) (x : Wt) : ∀ (l : List Wt) (k : Nat) (best ba : Int), x ∈ l → skipB vol f b x = false → -1 ≤ best → 0 ≤ lowF vol f b l k best ba
  | y :: r, k, best, ba, hx, hs, hb => by
    rw [lowF]
    rcases List.mem_cons.1 hx with rfl | hx
    · rw [if_neg (by rw [hs]; exact Bool.false_ne_true)]
      split
      · exact lowF_mono vol f b r (k + 1) k _ (by omega)
      · exact lowF_mono vol f b r (k + 1) best ba (by omega)
    · split
      · exact lowF_some vol f b x r (k + 1) best ba hx hs hb
      · split
        · exact lowF_some vol f b x r (k + 1) k _ hx hs (by omega)
        · exact lowF_some vol f b x r (k + 1) best ba hx hs hb

/-- where the next one is. -/
def chooseF (x0 : Wt) (l : List Wt) (vol at_ : Int) : Int :=
  if 8 ≤ x0.passed then 0
  else if vol ≠ -1 ∧ 0 ≤ lowF vol at_ true l 0 (-1) 0 then lowF vol at_ true l 0 (-1) 0
  else if vol ≠ -1 ∧ 0 ≤ lowF vol 0 false l 0 (-1) 0 then lowF vol 0 false l 0 (-1) 0
  else lowF x0.vol 0 false l 0 (-1) 0
theorem chooseF_rng (x0 : Wt) (r : List Wt) (vol at_ : Int) : 0 ≤ chooseF x0 (x0 :: r) vol at_ ∧ chooseF x0 (x0 :: r) vol at_ < (x0 :: r).length := by
  have a1 := lowF_rng vol at_ true (x0 :: r) 0 (-1) 0 (by omega) (by omega)
  have a2 := lowF_rng vol 0 false (x0 :: r) 0 (-1) 0 (by omega) (by omega)
  have a3 := lowF_rng x0.vol 0 false (x0 :: r) 0 (-1) 0 (by omega) (by omega)
  have a4 := lowF_some x0.vol 0 false x0 (x0 :: r) 0 (-1) 0 (by simp) (by simp [skipB]) (by omega)
  simp only [List.length_cons] at *
  unfold chooseF
  split
  · omega
  · split
    · omega
    · split <;> omega

set_option maxHeartbeats 1000000 in
theorem choose_any (w : World) (q : Nat) (sv : Value) (x0 : Wt) (r : List Wt) (vol at_ : Int) (h : IsQ w q sv (x0 :: r)) :
    Calls Tryz.prog 48 #[.pointer (some ⟨q, 0, none⟩), .int .i64 vol, .int .i64 at_] w (RetB (.int .i64 (chooseF x0 (x0 :: r) vol at_)) w.heap.size w) := by
  have hq := h.blk.lt
  obtain ⟨g, cap, hsv, hgs, c0, c1, c2, c3, c4⟩ := h.five (Below.refl _ w) 0 (by simp)
  simp only [List.getElem_cons_zero, Nat.zero_mul, Nat.zero_add] at c0 c1 c2 c3 c4
  subst hsv
  have hc := h.blk.cell 0 rfl
  have hsm := h.small
  have HQ := hid h
  clear h
  obtain ⟨l, hl⟩ : ∃ l, x0 :: r = l := ⟨_, rfl⟩
  have hlen : 0 < l.length := by rw [← hl]; simp
  rw [hl] at HQ hc hsm ⊢
  clear hl
  have hlen' : (0 : Int) < (l.length : Int) := by omega
  obtain ⟨A1, hA1⟩ : ∃ z, lowF vol at_ true l 0 (-1) 0 = z := ⟨_, rfl⟩
  obtain ⟨A2, hA2⟩ : ∃ z, lowF vol 0 false l 0 (-1) 0 = z := ⟨_, rfl⟩
  obtain ⟨A3, hA3⟩ : ∃ z, lowF x0.vol 0 false l 0 (-1) 0 = z := ⟨_, rfl⟩
  have hch : chooseF x0 l vol at_ = if 8 ≤ x0.passed then 0 else if vol ≠ -1 ∧ 0 ≤ A1 then A1 else if vol ≠ -1 ∧ 0 ≤ A2 then A2 else A3 := by rw [← hA1, ← hA2, ← hA3]; rfl
  rw [hch]
  have H1 := hid hA1
  have H2 := hid hA2
  have H3 := hid hA3
  clear hA1 hA2 hA3 hch
  by_cases hp : 8 ≤ x0.passed
  · rw [if_pos hp]
    go_enter Tryz.func48, Tryz.ntmps48
    go_wp2_with fail
    go_ret
    exact ⟨rfl, Below.refl _ _⟩
  · rw [if_neg hp]
    by_cases hv : vol = -1
    · subst hv
      rw [if_neg (by simp), if_neg (by simp)]
      go_enter Tryz.func48, Tryz.ntmps48
      go_wp2_with fail
      refine (lowest_any _ _ _ l x0.vol 0 false HQ.out).mono ?_; rintro e w1 ⟨rfl, L1⟩
      rw [H3.out]
      go_wp2_with fail
      go_ret
      exact ⟨rfl, L1⟩
    · have hvb : (vol != -1) = true := by simpa using hv
      have HV := hid hv
      by_cases h1 : 0 ≤ A1
      · rw [if_pos ⟨hv, h1⟩]
        clear hv
        go_enter Tryz.func48, Tryz.ntmps48
        go_wp2_with fail
        refine (lowest_any _ _ _ l vol at_ true HQ.out).mono ?_; rintro e w1 ⟨rfl, L1⟩
        rw [H1.out]
        go_wp2_with fail
        go_ret
        exact ⟨rfl, L1⟩
      · rw [if_neg (fun h => h1 h.2)]
        by_cases h2 : 0 ≤ A2
        · rw [if_pos ⟨hv, h2⟩]
          clear hv
          go_enter Tryz.func48, Tryz.ntmps48
          go_wp2_with fail
          refine (lowest_any _ _ _ l vol at_ true HQ.out).mono ?_; rintro e w1 ⟨rfl, L1⟩
          rw [H1.out]
          go_wp2_with fail
          refine (lowest_any _ _ _ l vol 0 false (HQ.out.below L1)).mono ?_; rintro e w2 ⟨rfl, L2⟩
          rw [H2.out]
          go_wp2_with fail
          go_ret
          exact ⟨rfl, L1.trans (L2.mono L1.size)⟩
        · rw [if_neg (fun h => h2 h.2)]
          clear hv
          go_enter Tryz.func48, Tryz.ntmps48
          go_wp2_with fail
          refine (lowest_any _ _ _ l vol at_ true HQ.out).mono ?_; rintro e w1 ⟨rfl, L1⟩
          rw [H1.out]
          go_wp2_with fail
          refine (lowest_any _ _ _ l vol 0 false (HQ.out.below L1)).mono ?_; rintro e w2 ⟨rfl, L2⟩
          rw [H2.out]
          have L3 := L1.trans (L2.mono L1.size)
          have k0 : w2.cell? ⟨q, 0, none⟩ = _ := (L3.cell (p := ⟨q, 0, none⟩) hq).trans hc
          have k2 : w2.cell? ⟨g, 2, none⟩ = _ := (L3.cell (p := ⟨g, 2, none⟩) hgs).trans c2
          go_wp2_with fail
          refine (lowest_any _ _ _ l x0.vol 0 false (HQ.out.below L3)).mono ?_; rintro e w3 ⟨rfl, L4⟩
          rw [H3.out]
          go_wp2_with fail
          go_ret
          exact ⟨rfl, L3.trans (L4.mono L3.size)⟩
end Go.Proofs.YtekioplbfoonkaaGreatDoor
namespace Go.Proofs.YtekioplbfoonkaaGreatDoor
open Go.RowKit
set_option linter.unusedVariables false
set_option maxRecDepth 100000
set_option maxHeartbeats 400000

def up (x : Wt) : Wt := { x with passed := x.passed + 1 }
/-- the first n are passed over once more. -/
def bump : Nat → List Wt → List Wt
  | 0, l => l
  | _ + 1, [] => []
  | n + 1, x :: r => up x :: bump n r
theorem bump_len : ∀ (n : Nat) (l : List Wt), (bump n l).length = l.length
  | 0, l => by simp [bump]
  | _ + 1, [] => by simp [bump]
  | n + 1, x :: r => by simp [bump, bump_len n r]
theorem bump_get : ∀ (n : Nat) (l : List Wt) (k : Nat), n ≤ k → (bump n l)[k]? = l[k]?
  | 0, l, k, _ => by simp [bump]
  | _ + 1, [], k, _ => by simp [bump]
  | n + 1, x :: r, k + 1, h => by simp [bump, bump_get n r k (by omega)]
theorem bump_succ : ∀ (n : Nat) (l : List Wt) (h : n < l.length), bump (n + 1) l = (bump n l).set n (up l[n])
  | 0, x :: r, _ => by simp [bump]
  | n + 1, x :: r, h => by
    have h' : n < r.length := by simpa using h
    rw [bump, bump_succ n r h', bump, List.set_cons_succ]; rfl

theorem IsQ.bumped {w : World} {q g cap k : Nat} {l : List Wt} (h : IsQ w q (.slice (some ⟨g, 0, none⟩) l.length cap) (bump k l)) (hk : k < l.length) (hqg : q < g) :
    IsQ (w.setCell ⟨g, k * 5 + 4, none⟩ (.int .i64 (l[k].passed + 1))) q (.slice (some ⟨g, 0, none⟩) l.length cap) (bump (k + 1) l) := by
  have hkl : k < (bump k l).length := by rw [bump_len]; exact hk
  have hbk : (bump k l)[k] = l[k] := by
    have := bump_get k l k (Nat.le_refl _)
    rw [List.getElem?_eq_getElem hkl, List.getElem?_eq_getElem hk] at this
    exact Option.some.inj this
  refine ⟨h.blk.ne (by simp; omega) _, ?_, by rw [bump_len]; have := h.small; rwa [bump_len] at this⟩
  have hr := h.row
  rw [bump_len] at hr ⊢
  have := own_set hr (k * 5 + 4) (.int .i64 (l[k].passed + 1))
  rw [flat_set wc wc_len (bump k l) k 4 hkl _ (up l[k]) (by omega) (by rw [hbk]; rfl)] at this
  rw [bump_succ k l hk]
  exact this

theorem next_none (w : World) (q : Nat) (sv : Value) (vol at_ : Int) (h : IsQ w q sv []) :
    Calls Tryz.prog 13 #[.pointer (some ⟨q, 0, none⟩), .int .i64 vol, .int .i64 at_] w (RetB (.tuple #[.agg #[.int .i64 0, .int .u64 0, .int .i64 0, .int .i64 0], .bool false]) w.heap.size w) := by
  have hq := h.blk.lt
  obtain ⟨a, cap, hsv, h1, h2⟩ := h.shape
  subst hsv
  have hne : q ≠ w.heap.size := by omega
  have hc : ∀ o, (w.alloc o).cell? ⟨q, 0, none⟩ = some (.slice a 0 cap) := fun o => (h.blk.alloc o).cell 0 rfl
  clear h
  go_enter Tryz.func13, Tryz.ntmps13
  go_wp2_with fail
  refine bodyPost_ret (v := .tuple #[.agg #[.int .i64 0, .int .u64 0, .int .i64 0, .int .i64 0], .bool false]) (by simp [results, Tryz.results13, go_sem]) rfl ⟨rfl, by (repeat' (first | (with_reducible assumption) | (with_reducible exact Below.refl _ _) | (with_reducible refine below_drewN ?_ _) | (with_reducible refine Below.drew ?_) | ((with_reducible refine below_alloc' ?_ ?_ _); rotate_left; (first | exact Nat.le_refl _ | assumption | omega)) | ((with_reducible refine Below.alloc ?_ ?_ _); rotate_left; (first | omega | (simp <;> omega))) | ((with_reducible refine Below.setCell ?_ ?_ _); rotate_left; (first | omega | (simp <;> omega)))))⟩

set_option maxHeartbeats 2000000 in
theorem next_one (w : World) (q : Nat) (sv : Value) (x0 : Wt) (r : List Wt) (vol at_ : Int) (i : Nat) (x : Wt) (h : IsQ w q sv (x0 :: r)) (hi : chooseF x0 (x0 :: r) vol at_ = i) (hx : (x0 :: r)[i]? = some x)
    (hp : ∀ y ∈ x0 :: r, 0 ≤ y.passed ∧ y.passed ≤ 4611686018427387903) :
    Calls Tryz.prog 13 #[.pointer (some ⟨q, 0, none⟩), .int .i64 vol, .int .i64 at_] w
      fun e w' => e = .returned (.tuple #[.agg #[.int .i64 x.id, .int .u64 x.blob, .int .i64 x.vol, .int .i64 x.at_], .bool true]) ∧ ∃ sv', IsQ w' q sv' ((bump i (x0 :: r)).eraseIdx i) ∧ Mod (QFp q sv) w w' ∧ Moved w sv sv' := by
  have hq := h.blk.lt
  have hsm := h.small
  obtain ⟨l, hl⟩ : ∃ l, x0 :: r = l := ⟨_, rfl⟩
  have hlen : 0 < l.length := by rw [← hl]; simp
  have hil : i < l.length := by rw [← hl]; exact (List.getElem?_eq_some_iff.1 hx).1
  obtain ⟨g, cap, hsv, hqg, hgs, hcap, _⟩ := h.elem 0 (by simp)
  have HQ := hid h
  have HI := hid hi
  have HCH := hid (choose_any (w.alloc (.cells #[.int .i64 0, .int .u64 0, .int .i64 0, .int .i64 0] 40)) q sv x0 r vol at_ (h.below (by (repeat' (first | (with_reducible assumption) | (with_reducible exact Below.refl _ _) | (with_reducible refine below_drewN ?_ _) | (with_reducible refine Below.drew ?_) | ((with_reducible refine below_alloc' ?_ ?_ _); rotate_left; (first | exact Nat.le_refl _ | assumption | omega)) | ((with_reducible refine Below.alloc ?_ ?_ _); rotate_left; (first | omega | (simp <;> omega))) | ((with_reducible refine Below.setCell ?_ ?_ _); rotate_left; (first | omega | (simp <;> omega))))))))
  rw [hl] at HQ HI HCH hx hp hsm hsv hcap ⊢
  clear h hi hl
  have HX := hid hx
  have HP := hid hp
  clear hx hp
  subst hsv
  have hne : q ≠ w.heap.size := by omega
  have hc : ∀ o, (w.alloc o).cell? ⟨q, 0, none⟩ = some (.slice (some ⟨g, 0, none⟩) l.length cap) := fun o => (HQ.out.blk.alloc o).cell 0 rfl
  have hlenne : ((l.length : Int) == 0) = false := by rw [beq_eq_false_iff_ne]; omega
  go_enter Tryz.func13, Tryz.ntmps13
  go_wp2_with fail
  refine HCH.out.mono ?_; rintro e w1 ⟨rfl, L1⟩
  rw [HI.out]
  clear hc
  have M1 : Mod (QFp q (.slice (some ⟨g, 0, none⟩) l.length cap)) w w1 := (Mod.alloc (Mod.refl _ w) _).thenBelow L1
  have B1 : Blk w1 w.heap.size 40 [.int .i64 0, .int .u64 0, .int .i64 0, .int .i64 0] := (Blk.new w _ _).below L1 (by simp)
  have Q1 : IsQ w1 q (.slice (some ⟨g, 0, none⟩) l.length cap) l := HQ.out.below (Below.trans (by (repeat' (first | (with_reducible assumption) | (with_reducible exact Below.refl _ _) | (with_reducible refine below_drewN ?_ _) | (with_reducible refine Below.drew ?_) | ((with_reducible refine below_alloc' ?_ ?_ _); rotate_left; (first | exact Nat.le_refl _ | assumption | omega)) | ((with_reducible refine Below.alloc ?_ ?_ _); rotate_left; (first | omega | (simp <;> omega))) | ((with_reducible refine Below.setCell ?_ ?_ _); rotate_left; (first | omega | (simp <;> omega)))))) (L1.mono (by simp)))
  clear L1
  obtain ⟨g', cap', hsv', hgs', c0, c1, c2, c3, c4⟩ := Q1.five (Below.refl _ _) i hil
  simp only [Value.slice.injEq, true_and, Option.some.injEq, Addr.mk.injEq, and_true] at hsv'
  obtain ⟨hg1, hg2⟩ := hsv'
  subst hg1 hg2
  have hxi : l[i] = x := by have := HX.out; rw [List.getElem?_eq_getElem hil] at this; exact Option.some.inj this
  rw [hxi] at c0 c1 c2 c3 c4
  have hc1 := Q1.blk.cell 0 rfl
  have HQ1 := hid Q1
  clear Q1 hxi
  have hi0 : (0 : Int) ≤ (i : Int) := by omega
  have hi1 : (i : Int) < (l.length : Int) := by omega
  have hw1 : w.heap.size < w1.heap.size := B1.lt
  go_wp2_with fail
  clear c0 c1 c2 c3 c4 hc1
  generalize hbr : w1.heap.size = br
  refine wp_gen (fun w2 => IsQ w2 q (.slice (some ⟨g, 0, none⟩) l.length cap) (bump 0 l) ∧ Blk w2 w.heap.size 40 [.int .i64 0, .int .u64 0, .int .i64 0, .int .i64 0] ∧ Blk w2 br 40 [.int .i64 x.id, .int .u64 x.blob, .int .i64 x.vol, .int .i64 x.at_] ∧ Mod (QFp q (.slice (some ⟨g, 0, none⟩) l.length cap)) w w2)
    ⟨HQ1.out.below (by (repeat' (first | (with_reducible assumption) | (with_reducible exact Below.refl _ _) | (with_reducible refine below_drewN ?_ _) | (with_reducible refine Below.drew ?_) | ((with_reducible refine below_alloc' ?_ ?_ _); rotate_left; (first | exact Nat.le_refl _ | assumption | omega)) | ((with_reducible refine Below.alloc ?_ ?_ _); rotate_left; (first | omega | (simp <;> omega))) | ((with_reducible refine Below.setCell ?_ ?_ _); rotate_left; (first | omega | (simp <;> omega)))))), by (repeat' (first | (with_reducible assumption) | (with_reducible apply Blk.drewN) | (with_reducible apply Blk.drew) | ((with_reducible apply Blk.new'); (first | rfl | (simp <;> omega))) | (with_reducible apply Blk.set') | (with_reducible apply Blk.ne) | (with_reducible apply Blk.alloc) | rfl | omega | (simp <;> omega))), by (subst hbr; (repeat' (first | (with_reducible assumption) | (with_reducible apply Blk.drewN) | (with_reducible apply Blk.drew) | ((with_reducible apply Blk.new'); (first | rfl | (simp <;> omega))) | (with_reducible apply Blk.set') | (with_reducible apply Blk.ne) | (with_reducible apply Blk.alloc) | rfl | omega | (simp <;> omega)))), M1.alloc _⟩ ?_
  have hbr1 : w.heap.size < br := by omega
  clear hbr hw1 M1 B1 HQ1
  rintro w2 ⟨Q2, B2, R2, M2⟩
  go_loopw [31] (fun iv wr => ∃ k : Nat, k ≤ i ∧ iv = .int .i64 k ∧ IsQ wr q (.slice (some ⟨g, 0, none⟩) l.length cap) (bump k l) ∧ Blk wr w.heap.size 40 [.int .i64 0, .int .u64 0, .int .i64 0, .int .i64 0] ∧ Blk wr br 40 [.int .i64 x.id, .int .u64 x.blob, .int .i64 x.vol, .int .i64 x.at_] ∧ Mod (QFp q (.slice (some ⟨g, 0, none⟩) l.length cap)) w wr) (fun iv _ => i - (intOf iv).toNat)
  case atStart => exact ⟨0, Nat.zero_le _, rfl, Q2, B2, R2, M2⟩
  case round =>
    clear Q2 B2 R2 M2
    obtain ⟨k, hk, rfl, Qr, Br, Rr, Mr⟩ := hrel
    by_cases hlt : k < i
    · have hkl : k < (bump k l).length := by rw [bump_len]; omega
      obtain ⟨g', cap', hsv', hgs', c0, c1, c2, c3, c4⟩ := Qr.five (Below.refl _ _) k hkl
      simp only [Value.slice.injEq, Option.some.injEq, Addr.mk.injEq, and_true] at hsv'
      obtain ⟨hg1, _, hg2⟩ := hsv'
      subst hg1 hg2
      have hbk : (bump k l)[k] = l[k]'(by omega) := by
        have := bump_get k l k (Nat.le_refl _)
        rw [List.getElem?_eq_getElem hkl, List.getElem?_eq_getElem (by omega)] at this
        exact Option.some.inj this
      rw [hbk] at c4
      have hpb := HP.out l[k] (List.getElem_mem _)
      obtain ⟨hpb1, hpb2⟩ := hpb
      obtain ⟨y, hy⟩ : ∃ y, l[k] = y := ⟨_, rfl⟩
      rw [hy] at c4 hpb1 hpb2
      have HY := hid hy
      have HBK := hid hbk
      have hq1 := Qr.blk.cell 0 rfl
      have hfz : wr.frozen? ⟨g, k * 5 + 4, none⟩ = false := by have := own_frozen (g := g) (cap := cap) (by have := Qr.row; rw [bump_len] at this; exact this) (k * 5 + 4); exact this
      have hk0 : (0 : Int) ≤ (k : Int) := by omega
      have hk1 : (k : Int) < (l.length : Int) := by omega
      clear c0 c1 c2 c3 hy hbk
      have HQr := hid Qr
      clear Qr
      go_wp2_with fail
      go_roundw
      case rel =>
        have hkl2 : k < l.length := by omega
        have := HQr.out.bumped hkl2 hqg
        rw [HY.out] at this
        exact ⟨k + 1, by omega, by go_num, this, by (repeat' (first | (with_reducible assumption) | (with_reducible apply Blk.drewN) | (with_reducible apply Blk.drew) | ((with_reducible apply Blk.new'); (first | rfl | (simp <;> omega))) | (with_reducible apply Blk.set') | (with_reducible apply Blk.ne) | (with_reducible apply Blk.alloc) | rfl | omega | (simp <;> omega))), by (repeat' (first | (with_reducible assumption) | (with_reducible apply Blk.drewN) | (with_reducible apply Blk.drew) | ((with_reducible apply Blk.new'); (first | rfl | (simp <;> omega))) | (with_reducible apply Blk.set') | (with_reducible apply Blk.ne) | (with_reducible apply Blk.alloc) | rfl | omega | (simp <;> omega))), Mr.setCell (p := ⟨g, k * 5 + 4, none⟩) (fun _ => Or.inr rfl) _⟩
      case measure => (simp [intOf] <;> omega)
    · obtain rfl : k = i := by omega
      have hib : k < (bump k l).length := by rw [bump_len]; omega
      go_wp2_with fail
      refine (remove_any _ _ _ _ k Qr hib).mono ?_; rintro e w3 ⟨rfl, sv3, Q3, M3, V3⟩
      have nb : ∀ b, q < b → g ≠ b → ¬ QFp q (.slice (some ⟨g, 0, none⟩) l.length cap) b := by
        intro b h1 h2 h3
        rcases h3 with h3 | h3
        · omega
        · simp [Value.ownBlock] at h3; omega
      have B3 := Br.mod M3 (nb _ hq (by omega))
      have R3 := Rr.mod M3 (nb _ (by omega) (by omega))
      have M4 := Mr.trans M3 (fun _ _ h => h)
      have V4 : Moved w (.slice (some ⟨g, 0, none⟩) l.length cap) sv3 := (Moved.refl w _).trans V3 Mr.size
      have Q4 : ∀ u1 u2 u3 u4, IsQ ((((w3.setCell ⟨w.heap.size, 0, none⟩ u1).setCell ⟨w.heap.size, 1, none⟩ u2).setCell ⟨w.heap.size, 2, none⟩ u3).setCell ⟨w.heap.size, 3, none⟩ u4) q sv3 ((bump k l).eraseIdx k) := by
        intro u1 u2 u3 u4
        have hnb : sv3.ownBlock ≠ some w.heap.size := by
          intro h
          rcases V3 _ h with h1 | h1
          · simp [Value.ownBlock] at h1; omega
          · have := Br.lt; omega
        refine ⟨(((Q3.blk.ne (by simp; omega) _).ne (by simp; omega) _).ne (by simp; omega) _).ne (by simp; omega) _, own_setCell (own_setCell (own_setCell (own_setCell Q3.row hnb _) hnb _) hnb _) hnb _, Q3.small⟩
      have HQ4 := hid Q4
      have r0 := R3.cell 0 rfl
      have r1 := R3.cell 1 rfl
      have r2 := R3.cell 2 rfl
      have r3 := R3.cell 3 rfl
      have s0 := B3.cell 0 rfl
      have s1 := B3.cell 1 rfl
      have s2 := B3.cell 2 rfl
      have s3 := B3.cell 3 rfl
      have z0 := B3.frozen 0
      have z1 := B3.frozen 1
      have z2 := B3.frozen 2
      have z3 := B3.frozen 3
      have hw3 := B3.lt
      clear Q4 Q3 Qr
      go_wp2_with fail
      refine bodyPost_ret (v := .tuple #[.agg #[.int .i64 x.id, .int .u64 x.blob, .int .i64 x.vol, .int .i64 x.at_], .bool true]) (by simp [results, Tryz.results13, go_sem, s0, s1, s2, s3]) rfl ⟨rfl, sv3, HQ4.out _ _ _ _, ?_, V4⟩
      have nlt : ∀ p : Addr, p.block = w.heap.size → p.block < w.heap.size → QFp q (.slice (some ⟨g, 0, none⟩) l.length cap) p.block := fun p h1 h2 => by omega
      exact (((M4.setCell (nlt _ rfl) _).setCell (nlt _ rfl) _).setCell (nlt _ rfl) _).setCell (nlt _ rfl) _
end Go.Proofs.YtekioplbfoonkaaGreatDoor
namespace Go.Proofs.YtekioplbfoonkaaGreatDoor
open Go.RowKit
set_option linter.unusedVariables false
set_option maxRecDepth 100000
set_option maxHeartbeats 1000000 in
theorem Moved.ne {w : World} {sv sv' : Value} (V : Moved w sv sv') {b : Nat} (hlt : b < w.heap.size) (hne : sv.ownBlock ≠ some b) : sv'.ownBlock ≠ some b := fun h => by
  rcases V b h with h1 | h1
  · exact hne h1
  · omega
theorem IsQ.new {w : World} {q : Nat} {sv : Value} {l : List Wt} (h : IsQ w q sv l) {b : Nat} (hb : w.heap.size ≤ b) : sv.ownBlock ≠ some b := fun e => by have := h.row.lt b e; omega
theorem Blk.q {w w' : World} {q : Nat} {sv : Value} {b : Nat} {T : TypeId} {cs : List Value} (h : Blk w b T cs) (hm : Mod (QFp q sv) w w') (h1 : q ≠ b) (h2 : sv.ownBlock ≠ some b) : Blk w' b T cs :=
  h.mod hm (fun hx => by rcases hx with hx | hx; exact h1 hx.symm; exact h2 hx)
theorem IsQ.zero (w : World) : IsQ (w.alloc (.cells #[.slice none 0 0] 29)) w.heap.size (.slice none 0 0) [] := ⟨Blk.new w _ _, World.ownsRow_nil _ _ _ _, by simp⟩
theorem belowQ {B : Nat} {w0 w w' : World} {q : Nat} {sv : Value} {l : List Wt} (h0 : Below B w0 w) (h : IsQ w q sv l) (hm : Mod (QFp q sv) w w') (hB : B ≤ q) (hB2 : B ≤ w0.heap.size) : Below B w0 w' :=
  Mod.thenMod h0 hm (fun k _ hk => Nat.le_trans hB (h.fp k hk)) hB2

end Go.Proofs.YtekioplbfoonkaaGreatDoor
namespace Go.Proofs.YtekioplbfoonkaaGreatDoor
open Go.RowKit
set_option linter.unusedVariables false
set_option maxRecDepth 100000

theorem lowF_spec (vol f : Int) (b : Bool) (l : List Wt) : ∀ (r : List Wt) (k : Nat) (best ba : Int), l.drop k = r → k ≤ l.length →
    (best = -1 ∧ (∀ y ∈ l.take k, skipB vol f b y = true) ∨ ∃ (i : Nat) (x : Wt), best = i ∧ l[i]? = some x ∧ i < k ∧ x.at_ = ba ∧ skipB vol f b x = false ∧ ∀ y ∈ l.take k, skipB vol f b y = false → x.at_ ≤ y.at_) →
    (lowF vol f b r k best ba = -1 ∧ (∀ y ∈ l, skipB vol f b y = true)) ∨ ∃ (i : Nat) (x : Wt), lowF vol f b r k best ba = i ∧ l[i]? = some x ∧ skipB vol f b x = false ∧ ∀ y ∈ l, skipB vol f b y = false → x.at_ ≤ y.at_ := by
  intro r
  induction r with
  | nil =>
    intro k best ba hd hk h
    have hkl : l.length ≤ k := by have := congrArg List.length hd; simp at this; omega
    rw [List.take_of_length_le hkl] at h
    rw [lowF]
    rcases h with h | ⟨i, x, h1, h2, h3, h4, h5, h6⟩
    · exact Or.inl h
    · exact Or.inr ⟨i, x, h1, h2, h5, h6⟩
  | cons x r ih =>
    intro k best ba hd hk h
    have hlt : k < l.length := by
      have := congrArg List.length hd
      simp at this; omega
    have hx : l[k] = x ∧ l.drop (k + 1) = r := by
      rw [List.drop_eq_getElem_cons hlt] at hd
      exact List.cons.inj hd
    have htake : l.take (k + 1) = l.take k ++ [x] := by rw [List.take_succ_eq_append_getElem hlt, hx.1]
    rw [lowF]
    by_cases hs : skipB vol f b x = true
    · rw [if_pos hs]
      refine ih (k + 1) best ba hx.2 (by omega) ?_
      rw [htake]
      rcases h with ⟨h1, h2⟩ | ⟨i, z, h1, h2, h3, h4, h5, h6⟩
      · refine Or.inl ⟨h1, fun y hy => ?_⟩
        rcases List.mem_append.1 hy with hy | hy
        · exact h2 y hy
        · simp at hy; subst hy; exact hs
      · refine Or.inr ⟨i, z, h1, h2, by omega, h4, h5, fun y hy hsy => ?_⟩
        rcases List.mem_append.1 hy with hy | hy
        · exact h6 y hy hsy
        · simp at hy; subst hy; rw [hs] at hsy; cases hsy
    · have hs' : skipB vol f b x = false := by simpa using hs
      rw [if_neg hs]
      by_cases hc : best < 0 ∨ x.at_ < ba
      · rw [if_pos hc]
        refine ih (k + 1) k x.at_ hx.2 (by omega) (Or.inr ⟨k, x, rfl, by rw [List.getElem?_eq_getElem hlt, hx.1], by omega, rfl, hs', fun y hy hsy => ?_⟩)
        rw [htake] at hy
        rcases List.mem_append.1 hy with hy | hy
        · rcases h with ⟨h1, h2⟩ | ⟨i, z, h1, h2, h3, h4, h5, h6⟩
          · rw [h2 y hy] at hsy; cases hsy
          · have := h6 y hy hsy; omega
        · simp at hy; subst hy; exact Int.le_refl _
      · rw [if_neg hc]
        refine ih (k + 1) best ba hx.2 (by omega) ?_
        rcases h with ⟨h1, h2⟩ | ⟨i, z, h1, h2, h3, h4, h5, h6⟩
        · omega
        · refine Or.inr ⟨i, z, h1, h2, by omega, h4, h5, fun y hy hsy => ?_⟩
          rw [htake] at hy
          rcases List.mem_append.1 hy with hy | hy
          · exact h6 y hy hsy
          · simp at hy; subst hy; omega
theorem lowF_low (vol f : Int) (b : Bool) (l : List Wt) :
    (lowF vol f b l 0 (-1) 0 = -1 ∧ (∀ y ∈ l, skipB vol f b y = true)) ∨ ∃ (i : Nat) (x : Wt), lowF vol f b l 0 (-1) 0 = i ∧ l[i]? = some x ∧ skipB vol f b x = false ∧ ∀ y ∈ l, skipB vol f b y = false → x.at_ ≤ y.at_ :=
  lowF_spec vol f b l l 0 (-1) 0 rfl (Nat.zero_le _) (Or.inl ⟨rfl, by simp⟩)

/-- whatever Next leaves was there, and was passed over once more at most. -/
theorem mem_bump : ∀ (n : Nat) (l : List Wt) (y : Wt), y ∈ bump n l → ∃ z ∈ l, y.id = z.id ∧ y.blob = z.blob ∧ y.vol = z.vol ∧ y.at_ = z.at_ ∧ z.passed ≤ y.passed ∧ y.passed ≤ z.passed + 1
  | 0, l, y, h => ⟨y, by simpa [bump] using h, rfl, rfl, rfl, rfl, by omega, by omega⟩
  | _ + 1, [], y, h => by simp [bump] at h
  | n + 1, x :: r, y, h => by
    rw [bump] at h
    rcases List.mem_cons.1 h with rfl | h
    · exact ⟨x, by simp, rfl, rfl, rfl, rfl, by simp [up]; omega, by simp [up]⟩
    · obtain ⟨z, hz, h'⟩ := mem_bump n r y h
      exact ⟨z, by simp [hz], h'⟩
theorem mem_left {i : Nat} {l : List Wt} {y : Wt} (h : y ∈ (bump i l).eraseIdx i) : ∃ z ∈ l, y.id = z.id ∧ y.blob = z.blob ∧ y.vol = z.vol ∧ y.at_ = z.at_ ∧ z.passed ≤ y.passed ∧ y.passed ≤ z.passed + 1 :=
  mem_bump i l y (List.mem_of_mem_eraseIdx h)
theorem left_len {i : Nat} {l : List Wt} (h : i < l.length) : ((bump i l).eraseIdx i).length = l.length - 1 := by
  rw [List.length_eraseIdx_of_lt (by rw [bump_len]; exact h), bump_len]

/-- THE SWEEP: all requests are for one volume, none was passed over eight times: what is chosen stands from the place on and is the lowest there, or none does, and it is the lowest of all. -/
theorem sweep_choice (x0 : Wt) (r : List Wt) (v at_ : Int) (hv : v ≠ -1) (hall : ∀ y ∈ x0 :: r, y.vol = v) (hp : x0.passed < 8) :
    ∃ (i : Nat) (x : Wt), chooseF x0 (x0 :: r) v at_ = i ∧ (x0 :: r)[i]? = some x ∧
      ((at_ ≤ x.at_ ∧ ∀ y ∈ x0 :: r, at_ ≤ y.at_ → x.at_ ≤ y.at_) ∨ ((∀ y ∈ x0 :: r, y.at_ < at_) ∧ ∀ y ∈ x0 :: r, x.at_ ≤ y.at_)) := by
  have sk : ∀ y ∈ x0 :: r, ∀ f b, skipB v f b y = false ↔ (b = true → f ≤ y.at_) := by
    intro y hy f b
    simp [skipB, hall y hy]
  unfold chooseF
  rw [if_neg (by omega)]
  rcases lowF_low v at_ true (x0 :: r) with ⟨h1, h2⟩ | ⟨i, x, h1, h2, h3, h4⟩
  · rw [h1, if_neg (by omega)]
    have hlow : ∀ y ∈ x0 :: r, y.at_ < at_ := by
      intro y hy
      have := h2 y hy
      by_cases hh : at_ ≤ y.at_
      · have := (sk y hy at_ true).2 (fun _ => hh); simp_all
      · omega
    rcases lowF_low v 0 false (x0 :: r) with ⟨g1, g2⟩ | ⟨i, x, g1, g2, g3, g4⟩
    · have := g2 x0 (by simp)
      have := (sk x0 (by simp) 0 false).2 (by simp)
      simp_all
    · rw [g1, if_pos ⟨hv, by omega⟩]
      exact ⟨i, x, rfl, g2, Or.inr ⟨hlow, fun y hy => g4 y hy ((sk y hy 0 false).2 (by simp))⟩⟩
  · rw [h1, if_pos ⟨hv, by omega⟩]
    have hx : x ∈ x0 :: r := List.mem_of_getElem? h2
    exact ⟨i, x, rfl, h2, Or.inl ⟨(sk x hx at_ true).1 h3 rfl, fun y hy hh => h4 y hy ((sk y hy at_ true).2 (fun _ => hh))⟩⟩
end Go.Proofs.YtekioplbfoonkaaGreatDoor
namespace Go.Proofs.YtekioplbfoonkaaGreatDoor
set_option linter.unusedVariables false
set_option maxRecDepth 100000

def Falls (l : List Wt) : Prop := l.Pairwise (fun a b => b.passed ≤ a.passed)
theorem bump_falls : ∀ (n : Nat) (l : List Wt), Falls l → Falls (bump n l)
  | 0, l, h => by simpa [bump] using h
  | _ + 1, [], h => by simp [bump, Falls]
  | n + 1, x :: r, h => by
    unfold Falls at *
    rw [bump]
    rw [List.pairwise_cons] at h ⊢
    refine ⟨fun y hy => ?_, bump_falls n r h.2⟩
    obtain ⟨z, hz, _, _, _, _, _, h2⟩ := mem_bump n r y hy
    have := h.1 z hz
    simp only [up]; omega
theorem left_falls {i : Nat} {l : List Wt} (h : Falls l) : Falls ((bump i l).eraseIdx i) := List.Pairwise.sublist (List.eraseIdx_sublist _ _) (bump_falls i l h)
theorem bump_get2 : ∀ (n : Nat) (l : List Wt) (k : Nat), k < n → (bump n l)[k]? = (l[k]?).map up
  | n + 1, [], k, _ => by simp [bump]
  | n + 1, x :: r, 0, _ => by simp [bump]
  | n + 1, x :: r, k + 1, h => by simp [bump, bump_get2 n r k (by omega)]
theorem left_get {i : Nat} {l : List Wt} (k : Nat) : ((bump i l).eraseIdx i)[k]? = if k < i then (l[k]?).map up else l[k + 1]? := by
  rw [List.getElem?_eraseIdx]
  split
  · rename_i h; exact bump_get2 i l k h
  · rename_i h; exact bump_get i l (k + 1) (by omega)

/-- what holds between the Nexts: mine stands at place p; nobody was passed over more than eight times, and a younger one never more often than an elder one. -/
structure Fair (l : List Wt) (p : Nat) : Prop where
  mine : ∃ m, l[p]? = some m ∧ m.id = 1000
  lo : ∀ y ∈ l, 0 ≤ y.passed
  hi : ∀ y ∈ l, y.passed ≤ 8
  falls : Falls l
def meas (l : List Wt) (p : Nat) : Int := 9 * p + 8 - (match l[0]? with | some h => h.passed | none => 0)
theorem meas_nn {l : List Wt} {p : Nat} (h : Fair l p) : 0 ≤ meas l p := by
  unfold meas
  cases hh : l[0]? with
  | none => simp; omega
  | some y => have := h.hi y (List.mem_of_getElem? hh); simp only; omega
theorem Fair.add {l : List Wt} {p : Nat} (h : Fair l p) (x : Wt) (hx : x.passed = 0) : Fair (l ++ [x]) p ∧ meas (l ++ [x]) p = meas l p := by
  obtain ⟨m, hm, hid⟩ := h.mine
  have hp : p < l.length := (List.getElem?_eq_some_iff.1 hm).1
  refine ⟨⟨⟨m, by rw [List.getElem?_append_left hp]; exact hm, hid⟩, fun y hy => ?_, fun y hy => ?_, ?_⟩, ?_⟩
  · rcases List.mem_append.1 hy with hy | hy
    · exact h.lo y hy
    · simp at hy; subst hy; omega
  · rcases List.mem_append.1 hy with hy | hy
    · exact h.hi y hy
    · simp at hy; subst hy; omega
  · unfold Falls
    rw [List.pairwise_append]
    exact ⟨h.falls, by simp, fun a ha b hb => by simp at hb; subst hb; have := h.lo a ha; omega⟩
  · unfold meas
    rw [List.getElem?_append_left (by omega)]
theorem Fair.step {x0 : Wt} {r : List Wt} {p i : Nat} {x : Wt} {vol at_ : Int} (h : Fair (x0 :: r) p) (hch : chooseF x0 (x0 :: r) vol at_ = i) (hx : (x0 :: r)[i]? = some x) (hne : x.id ≠ 1000) :
    ∃ p', Fair ((bump i (x0 :: r)).eraseIdx i) p' ∧ meas ((bump i (x0 :: r)).eraseIdx i) p' < meas (x0 :: r) p := by
  obtain ⟨m, hm, hid⟩ := h.mine
  have h0 := h.lo x0 (by simp)
  have h8 := h.hi x0 (by simp)
  have hip : i ≠ p := fun e => by subst e; rw [hm] at hx; cases hx; exact hne hid
  have hhd : 0 < i → x0.passed < 8 := by
    intro hi0
    by_cases h9 : 8 ≤ x0.passed
    · unfold chooseF at hch; rw [if_pos h9] at hch; omega
    · omega
  have hmax : ∀ y ∈ x0 :: r, y.passed ≤ x0.passed := by
    intro y hy
    rcases List.mem_cons.1 hy with rfl | hy
    · exact Int.le_refl _
    · exact (List.pairwise_cons.1 h.falls).1 y hy
  have hlo : ∀ y ∈ (bump i (x0 :: r)).eraseIdx i, 0 ≤ y.passed := by
    intro y hy
    obtain ⟨z, hz, _, _, _, _, h1, _⟩ := mem_left hy
    have := h.lo z hz; omega
  have hhi : ∀ y ∈ (bump i (x0 :: r)).eraseIdx i, y.passed ≤ 8 := by
    intro y hy
    by_cases hi0 : i = 0
    · subst hi0
      have hy' : y ∈ x0 :: r := by have := List.mem_of_mem_eraseIdx hy; simpa [bump] using this
      exact h.hi y hy'
    · obtain ⟨z, hz, _, _, _, _, _, h2⟩ := mem_left hy
      have := hmax z hz; have := hhd (by omega); omega
  have hmeas : meas (x0 :: r) p = 9 * p + 8 - x0.passed := by simp [meas]
  rw [hmeas]
  by_cases hlt : i < p
  · obtain ⟨p', rfl⟩ : ∃ p', p = p' + 1 := ⟨p - 1, by omega⟩
    refine ⟨p', ⟨⟨m, by rw [left_get, if_neg (by omega)]; exact hm, hid⟩, hlo, hhi, left_falls h.falls⟩, ?_⟩
    unfold meas
    cases hh : ((bump i (x0 :: r)).eraseIdx i)[0]? with
    | none => simp only; omega
    | some y => have := hlo y (List.mem_of_getElem? hh); simp only; omega
  · have hgt : p < i := by omega
    refine ⟨p, ⟨⟨up m, by rw [left_get, if_pos hgt, hm]; rfl, hid⟩, hlo, hhi, left_falls h.falls⟩, ?_⟩
    unfold meas
    rw [left_get, if_pos (by omega)]
    show 9 * (p : Int) + 8 - (x0.passed + 1) < 9 * (p : Int) + 8 - x0.passed; omega
/-- at the beginning: the elders, then mine. -/
theorem fair_start (l : List Wt) (m : Wt) (h : ∀ y ∈ l, y.passed = 0) (hm : m.passed = 0) (hid : m.id = 1000) : Fair (l ++ [m]) l.length ∧ meas (l ++ [m]) l.length = 9 * l.length + 8 := by
  have h0 : ∀ y ∈ l ++ [m], y.passed = 0 := by
    intro y hy
    rcases List.mem_append.1 hy with hy | hy
    · exact h y hy
    · simp at hy; subst hy; exact hm
  refine ⟨⟨⟨m, by simp, hid⟩, fun y hy => by rw [h0 y hy]; omega, fun y hy => by rw [h0 y hy]; omega, ?_⟩, ?_⟩
  · unfold Falls
    exact List.pairwise_of_forall_mem_list (fun a ha b hb => by rw [h0 a ha, h0 b hb]; omega)
  · unfold meas
    cases hh : (l ++ [m])[0]? with
    | none => simp at hh
    | some y =>
      show 9 * (l.length : Int) + 8 - y.passed = 9 * (l.length : Int) + 8
      rw [h0 y (List.mem_of_getElem? hh)]; omega
end Go.Proofs.YtekioplbfoonkaaGreatDoor
