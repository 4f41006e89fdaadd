/- small, awake of layer 16's laws. -/
import Derived.Test.YtecdcainkemicaaQueue4
namespace Go.Proofs.Ytecdcainkemicaa
open Go.RowKit
set_option linter.unusedVariables false
set_option maxHeartbeats 1000000 in
theorem small_any (w : World) (id blob vol at_ : Int) {V A : Int} (hV : min (max vol 0) 11 = V) (hA : min (max at_ 0) 1000000000 = A) :
    Calls Try.prog 8 #[.agg #[.int .i64 id, .int .u64 blob, .int .i64 vol, .int .i64 at_]] w (RetB (.agg #[.int .i64 id, .int .u64 blob, .int .i64 V, .int .i64 A]) w.heap.size w) := by
  have HV := hid hV
  have HA := hid hA
  clear hV hA
  by_cases a1 : vol < 0 <;> by_cases a2 : 11 < vol <;> by_cases b1 : at_ < 0 <;> by_cases b2 : 1000000000 < at_
  all_goals first | (exfalso; omega) | skip
  all_goals
    go_enter Try.func8, Try.ntmps8
    go_wp2_with fail
    have h1 := HV.out
    have h2 := HA.out
    refine bodyPost_ret (v := .agg #[.int .i64 id, .int .u64 blob, .int .i64 V, .int .i64 A]) (by simp [results, Try.results8, go_sem]; omega) rfl ⟨rfl, by (repeat' (first | (with_reducible assumption) | (with_reducible exact Below.refl _ _) | (with_reducible refine below_drewN ?_ _) | (with_reducible refine Below.drew ?_) | ((with_reducible refine below_alloc' ?_ ?_ _); rotate_left; (first | exact Nat.le_refl _ | assumption | omega)) | ((with_reducible refine Below.alloc ?_ ?_ _); rotate_left; (first | omega | (simp <;> omega))) | ((with_reducible refine Below.setCell ?_ ?_ _); rotate_left; (first | omega | (simp <;> omega)))))⟩

theorem Moved.ne {w : World} {sv sv' : Value} (V : Moved w sv sv') {b : Nat} (hlt : b < w.heap.size) (hne : sv.ownBlock ≠ some b) : sv'.ownBlock ≠ some b := fun h => by
  rcases V b h with h1 | h1
  · exact hne h1
  · omega
theorem IsQ.new {w : World} {q : Nat} {sv : Value} {l : List Wt} (h : IsQ w q sv l) {b : Nat} (hb : w.heap.size ≤ b) : sv.ownBlock ≠ some b := fun e => by have := h.row.lt b e; omega
theorem Blk.q {w w' : World} {q : Nat} {sv : Value} {b : Nat} {T : TypeId} {cs : List Value} (h : Blk w b T cs) (hm : Mod (QFp q sv) w w') (h1 : q ≠ b) (h2 : sv.ownBlock ≠ some b) : Blk w' b T cs :=
  h.mod hm (fun hx => by rcases hx with hx | hx; exact h1 hx.symm; exact h2 hx)
theorem IsQ.zero (w : World) : IsQ (w.alloc (.cells #[.slice none 0 0] 30)) w.heap.size (.slice none 0 0) [] := ⟨Blk.new w _ _, World.ownsRow_nil _ _ _ _, by simp⟩
theorem belowQ {B : Nat} {w0 w w' : World} {q : Nat} {sv : Value} {l : List Wt} (h0 : Below B w0 w) (h : IsQ w q sv l) (hm : Mod (QFp q sv) w w') (hB : B ≤ q) (hB2 : B ≤ w0.heap.size) : Below B w0 w' :=
  Mod.thenMod h0 hm (fun k _ hk => Nat.le_trans hB (h.fp k hk)) hB2

set_option maxHeartbeats 2000000 in
theorem awake_any (w : World) : Calls Try.prog 7 #[] w (RetB (.bool true) w.heap.size w) := by
  go_enter Try.func7, Try.ntmps7
  go_wp2_with fail
  refine calls_gen (fun w1 => IsQ w1 w.heap.size (.slice none 0 0) [] ∧ Below w.heap.size w w1) ⟨IsQ.zero w, by (repeat' (first | (with_reducible assumption) | (with_reducible exact Below.refl _ _) | (with_reducible refine below_drewN ?_ _) | (with_reducible refine Below.drew ?_) | ((with_reducible refine below_alloc' ?_ ?_ _); rotate_left; (first | exact Nat.le_refl _ | assumption | omega)) | ((with_reducible refine Below.alloc ?_ ?_ _); rotate_left; (first | omega | (simp <;> omega))) | ((with_reducible refine Below.setCell ?_ ?_ _); rotate_left; (first | omega | (simp <;> omega)))))⟩ ?_
  obtain ⟨q, hq⟩ : ∃ q, w.heap.size = q := ⟨_, rfl⟩
  rw [hq]
  have hq' : q ≤ w.heap.size := by omega
  have hq2 : w.heap.size ≤ q := by omega
  clear hq
  rintro w1 ⟨Q1, L1⟩
  refine (add_yes _ _ _ [] 1 0 1 5 Q1 (by decide) (by decide)).mono ?_; rintro e w2 ⟨rfl, sv2, Q2, M2, V2⟩
  have L2 := belowQ L1 Q1 M2 (Nat.le_refl _) hq'
  replace Q2 : IsQ w2 q sv2 [⟨1, 0, 1, 5, 0⟩] := Q2
  clear M2 V2
  go_wp2_with fail
  refine (add_yes _ _ _ [⟨1, 0, 1, 5, 0⟩] 2 0 0 9 Q2 (by decide) (by decide)).mono ?_; rintro e w3 ⟨rfl, sv3, Q3, M3, V3⟩
  have L3 := belowQ L2 Q2 M3 (Nat.le_refl _) hq'
  replace Q3 : IsQ w3 q sv3 [⟨1, 0, 1, 5, 0⟩, ⟨2, 0, 0, 9, 0⟩] := Q3
  clear M3 V3
  go_wp2_with fail
  refine (add_no _ _ _ [⟨1, 0, 1, 5, 0⟩, ⟨2, 0, 0, 9, 0⟩] 2 0 3 9 Q3 (by decide)).mono ?_; rintro e w4 ⟨rfl, N4⟩
  have L4 := L3.trans (N4.mono (Nat.le_trans hq' L3.size))
  have Q4 := Q3.below N4
  go_wp2_with fail
  refine (add_yes _ _ _ [⟨1, 0, 1, 5, 0⟩, ⟨2, 0, 0, 9, 0⟩] 3 0 0 2 Q4 (by decide) (by decide)).mono ?_; rintro e w5 ⟨rfl, sv5, Q5, M5, V5⟩
  have L5 := belowQ L4 Q4 M5 (Nat.le_refl _) hq'
  replace Q5 : IsQ w5 q sv5 [⟨1, 0, 1, 5, 0⟩, ⟨2, 0, 0, 9, 0⟩, ⟨3, 0, 0, 2, 0⟩] := Q5
  clear M5 V5
  go_wp2_with fail
  refine (next_some _ _ _ ⟨1, 0, 1, 5, 0⟩ [⟨2, 0, 0, 9, 0⟩, ⟨3, 0, 0, 2, 0⟩] 0 4 1 ⟨2, 0, 0, 9, 0⟩ Q5 (by decide) rfl (by decide)).mono ?_; rintro e w6 ⟨rfl, sv6, Q6, M6, V6⟩
  have L6 := belowQ L5 Q5 M6 (Nat.le_refl _) hq'
  replace Q6 : IsQ w6 q sv6 [⟨1, 0, 1, 5, 1⟩, ⟨3, 0, 0, 2, 0⟩] := Q6
  clear M6 V6
  go_wp2_with fail
  obtain ⟨bA, hbA⟩ : ∃ b, w6.heap.size = b := ⟨_, rfl⟩
  have hA : q ≠ bA := by have := Q6.blk.lt; omega
  refine calls_gen (fun w1 => IsQ w1 q sv6 [⟨1, 0, 1, 5, 1⟩, ⟨3, 0, 0, 2, 0⟩] ∧ Blk w1 bA 25 [.int .i64 2, .int .u64 0, .int .i64 0, .int .i64 9] ∧ Below q w w1) ⟨Q6.below (by (repeat' (first | (with_reducible assumption) | (with_reducible exact Below.refl _ _) | (with_reducible refine below_drewN ?_ _) | (with_reducible refine Below.drew ?_) | ((with_reducible refine below_alloc' ?_ ?_ _); rotate_left; (first | exact Nat.le_refl _ | assumption | omega)) | ((with_reducible refine Below.alloc ?_ ?_ _); rotate_left; (first | omega | (simp <;> omega))) | ((with_reducible refine Below.setCell ?_ ?_ _); rotate_left; (first | omega | (simp <;> omega)))))), by (subst hbA; (repeat' (first | (with_reducible assumption) | (with_reducible apply Blk.drewN) | (with_reducible apply Blk.drew) | ((with_reducible apply Blk.new'); (first | rfl | (simp <;> omega))) | (with_reducible apply Blk.set') | (with_reducible apply Blk.ne) | (with_reducible apply Blk.alloc) | rfl | omega | (simp <;> omega)))), by (repeat' (first | (with_reducible assumption) | (with_reducible exact Below.refl _ _) | (with_reducible refine below_drewN ?_ _) | (with_reducible refine Below.drew ?_) | ((with_reducible refine below_alloc' ?_ ?_ _); rotate_left; (first | exact Nat.le_refl _ | assumption | omega)) | ((with_reducible refine Below.alloc ?_ ?_ _); rotate_left; (first | omega | (simp <;> omega))) | ((with_reducible refine Below.setCell ?_ ?_ _); rotate_left; (first | omega | (simp <;> omega)))))⟩ ?_
  rw [hbA]
  have NA7 : sv6.ownBlock ≠ some bA := Q6.new (by omega)
  clear hbA
  rintro w7 ⟨Q7, A7, L7⟩
  refine (next_some _ _ _ ⟨1, 0, 1, 5, 1⟩ [⟨3, 0, 0, 2, 0⟩] 0 9 1 ⟨3, 0, 0, 2, 0⟩ Q7 (by decide) rfl (by decide)).mono ?_; rintro e w8 ⟨rfl, sv8, Q8, M8, V8⟩
  have L8 := belowQ L7 Q7 M8 (Nat.le_refl _) hq'
  replace Q8 : IsQ w8 q sv8 [⟨1, 0, 1, 5, 2⟩] := Q8
  have NA8 := V8.ne A7.lt NA7
  have A8 := A7.q M8 hA NA7
  clear M8 V8
  go_wp2_with fail
  obtain ⟨bB, hbB⟩ : ∃ b, w8.heap.size = b := ⟨_, rfl⟩
  have hB : q ≠ bB := by have := Q8.blk.lt; omega
  refine calls_gen (fun w1 => IsQ w1 q sv8 [⟨1, 0, 1, 5, 2⟩] ∧ Blk w1 bA 25 [.int .i64 2, .int .u64 0, .int .i64 0, .int .i64 9] ∧ Blk w1 bB 25 [.int .i64 3, .int .u64 0, .int .i64 0, .int .i64 2] ∧ Below q w w1) ⟨Q8.below (by (repeat' (first | (with_reducible assumption) | (with_reducible exact Below.refl _ _) | (with_reducible refine below_drewN ?_ _) | (with_reducible refine Below.drew ?_) | ((with_reducible refine below_alloc' ?_ ?_ _); rotate_left; (first | exact Nat.le_refl _ | assumption | omega)) | ((with_reducible refine Below.alloc ?_ ?_ _); rotate_left; (first | omega | (simp <;> omega))) | ((with_reducible refine Below.setCell ?_ ?_ _); rotate_left; (first | omega | (simp <;> omega)))))), by (have := A8.lt; (repeat' (first | (with_reducible assumption) | (with_reducible apply Blk.drewN) | (with_reducible apply Blk.drew) | ((with_reducible apply Blk.new'); (first | rfl | (simp <;> omega))) | (with_reducible apply Blk.set') | (with_reducible apply Blk.ne) | (with_reducible apply Blk.alloc) | rfl | omega | (simp <;> omega)))), by (subst hbB; (repeat' (first | (with_reducible assumption) | (with_reducible apply Blk.drewN) | (with_reducible apply Blk.drew) | ((with_reducible apply Blk.new'); (first | rfl | (simp <;> omega))) | (with_reducible apply Blk.set') | (with_reducible apply Blk.ne) | (with_reducible apply Blk.alloc) | rfl | omega | (simp <;> omega)))), by (repeat' (first | (with_reducible assumption) | (with_reducible exact Below.refl _ _) | (with_reducible refine below_drewN ?_ _) | (with_reducible refine Below.drew ?_) | ((with_reducible refine below_alloc' ?_ ?_ _); rotate_left; (first | exact Nat.le_refl _ | assumption | omega)) | ((with_reducible refine Below.alloc ?_ ?_ _); rotate_left; (first | omega | (simp <;> omega))) | ((with_reducible refine Below.setCell ?_ ?_ _); rotate_left; (first | omega | (simp <;> omega)))))⟩ ?_
  rw [hbB]
  have NB9 : sv8.ownBlock ≠ some bB := Q8.new (by omega)
  have NA9 := NA8
  clear hbB
  rintro w9 ⟨Q9, A9, B9, L9⟩
  refine (next_some _ _ _ ⟨1, 0, 1, 5, 2⟩ [] 0 2 0 ⟨1, 0, 1, 5, 2⟩ Q9 (by decide) rfl (by decide)).mono ?_; rintro e w10 ⟨rfl, sv10, Q10, M10, V10⟩
  have L10 := belowQ L9 Q9 M10 (Nat.le_refl _) hq'
  replace Q10 : IsQ w10 q sv10 [] := Q10
  have NA10 := V10.ne A9.lt NA9
  have A10 := A9.q M10 hA NA9
  have NB10 := V10.ne B9.lt NB9
  have B10 := B9.q M10 hB NB9
  clear M10 V10
  go_wp2_with fail
  obtain ⟨bC, hbC⟩ : ∃ b, w10.heap.size = b := ⟨_, rfl⟩
  have hC : q ≠ bC := by have := Q10.blk.lt; omega
  refine calls_gen (fun w1 => IsQ w1 q sv10 [] ∧ Blk w1 bA 25 [.int .i64 2, .int .u64 0, .int .i64 0, .int .i64 9] ∧ Blk w1 bB 25 [.int .i64 3, .int .u64 0, .int .i64 0, .int .i64 2] ∧ Blk w1 bC 25 [.int .i64 1, .int .u64 0, .int .i64 1, .int .i64 5] ∧ Below q w w1) ⟨Q10.below (by (repeat' (first | (with_reducible assumption) | (with_reducible exact Below.refl _ _) | (with_reducible refine below_drewN ?_ _) | (with_reducible refine Below.drew ?_) | ((with_reducible refine below_alloc' ?_ ?_ _); rotate_left; (first | exact Nat.le_refl _ | assumption | omega)) | ((with_reducible refine Below.alloc ?_ ?_ _); rotate_left; (first | omega | (simp <;> omega))) | ((with_reducible refine Below.setCell ?_ ?_ _); rotate_left; (first | omega | (simp <;> omega)))))), by (have := A10.lt; (repeat' (first | (with_reducible assumption) | (with_reducible apply Blk.drewN) | (with_reducible apply Blk.drew) | ((with_reducible apply Blk.new'); (first | rfl | (simp <;> omega))) | (with_reducible apply Blk.set') | (with_reducible apply Blk.ne) | (with_reducible apply Blk.alloc) | rfl | omega | (simp <;> omega)))), by (have := B10.lt; (repeat' (first | (with_reducible assumption) | (with_reducible apply Blk.drewN) | (with_reducible apply Blk.drew) | ((with_reducible apply Blk.new'); (first | rfl | (simp <;> omega))) | (with_reducible apply Blk.set') | (with_reducible apply Blk.ne) | (with_reducible apply Blk.alloc) | rfl | omega | (simp <;> omega)))), by (subst hbC; (repeat' (first | (with_reducible assumption) | (with_reducible apply Blk.drewN) | (with_reducible apply Blk.drew) | ((with_reducible apply Blk.new'); (first | rfl | (simp <;> omega))) | (with_reducible apply Blk.set') | (with_reducible apply Blk.ne) | (with_reducible apply Blk.alloc) | rfl | omega | (simp <;> omega)))), by (repeat' (first | (with_reducible assumption) | (with_reducible exact Below.refl _ _) | (with_reducible refine below_drewN ?_ _) | (with_reducible refine Below.drew ?_) | ((with_reducible refine below_alloc' ?_ ?_ _); rotate_left; (first | exact Nat.le_refl _ | assumption | omega)) | ((with_reducible refine Below.alloc ?_ ?_ _); rotate_left; (first | omega | (simp <;> omega))) | ((with_reducible refine Below.setCell ?_ ?_ _); rotate_left; (first | omega | (simp <;> omega)))))⟩ ?_
  rw [hbC]
  clear hbC
  rintro w11 ⟨Q11, A11, B11, C11, L11⟩
  refine (next_none _ _ _ 0 2 Q11).mono ?_; rintro e w12 ⟨rfl, L12⟩
  have A12 := (A11.below L12 A11.lt).cell 0 rfl
  have B12 := (B11.below L12 B11.lt).cell 0 rfl
  have C12 := (C11.below L12 C11.lt).cell 0 rfl
  have sA := (A11.below L12 A11.lt).lt
  have sB := (B11.below L12 B11.lt).lt
  have sC := (C11.below L12 C11.lt).lt
  have L13 : Below q w w12 := L11.trans (L12.mono (Nat.le_trans hq' L11.size))
  go_wp2_with fail
  go_ret
  exact ⟨rfl, (show Below q w _ by (repeat' (first | (with_reducible assumption) | (with_reducible exact Below.refl _ _) | (with_reducible refine below_drewN ?_ _) | (with_reducible refine Below.drew ?_) | ((with_reducible refine below_alloc' ?_ ?_ _); rotate_left; (first | exact Nat.le_refl _ | assumption | omega)) | ((with_reducible refine Below.alloc ?_ ?_ _); rotate_left; (first | omega | (simp <;> omega))) | ((with_reducible refine Below.setCell ?_ ?_ _); rotate_left; (first | omega | (simp <;> omega)))))).mono hq2⟩
end Go.Proofs.Ytecdcainkemicaa
