/- awake. -/
import Derived.Test.YtblkkcnllddkoaaWireD
namespace Go.Proofs.Ytblkkcnllddkoaa
open Go.RowKit
set_option linter.unusedVariables false

/-- a number that begins with the byte 128 is refused. -/
theorem decU_form (w : World) (d : Nat) (s : ByteArray) (p : Nat) (h : IsD w d s p 0) (hp : p < s.size) (hs : s.size ≤ 9223372036854775807) (hb : s[p].toNat = 128) :
    Calls Try.prog 21 #[.pointer (some ⟨d, 0, none⟩)] w fun e w' => e = .returned (.int .u64 0) ∧ IsD w' d s ((p + 1 : Nat) : Int) 3 ∧ Mod (At d) w w' := by
  have H := hid h
  clear h
  go_enter Try.func21, Try.ntmps21
  go_wp2_with fail
  go_loopw [3, 4, 5, 6] (fun v f _ _ wr => v = .int .u64 0 ∧ f = .bool true ∧ wr = w) (fun _ _ _ _ _ => 0)
  case atStart => exact ⟨rfl, rfl, rfl⟩
  case round =>
    obtain ⟨rfl, rfl, rfl⟩ := hrel
    go_wp2_with fail
    refine (next_some _ d s p H.out hp hs).mono ?_; rintro e w1 ⟨rfl, D1, M1⟩
    rw [hb]
    go_wp2_with fail
    refine (fail_first _ d s _ 3 D1).mono ?_; rintro e w2 ⟨rfl, D2, M2⟩
    go_wp2_with fail
    go_ret
    exact ⟨rfl, D2, M1.trans M2 (fun _ _ h => h)⟩

theorem awake_bytes : ([] : List UInt8) ++ [(5 : Int), 300].flatMap (fun z => encU z.toNat) ++ [(⟨#[97, 98]⟩ : ByteArray)].flatMap encS ++ encU [(1 : Int), 2].length ++ ([(1 : Int), 2].flatMap fun z => encU (max z 0).toNat) = [5, 130, 44, 2, 97, 98, 2, 1, 2] := by decide +kernel
set_option maxRecDepth 100000 in
set_option maxHeartbeats 4000000 in
theorem awake_any (w : World) : Calls Try.prog 10 #[] w (RetB (.bool true) w.heap.size w) := by
  go_enter Try.func10, Try.ntmps10
  go_wp2_with fail
  have E0 := IsE.zero w
  refine calls_gen (fun w1 => IsE w1 w.heap.size (.slice none 0 0) [] ∧ Blk w1 (w.heap.size + 1) 22 [.int .u64 5, .int .u64 300] ∧ Below w.heap.size w w1) ⟨E0.below (by (repeat' (first | (with_reducible assumption) | (with_reducible exact Below.refl _ _) | (with_reducible refine below_drewN ?_ _) | (with_reducible refine Below.drew ?_) | ((with_reducible refine below_alloc' ?_ ?_ _); rotate_left; (first | exact Nat.le_refl _ | assumption | omega)) | ((with_reducible refine Below.alloc ?_ ?_ _); rotate_left; (first | omega | (simp <;> omega))) | ((with_reducible refine Below.setCell ?_ ?_ _); rotate_left; (first | omega | (simp <;> omega)))))), by (repeat' (first | (with_reducible assumption) | (with_reducible apply Blk.drewN) | (with_reducible apply Blk.drew) | ((with_reducible apply Blk.new'); (first | rfl | (simp <;> omega))) | (with_reducible apply Blk.set') | (with_reducible apply Blk.ne) | (with_reducible apply Blk.alloc) | rfl | omega | (simp <;> omega))), by (repeat' (first | (with_reducible assumption) | (with_reducible exact Below.refl _ _) | (with_reducible refine below_drewN ?_ _) | (with_reducible refine Below.drew ?_) | ((with_reducible refine below_alloc' ?_ ?_ _); rotate_left; (first | exact Nat.le_refl _ | assumption | omega)) | ((with_reducible refine Below.alloc ?_ ?_ _); rotate_left; (first | omega | (simp <;> omega))) | ((with_reducible refine Below.setCell ?_ ?_ _); rotate_left; (first | omega | (simp <;> omega)))))⟩ ?_
  rintro w1 ⟨E1, B1, L1⟩
  obtain ⟨e, he⟩ : ∃ e, w.heap.size = e := ⟨_, rfl⟩
  rw [he] at E1 B1 ⊢
  refine (encU_any w1 e _ [] _ 2 [5, 300] E1 (B1.ints (k := .u64) (zs := [5, 300])) (by intro z hz; simp at hz; omega) (fun _ x hx => by cases hx; exact ⟨by simp, by simp [Value.ownBlock]⟩) (by simp) (by simp)).mono ?_; rintro r w2 ⟨rfl, sv2, E2, M2, V2⟩
  have L2 := belowE L1 E1 M2 (by omega) (Nat.le_refl _)
  have he2 := E2.blk.lt
  clear E1 B1 L1 M2 V2 E0
  go_wp2_with fail
  refine calls_gen (fun w3 => IsE w3 e sv2 _ ∧ Blk w3 w2.heap.size 9 [.string ⟨#[97, 98]⟩] ∧ Below w.heap.size w w3) ⟨E2.below (by (repeat' (first | (with_reducible assumption) | (with_reducible exact Below.refl _ _) | (with_reducible refine below_drewN ?_ _) | (with_reducible refine Below.drew ?_) | ((with_reducible refine below_alloc' ?_ ?_ _); rotate_left; (first | exact Nat.le_refl _ | assumption | omega)) | ((with_reducible refine Below.alloc ?_ ?_ _); rotate_left; (first | omega | (simp <;> omega))) | ((with_reducible refine Below.setCell ?_ ?_ _); rotate_left; (first | omega | (simp <;> omega)))))), by (repeat' (first | (with_reducible assumption) | (with_reducible apply Blk.drewN) | (with_reducible apply Blk.drew) | ((with_reducible apply Blk.new'); (first | rfl | (simp <;> omega))) | (with_reducible apply Blk.set') | (with_reducible apply Blk.ne) | (with_reducible apply Blk.alloc) | rfl | omega | (simp <;> omega))), by (repeat' (first | (with_reducible assumption) | (with_reducible exact Below.refl _ _) | (with_reducible refine below_drewN ?_ _) | (with_reducible refine Below.drew ?_) | ((with_reducible refine below_alloc' ?_ ?_ _); rotate_left; (first | exact Nat.le_refl _ | assumption | omega)) | ((with_reducible refine Below.alloc ?_ ?_ _); rotate_left; (first | omega | (simp <;> omega))) | ((with_reducible refine Below.setCell ?_ ?_ _); rotate_left; (first | omega | (simp <;> omega)))))⟩ ?_
  rintro w3 ⟨E3, B3, L3⟩
  have n3 := E2.new (Nat.le_refl _)
  refine (encS_any w3 e sv2 _ _ 1 [⟨#[97, 98]⟩] 2 E3 (fun i hi => ⟨w2.heap.size, 0, rfl, by simp at hi; subst hi; exact B3.cell 0 rfl⟩) (by intro s hs; simp at hs; subst hs; exact Nat.le_refl 2) (fun _ x hx => by cases hx; exact ⟨by simp; omega, n3⟩) (by decide +kernel) (by omega) (by simp)).mono ?_; rintro r w4 ⟨rfl, sv4, E4, M4, V4⟩
  have L4 := belowE L3 E3 M4 (by omega) (Nat.le_refl _)
  have he4 := E4.blk.lt
  clear E3 B3 L3 M4 V4 E2 L2 he2 n3
  go_wp2_with fail
  refine calls_gen (fun w5 => IsE w5 e sv4 _ ∧ Blk w5 w4.heap.size 3 [.int .i64 1, .int .i64 2] ∧ Below w.heap.size w w5 ∧ w4.heap.size < w5.heap.size) ⟨E4.below (by (repeat' (first | (with_reducible assumption) | (with_reducible exact Below.refl _ _) | (with_reducible refine below_drewN ?_ _) | (with_reducible refine Below.drew ?_) | ((with_reducible refine below_alloc' ?_ ?_ _); rotate_left; (first | exact Nat.le_refl _ | assumption | omega)) | ((with_reducible refine Below.alloc ?_ ?_ _); rotate_left; (first | omega | (simp <;> omega))) | ((with_reducible refine Below.setCell ?_ ?_ _); rotate_left; (first | omega | (simp <;> omega)))))), by (repeat' (first | (with_reducible assumption) | (with_reducible apply Blk.drewN) | (with_reducible apply Blk.drew) | ((with_reducible apply Blk.new'); (first | rfl | (simp <;> omega))) | (with_reducible apply Blk.set') | (with_reducible apply Blk.ne) | (with_reducible apply Blk.alloc) | rfl | omega | (simp <;> omega))), by (repeat' (first | (with_reducible assumption) | (with_reducible exact Below.refl _ _) | (with_reducible refine below_drewN ?_ _) | (with_reducible refine Below.drew ?_) | ((with_reducible refine below_alloc' ?_ ?_ _); rotate_left; (first | exact Nat.le_refl _ | assumption | omega)) | ((with_reducible refine Below.alloc ?_ ?_ _); rotate_left; (first | omega | (simp <;> omega))) | ((with_reducible refine Below.setCell ?_ ?_ _); rotate_left; (first | omega | (simp <;> omega))))), by simp⟩ ?_
  rintro w5 ⟨E5, B5, L5, hs5⟩
  have n5 := E4.new (Nat.le_refl _)
  refine (encList_any w5 e sv4 _ _ 2 [1, 2] E5 (B5.ints (k := .i64) (zs := [1, 2])) (by intro z hz; simp at hz; omega) (fun _ x hx => by cases hx; exact ⟨by simp; omega, n5, hs5⟩) (by decide +kernel) (by simp)).mono ?_; rintro r w6 ⟨rfl, sv6, E6, M6, V6⟩
  have L6 := belowE L5 E5 M6 (by omega) (Nat.le_refl _)
  rw [awake_bytes] at E6
  clear E5 B5 L5 M6 V6 E4 L4 he4 n5 hs5
  go_wp2_with fail
  refine (from_any _ _).mono ?_; rintro r w7 ⟨rfl, D7, L7, hs7⟩
  have hed := E6.blk.lt
  have n6 := E6.new (Nat.le_refl _)
  replace E6 := E6.below L7
  have L8 := L6.trans (L7.mono L6.size)
  go_wp2_with fail
  refine (decU_form _ _ _ 0 D7 (by decide) (by decide) (by decide)).mono ?_; rintro r w8 ⟨rfl, D8, M8⟩
  have E8 := E6.mod M8 (by unfold At; omega) (fun k hk hx => n6 (by unfold At at hx; rw [hk, hx]))
  have L9 : Below w.heap.size w w8 := Mod.thenMod L8 M8 (fun k _ hk => by unfold At at hk; omega) (Nat.le_refl _)
  go_wp2_with fail
  refine (bytes_any _ e sv6 _ E8).mono ?_; rintro r w9 ⟨rfl, n9, rfl⟩
  go_wp2_with fail
  refine (err_any _ _ _ _ _ (Blk.drewN D8 n9)).mono ?_; rintro r w10 ⟨rfl, n10, rfl⟩
  go_wp2_with fail
  go_ret
  exact ⟨rfl, by (repeat' (first | (with_reducible assumption) | (with_reducible exact Below.refl _ _) | (with_reducible refine below_drewN ?_ _) | (with_reducible refine Below.drew ?_) | ((with_reducible refine below_alloc' ?_ ?_ _); rotate_left; (first | exact Nat.le_refl _ | assumption | omega)) | ((with_reducible refine Below.alloc ?_ ?_ _); rotate_left; (first | omega | (simp <;> omega))) | ((with_reducible refine Below.setCell ?_ ?_ _); rotate_left; (first | omega | (simp <;> omega)))))⟩
end Go.Proofs.Ytblkkcnllddkoaa
