/- Contracts of package queue: Next, List. -/
import Derived.Test.YtecdcainkemicaaQueue3
namespace Go.Proofs.Ytecdcainkemicaa
open Go.RowKit
set_option linter.unusedVariables false
set_option maxHeartbeats 400000

def up (x : Wt) : Wt := { x with passed := x.passed + 1 }
/-- the first n are passed over once more. -/
def bump : Nat → List Wt → List Wt
  | 0, l => l
  | _ + 1, [] => []
  | n + 1, x :: r => up x :: bump n r
theorem bump_len : ∀ (n : Nat) (l : List Wt), (bump n l).length = l.length
  | 0, l => by simp [bump]
  | _ + 1, [] => by simp [bump]
  | n + 1, x :: r => by simp [bump, bump_len n r]
theorem bump_get : ∀ (n : Nat) (l : List Wt) (k : Nat), n ≤ k → (bump n l)[k]? = l[k]?
  | 0, l, k, _ => by simp [bump]
  | _ + 1, [], k, _ => by simp [bump]
  | n + 1, x :: r, k + 1, h => by simp [bump, bump_get n r k (by omega)]
theorem bump_succ : ∀ (n : Nat) (l : List Wt) (h : n < l.length), bump (n + 1) l = (bump n l).set n (up l[n])
  | 0, x :: r, _ => by simp [bump]
  | n + 1, x :: r, h => by
    have h' : n < r.length := by simpa using h
    rw [bump, bump_succ n r h', bump, List.set_cons_succ]; rfl

theorem IsQ.bumped {w : World} {q g cap k : Nat} {l : List Wt} (h : IsQ w q (.slice (some ⟨g, 0, none⟩) l.length cap) (bump k l)) (hk : k < l.length) (hqg : q < g) :
    IsQ (w.setCell ⟨g, k * 5 + 4, none⟩ (.int .i64 (l[k].passed + 1))) q (.slice (some ⟨g, 0, none⟩) l.length cap) (bump (k + 1) l) := by
  have hkl : k < (bump k l).length := by rw [bump_len]; exact hk
  have hbk : (bump k l)[k] = l[k] := by
    have := bump_get k l k (Nat.le_refl _)
    rw [List.getElem?_eq_getElem hkl, List.getElem?_eq_getElem hk] at this
    exact Option.some.inj this
  refine ⟨h.blk.ne (by simp; omega) _, ?_, by rw [bump_len]; have := h.small; rwa [bump_len] at this⟩
  have hr := h.row
  rw [bump_len] at hr ⊢
  have := own_set hr (k * 5 + 4) (.int .i64 (l[k].passed + 1))
  rw [flat_set wc wc_len (bump k l) k 4 hkl _ (up l[k]) (by omega) (by rw [hbk]; rfl)] at this
  rw [bump_succ k l hk]
  exact this

theorem next_none (w : World) (q : Nat) (sv : Value) (vol at_ : Int) (h : IsQ w q sv []) :
    Calls Try.prog 11 #[.pointer (some ⟨q, 0, none⟩), .int .i64 vol, .int .i64 at_] w (RetB (.tuple #[.agg #[.int .i64 0, .int .u64 0, .int .i64 0, .int .i64 0], .bool false]) w.heap.size w) := by
  have hq := h.blk.lt
  obtain ⟨a, cap, hsv, h1, h2⟩ := h.shape
  subst hsv
  have hne : q ≠ w.heap.size := by omega
  have hc : ∀ o, (w.alloc o).cell? ⟨q, 0, none⟩ = some (.slice a 0 cap) := fun o => (h.blk.alloc o).cell 0 rfl
  clear h
  go_enter Try.func11, Try.ntmps11
  go_wp2_with fail
  refine bodyPost_ret (v := .tuple #[.agg #[.int .i64 0, .int .u64 0, .int .i64 0, .int .i64 0], .bool false]) (by simp [results, Try.results11, go_sem]) rfl ⟨rfl, by (repeat' (first | (with_reducible assumption) | (with_reducible exact Below.refl _ _) | (with_reducible refine below_drewN ?_ _) | (with_reducible refine Below.drew ?_) | ((with_reducible refine below_alloc' ?_ ?_ _); rotate_left; (first | exact Nat.le_refl _ | assumption | omega)) | ((with_reducible refine Below.alloc ?_ ?_ _); rotate_left; (first | omega | (simp <;> omega))) | ((with_reducible refine Below.setCell ?_ ?_ _); rotate_left; (first | omega | (simp <;> omega)))))⟩

set_option maxHeartbeats 2000000 in
theorem next_some (w : World) (q : Nat) (sv : Value) (x0 : Wt) (r : List Wt) (vol at_ : Int) (i : Nat) (x : Wt) (h : IsQ w q sv (x0 :: r)) (hi : chooseF x0 (x0 :: r) vol at_ = i) (hx : (x0 :: r)[i]? = some x)
    (hp : ∀ y ∈ x0 :: r, 0 ≤ y.passed ∧ y.passed ≤ 4611686018427387903) :
    Calls Try.prog 11 #[.pointer (some ⟨q, 0, none⟩), .int .i64 vol, .int .i64 at_] w
      fun e w' => e = .returned (.tuple #[.agg #[.int .i64 x.id, .int .u64 x.blob, .int .i64 x.vol, .int .i64 x.at_], .bool true]) ∧ ∃ sv', IsQ w' q sv' ((bump i (x0 :: r)).eraseIdx i) ∧ Mod (QFp q sv) w w' ∧ Moved w sv sv' := by
  have hq := h.blk.lt
  have hsm := h.small
  obtain ⟨l, hl⟩ : ∃ l, x0 :: r = l := ⟨_, rfl⟩
  have hlen : 0 < l.length := by rw [← hl]; simp
  have hil : i < l.length := by rw [← hl]; exact (List.getElem?_eq_some_iff.1 hx).1
  obtain ⟨g, cap, hsv, hqg, hgs, hcap, _⟩ := h.elem 0 (by simp)
  have HQ := hid h
  have HI := hid hi
  have HCH := hid (choose_any (w.alloc (.cells #[.int .i64 0, .int .u64 0, .int .i64 0, .int .i64 0] 25)) q sv x0 r vol at_ (h.below (by (repeat' (first | (with_reducible assumption) | (with_reducible exact Below.refl _ _) | (with_reducible refine below_drewN ?_ _) | (with_reducible refine Below.drew ?_) | ((with_reducible refine below_alloc' ?_ ?_ _); rotate_left; (first | exact Nat.le_refl _ | assumption | omega)) | ((with_reducible refine Below.alloc ?_ ?_ _); rotate_left; (first | omega | (simp <;> omega))) | ((with_reducible refine Below.setCell ?_ ?_ _); rotate_left; (first | omega | (simp <;> omega))))))))
  rw [hl] at HQ HI HCH hx hp hsm hsv hcap ⊢
  clear h hi hl
  have HX := hid hx
  have HP := hid hp
  clear hx hp
  subst hsv
  have hne : q ≠ w.heap.size := by omega
  have hc : ∀ o, (w.alloc o).cell? ⟨q, 0, none⟩ = some (.slice (some ⟨g, 0, none⟩) l.length cap) := fun o => (HQ.out.blk.alloc o).cell 0 rfl
  have hlenne : ((l.length : Int) == 0) = false := by rw [beq_eq_false_iff_ne]; omega
  go_enter Try.func11, Try.ntmps11
  go_wp2_with fail
  refine HCH.out.mono ?_; rintro e w1 ⟨rfl, L1⟩
  rw [HI.out]
  clear hc
  have M1 : Mod (QFp q (.slice (some ⟨g, 0, none⟩) l.length cap)) w w1 := (Mod.alloc (Mod.refl _ w) _).thenBelow L1
  have B1 : Blk w1 w.heap.size 25 [.int .i64 0, .int .u64 0, .int .i64 0, .int .i64 0] := (Blk.new w _ _).below L1 (by simp)
  have Q1 : IsQ w1 q (.slice (some ⟨g, 0, none⟩) l.length cap) l := HQ.out.below (Below.trans (by (repeat' (first | (with_reducible assumption) | (with_reducible exact Below.refl _ _) | (with_reducible refine below_drewN ?_ _) | (with_reducible refine Below.drew ?_) | ((with_reducible refine below_alloc' ?_ ?_ _); rotate_left; (first | exact Nat.le_refl _ | assumption | omega)) | ((with_reducible refine Below.alloc ?_ ?_ _); rotate_left; (first | omega | (simp <;> omega))) | ((with_reducible refine Below.setCell ?_ ?_ _); rotate_left; (first | omega | (simp <;> omega)))))) (L1.mono (by simp)))
  clear L1
  obtain ⟨g', cap', hsv', hgs', c0, c1, c2, c3, c4⟩ := Q1.five (Below.refl _ _) i hil
  simp only [Value.slice.injEq, true_and, Option.some.injEq, Addr.mk.injEq, and_true] at hsv'
  obtain ⟨hg1, hg2⟩ := hsv'
  subst hg1 hg2
  have hxi : l[i] = x := by have := HX.out; rw [List.getElem?_eq_getElem hil] at this; exact Option.some.inj this
  rw [hxi] at c0 c1 c2 c3 c4
  have hc1 := Q1.blk.cell 0 rfl
  have HQ1 := hid Q1
  clear Q1 hxi
  have hi0 : (0 : Int) ≤ (i : Int) := by omega
  have hi1 : (i : Int) < (l.length : Int) := by omega
  have hw1 : w.heap.size < w1.heap.size := B1.lt
  go_wp2_with fail
  clear c0 c1 c2 c3 c4 hc1
  generalize hbr : w1.heap.size = br
  refine wp_gen (fun w2 => IsQ w2 q (.slice (some ⟨g, 0, none⟩) l.length cap) (bump 0 l) ∧ Blk w2 w.heap.size 25 [.int .i64 0, .int .u64 0, .int .i64 0, .int .i64 0] ∧ Blk w2 br 25 [.int .i64 x.id, .int .u64 x.blob, .int .i64 x.vol, .int .i64 x.at_] ∧ Mod (QFp q (.slice (some ⟨g, 0, none⟩) l.length cap)) w w2)
    ⟨HQ1.out.below (by (repeat' (first | (with_reducible assumption) | (with_reducible exact Below.refl _ _) | (with_reducible refine below_drewN ?_ _) | (with_reducible refine Below.drew ?_) | ((with_reducible refine below_alloc' ?_ ?_ _); rotate_left; (first | exact Nat.le_refl _ | assumption | omega)) | ((with_reducible refine Below.alloc ?_ ?_ _); rotate_left; (first | omega | (simp <;> omega))) | ((with_reducible refine Below.setCell ?_ ?_ _); rotate_left; (first | omega | (simp <;> omega)))))), by (repeat' (first | (with_reducible assumption) | (with_reducible apply Blk.drewN) | (with_reducible apply Blk.drew) | ((with_reducible apply Blk.new'); (first | rfl | (simp <;> omega))) | (with_reducible apply Blk.set') | (with_reducible apply Blk.ne) | (with_reducible apply Blk.alloc) | rfl | omega | (simp <;> omega))), by (subst hbr; (repeat' (first | (with_reducible assumption) | (with_reducible apply Blk.drewN) | (with_reducible apply Blk.drew) | ((with_reducible apply Blk.new'); (first | rfl | (simp <;> omega))) | (with_reducible apply Blk.set') | (with_reducible apply Blk.ne) | (with_reducible apply Blk.alloc) | rfl | omega | (simp <;> omega)))), M1.alloc _⟩ ?_
  have hbr1 : w.heap.size < br := by omega
  clear hbr hw1 M1 B1 HQ1
  rintro w2 ⟨Q2, B2, R2, M2⟩
  go_loopw [31] (fun iv wr => ∃ k : Nat, k ≤ i ∧ iv = .int .i64 k ∧ IsQ wr q (.slice (some ⟨g, 0, none⟩) l.length cap) (bump k l) ∧ Blk wr w.heap.size 25 [.int .i64 0, .int .u64 0, .int .i64 0, .int .i64 0] ∧ Blk wr br 25 [.int .i64 x.id, .int .u64 x.blob, .int .i64 x.vol, .int .i64 x.at_] ∧ Mod (QFp q (.slice (some ⟨g, 0, none⟩) l.length cap)) w wr) (fun iv _ => i - (intOf iv).toNat)
  case atStart => exact ⟨0, Nat.zero_le _, rfl, Q2, B2, R2, M2⟩
  case round =>
    clear Q2 B2 R2 M2
    obtain ⟨k, hk, rfl, Qr, Br, Rr, Mr⟩ := hrel
    by_cases hlt : k < i
    · have hkl : k < (bump k l).length := by rw [bump_len]; omega
      obtain ⟨g', cap', hsv', hgs', c0, c1, c2, c3, c4⟩ := Qr.five (Below.refl _ _) k hkl
      simp only [Value.slice.injEq, Option.some.injEq, Addr.mk.injEq, and_true] at hsv'
      obtain ⟨hg1, _, hg2⟩ := hsv'
      subst hg1 hg2
      have hbk : (bump k l)[k] = l[k]'(by omega) := by
        have := bump_get k l k (Nat.le_refl _)
        rw [List.getElem?_eq_getElem hkl, List.getElem?_eq_getElem (by omega)] at this
        exact Option.some.inj this
      rw [hbk] at c4
      have hpb := HP.out l[k] (List.getElem_mem _)
      obtain ⟨hpb1, hpb2⟩ := hpb
      obtain ⟨y, hy⟩ : ∃ y, l[k] = y := ⟨_, rfl⟩
      rw [hy] at c4 hpb1 hpb2
      have HY := hid hy
      have HBK := hid hbk
      have hq1 := Qr.blk.cell 0 rfl
      have hfz : wr.frozen? ⟨g, k * 5 + 4, none⟩ = false := by have := own_frozen (g := g) (cap := cap) (by have := Qr.row; rw [bump_len] at this; exact this) (k * 5 + 4); exact this
      have hk0 : (0 : Int) ≤ (k : Int) := by omega
      have hk1 : (k : Int) < (l.length : Int) := by omega
      clear c0 c1 c2 c3 hy hbk
      have HQr := hid Qr
      clear Qr
      go_wp2_with fail
      go_roundw
      case rel =>
        have hkl2 : k < l.length := by omega
        have := HQr.out.bumped hkl2 hqg
        rw [HY.out] at this
        exact ⟨k + 1, by omega, by go_num, this, by (repeat' (first | (with_reducible assumption) | (with_reducible apply Blk.drewN) | (with_reducible apply Blk.drew) | ((with_reducible apply Blk.new'); (first | rfl | (simp <;> omega))) | (with_reducible apply Blk.set') | (with_reducible apply Blk.ne) | (with_reducible apply Blk.alloc) | rfl | omega | (simp <;> omega))), by (repeat' (first | (with_reducible assumption) | (with_reducible apply Blk.drewN) | (with_reducible apply Blk.drew) | ((with_reducible apply Blk.new'); (first | rfl | (simp <;> omega))) | (with_reducible apply Blk.set') | (with_reducible apply Blk.ne) | (with_reducible apply Blk.alloc) | rfl | omega | (simp <;> omega))), Mr.setCell (p := ⟨g, k * 5 + 4, none⟩) (fun _ => Or.inr rfl) _⟩
      case measure => (simp [intOf] <;> omega)
    · obtain rfl : k = i := by omega
      have hib : k < (bump k l).length := by rw [bump_len]; omega
      go_wp2_with fail
      refine (remove_any _ _ _ _ k Qr hib).mono ?_; rintro e w3 ⟨rfl, sv3, Q3, M3, V3⟩
      have nb : ∀ b, q < b → g ≠ b → ¬ QFp q (.slice (some ⟨g, 0, none⟩) l.length cap) b := by
        intro b h1 h2 h3
        rcases h3 with h3 | h3
        · omega
        · simp [Value.ownBlock] at h3; omega
      have B3 := Br.mod M3 (nb _ hq (by omega))
      have R3 := Rr.mod M3 (nb _ (by omega) (by omega))
      have M4 := Mr.trans M3 (fun _ _ h => h)
      have V4 : Moved w (.slice (some ⟨g, 0, none⟩) l.length cap) sv3 := (Moved.refl w _).trans V3 Mr.size
      have Q4 : ∀ u1 u2 u3 u4, IsQ ((((w3.setCell ⟨w.heap.size, 0, none⟩ u1).setCell ⟨w.heap.size, 1, none⟩ u2).setCell ⟨w.heap.size, 2, none⟩ u3).setCell ⟨w.heap.size, 3, none⟩ u4) q sv3 ((bump k l).eraseIdx k) := by
        intro u1 u2 u3 u4
        have hnb : sv3.ownBlock ≠ some w.heap.size := by
          intro h
          rcases V3 _ h with h1 | h1
          · simp [Value.ownBlock] at h1; omega
          · have := Br.lt; omega
        refine ⟨(((Q3.blk.ne (by simp; omega) _).ne (by simp; omega) _).ne (by simp; omega) _).ne (by simp; omega) _, own_setCell (own_setCell (own_setCell (own_setCell Q3.row hnb _) hnb _) hnb _) hnb _, Q3.small⟩
      have HQ4 := hid Q4
      have r0 := R3.cell 0 rfl
      have r1 := R3.cell 1 rfl
      have r2 := R3.cell 2 rfl
      have r3 := R3.cell 3 rfl
      have s0 := B3.cell 0 rfl
      have s1 := B3.cell 1 rfl
      have s2 := B3.cell 2 rfl
      have s3 := B3.cell 3 rfl
      have z0 := B3.frozen 0
      have z1 := B3.frozen 1
      have z2 := B3.frozen 2
      have z3 := B3.frozen 3
      have hw3 := B3.lt
      clear Q4 Q3 Qr
      go_wp2_with fail
      refine bodyPost_ret (v := .tuple #[.agg #[.int .i64 x.id, .int .u64 x.blob, .int .i64 x.vol, .int .i64 x.at_], .bool true]) (by simp [results, Try.results11, go_sem, s0, s1, s2, s3]) rfl ⟨rfl, sv3, HQ4.out _ _ _ _, ?_, V4⟩
      have nlt : ∀ p : Addr, p.block = w.heap.size → p.block < w.heap.size → QFp q (.slice (some ⟨g, 0, none⟩) l.length cap) p.block := fun p h1 h2 => by omega
      exact (((M4.setCell (nlt _ rfl) _).setCell (nlt _ rfl) _).setCell (nlt _ rfl) _).setCell (nlt _ rfl) _
end Go.Proofs.Ytecdcainkemicaa
