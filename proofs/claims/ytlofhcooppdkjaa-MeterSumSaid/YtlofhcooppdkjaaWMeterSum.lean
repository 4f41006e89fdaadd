/- MeterSum, walked; and that a sum does not hang on the order. -/
import Derived.Test.YtlofhcooppdkjaaMeterAw
import Derived.Test.YtlofhcooppdkjaaOpen
namespace Go.Proofs.Ytlofhcooppdkjaa
open Go.RowKit
set_option linter.unusedVariables false
theorem slIntS : SliceT Try.prog 29 3 1 8 := ⟨Try.underlying29, ⟨_, _, rfl, rfl, rfl, rfl, rfl⟩, by decide⟩
/-- the sum without the bound. -/
def posS : List Int → Int
  | [] => 0
  | z :: r => max z 0 + posS r
theorem posS_nn (l : List Int) : 0 ≤ posS l := by
  induction l with
  | nil => simp [posS]
  | cons z r ih => simp only [posS]; omega
theorem posS_append (a b : List Int) : posS (a ++ b) = posS a + posS b := by
  induction a with
  | nil => simp [posS]
  | cons z r ih => simp only [List.cons_append, posS, ih]; omega
theorem posS_reverse (l : List Int) : posS l.reverse = posS l := by
  induction l with
  | nil => rfl
  | cons z r ih => rw [List.reverse_cons, posS_append, ih]; simp only [posS]; omega
theorem sumF_eq (l : List Int) : ∀ acc, 0 ≤ acc → acc ≤ 4611686018427387904 → sumF acc l = min (acc + posS l) 4611686018427387904 := by
  induction l with
  | nil => intro acc h0 h1; simp only [sumF, posS]; omega
  | cons z r ih =>
    intro acc h0 h1
    have := posS_nn r
    rw [sumF_cons]
    simp only [posS]
    split
    · omega
    · rw [ih _ (by omega) (by omega)]; omega
theorem sumF_zero (l : List Int) : sumF 0 l = min (posS l) 4611686018427387904 := by
  rw [sumF_eq l 0 (by omega) (by omega)]; simp
theorem sumF_reverse (l : List Int) : sumF 0 l.reverse = sumF 0 l := by rw [sumF_zero, sumF_zero, posS_reverse]
theorem sumF_twice (l : List Int) : sumF 0 [sumF 0 l, -5] = sumF 0 l := by
  have := posS_nn l
  rw [sumF_zero, sumF_zero]; simp only [posS]; omega

set_option maxRecDepth 100000 in
set_option maxHeartbeats 2000000 in
theorem meterSum_walk (la : Option Addr) (len cap : Nat) (w : World) (hl : OkT Try.prog w 6 29 [.slice la len cap]) :
    Calls Try.prog 6 #[.slice la len cap] w (RetB (.bool true) w.heap.size w) := by
  obtain ⟨zs0, hz0, hlc, hcm, hzs0, hwf⟩ := okT_ints Try.underlying29 Try.underlying3 (by kernel_rfl) hl
  clear hl
  unfold maxLen at hcm
  obtain ⟨n, hn⟩ : ∃ n, min len 20 = n := ⟨_, rfl⟩
  obtain ⟨zs, hzs⟩ : ∃ zs, zs0.take n = zs := ⟨_, rfl⟩
  have hzl : zs.length = n := by rw [← hzs, List.length_take]; omega
  have hI : IntsAt .i64 w la zs := by
    intro i hi
    obtain ⟨b, off, h1, h2⟩ := hzs0 i (by omega)
    refine ⟨b, off, h1, ?_⟩
    rw [h2]; subst hzs; simp
  have hla : ∀ x, la = some x → 0 < n → x.block < w.heap.size := by
    intro x hx h0
    obtain ⟨b, off, h1, h2⟩ := hI 0 (by omega)
    rw [hx] at h1; cases h1
    exact World.block_lt_of_cell? _ _ h2
  have hn20 : n ≤ 20 := by omega
  clear hzs0 hwf hz0
  have HZL := hid hzl
  have HB : Hid (zs.length ≤ 20) := hid (by omega)
  have HZ := hid hI
  clear hzs
  have hcase : (n = len ∧ len ≤ 20) ∨ (n = 20 ∧ 20 < len) := by omega
  clear hn hzl hI
  rcases hcase with ⟨rfl, hle⟩ | ⟨rfl, hgt⟩
  all_goals
    go_enter Try.func6, Try.ntmps6
    go_wp2_with fail
    refine wp_gen (fun w2 => w2.ownsRow w.heap.size 3 1 (.slice (some ⟨w.heap.size, 0, none⟩) 0 0) 0 [] ∧ Below w.heap.size w w2)
      ⟨World.ownsRow_made (e := 3) (size := 1) (base := w.heap.size) w #[] 0 (by omega) (by unfold maxLen; omega) rfl, by (repeat' (first | (with_reducible assumption) | (with_reducible exact Below.refl _ _) | (with_reducible refine below_drewN ?_ _) | (with_reducible refine Below.drew ?_) | ((with_reducible refine Below.alloc ?_ ?_ _); rotate_left; (first | omega | (simp <;> omega))) | ((with_reducible refine Below.setCell ?_ ?_ _); rotate_left; (first | omega | (simp <;> omega)))))⟩ ?_
    rintro w2 ⟨O2, L2⟩
    go_loopw [3, 4] (fun sv i wr => ∃ (j : Nat), j ≤ zs.length ∧ i = .int .i64 ((j : Int) - 1) ∧ wr.ownsRow w.heap.size 3 1 sv (zs.drop j).reverse.length ((zs.drop j).reverse.map (Value.int .i64)) ∧ Below w.heap.size w wr) (fun _ i _ => (intOf i + 1).toNat)
    case atStart => exact ⟨zs.length, Nat.le_refl _, by first | (rw [HZL.out]; done) | (rw [HZL.out]; rfl), by rw [List.drop_length]; simpa using O2, L2⟩
    case round =>
      obtain ⟨j, hj, rfl, Or, Lr⟩ := hrel
      by_cases h0 : 0 < j
      · obtain ⟨i, rfl⟩ : ∃ i, j = i + 1 := ⟨j - 1, by omega⟩
        have hi : i < zs.length := by omega
        have hi20 : i < 20 := by have := HB.out; omega
        first | have hin : i < n := by (have := HZL.out; omega) | have hin : i < 20 := by (have := HB.out; omega)
        obtain ⟨b, off, rfl, hc⟩ := HZ.out i hi
        have hbw : b < w.heap.size := hla _ rfl (by omega)
        have hdr : (zs.drop i).reverse = (zs.drop (i+1)).reverse ++ [zs[i]] := by rw [List.drop_eq_getElem_cons hi, List.reverse_cons]
        have hln : (zs.drop (i+1)).reverse.length ≤ 20 := by have := HB.out; simp; omega
        generalize zs[i] = z at *
        have HDR := hid hdr
        clear hdr
        generalize hR : (zs.drop (i+1)).reverse = R at *
        have hRR := hid hR
        clear hR
        have hcr : wr.cell? ⟨b, off + i, none⟩ = some (.int .i64 z) := by rw [Lr.cell (p := ⟨b, off + i, none⟩) hbw]; exact hc
        have hidx : (((i + 1 : Nat) : Int) - 1) = (i : Int) := by omega
        rw [hidx]
        go_wp2_with (at_builtin; refine wpList_app1 slIntS rfl (.tmp 18) (.tmp 23) rfl w.heap.size _ R.length (R.map (Value.int .i64)) [.int .i64 z] rfl ?hown rfl ?hgs rfl ?h1 ?hb ?hn ?hbase ?_)
        case hown => exact Or
        case hgs => simp
        case h1 => intro u hu; simp at hu; subst hu; rfl
        case hb => omega
        case hn => omega
        case hbase => exact Lr.size
        intro v' w3 O3 G3 _
        have L3 : Below w.heap.size w w3 := below_grown_own Lr G3 Or Lr.size (Nat.le_refl _)
        clear G3
        go_wp2_with fail
        go_roundw
        case rel => exact ⟨i, by omega, rfl, by rw [HDR.out]; simpa using O3, L3⟩
        case measure => (simp [intOf] <;> omega)
      · obtain rfl : j = 0 := by omega
        rw [List.drop_zero] at Or
        obtain ⟨_, a, cp, rfl, hI, hIb⟩ := own_ints Or
        have hzl' := HZL.out
        have HI := hid hI
        have hrl : zs.reverse.length ≤ 20 := by have := HB.out; simpa using this
        have hrl2 : zs.reverse.length = zs.length := by simp
        clear hI Or
        have hm1 : (((0 : Nat) : Int) - 1) = -1 := rfl
        rw [hm1]
        have HZL2 := hid hzl'
        clear hzl' hrl2
        go_wp2_with fail
        refine (awake_any _).mono ?_; rintro e w4 ⟨rfl, L4⟩
        have L5 : Below w.heap.size w w4 := Lr.trans (L4.mono Lr.size)
        have I5 : IntsAt .i64 w4 la zs := fun i hi => by
          obtain ⟨b, off, h1, h2⟩ := HZ.out i hi
          refine ⟨b, off, h1, ?_⟩
          have := hla _ h1 (by have := HZL2.out; omega)
          rw [L5.cell (p := ⟨b, off + i, none⟩) this]; exact h2
        have J5 : IntsAt .i64 w4 a zs.reverse := HI.out.below L4
        have HI5 := hid I5
        have HJ5 := hid J5
        clear I5 J5
        obtain ⟨S, hS⟩ : ∃ S, sumF 0 zs = S := ⟨_, rfl⟩
        have hS0 : 0 ≤ S ∧ S ≤ 4611686018427387904 := by have := posS_nn zs; rw [sumF_zero] at hS; omega
        have HS := hid hS
        clear hS
        obtain ⟨hS1, hS2⟩ := hS0
        go_wp2_with fail
        refine (sum_eq (S := S) _ _ _ _ zs HS.out HZL2.out HI5.out (by omega)).mono ?_; rintro e w' ⟨rfl, m5, rfl⟩
        go_wp2_with fail
        refine (sum_eq (S := S) _ _ _ _ zs.reverse (by rw [sumF_reverse]; exact HS.out) (by first | rfl | simp) (by exact HJ5.out) (by have := HB.out; simp at *; omega)).mono ?_; rintro e w' ⟨rfl, m6, rfl⟩
        go_wp2_with fail
        refine (sum_eq (S := S) _ _ _ _ zs HS.out HZL2.out (by exact HI5.out) (by omega)).mono ?_; rintro e w' ⟨rfl, m7, rfl⟩
        go_wp2_with fail
        refine calls_gen (fun w8 => Blk w8 w4.heap.size 3 [.int .i64 S, .int .i64 (-5)] ∧ Below w4.heap.size w4 w8) ⟨by (repeat' (first | (with_reducible assumption) | (with_reducible refine Blk.drewN ?_ _) | (with_reducible refine Blk.drew ?_) | ((with_reducible refine Blk.new' _ _ _ _ ?_); (first | rfl | (simp <;> omega))) | (with_reducible apply Blk.set') | ((with_reducible refine Blk.ne ?_ ?_ _); rotate_left; (first | omega | (simp <;> omega))) | (with_reducible refine Blk.alloc ?_ _) | rfl)), by (repeat' (first | (with_reducible assumption) | (with_reducible exact Below.refl _ _) | (with_reducible refine below_drewN ?_ _) | (with_reducible refine Below.drew ?_) | ((with_reducible refine Below.alloc ?_ ?_ _); rotate_left; (first | omega | (simp <;> omega))) | ((with_reducible refine Below.setCell ?_ ?_ _); rotate_left; (first | omega | (simp <;> omega)))))⟩ ?_
        rintro w8 ⟨B8, L8⟩
        refine (sum_eq _ _ 2 _ [S, -5] (S := S) (by have := HS.out; rw [← this]; exact sumF_twice zs) rfl (B8.ints) (by omega)).mono ?_; rintro e w' ⟨rfl, m8, rfl⟩
        go_wp2_with fail
        refine (sum_eq (S := S) _ _ _ _ zs HS.out HZL2.out (by exact HI5.out.below (below_drewN L8 _)) (by omega)).mono ?_; rintro e w' ⟨rfl, m9, rfl⟩
        go_wp2_with fail
        go_ret
        exact ⟨ret_bool (by simp), below_drewN (L5.trans (L8.mono L5.size)) _⟩
end Go.Proofs.Ytlofhcooppdkjaa
