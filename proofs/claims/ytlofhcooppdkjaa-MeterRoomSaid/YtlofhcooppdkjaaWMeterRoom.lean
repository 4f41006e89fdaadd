/- MeterRoom, walked. -/
import Derived.Test.YtlofhcooppdkjaaMeterAw
import Derived.Test.YtlofhcooppdkjaaOpen
namespace Go.Proofs.Ytlofhcooppdkjaa
open Go.RowKit
set_option linter.unusedVariables false
theorem slInt : SliceT Try.prog 29 3 1 8 := ⟨Try.underlying29, ⟨_, _, rfl, rfl, rfl, rfl, rfl⟩, by decide⟩

theorem sum_drop (ts : List Int) (j : Nat) (hj : j < ts.length) : (ts.drop j).sum = ts[j] + (ts.drop (j+1)).sum := by
  rw [List.drop_eq_getElem_cons hj, List.sum_cons]
theorem sum_nn (ts : List Int) (h : ∀ t ∈ ts, 0 ≤ t) : 0 ≤ ts.sum := by
  induction ts with
  | nil => simp
  | cons a r ih => rw [List.sum_cons]; have := h a (by simp); have := ih (fun t ht => h t (by simp [ht])); omega

set_option maxRecDepth 10000 in
set_option maxHeartbeats 2000000 in
theorem meterRoom_walk (room : Int) (la : Option Addr) (len cap : Nat) (w : World) (hroom : (Lit.int .i64 room).wf = true) (hl : OkT Try.prog w 6 29 [.slice la len cap]) :
    Calls Try.prog 4 #[.int .i64 room, .slice la len cap] w (RetB (.bool true) w.heap.size w) := by
  obtain ⟨zs0, hz0, hlc, hcm, hzs0, hwf⟩ := okT_ints Try.underlying29 Try.underlying3 (by kernel_rfl) hl
  clear hl
  have hr2 := (wf_i64 hroom).2
  clear hroom
  unfold maxLen at hcm
  have hblk : ∀ i, i < len → ∃ b off, la = some ⟨b, off, none⟩ ∧ b < w.heap.size ∧ ∃ z, w.cell? ⟨b, off + i, none⟩ = some (.int .i64 z) ∧ -9223372036854775808 ≤ z ∧ z ≤ 9223372036854775807 := by
    intro i hi
    obtain ⟨b, off, h1, h2⟩ := hzs0 i (by omega)
    exact ⟨b, off, h1, World.block_lt_of_cell? _ _ h2, _, h2, wf_i64 (hwf _ (List.getElem_mem _))⟩
  clear hzs0 hwf hz0
  have HL := hid hblk
  clear hblk
  go_enter Try.func4, Try.ntmps4
  go_wp2_with fail
  refine (made_any _ _).mono ?_; rintro e w1 ⟨rfl, m1, rfl⟩
  obtain ⟨r, hr⟩ : ∃ r, max room 0 = r := ⟨_, rfl⟩
  rw [hr]
  have HR := hid hr
  have hr0 : 0 ≤ r := by omega
  have hr1 : r ≤ 9223372036854775807 := by omega
  clear hr
  go_wp2_with fail
  obtain ⟨bm, hbm⟩ : ∃ bm, w.heap.size + 1 = bm := ⟨_, rfl⟩
  refine wp_gen (fun w2 => Blk w2 (w.heap.size + 1) 31 [.int .i64 r, .int .i64 0] ∧ w2.ownsRow (w.heap.size + 1 + 1) 3 1 (.slice (some ⟨w.heap.size + 1 + 1, 0, none⟩) 0 0) 0 [] ∧ Below w.heap.size w w2)
    ⟨by (repeat' (first | (with_reducible assumption) | (with_reducible refine Blk.drewN ?_ _) | (with_reducible refine Blk.drew ?_) | ((with_reducible refine Blk.new' _ _ _ _ ?_); (first | rfl | (simp <;> omega))) | (with_reducible apply Blk.set') | ((with_reducible refine Blk.ne ?_ ?_ _); rotate_left; (first | omega | (simp <;> omega))) | (with_reducible refine Blk.alloc ?_ _) | rfl)), by
      have h0 : (((w.alloc (Obj.cells #[Value.int IntKind.i64 r, Value.int IntKind.i64 0] 31)).drewN m1).alloc
        (Obj.cells #[Value.int IntKind.i64 r, Value.int IntKind.i64 0] 31)).heap.size = w.heap.size + 1 + 1 := by simp
      have := World.ownsRow_made (e := 3) (size := 1) (base := w.heap.size + 1 + 1) (((w.alloc (Obj.cells #[Value.int IntKind.i64 r, Value.int IntKind.i64 0] 31)).drewN m1).alloc
        (Obj.cells #[Value.int IntKind.i64 r, Value.int IntKind.i64 0] 31)) #[] 0 (by omega) (by unfold maxLen; omega) rfl
      rw [h0] at this; exact this, by (repeat' (first | (with_reducible assumption) | (with_reducible exact Below.refl _ _) | (with_reducible refine below_drewN ?_ _) | (with_reducible refine Below.drew ?_) | ((with_reducible refine Below.alloc ?_ ?_ _); rotate_left; (first | omega | (simp <;> omega))) | ((with_reducible refine Below.setCell ?_ ?_ _); rotate_left; (first | omega | (simp <;> omega)))))⟩ ?_
  have hlo : w.heap.size < bm := by omega
  generalize hsv : Value.slice (some ⟨w.heap.size + 1 + 1, 0, none⟩) 0 0 = sv0
  rw [hbm]
  clear hsv
  clear hbm
  rintro w2 ⟨B2, O2, L2⟩
  go_loopw [6, 7, 8] (fun al sv i wr => ∃ (k : Nat) (ts : List Int), k ≤ len ∧ k ≤ 30 ∧ ts.length ≤ k ∧ i = .int .i64 k ∧ al = .int .i64 ts.sum ∧ (∀ t ∈ ts, 0 ≤ t) ∧ ts.sum ≤ r ∧ Blk wr bm 31 [.int .i64 r, .int .i64 ts.sum] ∧
      wr.ownsRow (bm + 1) 3 1 sv ts.length (ts.map (Value.int .i64)) ∧ Below w.heap.size w wr) (fun _ _ i _ => len - (intOf i).toNat)
  case atStart => exact ⟨0, [], Nat.zero_le _, by omega, by simp, rfl, rfl, by simp, by simpa using hr0, by simpa using B2, by simpa using O2, L2⟩
  case round =>
    obtain ⟨k, ts, hk, hk30, htk, rfl, rfl, hpos, hsum, Br, Or, Lr⟩ := hrel
    have hs0 := sum_nn ts hpos
    have HP := hid hpos
    clear hpos
    generalize hS : ts.sum = S at *
    have HS := hid hS
    clear hS
    by_cases hlt : k < len ∧ k < 30
    · obtain ⟨hlt1, hlt2⟩ := hlt
      obtain ⟨b, off, rfl, hb, z, hcell, hzl, hzh⟩ := HL.out k hlt1
      have hcr : wr.cell? ⟨b, off + k, none⟩ = some (.int .i64 z) := by rw [Lr.cell (p := ⟨b, off + k, none⟩) hb]; exact hcell
      have hne : b ≠ bm := by omega
      have hlen : ts.length ≤ 30 := by omega
      by_cases hneg : z < 0
      · go_wp2_with fail
        refine (take_eq _ _ _ r S z (E := 1) (U := S) (if_pos hneg) (if_pos hneg) (Br.cell 0 rfl) (Br.cell 1 rfl) (Br.frozen 1) (by omega) (by omega) (by omega)).mono ?_; rintro e w' ⟨rfl, m2, rfl⟩
        go_wp2_with fail
        refine calls_gen (fun w2 => Blk w2 bm 31 [.int .i64 r, .int .i64 S] ∧ w2.ownsRow (bm + 1) 3 1 _ ts.length (ts.map (Value.int .i64)) ∧ Below w.heap.size w w2) ⟨by (repeat' (first | (with_reducible assumption) | (with_reducible refine Blk.drewN ?_ _) | (with_reducible refine Blk.drew ?_) | ((with_reducible refine Blk.new' _ _ _ _ ?_); (first | rfl | (simp <;> omega))) | (with_reducible apply Blk.set') | ((with_reducible refine Blk.ne ?_ ?_ _); rotate_left; (first | omega | (simp <;> omega))) | (with_reducible refine Blk.alloc ?_ _) | rfl)), own_drewN (own_setCell_lt Or (by simp) _) _, by (repeat' (first | (with_reducible assumption) | (with_reducible exact Below.refl _ _) | (with_reducible refine below_drewN ?_ _) | (with_reducible refine Below.drew ?_) | ((with_reducible refine Below.alloc ?_ ?_ _); rotate_left; (first | omega | (simp <;> omega))) | ((with_reducible refine Below.setCell ?_ ?_ _); rotate_left; (first | omega | (simp <;> omega)))))⟩ ?_
        rintro w3 ⟨B3, O3, L3⟩
        refine (used_any _ _ _ S (B3.cell 1 rfl)).mono ?_; rintro e w' ⟨rfl, m3, rfl⟩
        have hmx : ¬ max room 0 < S := by rw [HR.out]; omega
        by_cases hrm : room < 0
        all_goals
          go_wp2_with fail
          go_roundw
          case rel => exact ⟨k + 1, ts, by omega, by omega, by omega, by go_num, by rw [HS.out], HP.out, by rw [HS.out]; omega, by rw [HS.out]; (repeat' (first | (with_reducible assumption) | (with_reducible refine Blk.drewN ?_ _) | (with_reducible refine Blk.drew ?_) | ((with_reducible refine Blk.new' _ _ _ _ ?_); (first | rfl | (simp <;> omega))) | (with_reducible apply Blk.set') | ((with_reducible refine Blk.ne ?_ ?_ _); rotate_left; (first | omega | (simp <;> omega))) | (with_reducible refine Blk.alloc ?_ _) | rfl)), O3, by (repeat' (first | (with_reducible assumption) | (with_reducible exact Below.refl _ _) | (with_reducible refine below_drewN ?_ _) | (with_reducible refine Below.drew ?_) | ((with_reducible refine Below.alloc ?_ ?_ _); rotate_left; (first | omega | (simp <;> omega))) | ((with_reducible refine Below.setCell ?_ ?_ _); rotate_left; (first | omega | (simp <;> omega)))))⟩
          case measure => simp [intOf]; omega
      · by_cases hfit : z ≤ r - S
        · have hmx : ¬ max room 0 < S + z := by rw [HR.out]; omega
          have hSz : ts.sum + z = S + z := by rw [HS.out]
          have HS2 := hid hSz
          clear hSz
          have HP2 : Hid (∀ t ∈ ts ++ [z], 0 ≤ t) := hid (by
            intro t ht; rcases List.mem_append.1 ht with h | h
            · exact HP.out t h
            · simp at h; omega)
          by_cases hrm : room < 0
          all_goals
            go_wp2_with fail
            refine (take_eq _ _ _ r S z (E := 0) (U := S + z) (by unfold takeE; rw [if_neg (by omega), if_pos hfit]) (by unfold takeU; rw [if_neg (by omega), if_pos hfit]) (Br.cell 0 rfl) (Br.cell 1 rfl) (Br.frozen 1) (by omega) (by omega) (by omega)).mono ?_; rintro e w' ⟨rfl, m2, rfl⟩
            have hcw : ((wr.setCell ⟨bm, 0 + 1, none⟩ (Value.int IntKind.i64 (S + z))).drewN m2).cell? ⟨b, off + k, none⟩ = some (.int .i64 z) := by
              rw [World.cell?_drewN, World.cell?_setCell_other _ _ _ _ (by simp <;> omega)]; exact hcr
            go_wp2_with (at_builtin; refine wpList_app1 slInt rfl (.tmp 36) (.tmp 41) rfl (bm + 1) u7 ts.length (ts.map (Value.int .i64)) [.int .i64 z] rfl ?hown rfl ?hgs rfl ?h1 ?hb ?hn ?hbase ?_)
            case hown => exact own_drewN (own_setCell_lt Or (by simp) _) _
            case hgs => simp
            case h1 => intro u hu; simp at hu; subst hu; rfl
            case hb => omega
            case hn => omega
            case hbase => have := Br.lt; (first | omega | (simp <;> omega))
            intro v' w3 O3 G3 _
            have B3 : Blk w3 bm 31 [.int .i64 r, .int .i64 (S + z)] := Blk.grown_own (w := (wr.setCell ⟨bm, 0 + 1, none⟩ (Value.int IntKind.i64 (S + z))).drewN m2) (by (repeat' (first | (with_reducible assumption) | (with_reducible refine Blk.drewN ?_ _) | (with_reducible refine Blk.drew ?_) | ((with_reducible refine Blk.new' _ _ _ _ ?_); (first | rfl | (simp <;> omega))) | (with_reducible apply Blk.set') | ((with_reducible refine Blk.ne ?_ ?_ _); rotate_left; (first | omega | (simp <;> omega))) | (with_reducible refine Blk.alloc ?_ _) | rfl))) G3 (own_drewN (own_setCell_lt Or (by simp) _) _) (Nat.lt_succ_self _)
            have L3 : Below w.heap.size w w3 := below_grown_own (w := (wr.setCell ⟨bm, 0 + 1, none⟩ (Value.int IntKind.i64 (S + z))).drewN m2) (by (repeat' (first | (with_reducible assumption) | (with_reducible exact Below.refl _ _) | (with_reducible refine below_drewN ?_ _) | (with_reducible refine Below.drew ?_) | ((with_reducible refine Below.alloc ?_ ?_ _); rotate_left; (first | omega | (simp <;> omega))) | ((with_reducible refine Below.setCell ?_ ?_ _); rotate_left; (first | omega | (simp <;> omega)))))) G3 (own_drewN (own_setCell_lt Or (by simp) _) _) (by have := Br.lt; (first | omega | (simp <;> omega))) (by omega)
            clear G3
            go_wp2_with fail
            refine (used_any _ _ _ (S + z) (B3.cell 1 rfl)).mono ?_; rintro e w' ⟨rfl, m3, rfl⟩
            go_wp2_with fail
            go_roundw
            case rel => exact ⟨k + 1, ts ++ [z], by omega, by omega, by simp; omega, by go_num, by rw [List.sum_append, List.sum_singleton, HS2.out], HP2.out, by rw [List.sum_append, List.sum_singleton, HS2.out]; omega, by rw [List.sum_append, List.sum_singleton, HS2.out]; (repeat' (first | (with_reducible assumption) | (with_reducible refine Blk.drewN ?_ _) | (with_reducible refine Blk.drew ?_) | ((with_reducible refine Blk.new' _ _ _ _ ?_); (first | rfl | (simp <;> omega))) | (with_reducible apply Blk.set') | ((with_reducible refine Blk.ne ?_ ?_ _); rotate_left; (first | omega | (simp <;> omega))) | (with_reducible refine Blk.alloc ?_ _) | rfl)), by simpa using own_drewN O3 _, by (repeat' (first | (with_reducible assumption) | (with_reducible exact Below.refl _ _) | (with_reducible refine below_drewN ?_ _) | (with_reducible refine Below.drew ?_) | ((with_reducible refine Below.alloc ?_ ?_ _); rotate_left; (first | omega | (simp <;> omega))) | ((with_reducible refine Below.setCell ?_ ?_ _); rotate_left; (first | omega | (simp <;> omega)))))⟩
            case measure => simp [intOf]; omega
        · have hmx : ¬ max room 0 < S := by rw [HR.out]; omega
          by_cases hrm : room < 0
          all_goals
            go_wp2_with fail
            refine (take_eq _ _ _ r S z (E := 7) (U := S) (by unfold takeE; rw [if_neg (by omega), if_neg (by omega)]) (by unfold takeU; rw [if_neg (by omega), if_neg (by omega)]) (Br.cell 0 rfl) (Br.cell 1 rfl) (Br.frozen 1) (by omega) (by omega) (by omega)).mono ?_; rintro e w' ⟨rfl, m2, rfl⟩
            go_wp2_with fail
            refine calls_gen (fun w2 => Blk w2 bm 31 [.int .i64 r, .int .i64 S] ∧ w2.ownsRow (bm + 1) 3 1 _ ts.length (ts.map (Value.int .i64)) ∧ Below w.heap.size w w2) ⟨by (repeat' (first | (with_reducible assumption) | (with_reducible refine Blk.drewN ?_ _) | (with_reducible refine Blk.drew ?_) | ((with_reducible refine Blk.new' _ _ _ _ ?_); (first | rfl | (simp <;> omega))) | (with_reducible apply Blk.set') | ((with_reducible refine Blk.ne ?_ ?_ _); rotate_left; (first | omega | (simp <;> omega))) | (with_reducible refine Blk.alloc ?_ _) | rfl)), own_drewN (own_setCell_lt Or (by simp) _) _, by (repeat' (first | (with_reducible assumption) | (with_reducible exact Below.refl _ _) | (with_reducible refine below_drewN ?_ _) | (with_reducible refine Below.drew ?_) | ((with_reducible refine Below.alloc ?_ ?_ _); rotate_left; (first | omega | (simp <;> omega))) | ((with_reducible refine Below.setCell ?_ ?_ _); rotate_left; (first | omega | (simp <;> omega)))))⟩ ?_
            rintro w3 ⟨B3, O3, L3⟩
            refine (used_any _ _ _ S (B3.cell 1 rfl)).mono ?_; rintro e w' ⟨rfl, m3, rfl⟩
            go_wp2_with fail
            go_roundw
            case rel => exact ⟨k + 1, ts, by omega, by omega, by omega, by go_num, by rw [HS.out], HP.out, by rw [HS.out]; omega, by rw [HS.out]; (repeat' (first | (with_reducible assumption) | (with_reducible refine Blk.drewN ?_ _) | (with_reducible refine Blk.drew ?_) | ((with_reducible refine Blk.new' _ _ _ _ ?_); (first | rfl | (simp <;> omega))) | (with_reducible apply Blk.set') | ((with_reducible refine Blk.ne ?_ ?_ _); rotate_left; (first | omega | (simp <;> omega))) | (with_reducible refine Blk.alloc ?_ _) | rfl)), O3, by (repeat' (first | (with_reducible assumption) | (with_reducible exact Below.refl _ _) | (with_reducible refine below_drewN ?_ _) | (with_reducible refine Below.drew ?_) | ((with_reducible refine Below.alloc ?_ ?_ _); rotate_left; (first | omega | (simp <;> omega))) | ((with_reducible refine Below.setCell ?_ ?_ _); rotate_left; (first | omega | (simp <;> omega)))))⟩
            case measure => simp [intOf]; omega
    · obtain ⟨htl, a, cp, rfl, hI, hIb⟩ := own_ints Or
      have hmx : ts.length ≤ 30 := by omega
      by_cases hA : k < len
      all_goals
        go_wp2_with fail
        refine wp_gen (fun w3 => Blk w3 bm 31 [.int .i64 r, .int .i64 (ts.drop 0).sum] ∧ IntsAt .i64 w3 a ts ∧ Below w.heap.size w w3) ⟨by rw [List.drop_zero, HS.out]; exact Br, hI, Lr⟩ ?_
        clear hI Br Lr
        rintro w3 ⟨B3, I3, L3⟩
        go_loopw [54] (fun i wr => ∃ j : Nat, j ≤ ts.length ∧ i = .int .i64 j ∧ Blk wr bm 31 [.int .i64 r, .int .i64 (ts.drop j).sum] ∧ IntsAt .i64 wr a ts ∧ Below w.heap.size w wr) (fun i _ => ts.length - (intOf i).toNat)
        case atStart => exact ⟨0, Nat.zero_le _, rfl, B3, I3, L3⟩
        case round =>
          obtain ⟨j, hj, rfl, Bq, Iq, Lq⟩ := hrel
          by_cases hjl : j < ts.length
          · obtain ⟨b, off, rfl, hc⟩ := Iq j hjl
            have hbb := hIb _ rfl
            have hIq := hid Iq
            clear Iq
            have h1 := sum_drop ts j hjl
            have h2 := HP.out _ (List.getElem_mem hjl)
            have h3 := sum_nn (ts.drop (j+1)) (fun t ht => HP.out t (List.mem_of_mem_drop ht))
            have h4 : (ts.drop j).sum ≤ 9223372036854775807 := by
              have e1 := HS.out
              have e2 : ts.sum = (ts.take j).sum + (ts.drop j).sum := by rw [← List.sum_append, List.take_append_drop]
              have e3 := sum_nn (ts.take j) (fun t ht => HP.out t (List.mem_of_mem_take ht))
              omega
            generalize ts[j] = z at *
            generalize hS2 : (ts.drop (j+1)).sum = S2 at *
            have HS2 := hid hS2
            clear hS2
            generalize (ts.drop j).sum = S1 at *
            have H1 := hid h1
            clear h1
            go_wp2_with fail
            refine (give_eq _ _ _ S1 z (E := 0) (U := S2) (by unfold giveE; have := H1.out; rw [if_neg (by omega)]) (by unfold giveU; have := H1.out; rw [if_neg (by omega)]; omega) (Bq.cell 1 rfl) (Bq.frozen 1) (by have := H1.out; omega) (by omega)).mono ?_; rintro e w' ⟨rfl, m3, rfl⟩
            go_wp2_with fail
            go_roundw
            case rel => exact ⟨j + 1, by omega, by go_num, by rw [HS2.out]; (repeat' (first | (with_reducible assumption) | (with_reducible refine Blk.drewN ?_ _) | (with_reducible refine Blk.drew ?_) | ((with_reducible refine Blk.new' _ _ _ _ ?_); (first | rfl | (simp <;> omega))) | (with_reducible apply Blk.set') | ((with_reducible refine Blk.ne ?_ ?_ _); rotate_left; (first | omega | (simp <;> omega))) | (with_reducible refine Blk.alloc ?_ _) | rfl)), IntsAt.drewN (hIq.out.ne (by rintro x ⟨rfl⟩; simp at hbb ⊢; omega) _) _, by (repeat' (first | (with_reducible assumption) | (with_reducible exact Below.refl _ _) | (with_reducible refine below_drewN ?_ _) | (with_reducible refine Below.drew ?_) | ((with_reducible refine Below.alloc ?_ ?_ _); rotate_left; (first | omega | (simp <;> omega))) | ((with_reducible refine Below.setCell ?_ ?_ _); rotate_left; (first | omega | (simp <;> omega)))))⟩
            case measure => simp [intOf]; omega
          · obtain rfl : j = ts.length := by omega
            rw [List.drop_length, List.sum_nil] at Bq
            clear Iq
            go_wp2_with fail
            refine (awake_any _).mono ?_; rintro e w4 ⟨rfl, L4⟩
            have B4 := Bq.below L4 Bq.lt
            have L5 : Below w.heap.size w w4 := Lq.trans (L4.mono Lq.size)
            go_wp2_with fail
            refine (used_any _ _ _ 0 (B4.cell 1 rfl)).mono ?_; rintro e w' ⟨rfl, m5, rfl⟩
            go_wp2_with fail
            refine (free_any _ _ _ r 0 (by exact B4.cell 0 rfl) (by exact B4.cell 1 rfl) (by omega) (by omega) (by omega)).mono ?_; rintro e w' ⟨rfl, m6, rfl⟩
            go_wp2_with fail
            refine (room_any _ _ _ r (by exact B4.cell 0 rfl)).mono ?_; rintro e w' ⟨rfl, m7, rfl⟩
            go_wp2_with fail
            go_ret
            exact ⟨ret_bool (by simp), by (repeat' (first | (with_reducible assumption) | (with_reducible exact Below.refl _ _) | (with_reducible refine below_drewN ?_ _) | (with_reducible refine Below.drew ?_) | ((with_reducible refine Below.alloc ?_ ?_ _); rotate_left; (first | omega | (simp <;> omega))) | ((with_reducible refine Below.setCell ?_ ?_ _); rotate_left; (first | omega | (simp <;> omega)))))⟩
end Go.Proofs.Ytlofhcooppdkjaa
