/- MeterPlays, walked. -/
import Derived.Test.YtlofhcooppdkjaaMeterAw
import Derived.Test.YtlofhcooppdkjaaOpen
namespace Go.Proofs.Ytlofhcooppdkjaa
open Go.RowKit
set_option linter.unusedVariables false
theorem refTake_eq (w : World) (r u n : Int) {E U : Int} (hE : takeE r u n = E) (hU : takeU r u n = U) (h0 : 0 ≤ u) (h1 : u ≤ r) (h2 : r ≤ 9223372036854775807) :
    Calls Try.prog 21 #[.agg #[.int .i64 r, .int .i64 u], .int .i64 n] w (RetB (.tuple #[.agg #[.int .i64 r, .int .i64 U], .int .i64 E]) w.heap.size w) := by
  have := refTake_any w r u n h0 h1 h2
  rw [show rTakeU r u n = U from by rw [← hU]; unfold rTakeU takeU; split <;> (try split) <;> omega, show rTakeE r u n = E from by rw [← hE]; unfold rTakeE takeE; split <;> (try split) <;> omega] at this
  exact this
theorem refGive_eq (w : World) (r u n : Int) {E U : Int} (hE : giveE u n = E) (hU : giveU u n = U) (h0 : 0 ≤ u) (h1 : u ≤ r) (h2 : r ≤ 9223372036854775807) :
    Calls Try.prog 22 #[.agg #[.int .i64 r, .int .i64 u], .int .i64 n] w (RetB (.tuple #[.agg #[.int .i64 r, .int .i64 U], .int .i64 E]) w.heap.size w) := by
  subst hE hU; exact refGive_any w r u n h0 h1 h2
theorem refTry_eq (w : World) (lost : Bool) (f : Int) {E F : Int} (hE : rTryE lost f = E) (hF : rTryF lost f = F) (h1 : -1 ≤ f) (h2 : f ≤ 9223372036854775807) :
    Calls Try.prog 23 #[.agg #[.bool lost, .int .i64 f]] w (RetB (.tuple #[.agg #[.bool lost, .int .i64 F], .int .i64 E]) w.heap.size w) := by
  subst hE hF; exact refTry_any w lost f h1 h2


set_option maxRecDepth 100000 in
set_option maxHeartbeats 4000000 in
theorem meterPlays_walk (room : Int) (la : Option Addr) (len cap : Nat) (w : World) (hroom : (Lit.int .i64 room).wf = true) (hl : OkT Try.prog w 6 38 [.slice la len cap]) :
    Calls Try.prog 7 #[.int .i64 room, .slice la len cap] w (RetB (.bool true) w.heap.size w) := by
  have hr2 := (wf_i64 hroom).2
  have hacts : len ≤ 9223372036854775807 ∧ ∀ i, i < len → ∃ b off kd n, la = some ⟨b, off, none⟩ ∧ b < w.heap.size ∧ w.cell? ⟨b, off + i * 2, none⟩ = some (.int .i64 kd) ∧ w.cell? ⟨b, off + i * 2 + 1, none⟩ = some (.int .i64 n) ∧
      -9223372036854775808 ≤ n ∧ n ≤ 9223372036854775807 := by
    obtain ⟨h1, h2, h3⟩ := okT_slice Try.underlying38 (sz := 2) (by kernel_rfl) (by omega) hl
    refine ⟨by omega, fun i hi => ?_⟩
    obtain ⟨b, off, cs, ha, hb, hlen, hok, hc⟩ := h3 i (by omega)
    match cs, hlen with
    | [c0, c1], _ =>
      obtain ⟨kd, hk0, _⟩ := okT_int Try.underlying3 (okT_fld 0 (T := 3) (o := 0) Try.underlying46 rfl rfl rfl (by kernel_rfl) (by simp) hok)
      obtain ⟨n, hk1, hw⟩ := okT_int Try.underlying3 (okT_fld 1 (T := 3) (o := 1) Try.underlying46 rfl rfl rfl (by kernel_rfl) (by simp) hok)
      simp only [List.getElem_cons_zero, List.getElem_cons_succ] at hk0 hk1
      subst hk0 hk1
      exact ⟨b, off, kd, n, ha, hb, hc 0 (by simp), by rw [Nat.add_assoc]; exact hc 1 (by simp), wf_i64 hw⟩
  obtain ⟨hlen, HA'⟩ := hacts
  have HA := hid HA'
  clear hl hroom HA'
  go_enter Try.func7, Try.ntmps7
  go_wp2_with fail
  refine (made_any _ _).mono ?_; rintro e w1 ⟨rfl, m1, rfl⟩
  obtain ⟨r, hr⟩ : ∃ r, max room 0 = r := ⟨_, rfl⟩
  rw [hr]
  have hr0 : 0 ≤ r := by omega
  have hr1 : r ≤ 9223372036854775807 := by omega
  have hneg : room < 0 → r = 0 := by omega
  have hpos : ¬ room < 0 → r = room := by omega
  have HN := hid hneg
  have HP := hid hpos
  clear hr hneg hpos hr2
  have HH : Hid ((room < 0 → r = 0) ∧ (0 ≤ room → r = room)) := ⟨HN.out, fun h => HP.out (by omega)⟩
  clear HN HP
  go_wp2_with (refine wpList_val (o := ⟨some 22, _, _, _, _, _⟩) rfl (.int .i64 r) ?hrun ?_)
  case hrun =>
    have := HH.out
    by_cases hroom : room < 0
    · have e := this.1 hroom; subst e; simp [go_sem]; intros; omega
    · have e := this.2 (by omega); subst e; simp [go_sem]; omega
  clear HH
  go_wp2_with fail
  refine calls_gen (fun w2 => Blk w2 (w.heap.size + 1) 40 [.int .i64 r, .int .i64 0, .bool false, .int .i64 0] ∧ Blk w2 (w.heap.size + 2) 42 [.int .i64 r, .int .i64 0] ∧ Blk w2 (w.heap.size + 3) 44 [.bool false, .int .i64 (-1)] ∧ Below w.heap.size w w2)
    ⟨by (repeat' (first | (with_reducible assumption) | (with_reducible apply Blk.drewN) | (with_reducible apply Blk.drew) | ((with_reducible apply Blk.new'); (first | rfl | (simp <;> omega))) | (with_reducible apply Blk.set') | (with_reducible apply Blk.ne) | (with_reducible apply Blk.alloc) | rfl | omega | (simp <;> omega))), by (repeat' (first | (with_reducible assumption) | (with_reducible apply Blk.drewN) | (with_reducible apply Blk.drew) | ((with_reducible apply Blk.new'); (first | rfl | (simp <;> omega))) | (with_reducible apply Blk.set') | (with_reducible apply Blk.ne) | (with_reducible apply Blk.alloc) | rfl | omega | (simp <;> omega))), by (repeat' (first | (with_reducible assumption) | (with_reducible apply Blk.drewN) | (with_reducible apply Blk.drew) | ((with_reducible apply Blk.new'); (first | rfl | (simp <;> omega))) | (with_reducible apply Blk.set') | (with_reducible apply Blk.ne) | (with_reducible apply Blk.alloc) | rfl | omega | (simp <;> omega))), by (repeat' (first | (with_reducible assumption) | (with_reducible exact Below.refl _ _) | (with_reducible refine below_drewN ?_ _) | (with_reducible refine Below.drew ?_) | ((with_reducible refine Below.alloc ?_ ?_ _); rotate_left; (first | omega | (simp <;> omega))) | ((with_reducible refine Below.setCell ?_ ?_ _); rotate_left; (first | omega | (simp <;> omega)))))⟩ ?_
  obtain ⟨bd, hbd⟩ : ∃ b, w.heap.size + 1 = b := ⟨_, rfl⟩
  obtain ⟨bm, hbm⟩ : ∃ b, w.heap.size + 1 + 1 = b := ⟨_, rfl⟩
  obtain ⟨bl, hbl⟩ : ∃ b, w.heap.size + 1 + 1 + 1 = b := ⟨_, rfl⟩
  rw [show w.heap.size + 2 = w.heap.size + 1 + 1 from rfl, show w.heap.size + 3 = w.heap.size + 1 + 1 + 1 from rfl, hbl, hbm, hbd]
  have hlt1 : w.heap.size < bd := by omega
  have hlt2 : bd < bm := by omega
  have hlt3 : bm < bl := by omega
  clear hbd hbm hbl
  rintro w2 ⟨D2, M2, K2, L2⟩
  refine (awake_any _).mono ?_; rintro e w3 ⟨rfl, A3⟩
  replace D2 := D2.below A3 D2.lt
  replace M2 := M2.below A3 M2.lt
  replace K2 := K2.below A3 K2.lt
  replace L2 := L2.trans (A3.mono L2.size)
  clear A3
  go_wp2_with fail
  go_loopw [8] (fun i wr => ∃ (k : Nat) (u f : Int) (lost : Bool), k ≤ len ∧ k ≤ 40 ∧ i = .int .i64 k ∧ 0 ≤ u ∧ u ≤ r ∧ -1 ≤ f ∧ f ≤ 1073741824 ∧ Blk wr bd 40 [.int .i64 r, .int .i64 u, .bool lost, .int .i64 (f + 1)] ∧ Blk wr bm 42 [.int .i64 r, .int .i64 u] ∧ Blk wr bl 44 [.bool lost, .int .i64 f] ∧ Below w.heap.size w wr) (fun i _ => len - (intOf i).toNat)
  case atStart => exact ⟨0, 0, -1, false, Nat.zero_le _, by omega, rfl, by omega, by omega, by omega, by omega, by exact D2, M2, K2, L2⟩
  case round =>
    obtain ⟨k, u, f, lost, hk, hk40, rfl, hu0, hu1, hf0, hf1, Dr, Mr, Kr, Lr⟩ := hrel
    by_cases hlt : k < len ∧ k < 40
    · obtain ⟨hltA, hltB⟩ := hlt
      obtain ⟨b, off, kd, n, rfl, hb, hc0, hc1, hn0, hn1⟩ := HA.out k hltA
      have hd0 : wr.cell? ⟨b, off + k * 2, none⟩ = some (.int .i64 kd) := by rw [Lr.cell (p := ⟨b, off + k * 2, none⟩) hb]; exact hc0
      have hd1 : wr.cell? ⟨b, off + k * 2 + 1, none⟩ = some (.int .i64 n) := by rw [Lr.cell (p := ⟨b, off + k * 2 + 1, none⟩) hb]; exact hc1
      by_cases h1 : kd = 1
      · subst h1
        obtain ⟨E, hE⟩ : ∃ E, takeE r u n = E := ⟨_, rfl⟩
        obtain ⟨U, hU⟩ : ∃ U, takeU r u n = U := ⟨_, rfl⟩
        have hU0 : 0 ≤ U ∧ U ≤ r := by subst hU; unfold takeU; split <;> (try split) <;> omega
        obtain ⟨hU0, hU1⟩ := hU0
        have HE := hid hE
        have HU := hid hU
        clear hE hU
        obtain ⟨F, hF⟩ : ∃ F, f = F := ⟨_, rfl⟩
        subst hF
        obtain ⟨lost', hlost⟩ : ∃ l, lost = l := ⟨_, rfl⟩
        subst hlost
        go_wp2_with fail
        refine (take_eq _ _ _ r u n HE.out HU.out (Dr.cell 0 rfl) (Dr.cell 1 rfl) (Dr.frozen 1) (by omega) (by omega) (by omega)).mono ?_; rintro e w' ⟨rfl, m4, rfl⟩
        have c0 := (show Blk ((wr.setCell ⟨bd, 0 + 1, none⟩ (.int .i64 U)).drewN m4) bm 42 [.int .i64 r, .int .i64 u] by (repeat' (first | (with_reducible assumption) | (with_reducible apply Blk.drewN) | (with_reducible apply Blk.drew) | ((with_reducible apply Blk.new'); (first | rfl | (simp <;> omega))) | (with_reducible apply Blk.set') | (with_reducible apply Blk.ne) | (with_reducible apply Blk.alloc) | rfl | omega | (simp <;> omega)))).cell 0 rfl
        have c1 := (show Blk ((wr.setCell ⟨bd, 0 + 1, none⟩ (.int .i64 U)).drewN m4) bm 42 [.int .i64 r, .int .i64 u] by (repeat' (first | (with_reducible assumption) | (with_reducible apply Blk.drewN) | (with_reducible apply Blk.drew) | ((with_reducible apply Blk.new'); (first | rfl | (simp <;> omega))) | (with_reducible apply Blk.set') | (with_reducible apply Blk.ne) | (with_reducible apply Blk.alloc) | rfl | omega | (simp <;> omega)))).cell 1 rfl
        have e0 := (show Blk ((wr.setCell ⟨bd, 0 + 1, none⟩ (.int .i64 U)).drewN m4) bl 44 [.bool lost, .int .i64 f] by (repeat' (first | (with_reducible assumption) | (with_reducible apply Blk.drewN) | (with_reducible apply Blk.drew) | ((with_reducible apply Blk.new'); (first | rfl | (simp <;> omega))) | (with_reducible apply Blk.set') | (with_reducible apply Blk.ne) | (with_reducible apply Blk.alloc) | rfl | omega | (simp <;> omega)))).cell 0 rfl
        have e1 := (show Blk ((wr.setCell ⟨bd, 0 + 1, none⟩ (.int .i64 U)).drewN m4) bl 44 [.bool lost, .int .i64 f] by (repeat' (first | (with_reducible assumption) | (with_reducible apply Blk.drewN) | (with_reducible apply Blk.drew) | ((with_reducible apply Blk.new'); (first | rfl | (simp <;> omega))) | (with_reducible apply Blk.set') | (with_reducible apply Blk.ne) | (with_reducible apply Blk.alloc) | rfl | omega | (simp <;> omega)))).cell 1 rfl
        go_wp2_with fail
        clear c0 c1 e0 e1
        refine calls_gen (fun w1 => Blk w1 bd 40 [.int .i64 r, .int .i64 U, .bool lost, .int .i64 (f + 1)] ∧ Blk w1 bm 42 [.int .i64 r, .int .i64 u] ∧ Blk w1 bl 44 [.bool lost, .int .i64 f] ∧ Below w.heap.size w w1) ⟨by (repeat' (first | (with_reducible assumption) | (with_reducible apply Blk.drewN) | (with_reducible apply Blk.drew) | ((with_reducible apply Blk.new'); (first | rfl | (simp <;> omega))) | (with_reducible apply Blk.set') | (with_reducible apply Blk.ne) | (with_reducible apply Blk.alloc) | rfl | omega | (simp <;> omega))), by (repeat' (first | (with_reducible assumption) | (with_reducible apply Blk.drewN) | (with_reducible apply Blk.drew) | ((with_reducible apply Blk.new'); (first | rfl | (simp <;> omega))) | (with_reducible apply Blk.set') | (with_reducible apply Blk.ne) | (with_reducible apply Blk.alloc) | rfl | omega | (simp <;> omega))), by (repeat' (first | (with_reducible assumption) | (with_reducible apply Blk.drewN) | (with_reducible apply Blk.drew) | ((with_reducible apply Blk.new'); (first | rfl | (simp <;> omega))) | (with_reducible apply Blk.set') | (with_reducible apply Blk.ne) | (with_reducible apply Blk.alloc) | rfl | omega | (simp <;> omega))), by (repeat' (first | (with_reducible assumption) | (with_reducible exact Below.refl _ _) | (with_reducible refine below_drewN ?_ _) | (with_reducible refine Below.drew ?_) | ((with_reducible refine Below.alloc ?_ ?_ _); rotate_left; (first | omega | (simp <;> omega))) | ((with_reducible refine Below.setCell ?_ ?_ _); rotate_left; (first | omega | (simp <;> omega)))))⟩ ?_
        rintro w4 ⟨D4, M4, K4, L4⟩
        refine (refTake_eq _ r u n HE.out HU.out (by omega) (by omega) (by omega)).mono ?_; rintro e w5 ⟨rfl, R5⟩
        replace D4 := D4.below R5 D4.lt
        replace M4 := M4.below R5 M4.lt
        replace K4 := K4.below R5 K4.lt
        replace L4 := L4.trans (R5.mono L4.size)
        clear R5
        have c0 := M4.cell 0 rfl
        have c1 := M4.cell 1 rfl
        have z0 := M4.frozen 0
        have z1 := M4.frozen 1
        have hbs := M4.lt
        have e0 := K4.cell 0 rfl
        have e1 := K4.cell 1 rfl
        have y0 := K4.frozen 0
        have y1 := K4.frozen 1
        have hbs2 := K4.lt
        go_wp2_with fail
        clear c0 c1 z0 z1 e0 e1 y0 y1
        refine wp_gen (fun w1 => Blk w1 bd 40 [.int .i64 r, .int .i64 U, .bool lost, .int .i64 (f + 1)] ∧ Blk w1 bm 42 [.int .i64 r, .int .i64 U] ∧ Blk w1 bl 44 [.bool lost, .int .i64 f] ∧ Below w.heap.size w w1) ⟨by (repeat' (first | (with_reducible assumption) | (with_reducible apply Blk.drewN) | (with_reducible apply Blk.drew) | ((with_reducible apply Blk.new'); (first | rfl | (simp <;> omega))) | (with_reducible apply Blk.set') | (with_reducible apply Blk.ne) | (with_reducible apply Blk.alloc) | rfl | omega | (simp <;> omega))), by (repeat' (first | (with_reducible assumption) | (with_reducible apply Blk.drewN) | (with_reducible apply Blk.drew) | ((with_reducible apply Blk.new'); (first | rfl | (simp <;> omega))) | (with_reducible apply Blk.set') | (with_reducible apply Blk.ne) | (with_reducible apply Blk.alloc) | rfl | omega | (simp <;> omega))), by (repeat' (first | (with_reducible assumption) | (with_reducible apply Blk.drewN) | (with_reducible apply Blk.drew) | ((with_reducible apply Blk.new'); (first | rfl | (simp <;> omega))) | (with_reducible apply Blk.set') | (with_reducible apply Blk.ne) | (with_reducible apply Blk.alloc) | rfl | omega | (simp <;> omega))), by (repeat' (first | (with_reducible assumption) | (with_reducible exact Below.refl _ _) | (with_reducible refine below_drewN ?_ _) | (with_reducible refine Below.drew ?_) | ((with_reducible refine Below.alloc ?_ ?_ _); rotate_left; (first | omega | (simp <;> omega))) | ((with_reducible refine Below.setCell ?_ ?_ _); rotate_left; (first | omega | (simp <;> omega)))))⟩ ?_
        rintro w6 ⟨D6, M6, K6, L6⟩
        have q0 := M6.cell 0 rfl
        have q1 := M6.cell 1 rfl
        have q2 := K6.cell 0 rfl
        go_quiet (first
          | (go_at_call 18; exact Calls.quiet_of (room_any _ _ _ r (by exact D6.cell 0 rfl)))
          | (go_at_call 15; exact Calls.quiet_of (used_any _ _ _ _ (by exact D6.cell 1 rfl)))
          | (go_at_call 17; exact Calls.quiet_of (free_any _ _ _ r _ (by exact D6.cell 0 rfl) (by exact D6.cell 1 rfl) (by omega) (by omega) (by omega)))
          | (go_at_call 12; exact Calls.quiet_of (lost_any _ _ _ _ (by exact D6.cell 2 rfl))))
        clear q0 q1 q2
        go_wp2_with fail
        go_roundw
        case rel => refine ⟨k + 1, _, _, _, by omega, by omega, by go_num, ?_, ?_, ?_, ?_, by exact D6, by exact M6, by exact K6, by exact below_drewN L6 _⟩ <;> omega
        case measure => (simp [intOf] <;> omega)
      by_cases h1 : kd = 2
      · subst h1
        obtain ⟨E, hE⟩ : ∃ E, giveE u n = E := ⟨_, rfl⟩
        obtain ⟨U, hU⟩ : ∃ U, giveU u n = U := ⟨_, rfl⟩
        have hU0 : 0 ≤ U ∧ U ≤ r := by subst hU; unfold giveU; split <;> omega
        obtain ⟨hU0, hU1⟩ := hU0
        have HE := hid hE
        have HU := hid hU
        clear hE hU
        obtain ⟨F, hF⟩ : ∃ F, f = F := ⟨_, rfl⟩
        subst hF
        obtain ⟨lost', hlost⟩ : ∃ l, lost = l := ⟨_, rfl⟩
        subst hlost
        go_wp2_with fail
        refine (give_eq _ _ _ u n HE.out HU.out (Dr.cell 1 rfl) (Dr.frozen 1) (by omega) (by omega)).mono ?_; rintro e w' ⟨rfl, m4, rfl⟩
        have c0 := (show Blk ((wr.setCell ⟨bd, 0 + 1, none⟩ (.int .i64 U)).drewN m4) bm 42 [.int .i64 r, .int .i64 u] by (repeat' (first | (with_reducible assumption) | (with_reducible apply Blk.drewN) | (with_reducible apply Blk.drew) | ((with_reducible apply Blk.new'); (first | rfl | (simp <;> omega))) | (with_reducible apply Blk.set') | (with_reducible apply Blk.ne) | (with_reducible apply Blk.alloc) | rfl | omega | (simp <;> omega)))).cell 0 rfl
        have c1 := (show Blk ((wr.setCell ⟨bd, 0 + 1, none⟩ (.int .i64 U)).drewN m4) bm 42 [.int .i64 r, .int .i64 u] by (repeat' (first | (with_reducible assumption) | (with_reducible apply Blk.drewN) | (with_reducible apply Blk.drew) | ((with_reducible apply Blk.new'); (first | rfl | (simp <;> omega))) | (with_reducible apply Blk.set') | (with_reducible apply Blk.ne) | (with_reducible apply Blk.alloc) | rfl | omega | (simp <;> omega)))).cell 1 rfl
        have e0 := (show Blk ((wr.setCell ⟨bd, 0 + 1, none⟩ (.int .i64 U)).drewN m4) bl 44 [.bool lost, .int .i64 f] by (repeat' (first | (with_reducible assumption) | (with_reducible apply Blk.drewN) | (with_reducible apply Blk.drew) | ((with_reducible apply Blk.new'); (first | rfl | (simp <;> omega))) | (with_reducible apply Blk.set') | (with_reducible apply Blk.ne) | (with_reducible apply Blk.alloc) | rfl | omega | (simp <;> omega)))).cell 0 rfl
        have e1 := (show Blk ((wr.setCell ⟨bd, 0 + 1, none⟩ (.int .i64 U)).drewN m4) bl 44 [.bool lost, .int .i64 f] by (repeat' (first | (with_reducible assumption) | (with_reducible apply Blk.drewN) | (with_reducible apply Blk.drew) | ((with_reducible apply Blk.new'); (first | rfl | (simp <;> omega))) | (with_reducible apply Blk.set') | (with_reducible apply Blk.ne) | (with_reducible apply Blk.alloc) | rfl | omega | (simp <;> omega)))).cell 1 rfl
        go_wp2_with fail
        clear c0 c1 e0 e1
        refine calls_gen (fun w1 => Blk w1 bd 40 [.int .i64 r, .int .i64 U, .bool lost, .int .i64 (f + 1)] ∧ Blk w1 bm 42 [.int .i64 r, .int .i64 u] ∧ Blk w1 bl 44 [.bool lost, .int .i64 f] ∧ Below w.heap.size w w1) ⟨by (repeat' (first | (with_reducible assumption) | (with_reducible apply Blk.drewN) | (with_reducible apply Blk.drew) | ((with_reducible apply Blk.new'); (first | rfl | (simp <;> omega))) | (with_reducible apply Blk.set') | (with_reducible apply Blk.ne) | (with_reducible apply Blk.alloc) | rfl | omega | (simp <;> omega))), by (repeat' (first | (with_reducible assumption) | (with_reducible apply Blk.drewN) | (with_reducible apply Blk.drew) | ((with_reducible apply Blk.new'); (first | rfl | (simp <;> omega))) | (with_reducible apply Blk.set') | (with_reducible apply Blk.ne) | (with_reducible apply Blk.alloc) | rfl | omega | (simp <;> omega))), by (repeat' (first | (with_reducible assumption) | (with_reducible apply Blk.drewN) | (with_reducible apply Blk.drew) | ((with_reducible apply Blk.new'); (first | rfl | (simp <;> omega))) | (with_reducible apply Blk.set') | (with_reducible apply Blk.ne) | (with_reducible apply Blk.alloc) | rfl | omega | (simp <;> omega))), by (repeat' (first | (with_reducible assumption) | (with_reducible exact Below.refl _ _) | (with_reducible refine below_drewN ?_ _) | (with_reducible refine Below.drew ?_) | ((with_reducible refine Below.alloc ?_ ?_ _); rotate_left; (first | omega | (simp <;> omega))) | ((with_reducible refine Below.setCell ?_ ?_ _); rotate_left; (first | omega | (simp <;> omega)))))⟩ ?_
        rintro w4 ⟨D4, M4, K4, L4⟩
        refine (refGive_eq _ r u n HE.out HU.out (by omega) (by omega) (by omega)).mono ?_; rintro e w5 ⟨rfl, R5⟩
        replace D4 := D4.below R5 D4.lt
        replace M4 := M4.below R5 M4.lt
        replace K4 := K4.below R5 K4.lt
        replace L4 := L4.trans (R5.mono L4.size)
        clear R5
        have c0 := M4.cell 0 rfl
        have c1 := M4.cell 1 rfl
        have z0 := M4.frozen 0
        have z1 := M4.frozen 1
        have hbs := M4.lt
        have e0 := K4.cell 0 rfl
        have e1 := K4.cell 1 rfl
        have y0 := K4.frozen 0
        have y1 := K4.frozen 1
        have hbs2 := K4.lt
        go_wp2_with fail
        clear c0 c1 z0 z1 e0 e1 y0 y1
        refine wp_gen (fun w1 => Blk w1 bd 40 [.int .i64 r, .int .i64 U, .bool lost, .int .i64 (f + 1)] ∧ Blk w1 bm 42 [.int .i64 r, .int .i64 U] ∧ Blk w1 bl 44 [.bool lost, .int .i64 f] ∧ Below w.heap.size w w1) ⟨by (repeat' (first | (with_reducible assumption) | (with_reducible apply Blk.drewN) | (with_reducible apply Blk.drew) | ((with_reducible apply Blk.new'); (first | rfl | (simp <;> omega))) | (with_reducible apply Blk.set') | (with_reducible apply Blk.ne) | (with_reducible apply Blk.alloc) | rfl | omega | (simp <;> omega))), by (repeat' (first | (with_reducible assumption) | (with_reducible apply Blk.drewN) | (with_reducible apply Blk.drew) | ((with_reducible apply Blk.new'); (first | rfl | (simp <;> omega))) | (with_reducible apply Blk.set') | (with_reducible apply Blk.ne) | (with_reducible apply Blk.alloc) | rfl | omega | (simp <;> omega))), by (repeat' (first | (with_reducible assumption) | (with_reducible apply Blk.drewN) | (with_reducible apply Blk.drew) | ((with_reducible apply Blk.new'); (first | rfl | (simp <;> omega))) | (with_reducible apply Blk.set') | (with_reducible apply Blk.ne) | (with_reducible apply Blk.alloc) | rfl | omega | (simp <;> omega))), by (repeat' (first | (with_reducible assumption) | (with_reducible exact Below.refl _ _) | (with_reducible refine below_drewN ?_ _) | (with_reducible refine Below.drew ?_) | ((with_reducible refine Below.alloc ?_ ?_ _); rotate_left; (first | omega | (simp <;> omega))) | ((with_reducible refine Below.setCell ?_ ?_ _); rotate_left; (first | omega | (simp <;> omega)))))⟩ ?_
        rintro w6 ⟨D6, M6, K6, L6⟩
        have q0 := M6.cell 0 rfl
        have q1 := M6.cell 1 rfl
        have q2 := K6.cell 0 rfl
        go_quiet (first
          | (go_at_call 18; exact Calls.quiet_of (room_any _ _ _ r (by exact D6.cell 0 rfl)))
          | (go_at_call 15; exact Calls.quiet_of (used_any _ _ _ _ (by exact D6.cell 1 rfl)))
          | (go_at_call 17; exact Calls.quiet_of (free_any _ _ _ r _ (by exact D6.cell 0 rfl) (by exact D6.cell 1 rfl) (by omega) (by omega) (by omega)))
          | (go_at_call 12; exact Calls.quiet_of (lost_any _ _ _ _ (by exact D6.cell 2 rfl))))
        clear q0 q1 q2
        go_wp2_with fail
        go_roundw
        case rel => refine ⟨k + 1, _, _, _, by omega, by omega, by go_num, ?_, ?_, ?_, ?_, by exact D6, by exact M6, by exact K6, by exact below_drewN L6 _⟩ <;> omega
        case measure => (simp [intOf] <;> omega)
      by_cases h1 : kd = 3
      · subst h1
        obtain ⟨E, hE⟩ : ∃ E, rTryE lost f = E := ⟨_, rfl⟩
        obtain ⟨F, hF⟩ : ∃ F, rTryF lost f = F := ⟨_, rfl⟩
        have hF0 : -1 ≤ F ∧ F ≤ 1073741824 := by subst hF; unfold rTryF; split <;> (try split) <;> (try split) <;> omega
        obtain ⟨hF0, hF1⟩ := hF0
        have HE := hid hE
        have HF := hid hF
        clear hE hF
        obtain ⟨U, hU⟩ : ∃ U, u = U := ⟨_, rfl⟩
        subst hU
        go_wp2_with fail
        refine (try_eq _ _ _ lost (f + 1) (E := E) (A := F + 1) (by rw [← HE.out]; unfold tryE rTryE; split <;> (try split) <;> (try split) <;> omega) (by rw [← HF.out]; unfold tryA rTryF; split <;> (try split) <;> (try split) <;> omega) (Dr.cell 2 rfl) (Dr.cell 3 rfl) (Dr.frozen 3) (by omega) (by omega)).mono ?_; rintro e w' ⟨rfl, m4, rfl⟩
        have c0 := (show Blk ((wr.setCell ⟨bd, 2 + 1, none⟩ (.int .i64 (F + 1))).drewN m4) bm 42 [.int .i64 r, .int .i64 u] by (repeat' (first | (with_reducible assumption) | (with_reducible apply Blk.drewN) | (with_reducible apply Blk.drew) | ((with_reducible apply Blk.new'); (first | rfl | (simp <;> omega))) | (with_reducible apply Blk.set') | (with_reducible apply Blk.ne) | (with_reducible apply Blk.alloc) | rfl | omega | (simp <;> omega)))).cell 0 rfl
        have c1 := (show Blk ((wr.setCell ⟨bd, 2 + 1, none⟩ (.int .i64 (F + 1))).drewN m4) bm 42 [.int .i64 r, .int .i64 u] by (repeat' (first | (with_reducible assumption) | (with_reducible apply Blk.drewN) | (with_reducible apply Blk.drew) | ((with_reducible apply Blk.new'); (first | rfl | (simp <;> omega))) | (with_reducible apply Blk.set') | (with_reducible apply Blk.ne) | (with_reducible apply Blk.alloc) | rfl | omega | (simp <;> omega)))).cell 1 rfl
        have e0 := (show Blk ((wr.setCell ⟨bd, 2 + 1, none⟩ (.int .i64 (F + 1))).drewN m4) bl 44 [.bool lost, .int .i64 f] by (repeat' (first | (with_reducible assumption) | (with_reducible apply Blk.drewN) | (with_reducible apply Blk.drew) | ((with_reducible apply Blk.new'); (first | rfl | (simp <;> omega))) | (with_reducible apply Blk.set') | (with_reducible apply Blk.ne) | (with_reducible apply Blk.alloc) | rfl | omega | (simp <;> omega)))).cell 0 rfl
        have e1 := (show Blk ((wr.setCell ⟨bd, 2 + 1, none⟩ (.int .i64 (F + 1))).drewN m4) bl 44 [.bool lost, .int .i64 f] by (repeat' (first | (with_reducible assumption) | (with_reducible apply Blk.drewN) | (with_reducible apply Blk.drew) | ((with_reducible apply Blk.new'); (first | rfl | (simp <;> omega))) | (with_reducible apply Blk.set') | (with_reducible apply Blk.ne) | (with_reducible apply Blk.alloc) | rfl | omega | (simp <;> omega)))).cell 1 rfl
        go_wp2_with fail
        clear c0 c1 e0 e1
        refine calls_gen (fun w1 => Blk w1 bd 40 [.int .i64 r, .int .i64 u, .bool lost, .int .i64 (F + 1)] ∧ Blk w1 bm 42 [.int .i64 r, .int .i64 u] ∧ Blk w1 bl 44 [.bool lost, .int .i64 f] ∧ Below w.heap.size w w1) ⟨by (repeat' (first | (with_reducible assumption) | (with_reducible apply Blk.drewN) | (with_reducible apply Blk.drew) | ((with_reducible apply Blk.new'); (first | rfl | (simp <;> omega))) | (with_reducible apply Blk.set') | (with_reducible apply Blk.ne) | (with_reducible apply Blk.alloc) | rfl | omega | (simp <;> omega))), by (repeat' (first | (with_reducible assumption) | (with_reducible apply Blk.drewN) | (with_reducible apply Blk.drew) | ((with_reducible apply Blk.new'); (first | rfl | (simp <;> omega))) | (with_reducible apply Blk.set') | (with_reducible apply Blk.ne) | (with_reducible apply Blk.alloc) | rfl | omega | (simp <;> omega))), by (repeat' (first | (with_reducible assumption) | (with_reducible apply Blk.drewN) | (with_reducible apply Blk.drew) | ((with_reducible apply Blk.new'); (first | rfl | (simp <;> omega))) | (with_reducible apply Blk.set') | (with_reducible apply Blk.ne) | (with_reducible apply Blk.alloc) | rfl | omega | (simp <;> omega))), by (repeat' (first | (with_reducible assumption) | (with_reducible exact Below.refl _ _) | (with_reducible refine below_drewN ?_ _) | (with_reducible refine Below.drew ?_) | ((with_reducible refine Below.alloc ?_ ?_ _); rotate_left; (first | omega | (simp <;> omega))) | ((with_reducible refine Below.setCell ?_ ?_ _); rotate_left; (first | omega | (simp <;> omega)))))⟩ ?_
        rintro w4 ⟨D4, M4, K4, L4⟩
        refine (refTry_eq _ lost f HE.out HF.out (by omega) (by omega)).mono ?_; rintro e w5 ⟨rfl, R5⟩
        replace D4 := D4.below R5 D4.lt
        replace M4 := M4.below R5 M4.lt
        replace K4 := K4.below R5 K4.lt
        replace L4 := L4.trans (R5.mono L4.size)
        clear R5
        have c0 := M4.cell 0 rfl
        have c1 := M4.cell 1 rfl
        have z0 := M4.frozen 0
        have z1 := M4.frozen 1
        have hbs := M4.lt
        have e0 := K4.cell 0 rfl
        have e1 := K4.cell 1 rfl
        have y0 := K4.frozen 0
        have y1 := K4.frozen 1
        have hbs2 := K4.lt
        go_wp2_with fail
        clear c0 c1 z0 z1 e0 e1 y0 y1
        refine wp_gen (fun w1 => Blk w1 bd 40 [.int .i64 r, .int .i64 u, .bool lost, .int .i64 (F + 1)] ∧ Blk w1 bm 42 [.int .i64 r, .int .i64 u] ∧ Blk w1 bl 44 [.bool lost, .int .i64 F] ∧ Below w.heap.size w w1) ⟨by (repeat' (first | (with_reducible assumption) | (with_reducible apply Blk.drewN) | (with_reducible apply Blk.drew) | ((with_reducible apply Blk.new'); (first | rfl | (simp <;> omega))) | (with_reducible apply Blk.set') | (with_reducible apply Blk.ne) | (with_reducible apply Blk.alloc) | rfl | omega | (simp <;> omega))), by (repeat' (first | (with_reducible assumption) | (with_reducible apply Blk.drewN) | (with_reducible apply Blk.drew) | ((with_reducible apply Blk.new'); (first | rfl | (simp <;> omega))) | (with_reducible apply Blk.set') | (with_reducible apply Blk.ne) | (with_reducible apply Blk.alloc) | rfl | omega | (simp <;> omega))), by (repeat' (first | (with_reducible assumption) | (with_reducible apply Blk.drewN) | (with_reducible apply Blk.drew) | ((with_reducible apply Blk.new'); (first | rfl | (simp <;> omega))) | (with_reducible apply Blk.set') | (with_reducible apply Blk.ne) | (with_reducible apply Blk.alloc) | rfl | omega | (simp <;> omega))), by (repeat' (first | (with_reducible assumption) | (with_reducible exact Below.refl _ _) | (with_reducible refine below_drewN ?_ _) | (with_reducible refine Below.drew ?_) | ((with_reducible refine Below.alloc ?_ ?_ _); rotate_left; (first | omega | (simp <;> omega))) | ((with_reducible refine Below.setCell ?_ ?_ _); rotate_left; (first | omega | (simp <;> omega)))))⟩ ?_
        rintro w6 ⟨D6, M6, K6, L6⟩
        have q0 := M6.cell 0 rfl
        have q1 := M6.cell 1 rfl
        have q2 := K6.cell 0 rfl
        go_quiet (first
          | (go_at_call 18; exact Calls.quiet_of (room_any _ _ _ r (by exact D6.cell 0 rfl)))
          | (go_at_call 15; exact Calls.quiet_of (used_any _ _ _ _ (by exact D6.cell 1 rfl)))
          | (go_at_call 17; exact Calls.quiet_of (free_any _ _ _ r _ (by exact D6.cell 0 rfl) (by exact D6.cell 1 rfl) (by omega) (by omega) (by omega)))
          | (go_at_call 12; exact Calls.quiet_of (lost_any _ _ _ _ (by exact D6.cell 2 rfl))))
        clear q0 q1 q2
        go_wp2_with fail
        go_roundw
        case rel => refine ⟨k + 1, _, _, _, by omega, by omega, by go_num, ?_, ?_, ?_, ?_, by exact D6, by exact M6, by exact K6, by exact below_drewN L6 _⟩ <;> omega
        case measure => (simp [intOf] <;> omega)
      by_cases h1 : kd = 4
      · subst h1
        by_cases hna : n < -1
        · obtain ⟨F, hF⟩ : ∃ F : Int, F = -1 := ⟨_, rfl⟩
          have hA : failA n = F + 1 := by subst hF; unfold failA; split <;> omega
          have hF0 : -1 ≤ F ∧ F ≤ 1073741824 := by omega
          obtain ⟨hF0, hF1⟩ := hF0
          have HF := hid hF
          have HFA := hid hA
          clear hF hA
          obtain ⟨U, hU⟩ : ∃ U, u = U := ⟨_, rfl⟩
          subst hU
          go_wp2_with fail
          refine (fail_eq _ _ _ (f + 1) n (A := F + 1) HFA.out (Dr.cell 3 rfl) (Dr.frozen 3)).mono ?_; rintro e w' ⟨rfl, m4, rfl⟩
          have c0 := (show Blk ((wr.setCell ⟨bd, 2 + 1, none⟩ (.int .i64 (F + 1))).drewN m4) bm 42 [.int .i64 r, .int .i64 u] by (repeat' (first | (with_reducible assumption) | (with_reducible apply Blk.drewN) | (with_reducible apply Blk.drew) | ((with_reducible apply Blk.new'); (first | rfl | (simp <;> omega))) | (with_reducible apply Blk.set') | (with_reducible apply Blk.ne) | (with_reducible apply Blk.alloc) | rfl | omega | (simp <;> omega)))).cell 0 rfl
          have c1 := (show Blk ((wr.setCell ⟨bd, 2 + 1, none⟩ (.int .i64 (F + 1))).drewN m4) bm 42 [.int .i64 r, .int .i64 u] by (repeat' (first | (with_reducible assumption) | (with_reducible apply Blk.drewN) | (with_reducible apply Blk.drew) | ((with_reducible apply Blk.new'); (first | rfl | (simp <;> omega))) | (with_reducible apply Blk.set') | (with_reducible apply Blk.ne) | (with_reducible apply Blk.alloc) | rfl | omega | (simp <;> omega)))).cell 1 rfl
          have e0 := (show Blk ((wr.setCell ⟨bd, 2 + 1, none⟩ (.int .i64 (F + 1))).drewN m4) bl 44 [.bool lost, .int .i64 f] by (repeat' (first | (with_reducible assumption) | (with_reducible apply Blk.drewN) | (with_reducible apply Blk.drew) | ((with_reducible apply Blk.new'); (first | rfl | (simp <;> omega))) | (with_reducible apply Blk.set') | (with_reducible apply Blk.ne) | (with_reducible apply Blk.alloc) | rfl | omega | (simp <;> omega)))).cell 0 rfl
          have e1 := (show Blk ((wr.setCell ⟨bd, 2 + 1, none⟩ (.int .i64 (F + 1))).drewN m4) bl 44 [.bool lost, .int .i64 f] by (repeat' (first | (with_reducible assumption) | (with_reducible apply Blk.drewN) | (with_reducible apply Blk.drew) | ((with_reducible apply Blk.new'); (first | rfl | (simp <;> omega))) | (with_reducible apply Blk.set') | (with_reducible apply Blk.ne) | (with_reducible apply Blk.alloc) | rfl | omega | (simp <;> omega)))).cell 1 rfl
          have y1 : ((wr.setCell ⟨bd, 2 + 1, none⟩ (.int .i64 (F + 1))).drewN m4).frozen? ⟨bl, 1, none⟩ = false := (show Blk ((wr.setCell ⟨bd, 2 + 1, none⟩ (.int .i64 (F + 1))).drewN m4) bl 44 [.bool lost, .int .i64 f] by (repeat' (first | (with_reducible assumption) | (with_reducible apply Blk.drewN) | (with_reducible apply Blk.drew) | ((with_reducible apply Blk.new'); (first | rfl | (simp <;> omega))) | (with_reducible apply Blk.set') | (with_reducible apply Blk.ne) | (with_reducible apply Blk.alloc) | rfl | omega | (simp <;> omega)))).frozen 1
          go_wp2_with fail
          clear c0 c1 e0 e1 y1
          refine wp_gen (fun w1 => Blk w1 bd 40 [.int .i64 r, .int .i64 u, .bool lost, .int .i64 (F + 1)] ∧ Blk w1 bm 42 [.int .i64 r, .int .i64 u] ∧ Blk w1 bl 44 [.bool lost, .int .i64 F] ∧ Below w.heap.size w w1) ⟨by (repeat' (first | (with_reducible assumption) | (with_reducible apply Blk.drewN) | (with_reducible apply Blk.drew) | ((with_reducible apply Blk.new'); (first | rfl | (simp <;> omega))) | (with_reducible apply Blk.set') | (with_reducible apply Blk.ne) | (with_reducible apply Blk.alloc) | rfl | omega | (simp <;> omega))), by (repeat' (first | (with_reducible assumption) | (with_reducible apply Blk.drewN) | (with_reducible apply Blk.drew) | ((with_reducible apply Blk.new'); (first | rfl | (simp <;> omega))) | (with_reducible apply Blk.set') | (with_reducible apply Blk.ne) | (with_reducible apply Blk.alloc) | rfl | omega | (simp <;> omega))), by (have := HF.out; subst this; (repeat' (first | (with_reducible assumption) | (with_reducible apply Blk.drewN) | (with_reducible apply Blk.drew) | ((with_reducible apply Blk.new'); (first | rfl | (simp <;> omega))) | (with_reducible apply Blk.set') | (with_reducible apply Blk.ne) | (with_reducible apply Blk.alloc) | rfl | omega | (simp <;> omega)))), by (repeat' (first | (with_reducible assumption) | (with_reducible exact Below.refl _ _) | (with_reducible refine below_drewN ?_ _) | (with_reducible refine Below.drew ?_) | ((with_reducible refine Below.alloc ?_ ?_ _); rotate_left; (first | omega | (simp <;> omega))) | ((with_reducible refine Below.setCell ?_ ?_ _); rotate_left; (first | omega | (simp <;> omega)))))⟩ ?_
          clear HF HFA
          rintro w6 ⟨D6, M6, K6, L6⟩
          have q0 := M6.cell 0 rfl
          have q1 := M6.cell 1 rfl
          have q2 := K6.cell 0 rfl
          go_quiet (first
            | (go_at_call 18; exact Calls.quiet_of (room_any _ _ _ r (by exact D6.cell 0 rfl)))
            | (go_at_call 15; exact Calls.quiet_of (used_any _ _ _ _ (by exact D6.cell 1 rfl)))
            | (go_at_call 17; exact Calls.quiet_of (free_any _ _ _ r _ (by exact D6.cell 0 rfl) (by exact D6.cell 1 rfl) (by omega) (by omega) (by omega)))
            | (go_at_call 12; exact Calls.quiet_of (lost_any _ _ _ _ (by exact D6.cell 2 rfl))))
          clear q0 q1 q2
          go_wp2_with fail
          go_roundw
          case rel => refine ⟨k + 1, _, _, _, by omega, by omega, by go_num, ?_, ?_, ?_, ?_, by exact D6, by exact M6, by exact K6, by exact below_drewN L6 _⟩ <;> omega
          case measure => (simp [intOf] <;> omega)
        · by_cases hnb : 1073741824 < n
          · obtain ⟨F, hF⟩ : ∃ F : Int, F = 1073741824 := ⟨_, rfl⟩
            have hA : failA n = F + 1 := by subst hF; unfold failA; split <;> omega
            have hF0 : -1 ≤ F ∧ F ≤ 1073741824 := by omega
            obtain ⟨hF0, hF1⟩ := hF0
            have HF := hid hF
            have HFA := hid hA
            clear hF hA
            obtain ⟨U, hU⟩ : ∃ U, u = U := ⟨_, rfl⟩
            subst hU
            go_wp2_with fail
            refine (fail_eq _ _ _ (f + 1) n (A := F + 1) HFA.out (Dr.cell 3 rfl) (Dr.frozen 3)).mono ?_; rintro e w' ⟨rfl, m4, rfl⟩
            have c0 := (show Blk ((wr.setCell ⟨bd, 2 + 1, none⟩ (.int .i64 (F + 1))).drewN m4) bm 42 [.int .i64 r, .int .i64 u] by (repeat' (first | (with_reducible assumption) | (with_reducible apply Blk.drewN) | (with_reducible apply Blk.drew) | ((with_reducible apply Blk.new'); (first | rfl | (simp <;> omega))) | (with_reducible apply Blk.set') | (with_reducible apply Blk.ne) | (with_reducible apply Blk.alloc) | rfl | omega | (simp <;> omega)))).cell 0 rfl
            have c1 := (show Blk ((wr.setCell ⟨bd, 2 + 1, none⟩ (.int .i64 (F + 1))).drewN m4) bm 42 [.int .i64 r, .int .i64 u] by (repeat' (first | (with_reducible assumption) | (with_reducible apply Blk.drewN) | (with_reducible apply Blk.drew) | ((with_reducible apply Blk.new'); (first | rfl | (simp <;> omega))) | (with_reducible apply Blk.set') | (with_reducible apply Blk.ne) | (with_reducible apply Blk.alloc) | rfl | omega | (simp <;> omega)))).cell 1 rfl
            have e0 := (show Blk ((wr.setCell ⟨bd, 2 + 1, none⟩ (.int .i64 (F + 1))).drewN m4) bl 44 [.bool lost, .int .i64 f] by (repeat' (first | (with_reducible assumption) | (with_reducible apply Blk.drewN) | (with_reducible apply Blk.drew) | ((with_reducible apply Blk.new'); (first | rfl | (simp <;> omega))) | (with_reducible apply Blk.set') | (with_reducible apply Blk.ne) | (with_reducible apply Blk.alloc) | rfl | omega | (simp <;> omega)))).cell 0 rfl
            have e1 := (show Blk ((wr.setCell ⟨bd, 2 + 1, none⟩ (.int .i64 (F + 1))).drewN m4) bl 44 [.bool lost, .int .i64 f] by (repeat' (first | (with_reducible assumption) | (with_reducible apply Blk.drewN) | (with_reducible apply Blk.drew) | ((with_reducible apply Blk.new'); (first | rfl | (simp <;> omega))) | (with_reducible apply Blk.set') | (with_reducible apply Blk.ne) | (with_reducible apply Blk.alloc) | rfl | omega | (simp <;> omega)))).cell 1 rfl
            have y1 : ((wr.setCell ⟨bd, 2 + 1, none⟩ (.int .i64 (F + 1))).drewN m4).frozen? ⟨bl, 1, none⟩ = false := (show Blk ((wr.setCell ⟨bd, 2 + 1, none⟩ (.int .i64 (F + 1))).drewN m4) bl 44 [.bool lost, .int .i64 f] by (repeat' (first | (with_reducible assumption) | (with_reducible apply Blk.drewN) | (with_reducible apply Blk.drew) | ((with_reducible apply Blk.new'); (first | rfl | (simp <;> omega))) | (with_reducible apply Blk.set') | (with_reducible apply Blk.ne) | (with_reducible apply Blk.alloc) | rfl | omega | (simp <;> omega)))).frozen 1
            go_wp2_with fail
            clear c0 c1 e0 e1 y1
            refine wp_gen (fun w1 => Blk w1 bd 40 [.int .i64 r, .int .i64 u, .bool lost, .int .i64 (F + 1)] ∧ Blk w1 bm 42 [.int .i64 r, .int .i64 u] ∧ Blk w1 bl 44 [.bool lost, .int .i64 F] ∧ Below w.heap.size w w1) ⟨by (repeat' (first | (with_reducible assumption) | (with_reducible apply Blk.drewN) | (with_reducible apply Blk.drew) | ((with_reducible apply Blk.new'); (first | rfl | (simp <;> omega))) | (with_reducible apply Blk.set') | (with_reducible apply Blk.ne) | (with_reducible apply Blk.alloc) | rfl | omega | (simp <;> omega))), by (repeat' (first | (with_reducible assumption) | (with_reducible apply Blk.drewN) | (with_reducible apply Blk.drew) | ((with_reducible apply Blk.new'); (first | rfl | (simp <;> omega))) | (with_reducible apply Blk.set') | (with_reducible apply Blk.ne) | (with_reducible apply Blk.alloc) | rfl | omega | (simp <;> omega))), by (have := HF.out; subst this; (repeat' (first | (with_reducible assumption) | (with_reducible apply Blk.drewN) | (with_reducible apply Blk.drew) | ((with_reducible apply Blk.new'); (first | rfl | (simp <;> omega))) | (with_reducible apply Blk.set') | (with_reducible apply Blk.ne) | (with_reducible apply Blk.alloc) | rfl | omega | (simp <;> omega)))), by (repeat' (first | (with_reducible assumption) | (with_reducible exact Below.refl _ _) | (with_reducible refine below_drewN ?_ _) | (with_reducible refine Below.drew ?_) | ((with_reducible refine Below.alloc ?_ ?_ _); rotate_left; (first | omega | (simp <;> omega))) | ((with_reducible refine Below.setCell ?_ ?_ _); rotate_left; (first | omega | (simp <;> omega)))))⟩ ?_
            clear HF HFA
            rintro w6 ⟨D6, M6, K6, L6⟩
            have q0 := M6.cell 0 rfl
            have q1 := M6.cell 1 rfl
            have q2 := K6.cell 0 rfl
            go_quiet (first
              | (go_at_call 18; exact Calls.quiet_of (room_any _ _ _ r (by exact D6.cell 0 rfl)))
              | (go_at_call 15; exact Calls.quiet_of (used_any _ _ _ _ (by exact D6.cell 1 rfl)))
              | (go_at_call 17; exact Calls.quiet_of (free_any _ _ _ r _ (by exact D6.cell 0 rfl) (by exact D6.cell 1 rfl) (by omega) (by omega) (by omega)))
              | (go_at_call 12; exact Calls.quiet_of (lost_any _ _ _ _ (by exact D6.cell 2 rfl))))
            clear q0 q1 q2
            go_wp2_with fail
            go_roundw
            case rel => refine ⟨k + 1, _, _, _, by omega, by omega, by go_num, ?_, ?_, ?_, ?_, by exact D6, by exact M6, by exact K6, by exact below_drewN L6 _⟩ <;> omega
            case measure => (simp [intOf] <;> omega)
          · obtain ⟨F, hF⟩ : ∃ F : Int, F = n := ⟨_, rfl⟩
            have hA : failA n = F + 1 := by subst hF; unfold failA; split <;> omega
            have hF0 : -1 ≤ F ∧ F ≤ 1073741824 := by omega
            obtain ⟨hF0, hF1⟩ := hF0
            have HF := hid hF
            have HFA := hid hA
            clear hF hA
            obtain ⟨U, hU⟩ : ∃ U, u = U := ⟨_, rfl⟩
            subst hU
            go_wp2_with fail
            refine (fail_eq _ _ _ (f + 1) n (A := F + 1) HFA.out (Dr.cell 3 rfl) (Dr.frozen 3)).mono ?_; rintro e w' ⟨rfl, m4, rfl⟩
            have c0 := (show Blk ((wr.setCell ⟨bd, 2 + 1, none⟩ (.int .i64 (F + 1))).drewN m4) bm 42 [.int .i64 r, .int .i64 u] by (repeat' (first | (with_reducible assumption) | (with_reducible apply Blk.drewN) | (with_reducible apply Blk.drew) | ((with_reducible apply Blk.new'); (first | rfl | (simp <;> omega))) | (with_reducible apply Blk.set') | (with_reducible apply Blk.ne) | (with_reducible apply Blk.alloc) | rfl | omega | (simp <;> omega)))).cell 0 rfl
            have c1 := (show Blk ((wr.setCell ⟨bd, 2 + 1, none⟩ (.int .i64 (F + 1))).drewN m4) bm 42 [.int .i64 r, .int .i64 u] by (repeat' (first | (with_reducible assumption) | (with_reducible apply Blk.drewN) | (with_reducible apply Blk.drew) | ((with_reducible apply Blk.new'); (first | rfl | (simp <;> omega))) | (with_reducible apply Blk.set') | (with_reducible apply Blk.ne) | (with_reducible apply Blk.alloc) | rfl | omega | (simp <;> omega)))).cell 1 rfl
            have e0 := (show Blk ((wr.setCell ⟨bd, 2 + 1, none⟩ (.int .i64 (F + 1))).drewN m4) bl 44 [.bool lost, .int .i64 f] by (repeat' (first | (with_reducible assumption) | (with_reducible apply Blk.drewN) | (with_reducible apply Blk.drew) | ((with_reducible apply Blk.new'); (first | rfl | (simp <;> omega))) | (with_reducible apply Blk.set') | (with_reducible apply Blk.ne) | (with_reducible apply Blk.alloc) | rfl | omega | (simp <;> omega)))).cell 0 rfl
            have e1 := (show Blk ((wr.setCell ⟨bd, 2 + 1, none⟩ (.int .i64 (F + 1))).drewN m4) bl 44 [.bool lost, .int .i64 f] by (repeat' (first | (with_reducible assumption) | (with_reducible apply Blk.drewN) | (with_reducible apply Blk.drew) | ((with_reducible apply Blk.new'); (first | rfl | (simp <;> omega))) | (with_reducible apply Blk.set') | (with_reducible apply Blk.ne) | (with_reducible apply Blk.alloc) | rfl | omega | (simp <;> omega)))).cell 1 rfl
            have y1 : ((wr.setCell ⟨bd, 2 + 1, none⟩ (.int .i64 (F + 1))).drewN m4).frozen? ⟨bl, 1, none⟩ = false := (show Blk ((wr.setCell ⟨bd, 2 + 1, none⟩ (.int .i64 (F + 1))).drewN m4) bl 44 [.bool lost, .int .i64 f] by (repeat' (first | (with_reducible assumption) | (with_reducible apply Blk.drewN) | (with_reducible apply Blk.drew) | ((with_reducible apply Blk.new'); (first | rfl | (simp <;> omega))) | (with_reducible apply Blk.set') | (with_reducible apply Blk.ne) | (with_reducible apply Blk.alloc) | rfl | omega | (simp <;> omega)))).frozen 1
            go_wp2_with fail
            clear c0 c1 e0 e1 y1
            refine wp_gen (fun w1 => Blk w1 bd 40 [.int .i64 r, .int .i64 u, .bool lost, .int .i64 (F + 1)] ∧ Blk w1 bm 42 [.int .i64 r, .int .i64 u] ∧ Blk w1 bl 44 [.bool lost, .int .i64 F] ∧ Below w.heap.size w w1) ⟨by (repeat' (first | (with_reducible assumption) | (with_reducible apply Blk.drewN) | (with_reducible apply Blk.drew) | ((with_reducible apply Blk.new'); (first | rfl | (simp <;> omega))) | (with_reducible apply Blk.set') | (with_reducible apply Blk.ne) | (with_reducible apply Blk.alloc) | rfl | omega | (simp <;> omega))), by (repeat' (first | (with_reducible assumption) | (with_reducible apply Blk.drewN) | (with_reducible apply Blk.drew) | ((with_reducible apply Blk.new'); (first | rfl | (simp <;> omega))) | (with_reducible apply Blk.set') | (with_reducible apply Blk.ne) | (with_reducible apply Blk.alloc) | rfl | omega | (simp <;> omega))), by (have := HF.out; subst this; (repeat' (first | (with_reducible assumption) | (with_reducible apply Blk.drewN) | (with_reducible apply Blk.drew) | ((with_reducible apply Blk.new'); (first | rfl | (simp <;> omega))) | (with_reducible apply Blk.set') | (with_reducible apply Blk.ne) | (with_reducible apply Blk.alloc) | rfl | omega | (simp <;> omega)))), by (repeat' (first | (with_reducible assumption) | (with_reducible exact Below.refl _ _) | (with_reducible refine below_drewN ?_ _) | (with_reducible refine Below.drew ?_) | ((with_reducible refine Below.alloc ?_ ?_ _); rotate_left; (first | omega | (simp <;> omega))) | ((with_reducible refine Below.setCell ?_ ?_ _); rotate_left; (first | omega | (simp <;> omega)))))⟩ ?_
            clear HF HFA
            rintro w6 ⟨D6, M6, K6, L6⟩
            have q0 := M6.cell 0 rfl
            have q1 := M6.cell 1 rfl
            have q2 := K6.cell 0 rfl
            go_quiet (first
              | (go_at_call 18; exact Calls.quiet_of (room_any _ _ _ r (by exact D6.cell 0 rfl)))
              | (go_at_call 15; exact Calls.quiet_of (used_any _ _ _ _ (by exact D6.cell 1 rfl)))
              | (go_at_call 17; exact Calls.quiet_of (free_any _ _ _ r _ (by exact D6.cell 0 rfl) (by exact D6.cell 1 rfl) (by omega) (by omega) (by omega)))
              | (go_at_call 12; exact Calls.quiet_of (lost_any _ _ _ _ (by exact D6.cell 2 rfl))))
            clear q0 q1 q2
            go_wp2_with fail
            go_roundw
            case rel => refine ⟨k + 1, _, _, _, by omega, by omega, by go_num, ?_, ?_, ?_, ?_, by exact D6, by exact M6, by exact K6, by exact below_drewN L6 _⟩ <;> omega
            case measure => (simp [intOf] <;> omega)
      by_cases h1 : kd = 5
      · subst h1
        obtain ⟨U, hU⟩ : ∃ U, u = U := ⟨_, rfl⟩
        subst hU
        obtain ⟨F, hF⟩ : ∃ F, f = F := ⟨_, rfl⟩
        subst hF
        go_wp2_with fail
        refine (lose_any _ _ _ lost (Dr.cell 2 rfl) (Dr.frozen 2)).mono ?_; rintro e w' ⟨rfl, m4, rfl⟩
        have c0 := (show Blk ((wr.setCell ⟨bd, 2, none⟩ (.bool true)).drewN m4) bm 42 [.int .i64 r, .int .i64 u] by (repeat' (first | (with_reducible assumption) | (with_reducible apply Blk.drewN) | (with_reducible apply Blk.drew) | ((with_reducible apply Blk.new'); (first | rfl | (simp <;> omega))) | (with_reducible apply Blk.set') | (with_reducible apply Blk.ne) | (with_reducible apply Blk.alloc) | rfl | omega | (simp <;> omega)))).cell 0 rfl
        have c1 := (show Blk ((wr.setCell ⟨bd, 2, none⟩ (.bool true)).drewN m4) bm 42 [.int .i64 r, .int .i64 u] by (repeat' (first | (with_reducible assumption) | (with_reducible apply Blk.drewN) | (with_reducible apply Blk.drew) | ((with_reducible apply Blk.new'); (first | rfl | (simp <;> omega))) | (with_reducible apply Blk.set') | (with_reducible apply Blk.ne) | (with_reducible apply Blk.alloc) | rfl | omega | (simp <;> omega)))).cell 1 rfl
        have e0 := (show Blk ((wr.setCell ⟨bd, 2, none⟩ (.bool true)).drewN m4) bl 44 [.bool lost, .int .i64 f] by (repeat' (first | (with_reducible assumption) | (with_reducible apply Blk.drewN) | (with_reducible apply Blk.drew) | ((with_reducible apply Blk.new'); (first | rfl | (simp <;> omega))) | (with_reducible apply Blk.set') | (with_reducible apply Blk.ne) | (with_reducible apply Blk.alloc) | rfl | omega | (simp <;> omega)))).cell 0 rfl
        have e1 := (show Blk ((wr.setCell ⟨bd, 2, none⟩ (.bool true)).drewN m4) bl 44 [.bool lost, .int .i64 f] by (repeat' (first | (with_reducible assumption) | (with_reducible apply Blk.drewN) | (with_reducible apply Blk.drew) | ((with_reducible apply Blk.new'); (first | rfl | (simp <;> omega))) | (with_reducible apply Blk.set') | (with_reducible apply Blk.ne) | (with_reducible apply Blk.alloc) | rfl | omega | (simp <;> omega)))).cell 1 rfl
        have y1 : ((wr.setCell ⟨bd, 2, none⟩ (.bool true)).drewN m4).frozen? ⟨bl, 0, none⟩ = false := (show Blk ((wr.setCell ⟨bd, 2, none⟩ (.bool true)).drewN m4) bl 44 [.bool lost, .int .i64 f] by (repeat' (first | (with_reducible assumption) | (with_reducible apply Blk.drewN) | (with_reducible apply Blk.drew) | ((with_reducible apply Blk.new'); (first | rfl | (simp <;> omega))) | (with_reducible apply Blk.set') | (with_reducible apply Blk.ne) | (with_reducible apply Blk.alloc) | rfl | omega | (simp <;> omega)))).frozen 0
        go_wp2_with fail
        clear c0 c1 e0 e1 y1
        refine wp_gen (fun w1 => Blk w1 bd 40 [.int .i64 r, .int .i64 u, .bool true, .int .i64 (f + 1)] ∧ Blk w1 bm 42 [.int .i64 r, .int .i64 u] ∧ Blk w1 bl 44 [.bool true, .int .i64 f] ∧ Below w.heap.size w w1) ⟨by (repeat' (first | (with_reducible assumption) | (with_reducible apply Blk.drewN) | (with_reducible apply Blk.drew) | ((with_reducible apply Blk.new'); (first | rfl | (simp <;> omega))) | (with_reducible apply Blk.set') | (with_reducible apply Blk.ne) | (with_reducible apply Blk.alloc) | rfl | omega | (simp <;> omega))), by (repeat' (first | (with_reducible assumption) | (with_reducible apply Blk.drewN) | (with_reducible apply Blk.drew) | ((with_reducible apply Blk.new'); (first | rfl | (simp <;> omega))) | (with_reducible apply Blk.set') | (with_reducible apply Blk.ne) | (with_reducible apply Blk.alloc) | rfl | omega | (simp <;> omega))), by (repeat' (first | (with_reducible assumption) | (with_reducible apply Blk.drewN) | (with_reducible apply Blk.drew) | ((with_reducible apply Blk.new'); (first | rfl | (simp <;> omega))) | (with_reducible apply Blk.set') | (with_reducible apply Blk.ne) | (with_reducible apply Blk.alloc) | rfl | omega | (simp <;> omega))), by (repeat' (first | (with_reducible assumption) | (with_reducible exact Below.refl _ _) | (with_reducible refine below_drewN ?_ _) | (with_reducible refine Below.drew ?_) | ((with_reducible refine Below.alloc ?_ ?_ _); rotate_left; (first | omega | (simp <;> omega))) | ((with_reducible refine Below.setCell ?_ ?_ _); rotate_left; (first | omega | (simp <;> omega)))))⟩ ?_
        rintro w6 ⟨D6, M6, K6, L6⟩
        have q0 := M6.cell 0 rfl
        have q1 := M6.cell 1 rfl
        have q2 := K6.cell 0 rfl
        go_quiet (first
          | (go_at_call 18; exact Calls.quiet_of (room_any _ _ _ r (by exact D6.cell 0 rfl)))
          | (go_at_call 15; exact Calls.quiet_of (used_any _ _ _ _ (by exact D6.cell 1 rfl)))
          | (go_at_call 17; exact Calls.quiet_of (free_any _ _ _ r _ (by exact D6.cell 0 rfl) (by exact D6.cell 1 rfl) (by omega) (by omega) (by omega)))
          | (go_at_call 12; exact Calls.quiet_of (lost_any _ _ _ _ (by exact D6.cell 2 rfl))))
        clear q0 q1 q2
        go_wp2_with fail
        go_roundw
        case rel => refine ⟨k + 1, _, _, _, by omega, by omega, by go_num, ?_, ?_, ?_, ?_, by exact D6, by exact M6, by exact K6, by exact below_drewN L6 _⟩ <;> omega
        case measure => (simp [intOf] <;> omega)
      by_cases h1 : kd = 6
      · subst h1
        obtain ⟨U, hU⟩ : ∃ U, u = U := ⟨_, rfl⟩
        subst hU
        obtain ⟨F, hF⟩ : ∃ F, f = F := ⟨_, rfl⟩
        subst hF
        by_cases hna : n < 0
        · have hd : decide (n ≤ r - u) = true := by simp; omega
          have HD := hid hd
          clear hd
          go_wp2_with fail
          refine (fits_any _ _ _ r u n (Dr.cell 0 rfl) (Dr.cell 1 rfl) (by omega) (by omega) (by omega)).mono ?_; rintro e w' ⟨rfl, m4, rfl⟩
          rw [HD.out]
          have c0 := (show Blk (wr.drewN m4) bm 42 [.int .i64 r, .int .i64 u] by (repeat' (first | (with_reducible assumption) | (with_reducible apply Blk.drewN) | (with_reducible apply Blk.drew) | ((with_reducible apply Blk.new'); (first | rfl | (simp <;> omega))) | (with_reducible apply Blk.set') | (with_reducible apply Blk.ne) | (with_reducible apply Blk.alloc) | rfl | omega | (simp <;> omega)))).cell 0 rfl
          have c1 := (show Blk (wr.drewN m4) bm 42 [.int .i64 r, .int .i64 u] by (repeat' (first | (with_reducible assumption) | (with_reducible apply Blk.drewN) | (with_reducible apply Blk.drew) | ((with_reducible apply Blk.new'); (first | rfl | (simp <;> omega))) | (with_reducible apply Blk.set') | (with_reducible apply Blk.ne) | (with_reducible apply Blk.alloc) | rfl | omega | (simp <;> omega)))).cell 1 rfl
          have e0 := (show Blk (wr.drewN m4) bl 44 [.bool lost, .int .i64 f] by (repeat' (first | (with_reducible assumption) | (with_reducible apply Blk.drewN) | (with_reducible apply Blk.drew) | ((with_reducible apply Blk.new'); (first | rfl | (simp <;> omega))) | (with_reducible apply Blk.set') | (with_reducible apply Blk.ne) | (with_reducible apply Blk.alloc) | rfl | omega | (simp <;> omega)))).cell 0 rfl
          have e1 := (show Blk (wr.drewN m4) bl 44 [.bool lost, .int .i64 f] by (repeat' (first | (with_reducible assumption) | (with_reducible apply Blk.drewN) | (with_reducible apply Blk.drew) | ((with_reducible apply Blk.new'); (first | rfl | (simp <;> omega))) | (with_reducible apply Blk.set') | (with_reducible apply Blk.ne) | (with_reducible apply Blk.alloc) | rfl | omega | (simp <;> omega)))).cell 1 rfl
          go_wp2_with fail
          clear c0 c1 e0 e1
          refine wp_gen (fun w1 => Blk w1 bd 40 [.int .i64 r, .int .i64 u, .bool lost, .int .i64 (f + 1)] ∧ Blk w1 bm 42 [.int .i64 r, .int .i64 u] ∧ Blk w1 bl 44 [.bool lost, .int .i64 f] ∧ Below w.heap.size w w1) ⟨by (repeat' (first | (with_reducible assumption) | (with_reducible apply Blk.drewN) | (with_reducible apply Blk.drew) | ((with_reducible apply Blk.new'); (first | rfl | (simp <;> omega))) | (with_reducible apply Blk.set') | (with_reducible apply Blk.ne) | (with_reducible apply Blk.alloc) | rfl | omega | (simp <;> omega))), by (repeat' (first | (with_reducible assumption) | (with_reducible apply Blk.drewN) | (with_reducible apply Blk.drew) | ((with_reducible apply Blk.new'); (first | rfl | (simp <;> omega))) | (with_reducible apply Blk.set') | (with_reducible apply Blk.ne) | (with_reducible apply Blk.alloc) | rfl | omega | (simp <;> omega))), by (repeat' (first | (with_reducible assumption) | (with_reducible apply Blk.drewN) | (with_reducible apply Blk.drew) | ((with_reducible apply Blk.new'); (first | rfl | (simp <;> omega))) | (with_reducible apply Blk.set') | (with_reducible apply Blk.ne) | (with_reducible apply Blk.alloc) | rfl | omega | (simp <;> omega))), by (repeat' (first | (with_reducible assumption) | (with_reducible exact Below.refl _ _) | (with_reducible refine below_drewN ?_ _) | (with_reducible refine Below.drew ?_) | ((with_reducible refine Below.alloc ?_ ?_ _); rotate_left; (first | omega | (simp <;> omega))) | ((with_reducible refine Below.setCell ?_ ?_ _); rotate_left; (first | omega | (simp <;> omega)))))⟩ ?_
          rintro w6 ⟨D6, M6, K6, L6⟩
          have q0 := M6.cell 0 rfl
          have q1 := M6.cell 1 rfl
          have q2 := K6.cell 0 rfl
          go_quiet (first
            | (go_at_call 18; exact Calls.quiet_of (room_any _ _ _ r (by exact D6.cell 0 rfl)))
            | (go_at_call 15; exact Calls.quiet_of (used_any _ _ _ _ (by exact D6.cell 1 rfl)))
            | (go_at_call 17; exact Calls.quiet_of (free_any _ _ _ r _ (by exact D6.cell 0 rfl) (by exact D6.cell 1 rfl) (by omega) (by omega) (by omega)))
            | (go_at_call 12; exact Calls.quiet_of (lost_any _ _ _ _ (by exact D6.cell 2 rfl))))
          clear q0 q1 q2
          go_wp2_with fail
          go_roundw
          case rel => refine ⟨k + 1, _, _, _, by omega, by omega, by go_num, ?_, ?_, ?_, ?_, by exact D6, by exact M6, by exact K6, by exact below_drewN L6 _⟩ <;> omega
          case measure => (simp [intOf] <;> omega)
        · by_cases hnb : n ≤ r - u
          · have hd : decide (n ≤ r - u) = true := by simp; omega
            have HD := hid hd
            clear hd
            go_wp2_with fail
            refine (fits_any _ _ _ r u n (Dr.cell 0 rfl) (Dr.cell 1 rfl) (by omega) (by omega) (by omega)).mono ?_; rintro e w' ⟨rfl, m4, rfl⟩
            rw [HD.out]
            have c0 := (show Blk (wr.drewN m4) bm 42 [.int .i64 r, .int .i64 u] by (repeat' (first | (with_reducible assumption) | (with_reducible apply Blk.drewN) | (with_reducible apply Blk.drew) | ((with_reducible apply Blk.new'); (first | rfl | (simp <;> omega))) | (with_reducible apply Blk.set') | (with_reducible apply Blk.ne) | (with_reducible apply Blk.alloc) | rfl | omega | (simp <;> omega)))).cell 0 rfl
            have c1 := (show Blk (wr.drewN m4) bm 42 [.int .i64 r, .int .i64 u] by (repeat' (first | (with_reducible assumption) | (with_reducible apply Blk.drewN) | (with_reducible apply Blk.drew) | ((with_reducible apply Blk.new'); (first | rfl | (simp <;> omega))) | (with_reducible apply Blk.set') | (with_reducible apply Blk.ne) | (with_reducible apply Blk.alloc) | rfl | omega | (simp <;> omega)))).cell 1 rfl
            have e0 := (show Blk (wr.drewN m4) bl 44 [.bool lost, .int .i64 f] by (repeat' (first | (with_reducible assumption) | (with_reducible apply Blk.drewN) | (with_reducible apply Blk.drew) | ((with_reducible apply Blk.new'); (first | rfl | (simp <;> omega))) | (with_reducible apply Blk.set') | (with_reducible apply Blk.ne) | (with_reducible apply Blk.alloc) | rfl | omega | (simp <;> omega)))).cell 0 rfl
            have e1 := (show Blk (wr.drewN m4) bl 44 [.bool lost, .int .i64 f] by (repeat' (first | (with_reducible assumption) | (with_reducible apply Blk.drewN) | (with_reducible apply Blk.drew) | ((with_reducible apply Blk.new'); (first | rfl | (simp <;> omega))) | (with_reducible apply Blk.set') | (with_reducible apply Blk.ne) | (with_reducible apply Blk.alloc) | rfl | omega | (simp <;> omega)))).cell 1 rfl
            go_wp2_with fail
            clear c0 c1 e0 e1
            refine wp_gen (fun w1 => Blk w1 bd 40 [.int .i64 r, .int .i64 u, .bool lost, .int .i64 (f + 1)] ∧ Blk w1 bm 42 [.int .i64 r, .int .i64 u] ∧ Blk w1 bl 44 [.bool lost, .int .i64 f] ∧ Below w.heap.size w w1) ⟨by (repeat' (first | (with_reducible assumption) | (with_reducible apply Blk.drewN) | (with_reducible apply Blk.drew) | ((with_reducible apply Blk.new'); (first | rfl | (simp <;> omega))) | (with_reducible apply Blk.set') | (with_reducible apply Blk.ne) | (with_reducible apply Blk.alloc) | rfl | omega | (simp <;> omega))), by (repeat' (first | (with_reducible assumption) | (with_reducible apply Blk.drewN) | (with_reducible apply Blk.drew) | ((with_reducible apply Blk.new'); (first | rfl | (simp <;> omega))) | (with_reducible apply Blk.set') | (with_reducible apply Blk.ne) | (with_reducible apply Blk.alloc) | rfl | omega | (simp <;> omega))), by (repeat' (first | (with_reducible assumption) | (with_reducible apply Blk.drewN) | (with_reducible apply Blk.drew) | ((with_reducible apply Blk.new'); (first | rfl | (simp <;> omega))) | (with_reducible apply Blk.set') | (with_reducible apply Blk.ne) | (with_reducible apply Blk.alloc) | rfl | omega | (simp <;> omega))), by (repeat' (first | (with_reducible assumption) | (with_reducible exact Below.refl _ _) | (with_reducible refine below_drewN ?_ _) | (with_reducible refine Below.drew ?_) | ((with_reducible refine Below.alloc ?_ ?_ _); rotate_left; (first | omega | (simp <;> omega))) | ((with_reducible refine Below.setCell ?_ ?_ _); rotate_left; (first | omega | (simp <;> omega)))))⟩ ?_
            rintro w6 ⟨D6, M6, K6, L6⟩
            have q0 := M6.cell 0 rfl
            have q1 := M6.cell 1 rfl
            have q2 := K6.cell 0 rfl
            go_quiet (first
              | (go_at_call 18; exact Calls.quiet_of (room_any _ _ _ r (by exact D6.cell 0 rfl)))
              | (go_at_call 15; exact Calls.quiet_of (used_any _ _ _ _ (by exact D6.cell 1 rfl)))
              | (go_at_call 17; exact Calls.quiet_of (free_any _ _ _ r _ (by exact D6.cell 0 rfl) (by exact D6.cell 1 rfl) (by omega) (by omega) (by omega)))
              | (go_at_call 12; exact Calls.quiet_of (lost_any _ _ _ _ (by exact D6.cell 2 rfl))))
            clear q0 q1 q2
            go_wp2_with fail
            go_roundw
            case rel => refine ⟨k + 1, _, _, _, by omega, by omega, by go_num, ?_, ?_, ?_, ?_, by exact D6, by exact M6, by exact K6, by exact below_drewN L6 _⟩ <;> omega
            case measure => (simp [intOf] <;> omega)
          · have hd : decide (n ≤ r - u) = false := by simp; omega
            have HD := hid hd
            clear hd
            go_wp2_with fail
            refine (fits_any _ _ _ r u n (Dr.cell 0 rfl) (Dr.cell 1 rfl) (by omega) (by omega) (by omega)).mono ?_; rintro e w' ⟨rfl, m4, rfl⟩
            rw [HD.out]
            have c0 := (show Blk (wr.drewN m4) bm 42 [.int .i64 r, .int .i64 u] by (repeat' (first | (with_reducible assumption) | (with_reducible apply Blk.drewN) | (with_reducible apply Blk.drew) | ((with_reducible apply Blk.new'); (first | rfl | (simp <;> omega))) | (with_reducible apply Blk.set') | (with_reducible apply Blk.ne) | (with_reducible apply Blk.alloc) | rfl | omega | (simp <;> omega)))).cell 0 rfl
            have c1 := (show Blk (wr.drewN m4) bm 42 [.int .i64 r, .int .i64 u] by (repeat' (first | (with_reducible assumption) | (with_reducible apply Blk.drewN) | (with_reducible apply Blk.drew) | ((with_reducible apply Blk.new'); (first | rfl | (simp <;> omega))) | (with_reducible apply Blk.set') | (with_reducible apply Blk.ne) | (with_reducible apply Blk.alloc) | rfl | omega | (simp <;> omega)))).cell 1 rfl
            have e0 := (show Blk (wr.drewN m4) bl 44 [.bool lost, .int .i64 f] by (repeat' (first | (with_reducible assumption) | (with_reducible apply Blk.drewN) | (with_reducible apply Blk.drew) | ((with_reducible apply Blk.new'); (first | rfl | (simp <;> omega))) | (with_reducible apply Blk.set') | (with_reducible apply Blk.ne) | (with_reducible apply Blk.alloc) | rfl | omega | (simp <;> omega)))).cell 0 rfl
            have e1 := (show Blk (wr.drewN m4) bl 44 [.bool lost, .int .i64 f] by (repeat' (first | (with_reducible assumption) | (with_reducible apply Blk.drewN) | (with_reducible apply Blk.drew) | ((with_reducible apply Blk.new'); (first | rfl | (simp <;> omega))) | (with_reducible apply Blk.set') | (with_reducible apply Blk.ne) | (with_reducible apply Blk.alloc) | rfl | omega | (simp <;> omega)))).cell 1 rfl
            go_wp2_with fail
            clear c0 c1 e0 e1
            refine wp_gen (fun w1 => Blk w1 bd 40 [.int .i64 r, .int .i64 u, .bool lost, .int .i64 (f + 1)] ∧ Blk w1 bm 42 [.int .i64 r, .int .i64 u] ∧ Blk w1 bl 44 [.bool lost, .int .i64 f] ∧ Below w.heap.size w w1) ⟨by (repeat' (first | (with_reducible assumption) | (with_reducible apply Blk.drewN) | (with_reducible apply Blk.drew) | ((with_reducible apply Blk.new'); (first | rfl | (simp <;> omega))) | (with_reducible apply Blk.set') | (with_reducible apply Blk.ne) | (with_reducible apply Blk.alloc) | rfl | omega | (simp <;> omega))), by (repeat' (first | (with_reducible assumption) | (with_reducible apply Blk.drewN) | (with_reducible apply Blk.drew) | ((with_reducible apply Blk.new'); (first | rfl | (simp <;> omega))) | (with_reducible apply Blk.set') | (with_reducible apply Blk.ne) | (with_reducible apply Blk.alloc) | rfl | omega | (simp <;> omega))), by (repeat' (first | (with_reducible assumption) | (with_reducible apply Blk.drewN) | (with_reducible apply Blk.drew) | ((with_reducible apply Blk.new'); (first | rfl | (simp <;> omega))) | (with_reducible apply Blk.set') | (with_reducible apply Blk.ne) | (with_reducible apply Blk.alloc) | rfl | omega | (simp <;> omega))), by (repeat' (first | (with_reducible assumption) | (with_reducible exact Below.refl _ _) | (with_reducible refine below_drewN ?_ _) | (with_reducible refine Below.drew ?_) | ((with_reducible refine Below.alloc ?_ ?_ _); rotate_left; (first | omega | (simp <;> omega))) | ((with_reducible refine Below.setCell ?_ ?_ _); rotate_left; (first | omega | (simp <;> omega)))))⟩ ?_
            rintro w6 ⟨D6, M6, K6, L6⟩
            have q0 := M6.cell 0 rfl
            have q1 := M6.cell 1 rfl
            have q2 := K6.cell 0 rfl
            go_quiet (first
              | (go_at_call 18; exact Calls.quiet_of (room_any _ _ _ r (by exact D6.cell 0 rfl)))
              | (go_at_call 15; exact Calls.quiet_of (used_any _ _ _ _ (by exact D6.cell 1 rfl)))
              | (go_at_call 17; exact Calls.quiet_of (free_any _ _ _ r _ (by exact D6.cell 0 rfl) (by exact D6.cell 1 rfl) (by omega) (by omega) (by omega)))
              | (go_at_call 12; exact Calls.quiet_of (lost_any _ _ _ _ (by exact D6.cell 2 rfl))))
            clear q0 q1 q2
            go_wp2_with fail
            go_roundw
            case rel => refine ⟨k + 1, _, _, _, by omega, by omega, by go_num, ?_, ?_, ?_, ?_, by exact D6, by exact M6, by exact K6, by exact below_drewN L6 _⟩ <;> omega
            case measure => (simp [intOf] <;> omega)
      obtain ⟨U, hU⟩ : ∃ U, u = U := ⟨_, rfl⟩
      subst hU
      obtain ⟨F, hF⟩ : ∃ F, f = F := ⟨_, rfl⟩
      subst hF
      go_wp2_with fail
      refine wp_gen (fun w1 => Blk w1 bd 40 [.int .i64 r, .int .i64 u, .bool lost, .int .i64 (f + 1)] ∧ Blk w1 bm 42 [.int .i64 r, .int .i64 u] ∧ Blk w1 bl 44 [.bool lost, .int .i64 f] ∧ Below w.heap.size w w1) ⟨by (repeat' (first | (with_reducible assumption) | (with_reducible apply Blk.drewN) | (with_reducible apply Blk.drew) | ((with_reducible apply Blk.new'); (first | rfl | (simp <;> omega))) | (with_reducible apply Blk.set') | (with_reducible apply Blk.ne) | (with_reducible apply Blk.alloc) | rfl | omega | (simp <;> omega))), by (repeat' (first | (with_reducible assumption) | (with_reducible apply Blk.drewN) | (with_reducible apply Blk.drew) | ((with_reducible apply Blk.new'); (first | rfl | (simp <;> omega))) | (with_reducible apply Blk.set') | (with_reducible apply Blk.ne) | (with_reducible apply Blk.alloc) | rfl | omega | (simp <;> omega))), by (repeat' (first | (with_reducible assumption) | (with_reducible apply Blk.drewN) | (with_reducible apply Blk.drew) | ((with_reducible apply Blk.new'); (first | rfl | (simp <;> omega))) | (with_reducible apply Blk.set') | (with_reducible apply Blk.ne) | (with_reducible apply Blk.alloc) | rfl | omega | (simp <;> omega))), by (repeat' (first | (with_reducible assumption) | (with_reducible exact Below.refl _ _) | (with_reducible refine below_drewN ?_ _) | (with_reducible refine Below.drew ?_) | ((with_reducible refine Below.alloc ?_ ?_ _); rotate_left; (first | omega | (simp <;> omega))) | ((with_reducible refine Below.setCell ?_ ?_ _); rotate_left; (first | omega | (simp <;> omega)))))⟩ ?_
      rintro w6 ⟨D6, M6, K6, L6⟩
      have q0 := M6.cell 0 rfl
      have q1 := M6.cell 1 rfl
      have q2 := K6.cell 0 rfl
      go_quiet (first
        | (go_at_call 18; exact Calls.quiet_of (room_any _ _ _ r (by exact D6.cell 0 rfl)))
        | (go_at_call 15; exact Calls.quiet_of (used_any _ _ _ _ (by exact D6.cell 1 rfl)))
        | (go_at_call 17; exact Calls.quiet_of (free_any _ _ _ r _ (by exact D6.cell 0 rfl) (by exact D6.cell 1 rfl) (by omega) (by omega) (by omega)))
        | (go_at_call 12; exact Calls.quiet_of (lost_any _ _ _ _ (by exact D6.cell 2 rfl))))
      clear q0 q1 q2
      go_wp2_with fail
      go_roundw
      case rel => refine ⟨k + 1, _, _, _, by omega, by omega, by go_num, ?_, ?_, ?_, ?_, by exact D6, by exact M6, by exact K6, by exact below_drewN L6 _⟩ <;> omega
      case measure => (simp [intOf] <;> omega)
    · by_cases hltA : k < len
      all_goals
        go_wp2_with fail
        go_ret
        exact ⟨rfl, Lr⟩
end Go.Proofs.Ytlofhcooppdkjaa
