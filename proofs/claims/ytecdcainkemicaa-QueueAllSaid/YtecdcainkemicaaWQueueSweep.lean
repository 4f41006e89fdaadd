/- QueueSweep, walked. -/
import Derived.Test.YtecdcainkemicaaQueuePl
namespace Go.Proofs.Ytecdcainkemicaa
open Go.RowKit
set_option linter.unusedVariables false

/-- requests that came in. -/
def ReqAt (w : World) (la : Option Addr) (i : Nat) : Prop := ∃ b off id blob vol at_, la = some ⟨b, off, none⟩ ∧ b < w.heap.size ∧
  w.cell? ⟨b, off + i * 4, none⟩ = some (.int .i64 id) ∧ w.cell? ⟨b, off + i * 4 + 1, none⟩ = some (.int .u64 blob) ∧ w.cell? ⟨b, off + i * 4 + 2, none⟩ = some (.int .i64 vol) ∧ w.cell? ⟨b, off + i * 4 + 3, none⟩ = some (.int .i64 at_)
theorem okT_req {w : World} {d : Nat} {cs : List Value} (hl : cs.length = 4) (hok : OkT Try.prog w (d + 2) 25 cs) : ∃ id blob vol at_ : Int, cs = [.int .i64 id, .int .u64 blob, .int .i64 vol, .int .i64 at_] := by
  match cs, hl with
  | [c0, c1, c2, c3], _ =>
    obtain ⟨a0, h0, _⟩ := okT_int Try.underlying3 (okT_fld 0 (T := 3) (o := 0) Try.underlying25 rfl rfl rfl (by kernel_rfl) (by simp) hok)
    obtain ⟨a1, h1, _⟩ := okT_int Try.underlying23 (okT_fld 1 (T := 23) (o := 1) Try.underlying25 rfl rfl rfl (by kernel_rfl) (by simp) hok)
    obtain ⟨a2, h2, _⟩ := okT_int Try.underlying3 (okT_fld 2 (T := 3) (o := 2) Try.underlying25 rfl rfl rfl (by kernel_rfl) (by simp) hok)
    obtain ⟨a3, h3, _⟩ := okT_int Try.underlying3 (okT_fld 3 (T := 3) (o := 3) Try.underlying25 rfl rfl rfl (by kernel_rfl) (by simp) hok)
    simp only [List.getElem_cons_zero, List.getElem_cons_succ] at h0 h1 h2 h3
    subst h0 h1 h2 h3
    exact ⟨a0, a1, a2, a3, rfl⟩
theorem okT_reqs {w : World} {la : Option Addr} {len cap : Nat} (hl : OkT Try.prog w 6 22 [.slice la len cap]) : len ≤ 9223372036854775807 ∧ len ≤ cap ∧ ∀ i, i < len → ReqAt w la i := by
  obtain ⟨h1, h2, h3⟩ := okT_slice Try.underlying22 (sz := 4) (by kernel_rfl) (by omega) hl
  refine ⟨by omega, h1, fun i hi => ?_⟩
  obtain ⟨b, off, cs, ha, hb, hlen, hok, hc⟩ := h3 i (by omega)
  obtain ⟨id, blob, vol, at_, rfl⟩ := okT_req hlen hok
  exact ⟨b, off, id, blob, vol, at_, ha, hb, hc 0 (by simp), by rw [Nat.add_assoc]; exact hc 1 (by simp), by rw [Nat.add_assoc]; exact hc 2 (by simp), by rw [Nat.add_assoc]; exact hc 3 (by simp)⟩
theorem findF_none (id : Int) : ∀ (l : List Wt) (k : Nat), (∀ y ∈ l, y.id ≠ id) → findF id l k = -1
  | [], k, _ => rfl
  | x :: r, k, h => by
    rw [findF, if_neg (h x (by simp))]
    exact findF_none id r (k + 1) (fun y hy => h y (by simp [hy]))

set_option maxRecDepth 100000 in
set_option maxHeartbeats 2000000 in
theorem queueSweep_walk (la : Option Addr) (len cap : Nat) (at_ : Int) (w : World) (hl : OkT Try.prog w 6 22 [.slice la len cap]) (hat : (Lit.int .i64 at_).wf = true) :
    Calls Try.prog 4 #[.slice la len cap, .int .i64 at_] w (RetB (.bool true) w.heap.size w) := by
  obtain ⟨hlen, hlc, hreq⟩ := okT_reqs hl
  have HR := hid hreq
  clear hl hat hreq
  by_cases h0 : at_ < 0
  · go_enter Try.func4, Try.ntmps4
    go_wp2_with fail
    refine (awake_any _).mono ?_; rintro e w1 ⟨rfl, L1⟩
    go_wp2_with fail
    refine (awake_any _).mono ?_; rintro e w2 ⟨rfl, L2⟩
    go_wp2_with fail
    go_ret
    exact ⟨rfl, L1.trans (L2.mono L1.size)⟩
  obtain ⟨n, hn⟩ : ∃ n, min len 8 = n := ⟨_, rfl⟩
  have hn8 : n ≤ 8 := by omega
  have hnl : n ≤ len := by omega
  have HN : Hid ((len ≤ 8 → n = len) ∧ (8 < len → n = 8)) := hid ⟨fun _ => by omega, fun _ => by omega⟩
  clear hn
  go_enter Try.func4, Try.ntmps4
  go_wp2_with fail
  refine (awake_any _).mono ?_; rintro e w1 ⟨rfl, L1⟩
  go_wp2_with (refine wpList_val (o := ⟨some 23, _, _, _, _, _⟩) rfl (.int .i64 (n : Int)) ?hrun ?_)
  case hrun =>
    have := HN.out
    by_cases hh : len ≤ 8
    · have e := this.1 hh; subst e; simp [go_sem]; omega
    · have e := this.2 (by omega); subst e; simp [go_sem]; omega
  clear HN
  obtain ⟨q, hq⟩ : ∃ q, w1.heap.size = q := ⟨_, rfl⟩
  have hwq : w.heap.size ≤ q := by have := L1.size; omega
  go_wp2_with fail
  refine wp_gen (fun w2 => IsQ w2 w1.heap.size (.slice none 0 0) [] ∧ Below w.heap.size w w2) ⟨IsQ.zero w1, by (repeat' (first | (with_reducible assumption) | (with_reducible exact Below.refl _ _) | (with_reducible refine below_drewN ?_ _) | (with_reducible refine Below.drew ?_) | ((with_reducible refine below_alloc' ?_ ?_ _); rotate_left; (first | exact Nat.le_refl _ | assumption | omega)) | ((with_reducible refine Below.alloc ?_ ?_ _); rotate_left; (first | omega | (simp <;> omega))) | ((with_reducible refine Below.setCell ?_ ?_ _); rotate_left; (first | omega | (simp <;> omega)))))⟩ ?_
  rw [hq]
  clear hq L1
  rintro w2 ⟨Q2, L2⟩
  go_loopw [7] (fun i wr => ∃ (k : Nat) (sv : Value) (l : List Wt), k ≤ n ∧ i = .int .i64 k ∧ IsQ wr q sv l ∧ l.length = k ∧ (∀ y ∈ l, y.vol = 3 ∧ y.passed = 0 ∧ y.id < k) ∧ Below w.heap.size w wr) (fun i _ => n - (intOf i).toNat)
  case atStart => exact ⟨0, _, [], Nat.zero_le _, rfl, Q2, rfl, by simp, L2⟩
  case round =>
    clear Q2 L2
    obtain ⟨k, sv, l, hk, rfl, Qr, hlk, hall, Lr⟩ := hrel
    have HALL := hid hall
    have HLK := hid hlk
    clear hall hlk
    by_cases hlt : k < n
    · obtain ⟨b, off, id, blob, vol, at2, rfl, hb, c0, c1, c2, c3⟩ := HR.out k (by omega)
      have d0 : wr.cell? ⟨b, off + k * 4, none⟩ = _ := (Lr.cell (p := ⟨b, off + k * 4, none⟩) hb).trans c0
      have d1 : wr.cell? ⟨b, off + k * 4 + 1, none⟩ = _ := (Lr.cell (p := ⟨b, off + k * 4 + 1, none⟩) hb).trans c1
      have d2 : wr.cell? ⟨b, off + k * 4 + 2, none⟩ = _ := (Lr.cell (p := ⟨b, off + k * 4 + 2, none⟩) hb).trans c2
      have d3 : wr.cell? ⟨b, off + k * 4 + 3, none⟩ = _ := (Lr.cell (p := ⟨b, off + k * 4 + 3, none⟩) hb).trans c3
      clear c0 c1 c2 c3
      have hkl : (k : Int) < (len : Int) := by omega
      have hk0 : (0 : Int) ≤ (k : Int) := by omega
      go_wp2_with fail
      refine (small_any _ id blob vol at2 rfl rfl).mono ?_; rintro e w3 ⟨rfl, S3⟩
      generalize min (max vol 0) 11 = V
      generalize min (max at2 0) 1000000000 = A
      clear d0 d1 d2 d3
      have Q3 := Qr.below S3
      have L3 := Lr.trans (S3.mono Lr.size)
      clear S3 Qr
      go_wp2_with fail
      refine calls_gen (fun w4 => IsQ w4 q sv l ∧ Below w.heap.size w w4) ⟨Q3.below (by (repeat' (first | (with_reducible assumption) | (with_reducible exact Below.refl _ _) | (with_reducible refine below_drewN ?_ _) | (with_reducible refine Below.drew ?_) | ((with_reducible refine below_alloc' ?_ ?_ _); rotate_left; (first | exact Nat.le_refl _ | assumption | omega)) | ((with_reducible refine Below.alloc ?_ ?_ _); rotate_left; (first | omega | (simp <;> omega))) | ((with_reducible refine Below.setCell ?_ ?_ _); rotate_left; (first | omega | (simp <;> omega)))))), by (repeat' (first | (with_reducible assumption) | (with_reducible exact Below.refl _ _) | (with_reducible refine below_drewN ?_ _) | (with_reducible refine Below.drew ?_) | ((with_reducible refine below_alloc' ?_ ?_ _); rotate_left; (first | exact Nat.le_refl _ | assumption | omega)) | ((with_reducible refine Below.alloc ?_ ?_ _); rotate_left; (first | omega | (simp <;> omega))) | ((with_reducible refine Below.setCell ?_ ?_ _); rotate_left; (first | omega | (simp <;> omega)))))⟩ ?_
      rintro w4 ⟨Q4, L4⟩
      refine (add_yes _ _ _ l k blob 3 A Q4 (by rw [findF_none]; omega; intro y hy; have := (HALL.out y hy).2.2; omega) (by have := HLK.out; omega)).mono ?_; rintro e w5 ⟨rfl, sv5, Q5, M5, V5⟩
      have L5 := belowQ L4 Q4 M5 hwq (Nat.le_refl _)
      clear M5 V5
      go_wp2_with fail
      go_roundw
      case rel =>
        refine ⟨k + 1, sv5, _, by omega, by go_num, Q5, by simp [HLK.out], fun y hy => ?_, L5⟩
        rcases List.mem_append.1 hy with hy | hy
        · obtain ⟨h1, h2, h3⟩ := HALL.out y hy; exact ⟨h1, h2, by omega⟩
        · simp at hy; subst hy; exact ⟨rfl, rfl, by show (k : Int) < ((k + 1 : Nat) : Int); omega⟩
      case measure => (simp [intOf] <;> omega)
    · obtain rfl : k = n := by omega
      go_wp2_with fail
      obtain ⟨n, hkn⟩ : ∃ n, k = n := ⟨_, rfl⟩
      subst hkn
      go_loopw [9, 10, 11] (fun fv lv iv wr => ∃ (j : Nat) (fl last : Int) (sv : Value) (l : List Wt), j ≤ k ∧ iv = .int .i64 j ∧ fv = .int .i64 fl ∧ lv = .int .i64 last ∧ IsQ wr q sv l ∧ l.length + j = k ∧ (∀ y ∈ l, y.vol = 3 ∧ 0 ≤ y.passed ∧ y.passed ≤ j) ∧
        (fl = 0 ∨ (fl = 1 ∧ ∀ y ∈ l, last ≤ y.at_)) ∧ Below w.heap.size w wr) (fun _ _ iv _ => k - (intOf iv).toNat)
      case atStart => exact ⟨0, 0, at_, sv, l, Nat.zero_le _, rfl, rfl, rfl, Qr, by have := HLK.out; omega, fun y hy => by obtain ⟨h1, h2, h3⟩ := HALL.out y hy; exact ⟨h1, by omega, by omega⟩, Or.inl rfl, Lr⟩
      case round =>
        clear Qr Lr HALL HLK
        obtain ⟨j, fl, last, sv, l, hj, rfl, rfl, rfl, Qr, hlj, hall, hfl, Lr⟩ := hrel
        have HALL := hid hall
        have HLJ := hid hlj
        have HFL := hid hfl
        clear hall hlj hfl
        by_cases hlt : j < k
        · match l, Qr, HALL, HLJ, HFL with
          | [], _, _, HLJ, _ => exfalso; have := HLJ.out; simp at this; omega
          | x0 :: r, Qr, HALL, HLJ, HFL =>
            obtain ⟨i, x, hch, hxi, hcase⟩ := sweep_choice x0 r 3 last (by omega) (fun y hy => (HALL.out y hy).1) (by have := (HALL.out x0 (by simp)).2.2; omega)
            have hil : i < (x0 :: r).length := (List.getElem?_eq_some_iff.1 hxi).1
            have HC := hid hcase
            clear hcase
            go_wp2_with fail
            refine (next_some _ _ _ x0 r 3 last i x Qr hch hxi (fun y hy => by obtain ⟨_, h2, h3⟩ := HALL.out y hy; omega)).mono ?_; rintro e w3 ⟨rfl, sv3, Q3, M3, V3⟩
            have L3 := belowQ Lr Qr M3 hwq (Nat.le_refl _)
            clear M3 V3 Qr hch
            have HX := hid hxi
            clear hxi
            have hln := left_len hil
            generalize hl3 : (bump i (x0 :: r)).eraseIdx i = l3 at *
            have HL3 := hid hl3
            have HLN := hid hln
            clear hl3 hln hil
            by_cases hfall : x.at_ < last
            · have hfl0 : fl = 0 := by
                rcases HC.out with ⟨h1, _⟩ | ⟨h1, h2⟩
                · omega
                · rcases HFL.out with h | ⟨_, h⟩
                  · exact h
                  · have := h x0 (by simp); have := h1 x0 (by simp); omega
              subst hfl0
              go_wp2_with fail
              go_roundw
              case rel =>
                refine ⟨j + 1, 1, x.at_, sv3, l3, by omega, by go_num, by simp, rfl, Q3.below (by (repeat' (first | (with_reducible assumption) | (with_reducible exact Below.refl _ _) | (with_reducible refine below_drewN ?_ _) | (with_reducible refine Below.drew ?_) | ((with_reducible refine below_alloc' ?_ ?_ _); rotate_left; (first | exact Nat.le_refl _ | assumption | omega)) | ((with_reducible refine Below.alloc ?_ ?_ _); rotate_left; (first | omega | (simp <;> omega))) | ((with_reducible refine Below.setCell ?_ ?_ _); rotate_left; (first | omega | (simp <;> omega)))))), ?_, fun y hy => ?_, Or.inr ⟨rfl, fun y hy => ?_⟩, by (repeat' (first | (with_reducible assumption) | (with_reducible exact Below.refl _ _) | (with_reducible refine below_drewN ?_ _) | (with_reducible refine Below.drew ?_) | ((with_reducible refine below_alloc' ?_ ?_ _); rotate_left; (first | exact Nat.le_refl _ | assumption | omega)) | ((with_reducible refine Below.alloc ?_ ?_ _); rotate_left; (first | omega | (simp <;> omega))) | ((with_reducible refine Below.setCell ?_ ?_ _); rotate_left; (first | omega | (simp <;> omega)))))⟩
                · have := HLN.out; have := HLJ.out; simp at *; omega
                · rw [← HL3.out] at hy
                  obtain ⟨z, hz, _, _, h1, h2, h3, h4⟩ := mem_left hy
                  obtain ⟨g1, g2, g3⟩ := HALL.out z hz
                  exact ⟨by omega, by omega, by omega⟩
                · rw [← HL3.out] at hy
                  obtain ⟨z, hz, _, _, h1, h2, h3, h4⟩ := mem_left hy
                  rcases HC.out with ⟨g1, _⟩ | ⟨g1, g2⟩
                  · omega
                  · rw [h2]; exact g2 z hz
              case measure => (simp [intOf] <;> omega)
            · go_wp2_with fail
              go_roundw
              case rel =>
                refine ⟨j + 1, fl, x.at_, sv3, l3, by omega, by go_num, rfl, rfl, Q3.below (by (repeat' (first | (with_reducible assumption) | (with_reducible exact Below.refl _ _) | (with_reducible refine below_drewN ?_ _) | (with_reducible refine Below.drew ?_) | ((with_reducible refine below_alloc' ?_ ?_ _); rotate_left; (first | exact Nat.le_refl _ | assumption | omega)) | ((with_reducible refine Below.alloc ?_ ?_ _); rotate_left; (first | omega | (simp <;> omega))) | ((with_reducible refine Below.setCell ?_ ?_ _); rotate_left; (first | omega | (simp <;> omega)))))), ?_, fun y hy => ?_, ?_, by (repeat' (first | (with_reducible assumption) | (with_reducible exact Below.refl _ _) | (with_reducible refine below_drewN ?_ _) | (with_reducible refine Below.drew ?_) | ((with_reducible refine below_alloc' ?_ ?_ _); rotate_left; (first | exact Nat.le_refl _ | assumption | omega)) | ((with_reducible refine Below.alloc ?_ ?_ _); rotate_left; (first | omega | (simp <;> omega))) | ((with_reducible refine Below.setCell ?_ ?_ _); rotate_left; (first | omega | (simp <;> omega)))))⟩
                · have := HLN.out; have := HLJ.out; simp at *; omega
                · rw [← HL3.out] at hy
                  obtain ⟨z, hz, _, _, h1, h2, h3, h4⟩ := mem_left hy
                  obtain ⟨g1, g2, g3⟩ := HALL.out z hz
                  exact ⟨by omega, by omega, by omega⟩
                · rcases HFL.out with h | ⟨h, h'⟩
                  · exact Or.inl h
                  · refine Or.inr ⟨h, fun y hy => ?_⟩
                    rw [← HL3.out] at hy
                    obtain ⟨z, hz, _, _, h1, h2, h3, h4⟩ := mem_left hy
                    rcases HC.out with ⟨g1, g2⟩ | ⟨g1, g2⟩
                    · rw [h2]; exact g2 z hz (h' z hz)
                    · rw [h2]; exact g2 z hz
              case measure => (simp [intOf] <;> omega)
        · obtain rfl : j = k := by omega
          have hl0 : l = [] := List.eq_nil_of_length_eq_zero (by have := HLJ.out; omega)
          subst hl0
          have hfl1 : fl ≤ 1 := by rcases HFL.out with h | ⟨h, _⟩ <;> omega
          go_wp2_with fail
          refine (qlen_any _ _ _ [] Qr).mono ?_; rintro e w' ⟨rfl, m, rfl⟩
          go_wp2_with fail
          go_ret
          exact ⟨ret_bool (by simp), by (repeat' (first | (with_reducible assumption) | (with_reducible exact Below.refl _ _) | (with_reducible refine below_drewN ?_ _) | (with_reducible refine Below.drew ?_) | ((with_reducible refine below_alloc' ?_ ?_ _); rotate_left; (first | exact Nat.le_refl _ | assumption | omega)) | ((with_reducible refine Below.alloc ?_ ?_ _); rotate_left; (first | omega | (simp <;> omega))) | ((with_reducible refine Below.setCell ?_ ?_ _); rotate_left; (first | omega | (simp <;> omega)))))⟩
end Go.Proofs.Ytecdcainkemicaa
