/- QueueFair, walked. -/
import Derived.Test.YtecdcainkemicaaQueueFair
import Derived.Test.YtecdcainkemicaaWQueueSweep
namespace Go.Proofs.Ytecdcainkemicaa
open Go.RowKit
set_option linter.unusedVariables false

/-- numbers that came in. -/
def NumAt (w : World) (la : Option Addr) (i : Nat) : Prop := ∃ b off z, la = some ⟨b, off, none⟩ ∧ b < w.heap.size ∧ w.cell? ⟨b, off + i, none⟩ = some (.int .i64 z)
theorem okT_nums {w : World} {la : Option Addr} {len cap : Nat} (hl : OkT Try.prog w 6 26 [.slice la len cap]) : len ≤ 9223372036854775807 ∧ ∀ i, i < len → NumAt w la i := by
  obtain ⟨zs, hz, hlc, hcm, hc, _⟩ := okT_ints Try.underlying26 Try.underlying3 (by kernel_rfl) hl
  unfold maxLen at hcm
  refine ⟨by omega, fun i hi => ?_⟩
  obtain ⟨b, off, h1, h2⟩ := hc i (by omega)
  exact ⟨b, off, zs[i], h1, World.block_lt_of_cell? w _ h2, h2⟩
theorem findF_ne (id : Int) : ∀ (l : List Wt) (k : Nat), findF id l k = -1 ∨ 0 ≤ findF id l k
  | [], k => Or.inl rfl
  | x :: r, k => by
    rw [findF]
    split
    · exact Or.inr (by omega)
    · exact findF_ne id r (k + 1)

theorem choose_get (x0 : Wt) (r : List Wt) (vol at_ : Int) : ∃ (i : Nat) (x : Wt), chooseF x0 (x0 :: r) vol at_ = i ∧ (x0 :: r)[i]? = some x := by
  obtain ⟨h1, h2⟩ := chooseF_rng x0 r vol at_
  obtain ⟨i, hi⟩ := Int.eq_ofNat_of_zero_le h1
  exact ⟨i, (x0 :: r)[i]'(by omega), hi, List.getElem?_eq_getElem _⟩

theorem IsQ.mod {w w' : World} {q : Nat} {sv : Value} {l : List Wt} {S : Nat → Prop} (h : IsQ w q sv l) (hm : Mod S w w') (h1 : ¬ S q) (h2 : ∀ k, sv.ownBlock = some k → ¬ S k) : IsQ w' q sv l :=
  ⟨h.blk.mod hm h1, own_mod h.row hm h2, h.small⟩
theorem IsQ.setOther {w : World} {q : Nat} {sv : Value} {l : List Wt} (h : IsQ w q sv l) {p : Addr} (h1 : q ≠ p.block) (h2 : sv.ownBlock ≠ some p.block) (v : Value) : IsQ (w.setCell p v) q sv l :=
  h.mod (S := fun k => k = p.block) (Mod.setCell (S := fun k => k = p.block) (a := w) (b := w) (p := p) (Mod.refl _ _) (fun _ => rfl) v) h1 (fun k hk e => h2 (by rw [hk, e]))
theorem IsQ.four {w : World} {q m : Nat} {sv : Value} {l : List Wt} (h : IsQ w q sv l) (h1 : q ≠ m) (h2 : sv.ownBlock ≠ some m) (a b c d e : Value) :
    IsQ (((((w.setCell ⟨m, 0, none⟩ a).setCell ⟨m, 1, none⟩ b).setCell ⟨m, 2, none⟩ c).setCell ⟨m, 3, none⟩ d).setCell ⟨m, 0, none⟩ e) q sv l :=
  ((((h.setOther (p := ⟨m, 0, none⟩) h1 h2 a).setOther (p := ⟨m, 1, none⟩) h1 h2 b).setOther (p := ⟨m, 2, none⟩) h1 h2 c).setOther (p := ⟨m, 3, none⟩) h1 h2 d).setOther (p := ⟨m, 0, none⟩) h1 h2 e


set_option maxRecDepth 100000 in
set_option maxHeartbeats 8000000 in
theorem queueFair_walk0 (ea : Option Addr) (el ec : Nat) (mi mb mv ma : Int) (ba : Option Addr) (bl bc : Nat) (va : Option Addr) (vl vc : Nat) (aa : Option Addr) (al ac : Nat) (w : World) (he : OkT Try.prog w 6 22 [.slice ea el ec])
    (hb : OkT Try.prog w 6 22 [.slice ba bl bc]) (hv : OkT Try.prog w 6 26 [.slice va vl vc]) (ha : OkT Try.prog w 6 26 [.slice aa al ac]) :
    Calls Try.prog 3 #[.slice ea el ec, .agg #[.int .i64 mi, .int .u64 mb, .int .i64 mv, .int .i64 ma], .slice ba bl bc, .slice va vl vc, .slice aa al ac] w (RetB (.bool true) w.heap.size w) := by
  obtain ⟨helen, hec, hereq⟩ := okT_reqs he
  obtain ⟨hblen, hbc, hbreq⟩ := okT_reqs hb
  obtain ⟨hvlen, hvnum⟩ := okT_nums hv
  obtain ⟨halen, hanum⟩ := okT_nums ha
  have HE := hid hereq
  have HB := hid hbreq
  have HV := hid hvnum
  have HA := hid hanum
  clear he hb hv ha hereq hbreq hvnum hanum
  obtain ⟨n, hn⟩ : ∃ n, min el 5 = n := ⟨_, rfl⟩
  have hn5 : n ≤ 5 := by omega
  have hnl : n ≤ el := by omega
  have HN : Hid (n < 5 → n = el) := hid (by omega)
  clear hn
  go_enter Try.func3, Try.ntmps3
  go_wp2_with fail
  refine calls_gen (fun w0 => Blk w0 w.heap.size 25 [.int .i64 mi, .int .u64 mb, .int .i64 mv, .int .i64 ma] ∧ Below w.heap.size w w0) ⟨by (repeat' (first | (with_reducible assumption) | (with_reducible apply Blk.drewN) | (with_reducible apply Blk.drew) | ((with_reducible apply Blk.new'); (first | rfl | (simp <;> omega))) | (with_reducible apply Blk.set') | (with_reducible apply Blk.ne) | (with_reducible apply Blk.alloc) | rfl | omega | (simp <;> omega))), by (repeat' (first | (with_reducible assumption) | (with_reducible exact Below.refl _ _) | (with_reducible refine below_drewN ?_ _) | (with_reducible refine Below.drew ?_) | ((with_reducible refine below_alloc' ?_ ?_ _); rotate_left; (first | exact Nat.le_refl _ | assumption | omega)) | ((with_reducible refine Below.alloc ?_ ?_ _); rotate_left; (first | omega | (simp <;> omega))) | ((with_reducible refine Below.setCell ?_ ?_ _); rotate_left; (first | omega | (simp <;> omega)))))⟩ ?_
  rintro w0 ⟨B0, L0⟩
  have hm0 := B0.lt
  refine (awake_any _).mono ?_; rintro e w1 ⟨rfl, L1⟩
  replace B0 := B0.below L1 hm0
  have L1' := L0.trans (L1.mono L0.size)
  go_wp2_with fail
  obtain ⟨m, hm⟩ : ∃ m, w.heap.size = m := ⟨_, rfl⟩
  rw [hm] at B0 ⊢
  obtain ⟨q, hq⟩ : ∃ q, w1.heap.size = q := ⟨_, rfl⟩
  have hwq : w.heap.size ≤ q := by have := L1'.size; omega
  have hmq : m < q := by have := B0.lt; omega
  have hwq' : m ≤ q := by omega
  refine wp_gen (fun w2 => Blk w2 m 25 [.int .i64 mi, .int .u64 mb, .int .i64 mv, .int .i64 ma] ∧ IsQ w2 w1.heap.size (.slice none 0 0) [] ∧ Below w.heap.size w w2) ⟨by (repeat' (first | (with_reducible assumption) | (with_reducible apply Blk.drewN) | (with_reducible apply Blk.drew) | ((with_reducible apply Blk.new'); (first | rfl | (simp <;> omega))) | (with_reducible apply Blk.set') | (with_reducible apply Blk.ne) | (with_reducible apply Blk.alloc) | rfl | omega | (simp <;> omega))), IsQ.zero w1, by (repeat' (first | (with_reducible assumption) | (with_reducible exact Below.refl _ _) | (with_reducible refine below_drewN ?_ _) | (with_reducible refine Below.drew ?_) | ((with_reducible refine below_alloc' ?_ ?_ _); rotate_left; (first | exact Nat.le_refl _ | assumption | omega)) | ((with_reducible refine Below.alloc ?_ ?_ _); rotate_left; (first | omega | (simp <;> omega))) | ((with_reducible refine Below.setCell ?_ ?_ _); rotate_left; (first | omega | (simp <;> omega)))))⟩ ?_
  rw [hq]
  clear hq L1 L1' L0 B0 hm0
  rintro w2 ⟨B2, Q2, L2⟩
  rw [hm] at L2
  go_loopw [12] (fun i wr => ∃ (k : Nat) (sv : Value) (l : List Wt), k ≤ n ∧ i = .int .i64 k ∧ Blk wr m 25 [.int .i64 mi, .int .u64 mb, .int .i64 mv, .int .i64 ma] ∧ IsQ wr q sv l ∧ sv.ownBlock ≠ some m ∧ l.length = k ∧ (∀ y ∈ l, y.passed = 0 ∧ y.id < k) ∧ Below m w wr) (fun i _ => n - (intOf i).toNat)
  case atStart => exact ⟨0, _, [], Nat.zero_le _, rfl, B2, Q2, by simp [Value.ownBlock], rfl, by simp, L2⟩
  case round =>
    clear Q2 L2 B2
    obtain ⟨k, sv, l, hk, rfl, Br, Qr, hso, hlk, hall, Lr⟩ := hrel
    have HALL := hid hall
    have HLK := hid hlk
    have HSO := hid hso
    clear hall hlk hso
    by_cases hlt : k < n
    · obtain ⟨b, off, id, blob, vol, at2, rfl, hb, c0, c1, c2, c3⟩ := HE.out k (by omega)
      have d0 : wr.cell? ⟨b, off + k * 4, none⟩ = _ := (Lr.cell (p := ⟨b, off + k * 4, none⟩) (Nat.lt_of_lt_of_eq hb hm)).trans c0
      have d1 : wr.cell? ⟨b, off + k * 4 + 1, none⟩ = _ := (Lr.cell (p := ⟨b, off + k * 4 + 1, none⟩) (Nat.lt_of_lt_of_eq hb hm)).trans c1
      have d2 : wr.cell? ⟨b, off + k * 4 + 2, none⟩ = _ := (Lr.cell (p := ⟨b, off + k * 4 + 2, none⟩) (Nat.lt_of_lt_of_eq hb hm)).trans c2
      have d3 : wr.cell? ⟨b, off + k * 4 + 3, none⟩ = _ := (Lr.cell (p := ⟨b, off + k * 4 + 3, none⟩) (Nat.lt_of_lt_of_eq hb hm)).trans c3
      clear c0 c1 c2 c3
      have hkl : (k : Int) < (el : Int) := by omega
      have hk5 : (k : Int) < 5 := by omega
      have hk0 : (0 : Int) ≤ (k : Int) := by omega
      go_wp2_with fail
      refine (small_any _ id blob vol at2 rfl rfl).mono ?_; rintro e w3 ⟨rfl, S3⟩
      generalize min (max vol 0) 11 = V
      generalize min (max at2 0) 1000000000 = A
      clear d0 d1 d2 d3
      have Q3 := Qr.below S3
      have B3 := Br.below S3 Br.lt
      have L3 := Lr.trans (S3.mono (by have := Lr.size; omega))
      clear S3 Qr Br
      go_wp2_with fail
      refine calls_gen (fun w4 => Blk w4 m 25 [.int .i64 mi, .int .u64 mb, .int .i64 mv, .int .i64 ma] ∧ IsQ w4 q sv l ∧ Below m w w4) ⟨by (repeat' (first | (with_reducible assumption) | (with_reducible apply Blk.drewN) | (with_reducible apply Blk.drew) | ((with_reducible apply Blk.new'); (first | rfl | (simp <;> omega))) | (with_reducible apply Blk.set') | (with_reducible apply Blk.ne) | (with_reducible apply Blk.alloc) | rfl | omega | (simp <;> omega))), Q3.below (by (repeat' (first | (with_reducible assumption) | (with_reducible exact Below.refl _ _) | (with_reducible refine below_drewN ?_ _) | (with_reducible refine Below.drew ?_) | ((with_reducible refine below_alloc' ?_ ?_ _); rotate_left; (first | exact Nat.le_refl _ | assumption | omega)) | ((with_reducible refine Below.alloc ?_ ?_ _); rotate_left; (first | omega | (simp <;> omega))) | ((with_reducible refine Below.setCell ?_ ?_ _); rotate_left; (first | omega | (simp <;> omega)))))), by (repeat' (first | (with_reducible assumption) | (with_reducible exact Below.refl _ _) | (with_reducible refine below_drewN ?_ _) | (with_reducible refine Below.drew ?_) | ((with_reducible refine below_alloc' ?_ ?_ _); rotate_left; (first | exact Nat.le_refl _ | assumption | omega)) | ((with_reducible refine Below.alloc ?_ ?_ _); rotate_left; (first | omega | (simp <;> omega))) | ((with_reducible refine Below.setCell ?_ ?_ _); rotate_left; (first | omega | (simp <;> omega)))))⟩ ?_
      rintro w4 ⟨B4, Q4, L4⟩
      refine (add_yes _ _ _ l k blob V A Q4 (by rw [findF_none]; omega; intro y hy; have := (HALL.out y hy).2; omega) (by have := HLK.out; omega)).mono ?_; rintro e w5 ⟨rfl, sv5, Q5, M5, V5⟩
      have L5 := belowQ L4 Q4 M5 hwq' (by omega)
      have B5 := B4.q M5 (by omega) HSO.out
      have N5 := V5.ne B4.lt HSO.out
      clear M5 V5
      go_wp2_with fail
      go_roundw
      case rel =>
        refine ⟨k + 1, sv5, _, by omega, by go_num, B5, Q5, N5, by simp [HLK.out], fun y hy => ?_, L5⟩
        rcases List.mem_append.1 hy with hy | hy
        · obtain ⟨h1, h3⟩ := HALL.out y hy; exact ⟨h1, by omega⟩
        · simp at hy; subst hy; exact ⟨rfl, by show (k : Int) < ((k + 1 : Nat) : Int); omega⟩
      case measure => (simp [intOf] <;> omega)
    · obtain rfl : k = n := by omega
      have hexit : (k : Int) < (el : Int) ∧ ¬ k < 5 ∨ ¬ (k : Int) < (el : Int) := by
        have := HN.out; omega
      rcases hexit with ⟨hx1, hx2⟩ | hx1
      all_goals
        go_wp2_with fail
        refine (qlen_any _ _ _ l Qr).mono ?_; rintro e w3 ⟨rfl, dm, rfl⟩
        rw [HLK.out]
        have Q3 : IsQ (wr.drewN dm) q sv l := Qr.below (by (repeat' (first | (with_reducible assumption) | (with_reducible exact Below.refl _ _) | (with_reducible refine below_drewN ?_ _) | (with_reducible refine Below.drew ?_) | ((with_reducible refine below_alloc' ?_ ?_ _); rotate_left; (first | exact Nat.le_refl _ | assumption | omega)) | ((with_reducible refine Below.alloc ?_ ?_ _); rotate_left; (first | omega | (simp <;> omega))) | ((with_reducible refine Below.setCell ?_ ?_ _); rotate_left; (first | omega | (simp <;> omega))))))
        have B3 : Blk (wr.drewN dm) m 25 [.int .i64 mi, .int .u64 mb, .int .i64 mv, .int .i64 ma] := by (repeat' (first | (with_reducible assumption) | (with_reducible apply Blk.drewN) | (with_reducible apply Blk.drew) | ((with_reducible apply Blk.new'); (first | rfl | (simp <;> omega))) | (with_reducible apply Blk.set') | (with_reducible apply Blk.ne) | (with_reducible apply Blk.alloc) | rfl | omega | (simp <;> omega)))
        have L3 : Below m w (wr.drewN dm) := by (repeat' (first | (with_reducible assumption) | (with_reducible exact Below.refl _ _) | (with_reducible refine below_drewN ?_ _) | (with_reducible refine Below.drew ?_) | ((with_reducible refine below_alloc' ?_ ?_ _); rotate_left; (first | exact Nat.le_refl _ | assumption | omega)) | ((with_reducible refine Below.alloc ?_ ?_ _); rotate_left; (first | omega | (simp <;> omega))) | ((with_reducible refine Below.setCell ?_ ?_ _); rotate_left; (first | omega | (simp <;> omega)))))
        generalize wr.drewN dm = w3 at *
        clear Qr Br Lr hx1
        have e0 := B3.cell 0 rfl
        have e1 := B3.cell 1 rfl
        have e2 := B3.cell 2 rfl
        have e3 := B3.cell 3 rfl
        go_wp2_with fail
        clear e0 e1 e2 e3
        refine (small_any _ mi mb mv ma rfl rfl).mono ?_; rintro e w4 ⟨rfl, S4⟩
        generalize min (max mv 0) 11 = V
        generalize min (max ma 0) 1000000000 = A
        replace Q3 := Q3.below S4
        replace B3 := B3.below S4 B3.lt
        replace L3 := L3.trans (S4.mono (by have := L3.size; omega))
        clear S4
        have e0 := B3.cell 0 rfl
        have e1 := B3.cell 1 rfl
        have e2 := B3.cell 2 rfl
        have e3 := B3.cell 3 rfl
        have z0 := B3.frozen 0
        have z1 := B3.frozen 1
        have z2 := B3.frozen 2
        have z3 := B3.frozen 3
        go_wp2_with fail
        clear e0 e1 e2 e3 z0 z1 z2 z3
        have hmq' : q ≠ m := by omega
        refine calls_gen (fun w5 => IsQ w5 q sv l ∧ Below m w w5) ⟨?fq, by (repeat' (first | (with_reducible assumption) | (with_reducible exact Below.refl _ _) | (with_reducible refine below_drewN ?_ _) | (with_reducible refine Below.drew ?_) | ((with_reducible refine below_alloc' ?_ ?_ _); rotate_left; (first | exact Nat.le_refl _ | assumption | omega)) | ((with_reducible refine Below.alloc ?_ ?_ _); rotate_left; (first | omega | (simp <;> omega))) | ((with_reducible refine Below.setCell ?_ ?_ _); rotate_left; (first | omega | (simp <;> omega)))))⟩ ?_
        case fq => exact IsQ.four Q3 hmq' HSO.out _ _ _ _ _
        rintro w5 ⟨Q5, L5⟩
        clear Q3 B3 L3
        refine (add_yes _ _ _ l 1000 mb V A Q5 (by rw [findF_none]; omega; intro y hy; have := (HALL.out y hy).2; omega) (by have := HLK.out; omega)).mono ?_; rintro e w6 ⟨rfl, sv6, Q6, M6, V6⟩
        have L6 := belowQ L5 Q5 M6 hwq' (by omega)
        clear M6 V6 Q5 L5
        have HS := hid (fair_start l ⟨1000, mb, V, A, 0⟩ (fun y hy => (HALL.out y hy).1) rfl rfl)
        rw [HLK.out] at HS
        go_wp2_with fail
        go_loopw [15] (fun i wr => ∃ (t : Nat) (sv : Value) (l : List Wt) (p : Nat), t ≤ 9 * (k + 1) ∧ i = .int .i64 t ∧ IsQ wr q sv l ∧ Fair l p ∧ meas l p ≤ 9 * k + 8 - t ∧ l.length ≤ k + 1 + t ∧ Below m w wr) (fun i _ => 9 * (k + 1) - (intOf i).toNat)
        case atStart => exact ⟨0, _, _, k, by omega, rfl, Q6, HS.out.1, by have := HS.out.2; omega, by simp [HLK.out], L6⟩
        case round =>
          clear Q6 L6 HS HALL HLK HSO
          obtain ⟨t, sv, l, p, ht, rfl, Qr, hF, hM, hL, Lr⟩ := hrel
          have HF := hid hF
          have HM := hid hM
          have HL := hid hL
          clear hF hM hL
          by_cases hlt : t < 9 * (k + 1)
          · have ht1 : (t : Int) < ((k : Int) + 1) * 9 := by omega
            by_cases hb0 : 0 < bl
            · have hJl : t % bl < bl := Nat.mod_lt _ (by omega)
              obtain ⟨b, off, id, blob, vol, at2, rfl, hb, c0, c1, c2, c3⟩ := HB.out _ hJl
              have d0 : wr.cell? ⟨b, off + t % bl * 4, none⟩ = _ := (Lr.cell (p := ⟨b, off + t % bl * 4, none⟩) (Nat.lt_of_lt_of_eq hb hm)).trans c0
              have d1 : wr.cell? ⟨b, off + t % bl * 4 + 1, none⟩ = _ := (Lr.cell (p := ⟨b, off + t % bl * 4 + 1, none⟩) (Nat.lt_of_lt_of_eq hb hm)).trans c1
              have d2 : wr.cell? ⟨b, off + t % bl * 4 + 2, none⟩ = _ := (Lr.cell (p := ⟨b, off + t % bl * 4 + 2, none⟩) (Nat.lt_of_lt_of_eq hb hm)).trans c2
              have d3 : wr.cell? ⟨b, off + t % bl * 4 + 3, none⟩ = _ := (Lr.cell (p := ⟨b, off + t % bl * 4 + 3, none⟩) (Nat.lt_of_lt_of_eq hb hm)).trans c3
              have hj1 : (t : Int) % (bl : Int) < (bl : Int) := Int.emod_lt_of_pos _ (by omega)
              have hj0 : (0 : Int) ≤ (t : Int) % (bl : Int) := Int.emod_nonneg _ (by omega)
              have hj2 : (0 : Int) < (bl : Int) := by omega
              clear c0 c1 c2 c3
              go_wp2_with fail
              refine (small_any _ id blob vol at2 rfl rfl).mono ?_; rintro e w3 ⟨rfl, S3⟩
              generalize min (max vol 0) 11 = V2
              generalize min (max at2 0) 1000000000 = A2
              clear d0 d1 d2 d3
              have Q3 := Qr.below S3
              have L3 := Lr.trans (S3.mono (by have := Lr.size; omega))
              clear S3 Qr Lr
              go_wp2_with fail
              refine calls_gen (fun w4 => IsQ w4 q sv l ∧ Below m w w4) ⟨Q3.below (by (repeat' (first | (with_reducible assumption) | (with_reducible exact Below.refl _ _) | (with_reducible refine below_drewN ?_ _) | (with_reducible refine Below.drew ?_) | ((with_reducible refine below_alloc' ?_ ?_ _); rotate_left; (first | exact Nat.le_refl _ | assumption | omega)) | ((with_reducible refine Below.alloc ?_ ?_ _); rotate_left; (first | omega | (simp <;> omega))) | ((with_reducible refine Below.setCell ?_ ?_ _); rotate_left; (first | omega | (simp <;> omega)))))), by (repeat' (first | (with_reducible assumption) | (with_reducible exact Below.refl _ _) | (with_reducible refine below_drewN ?_ _) | (with_reducible refine Below.drew ?_) | ((with_reducible refine below_alloc' ?_ ?_ _); rotate_left; (first | exact Nat.le_refl _ | assumption | omega)) | ((with_reducible refine Below.alloc ?_ ?_ _); rotate_left; (first | omega | (simp <;> omega))) | ((with_reducible refine Below.setCell ?_ ?_ _); rotate_left; (first | omega | (simp <;> omega)))))⟩ ?_
              rintro w4 ⟨Q4, L4⟩
              clear Q3 L3
              rcases findF_ne (2000 + (t : Int)) l 0 with hff | hff
              · refine (add_yes _ _ _ l (2000 + (t : Int)) blob V2 A2 Q4 (by omega) (by have := HL.out; omega)).mono ?_; rintro e w5 ⟨rfl, sv, Q5, M5, V5⟩
                have L5 := belowQ L4 Q4 M5 hwq' (by omega)
                clear M5 V5 Q4 L4 hff
                obtain ⟨hF5, hM5⟩ := HF.out.add ⟨2000 + (t : Int), blob, V2, A2, 0⟩ rfl
                have HF5 := hid hF5
                have HM5 : Hid _ := hid (hM5.symm ▸ HM.out)
                have HL5 : Hid ((l ++ [⟨2000 + (t : Int), blob, V2, A2, 0⟩] : List Wt).length ≤ k + 1 + t + 1) := hid (by have := HL.out; simp; omega)
                clear hF5 hM5 HF HM HL
                have HF := HF5
                have HM := HM5
                have HL := HL5
                clear HF5 HM5 HL5
                generalize l ++ [⟨2000 + (t : Int), blob, V2, A2, 0⟩] = l at *
                by_cases hv0 : 0 < vl
                · have hIl : t % vl < vl := Nat.mod_lt _ (by omega)
                  obtain ⟨b', off', VV, rfl, hb', c0⟩ := HV.out _ hIl
                  have hVV : VV = VV := rfl
                  have e0 : w5.cell? ⟨b', off' + t % vl, none⟩ = _ := (L5.cell (p := ⟨b', off' + t % vl, none⟩) (Nat.lt_of_lt_of_eq hb' hm)).trans c0
                  have hi1 : (t : Int) % (vl : Int) < (vl : Int) := Int.emod_lt_of_pos _ (by omega)
                  have hi0 : (0 : Int) ≤ (t : Int) % (vl : Int) := Int.emod_nonneg _ (by omega)
                  have hi2 : (0 : Int) < (vl : Int) := by omega
                  clear c0
                  by_cases ha0 : 0 < al
                  · have hJl : t % al < al := Nat.mod_lt _ (by omega)
                    obtain ⟨b, off, AA, rfl, hb, c0⟩ := HA.out _ hJl
                    have hAA : AA = AA := rfl
                    have d0 : w5.cell? ⟨b, off + t % al, none⟩ = _ := (L5.cell (p := ⟨b, off + t % al, none⟩) (Nat.lt_of_lt_of_eq hb hm)).trans c0
                    have hj1 : (t : Int) % (al : Int) < (al : Int) := Int.emod_lt_of_pos _ (by omega)
                    have hj0 : (0 : Int) ≤ (t : Int) % (al : Int) := Int.emod_nonneg _ (by omega)
                    have hj2 : (0 : Int) < (al : Int) := by omega
                    clear c0
                    go_wp2_with fail
                    refine calls_gen (fun w6 => IsQ w6 q sv l ∧ Below m w w6) ⟨Q5.below (by (repeat' (first | (with_reducible assumption) | (with_reducible exact Below.refl _ _) | (with_reducible refine below_drewN ?_ _) | (with_reducible refine Below.drew ?_) | ((with_reducible refine below_alloc' ?_ ?_ _); rotate_left; (first | exact Nat.le_refl _ | assumption | omega)) | ((with_reducible refine Below.alloc ?_ ?_ _); rotate_left; (first | omega | (simp <;> omega))) | ((with_reducible refine Below.setCell ?_ ?_ _); rotate_left; (first | omega | (simp <;> omega)))))), by (repeat' (first | (with_reducible assumption) | (with_reducible exact Below.refl _ _) | (with_reducible refine below_drewN ?_ _) | (with_reducible refine Below.drew ?_) | ((with_reducible refine below_alloc' ?_ ?_ _); rotate_left; (first | exact Nat.le_refl _ | assumption | omega)) | ((with_reducible refine Below.alloc ?_ ?_ _); rotate_left; (first | omega | (simp <;> omega))) | ((with_reducible refine Below.setCell ?_ ?_ _); rotate_left; (first | omega | (simp <;> omega)))))⟩ ?_
                    rintro w6 ⟨Q6, L6⟩
                    clear Q5 L5 d0
                    try clear e0
                    match l, Q6, HF, HM, HL with
                    | [], _, HF, _, _ => exfalso; obtain ⟨m, hm, _⟩ := HF.out.mine; simp at hm
                    | x0 :: r, Q6, HF, HM, HL =>
                      obtain ⟨i, x, hch, hxi⟩ := choose_get x0 r VV AA
                      try rw [hVV] at hch
                      try rw [hAA] at hch
                      refine (next_some _ _ _ x0 r _ _ i x Q6 hch hxi (fun y hy => by have h1 := HF.out.lo y hy; have h2 := HF.out.hi y hy; omega)).mono ?_; rintro e w3 ⟨rfl, sv3, Q3, M3, V3⟩
                      have L3 := belowQ L6 Q6 M3 hwq' (by omega)
                      clear M3 V3 Q6 L6
                      by_cases hid0 : x.id = 1000
                      · rw [hid0]
                        go_wp2_with fail
                        go_ret
                        exact ⟨rfl, by rw [hm]; (repeat' (first | (with_reducible assumption) | (with_reducible exact Below.refl _ _) | (with_reducible refine below_drewN ?_ _) | (with_reducible refine Below.drew ?_) | ((with_reducible refine below_alloc' ?_ ?_ _); rotate_left; (first | exact Nat.le_refl _ | assumption | omega)) | ((with_reducible refine Below.alloc ?_ ?_ _); rotate_left; (first | omega | (simp <;> omega))) | ((with_reducible refine Below.setCell ?_ ?_ _); rotate_left; (first | omega | (simp <;> omega)))))⟩
                      · obtain ⟨p2, hF2, hM2⟩ := HF.out.step hch hxi hid0
                        have hil : i < (x0 :: r).length := (List.getElem?_eq_some_iff.1 hxi).1
                        have hln := left_len hil
                        have HF2 := hid hF2
                        have HM2 := hid hM2
                        have HLN := hid hln
                        generalize (bump i (x0 :: r)).eraseIdx i = l3 at *
                        clear hF2 hM2 hln hil hxi hch
                        have hb0 : (x.id == 1000) = false := by simp [hid0]
                        go_wp2_with fail
                        go_roundw
                        case rel =>
                          refine ⟨t + 1, sv3, l3, p2, by omega, by go_num, Q3.below (by (repeat' (first | (with_reducible assumption) | (with_reducible exact Below.refl _ _) | (with_reducible refine below_drewN ?_ _) | (with_reducible refine Below.drew ?_) | ((with_reducible refine below_alloc' ?_ ?_ _); rotate_left; (first | exact Nat.le_refl _ | assumption | omega)) | ((with_reducible refine Below.alloc ?_ ?_ _); rotate_left; (first | omega | (simp <;> omega))) | ((with_reducible refine Below.setCell ?_ ?_ _); rotate_left; (first | omega | (simp <;> omega)))))), HF2.out, ?_, ?_, by (repeat' (first | (with_reducible assumption) | (with_reducible exact Below.refl _ _) | (with_reducible refine below_drewN ?_ _) | (with_reducible refine Below.drew ?_) | ((with_reducible refine below_alloc' ?_ ?_ _); rotate_left; (first | exact Nat.le_refl _ | assumption | omega)) | ((with_reducible refine Below.alloc ?_ ?_ _); rotate_left; (first | omega | (simp <;> omega))) | ((with_reducible refine Below.setCell ?_ ?_ _); rotate_left; (first | omega | (simp <;> omega)))))⟩
                          · have := HM2.out; have := HM.out; omega
                          · have := HLN.out; have := HL.out; omega
                        case measure => (simp [intOf] <;> omega)
                  · obtain rfl : al = 0 := by omega
                    obtain ⟨AA, hAA⟩ : ∃ AA : Int, AA = 0 := ⟨0, rfl⟩
                    go_wp2_with fail
                    refine calls_gen (fun w6 => IsQ w6 q sv l ∧ Below m w w6) ⟨Q5.below (by (repeat' (first | (with_reducible assumption) | (with_reducible exact Below.refl _ _) | (with_reducible refine below_drewN ?_ _) | (with_reducible refine Below.drew ?_) | ((with_reducible refine below_alloc' ?_ ?_ _); rotate_left; (first | exact Nat.le_refl _ | assumption | omega)) | ((with_reducible refine Below.alloc ?_ ?_ _); rotate_left; (first | omega | (simp <;> omega))) | ((with_reducible refine Below.setCell ?_ ?_ _); rotate_left; (first | omega | (simp <;> omega)))))), by (repeat' (first | (with_reducible assumption) | (with_reducible exact Below.refl _ _) | (with_reducible refine below_drewN ?_ _) | (with_reducible refine Below.drew ?_) | ((with_reducible refine below_alloc' ?_ ?_ _); rotate_left; (first | exact Nat.le_refl _ | assumption | omega)) | ((with_reducible refine Below.alloc ?_ ?_ _); rotate_left; (first | omega | (simp <;> omega))) | ((with_reducible refine Below.setCell ?_ ?_ _); rotate_left; (first | omega | (simp <;> omega)))))⟩ ?_
                    rintro w6 ⟨Q6, L6⟩
                    clear Q5 L5
                    try clear e0
                    match l, Q6, HF, HM, HL with
                    | [], _, HF, _, _ => exfalso; obtain ⟨m, hm, _⟩ := HF.out.mine; simp at hm
                    | x0 :: r, Q6, HF, HM, HL =>
                      obtain ⟨i, x, hch, hxi⟩ := choose_get x0 r VV AA
                      try rw [hVV] at hch
                      try rw [hAA] at hch
                      refine (next_some _ _ _ x0 r _ _ i x Q6 hch hxi (fun y hy => by have h1 := HF.out.lo y hy; have h2 := HF.out.hi y hy; omega)).mono ?_; rintro e w3 ⟨rfl, sv3, Q3, M3, V3⟩
                      have L3 := belowQ L6 Q6 M3 hwq' (by omega)
                      clear M3 V3 Q6 L6
                      by_cases hid0 : x.id = 1000
                      · rw [hid0]
                        go_wp2_with fail
                        go_ret
                        exact ⟨rfl, by rw [hm]; (repeat' (first | (with_reducible assumption) | (with_reducible exact Below.refl _ _) | (with_reducible refine below_drewN ?_ _) | (with_reducible refine Below.drew ?_) | ((with_reducible refine below_alloc' ?_ ?_ _); rotate_left; (first | exact Nat.le_refl _ | assumption | omega)) | ((with_reducible refine Below.alloc ?_ ?_ _); rotate_left; (first | omega | (simp <;> omega))) | ((with_reducible refine Below.setCell ?_ ?_ _); rotate_left; (first | omega | (simp <;> omega)))))⟩
                      · obtain ⟨p2, hF2, hM2⟩ := HF.out.step hch hxi hid0
                        have hil : i < (x0 :: r).length := (List.getElem?_eq_some_iff.1 hxi).1
                        have hln := left_len hil
                        have HF2 := hid hF2
                        have HM2 := hid hM2
                        have HLN := hid hln
                        generalize (bump i (x0 :: r)).eraseIdx i = l3 at *
                        clear hF2 hM2 hln hil hxi hch
                        have hb0 : (x.id == 1000) = false := by simp [hid0]
                        go_wp2_with fail
                        go_roundw
                        case rel =>
                          refine ⟨t + 1, sv3, l3, p2, by omega, by go_num, Q3.below (by (repeat' (first | (with_reducible assumption) | (with_reducible exact Below.refl _ _) | (with_reducible refine below_drewN ?_ _) | (with_reducible refine Below.drew ?_) | ((with_reducible refine below_alloc' ?_ ?_ _); rotate_left; (first | exact Nat.le_refl _ | assumption | omega)) | ((with_reducible refine Below.alloc ?_ ?_ _); rotate_left; (first | omega | (simp <;> omega))) | ((with_reducible refine Below.setCell ?_ ?_ _); rotate_left; (first | omega | (simp <;> omega)))))), HF2.out, ?_, ?_, by (repeat' (first | (with_reducible assumption) | (with_reducible exact Below.refl _ _) | (with_reducible refine below_drewN ?_ _) | (with_reducible refine Below.drew ?_) | ((with_reducible refine below_alloc' ?_ ?_ _); rotate_left; (first | exact Nat.le_refl _ | assumption | omega)) | ((with_reducible refine Below.alloc ?_ ?_ _); rotate_left; (first | omega | (simp <;> omega))) | ((with_reducible refine Below.setCell ?_ ?_ _); rotate_left; (first | omega | (simp <;> omega)))))⟩
                          · have := HM2.out; have := HM.out; omega
                          · have := HLN.out; have := HL.out; omega
                        case measure => (simp [intOf] <;> omega)
                · obtain rfl : vl = 0 := by omega
                  obtain ⟨VV, hVV⟩ : ∃ VV : Int, VV = 0 := ⟨0, rfl⟩
                  by_cases ha0 : 0 < al
                  · have hJl : t % al < al := Nat.mod_lt _ (by omega)
                    obtain ⟨b, off, AA, rfl, hb, c0⟩ := HA.out _ hJl
                    have hAA : AA = AA := rfl
                    have d0 : w5.cell? ⟨b, off + t % al, none⟩ = _ := (L5.cell (p := ⟨b, off + t % al, none⟩) (Nat.lt_of_lt_of_eq hb hm)).trans c0
                    have hj1 : (t : Int) % (al : Int) < (al : Int) := Int.emod_lt_of_pos _ (by omega)
                    have hj0 : (0 : Int) ≤ (t : Int) % (al : Int) := Int.emod_nonneg _ (by omega)
                    have hj2 : (0 : Int) < (al : Int) := by omega
                    clear c0
                    go_wp2_with fail
                    refine calls_gen (fun w6 => IsQ w6 q sv l ∧ Below m w w6) ⟨Q5.below (by (repeat' (first | (with_reducible assumption) | (with_reducible exact Below.refl _ _) | (with_reducible refine below_drewN ?_ _) | (with_reducible refine Below.drew ?_) | ((with_reducible refine below_alloc' ?_ ?_ _); rotate_left; (first | exact Nat.le_refl _ | assumption | omega)) | ((with_reducible refine Below.alloc ?_ ?_ _); rotate_left; (first | omega | (simp <;> omega))) | ((with_reducible refine Below.setCell ?_ ?_ _); rotate_left; (first | omega | (simp <;> omega)))))), by (repeat' (first | (with_reducible assumption) | (with_reducible exact Below.refl _ _) | (with_reducible refine below_drewN ?_ _) | (with_reducible refine Below.drew ?_) | ((with_reducible refine below_alloc' ?_ ?_ _); rotate_left; (first | exact Nat.le_refl _ | assumption | omega)) | ((with_reducible refine Below.alloc ?_ ?_ _); rotate_left; (first | omega | (simp <;> omega))) | ((with_reducible refine Below.setCell ?_ ?_ _); rotate_left; (first | omega | (simp <;> omega)))))⟩ ?_
                    rintro w6 ⟨Q6, L6⟩
                    clear Q5 L5 d0
                    try clear e0
                    match l, Q6, HF, HM, HL with
                    | [], _, HF, _, _ => exfalso; obtain ⟨m, hm, _⟩ := HF.out.mine; simp at hm
                    | x0 :: r, Q6, HF, HM, HL =>
                      obtain ⟨i, x, hch, hxi⟩ := choose_get x0 r VV AA
                      try rw [hVV] at hch
                      try rw [hAA] at hch
                      refine (next_some _ _ _ x0 r _ _ i x Q6 hch hxi (fun y hy => by have h1 := HF.out.lo y hy; have h2 := HF.out.hi y hy; omega)).mono ?_; rintro e w3 ⟨rfl, sv3, Q3, M3, V3⟩
                      have L3 := belowQ L6 Q6 M3 hwq' (by omega)
                      clear M3 V3 Q6 L6
                      by_cases hid0 : x.id = 1000
                      · rw [hid0]
                        go_wp2_with fail
                        go_ret
                        exact ⟨rfl, by rw [hm]; (repeat' (first | (with_reducible assumption) | (with_reducible exact Below.refl _ _) | (with_reducible refine below_drewN ?_ _) | (with_reducible refine Below.drew ?_) | ((with_reducible refine below_alloc' ?_ ?_ _); rotate_left; (first | exact Nat.le_refl _ | assumption | omega)) | ((with_reducible refine Below.alloc ?_ ?_ _); rotate_left; (first | omega | (simp <;> omega))) | ((with_reducible refine Below.setCell ?_ ?_ _); rotate_left; (first | omega | (simp <;> omega)))))⟩
                      · obtain ⟨p2, hF2, hM2⟩ := HF.out.step hch hxi hid0
                        have hil : i < (x0 :: r).length := (List.getElem?_eq_some_iff.1 hxi).1
                        have hln := left_len hil
                        have HF2 := hid hF2
                        have HM2 := hid hM2
                        have HLN := hid hln
                        generalize (bump i (x0 :: r)).eraseIdx i = l3 at *
                        clear hF2 hM2 hln hil hxi hch
                        have hb0 : (x.id == 1000) = false := by simp [hid0]
                        go_wp2_with fail
                        go_roundw
                        case rel =>
                          refine ⟨t + 1, sv3, l3, p2, by omega, by go_num, Q3.below (by (repeat' (first | (with_reducible assumption) | (with_reducible exact Below.refl _ _) | (with_reducible refine below_drewN ?_ _) | (with_reducible refine Below.drew ?_) | ((with_reducible refine below_alloc' ?_ ?_ _); rotate_left; (first | exact Nat.le_refl _ | assumption | omega)) | ((with_reducible refine Below.alloc ?_ ?_ _); rotate_left; (first | omega | (simp <;> omega))) | ((with_reducible refine Below.setCell ?_ ?_ _); rotate_left; (first | omega | (simp <;> omega)))))), HF2.out, ?_, ?_, by (repeat' (first | (with_reducible assumption) | (with_reducible exact Below.refl _ _) | (with_reducible refine below_drewN ?_ _) | (with_reducible refine Below.drew ?_) | ((with_reducible refine below_alloc' ?_ ?_ _); rotate_left; (first | exact Nat.le_refl _ | assumption | omega)) | ((with_reducible refine Below.alloc ?_ ?_ _); rotate_left; (first | omega | (simp <;> omega))) | ((with_reducible refine Below.setCell ?_ ?_ _); rotate_left; (first | omega | (simp <;> omega)))))⟩
                          · have := HM2.out; have := HM.out; omega
                          · have := HLN.out; have := HL.out; omega
                        case measure => (simp [intOf] <;> omega)
                  · obtain rfl : al = 0 := by omega
                    obtain ⟨AA, hAA⟩ : ∃ AA : Int, AA = 0 := ⟨0, rfl⟩
                    go_wp2_with fail
                    refine calls_gen (fun w6 => IsQ w6 q sv l ∧ Below m w w6) ⟨Q5.below (by (repeat' (first | (with_reducible assumption) | (with_reducible exact Below.refl _ _) | (with_reducible refine below_drewN ?_ _) | (with_reducible refine Below.drew ?_) | ((with_reducible refine below_alloc' ?_ ?_ _); rotate_left; (first | exact Nat.le_refl _ | assumption | omega)) | ((with_reducible refine Below.alloc ?_ ?_ _); rotate_left; (first | omega | (simp <;> omega))) | ((with_reducible refine Below.setCell ?_ ?_ _); rotate_left; (first | omega | (simp <;> omega)))))), by (repeat' (first | (with_reducible assumption) | (with_reducible exact Below.refl _ _) | (with_reducible refine below_drewN ?_ _) | (with_reducible refine Below.drew ?_) | ((with_reducible refine below_alloc' ?_ ?_ _); rotate_left; (first | exact Nat.le_refl _ | assumption | omega)) | ((with_reducible refine Below.alloc ?_ ?_ _); rotate_left; (first | omega | (simp <;> omega))) | ((with_reducible refine Below.setCell ?_ ?_ _); rotate_left; (first | omega | (simp <;> omega)))))⟩ ?_
                    rintro w6 ⟨Q6, L6⟩
                    clear Q5 L5
                    try clear e0
                    match l, Q6, HF, HM, HL with
                    | [], _, HF, _, _ => exfalso; obtain ⟨m, hm, _⟩ := HF.out.mine; simp at hm
                    | x0 :: r, Q6, HF, HM, HL =>
                      obtain ⟨i, x, hch, hxi⟩ := choose_get x0 r VV AA
                      try rw [hVV] at hch
                      try rw [hAA] at hch
                      refine (next_some _ _ _ x0 r _ _ i x Q6 hch hxi (fun y hy => by have h1 := HF.out.lo y hy; have h2 := HF.out.hi y hy; omega)).mono ?_; rintro e w3 ⟨rfl, sv3, Q3, M3, V3⟩
                      have L3 := belowQ L6 Q6 M3 hwq' (by omega)
                      clear M3 V3 Q6 L6
                      by_cases hid0 : x.id = 1000
                      · rw [hid0]
                        go_wp2_with fail
                        go_ret
                        exact ⟨rfl, by rw [hm]; (repeat' (first | (with_reducible assumption) | (with_reducible exact Below.refl _ _) | (with_reducible refine below_drewN ?_ _) | (with_reducible refine Below.drew ?_) | ((with_reducible refine below_alloc' ?_ ?_ _); rotate_left; (first | exact Nat.le_refl _ | assumption | omega)) | ((with_reducible refine Below.alloc ?_ ?_ _); rotate_left; (first | omega | (simp <;> omega))) | ((with_reducible refine Below.setCell ?_ ?_ _); rotate_left; (first | omega | (simp <;> omega)))))⟩
                      · obtain ⟨p2, hF2, hM2⟩ := HF.out.step hch hxi hid0
                        have hil : i < (x0 :: r).length := (List.getElem?_eq_some_iff.1 hxi).1
                        have hln := left_len hil
                        have HF2 := hid hF2
                        have HM2 := hid hM2
                        have HLN := hid hln
                        generalize (bump i (x0 :: r)).eraseIdx i = l3 at *
                        clear hF2 hM2 hln hil hxi hch
                        have hb0 : (x.id == 1000) = false := by simp [hid0]
                        go_wp2_with fail
                        go_roundw
                        case rel =>
                          refine ⟨t + 1, sv3, l3, p2, by omega, by go_num, Q3.below (by (repeat' (first | (with_reducible assumption) | (with_reducible exact Below.refl _ _) | (with_reducible refine below_drewN ?_ _) | (with_reducible refine Below.drew ?_) | ((with_reducible refine below_alloc' ?_ ?_ _); rotate_left; (first | exact Nat.le_refl _ | assumption | omega)) | ((with_reducible refine Below.alloc ?_ ?_ _); rotate_left; (first | omega | (simp <;> omega))) | ((with_reducible refine Below.setCell ?_ ?_ _); rotate_left; (first | omega | (simp <;> omega)))))), HF2.out, ?_, ?_, by (repeat' (first | (with_reducible assumption) | (with_reducible exact Below.refl _ _) | (with_reducible refine below_drewN ?_ _) | (with_reducible refine Below.drew ?_) | ((with_reducible refine below_alloc' ?_ ?_ _); rotate_left; (first | exact Nat.le_refl _ | assumption | omega)) | ((with_reducible refine Below.alloc ?_ ?_ _); rotate_left; (first | omega | (simp <;> omega))) | ((with_reducible refine Below.setCell ?_ ?_ _); rotate_left; (first | omega | (simp <;> omega)))))⟩
                          · have := HM2.out; have := HM.out; omega
                          · have := HLN.out; have := HL.out; omega
                        case measure => (simp [intOf] <;> omega)
              · refine (add_no _ _ _ l (2000 + (t : Int)) blob V2 A2 Q4 hff).mono ?_; rintro e w5 ⟨rfl, S5⟩
                have Q5 := Q4.below S5
                have L5 := L4.trans (S5.mono (by have := L4.size; omega))
                clear Q4 L4 S5 hff
                have HL5 : Hid (l.length ≤ k + 1 + t + 1) := hid (by have := HL.out; omega)
                clear HL
                have HL := HL5
                clear HL5
                by_cases hv0 : 0 < vl
                · have hIl : t % vl < vl := Nat.mod_lt _ (by omega)
                  obtain ⟨b', off', VV, rfl, hb', c0⟩ := HV.out _ hIl
                  have hVV : VV = VV := rfl
                  have e0 : w5.cell? ⟨b', off' + t % vl, none⟩ = _ := (L5.cell (p := ⟨b', off' + t % vl, none⟩) (Nat.lt_of_lt_of_eq hb' hm)).trans c0
                  have hi1 : (t : Int) % (vl : Int) < (vl : Int) := Int.emod_lt_of_pos _ (by omega)
                  have hi0 : (0 : Int) ≤ (t : Int) % (vl : Int) := Int.emod_nonneg _ (by omega)
                  have hi2 : (0 : Int) < (vl : Int) := by omega
                  clear c0
                  by_cases ha0 : 0 < al
                  · have hJl : t % al < al := Nat.mod_lt _ (by omega)
                    obtain ⟨b, off, AA, rfl, hb, c0⟩ := HA.out _ hJl
                    have hAA : AA = AA := rfl
                    have d0 : w5.cell? ⟨b, off + t % al, none⟩ = _ := (L5.cell (p := ⟨b, off + t % al, none⟩) (Nat.lt_of_lt_of_eq hb hm)).trans c0
                    have hj1 : (t : Int) % (al : Int) < (al : Int) := Int.emod_lt_of_pos _ (by omega)
                    have hj0 : (0 : Int) ≤ (t : Int) % (al : Int) := Int.emod_nonneg _ (by omega)
                    have hj2 : (0 : Int) < (al : Int) := by omega
                    clear c0
                    go_wp2_with fail
                    refine calls_gen (fun w6 => IsQ w6 q sv l ∧ Below m w w6) ⟨Q5.below (by (repeat' (first | (with_reducible assumption) | (with_reducible exact Below.refl _ _) | (with_reducible refine below_drewN ?_ _) | (with_reducible refine Below.drew ?_) | ((with_reducible refine below_alloc' ?_ ?_ _); rotate_left; (first | exact Nat.le_refl _ | assumption | omega)) | ((with_reducible refine Below.alloc ?_ ?_ _); rotate_left; (first | omega | (simp <;> omega))) | ((with_reducible refine Below.setCell ?_ ?_ _); rotate_left; (first | omega | (simp <;> omega)))))), by (repeat' (first | (with_reducible assumption) | (with_reducible exact Below.refl _ _) | (with_reducible refine below_drewN ?_ _) | (with_reducible refine Below.drew ?_) | ((with_reducible refine below_alloc' ?_ ?_ _); rotate_left; (first | exact Nat.le_refl _ | assumption | omega)) | ((with_reducible refine Below.alloc ?_ ?_ _); rotate_left; (first | omega | (simp <;> omega))) | ((with_reducible refine Below.setCell ?_ ?_ _); rotate_left; (first | omega | (simp <;> omega)))))⟩ ?_
                    rintro w6 ⟨Q6, L6⟩
                    clear Q5 L5 d0
                    try clear e0
                    match l, Q6, HF, HM, HL with
                    | [], _, HF, _, _ => exfalso; obtain ⟨m, hm, _⟩ := HF.out.mine; simp at hm
                    | x0 :: r, Q6, HF, HM, HL =>
                      obtain ⟨i, x, hch, hxi⟩ := choose_get x0 r VV AA
                      try rw [hVV] at hch
                      try rw [hAA] at hch
                      refine (next_some _ _ _ x0 r _ _ i x Q6 hch hxi (fun y hy => by have h1 := HF.out.lo y hy; have h2 := HF.out.hi y hy; omega)).mono ?_; rintro e w3 ⟨rfl, sv3, Q3, M3, V3⟩
                      have L3 := belowQ L6 Q6 M3 hwq' (by omega)
                      clear M3 V3 Q6 L6
                      by_cases hid0 : x.id = 1000
                      · rw [hid0]
                        go_wp2_with fail
                        go_ret
                        exact ⟨rfl, by rw [hm]; (repeat' (first | (with_reducible assumption) | (with_reducible exact Below.refl _ _) | (with_reducible refine below_drewN ?_ _) | (with_reducible refine Below.drew ?_) | ((with_reducible refine below_alloc' ?_ ?_ _); rotate_left; (first | exact Nat.le_refl _ | assumption | omega)) | ((with_reducible refine Below.alloc ?_ ?_ _); rotate_left; (first | omega | (simp <;> omega))) | ((with_reducible refine Below.setCell ?_ ?_ _); rotate_left; (first | omega | (simp <;> omega)))))⟩
                      · obtain ⟨p2, hF2, hM2⟩ := HF.out.step hch hxi hid0
                        have hil : i < (x0 :: r).length := (List.getElem?_eq_some_iff.1 hxi).1
                        have hln := left_len hil
                        have HF2 := hid hF2
                        have HM2 := hid hM2
                        have HLN := hid hln
                        generalize (bump i (x0 :: r)).eraseIdx i = l3 at *
                        clear hF2 hM2 hln hil hxi hch
                        have hb0 : (x.id == 1000) = false := by simp [hid0]
                        go_wp2_with fail
                        go_roundw
                        case rel =>
                          refine ⟨t + 1, sv3, l3, p2, by omega, by go_num, Q3.below (by (repeat' (first | (with_reducible assumption) | (with_reducible exact Below.refl _ _) | (with_reducible refine below_drewN ?_ _) | (with_reducible refine Below.drew ?_) | ((with_reducible refine below_alloc' ?_ ?_ _); rotate_left; (first | exact Nat.le_refl _ | assumption | omega)) | ((with_reducible refine Below.alloc ?_ ?_ _); rotate_left; (first | omega | (simp <;> omega))) | ((with_reducible refine Below.setCell ?_ ?_ _); rotate_left; (first | omega | (simp <;> omega)))))), HF2.out, ?_, ?_, by (repeat' (first | (with_reducible assumption) | (with_reducible exact Below.refl _ _) | (with_reducible refine below_drewN ?_ _) | (with_reducible refine Below.drew ?_) | ((with_reducible refine below_alloc' ?_ ?_ _); rotate_left; (first | exact Nat.le_refl _ | assumption | omega)) | ((with_reducible refine Below.alloc ?_ ?_ _); rotate_left; (first | omega | (simp <;> omega))) | ((with_reducible refine Below.setCell ?_ ?_ _); rotate_left; (first | omega | (simp <;> omega)))))⟩
                          · have := HM2.out; have := HM.out; omega
                          · have := HLN.out; have := HL.out; omega
                        case measure => (simp [intOf] <;> omega)
                  · obtain rfl : al = 0 := by omega
                    obtain ⟨AA, hAA⟩ : ∃ AA : Int, AA = 0 := ⟨0, rfl⟩
                    go_wp2_with fail
                    refine calls_gen (fun w6 => IsQ w6 q sv l ∧ Below m w w6) ⟨Q5.below (by (repeat' (first | (with_reducible assumption) | (with_reducible exact Below.refl _ _) | (with_reducible refine below_drewN ?_ _) | (with_reducible refine Below.drew ?_) | ((with_reducible refine below_alloc' ?_ ?_ _); rotate_left; (first | exact Nat.le_refl _ | assumption | omega)) | ((with_reducible refine Below.alloc ?_ ?_ _); rotate_left; (first | omega | (simp <;> omega))) | ((with_reducible refine Below.setCell ?_ ?_ _); rotate_left; (first | omega | (simp <;> omega)))))), by (repeat' (first | (with_reducible assumption) | (with_reducible exact Below.refl _ _) | (with_reducible refine below_drewN ?_ _) | (with_reducible refine Below.drew ?_) | ((with_reducible refine below_alloc' ?_ ?_ _); rotate_left; (first | exact Nat.le_refl _ | assumption | omega)) | ((with_reducible refine Below.alloc ?_ ?_ _); rotate_left; (first | omega | (simp <;> omega))) | ((with_reducible refine Below.setCell ?_ ?_ _); rotate_left; (first | omega | (simp <;> omega)))))⟩ ?_
                    rintro w6 ⟨Q6, L6⟩
                    clear Q5 L5
                    try clear e0
                    match l, Q6, HF, HM, HL with
                    | [], _, HF, _, _ => exfalso; obtain ⟨m, hm, _⟩ := HF.out.mine; simp at hm
                    | x0 :: r, Q6, HF, HM, HL =>
                      obtain ⟨i, x, hch, hxi⟩ := choose_get x0 r VV AA
                      try rw [hVV] at hch
                      try rw [hAA] at hch
                      refine (next_some _ _ _ x0 r _ _ i x Q6 hch hxi (fun y hy => by have h1 := HF.out.lo y hy; have h2 := HF.out.hi y hy; omega)).mono ?_; rintro e w3 ⟨rfl, sv3, Q3, M3, V3⟩
                      have L3 := belowQ L6 Q6 M3 hwq' (by omega)
                      clear M3 V3 Q6 L6
                      by_cases hid0 : x.id = 1000
                      · rw [hid0]
                        go_wp2_with fail
                        go_ret
                        exact ⟨rfl, by rw [hm]; (repeat' (first | (with_reducible assumption) | (with_reducible exact Below.refl _ _) | (with_reducible refine below_drewN ?_ _) | (with_reducible refine Below.drew ?_) | ((with_reducible refine below_alloc' ?_ ?_ _); rotate_left; (first | exact Nat.le_refl _ | assumption | omega)) | ((with_reducible refine Below.alloc ?_ ?_ _); rotate_left; (first | omega | (simp <;> omega))) | ((with_reducible refine Below.setCell ?_ ?_ _); rotate_left; (first | omega | (simp <;> omega)))))⟩
                      · obtain ⟨p2, hF2, hM2⟩ := HF.out.step hch hxi hid0
                        have hil : i < (x0 :: r).length := (List.getElem?_eq_some_iff.1 hxi).1
                        have hln := left_len hil
                        have HF2 := hid hF2
                        have HM2 := hid hM2
                        have HLN := hid hln
                        generalize (bump i (x0 :: r)).eraseIdx i = l3 at *
                        clear hF2 hM2 hln hil hxi hch
                        have hb0 : (x.id == 1000) = false := by simp [hid0]
                        go_wp2_with fail
                        go_roundw
                        case rel =>
                          refine ⟨t + 1, sv3, l3, p2, by omega, by go_num, Q3.below (by (repeat' (first | (with_reducible assumption) | (with_reducible exact Below.refl _ _) | (with_reducible refine below_drewN ?_ _) | (with_reducible refine Below.drew ?_) | ((with_reducible refine below_alloc' ?_ ?_ _); rotate_left; (first | exact Nat.le_refl _ | assumption | omega)) | ((with_reducible refine Below.alloc ?_ ?_ _); rotate_left; (first | omega | (simp <;> omega))) | ((with_reducible refine Below.setCell ?_ ?_ _); rotate_left; (first | omega | (simp <;> omega)))))), HF2.out, ?_, ?_, by (repeat' (first | (with_reducible assumption) | (with_reducible exact Below.refl _ _) | (with_reducible refine below_drewN ?_ _) | (with_reducible refine Below.drew ?_) | ((with_reducible refine below_alloc' ?_ ?_ _); rotate_left; (first | exact Nat.le_refl _ | assumption | omega)) | ((with_reducible refine Below.alloc ?_ ?_ _); rotate_left; (first | omega | (simp <;> omega))) | ((with_reducible refine Below.setCell ?_ ?_ _); rotate_left; (first | omega | (simp <;> omega)))))⟩
                          · have := HM2.out; have := HM.out; omega
                          · have := HLN.out; have := HL.out; omega
                        case measure => (simp [intOf] <;> omega)
                · obtain rfl : vl = 0 := by omega
                  obtain ⟨VV, hVV⟩ : ∃ VV : Int, VV = 0 := ⟨0, rfl⟩
                  by_cases ha0 : 0 < al
                  · have hJl : t % al < al := Nat.mod_lt _ (by omega)
                    obtain ⟨b, off, AA, rfl, hb, c0⟩ := HA.out _ hJl
                    have hAA : AA = AA := rfl
                    have d0 : w5.cell? ⟨b, off + t % al, none⟩ = _ := (L5.cell (p := ⟨b, off + t % al, none⟩) (Nat.lt_of_lt_of_eq hb hm)).trans c0
                    have hj1 : (t : Int) % (al : Int) < (al : Int) := Int.emod_lt_of_pos _ (by omega)
                    have hj0 : (0 : Int) ≤ (t : Int) % (al : Int) := Int.emod_nonneg _ (by omega)
                    have hj2 : (0 : Int) < (al : Int) := by omega
                    clear c0
                    go_wp2_with fail
                    refine calls_gen (fun w6 => IsQ w6 q sv l ∧ Below m w w6) ⟨Q5.below (by (repeat' (first | (with_reducible assumption) | (with_reducible exact Below.refl _ _) | (with_reducible refine below_drewN ?_ _) | (with_reducible refine Below.drew ?_) | ((with_reducible refine below_alloc' ?_ ?_ _); rotate_left; (first | exact Nat.le_refl _ | assumption | omega)) | ((with_reducible refine Below.alloc ?_ ?_ _); rotate_left; (first | omega | (simp <;> omega))) | ((with_reducible refine Below.setCell ?_ ?_ _); rotate_left; (first | omega | (simp <;> omega)))))), by (repeat' (first | (with_reducible assumption) | (with_reducible exact Below.refl _ _) | (with_reducible refine below_drewN ?_ _) | (with_reducible refine Below.drew ?_) | ((with_reducible refine below_alloc' ?_ ?_ _); rotate_left; (first | exact Nat.le_refl _ | assumption | omega)) | ((with_reducible refine Below.alloc ?_ ?_ _); rotate_left; (first | omega | (simp <;> omega))) | ((with_reducible refine Below.setCell ?_ ?_ _); rotate_left; (first | omega | (simp <;> omega)))))⟩ ?_
                    rintro w6 ⟨Q6, L6⟩
                    clear Q5 L5 d0
                    try clear e0
                    match l, Q6, HF, HM, HL with
                    | [], _, HF, _, _ => exfalso; obtain ⟨m, hm, _⟩ := HF.out.mine; simp at hm
                    | x0 :: r, Q6, HF, HM, HL =>
                      obtain ⟨i, x, hch, hxi⟩ := choose_get x0 r VV AA
                      try rw [hVV] at hch
                      try rw [hAA] at hch
                      refine (next_some _ _ _ x0 r _ _ i x Q6 hch hxi (fun y hy => by have h1 := HF.out.lo y hy; have h2 := HF.out.hi y hy; omega)).mono ?_; rintro e w3 ⟨rfl, sv3, Q3, M3, V3⟩
                      have L3 := belowQ L6 Q6 M3 hwq' (by omega)
                      clear M3 V3 Q6 L6
                      by_cases hid0 : x.id = 1000
                      · rw [hid0]
                        go_wp2_with fail
                        go_ret
                        exact ⟨rfl, by rw [hm]; (repeat' (first | (with_reducible assumption) | (with_reducible exact Below.refl _ _) | (with_reducible refine below_drewN ?_ _) | (with_reducible refine Below.drew ?_) | ((with_reducible refine below_alloc' ?_ ?_ _); rotate_left; (first | exact Nat.le_refl _ | assumption | omega)) | ((with_reducible refine Below.alloc ?_ ?_ _); rotate_left; (first | omega | (simp <;> omega))) | ((with_reducible refine Below.setCell ?_ ?_ _); rotate_left; (first | omega | (simp <;> omega)))))⟩
                      · obtain ⟨p2, hF2, hM2⟩ := HF.out.step hch hxi hid0
                        have hil : i < (x0 :: r).length := (List.getElem?_eq_some_iff.1 hxi).1
                        have hln := left_len hil
                        have HF2 := hid hF2
                        have HM2 := hid hM2
                        have HLN := hid hln
                        generalize (bump i (x0 :: r)).eraseIdx i = l3 at *
                        clear hF2 hM2 hln hil hxi hch
                        have hb0 : (x.id == 1000) = false := by simp [hid0]
                        go_wp2_with fail
                        go_roundw
                        case rel =>
                          refine ⟨t + 1, sv3, l3, p2, by omega, by go_num, Q3.below (by (repeat' (first | (with_reducible assumption) | (with_reducible exact Below.refl _ _) | (with_reducible refine below_drewN ?_ _) | (with_reducible refine Below.drew ?_) | ((with_reducible refine below_alloc' ?_ ?_ _); rotate_left; (first | exact Nat.le_refl _ | assumption | omega)) | ((with_reducible refine Below.alloc ?_ ?_ _); rotate_left; (first | omega | (simp <;> omega))) | ((with_reducible refine Below.setCell ?_ ?_ _); rotate_left; (first | omega | (simp <;> omega)))))), HF2.out, ?_, ?_, by (repeat' (first | (with_reducible assumption) | (with_reducible exact Below.refl _ _) | (with_reducible refine below_drewN ?_ _) | (with_reducible refine Below.drew ?_) | ((with_reducible refine below_alloc' ?_ ?_ _); rotate_left; (first | exact Nat.le_refl _ | assumption | omega)) | ((with_reducible refine Below.alloc ?_ ?_ _); rotate_left; (first | omega | (simp <;> omega))) | ((with_reducible refine Below.setCell ?_ ?_ _); rotate_left; (first | omega | (simp <;> omega)))))⟩
                          · have := HM2.out; have := HM.out; omega
                          · have := HLN.out; have := HL.out; omega
                        case measure => (simp [intOf] <;> omega)
                  · obtain rfl : al = 0 := by omega
                    obtain ⟨AA, hAA⟩ : ∃ AA : Int, AA = 0 := ⟨0, rfl⟩
                    go_wp2_with fail
                    refine calls_gen (fun w6 => IsQ w6 q sv l ∧ Below m w w6) ⟨Q5.below (by (repeat' (first | (with_reducible assumption) | (with_reducible exact Below.refl _ _) | (with_reducible refine below_drewN ?_ _) | (with_reducible refine Below.drew ?_) | ((with_reducible refine below_alloc' ?_ ?_ _); rotate_left; (first | exact Nat.le_refl _ | assumption | omega)) | ((with_reducible refine Below.alloc ?_ ?_ _); rotate_left; (first | omega | (simp <;> omega))) | ((with_reducible refine Below.setCell ?_ ?_ _); rotate_left; (first | omega | (simp <;> omega)))))), by (repeat' (first | (with_reducible assumption) | (with_reducible exact Below.refl _ _) | (with_reducible refine below_drewN ?_ _) | (with_reducible refine Below.drew ?_) | ((with_reducible refine below_alloc' ?_ ?_ _); rotate_left; (first | exact Nat.le_refl _ | assumption | omega)) | ((with_reducible refine Below.alloc ?_ ?_ _); rotate_left; (first | omega | (simp <;> omega))) | ((with_reducible refine Below.setCell ?_ ?_ _); rotate_left; (first | omega | (simp <;> omega)))))⟩ ?_
                    rintro w6 ⟨Q6, L6⟩
                    clear Q5 L5
                    try clear e0
                    match l, Q6, HF, HM, HL with
                    | [], _, HF, _, _ => exfalso; obtain ⟨m, hm, _⟩ := HF.out.mine; simp at hm
                    | x0 :: r, Q6, HF, HM, HL =>
                      obtain ⟨i, x, hch, hxi⟩ := choose_get x0 r VV AA
                      try rw [hVV] at hch
                      try rw [hAA] at hch
                      refine (next_some _ _ _ x0 r _ _ i x Q6 hch hxi (fun y hy => by have h1 := HF.out.lo y hy; have h2 := HF.out.hi y hy; omega)).mono ?_; rintro e w3 ⟨rfl, sv3, Q3, M3, V3⟩
                      have L3 := belowQ L6 Q6 M3 hwq' (by omega)
                      clear M3 V3 Q6 L6
                      by_cases hid0 : x.id = 1000
                      · rw [hid0]
                        go_wp2_with fail
                        go_ret
                        exact ⟨rfl, by rw [hm]; (repeat' (first | (with_reducible assumption) | (with_reducible exact Below.refl _ _) | (with_reducible refine below_drewN ?_ _) | (with_reducible refine Below.drew ?_) | ((with_reducible refine below_alloc' ?_ ?_ _); rotate_left; (first | exact Nat.le_refl _ | assumption | omega)) | ((with_reducible refine Below.alloc ?_ ?_ _); rotate_left; (first | omega | (simp <;> omega))) | ((with_reducible refine Below.setCell ?_ ?_ _); rotate_left; (first | omega | (simp <;> omega)))))⟩
                      · obtain ⟨p2, hF2, hM2⟩ := HF.out.step hch hxi hid0
                        have hil : i < (x0 :: r).length := (List.getElem?_eq_some_iff.1 hxi).1
                        have hln := left_len hil
                        have HF2 := hid hF2
                        have HM2 := hid hM2
                        have HLN := hid hln
                        generalize (bump i (x0 :: r)).eraseIdx i = l3 at *
                        clear hF2 hM2 hln hil hxi hch
                        have hb0 : (x.id == 1000) = false := by simp [hid0]
                        go_wp2_with fail
                        go_roundw
                        case rel =>
                          refine ⟨t + 1, sv3, l3, p2, by omega, by go_num, Q3.below (by (repeat' (first | (with_reducible assumption) | (with_reducible exact Below.refl _ _) | (with_reducible refine below_drewN ?_ _) | (with_reducible refine Below.drew ?_) | ((with_reducible refine below_alloc' ?_ ?_ _); rotate_left; (first | exact Nat.le_refl _ | assumption | omega)) | ((with_reducible refine Below.alloc ?_ ?_ _); rotate_left; (first | omega | (simp <;> omega))) | ((with_reducible refine Below.setCell ?_ ?_ _); rotate_left; (first | omega | (simp <;> omega)))))), HF2.out, ?_, ?_, by (repeat' (first | (with_reducible assumption) | (with_reducible exact Below.refl _ _) | (with_reducible refine below_drewN ?_ _) | (with_reducible refine Below.drew ?_) | ((with_reducible refine below_alloc' ?_ ?_ _); rotate_left; (first | exact Nat.le_refl _ | assumption | omega)) | ((with_reducible refine Below.alloc ?_ ?_ _); rotate_left; (first | omega | (simp <;> omega))) | ((with_reducible refine Below.setCell ?_ ?_ _); rotate_left; (first | omega | (simp <;> omega)))))⟩
                          · have := HM2.out; have := HM.out; omega
                          · have := HLN.out; have := HL.out; omega
                        case measure => (simp [intOf] <;> omega)
            · obtain rfl : bl = 0 := by omega
              have HL5 : Hid (l.length ≤ k + 1 + t + 1) := hid (by have := HL.out; omega)
              clear HL
              have HL := HL5
              have Q5 := Qr
              have L5 := Lr
              clear HL5 Qr Lr
              generalize wr = w5 at *
              by_cases hv0 : 0 < vl
              · have hIl : t % vl < vl := Nat.mod_lt _ (by omega)
                obtain ⟨b', off', VV, rfl, hb', c0⟩ := HV.out _ hIl
                have hVV : VV = VV := rfl
                have e0 : w5.cell? ⟨b', off' + t % vl, none⟩ = _ := (L5.cell (p := ⟨b', off' + t % vl, none⟩) (Nat.lt_of_lt_of_eq hb' hm)).trans c0
                have hi1 : (t : Int) % (vl : Int) < (vl : Int) := Int.emod_lt_of_pos _ (by omega)
                have hi0 : (0 : Int) ≤ (t : Int) % (vl : Int) := Int.emod_nonneg _ (by omega)
                have hi2 : (0 : Int) < (vl : Int) := by omega
                clear c0
                by_cases ha0 : 0 < al
                · have hJl : t % al < al := Nat.mod_lt _ (by omega)
                  obtain ⟨b, off, AA, rfl, hb, c0⟩ := HA.out _ hJl
                  have hAA : AA = AA := rfl
                  have d0 : w5.cell? ⟨b, off + t % al, none⟩ = _ := (L5.cell (p := ⟨b, off + t % al, none⟩) (Nat.lt_of_lt_of_eq hb hm)).trans c0
                  have hj1 : (t : Int) % (al : Int) < (al : Int) := Int.emod_lt_of_pos _ (by omega)
                  have hj0 : (0 : Int) ≤ (t : Int) % (al : Int) := Int.emod_nonneg _ (by omega)
                  have hj2 : (0 : Int) < (al : Int) := by omega
                  clear c0
                  go_wp2_with fail
                  refine calls_gen (fun w6 => IsQ w6 q sv l ∧ Below m w w6) ⟨Q5.below (by (repeat' (first | (with_reducible assumption) | (with_reducible exact Below.refl _ _) | (with_reducible refine below_drewN ?_ _) | (with_reducible refine Below.drew ?_) | ((with_reducible refine below_alloc' ?_ ?_ _); rotate_left; (first | exact Nat.le_refl _ | assumption | omega)) | ((with_reducible refine Below.alloc ?_ ?_ _); rotate_left; (first | omega | (simp <;> omega))) | ((with_reducible refine Below.setCell ?_ ?_ _); rotate_left; (first | omega | (simp <;> omega)))))), by (repeat' (first | (with_reducible assumption) | (with_reducible exact Below.refl _ _) | (with_reducible refine below_drewN ?_ _) | (with_reducible refine Below.drew ?_) | ((with_reducible refine below_alloc' ?_ ?_ _); rotate_left; (first | exact Nat.le_refl _ | assumption | omega)) | ((with_reducible refine Below.alloc ?_ ?_ _); rotate_left; (first | omega | (simp <;> omega))) | ((with_reducible refine Below.setCell ?_ ?_ _); rotate_left; (first | omega | (simp <;> omega)))))⟩ ?_
                  rintro w6 ⟨Q6, L6⟩
                  clear Q5 L5 d0
                  try clear e0
                  match l, Q6, HF, HM, HL with
                  | [], _, HF, _, _ => exfalso; obtain ⟨m, hm, _⟩ := HF.out.mine; simp at hm
                  | x0 :: r, Q6, HF, HM, HL =>
                    obtain ⟨i, x, hch, hxi⟩ := choose_get x0 r VV AA
                    try rw [hVV] at hch
                    try rw [hAA] at hch
                    refine (next_some _ _ _ x0 r _ _ i x Q6 hch hxi (fun y hy => by have h1 := HF.out.lo y hy; have h2 := HF.out.hi y hy; omega)).mono ?_; rintro e w3 ⟨rfl, sv3, Q3, M3, V3⟩
                    have L3 := belowQ L6 Q6 M3 hwq' (by omega)
                    clear M3 V3 Q6 L6
                    by_cases hid0 : x.id = 1000
                    · rw [hid0]
                      go_wp2_with fail
                      go_ret
                      exact ⟨rfl, by rw [hm]; (repeat' (first | (with_reducible assumption) | (with_reducible exact Below.refl _ _) | (with_reducible refine below_drewN ?_ _) | (with_reducible refine Below.drew ?_) | ((with_reducible refine below_alloc' ?_ ?_ _); rotate_left; (first | exact Nat.le_refl _ | assumption | omega)) | ((with_reducible refine Below.alloc ?_ ?_ _); rotate_left; (first | omega | (simp <;> omega))) | ((with_reducible refine Below.setCell ?_ ?_ _); rotate_left; (first | omega | (simp <;> omega)))))⟩
                    · obtain ⟨p2, hF2, hM2⟩ := HF.out.step hch hxi hid0
                      have hil : i < (x0 :: r).length := (List.getElem?_eq_some_iff.1 hxi).1
                      have hln := left_len hil
                      have HF2 := hid hF2
                      have HM2 := hid hM2
                      have HLN := hid hln
                      generalize (bump i (x0 :: r)).eraseIdx i = l3 at *
                      clear hF2 hM2 hln hil hxi hch
                      have hb0 : (x.id == 1000) = false := by simp [hid0]
                      go_wp2_with fail
                      go_roundw
                      case rel =>
                        refine ⟨t + 1, sv3, l3, p2, by omega, by go_num, Q3.below (by (repeat' (first | (with_reducible assumption) | (with_reducible exact Below.refl _ _) | (with_reducible refine below_drewN ?_ _) | (with_reducible refine Below.drew ?_) | ((with_reducible refine below_alloc' ?_ ?_ _); rotate_left; (first | exact Nat.le_refl _ | assumption | omega)) | ((with_reducible refine Below.alloc ?_ ?_ _); rotate_left; (first | omega | (simp <;> omega))) | ((with_reducible refine Below.setCell ?_ ?_ _); rotate_left; (first | omega | (simp <;> omega)))))), HF2.out, ?_, ?_, by (repeat' (first | (with_reducible assumption) | (with_reducible exact Below.refl _ _) | (with_reducible refine below_drewN ?_ _) | (with_reducible refine Below.drew ?_) | ((with_reducible refine below_alloc' ?_ ?_ _); rotate_left; (first | exact Nat.le_refl _ | assumption | omega)) | ((with_reducible refine Below.alloc ?_ ?_ _); rotate_left; (first | omega | (simp <;> omega))) | ((with_reducible refine Below.setCell ?_ ?_ _); rotate_left; (first | omega | (simp <;> omega)))))⟩
                        · have := HM2.out; have := HM.out; omega
                        · have := HLN.out; have := HL.out; omega
                      case measure => (simp [intOf] <;> omega)
                · obtain rfl : al = 0 := by omega
                  obtain ⟨AA, hAA⟩ : ∃ AA : Int, AA = 0 := ⟨0, rfl⟩
                  go_wp2_with fail
                  refine calls_gen (fun w6 => IsQ w6 q sv l ∧ Below m w w6) ⟨Q5.below (by (repeat' (first | (with_reducible assumption) | (with_reducible exact Below.refl _ _) | (with_reducible refine below_drewN ?_ _) | (with_reducible refine Below.drew ?_) | ((with_reducible refine below_alloc' ?_ ?_ _); rotate_left; (first | exact Nat.le_refl _ | assumption | omega)) | ((with_reducible refine Below.alloc ?_ ?_ _); rotate_left; (first | omega | (simp <;> omega))) | ((with_reducible refine Below.setCell ?_ ?_ _); rotate_left; (first | omega | (simp <;> omega)))))), by (repeat' (first | (with_reducible assumption) | (with_reducible exact Below.refl _ _) | (with_reducible refine below_drewN ?_ _) | (with_reducible refine Below.drew ?_) | ((with_reducible refine below_alloc' ?_ ?_ _); rotate_left; (first | exact Nat.le_refl _ | assumption | omega)) | ((with_reducible refine Below.alloc ?_ ?_ _); rotate_left; (first | omega | (simp <;> omega))) | ((with_reducible refine Below.setCell ?_ ?_ _); rotate_left; (first | omega | (simp <;> omega)))))⟩ ?_
                  rintro w6 ⟨Q6, L6⟩
                  clear Q5 L5
                  try clear e0
                  match l, Q6, HF, HM, HL with
                  | [], _, HF, _, _ => exfalso; obtain ⟨m, hm, _⟩ := HF.out.mine; simp at hm
                  | x0 :: r, Q6, HF, HM, HL =>
                    obtain ⟨i, x, hch, hxi⟩ := choose_get x0 r VV AA
                    try rw [hVV] at hch
                    try rw [hAA] at hch
                    refine (next_some _ _ _ x0 r _ _ i x Q6 hch hxi (fun y hy => by have h1 := HF.out.lo y hy; have h2 := HF.out.hi y hy; omega)).mono ?_; rintro e w3 ⟨rfl, sv3, Q3, M3, V3⟩
                    have L3 := belowQ L6 Q6 M3 hwq' (by omega)
                    clear M3 V3 Q6 L6
                    by_cases hid0 : x.id = 1000
                    · rw [hid0]
                      go_wp2_with fail
                      go_ret
                      exact ⟨rfl, by rw [hm]; (repeat' (first | (with_reducible assumption) | (with_reducible exact Below.refl _ _) | (with_reducible refine below_drewN ?_ _) | (with_reducible refine Below.drew ?_) | ((with_reducible refine below_alloc' ?_ ?_ _); rotate_left; (first | exact Nat.le_refl _ | assumption | omega)) | ((with_reducible refine Below.alloc ?_ ?_ _); rotate_left; (first | omega | (simp <;> omega))) | ((with_reducible refine Below.setCell ?_ ?_ _); rotate_left; (first | omega | (simp <;> omega)))))⟩
                    · obtain ⟨p2, hF2, hM2⟩ := HF.out.step hch hxi hid0
                      have hil : i < (x0 :: r).length := (List.getElem?_eq_some_iff.1 hxi).1
                      have hln := left_len hil
                      have HF2 := hid hF2
                      have HM2 := hid hM2
                      have HLN := hid hln
                      generalize (bump i (x0 :: r)).eraseIdx i = l3 at *
                      clear hF2 hM2 hln hil hxi hch
                      have hb0 : (x.id == 1000) = false := by simp [hid0]
                      go_wp2_with fail
                      go_roundw
                      case rel =>
                        refine ⟨t + 1, sv3, l3, p2, by omega, by go_num, Q3.below (by (repeat' (first | (with_reducible assumption) | (with_reducible exact Below.refl _ _) | (with_reducible refine below_drewN ?_ _) | (with_reducible refine Below.drew ?_) | ((with_reducible refine below_alloc' ?_ ?_ _); rotate_left; (first | exact Nat.le_refl _ | assumption | omega)) | ((with_reducible refine Below.alloc ?_ ?_ _); rotate_left; (first | omega | (simp <;> omega))) | ((with_reducible refine Below.setCell ?_ ?_ _); rotate_left; (first | omega | (simp <;> omega)))))), HF2.out, ?_, ?_, by (repeat' (first | (with_reducible assumption) | (with_reducible exact Below.refl _ _) | (with_reducible refine below_drewN ?_ _) | (with_reducible refine Below.drew ?_) | ((with_reducible refine below_alloc' ?_ ?_ _); rotate_left; (first | exact Nat.le_refl _ | assumption | omega)) | ((with_reducible refine Below.alloc ?_ ?_ _); rotate_left; (first | omega | (simp <;> omega))) | ((with_reducible refine Below.setCell ?_ ?_ _); rotate_left; (first | omega | (simp <;> omega)))))⟩
                        · have := HM2.out; have := HM.out; omega
                        · have := HLN.out; have := HL.out; omega
                      case measure => (simp [intOf] <;> omega)
              · obtain rfl : vl = 0 := by omega
                obtain ⟨VV, hVV⟩ : ∃ VV : Int, VV = 0 := ⟨0, rfl⟩
                by_cases ha0 : 0 < al
                · have hJl : t % al < al := Nat.mod_lt _ (by omega)
                  obtain ⟨b, off, AA, rfl, hb, c0⟩ := HA.out _ hJl
                  have hAA : AA = AA := rfl
                  have d0 : w5.cell? ⟨b, off + t % al, none⟩ = _ := (L5.cell (p := ⟨b, off + t % al, none⟩) (Nat.lt_of_lt_of_eq hb hm)).trans c0
                  have hj1 : (t : Int) % (al : Int) < (al : Int) := Int.emod_lt_of_pos _ (by omega)
                  have hj0 : (0 : Int) ≤ (t : Int) % (al : Int) := Int.emod_nonneg _ (by omega)
                  have hj2 : (0 : Int) < (al : Int) := by omega
                  clear c0
                  go_wp2_with fail
                  refine calls_gen (fun w6 => IsQ w6 q sv l ∧ Below m w w6) ⟨Q5.below (by (repeat' (first | (with_reducible assumption) | (with_reducible exact Below.refl _ _) | (with_reducible refine below_drewN ?_ _) | (with_reducible refine Below.drew ?_) | ((with_reducible refine below_alloc' ?_ ?_ _); rotate_left; (first | exact Nat.le_refl _ | assumption | omega)) | ((with_reducible refine Below.alloc ?_ ?_ _); rotate_left; (first | omega | (simp <;> omega))) | ((with_reducible refine Below.setCell ?_ ?_ _); rotate_left; (first | omega | (simp <;> omega)))))), by (repeat' (first | (with_reducible assumption) | (with_reducible exact Below.refl _ _) | (with_reducible refine below_drewN ?_ _) | (with_reducible refine Below.drew ?_) | ((with_reducible refine below_alloc' ?_ ?_ _); rotate_left; (first | exact Nat.le_refl _ | assumption | omega)) | ((with_reducible refine Below.alloc ?_ ?_ _); rotate_left; (first | omega | (simp <;> omega))) | ((with_reducible refine Below.setCell ?_ ?_ _); rotate_left; (first | omega | (simp <;> omega)))))⟩ ?_
                  rintro w6 ⟨Q6, L6⟩
                  clear Q5 L5 d0
                  try clear e0
                  match l, Q6, HF, HM, HL with
                  | [], _, HF, _, _ => exfalso; obtain ⟨m, hm, _⟩ := HF.out.mine; simp at hm
                  | x0 :: r, Q6, HF, HM, HL =>
                    obtain ⟨i, x, hch, hxi⟩ := choose_get x0 r VV AA
                    try rw [hVV] at hch
                    try rw [hAA] at hch
                    refine (next_some _ _ _ x0 r _ _ i x Q6 hch hxi (fun y hy => by have h1 := HF.out.lo y hy; have h2 := HF.out.hi y hy; omega)).mono ?_; rintro e w3 ⟨rfl, sv3, Q3, M3, V3⟩
                    have L3 := belowQ L6 Q6 M3 hwq' (by omega)
                    clear M3 V3 Q6 L6
                    by_cases hid0 : x.id = 1000
                    · rw [hid0]
                      go_wp2_with fail
                      go_ret
                      exact ⟨rfl, by rw [hm]; (repeat' (first | (with_reducible assumption) | (with_reducible exact Below.refl _ _) | (with_reducible refine below_drewN ?_ _) | (with_reducible refine Below.drew ?_) | ((with_reducible refine below_alloc' ?_ ?_ _); rotate_left; (first | exact Nat.le_refl _ | assumption | omega)) | ((with_reducible refine Below.alloc ?_ ?_ _); rotate_left; (first | omega | (simp <;> omega))) | ((with_reducible refine Below.setCell ?_ ?_ _); rotate_left; (first | omega | (simp <;> omega)))))⟩
                    · obtain ⟨p2, hF2, hM2⟩ := HF.out.step hch hxi hid0
                      have hil : i < (x0 :: r).length := (List.getElem?_eq_some_iff.1 hxi).1
                      have hln := left_len hil
                      have HF2 := hid hF2
                      have HM2 := hid hM2
                      have HLN := hid hln
                      generalize (bump i (x0 :: r)).eraseIdx i = l3 at *
                      clear hF2 hM2 hln hil hxi hch
                      have hb0 : (x.id == 1000) = false := by simp [hid0]
                      go_wp2_with fail
                      go_roundw
                      case rel =>
                        refine ⟨t + 1, sv3, l3, p2, by omega, by go_num, Q3.below (by (repeat' (first | (with_reducible assumption) | (with_reducible exact Below.refl _ _) | (with_reducible refine below_drewN ?_ _) | (with_reducible refine Below.drew ?_) | ((with_reducible refine below_alloc' ?_ ?_ _); rotate_left; (first | exact Nat.le_refl _ | assumption | omega)) | ((with_reducible refine Below.alloc ?_ ?_ _); rotate_left; (first | omega | (simp <;> omega))) | ((with_reducible refine Below.setCell ?_ ?_ _); rotate_left; (first | omega | (simp <;> omega)))))), HF2.out, ?_, ?_, by (repeat' (first | (with_reducible assumption) | (with_reducible exact Below.refl _ _) | (with_reducible refine below_drewN ?_ _) | (with_reducible refine Below.drew ?_) | ((with_reducible refine below_alloc' ?_ ?_ _); rotate_left; (first | exact Nat.le_refl _ | assumption | omega)) | ((with_reducible refine Below.alloc ?_ ?_ _); rotate_left; (first | omega | (simp <;> omega))) | ((with_reducible refine Below.setCell ?_ ?_ _); rotate_left; (first | omega | (simp <;> omega)))))⟩
                        · have := HM2.out; have := HM.out; omega
                        · have := HLN.out; have := HL.out; omega
                      case measure => (simp [intOf] <;> omega)
                · obtain rfl : al = 0 := by omega
                  obtain ⟨AA, hAA⟩ : ∃ AA : Int, AA = 0 := ⟨0, rfl⟩
                  go_wp2_with fail
                  refine calls_gen (fun w6 => IsQ w6 q sv l ∧ Below m w w6) ⟨Q5.below (by (repeat' (first | (with_reducible assumption) | (with_reducible exact Below.refl _ _) | (with_reducible refine below_drewN ?_ _) | (with_reducible refine Below.drew ?_) | ((with_reducible refine below_alloc' ?_ ?_ _); rotate_left; (first | exact Nat.le_refl _ | assumption | omega)) | ((with_reducible refine Below.alloc ?_ ?_ _); rotate_left; (first | omega | (simp <;> omega))) | ((with_reducible refine Below.setCell ?_ ?_ _); rotate_left; (first | omega | (simp <;> omega)))))), by (repeat' (first | (with_reducible assumption) | (with_reducible exact Below.refl _ _) | (with_reducible refine below_drewN ?_ _) | (with_reducible refine Below.drew ?_) | ((with_reducible refine below_alloc' ?_ ?_ _); rotate_left; (first | exact Nat.le_refl _ | assumption | omega)) | ((with_reducible refine Below.alloc ?_ ?_ _); rotate_left; (first | omega | (simp <;> omega))) | ((with_reducible refine Below.setCell ?_ ?_ _); rotate_left; (first | omega | (simp <;> omega)))))⟩ ?_
                  rintro w6 ⟨Q6, L6⟩
                  clear Q5 L5
                  try clear e0
                  match l, Q6, HF, HM, HL with
                  | [], _, HF, _, _ => exfalso; obtain ⟨m, hm, _⟩ := HF.out.mine; simp at hm
                  | x0 :: r, Q6, HF, HM, HL =>
                    obtain ⟨i, x, hch, hxi⟩ := choose_get x0 r VV AA
                    try rw [hVV] at hch
                    try rw [hAA] at hch
                    refine (next_some _ _ _ x0 r _ _ i x Q6 hch hxi (fun y hy => by have h1 := HF.out.lo y hy; have h2 := HF.out.hi y hy; omega)).mono ?_; rintro e w3 ⟨rfl, sv3, Q3, M3, V3⟩
                    have L3 := belowQ L6 Q6 M3 hwq' (by omega)
                    clear M3 V3 Q6 L6
                    by_cases hid0 : x.id = 1000
                    · rw [hid0]
                      go_wp2_with fail
                      go_ret
                      exact ⟨rfl, by rw [hm]; (repeat' (first | (with_reducible assumption) | (with_reducible exact Below.refl _ _) | (with_reducible refine below_drewN ?_ _) | (with_reducible refine Below.drew ?_) | ((with_reducible refine below_alloc' ?_ ?_ _); rotate_left; (first | exact Nat.le_refl _ | assumption | omega)) | ((with_reducible refine Below.alloc ?_ ?_ _); rotate_left; (first | omega | (simp <;> omega))) | ((with_reducible refine Below.setCell ?_ ?_ _); rotate_left; (first | omega | (simp <;> omega)))))⟩
                    · obtain ⟨p2, hF2, hM2⟩ := HF.out.step hch hxi hid0
                      have hil : i < (x0 :: r).length := (List.getElem?_eq_some_iff.1 hxi).1
                      have hln := left_len hil
                      have HF2 := hid hF2
                      have HM2 := hid hM2
                      have HLN := hid hln
                      generalize (bump i (x0 :: r)).eraseIdx i = l3 at *
                      clear hF2 hM2 hln hil hxi hch
                      have hb0 : (x.id == 1000) = false := by simp [hid0]
                      go_wp2_with fail
                      go_roundw
                      case rel =>
                        refine ⟨t + 1, sv3, l3, p2, by omega, by go_num, Q3.below (by (repeat' (first | (with_reducible assumption) | (with_reducible exact Below.refl _ _) | (with_reducible refine below_drewN ?_ _) | (with_reducible refine Below.drew ?_) | ((with_reducible refine below_alloc' ?_ ?_ _); rotate_left; (first | exact Nat.le_refl _ | assumption | omega)) | ((with_reducible refine Below.alloc ?_ ?_ _); rotate_left; (first | omega | (simp <;> omega))) | ((with_reducible refine Below.setCell ?_ ?_ _); rotate_left; (first | omega | (simp <;> omega)))))), HF2.out, ?_, ?_, by (repeat' (first | (with_reducible assumption) | (with_reducible exact Below.refl _ _) | (with_reducible refine below_drewN ?_ _) | (with_reducible refine Below.drew ?_) | ((with_reducible refine below_alloc' ?_ ?_ _); rotate_left; (first | exact Nat.le_refl _ | assumption | omega)) | ((with_reducible refine Below.alloc ?_ ?_ _); rotate_left; (first | omega | (simp <;> omega))) | ((with_reducible refine Below.setCell ?_ ?_ _); rotate_left; (first | omega | (simp <;> omega)))))⟩
                        · have := HM2.out; have := HM.out; omega
                        · have := HLN.out; have := HL.out; omega
                      case measure => (simp [intOf] <;> omega)
          · exfalso
            have h1 := HM.out
            have h2 := meas_nn HF.out
            omega
theorem queueFair_walk (ea : Option Addr) (el ec : Nat) (cs : Array Value) (ba : Option Addr) (bl bc : Nat) (va : Option Addr) (vl vc : Nat) (aa : Option Addr) (al ac : Nat) (w : World) (he : OkT Try.prog w 6 22 [.slice ea el ec])
    (hz : cs.size = Try.prog.cellsOf 25) (hm : OkT Try.prog w 6 25 cs.toList)
    (hb : OkT Try.prog w 6 22 [.slice ba bl bc]) (hv : OkT Try.prog w 6 26 [.slice va vl vc]) (ha : OkT Try.prog w 6 26 [.slice aa al ac]) :
    Calls Try.prog 3 #[.slice ea el ec, .agg cs, .slice ba bl bc, .slice va vl vc, .slice aa al ac] w (RetB (.bool true) w.heap.size w) := by
  have h4 : Try.prog.cellsOf 25 = 4 := by kernel_rfl
  obtain ⟨id, blob, vol, at_, h⟩ := okT_req (w := w) (d := 4) (cs := cs.toList) (by rw [Array.length_toList, hz, h4]) hm
  obtain rfl : cs = #[.int .i64 id, .int .u64 blob, .int .i64 vol, .int .i64 at_] := by rw [← Array.toList_inj, h]
  exact queueFair_walk0 ea el ec id blob vol at_ ba bl bc va vl vc aa al ac w he hb hv ha
end Go.Proofs.Ytecdcainkemicaa
