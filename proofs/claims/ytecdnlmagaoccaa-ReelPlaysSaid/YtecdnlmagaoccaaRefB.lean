/- Layer 5's document: torn, Used, Read, Skip, Trim, New. -/
import Derived.Test.YtecdnlmagaoccaaRefA
import Derived.Deep.RegionHeld3
namespace Go.Proofs.Ytecdnlmagaoccaa
open Go.RowKit
set_option linter.unusedVariables false
set_option maxHeartbeats 2000000
theorem tornL_last (l : List Bk) (h : 0 < l.length) : tornL l = l[l.length - 1].torn := by
  unfold tornL
  rw [List.getLast?_eq_getElem?, List.getElem?_eq_getElem (by omega)]
section
variable {w0 w : World} {I : Part} {L : List HP} {v : Vst} {a : Option Addr} {n c : Nat}
/-- the cells of a block of a list that stays. -/
theorem rd3 {la : Option Addr} {l : List Bk} (h : Rd I la (l.flatMap bc)) (H : Sat w0 I L w) (i : Nat) (hi : i < l.length) : ∃ b off, la = some ⟨b, off, none⟩ ∧
    w.cell? ⟨b, off + i * 3, none⟩ = some (.string l[i].s) ∧ w.cell? ⟨b, off + i * 3 + 1, none⟩ = some (.bool l[i].mark) ∧ w.cell? ⟨b, off + i * 3 + 2, none⟩ = some (.bool l[i].torn) := by
  have g : ∀ j v, j < 3 → (bc l[i])[j]? = some v → ∃ b off, la = some ⟨b, off, none⟩ ∧ w.cell? ⟨b, off + (i * 3 + j), none⟩ = some v := fun j v hj hv =>
    h.get H (i * 3 + j) (by rw [flat_get bc bc_len l i j hi hj]; exact hv)
  obtain ⟨b, off, e0, c0⟩ := g 0 _ (by omega) rfl
  obtain ⟨b1, off1, e1, c1⟩ := g 1 _ (by omega) rfl
  obtain ⟨b2, off2, e2, c2⟩ := g 2 _ (by omega) rfl
  rw [e0] at e1 e2
  cases e1; cases e2
  exact ⟨b, off, e0, c0, by rw [Nat.add_assoc]; exact c1, by rw [Nat.add_assoc]; exact c2⟩
theorem rtorn_sat (hl : v.bl.length ≤ 1048576) (hr : Rd I a (v.bl.flatMap bc)) {B : Bool} (hB : tornL v.bl = B) (H : Sat w0 I L w) :
    Calls Try.prog 55 #[.agg (rvl v (.slice a v.bl.length c)).toArray] w fun e w' => e = .returned (.bool B) ∧ Sat w0 I L w' := by
  obtain ⟨g, hg⟩ := H.sizeQ
  have S1 := H.alloc (b := g) (T := 56) (cs := rvl v (.slice a v.bl.length c)) rfl hg.symm
  have H2 := hid S1
  have HR := hid hr
  have HB := hid hB
  clear S1 H hr hB
  go_enter Try.func55, Try.ntmps55
  go_upto_region 1 with fail
  try rw [hg]
  refine wp_gen (fun w1 => Sat w0 I (blk g 56 (rvl v (.slice a v.bl.length c)) :: L) w1) H2.out ?_
  clear H2 hg
  intro w1 S1
  have c0 := S1.isBlk.cell 0 (v := .slice a v.bl.length c) rfl
  have H1 := hid S1
  clear S1
  by_cases h0 : v.bl.length = 0
  · have hd : decide (0 < v.bl.length) = false := by simp [h0]
    have hBB : B = false := by
      rw [← HB.out]
      have : v.bl = [] := List.eq_nil_of_length_eq_zero h0
      rw [this]; rfl
    subst hBB
    go_wp2_with fail
    go_ret
    exact ⟨rfl, H1.out.drop⟩
  · have h1 : 0 < v.bl.length := by omega
    have hd : decide (0 < v.bl.length) = true := by simpa using h1
    have hi : (0 : Int) < (v.bl.length : Int) := by omega
    obtain ⟨k, hk⟩ : ∃ k, v.bl.length = k + 1 := ⟨v.bl.length - 1, by omega⟩
    have hT := tornL_last v.bl h1
    obtain ⟨b, off, hb, d0, d1, d2⟩ := rd3 HR.out H1.out k (by omega)
    have hlast : v.bl[v.bl.length - 1].torn = v.bl[k].torn := by congr 2; omega
    rw [hlast] at hT
    rw [HB.out] at hT
    rw [← hT] at d2
    clear hT hlast d0 d1
    subst hb
    have hw : IntKind.i64.wrap ((v.bl.length : Int) - 1) = (k : Int) := by rw [IntWalk.i64_in _ (by omega)]; omega
    have hk0 : (0 : Int) ≤ (k : Int) := by omega
    have hk1 : (k : Int) < (v.bl.length : Int) := by omega
    go_wp2_with fail
    go_ret
    exact ⟨rfl, H1.out.drop⟩
theorem rnew_sat (r : Int) {R : Int} (hR : max r 0 = R) (H : Sat w0 I L w) :
    Calls Try.prog 25 #[.int .i64 r] w fun e w' => e = .returned (.agg (rvl ⟨R, false, 0, ⟨#[]⟩, [], 0, 0, 0, false⟩ (.slice none 0 0)).toArray) ∧ Sat w0 I L w' := by
  obtain ⟨g, hg⟩ := H.sizeQ
  have S1 := H.alloc (b := g) (T := 56) (cs := rv0) rfl hg.symm
  have H2 := hid S1
  have HR := hid hR
  clear S1 H hR
  go_enter Try.func25, Try.ntmps25
  go_upto_region 1 with fail
  try rw [hg]
  refine wp_gen (fun w1 => Sat w0 I (blk g 56 rv0 :: L) w1) H2.out ?_
  clear H2 hg
  intro w1 S1
  have H1 := hid S1
  clear S1
  go_wp2_with (first
    | (refine wpList_max (o := ⟨some 4, _, _, _, _, _⟩) rfl rfl rfl rfl HR.out ?_)
    | (refine wpList_storeS (cs' := rvl ⟨R, false, 0, ⟨#[]⟩, [], 0, 0, 0, false⟩ (.slice none 0 0)) whV rfl _ _ rfl rfl rfl rfl rfl (rvl_one ⟨R, false, 0, ⟨#[]⟩, [], 0, 0, 0, false⟩ none 0 0) H1.out ?_; intro w2 S2))
  exact bodyPost_ret (ret_cell1S Try.results25 whV _ rfl rfl S2) rfl ⟨rfl, S2.drop⟩
theorem rused_sat (hl : v.bl.length ≤ 1048576) (hr : Rd I a (v.bl.flatMap bc)) (hs : (wsum v.bl : Int) ≤ 9223372036854775807) {U : Int} (hU : (wsum v.bl : Int) = U) (H : Sat w0 I L w) :
    Calls Try.prog 50 #[.agg (rvl v (.slice a v.bl.length c)).toArray] w fun e w' => e = .returned (.int .i64 U) ∧ Sat w0 I L w' := by
  obtain ⟨g, hg⟩ := H.sizeQ
  have S1 := H.alloc (b := g) (T := 56) (cs := rvl v (.slice a v.bl.length c)) rfl hg.symm
  have H2 := hid S1
  have HR := hid hr
  have HU := hid hU
  clear S1 H hr hU
  go_enter Try.func50, Try.ntmps50
  go_upto_region 1 with fail
  try rw [hg]
  refine wp_gen (fun w1 => Sat w0 I (blk g 56 (rvl v (.slice a v.bl.length c)) :: L) w1) H2.out ?_
  clear H2 hg
  intro w1 S1
  have c0 := S1.isBlk.cell 0 (v := .slice a v.bl.length c) rfl
  have H1 := hid S1.drop
  clear S1
  go_wp2_with fail
  go_loopw [3, 5, 9] (fun s _ i wr => ∃ k : Nat, k ≤ v.bl.length ∧ i = .int .i64 (k : Int) ∧ s = .int .i64 (wsum (v.bl.take k) : Int) ∧ Sat w0 I L wr) (fun _ _ i _ => v.bl.length - (intOf i).toNat)
  case atStart => exact ⟨0, Nat.zero_le _, rfl, rfl, H1.out⟩
  case round =>
    clear H1 c0
    obtain ⟨k, hk, rfl, rfl, Sr⟩ := hrel
    have HS := hid Sr
    clear Sr
    by_cases hlt : k < v.bl.length
    · obtain ⟨b, off, hb, d0, d1, d2⟩ := rd3 HR.out HS.out k hlt
      have htk : v.bl.take (k + 1) = v.bl.take k ++ [v.bl[k]] := List.take_succ_eq_append_getElem hlt
      have hsum : wsum (v.bl.take (k + 1)) = wsum (v.bl.take k) + (v.bl[k].s.size + 4) := by rw [htk, wsum_app]; simp only [wsum, bwt]; try omega
      have hsp := wsum_split v.bl (k + 1)
      obtain ⟨x, hx⟩ : ∃ x, v.bl[k] = x := ⟨_, rfl⟩
      rw [hx] at d0 d1 d2 hsum
      obtain ⟨A, hA⟩ : ∃ A, wsum (v.bl.take k) = A := ⟨_, rfl⟩
      obtain ⟨B, hB⟩ : ∃ B, wsum (v.bl.take (k + 1)) = B := ⟨_, rfl⟩
      rw [hA, hB] at hsum
      rw [hB] at hsp
      have HBB := hid hB
      rw [hA]
      have hk1 : (k : Int) < (v.bl.length : Int) := by omega
      have hk0 : (0 : Int) ≤ (k : Int) := by omega
      have hw1 : IntKind.i64.wrap ((x.s.size : Int) + 4) = (x.s.size : Int) + 4 := IntWalk.i64_in _ (by omega)
      have hw2 : IntKind.i64.wrap ((A : Int) + ((x.s.size : Int) + 4)) = (B : Int) := by rw [IntWalk.i64_in _ (by omega)]; omega
      subst hb
      clear htk hB hA hx
      go_wp2_with fail
      go_roundw
      case rel => exact ⟨k + 1, by omega, by go_num, by rw [HBB.out]; (first | rfl | go_num), HS.out.alloc_ _⟩
      case measure => (simp [intOf] <;> omega)
    · obtain rfl : k = v.bl.length := by omega
      have hU2 : (wsum (v.bl.take v.bl.length) : Int) = U := by rw [List.take_length]; exact HU.out
      go_wp2_with fail
      go_ret
      exact ⟨ret_int hU2, HS.out⟩
/-! ### Read -/
theorem rread_sat (hv : v.ok) (hr : Rd I a (v.bl.flatMap bc)) {s : ByteArray} {m : Bool} {E : Int} {V : Vst} (hA : readS v = ((s, m, E), V)) (H : Sat w0 I L w) :
    Calls Try.prog 30 #[.agg (rvl v (.slice a v.bl.length c)).toArray] w fun e w' => e = .returned (.tuple #[.agg (rvl V (.slice a v.bl.length c)).toArray, .agg (bc ⟨s, m, false⟩).toArray, .int .i64 E]) ∧ Sat w0 I L w' := by
  unfold readS at hA
  have hat := hv.at_
  have hlen := hv.len
  have HR := hid hr
  clear hr
  obtain ⟨g, hg⟩ := H.sizeQ
  have S1 := H.alloc (b := g) (T := 56) (cs := rvl v (.slice a v.bl.length c)) rfl hg.symm
  have S2 := S1.alloc (b := g + 1) (T := 56) (cs := rv0) rfl (by simp [hg])
  have S3 := S2.alloc (b := g + 1 + 1) (T := 65) (cs := bc ⟨⟨#[]⟩, false, false⟩) rfl (by simp [hg])
  have H2 := hid S3
  clear S1 S2 S3 H
  have HV := hid hv
  generalize hE : tryE v.lost v.armed = E0 at *
  have HE := hid hE
  clear hE hv
  by_cases h0 : E0 = 0
  · subst h0
    rw [if_pos rfl] at hA
    by_cases h1 : v.at_ < v.bl.length
    · rw [dif_pos h1] at hA
      by_cases h2 : v.bl[v.at_].torn = true
      · rw [if_pos h2] at hA
        cases hA
        have HT := hid h2
        clear h2
        go_enter Try.func30, Try.ntmps30
        go_upto_region 1 with fail
        try rw [hg]
        refine wp_gen (fun w1 => Sat w0 I (blk (g + 1 + 1) 65 (bc ⟨⟨#[]⟩, false, false⟩) :: blk (g + 1) 56 rv0 :: blk g 56 (rvl v (.slice a v.bl.length c)) :: L) w1) H2.out ?_
        clear H2 hg
        intro w1 S1
        have H1 := hid (S1.pick 2)
        clear S1
        go_wp2_with (refine wpList_loadS whV rfl _ rfl rfl rfl H1.out ?_)
        refine (rtry_sat HV.out H1.out).mono ?_; rintro e w2 ⟨rfl, S2⟩
        rw [HE.out]
        have H2 := hid S2
        clear S2 H1
        go_upto_region 2 with (refine wpList_storeS whV rfl _ _ rfl rfl rfl rfl rfl (rvl_one (tryV v) a v.bl.length c) H2.out ?_; intro w3 S3)
        have H3 := hid S3
        clear S3 H2
        have c0 := H3.out.isBlk.cell 0 (v := .slice a v.bl.length c) rfl
        have c1 := H3.out.isBlk.cell 1 (v := .int .i64 v.sure) rfl
        have c2 := H3.out.isBlk.cell 2 (v := .int .i64 v.at_) rfl
        have c3 := H3.out.isBlk.cell 3 (v := .int .i64 v.room) rfl
        have c4 := H3.out.isBlk.cell 4 (v := .int .i64 v.erased) rfl
        have c5 := H3.out.isBlk.cell 5 (v := .string v.label) rfl
        have c6 := H3.out.isBlk.cell 6 (v := .bool v.prot) rfl
        have f0 := H3.out.isBlk.frozen 0
        have f1 := H3.out.isBlk.frozen 1
        have f2 := H3.out.isBlk.frozen 2
        have f4 := H3.out.isBlk.frozen 4
        have f5 := H3.out.isBlk.frozen 5
        obtain ⟨b, off, hb, d0, d1, d2⟩ := rd3 HR.out H3.out v.at_ h1
        rw [HT.out] at d2
        rw [hb] at c0
        clear hb
        have k1 : (v.at_ : Int) < (v.bl.length : Int) := by omega
        have k0 : (0 : Int) ≤ (v.at_ : Int) := by omega
        have kd : decide (v.bl.length ≤ v.at_) = false := by simp; omega
        obtain ⟨x, hx⟩ : ∃ x, v.bl[v.at_] = x := ⟨_, rfl⟩
        rw [hx] at d0 d1
        obtain ⟨q, hq⟩ := H3.out.sizeQ
        have S6 := H3.out.alloc (b := q) (T := 65) (cs := [.string x.s, .bool x.mark, .bool true]) rfl hq.symm
        go_upto_region 7 with fail
        try rw [hq]
        refine wp_gen (fun w6 => Sat w0 I (blk q 65 [.string x.s, .bool x.mark, .bool true] :: blk g 56 (rvl (tryV v) (.slice a v.bl.length c)) :: blk (g + 1 + 1) 65 (bc ⟨⟨#[]⟩, false, false⟩) :: blk (g + 1) 56 rv0 :: L) w6) S6 ?_
        clear S6 H3 hq c0 c1 c2 c3 c4 c5 c6 f0 f1 f2 f4 f5 d0 d1 d2
        intro w6 S6
        have q2 := S6.isBlk.cell 2 (v := .bool true) rfl
        have H3 := hid S6.swap
        clear S6
        go_wp2_with (first
          | (refine wpList_loadS whV rfl _ rfl rfl rfl H3.out ?_)
          | (refine wpList_storeS whV rfl _ _ rfl rfl rfl rfl rfl (rvl_one (tryV v) a v.bl.length c) (H3.out.pick 3) ?_; intro w4 S4)
          | (refine wpList_storeS (cs' := bc ⟨⟨#[]⟩, false, false⟩) whB rfl _ _ rfl rfl rfl rfl rfl (bc_one1 _) (S4.pick 3) ?_; intro w5 S5))
        exact bodyPost_ret (ret_cell2S Try.results30 whV whB _ rfl rfl rfl rfl rfl S5.swap) rfl ⟨rfl, S5.drop.drop.drop.drop⟩
      · rw [if_neg h2] at hA
        have HT := hid (show v.bl[v.at_].torn = false by simpa using h2)
        obtain ⟨x, hx⟩ : ∃ x, v.bl[v.at_] = x := ⟨_, rfl⟩
        rw [hx] at hA HT
        cases hA
        clear h2
        go_enter Try.func30, Try.ntmps30
        go_upto_region 1 with fail
        try rw [hg]
        refine wp_gen (fun w1 => Sat w0 I (blk (g + 1 + 1) 65 (bc ⟨⟨#[]⟩, false, false⟩) :: blk (g + 1) 56 rv0 :: blk g 56 (rvl v (.slice a v.bl.length c)) :: L) w1) H2.out ?_
        clear H2 hg
        intro w1 S1
        have H1 := hid (S1.pick 2)
        clear S1
        go_wp2_with (refine wpList_loadS whV rfl _ rfl rfl rfl H1.out ?_)
        refine (rtry_sat HV.out H1.out).mono ?_; rintro e w2 ⟨rfl, S2⟩
        rw [HE.out]
        have H2 := hid S2
        clear S2 H1
        go_upto_region 2 with (refine wpList_storeS whV rfl _ _ rfl rfl rfl rfl rfl (rvl_one (tryV v) a v.bl.length c) H2.out ?_; intro w3 S3)
        have H3 := hid S3
        clear S3 H2
        have c0 := H3.out.isBlk.cell 0 (v := .slice a v.bl.length c) rfl
        have c1 := H3.out.isBlk.cell 1 (v := .int .i64 v.sure) rfl
        have c2 := H3.out.isBlk.cell 2 (v := .int .i64 v.at_) rfl
        have c3 := H3.out.isBlk.cell 3 (v := .int .i64 v.room) rfl
        have c4 := H3.out.isBlk.cell 4 (v := .int .i64 v.erased) rfl
        have c5 := H3.out.isBlk.cell 5 (v := .string v.label) rfl
        have c6 := H3.out.isBlk.cell 6 (v := .bool v.prot) rfl
        have f0 := H3.out.isBlk.frozen 0
        have f1 := H3.out.isBlk.frozen 1
        have f2 := H3.out.isBlk.frozen 2
        have f4 := H3.out.isBlk.frozen 4
        have f5 := H3.out.isBlk.frozen 5
        obtain ⟨b, off, hb, d0, d1, d2⟩ := rd3 HR.out H3.out v.at_ h1
        rw [hx] at d0 d1 d2
        rw [HT.out] at d2
        rw [hb] at c0
        clear hb hx
        have k1 : (v.at_ : Int) < (v.bl.length : Int) := by omega
        have k0 : (0 : Int) ≤ (v.at_ : Int) := by omega
        have kd : decide (v.bl.length ≤ v.at_) = false := by simp; omega
        obtain ⟨q, hq⟩ := H3.out.sizeQ
        have S6 := H3.out.alloc (b := q) (T := 65) (cs := bc ⟨x.s, x.mark, false⟩) (vs := #[.string x.s, .bool x.mark, .bool false]) rfl hq.symm
        go_upto_region 7 with fail
        try rw [hq]
        refine wp_gen (fun w6 => Sat w0 I (blk q 65 (bc ⟨x.s, x.mark, false⟩) :: blk g 56 (rvl (tryV v) (.slice a v.bl.length c)) :: blk (g + 1 + 1) 65 (bc ⟨⟨#[]⟩, false, false⟩) :: blk (g + 1) 56 rv0 :: L) w6) S6 ?_
        clear S6 H3 hq c0 c1 c2 c3 c4 c5 c6 f0 f1 f2 f4 f5 d0 d1 d2
        intro w6 S6
        have q2 := S6.isBlk.cell 2 (v := .bool false) rfl
        have c2 := S6.swap.isBlk.cell 2 (v := .int .i64 v.at_) rfl
        have f2 := S6.swap.isBlk.frozen 2
        have H6 := hid (S6.swap.set 2 (.int .i64 ((v.at_ : Int) + 1)) (cs' := rvl {tryV v with at_ := v.at_ + 1} (.slice a v.bl.length c)) rfl)
        clear S6
        go_upto_region 10 with fail
        refine wp_gen (fun w7 => Sat w0 I (blk g 56 (rvl {tryV v with at_ := v.at_ + 1} (.slice a v.bl.length c)) :: blk q 65 (bc ⟨x.s, x.mark, false⟩) :: blk (g + 1 + 1) 65 (bc ⟨⟨#[]⟩, false, false⟩) :: blk (g + 1) 56 rv0 :: L) w7) H6.out ?_
        clear H6 q2 c2 f2
        intro w7 S7
        have z0 := S7.isBlk.cell 0 (v := .slice a v.bl.length c) rfl
        have z1 := S7.isBlk.cell 1 (v := .int .i64 v.sure) rfl
        have z2 := S7.isBlk.cell 2 (v := .int .i64 ((v.at_ : Int) + 1)) rfl
        have z3 := S7.isBlk.cell 3 (v := .int .i64 v.room) rfl
        have z4 := S7.isBlk.cell 4 (v := .int .i64 v.erased) rfl
        have z5 := S7.isBlk.cell 5 (v := .string v.label) rfl
        have z6 := S7.isBlk.cell 6 (v := .bool v.prot) rfl
        have z7 := S7.isBlk.cell 7 (v := .bool v.lost) rfl
        have z8 := S7.isBlk.cell 8 (v := .int .i64 ((tryV v).armed - 1)) rfl
        have y0 := S7.swap.isBlk.cell 0 (v := .string x.s) rfl
        have y1 := S7.swap.isBlk.cell 1 (v := .bool x.mark) rfl
        have y2 := S7.swap.isBlk.cell 2 (v := .bool false) rfl
        have u0 := (S7.pick 2).isBlk.cell 0 (v := .string ⟨#[]⟩) rfl
        have fu0 := (S7.pick 2).isBlk.frozen 0
        have u1 := (S7.pick 2).isBlk.cell 1 (v := .bool false) rfl
        have fu1 := (S7.pick 2).isBlk.frozen 1
        have u2 := (S7.pick 2).isBlk.cell 2 (v := .bool false) rfl
        have fu2 := (S7.pick 2).isBlk.frozen 2
        have t0 := (S7.pick 3).isBlk.cell 0 (v := .slice none 0 0) rfl
        have ft0 := (S7.pick 3).isBlk.frozen 0
        have t1 := (S7.pick 3).isBlk.cell 1 (v := .int .i64 0) rfl
        have ft1 := (S7.pick 3).isBlk.frozen 1
        have t2 := (S7.pick 3).isBlk.cell 2 (v := .int .i64 0) rfl
        have ft2 := (S7.pick 3).isBlk.frozen 2
        have t3 := (S7.pick 3).isBlk.cell 3 (v := .int .i64 0) rfl
        have ft3 := (S7.pick 3).isBlk.frozen 3
        have t4 := (S7.pick 3).isBlk.cell 4 (v := .int .i64 0) rfl
        have ft4 := (S7.pick 3).isBlk.frozen 4
        have t5 := (S7.pick 3).isBlk.cell 5 (v := .string ⟨#[]⟩) rfl
        have ft5 := (S7.pick 3).isBlk.frozen 5
        have t6 := (S7.pick 3).isBlk.cell 6 (v := .bool false) rfl
        have ft6 := (S7.pick 3).isBlk.frozen 6
        have t7 := (S7.pick 3).isBlk.cell 7 (v := .bool false) rfl
        have ft7 := (S7.pick 3).isBlk.frozen 7
        have t8 := (S7.pick 3).isBlk.cell 8 (v := .int .i64 0) rfl
        have ft8 := (S7.pick 3).isBlk.frozen 8
        have n1 := S7.drop.ne
        have n2 := (S7.drop.pick 2).ne
        have n3 : g + 1 + 1 ≠ q := fun e => n1 e.symm
        have n4 : q ≠ g + 1 := fun e => n2 e.symm
        have n5 := (S7.pick 2).ne
        have n6 := (S7.pick 3).ne
        have HA := hid (show Sat w0 I (blk (g + 1) 56 (rvl {tryV v with at_ := v.at_ + 1} (.slice a v.bl.length c)) :: blk (g + 1 + 1) 65 (bc ⟨x.s, x.mark, false⟩) :: blk g 56 (rvl {tryV v with at_ := v.at_ + 1} (.slice a v.bl.length c)) :: blk q 65 (bc ⟨x.s, x.mark, false⟩) :: L) _ from (((((((((((((((S7.pick 3).set 0 (.slice a v.bl.length c) rfl).set 1 (.int .i64 v.sure) rfl).set 2 (.int .i64 ((v.at_ : Int) + 1)) rfl).set 3 (.int .i64 v.room) rfl).set 4 (.int .i64 v.erased) rfl).set 5 (.string v.label) rfl).set 6 (.bool v.prot) rfl).set 7 (.bool v.lost) rfl).set 8 (.int .i64 ((tryV v).armed - 1)) rfl).pick 3).set 0 (.string x.s) rfl).set 1 (.bool x.mark) rfl).set 2 (.bool false) rfl).swap).drew)
        have HB := hid (show Sat w0 I (blk (g + 1) 56 (rvl {tryV v with at_ := v.at_ + 1} (.slice a v.bl.length c)) :: blk (g + 1 + 1) 65 (bc ⟨x.s, x.mark, false⟩) :: blk g 56 (rvl {tryV v with at_ := v.at_ + 1} (.slice a v.bl.length c)) :: blk q 65 (bc ⟨x.s, x.mark, false⟩) :: L) _ from ((((((((((((((S7.pick 2).set 0 (.string x.s) rfl).set 1 (.bool x.mark) rfl).set 2 (.bool false) rfl).pick 3).set 0 (.slice a v.bl.length c) rfl).set 1 (.int .i64 v.sure) rfl).set 2 (.int .i64 ((v.at_ : Int) + 1)) rfl).set 3 (.int .i64 v.room) rfl).set 4 (.int .i64 v.erased) rfl).set 5 (.string v.label) rfl).set 6 (.bool v.prot) rfl).set 7 (.bool v.lost) rfl).set 8 (.int .i64 ((tryV v).armed - 1)) rfl).drew)
        clear S7
        go_region
        all_goals
          go_wp2_with fail
          first
            | with_reducible refine body_gen (fun w => Sat w0 I (blk (g + 1) 56 (rvl {tryV v with at_ := v.at_ + 1} (.slice a v.bl.length c)) :: blk (g + 1 + 1) 65 (bc ⟨x.s, x.mark, false⟩) :: blk g 56 (rvl {tryV v with at_ := v.at_ + 1} (.slice a v.bl.length c)) :: blk q 65 (bc ⟨x.s, x.mark, false⟩) :: L) w) HA.out ?_
            | with_reducible refine body_gen (fun w => Sat w0 I (blk (g + 1) 56 (rvl {tryV v with at_ := v.at_ + 1} (.slice a v.bl.length c)) :: blk (g + 1 + 1) 65 (bc ⟨x.s, x.mark, false⟩) :: blk g 56 (rvl {tryV v with at_ := v.at_ + 1} (.slice a v.bl.length c)) :: blk q 65 (bc ⟨x.s, x.mark, false⟩) :: L) w) HB.out ?_
          intro w8 S8
          exact bodyPost_ret (ret_cell2S Try.results30 whV whB _ rfl rfl rfl rfl rfl S8) rfl ⟨rfl, S8.drop.drop.drop.drop⟩
    · rw [dif_neg h1] at hA
      cases hA
      have h1e : v.at_ = v.bl.length := by omega
      go_enter Try.func30, Try.ntmps30
      go_upto_region 1 with fail
      try rw [hg]
      refine wp_gen (fun w1 => Sat w0 I (blk (g + 1 + 1) 65 (bc ⟨⟨#[]⟩, false, false⟩) :: blk (g + 1) 56 rv0 :: blk g 56 (rvl v (.slice a v.bl.length c)) :: L) w1) H2.out ?_
      clear H2 hg
      intro w1 S1
      have H1 := hid (S1.pick 2)
      clear S1
      go_wp2_with (refine wpList_loadS whV rfl _ rfl rfl rfl H1.out ?_)
      refine (rtry_sat HV.out H1.out).mono ?_; rintro e w2 ⟨rfl, S2⟩
      rw [HE.out]
      have H2 := hid S2
      clear S2 H1
      go_upto_region 2 with (refine wpList_storeS whV rfl _ _ rfl rfl rfl rfl rfl (rvl_one (tryV v) a v.bl.length c) H2.out ?_; intro w3 S3)
      have H3 := hid S3
      clear S3 H2
      have c0 := H3.out.isBlk.cell 0 (v := .slice a v.bl.length c) rfl
      have c1 := H3.out.isBlk.cell 1 (v := .int .i64 v.sure) rfl
      have c2 := H3.out.isBlk.cell 2 (v := .int .i64 v.at_) rfl
      have c3 := H3.out.isBlk.cell 3 (v := .int .i64 v.room) rfl
      have c4 := H3.out.isBlk.cell 4 (v := .int .i64 v.erased) rfl
      have c5 := H3.out.isBlk.cell 5 (v := .string v.label) rfl
      have c6 := H3.out.isBlk.cell 6 (v := .bool v.prot) rfl
      have f0 := H3.out.isBlk.frozen 0
      have f1 := H3.out.isBlk.frozen 1
      have f2 := H3.out.isBlk.frozen 2
      have f4 := H3.out.isBlk.frozen 4
      have f5 := H3.out.isBlk.frozen 5
      have kd : decide (v.bl.length ≤ v.at_) = true := by simp; omega
      have k1 : ¬ (v.at_ : Int) < (v.bl.length : Int) := by omega
      have k2 : (v.bl.length : Int) ≤ (v.at_ : Int) := by omega
      go_wp2_with (first
        | (refine wpList_loadS whV rfl _ rfl rfl rfl H3.out ?_)
        | (refine wpList_storeS whV rfl _ _ rfl rfl rfl rfl rfl (rvl_one (tryV v) a v.bl.length c) (H3.out.pick 2) ?_; intro w4 S4)
        | (refine wpList_storeS (cs' := bc ⟨⟨#[]⟩, false, false⟩) whB rfl _ _ rfl rfl rfl rfl rfl (bc_one1 _) (S4.pick 2) ?_; intro w5 S5))
      exact bodyPost_ret (ret_cell2S Try.results30 whV whB _ rfl rfl rfl rfl rfl S5.swap) rfl ⟨rfl, S5.drop.drop.drop⟩
  · rw [if_neg h0] at hA
    cases hA
    go_enter Try.func30, Try.ntmps30
    go_upto_region 1 with fail
    try rw [hg]
    refine wp_gen (fun w1 => Sat w0 I (blk (g + 1 + 1) 65 (bc ⟨⟨#[]⟩, false, false⟩) :: blk (g + 1) 56 rv0 :: blk g 56 (rvl v (.slice a v.bl.length c)) :: L) w1) H2.out ?_
    clear H2 hg
    intro w1 S1
    have H1 := hid (S1.pick 2)
    clear S1
    go_wp2_with (refine wpList_loadS whV rfl _ rfl rfl rfl H1.out ?_)
    refine (rtry_sat HV.out H1.out).mono ?_; rintro e w2 ⟨rfl, S2⟩
    rw [HE.out]
    have H2 := hid S2
    clear S2 H1
    go_upto_region 2 with (refine wpList_storeS whV rfl _ _ rfl rfl rfl rfl rfl (rvl_one (tryV v) a v.bl.length c) H2.out ?_; intro w3 S3)
    have H3 := hid S3
    clear S3 H2
    go_wp2_with (first
      | (refine wpList_loadS whV rfl _ rfl rfl rfl H3.out ?_)
      | (refine wpList_storeS whV rfl _ _ rfl rfl rfl rfl rfl (rvl_one (tryV v) a v.bl.length c) (H3.out.pick 2) ?_; intro w4 S4)
      | (refine wpList_storeS (cs' := bc ⟨⟨#[]⟩, false, false⟩) whB rfl _ _ rfl rfl rfl rfl rfl (bc_one1 _) (S4.pick 2) ?_; intro w5 S5))
    exact bodyPost_ret (ret_cell2S Try.results30 whV whB _ rfl rfl rfl rfl rfl S5.swap) rfl ⟨rfl, S5.drop.drop.drop⟩
end
end Go.Proofs.Ytecdnlmagaoccaa
