/- Layer 5's document: Spoil. -/
import Derived.Test.YtecdnlmagaoccaaRefF
import Derived.Test.YtecdnlmagaoccaaSpoil
import Derived.BigRegion
namespace Go.Proofs.Ytecdnlmagaoccaa
open Go.RowKit
set_option linter.unusedVariables false
set_option maxHeartbeats 4000000
section
variable {w0 w : World} {I : Part} {L : List HP} {v : Vst} {a : Option Addr} {n c : Nat}
theorem row_elemR {b : Bk} {ad : Option Addr} {cap i : Nat} {l : List Bk} (H : Sat w0 I (row 65 3 (.slice ad l.length cap) l.length (l.flatMap bc) :: L) w) (hi : i < l.length) : ∃ g, ad = some ⟨g, 0, none⟩ ∧ w.cell? ⟨g, i * 3, none⟩ = some (.string l[i].s) ∧ w.cell? ⟨g, i * 3 + 1, none⟩ = some (.bool l[i].mark) ∧ w.cell? ⟨g, i * 3 + 2, none⟩ = some (.bool l[i].torn) := by
  obtain ⟨hl, h | ⟨g, c, cur, hv, _, hh, h1, h2, h3, h4⟩⟩ := H.isRow
  · omega
  · simp only [Value.slice.injEq, true_and] at hv
    obtain ⟨rfl, rfl⟩ := hv
    have key : ∀ j, j < 3 → w.cell? ⟨g, i * 3 + j, none⟩ = (bc l[i])[j]? := fun j hj => by
      unfold World.cell?
      rw [show (⟨g, i * 3 + j, none⟩ : Addr).block = g from rfl, hh]
      have := flat_get bc bc_len l i j hi hj
      rw [← this, ← h4, List.getElem?_take_of_lt (by omega)]
      simp
    exact ⟨g, rfl, key 0 (by omega), key 1 (by omega), key 2 (by omega)⟩
theorem spoil_cat (s : ByteArray) (i : Nat) (hi : i < s.size) (y : UInt8) {b : Bk} (hb : b.s = s) :
    s.extract 0 i ++ ⟨#[s[i] ^^^ y]⟩ ++ s.extract (i + 1) s.size = (spoilB b i y).s := by
  subst hb
  unfold spoilB
  apply ByteArray.ext
  apply Array.toList_inj.1
  have hg : b.s.data.toList.getD i 0 = b.s[i] := by
    rw [List.getD_eq_getElem?_getD, List.getElem?_eq_getElem (by simpa using hi)]; rfl
  rw [hg]
  have hl : i < b.s.data.toList.length := by simpa using hi
  rw [List.set_eq_take_append_cons_drop, if_pos hl]
  simp
  exact List.take_of_length_le (by simp)
theorem byte1Str (W : World) (z : UInt8) (q : Nat) (hc : W.cell? ⟨q, 0, none⟩ = some (.int .u8 (z.toNat : Int))) : (convert 87 9 (.slice (some ⟨q, 0, none⟩) 1 1)).run Try.prog W = .ok (.string ⟨#[z]⟩) W := by
  refine run_convert_bytes_back _ _ _ 5 _ 1 [z] Try.underlying87 Try.underlying5 Try.underlying9 fun j hj => ?_
  obtain rfl : j = 0 := by simp at hj; omega
  exact hc
theorem rspoil_no (n at_ y : Int) (hno : n < 0 ∨ (0 ≤ n ∧ (v.bl.length : Int) ≤ n) ∨ (0 ≤ n ∧ n < v.bl.length ∧ at_ < 0) ∨ (∃ k : Nat, ∃ hk : k < v.bl.length, n = (k : Int) ∧ 0 ≤ at_ ∧ (v.bl[k].s.size : Int) ≤ at_)) (hr : Rd I a (v.bl.flatMap bc)) (H : Sat w0 I L w) :
    Calls Try.prog 48 #[.agg (rvl v (.slice a v.bl.length c)).toArray, .int .i64 n, .int .i64 at_, .int .u8 y] w fun e w' => e = .returned (.tuple #[.agg (rvl v (.slice a v.bl.length c)).toArray, .bool false]) ∧ Sat w0 I L w' := by
  obtain ⟨g, hg⟩ := H.sizeQ
  have S1 := H.alloc (b := g) (T := 56) (cs := rvl v (.slice a v.bl.length c)) rfl hg.symm
  have S2 := S1.alloc (b := g + 1) (T := 56) (cs := rv0) rfl (by simp [hg])
  have H2 := hid S2
  have HR := hid hr
  clear S1 S2 H hr
  rcases hno with h1 | ⟨h1, h2⟩ | ⟨h1, h2, h3⟩ | ⟨k, hk, rfl, h3, h4⟩
  · skip
    go_enter Try.func48, Try.ntmps48
    go_upto_region 1 with fail
    try rw [hg]
    refine wp_gen (fun w1 => Sat w0 I (blk (g + 1) 56 rv0 :: blk g 56 (rvl v (.slice a v.bl.length c)) :: L) w1) H2.out ?_
    clear H2 hg
    intro w1 S1
    have c0 := S1.swap.isBlk.cell 0 (v := .slice a v.bl.length c) rfl
    have H3 := hid S1.swap
    clear S1
    go_wp2_with (first
      | (refine wpList_loadS whV rfl _ rfl rfl rfl H3.out ?_)
      | (refine wpList_storeS whV rfl _ _ rfl rfl rfl rfl rfl (rvl_one _ _ _ _) H3.out.swap ?_; intro w5 S5))
    exact bodyPost_ret (ret_cellS Try.results48 whV _ rfl rfl rfl S5) rfl ⟨rfl, S5.drop.drop⟩
  · have h1' : ¬ n < 0 := by omega
    have h2' : (v.bl.length : Int) ≤ n := h2
    go_enter Try.func48, Try.ntmps48
    go_upto_region 1 with fail
    try rw [hg]
    refine wp_gen (fun w1 => Sat w0 I (blk (g + 1) 56 rv0 :: blk g 56 (rvl v (.slice a v.bl.length c)) :: L) w1) H2.out ?_
    clear H2 hg
    intro w1 S1
    have c0 := S1.swap.isBlk.cell 0 (v := .slice a v.bl.length c) rfl
    have H3 := hid S1.swap
    clear S1
    go_wp2_with (first
      | (refine wpList_loadS whV rfl _ rfl rfl rfl H3.out ?_)
      | (refine wpList_storeS whV rfl _ _ rfl rfl rfl rfl rfl (rvl_one _ _ _ _) H3.out.swap ?_; intro w5 S5))
    exact bodyPost_ret (ret_cellS Try.results48 whV _ rfl rfl rfl S5) rfl ⟨rfl, S5.drop.drop⟩
  · have h1' : ¬ n < 0 := by omega
    have h2' : ¬ (v.bl.length : Int) ≤ n := by omega
    go_enter Try.func48, Try.ntmps48
    go_upto_region 1 with fail
    try rw [hg]
    refine wp_gen (fun w1 => Sat w0 I (blk (g + 1) 56 rv0 :: blk g 56 (rvl v (.slice a v.bl.length c)) :: L) w1) H2.out ?_
    clear H2 hg
    intro w1 S1
    have c0 := S1.swap.isBlk.cell 0 (v := .slice a v.bl.length c) rfl
    have H3 := hid S1.swap
    clear S1
    go_wp2_with (first
      | (refine wpList_loadS whV rfl _ rfl rfl rfl H3.out ?_)
      | (refine wpList_storeS whV rfl _ _ rfl rfl rfl rfl rfl (rvl_one _ _ _ _) H3.out.swap ?_; intro w5 S5))
    exact bodyPost_ret (ret_cellS Try.results48 whV _ rfl rfl rfl S5) rfl ⟨rfl, S5.drop.drop⟩
  · have h1' : ¬ (k : Int) < 0 := by omega
    have h2' : ¬ (v.bl.length : Int) ≤ (k : Int) := by omega
    have h3' : ¬ at_ < 0 := by omega
    have hk0 : (0 : Int) ≤ (k : Int) := by omega
    have hk1 : (k : Int) < (v.bl.length : Int) := by omega
    have hkd : decide (v.bl.length ≤ k) = false := by simp; omega
    go_enter Try.func48, Try.ntmps48
    go_upto_region 1 with fail
    try rw [hg]
    refine wp_gen (fun w1 => Sat w0 I (blk (g + 1) 56 rv0 :: blk g 56 (rvl v (.slice a v.bl.length c)) :: L) w1) H2.out ?_
    clear H2 hg
    intro w1 S1
    have c0 := S1.swap.isBlk.cell 0 (v := .slice a v.bl.length c) rfl
    have H3 := hid S1.swap
    clear S1
    obtain ⟨b, off, rfl, e1, e2, e3⟩ := rd3 HR.out H3.out k hk
    go_wp2_with (first
      | (refine wpList_loadS whV rfl _ rfl rfl rfl H3.out ?_)
      | (refine wpList_storeS whV rfl _ _ rfl rfl rfl rfl rfl (rvl_one _ _ _ _) H3.out.swap ?_; intro w5 S5))
    exact bodyPost_ret (ret_cellS Try.results48 whV _ rfl rfl rfl S5) rfl ⟨rfl, S5.drop.drop⟩
theorem rspoil_yes (hv : v.ok) (k i : Nat) (y : UInt8) (hk : k < v.bl.length) (hi : i < v.bl[k].s.size) (hs : v.bl[k].s.size ≤ 1000000) (hr : Rd I a (v.bl.flatMap bc)) (H : Sat w0 I L w) :
    Calls Try.prog 48 #[.agg (rvl v (.slice a v.bl.length c)).toArray, .int .i64 (k : Int), .int .i64 (i : Int), .int .u8 (y.toNat : Int)] w fun e w' => ∃ J a' c', e = .returned (.tuple #[.agg (rvl {v with bl := v.bl.set k (spoilB v.bl[k] i y)} (.slice a' v.bl.length c')).toArray, .bool true]) ∧ I.le J ∧ Rd J a' ((v.bl.set k (spoilB v.bl[k] i y)).flatMap bc) ∧ v.bl.length ≤ c' ∧ c' ≤ 9223372036854775807 ∧ (∃ b off, a' = some ⟨b, off, none⟩) ∧ Sat w0 J L w' := by
  have hlen := hv.len
  obtain ⟨g, hg⟩ := H.sizeQ
  have S1 := H.alloc (b := g) (T := 56) (cs := rvl v (.slice a v.bl.length c)) rfl hg.symm
  have S2 := S1.alloc (b := g + 1) (T := 56) (cs := rv0) rfl (by simp [hg])
  have H2 := hid S2
  have HR := hid hr
  clear S1 S2 H hr
  obtain ⟨b0, off, rfl, -⟩ := rd3 HR.out H2.out k hk
  obtain ⟨b, hb⟩ : ∃ b, v.bl[k] = b := ⟨_, rfl⟩
  have HB := hid hb
  rw [hb] at hi hs ⊢
  have h1' : ¬ (k : Int) < 0 := by omega
  have h2' : ¬ (v.bl.length : Int) ≤ (k : Int) := by omega
  have h3' : ¬ (i : Int) < 0 := by omega
  have h4' : ¬ (b.s.size : Int) ≤ (i : Int) := by omega
  have hk0 : (0 : Int) ≤ (k : Int) := by omega
  have hk1 : (k : Int) < (v.bl.length : Int) := by omega
  have hi0 : (0 : Int) ≤ (i : Int) := by omega
  have hi1 : (i : Int) < (b.s.size : Int) := by omega
  have hkd : decide (v.bl.length ≤ k) = false := by simp; omega
  have hid1 : decide (b.s.size ≤ i) = false := by simp; omega
  clear hb
  go_enter Try.func48, Try.ntmps48
  go_upto_region 1 with fail
  try rw [hg]
  refine wp_gen (fun w1 => Sat w0 I (blk (g + 1) 56 rv0 :: blk g 56 (rvl v (.slice (some ⟨b0, off, none⟩) v.bl.length c)) :: L) w1) H2.out ?_
  clear H2 hg
  intro w1 S1
  have c0 := S1.swap.isBlk.cell 0 (v := .slice (some ⟨b0, off, none⟩) v.bl.length c) rfl
  obtain ⟨b1, off1, e1, x0, x1, x2⟩ := rd3 HR.out S1 k hk
  cases e1
  rw [HB.out] at x0
  have H1 := hid S1
  clear S1 x1 x2
  go_upto_region 3 with fail
  clear c0 x0
  have H3 := hid (H1.out.alloc (b := w1.heap.size) (T := 65) (cs := []) rfl rfl)
  have c0 := (H3.out.pick 2).isBlk.cell 0 (v := .slice (some ⟨b0, off, none⟩) v.bl.length c) rfl
  have hnb : v.bl.length * 24 ≤ 140737488355328 := by omega
  have hnb2 : v.bl.length ≤ 140737488355328 := by omega
  have HFL := hid (flat_len bc bc_len v.bl)
  go_upto_region 4 with (at_builtin; refine wpList_copyN slBk rfl _ _ rfl H3.out rfl rfl HR.out HFL.out (bc_one _) hnb hnb2 ?_; intro g7 cp7 w7 hc7 hc8 S7; have p0 := (S7.pick 2).isBlk.cell 0 (v := .slice (some ⟨b0, off, none⟩) v.bl.length c) rfl; have pf := (S7.pick 2).isBlk.frozen 0; have HS7 := hid S7; clear S7)
  have H4 := hid ((HS7.out.pick 2).set 0 (.slice (some ⟨g7, 0, none⟩) v.bl.length cp7) (cs' := rvl v (.slice (some ⟨g7, 0, none⟩) v.bl.length cp7)) rfl)
  refine wp_gen (fun w4 => Sat w0 I (blk g 56 (rvl v (.slice (some ⟨g7, 0, none⟩) v.bl.length cp7)) :: row 65 3 (.slice (some ⟨g7, 0, none⟩) v.bl.length cp7) v.bl.length (v.bl.flatMap bc) :: blk (g + 1) 56 rv0 :: L) w4) H4.out ?_
  clear H4 HS7 p0 pf c0 H3 H1
  intro w4 S4
  have c0 := S4.isBlk.cell 0 (v := .slice (some ⟨g7, 0, none⟩) v.bl.length cp7) rfl
  obtain ⟨g8, e8, x0, x1, x2⟩ := row_elemR (b := default) S4.swap hk
  cases e8
  rw [HB.out] at x0
  have fz := own_frozen S4.swap.isRow (k * 3)
  obtain ⟨d, hd⟩ : ∃ d, b.s[i]'hi = d := ⟨_, rfl⟩
  have x1' : bits .xor .u8 (d.toNat : Int) (y.toNat : Int) = ((d ^^^ y).toNat : Int) := by rw [u8_xor_nat _ _ (UInt8.toNat_lt d) (UInt8.toNat_lt y), UInt8.toNat_xor]
  have H4 := hid S4
  clear S4 x1 x2
  go_upto_region 5 with fail
  have SA : Sat w0 I (blk w4.heap.size 5 [.int .u8 ((d ^^^ y).toNat : Int)] :: blk g 56 (rvl v (.slice (some ⟨g7, 0, none⟩) v.bl.length cp7)) :: row 65 3 (.slice (some ⟨g7, 0, none⟩) v.bl.length cp7) v.bl.length (v.bl.flatMap bc) :: blk (g + 1) 56 rv0 :: L) (w4.alloc (.cells #[.int .u8 ((d ^^^ y).toNat : Int)] 5)) := H4.out.alloc rfl rfl
  have kb := byte1Str _ (d ^^^ y) w4.heap.size (SA.isBlk.cell 0 rfl)
  have kb2 := byte1Str _ (d ^^^ y) w4.heap.size (SA.drew.isBlk.cell 0 rfl)
  rw [UInt8.toNat_xor] at kb kb2
  rw [UInt8.toNat_xor] at SA
  have c0' := (SA.pick 1).isBlk.cell 0 (v := .slice (some ⟨g7, 0, none⟩) v.bl.length cp7) rfl
  obtain ⟨g9, e9, x0', x1, x2⟩ := row_elemR (b := default) (SA.pick 2) hk
  cases e9
  rw [HB.out] at x0'
  have fz' := own_frozen (SA.pick 2).isRow (k * 3)
  have HSA := hid SA
  have hs1 : ¬ 9223372036854775807 < i + 1 := by omega
  have hs2 : ¬ 9223372036854775807 < i + 1 + (b.s.size - (i + 1)) := by omega
  clear SA x1 x2
  have hile : i ≤ b.s.size := by omega
  have hile1 : i + 1 ≤ b.s.size := by omega
  have hwi : IntKind.i64.wrap ((i : Int) + 1) = ((i + 1 : Nat) : Int) := by rw [IntWalk.i64_in _ (by omega)]; omega
  have hii : ((i + 1 : Nat) : Int) ≤ (b.s.size : Int) := by omega
  have hii0 : (0 : Int) ≤ ((i + 1 : Nat) : Int) := by omega
  have hX : b.s.extract 0 i ++ ⟨#[d ^^^ y]⟩ ++ b.s.extract (i + 1) b.s.size = (spoilB b i y).s := by
    rw [← hd]; exact spoil_cat b.s i hi y rfl
  have HX := hid hX
  clear hX
  go_region
  go_upto_region 6 with fail
  have e4 := flat_set bc bc_len v.bl k 0 hk (.string (spoilB b i y).s) (spoilB b i y) (by omega) (by rw [HB.out]; rfl)
  rw [Nat.add_zero] at e4
  have HF := hid ((HSA.out.pick 2).rowSet (k * 3) (.string (b.s.extract 0 i ++ ⟨#[d ^^^ y]⟩ ++ b.s.extract (i + 1) b.s.size))).drew
  refine wp_gen (fun w6 => Sat w0 I (row 65 3 (.slice (some ⟨g7, 0, none⟩) v.bl.length cp7) v.bl.length ((v.bl.set k (spoilB b i y)).flatMap bc) :: blk w4.heap.size 5 [.int .u8 ((d.toNat ^^^ y.toNat : Nat) : Int)] :: blk g 56 (rvl v (.slice (some ⟨g7, 0, none⟩) v.bl.length cp7)) :: blk (g + 1) 56 rv0 :: L) w6) (by have h := HF.out; rw [HX.out, e4] at h; rw [HX.out]; exact h) ?_
  clear HF e4 kb kb2 c0 c0' x0 x0' fz fz' HSA H4
  intro w6 S6
  obtain ⟨JT, xaT, xcT, hJ', S11, hv7, hc3, hc4, _, hrd'⟩ := S6.freezeRow
  cases hv7
  have H3 := hid S11.drop
  have HRD := hid hrd'
  have HJT := hid hJ'
  clear S6 S11 hrd' hJ'
  go_wp2_with (first
    | (refine wpList_loadS whV rfl _ rfl rfl rfl H3.out ?_)
    | (refine wpList_storeS whV rfl _ _ rfl rfl rfl rfl rfl (rvl_one _ _ _ _) H3.out.swap ?_; intro w5 S5))
  exact bodyPost_ret (ret_cellS Try.results48 whV _ rfl rfl rfl S5) rfl ⟨JT, some ⟨g7, 0, none⟩, cp7, rfl, HJT.out, HRD.out, hc7, hc8, ⟨g7, 0, rfl⟩, S5.drop.drop⟩
end
end Go.Proofs.Ytecdnlmagaoccaa
