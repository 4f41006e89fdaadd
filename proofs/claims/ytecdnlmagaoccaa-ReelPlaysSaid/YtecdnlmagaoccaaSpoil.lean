/- Volumes: Spoil. -/
import Derived.Test.YtecdnlmagaoccaaReelF
import Derived.Test.YtecdnlmagaoccaaBytes
import Derived.Deep.CutBlock
import Derived.Deep.DeepCutAuto
namespace Go.Proofs.Ytecdnlmagaoccaa
open Go.RowKit
set_option linter.unusedVariables false
set_option maxHeartbeats 4000000
/-- a block one byte of which is another. -/
def spoilB (b : Bk) (i : Nat) (c : UInt8) : Bk := ⟨⟨(b.s.data.toList.set i (b.s.data.toList.getD i 0 ^^^ c)).toArray⟩, b.mark, b.torn⟩
theorem spoilB_wt (b : Bk) (i : Nat) (c : UInt8) : bwt (spoilB b i c) = bwt b := by
  unfold bwt spoilB
  show (List.set _ _ _).toArray.size + 4 = _
  rw [List.size_toArray, List.length_set]
  simp
theorem wsum_set : ∀ (l : List Bk) (k : Nat) (b : Bk) (hk : k < l.length), bwt b = bwt l[k] → wsum (l.set k b) = wsum l
  | [], k, b, hk, _ => absurd hk (Nat.not_lt_zero _)
  | a :: l, 0, b, hk, h => by show bwt b + wsum l = bwt a + wsum l; rw [h]; rfl
  | a :: l, k + 1, b, hk, h => by
    show bwt a + wsum (l.set k b) = bwt a + wsum l
    rw [wsum_set l k b (by simpa using hk) (by simpa using h)]
section
variable {w0 w : World} {I : Part} {L : List HP} {p : Nat} {v : Vst}
theorem vspoil_no (n at_ y : Int) (hno : n < 0 ∨ (0 ≤ n ∧ (v.bl.length : Int) ≤ n) ∨ (0 ≤ n ∧ n < v.bl.length ∧ at_ < 0) ∨ (∃ k : Nat, ∃ hk : k < v.bl.length, n = (k : Int) ∧ 0 ≤ at_ ∧ (v.bl[k].s.size : Int) ≤ at_)) (H : Sat w0 I (volp p v :: L) w) :
    Calls Try.prog 47 #[.pointer (some ⟨p, 0, none⟩), .int .i64 n, .int .i64 at_, .int .u8 y] w fun e w' => e = .returned (.bool false) ∧ Sat w0 I (volp p v :: L) w' := by
  have HS0 := hid H
  obtain ⟨ad, cap, k1, k2, H1⟩ := H.volOpen
  have c5 : w.cell? ⟨p, 5, none⟩ = some (.slice ad v.bl.length cap) := H1.isBlk.cell 5 rfl
  have HR := hid H1.swap
  clear H H1
  rcases hno with h1 | ⟨h1, h2⟩ | ⟨h1, h2, h3⟩ | ⟨k, hk, rfl, h3, h4⟩
  · go_enter Try.func47, Try.ntmps47
    go_wp2_with fail
    go_ret
    exact ⟨rfl, HS0.out⟩
  · have h1' : ¬ n < 0 := by omega
    have h2' : (v.bl.length : Int) ≤ n := h2
    go_enter Try.func47, Try.ntmps47
    go_wp2_with fail
    go_ret
    exact ⟨rfl, HS0.out⟩
  · have h1' : ¬ n < 0 := by omega
    have h2' : ¬ (v.bl.length : Int) ≤ n := by omega
    go_enter Try.func47, Try.ntmps47
    go_wp2_with fail
    go_ret
    exact ⟨rfl, HS0.out⟩
  · have h1' : ¬ (k : Int) < 0 := by omega
    have h2' : ¬ (v.bl.length : Int) ≤ (k : Int) := by omega
    have h3' : ¬ at_ < 0 := by omega
    have hk0 : (0 : Int) ≤ (k : Int) := by omega
    have hk1 : (k : Int) < (v.bl.length : Int) := by omega
    have hkd : decide (v.bl.length ≤ k) = false := by simp; omega
    obtain ⟨g, rfl, e1, e2, e3⟩ := row_elem (i := k) (b := default) (l := v.bl) HR.out hk
    go_enter Try.func47, Try.ntmps47
    go_wp2_with fail
    go_ret
    exact ⟨rfl, HS0.out⟩
theorem vspoil_yes (k i : Nat) (y : UInt8) (hk : k < v.bl.length) (hi : i < v.bl[k].s.size) (hs : v.bl[k].s.size ≤ 1000000) (H : Sat w0 I (volp p v :: L) w) :
    Calls Try.prog 47 #[.pointer (some ⟨p, 0, none⟩), .int .i64 (k : Int), .int .i64 (i : Int), .int .u8 (y.toNat : Int)] w fun e w' => e = .returned (.bool true) ∧ Sat w0 I (volp p {v with bl := v.bl.set k (spoilB v.bl[k] i y)} :: L) w' := by
  obtain ⟨ad, cap, k1, k2, H1⟩ := H.volOpen
  have c5 : w.cell? ⟨p, 5, none⟩ = some (.slice ad v.bl.length cap) := H1.isBlk.cell 5 rfl
  have HR := hid H1
  clear H H1
  obtain ⟨g, rfl, e1, e2, e3⟩ := row_elem (i := k) (b := default) (l := v.bl) HR.out.swap hk
  obtain ⟨b, hb⟩ : ∃ b, v.bl[k] = b := ⟨_, rfl⟩
  rw [hb] at e1 hi hs
  have HB := hid hb
  have h1' : ¬ (k : Int) < 0 := by omega
  have h2' : ¬ (v.bl.length : Int) ≤ (k : Int) := by omega
  have h3' : ¬ (i : Int) < 0 := by omega
  have h4' : ¬ (b.s.size : Int) ≤ (i : Int) := by omega
  have hk0 : (0 : Int) ≤ (k : Int) := by omega
  have hk1 : (k : Int) < (v.bl.length : Int) := by omega
  have hi0 : (0 : Int) ≤ (i : Int) := by omega
  have hi1 : (i : Int) < (b.s.size : Int) := by omega
  have hkd : decide (v.bl.length ≤ k) = false := by simp; omega
  have hid1 : decide (b.s.size ≤ i) = false := by simp; omega
  clear hb e2 e3
  have kc := fun (w : World) => run_bytes_of_string (P := Try.prog) w 9 87 5 b.s Try.underlying9 Try.underlying87 Try.underlying5
  go_enter Try.func47, Try.ntmps47
  go_upto_region 4 with fail
  clear kc
  have H6 := HR.out.bytesNew b.s (grownCap w b.s.size 0 5) rfl
  generalize grownCap w b.s.size 0 5 = C at *
  generalize w.heap.size = q at *
  refine wp_gen (fun w1 => Sat w0 I (bytesB q b.s.data.toList :: blk p 36 (v.cells (.slice (some ⟨g, 0, none⟩) v.bl.length cap)) :: row 72 3 (.slice (some ⟨g, 0, none⟩) v.bl.length cap) v.bl.length (v.bl.flatMap bc) :: L) w1) H6 ?_
  clear H6 HR c5 e1
  intro w1 S1
  have hbl : i < b.s.data.toList.length := by rw [show b.s.data.toList.length = b.s.size by simp]; exact hi
  have c0 := S1.bytesCell i hbl
  have f0 := S1.bytesFree i hbl
  obtain ⟨a, ha⟩ : ∃ a, b.s.data.toList[i] = a := ⟨_, rfl⟩
  rw [ha] at c0
  have x1 : bits .xor .u8 (a.toNat : Int) (y.toNat : Int) = ((a ^^^ y).toNat : Int) := by rw [u8_xor_nat _ _ (UInt8.toNat_lt a) (UInt8.toNat_lt y), UInt8.toNat_xor]
  have H1 := hid (S1.bytesSet i hbl (a ^^^ y))
  clear S1
  go_upto_region 5 with fail
  obtain ⟨l2, hl2⟩ : ∃ l, b.s.data.toList.set i (a ^^^ y) = l := ⟨_, rfl⟩
  rw [hl2] at H1
  have hll : l2.length = b.s.size := by rw [← hl2, List.length_set]; simp
  refine wp_gen (fun w2 => Sat w0 I (bytesB q l2 :: blk p 36 (v.cells (.slice (some ⟨g, 0, none⟩) v.bl.length cap)) :: row 72 3 (.slice (some ⟨g, 0, none⟩) v.bl.length cap) v.bl.length (v.bl.flatMap bc) :: L) w2) H1.out ?_
  clear H1 c0 f0 x1
  intro w2 S2
  have kb := S2.drew.bytesStr C b.s.size hll
  have kb2 := S2.bytesStr C b.s.size hll
  have c5 : w2.cell? ⟨p, 5, none⟩ = some (.slice (some ⟨g, 0, none⟩) v.bl.length cap) := (S2.pick 1).isBlk.cell 5 rfl
  have fz := own_frozen (S2.pick 2).isRow (k * 3)
  obtain ⟨g2, hg2, e1, e2, e3⟩ := row_elem (i := k) (b := default) (l := v.bl) (S2.pick 2) hk
  cases hg2
  have H2 := hid (S2.pick 2)
  have HA := hid ha
  have HL2 := hid hl2
  clear S2 e2 e3 hl2 ha
  obtain ⟨t2, ht2⟩ : ∃ t : ByteArray, (⟨l2.toArray⟩ : ByteArray) = t := ⟨_, rfl⟩
  rw [ht2] at kb kb2
  have HT2 := hid ht2
  clear ht2
  go_region
  all_goals
    go_wp2_with fail
    go_ret
    refine ⟨rfl, ?_⟩
    have h := (H2.out.drew.rowSet (k * 3) (.string t2)).swap.drop.swap
    have hsp : spoilB v.bl[k] i y = ⟨t2, v.bl[k].mark, v.bl[k].torn⟩ := by
      unfold spoilB
      rw [HB.out]
      have e : b.s.data.toList.getD i 0 = a := by rw [List.getD_eq_getElem?_getD, List.getElem?_eq_getElem hbl, HA.out]; rfl
      rw [e, HL2.out, HT2.out]
    have e4 := flat_set bc bc_len v.bl k 0 hk (.string t2) (spoilB v.bl[k] i y) (by omega) (by rw [hsp]; rfl)
    rw [Nat.add_zero] at e4
    rw [e4] at h
    have e5 : (v.bl.set k (spoilB v.bl[k] i y)).length = v.bl.length := List.length_set
    have e6 : wsum (v.bl.set k (spoilB v.bl[k] i y)) = wsum v.bl := wsum_set v.bl k _ hk (spoilB_wt _ _ _)
    refine Sat.volClose (v := {v with bl := v.bl.set k (spoilB v.bl[k] i y)}) (ad := some ⟨g, 0, none⟩) (cap := cap) ?_
    simp only [Vst.cells, e5, e6]
    exact h
end
end Go.Proofs.Ytecdnlmagaoccaa
