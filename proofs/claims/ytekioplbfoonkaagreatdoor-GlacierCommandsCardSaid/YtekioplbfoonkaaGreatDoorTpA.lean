/- Layer 7: Parts, Weight, Fits; Long. -/
import Derived.Test.YtekioplbfoonkaaGreatDoorMg3
namespace Go.Proofs.YtekioplbfoonkaaGreatDoor
open Go.RowKit
set_option linter.unusedVariables false
set_option maxRecDepth 100000
set_option maxHeartbeats 1000000
def nparts (n : Nat) : Nat := (n - 1) / 200 + 1
theorem nparts_eq (n : Nat) : nparts n = (max n 1 - 1) / 200 + 1 := by
  unfold nparts
  rcases Nat.eq_zero_or_pos n with h | h
  · subst h; rfl
  · rw [Nat.max_eq_left h]
def weightN (n : Nat) : Nat := n + 76 * nparts n + 4
section
variable {w0 w : World} {I : Part} {L : List HP} {p : Nat} {v : Vst}
theorem parts_sat (n : Nat) (hn : n ≤ 1000000) {N : Int} (hN : (nparts n : Int) = N) (H : Sat w0 I L w) :
    Calls Tryz.prog 37 #[.int .i64 (n : Int)] w fun e w' => e = .returned (.int .i64 N) ∧ Sat w0 I L w' := by
  have hm : max (n : Int) 1 = ((max n 1 : Nat) : Int) := by omega
  have HM := hid hm
  have h1 : 1 ≤ max n 1 := by omega
  have h2 : max n 1 ≤ 1000000 := by omega
  have hq := nparts_eq n
  generalize max n 1 = m at *
  have e1 : ((m : Int) - 1) = ((m - 1 : Nat) : Int) := by omega
  have e2 : (((m - 1) / 200 : Nat) : Int) + 1 = N := by omega
  have HN := hid e2
  have hsm : (m - 1) / 200 ≤ 1000000 := by omega
  have HS := hid H
  clear hm hq hN e2 H
  go_enter Tryz.func37, Tryz.ntmps37
  go_wp2_with (refine wpList_max (o := ⟨some 4, _, _, _, _, _⟩) rfl rfl rfl rfl HM.out ?_)
  go_ret
  refine ⟨ret_int ?_, HS.out⟩
  have := HN.out
  omega
theorem weight7_sat (n : Nat) (hn : n ≤ 1000000) {N : Int} (hN : (weightN n : Int) = N) (H : Sat w0 I L w) :
    Calls Tryz.prog 93 #[.int .i64 (n : Int)] w fun e w' => e = .returned (.int .i64 N) ∧ Sat w0 I L w' := by
  have hm : max (n : Int) 0 = (n : Int) := by omega
  have HM := hid hm
  have HS := hid H
  obtain ⟨q, hq⟩ : ∃ q, nparts n = q := ⟨_, rfl⟩
  have hqs : q ≤ 1000000 := by unfold nparts at hq; omega
  have HN := hid (show (n : Int) + 76 * (q : Int) + 4 = N by rw [← hN, ← hq]; unfold weightN; omega)
  have HQ := hid hq
  clear hm hN H hq
  go_enter Tryz.func93, Tryz.ntmps93
  go_wp2_with (refine wpList_max (o := ⟨some 4, _, _, _, _, _⟩) rfl rfl rfl rfl HM.out ?_)
  refine (parts_sat n hn (N := (q : Int)) (by rw [HQ.out]) HS.out).mono ?_; rintro e w1 ⟨rfl, S1⟩
  have H1 := hid S1
  clear S1 HS
  go_wp2_with fail
  go_ret
  refine ⟨ret_int ?_, H1.out⟩
  have := HN.out
  omega
theorem vfits (n : Int) (hv : v.ok) {B : Bool} (hB : decide (n ≤ v.room - (wsum v.bl : Int)) = B) (H : Sat w0 I (volp p v :: L) w) :
    Calls Tryz.prog 92 #[.pointer (some ⟨p, 0, none⟩), .int .i64 n] w fun e w' => e = .returned (.bool B) ∧ Sat w0 I (volp p v :: L) w' := by
  subst hB
  obtain ⟨ad, cap, k1, k2, H1⟩ := H.volOpen
  exact ret_sat (fits_any w p 0 v.room (wsum v.bl) n (H1.isBlk.cell 0 rfl) (H1.isBlk.cell 1 rfl) (by omega) hv.used hv.room) H
def repS (s : ByteArray) : Nat → ByteArray
  | 0 => ⟨#[]⟩
  | k + 1 => repS s k ++ s
theorem repS_size (s : ByteArray) : ∀ k, (repS s k).size = k * s.size
  | 0 => by simp [repS]; rfl
  | k + 1 => by
    show (repS s k ++ s).size = _
    rw [ByteArray.size_append, repS_size s k, Nat.add_mul]; omega
/-- a text, several times. -/
def longS (s : ByteArray) (n : Int) : ByteArray := repS (s.extract 0 60) (min n 10).toNat
theorem longS_size (s : ByteArray) (n : Int) : (longS s n).size ≤ 600 := by
  unfold longS
  rw [repS_size]
  have h1 := cutSize s 60
  have h2 : (min n 10).toNat ≤ 10 := by omega
  calc (min n 10).toNat * (s.extract 0 60).size ≤ 10 * 60 := Nat.mul_le_mul h2 h1
    _ = 600 := rfl
set_option maxHeartbeats 2000000 in
theorem long_sat (s : ByteArray) (n : Int) (hs : s.size ≤ 9223372036854775807) (hn : -9223372036854775808 ≤ n ∧ n ≤ 9223372036854775807) {R : ByteArray} (hR : longS s n = R) (H : Sat w0 I L w) :
    Calls Tryz.prog 9 #[.string s, .int .i64 n] w fun e w' => e = .returned (.string R) ∧ Sat w0 I L w' := by
  have HS := hid H
  have hz := cutSize s 60
  unfold longS at hR
  obtain ⟨t, ht⟩ : ∃ t, s.extract 0 60 = t := ⟨_, rfl⟩
  rw [ht] at hz hR
  have HT := hid ht
  obtain ⟨K, hK⟩ : ∃ K, (min n 10).toNat = K := ⟨_, rfl⟩
  rw [hK] at hR
  have hK1 : (K : Int) = n ∨ K = 10 ∨ (n ≤ 0 ∧ K = 0) := by omega
  have hK2 : K ≤ 10 := by omega
  have hK3 : 0 < K → (K : Int) ≤ n := by omega
  have HK1 := hid hK1
  have HK3 := hid hK3
  have HR := hid hR
  have HRS := hid (repS_size t)
  clear H ht hK hR hK1 hK3
  go_enter Tryz.func9, Tryz.ntmps9
  go_wp2_with fail
  refine (cut_sat s 60 (by omega) hs HS.out).mono ?_; rintro e w1 ⟨rfl, S1⟩
  rw [HT.out]
  have H1 := hid S1
  clear S1 HS HT
  go_wp2_with fail
  go_loopw [5, 6] (fun out i wr => ∃ k : Nat, k ≤ K ∧ i = .int .i64 k ∧ out = .string (repS t k) ∧ Sat w0 I L wr) (fun _ i _ => K - (intOf i).toNat)
  case atStart => exact ⟨0, Nat.zero_le _, rfl, rfl, H1.out⟩
  case round =>
    clear H1
    obtain ⟨k, hk, rfl, rfl, Sr⟩ := hrel
    have HS := hid Sr
    clear Sr
    by_cases hlt : k < K
    · have hn3 := HK3.out (by omega)
      have k1 : (k : Int) < n := by omega
      have k2 : (k : Int) < 10 := by omega
      have hsz := HRS.out k
      have hkz : k * t.size ≤ 10 * 60 := Nat.mul_le_mul (by omega) hz
      have hcat : ¬ 9223372036854775807 < (repS t k).size + t.size := by rw [hsz]; omega
      have e1 : repS t k ++ t = repS t (k + 1) := rfl
      have E1 := hid e1
      generalize repS t k = x at *
      clear hsz e1
      go_wp2_with fail
      go_roundw
      case rel => exact ⟨k + 1, by omega, by go_num, by rw [E1.out], HS.out⟩
      case measure => (simp [intOf] <;> omega)
    · obtain rfl : k = K := by omega
      rw [HR.out]
      by_cases k1 : (k : Int) < n
      · have k2 : ¬ (k : Int) < 10 := by have := HK1.out; omega
        go_wp2_with fail
        go_ret
        exact ⟨rfl, HS.out⟩
      · go_wp2_with fail
        go_ret
        exact ⟨rfl, HS.out⟩
end
end Go.Proofs.YtekioplbfoonkaaGreatDoor
