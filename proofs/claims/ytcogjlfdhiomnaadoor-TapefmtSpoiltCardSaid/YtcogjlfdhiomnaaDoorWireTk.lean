/- Plain laws: what is spelled is taken again; what is cut off lacks bytes. -/
import Derived.Test.YtcogjlfdhiomnaaDoorWireDT
import Derived.Test.YtcogjlfdhiomnaaDoorWirePl
namespace Go.Proofs.YtcogjlfdhiomnaaDoor
open Go.RowKit
set_option linter.unusedVariables false
set_option maxRecDepth 100000

theorem ofNat_toNat (x : Nat) (h : x < 256) : (UInt8.ofNat x).toNat = x := by
  rw [UInt8.toNat_ofNat']; exact Nat.mod_eq_of_lt (by omega)
theorem takeU_hi : ∀ (x : Nat) (rest : List UInt8), x ≤ 144115188075855871 → x ≠ 0 → takeUW (hiR x ++ rest) true 0 = takeUW rest false x := by
  intro x
  induction x using Nat.strongRecOn with
  | ind x ih =>
    intro rest hx h0
    rw [hiR_pos x h0, List.append_assoc, List.singleton_append]
    have hb := ofNat_toNat (x % 128 + 128) (by omega)
    by_cases h1 : x / 128 = 0
    · rw [h1, hiR_zero, List.nil_append, takeUW, if_neg (by rw [hb]; omega), if_neg (by omega), if_neg (by omega), hb]
      congr 1; omega
    · rw [ih (x / 128) (by omega) _ (by omega) h1, takeUW, if_neg (by simp), if_neg (by omega), if_neg (by omega), hb]
      congr 1; omega
theorem takeU_enc (v : Nat) (hv : v < 18446744073709551616) (rest : List UInt8) : takeUW (encU v ++ rest) true 0 = (v, rest, 0) := by
  rw [encU_eq v hv, List.append_assoc, List.singleton_append]
  have hb := ofNat_toNat (v % 128) (by omega)
  by_cases h1 : v / 128 = 0
  · rw [h1, hiR_zero, List.nil_append, takeUW, if_neg (by rw [hb]; omega), if_neg (by omega), if_pos (by omega), hb]
    congr 1; omega
  · rw [takeU_hi _ _ (by omega) h1, takeUW, if_neg (by simp), if_neg (by omega), if_pos (by omega), hb]
    congr 1; omega
theorem takeU_hicut : ∀ (x c : Nat), x ≤ 144115188075855871 → takeUW ((hiR x).take c) true 0 = (0, [], 2) := by
  intro x
  induction x using Nat.strongRecOn with
  | ind x ih =>
    intro c hx
    by_cases h0 : x = 0
    · subst h0; rw [hiR_zero]; simp [takeUW]
    by_cases hc : c ≤ (hiR (x / 128)).length
    · rw [hiR_pos x h0, List.take_append_of_le_length hc]
      exact ih (x / 128) (by omega) c (by omega)
    · rw [List.take_of_length_le (by rw [hiR_pos x h0]; simp; omega)]
      have := takeU_hi x [] hx h0
      rw [List.append_nil] at this
      rw [this, takeUW]
theorem takeU_cut (v c : Nat) (hv : v < 18446744073709551616) (hc : c < (encU v).length) : takeUW ((encU v).take c) true 0 = (0, [], 2) := by
  rw [encU_eq v hv] at hc ⊢
  have : c ≤ (hiR (v / 128)).length := by simpa using (Nat.lt_succ_iff.1 (by simpa using hc))
  rw [List.take_append_of_le_length this]
  exact takeU_hicut _ _ (by omega)
theorem takeI_enc (most : Int) (v : Nat) (hv : v < 18446744073709551616) (rest : List UInt8) (h : v ≤ (max most 0).toNat) : takeI most (encU v ++ rest) = (v, rest, 0) := by
  unfold takeI
  rw [takeU_enc v hv rest, if_neg (by simp; omega)]
theorem takeS_enc (most : Int) (s : ByteArray) (hs : s.size < 18446744073709551616) (rest : List UInt8) (h : s.size ≤ (max most 0).toNat) : takeS most (encS s ++ rest) = (s.data.toList, rest, 0) := by
  have hl : s.data.toList.length = s.size := Array.length_toList
  unfold takeS encS
  rw [List.append_assoc, takeI_enc most s.size hs _ h]
  simp only []
  rw [if_neg (by simp), if_neg (by rw [List.length_append]; omega), List.take_left' hl, List.drop_left' hl]
theorem takeS_cut (s : ByteArray) (hs : s.size ≤ 200) : ∀ c, c < (encS s).length → (takeS 200 ((encS s).take c)).1 = [] ∧ (takeS 200 ((encS s).take c)).2.2 = 2 := by
  intro c hc
  have hl : s.data.toList.length = s.size := Array.length_toList
  unfold encS at hc ⊢
  by_cases h1 : c < (encU s.size).length
  · rw [List.take_append_of_le_length (by omega)]
    unfold takeS takeI
    rw [takeU_cut _ _ (by omega) h1]
    simp
  · rw [List.length_append] at hc
    rw [List.take_append, List.take_of_length_le (by omega)]
    unfold takeS
    rw [takeI_enc 200 s.size (by omega) _ (by omega)]
    simp only []
    rw [if_neg (by simp), if_pos (by rw [List.length_take]; omega)]
    exact ⟨rfl, rfl⟩
end Go.Proofs.YtcogjlfdhiomnaaDoor
