/- Plain laws of the numbers' spelling. -/
import Derived.Test.YtcogjlfdhiomnaaDoorWireSat
namespace Go.Proofs.YtcogjlfdhiomnaaDoor
open Go.RowKit
set_option linter.unusedVariables false
set_option maxRecDepth 100000

theorem bitLen_or1 (v : Nat) (h : v < 18446744073709551616) : Lib.bitLen (v ||| 1) = 1 + Lib.bitLen (v / 2) := by
  have h0 : v ||| 1 ≠ 0 := by intro h; have := Nat.right_le_or (n := v) (m := 1); omega
  have hor : (v ||| 1) < 18446744073709551616 := Nat.or_lt_two_pow (n := 64) (by omega) (by omega)
  rw [Lib.bitLen_half _ h0 hor]
  have e1 : (v ||| 1) / 2 = v / 2 := by
    have := Nat.or_div_two (a := v) (b := 1)
    rw [this]; simp
  rw [e1]
theorem grp_small (v : Nat) (h : v < 128) : grp v = 0 := by
  unfold grp
  rw [bitLen_or1 v (by omega)]
  have := Lib.bitLen_le (v / 2) 6 (by omega) (by omega)
  omega
theorem grp_step (v : Nat) (h : 128 ≤ v) (hv : v < 18446744073709551616) : grp v = grp (v / 128) + 1 := by
  unfold grp
  rw [bitLen_or1 v hv, bitLen_or1 (v / 128) (by omega)]
  by_cases h2 : 128 ≤ v / 2
  · rw [Lib.bitLen_shift 7 (v / 2) (by omega) (by omega)]
    have : v / 2 / 2 ^ 7 = v / 128 / 2 := by omega
    rw [this]; omega
  · have e1 : v / 128 / 2 = 0 := by omega
    rw [e1]
    have h3 := Lib.bitLen_shift 6 (v / 2) (by omega) (by omega)
    have e2 : v / 2 / 2 ^ 6 = 1 := by omega
    rw [e2] at h3
    have e3 : Lib.bitLen 1 = 1 := by decide
    have e4 : Lib.bitLen 0 = 0 := by decide
    omega
def hiR (v : Nat) : List UInt8 := if h : v = 0 then [] else hiR (v / 128) ++ [UInt8.ofNat (v % 128 + 128)]
termination_by v
decreasing_by omega
theorem hiR_zero : hiR 0 = [] := by rw [hiR]; simp
theorem hiR_pos (v : Nat) (h : v ≠ 0) : hiR v = hiR (v / 128) ++ [UInt8.ofNat (v % 128 + 128)] := by rw [hiR, dif_neg h]
theorem encHi_back (v : Nat) : ∀ k, encHi v (k + 1) = encHi (v / 128) k ++ [hiB v 1]
  | 0 => rfl
  | k + 1 => by
    rw [encHi, encHi_back v k, encHi, List.cons_append]
    congr 1
    unfold hiB
    have e1 : v / 2 ^ (7 * (k + 1 + 1)) = v / 128 / 2 ^ (7 * (k + 1)) := by
      rw [Nat.div_div_eq_div_mul]; congr 1
      rw [show 7 * (k + 1 + 1) = 7 + 7 * (k + 1) by omega, Nat.pow_add]
    rw [e1]
theorem encHi_hiR : ∀ v, v < 18446744073709551616 → encHi v (grp v) = hiR (v / 128) := by
  intro v
  induction v using Nat.strongRecOn with
  | ind v ih =>
    intro hv
    by_cases h : v < 128
    · rw [grp_small v h, Nat.div_eq_of_lt h, hiR_zero]; rfl
    · rw [grp_step v (by omega) hv, encHi_back, ih (v / 128) (by omega) (by omega), hiR_pos (v / 128) (by omega)]
      rfl
theorem encU_eq (v : Nat) (hv : v < 18446744073709551616) : encU v = hiR (v / 128) ++ [UInt8.ofNat (v % 128)] := by
  unfold encU; rw [encHi_hiR v hv]
theorem hiR_mono : ∀ v u, u ≤ v → (hiR u).length ≤ (hiR v).length := by
  intro v
  induction v using Nat.strongRecOn with
  | ind v ih =>
    intro u hu
    by_cases h : u = 0
    · subst h; rw [hiR_zero]; simp
    · rw [hiR_pos u h, hiR_pos v (by omega)]
      have := ih (v / 128) (by omega) (u / 128) (by omega)
      simp; exact this
theorem bl_app : ∀ (A B : List UInt8) (x y : UInt8), A.length = B.length → Op.bytesLess (A ++ [x]) (B ++ [y]) = (Op.bytesLess A B || (A == B && decide (x < y)))
  | [], [], x, y, _ => by simp [Op.bytesLess]
  | a :: A, b :: B, x, y, h => by
    have ih := bl_app A B x y (by simpa using h)
    simp only [List.cons_append, Op.bytesLess, ih]
    have hc : ∀ c d e f : Bool, (c || d && (e || f)) = (c || d && e || d && f) := by decide
    have hd : (a :: A == b :: B) = (a == b && A == B) := rfl
    rw [hc, hd, Bool.and_assoc]
theorem bl_irr : ∀ (A : List UInt8), Op.bytesLess A A = false
  | [] => rfl
  | a :: A => by simp [Op.bytesLess, bl_irr A]
theorem bl_asymm : ∀ (A B : List UInt8), Op.bytesLess A B = true → Op.bytesLess B A = false
  | [], [], h => by simp [Op.bytesLess] at h
  | [], b :: B, h => rfl
  | a :: A, [], h => by simp [Op.bytesLess] at h
  | a :: A, b :: B, h => by
    have ih := bl_asymm A B
    simp only [Op.bytesLess, Bool.or_eq_true, Bool.and_eq_true, beq_iff_eq, decide_eq_true_eq] at h
    simp only [Op.bytesLess, Bool.or_eq_false_iff, Bool.and_eq_false_iff, decide_eq_false_iff_not, beq_eq_false_iff_ne]
    simp only [UInt8.lt_iff_toNat_lt] at *
    rcases h with h | ⟨h, h2⟩
    · exact ⟨by omega, Or.inl (fun e => by subst e; omega)⟩
    · subst h; exact ⟨by omega, Or.inr (ih h2)⟩
theorem ofNat_lt (x y : Nat) (hy : y < 256) (h : x < y) : UInt8.ofNat x < UInt8.ofNat y := by
  rw [UInt8.lt_iff_toNat_lt, UInt8.toNat_ofNat', UInt8.toNat_ofNat']
  have e1 : x % 2 ^ 8 = x := Nat.mod_eq_of_lt (by omega)
  have e2 : y % 2 ^ 8 = y := Nat.mod_eq_of_lt (by omega)
  rw [e1, e2]; exact h
theorem hiR_lt : ∀ v u, u < v → (hiR u).length = (hiR v).length → Op.bytesLess (hiR u) (hiR v) = true := by
  intro v
  induction v using Nat.strongRecOn with
  | ind v ih =>
    intro u hu hl
    by_cases h : u = 0
    · subst h
      rw [hiR_zero, hiR_pos v (by omega)] at hl
      simp at hl
    · rw [hiR_pos u h, hiR_pos v (by omega)] at hl ⊢
      have hl2 : (hiR (u / 128)).length = (hiR (v / 128)).length := by simpa using hl
      rw [bl_app _ _ _ _ hl2]
      by_cases h1 : u / 128 < v / 128
      · rw [ih (v / 128) (by omega) (u / 128) h1 hl2]; rfl
      · have e : u / 128 = v / 128 := by omega
        rw [e, bl_irr]
        have := ofNat_lt (u % 128 + 128) (v % 128 + 128) (by omega) (by omega)
        rw [decide_eq_true this]; simp
theorem encU_mono (u v : Nat) (hv : v < 18446744073709551616) (h : u ≤ v) : (encU u).length ≤ (encU v).length := by
  rw [encU_eq u (by omega), encU_eq v hv]
  have := hiR_mono (v / 128) (u / 128) (by omega)
  simp; exact this
theorem encU_lt (u v : Nat) (hv : v < 18446744073709551616) (h : u < v) (hl : (encU u).length = (encU v).length) : Op.bytesLess (encU u) (encU v) = true := by
  rw [encU_eq u (by omega), encU_eq v hv] at hl ⊢
  have hl2 : (hiR (u / 128)).length = (hiR (v / 128)).length := by simpa using hl
  rw [bl_app _ _ _ _ hl2]
  by_cases h1 : u / 128 < v / 128
  · rw [hiR_lt _ _ h1 hl2]; rfl
  · have e : u / 128 = v / 128 := by omega
    rw [e, bl_irr]
    have := ofNat_lt (u % 128) (v % 128) (by omega) (by omega)
    simp [this]
/-- what the law asks of two numbers' bytes. -/
theorem encU_order (u v : Nat) (hv : v < 18446744073709551616) (h : u < v) :
    (encU u).length < (encU v).length ∨ ((encU u).length = (encU v).length ∧ Op.bytesLess (encU u) (encU v) = true ∧ Op.bytesLess (encU v) (encU u) = false ∧ encU u ≠ encU v) := by
  rcases Nat.lt_or_eq_of_le (encU_mono u v hv (by omega)) with h1 | h1
  · exact Or.inl h1
  · have h2 := encU_lt u v hv h h1
    exact Or.inr ⟨h1, h2, bl_asymm _ _ h2, fun e => by rw [e, bl_irr] at h2; cases h2⟩
end Go.Proofs.YtcogjlfdhiomnaaDoor
