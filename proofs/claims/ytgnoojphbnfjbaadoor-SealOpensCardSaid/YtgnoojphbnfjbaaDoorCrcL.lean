/- The checksum, bit by bit; that differences of up to four bytes in a row never vanish: plain laws. -/
import Derived.Test.YtgnoojphbnfjbaaDoorCrc
namespace Go.Proofs.YtgnoojphbnfjbaaDoor
set_option linter.unusedVariables false
def pol (b : Nat) : Nat := if b = 1 then 3988292384 else 0
def stp (r : Nat) : Nat := (r / 2) ^^^ pol (r % 2)
theorem xor_div16 (a b : Nat) : (a ^^^ b) / 16 = a / 16 ^^^ b / 16 := by
  have := Nat.shiftRight_xor_distrib (i := 4) (a := a) (b := b)
  simpa [Nat.shiftRight_eq_div_pow] using this
theorem xor_div2 (a b : Nat) : (a ^^^ b) / 2 = a / 2 ^^^ b / 2 := by
  have := Nat.shiftRight_xor_distrib (i := 1) (a := a) (b := b)
  simpa [Nat.shiftRight_eq_div_pow] using this
theorem xor_mod16 (a b : Nat) : (a ^^^ b) % 16 = a % 16 ^^^ b % 16 := by
  have := Nat.xor_mod_two_pow (n := 4) (a := a) (b := b)
  simpa using this
theorem xor_mod2 (a b : Nat) : (a ^^^ b) % 2 = (a % 2 + b % 2) % 2 := by
  have h := Nat.xor_mod_two_pow (n := 1) (a := a) (b := b)
  rw [Nat.pow_one] at h
  rw [h]
  have ha := Nat.mod_two_eq_zero_or_one a
  have hb := Nat.mod_two_eq_zero_or_one b
  rcases ha with ha | ha <;> rcases hb with hb | hb <;> rw [ha, hb] <;> rfl
theorem pol_xor (a b : Nat) (ha : a < 2) (hb : b < 2) : pol ((a + b) % 2) = pol a ^^^ pol b := by
  have : ∀ x y : Fin 2, pol ((x.val + y.val) % 2) = pol x.val ^^^ pol y.val := by decide
  exact this ⟨a, ha⟩ ⟨b, hb⟩
theorem xor4 (a b c d : Nat) : (a ^^^ b) ^^^ (c ^^^ d) = (a ^^^ c) ^^^ (b ^^^ d) := by
  rw [Nat.xor_assoc, Nat.xor_assoc, ← Nat.xor_assoc b c d, Nat.xor_comm b c, Nat.xor_assoc c b d]
theorem stp_xor (a b : Nat) : stp (a ^^^ b) = stp a ^^^ stp b := by
  unfold stp
  rw [xor_div2, xor_mod2, pol_xor _ _ (Nat.mod_lt _ (by omega)) (Nat.mod_lt _ (by omega)), xor4]
theorem tab_xor (i j : Nat) (hi : i < 16) (hj : j < 16) : tabF (i ^^^ j) = tabF i ^^^ tabF j := by
  have : ∀ x y : Fin 16, tabF (x.val ^^^ y.val) = tabF x.val ^^^ tabF y.val := by decide +kernel
  exact this ⟨i, hi⟩ ⟨j, hj⟩
theorem nib_xor (a b : Nat) : nib (a ^^^ b) = nib a ^^^ nib b := by
  unfold nib
  rw [xor_div16, xor_mod16, tab_xor _ _ (Nat.mod_lt _ (by omega)) (Nat.mod_lt _ (by omega)), xor4]
theorem tab_bits (i : Nat) (hi : i < 16) : tabF i = pol (i / 8 % 2) ^^^ stp (pol (i / 4 % 2)) ^^^ stp (stp (pol (i / 2 % 2))) ^^^ stp (stp (stp (pol (i % 2)))) := by
  have : ∀ x : Fin 16, tabF x.val = pol (x.val / 8 % 2) ^^^ stp (pol (x.val / 4 % 2)) ^^^ stp (stp (pol (x.val / 2 % 2))) ^^^ stp (stp (stp (pol (x.val % 2)))) := by decide +kernel
  exact this ⟨i, hi⟩
/-- four steps of a bit each are one step by the table. -/
theorem stp4 (r : Nat) : stp (stp (stp (stp r))) = nib r := by
  have e1 : stp r = (r / 2) ^^^ pol (r % 2) := rfl
  have e2 : stp (r / 2) = (r / 4) ^^^ pol (r / 2 % 2) := by unfold stp; rw [Nat.div_div_eq_div_mul]
  have e3 : stp (r / 4) = (r / 8) ^^^ pol (r / 4 % 2) := by unfold stp; rw [Nat.div_div_eq_div_mul]
  have e4 : stp (r / 8) = (r / 16) ^^^ pol (r / 8 % 2) := by unfold stp; rw [Nat.div_div_eq_div_mul]
  simp only [e1, e2, e3, e4, stp_xor]
  unfold nib
  rw [tab_bits (r % 16) (Nat.mod_lt _ (by omega))]
  rw [show r % 16 / 8 % 2 = r / 8 % 2 by omega, show r % 16 / 4 % 2 = r / 4 % 2 by omega, show r % 16 / 2 % 2 = r / 2 % 2 by omega, show r % 16 % 2 = r % 2 by omega]
  simp only [Nat.xor_assoc]
def stps : Nat → Nat → Nat
  | 0, r => r
  | k + 1, r => stps k (stp r)
theorem stps8 (r : Nat) : stps 8 r = nib (nib r) := by
  show stp (stp (stp (stp (stp (stp (stp (stp r))))))) = _
  rw [stp4, stp4]
/-! ### Differences -/
theorem nib_zero {r : Nat} (hr : r < 4294967296) (h : nib r = 0) : r = 0 := by
  unfold nib at h
  have h1 : r / 16 = tabF (r % 16) := by
    have := congrArg (· ^^^ tabF (r % 16)) h
    simpa [Nat.xor_assoc] using this
  have h2 : ∀ x : Fin 16, x.val = 0 ∨ 268435456 ≤ tabF x.val := by decide
  rcases h2 ⟨r % 16, Nat.mod_lt _ (by omega)⟩ with h3 | h3
  · simp only at h3
    rw [h3] at h1
    have : tabF 0 = 0 := by decide
    omega
  · simp only at h3; omega
theorem xor_zero_eq {a b : Nat} (h : a ^^^ b = 0) : a = b := by
  have := congrArg (· ^^^ b) h
  simpa [Nat.xor_assoc] using this
theorem nib_inj {a b : Nat} (ha : a < 4294967296) (hb : b < 4294967296) (h : nib a = nib b) : a = b :=
  xor_zero_eq (nib_zero (xor_lt ha hb) (by rw [nib_xor, h, Nat.xor_self]))
def byt (r : Nat) : Nat := nib (nib r)
theorem byt_inj {a b : Nat} (ha : a < 4294967296) (hb : b < 4294967296) (h : byt a = byt b) : a = b :=
  nib_inj ha hb (nib_inj (nib_lt ha) (nib_lt hb) h)
theorem byt_xor (a b : Nat) : byt (a ^^^ b) = byt a ^^^ byt b := by unfold byt; rw [nib_xor, nib_xor]
theorem nib_shift (d : Nat) : nib (d * 16) = d := by
  unfold nib
  rw [show d * 16 / 16 = d by omega, show d * 16 % 16 = 0 by omega]
  have : tabF 0 = 0 := by decide
  rw [this, Nat.xor_zero]
theorem byt_shift (d : Nat) : byt (d * 256) = d := by
  unfold byt
  rw [show d * 256 = (d * 16) * 16 by omega, nib_shift, nib_shift]
theorem cstep_byt (r : Nat) (c : UInt8) : cstep r c = byt (r ^^^ c.toNat) := rfl
/-- equal bytes keep a difference. -/
theorem crcR_ne (l : List UInt8) : ∀ {a b : Nat}, a < 4294967296 → b < 4294967296 → crcR a l = crcR b l → a = b := by
  induction l with
  | nil => intro a b _ _ h; exact h
  | cons c l ih =>
    intro a b ha hb h
    have hc := u8_lt c
    have h1 := ih (cstep_lt c ha) (cstep_lt c hb) h
    rw [cstep_byt, cstep_byt] at h1
    have h2 := byt_inj (xor_lt ha (by omega)) (xor_lt hb (by omega)) h1
    have := congrArg (· ^^^ c.toNat) h2
    simpa [Nat.xor_assoc] using this
/-- up to four bytes as one number, the first lowest. -/
def le4 : List UInt8 → Nat
  | [] => 0
  | c :: l => c.toNat ^^^ le4 l * 256
def byts : Nat → Nat → Nat
  | 0, r => r
  | k + 1, r => byts k (byt r)
theorem byts_inj : ∀ (k : Nat) {a b : Nat}, a < 4294967296 → b < 4294967296 → byts k a = byts k b → a = b
  | 0, _, _, _, _, h => h
  | k + 1, a, b, ha, hb, h => byt_inj ha hb (byts_inj k (nib_lt (nib_lt ha)) (nib_lt (nib_lt hb)) h)
theorem crcR_le4 : ∀ (l : List UInt8) (r : Nat), crcR r l = byts l.length (r ^^^ le4 l)
  | [], r => by simp [crcR, byts, le4]
  | c :: l, r => by
    show crcR (cstep r c) l = byts l.length (byt (r ^^^ (c.toNat ^^^ le4 l * 256)))
    rw [crcR_le4 l (cstep r c), cstep_byt]
    congr 1
    rw [show r ^^^ (c.toNat ^^^ le4 l * 256) = (r ^^^ c.toNat) ^^^ le4 l * 256 from (Nat.xor_assoc ..).symm, byt_xor (r ^^^ c.toNat) (le4 l * 256), byt_shift]
theorem xor_shift_lt (x k : Nat) (c : Nat) (hc : c < 256) (hx : x < k) (hk : 0 < k) : c ^^^ x * 256 = x * 256 + c := by
  have h1 : (c ^^^ x * 256) % 256 = c := by
    have := Nat.xor_mod_two_pow (n := 8) (a := c) (b := x * 256)
    rw [show (2 : Nat) ^ 8 = 256 from rfl] at this
    rw [this, Nat.mod_eq_of_lt hc, Nat.mul_mod_left, Nat.xor_zero]
  have h2 : (c ^^^ x * 256) / 256 = x := by
    have := Nat.shiftRight_xor_distrib (i := 8) (a := c) (b := x * 256)
    simp only [Nat.shiftRight_eq_div_pow, show (2 : Nat) ^ 8 = 256 from rfl] at this
    rw [this, Nat.div_eq_of_lt hc, Nat.mul_div_cancel _ (by omega : 0 < 256), Nat.zero_xor]
  omega
theorem le4_eq (c : UInt8) (l : List UInt8) : le4 (c :: l) = le4 l * 256 + c.toNat :=
  xor_shift_lt (le4 l) (le4 l + 1) c.toNat (u8_lt c) (by omega) (by omega)
theorem le4_inj : ∀ (l m : List UInt8), l.length = m.length → le4 l = le4 m → l = m
  | [], [], _, _ => rfl
  | [], _ :: _, h, _ => by simp at h
  | _ :: _, [], h, _ => by simp at h
  | c :: l, d :: m, h, he => by
    rw [le4_eq, le4_eq] at he
    have hc := u8_lt c
    have hd := u8_lt d
    have h1 : c.toNat = d.toNat := by omega
    have h2 : le4 l = le4 m := by omega
    rw [le4_inj l m (by simpa using h) h2, UInt8.toNat.inj h1]
theorem le4_lt : ∀ (l : List UInt8), l.length ≤ 4 → le4 l < 4294967296
  | [], _ => by simp [le4]
  | [a], _ => by have := u8_lt a; rw [le4_eq]; simp [le4]; omega
  | [a, b], _ => by have := u8_lt a; have := u8_lt b; rw [le4_eq, le4_eq]; simp [le4]; omega
  | [a, b, c], _ => by have := u8_lt a; have := u8_lt b; have := u8_lt c; rw [le4_eq, le4_eq, le4_eq]; simp [le4]; omega
  | [a, b, c, d], _ => by have := u8_lt a; have := u8_lt b; have := u8_lt c; have := u8_lt d; rw [le4_eq, le4_eq, le4_eq, le4_eq]; simp [le4]; omega
  | _ :: _ :: _ :: _ :: _ :: _, h => by simp at h
/-- up to four bytes in a row that are others are told. -/
theorem crcR_bent (p l m t : List UInt8) (hl : l.length = m.length) (h4 : l.length ≤ 4) {r : Nat} (hr : r < 4294967296) (h : crcR r (p ++ (l ++ t)) = crcR r (p ++ (m ++ t))) : l = m := by
  rw [crcR_app, crcR_app, crcR_app, crcR_app] at h
  have hq : crcR r p < 4294967296 := crcR_lt p hr
  have h1 := crcR_ne t (crcR_lt l hq) (crcR_lt m hq) h
  rw [crcR_le4 l, crcR_le4 m, ← hl] at h1
  have h2 := byts_inj l.length (xor_lt hq (le4_lt l h4)) (xor_lt hq (le4_lt m (by omega))) h1
  have h3 : le4 l = le4 m := by
    have := congrArg (crcR r p ^^^ ·) h2
    simpa [← Nat.xor_assoc] using this
  exact le4_inj l m hl h3
theorem crc_bent (p l m t : List UInt8) (hl : l.length = m.length) (h4 : l.length ≤ 4) (h : crc (p ++ (l ++ t)) = crc (p ++ (m ++ t))) : l = m := by
  unfold crc at h
  have h1 := crcR_lt (p ++ (l ++ t)) (r := 4294967295) (by omega)
  have h2 := crcR_lt (p ++ (m ++ t)) (r := 4294967295) (by omega)
  exact crcR_bent p l m t hl h4 (r := 4294967295) (by omega) (by omega)
end Go.Proofs.YtgnoojphbnfjbaaDoor
