/- The checksum, plainly. -/
namespace Go.Proofs.YtekioplbfoonkaaGreatDoor
set_option linter.unusedVariables false
set_option maxRecDepth 100000
def tabL : List Nat := [0x00000000, 0x1db71064, 0x3b6e20c8, 0x26d930ac, 0x76dc4190, 0x6b6b51f4, 0x4db26158, 0x5005713c, 0xedb88320, 0xf00f9344, 0xd6d6a3e8, 0xcb61b38c, 0x9b64c2b0, 0x86d3d2d4, 0xa00ae278, 0xbdbdf21c]
def tabF (i : Nat) : Nat := tabL.getD i 0
theorem tabF_lt (i : Nat) : tabF i < 4294967296 := by
  unfold tabF
  by_cases h : i < 16
  · have : ∀ j : Fin 16, tabL.getD j.val 0 < 4294967296 := by decide
    exact this ⟨i, h⟩
  · rw [List.getD_eq_getElem?_getD, List.getElem?_eq_none (by simp [tabL]; omega)]; simp
def nib (r : Nat) : Nat := (r / 16) ^^^ tabF (r % 16)
theorem xor_lt {a b : Nat} (ha : a < 4294967296) (hb : b < 4294967296) : a ^^^ b < 4294967296 := Nat.xor_lt_two_pow (n := 32) ha hb
theorem nib_lt {r : Nat} (h : r < 4294967296) : nib r < 4294967296 := xor_lt (by omega) (tabF_lt _)
def cstep (r : Nat) (c : UInt8) : Nat := nib (nib (r ^^^ c.toNat))
theorem u8_lt (c : UInt8) : c.toNat < 256 := c.toBitVec.isLt
theorem cstep_lt {r : Nat} (c : UInt8) (h : r < 4294967296) : cstep r c < 4294967296 := nib_lt (nib_lt (xor_lt h (by have := u8_lt c; omega)))
def crcR (r : Nat) (l : List UInt8) : Nat := l.foldl cstep r
theorem crcR_lt (l : List UInt8) : ∀ {r : Nat}, r < 4294967296 → crcR r l < 4294967296 := by
  induction l with
  | nil => intro r h; exact h
  | cons c l ih => intro r h; exact ih (cstep_lt c h)
theorem crcR_app (r : Nat) (l m : List UInt8) : crcR r (l ++ m) = crcR (crcR r l) m := List.foldl_append ..
def crcRS (r : Nat) (ss : List ByteArray) : Nat := ss.foldl (fun r s => crcR r s.data.toList) r
theorem crcRS_lt (ss : List ByteArray) : ∀ {r : Nat}, r < 4294967296 → crcRS r ss < 4294967296 := by
  induction ss with
  | nil => intro r h; exact h
  | cons c l ih => intro r h; exact ih (crcR_lt _ h)
theorem crcRS_flat (ss : List ByteArray) : ∀ (r : Nat), crcRS r ss = crcR r (ss.flatMap fun s => s.data.toList) := by
  induction ss with
  | nil => intro r; rfl
  | cons s ss ih =>
    intro r
    rw [List.flatMap_cons, crcR_app, ← ih]; rfl
def crcS (ss : List ByteArray) : Nat := 4294967295 - crcRS 4294967295 ss
def crc (l : List UInt8) : Nat := 4294967295 - crcR 4294967295 l
theorem crcS_eq (ss : List ByteArray) : crcS ss = crc (ss.flatMap fun s => s.data.toList) := by
  unfold crcS crc; rw [crcRS_flat]
theorem crc_lt (l : List UInt8) : crc l < 4294967296 := by unfold crc; omega
end Go.Proofs.YtekioplbfoonkaaGreatDoor
