/- What a block of a tape says (a piece), and its encoding. -/
import Derived.Test.YtekioplbfoonkaaGreatDoorMg4
namespace Go.Proofs.YtekioplbfoonkaaGreatDoor
open Go.RowKit
set_option linter.unusedVariables false
set_option maxRecDepth 100000
structure Pc where
  label : ByteArray
  block : Nat
  blob : Nat
  part : Nat
  parts : Nat
  size : Nat
  sum : Nat
  data : ByteArray
def pcc (p : Pc) : List Value := [.string p.label, .int .i64 (p.block : Int), .int .u64 (p.blob : Int), .int .i64 (p.part : Int), .int .i64 (p.parts : Int), .int .i64 (p.size : Int), .int .u32 (p.sum : Int), .string p.data]
structure Pc.ok (p : Pc) : Prop where
  label : p.label.size ≤ 32
  block : p.block ≤ 1073741824
  blob : p.blob < 18446744073709551616
  part : p.part < p.parts
  parts : p.parts ≤ 1048576
  size : p.size ≤ 4000
  sum : p.sum < 4294967296
  data : p.data.size ≤ 200
/-- the bytes of what is appended call by call. -/
def pparts (p : Pc) : List (List UInt8) := [encS p.label, encU p.block, encU p.blob, encU p.part ++ encU p.parts ++ encU p.size, encU p.sum, encS p.data]
def pbytes (p : Pc) : List UInt8 := (pparts p).flatten
theorem encS_len (s : ByteArray) (h : s.size < 18446744073709551616) : (encS s).length ≤ 10 + s.size := by
  have := encU_len s.size h
  unfold encS
  rw [List.length_append]
  have e : s.data.toList.length = s.size := by simp
  omega
theorem pparts_len {p : Pc} (h : p.ok) : (encS p.label).length ≤ 42 ∧ (encU p.block).length ≤ 10 ∧ (encU p.blob).length ≤ 10 ∧ (encU p.part ++ encU p.parts ++ encU p.size).length ≤ 30 ∧ (encU p.sum).length ≤ 10 ∧ (encS p.data).length ≤ 210 := by
  have h1 := encS_len p.label (by have := h.label; omega)
  have h2 := encS_len p.data (by have := h.data; omega)
  have h3 := encU_len p.block (by have := h.block; omega)
  have h4 := encU_len p.blob h.blob
  have h5 := encU_len p.part (by have := h.part; have := h.parts; omega)
  have h6 := encU_len p.parts (by have := h.parts; omega)
  have h7 := encU_len p.size (by have := h.size; omega)
  have h8 := encU_len p.sum (by have := h.sum; omega)
  have := h.label; have := h.data
  simp only [List.length_append]
  omega
theorem plen {p : Pc} (h : p.ok) (n : Nat) : ((pparts p).take n).flatten.length ≤ 312 := by
  obtain ⟨h1, h2, h3, h4, h5, h6⟩ := pparts_len h
  match n with
  | 0 => simp
  | 1 => simp [pparts]; omega
  | 2 => simp [pparts]; omega
  | 3 => simp [pparts]; omega
  | 4 => simp [pparts] at *; omega
  | 5 => simp [pparts] at *; omega
  | n + 6 => simp [pparts] at *; omega
theorem pbytes_len {p : Pc} (h : p.ok) : (pbytes p).length ≤ 312 := by
  have := plen h 6
  exact this
theorem pflat0 (p : Pc) : ((pparts p).take 0).flatten ++ [p.label].flatMap encS = ((pparts p).take 1).flatten := by simp [pparts]
theorem pflat1 (p : Pc) : ((pparts p).take 1).flatten ++ [(p.block : Int)].flatMap (fun z => encU (max z 0).toNat) = ((pparts p).take 2).flatten := by simp [pparts]
theorem pflat2 (p : Pc) : ((pparts p).take 2).flatten ++ [(p.blob : Int)].flatMap (fun z => encU z.toNat) = ((pparts p).take 3).flatten := by simp [pparts]
theorem pflat3 (p : Pc) : ((pparts p).take 3).flatten ++ [(p.part : Int), (p.parts : Int), (p.size : Int)].flatMap (fun z => encU (max z 0).toNat) = ((pparts p).take 4).flatten := by simp [pparts]
theorem pflat4 (p : Pc) : ((pparts p).take 4).flatten ++ [(p.sum : Int)].flatMap (fun z => encU z.toNat) = ((pparts p).take 5).flatten := by simp [pparts]
theorem pflat5 (p : Pc) : ((pparts p).take 5).flatten ++ [p.data].flatMap encS = ((pparts p).take 6).flatten := by simp [pparts]
end Go.Proofs.YtekioplbfoonkaaGreatDoor
