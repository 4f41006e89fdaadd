/- Contracts of package seal: number, value. -/
import Derived.Test.YtekioplbfoonkaaGreatDoorSeal
import Derived.Test.YtekioplbfoonkaaGreatDoorShelf
import Derived.WalkLawsBesides
import Derived.Lib.BufferRead
namespace Go.Proofs.YtekioplbfoonkaaGreatDoor
open Go.RowKit
set_option linter.unusedVariables false
set_option maxRecDepth 100000
def be4 (n : Nat) : List UInt8 := [UInt8.ofNat (n / 16777216 % 256), UInt8.ofNat (n / 65536 % 256), UInt8.ofNat (n / 256 % 256), UInt8.ofNat (n % 256)]
theorem be4_len (n : Nat) : (be4 n).length = 4 := rfl
theorem mod_toNat (x : Nat) (h : x < 256) : (UInt8.ofNat x).toNat = x := by
  rw [UInt8.toNat_ofNat']; exact Nat.mod_eq_of_lt (by omega)
theorem conv4 (w : World) (T : TypeId) (a b c d : UInt8) (g : Nat) (hg : g = w.heap.size) :
    (convert 87 9 (.slice (some ⟨g, 0, none⟩) 4 4)).run Tryz.prog (w.alloc (.cells #[.int .u8 (a.toNat : Int), .int .u8 (b.toNat : Int), .int .u8 (c.toNat : Int), .int .u8 (d.toNat : Int)] T)) = .ok (.string ⟨#[a, b, c, d]⟩) (w.alloc (.cells #[.int .u8 (a.toNat : Int), .int .u8 (b.toNat : Int), .int .u8 (c.toNat : Int), .int .u8 (d.toNat : Int)] T)) := by
  subst hg
  exact run_convert_bytes_back _ _ _ 5 _ 4 [a, b, c, d] Tryz.underlying87 Tryz.underlying5 Tryz.underlying9 (Lib.bytes_of_row (Blk.new w [.int .u8 (a.toNat : Int), .int .u8 (b.toNat : Int), .int .u8 (c.toNat : Int), .int .u8 (d.toNat : Int)] T) (by simp [Lib.byteCells]))
theorem op_conv4 {o : Oper} {ev : Operand → Value} {x : Operand} (ho : o.op = .convert 87 9 x) (w : World) (T : TypeId) (z0 z1 z2 z3 : Int) (a b c d : UInt8) (h0 : z0 = (a.toNat : Int)) (h1 : z1 = (b.toNat : Int)) (h2 : z2 = (c.toNat : Int)) (h3 : z3 = (d.toNat : Int)) (hx : ev x = .slice (some ⟨w.heap.size, 0, none⟩) 4 4) :
    (execOp ev o).run Tryz.prog (w.alloc (.cells #[.int .u8 z0, .int .u8 z1, .int .u8 z2, .int .u8 z3] T)) = .ok (.value (.string ⟨#[a, b, c, d]⟩)) (w.alloc (.cells #[.int .u8 z0, .int .u8 z1, .int .u8 z2, .int .u8 z3] T)) := by
  subst h0 h1 h2 h3
  unfold execOp
  simp [ho, hx, conv4 w T a b c d _ rfl]
set_option maxRecDepth 100000 in
set_option maxHeartbeats 1000000 in
theorem number_any (w : World) (n : Nat) (hn : n < 4294967296) :
    Calls Tryz.prog 164 #[.int .u32 (n : Int)] w (RetB (.string ⟨(be4 n).toArray⟩) w.heap.size w) := by
  go_enter Tryz.func164, Tryz.ntmps164
  go_wp2_with (refine wpList_val (o := ⟨some 15, _, _, _, _, _⟩) rfl (.string ⟨(be4 n).toArray⟩) ?hrun ?_)
  case hrun =>
    refine op_conv4 rfl w _ _ _ _ _ _ _ _ _ ?h0 ?h1 ?h2 ?h3 rfl
    case h0 => rw [mod_toNat _ (by omega)]; (simp <;> omega)
    case h1 => rw [mod_toNat _ (by omega)]; (simp <;> omega)
    case h2 => rw [mod_toNat _ (by omega)]; (simp <;> omega)
    case h3 => rw [mod_toNat _ (by omega)]; (simp <;> omega)
  go_wp2_with fail
  go_ret
  exact ⟨rfl, by (repeat' (first | (with_reducible assumption) | (with_reducible exact Below.refl _ _) | (with_reducible refine below_drewN ?_ _) | (with_reducible refine Below.drew ?_) | ((with_reducible refine below_alloc' ?_ ?_ _); rotate_left; (first | exact Nat.le_refl _ | assumption | omega)) | ((with_reducible refine Below.alloc ?_ ?_ _); rotate_left; (first | omega | (simp <;> omega))) | ((with_reducible refine Below.setCell ?_ ?_ _); rotate_left; (first | omega | (simp <;> omega)))))⟩
def val4 (a b c d : UInt8) : Nat := a.toNat * 16777216 + b.toNat * 65536 + c.toNat * 256 + d.toNat
theorem val4_lt (a b c d : UInt8) : val4 a b c d < 4294967296 := by
  have := u8_lt a; have := u8_lt b; have := u8_lt c; have := u8_lt d
  unfold val4; omega
theorem val4_be4 (n : Nat) (h : n < 4294967296) : val4 (UInt8.ofNat (n / 16777216 % 256)) (UInt8.ofNat (n / 65536 % 256)) (UInt8.ofNat (n / 256 % 256)) (UInt8.ofNat (n % 256)) = n := by
  unfold val4
  rw [mod_toNat _ (by omega), mod_toNat _ (by omega), mod_toNat _ (by omega), mod_toNat _ (by omega)]
  omega
theorem or4 (a b c d : Nat) (ha : a < 256) (hb : b < 256) (hc : c < 256) (hd : d < 256) :
    bits .or .u32 (bits .or .u32 (bits .or .u32 ((a : Int) % 4294967296 * 16777216 % 4294967296) ((b : Int) % 4294967296 * 65536 % 4294967296)) ((c : Int) % 4294967296 * 256 % 4294967296)) ((d : Int) % 4294967296) = ((a * 16777216 + b * 65536 + c * 256 + d : Nat) : Int) := by
  rw [show (a : Int) % 4294967296 * 16777216 % 4294967296 = ((a * 16777216 : Nat) : Int) by omega, show (b : Int) % 4294967296 * 65536 % 4294967296 = ((b * 65536 : Nat) : Int) by omega,
    show (c : Int) % 4294967296 * 256 % 4294967296 = ((c * 256 : Nat) : Int) by omega, show (d : Int) % 4294967296 = ((d : Nat) : Int) by omega]
  rw [u32_or_nat _ _ (by omega) (by omega), nat_join 24 (a * 16777216) (b * 65536) (by omega) (by omega), u32_or_nat _ _ (by omega) (by omega), nat_join 16 (a * 16777216 + b * 65536) (c * 256) (by omega) (by omega), u32_or_nat _ _ (by omega) (by omega), nat_join 8 (a * 16777216 + b * 65536 + c * 256) d (by omega) (by omega)]
set_option maxRecDepth 100000 in
set_option maxHeartbeats 1000000 in
theorem value_any (w : World) (a b c d : UInt8) :
    Calls Tryz.prog 173 #[.string ⟨#[a, b, c, d]⟩] w fun e w' => e = .returned (.int .u32 (val4 a b c d : Int)) ∧ ∃ m, w' = w.drewN m := by
  go_enter Tryz.func173, Tryz.ntmps173
  go_wp2_with fail
  go_quiet (fail)
  go_wp2_with fail
  go_ret
  refine ⟨ret_int ?_, _, rfl⟩
  exact or4 a.toNat b.toNat c.toNat d.toNat (u8_lt a) (u8_lt b) (u8_lt c) (u8_lt d)
end Go.Proofs.YtekioplbfoonkaaGreatDoor
