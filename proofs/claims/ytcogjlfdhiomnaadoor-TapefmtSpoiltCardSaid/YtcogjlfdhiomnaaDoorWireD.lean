/- Contracts of the decoder. -/
import Derived.Test.YtcogjlfdhiomnaaDoorWireS
namespace Go.Proofs.YtcogjlfdhiomnaaDoor
open Go.RowKit
set_option linter.unusedVariables false
set_option maxRecDepth 100000

/-- block d is a decoder: of the text s it stands at place p; its error is r. -/
def IsD (w : World) (d : Nat) (s : ByteArray) (p r : Int) : Prop := Blk w d 134 [.string s, .int .i64 p, .int .i64 r]

def At (d k : Nat) : Prop := k = d
theorem Mod.at_ {d : Nat} {a b : World} (h : Mod (At d) a b) (i : Nat) (u : Value) : Mod (At d) a (b.setCell ⟨d, i, none⟩ u) := Mod.setCell (S := At d) (p := ⟨d, i, none⟩) h (fun _ => rfl) u
theorem from_any (w : World) (s : ByteArray) :
    Calls Tryd.prog 81 #[.string s] w fun e w' => e = .returned (.pointer (some ⟨w.heap.size, 0, none⟩)) ∧ IsD w' w.heap.size s 0 0 ∧ Below w.heap.size w w' ∧ w'.heap.size = w.heap.size + 1 := by
  go_enter Tryd.func81, Tryd.ntmps81
  go_wp2
  go_ret
  exact ⟨rfl, Blk.new w _ _, by (repeat' (first | (with_reducible assumption) | (with_reducible exact Below.refl _ _) | (with_reducible refine below_drewN ?_ _) | (with_reducible refine Below.drew ?_) | ((with_reducible refine below_alloc' ?_ ?_ _); rotate_left; (first | exact Nat.le_refl _ | assumption | omega)) | ((with_reducible refine Below.alloc ?_ ?_ _); rotate_left; (first | omega | (simp <;> omega))) | ((with_reducible refine Below.setCell ?_ ?_ _); rotate_left; (first | omega | (simp <;> omega))))), by simp⟩
/-- Fail where there is no error yet. -/
theorem fail_first (w : World) (d : Nat) (s : ByteArray) (p r : Int) (h : IsD w d s p 0) :
    Calls Tryd.prog 85 #[.pointer (some ⟨d, 0, none⟩), .int .i64 r] w fun e w' => e = .returned (.tuple #[]) ∧ IsD w' d s p r ∧ Mod (At d) w w' := by
  have c := h.cell 2 rfl
  have f := h.frozen 2
  have H := hid h
  clear h
  go_enter Tryd.func85, Tryd.ntmps85
  go_wp2
  go_returns
  exact ⟨rfl, H.out.set' 2 _ rfl, (Mod.refl _ _).at_ _ _⟩
theorem next_end (w : World) (d : Nat) (s : ByteArray) (p : Int) (h : IsD w d s p 0) (hp : (s.size : Int) ≤ p) :
    Calls Tryd.prog 91 #[.pointer (some ⟨d, 0, none⟩)] w fun e w' => e = .returned (.tuple #[.int .u8 0, .bool false]) ∧ IsD w' d s p 2 ∧ Mod (At d) w w' := by
  have c0 := h.cell 0 rfl
  have c1 := h.cell 1 rfl
  have c2 := h.cell 2 rfl
  have f := h.frozen 2
  have H := hid h
  clear h
  go_enter Tryd.func91, Tryd.ntmps91
  go_wp2_with fail
  go_quiet (fail)
  go_wp2_with fail
  refine bodyPost_ret (v := .tuple #[.int .u8 0, .bool false]) (by simp [results, Tryd.results91, go_sem]) rfl ⟨rfl, H.out.set' 2 _ rfl, ((Mod.refl _ _).drewN _).at_ _ _⟩
theorem next_err (w : World) (d : Nat) (s : ByteArray) (p r : Int) (h : IsD w d s p r) (hr : r ≠ 0) :
    Calls Tryd.prog 91 #[.pointer (some ⟨d, 0, none⟩)] w (Ret (.tuple #[.int .u8 0, .bool false]) w) := by
  have c0 := h.cell 0 rfl
  have c1 := h.cell 1 rfl
  have c2 := h.cell 2 rfl
  have hr' : (r == 0) = false := by simp [hr]
  clear h
  go_enter Tryd.func91, Tryd.ntmps91
  go_wp2_with fail
  go_quiet (fail)
  go_wp2_with fail
  refine bodyPost_ret (v := .tuple #[.int .u8 0, .bool false]) (by simp [results, Tryd.results91, go_sem]) rfl ⟨rfl, _, rfl⟩
theorem next_some (w : World) (d : Nat) (s : ByteArray) (p : Nat) (h : IsD w d s p 0) (hp : p < s.size) (hs : s.size ≤ 9223372036854775807) :
    Calls Tryd.prog 91 #[.pointer (some ⟨d, 0, none⟩)] w fun e w' => e = .returned (.tuple #[.int .u8 (s[p].toNat : Int), .bool true]) ∧ IsD w' d s ((p + 1 : Nat) : Int) 0 ∧ Mod (At d) w w' := by
  have c0 := h.cell 0 rfl
  have c1 := h.cell 1 rfl
  have c2 := h.cell 2 rfl
  have f := h.frozen 1
  have H := hid h
  clear h
  have hp' : (p : Int) < (s.size : Int) := by omega
  go_enter Tryd.func91, Tryd.ntmps91
  go_wp2_with fail
  go_quiet (fail)
  go_wp2_with fail
  clear c0 c1 c2 f
  refine wp_gen (fun w1 => IsD w1 d s ((p : Int) + 1) 0 ∧ Mod (At d) w w1) ⟨H.out.set' 1 _ rfl, ((Mod.refl _ _).drewN _).at_ _ _⟩ ?_
  rintro w1 ⟨D1, M1⟩
  have c0 := D1.cell 0 rfl
  have c1 := D1.cell 1 rfl
  have e0 : ((p : Int) + 1 - 1) = p := by omega
  have hi0 : (0 : Int) ≤ (p : Int) := by omega
  go_quiet (fail)
  go_wp2_with fail
  refine bodyPost_ret (v := .tuple #[.int .u8 (s[p].toNat : Int), .bool true]) (by simp [results, Tryd.results91, go_sem]) rfl ⟨rfl, ?_, M1.drewN _⟩
  have e1 : ((p + 1 : Nat) : Int) = (p : Int) + 1 := by omega
  rw [e1]; exact D1
end Go.Proofs.YtcogjlfdhiomnaaDoor
