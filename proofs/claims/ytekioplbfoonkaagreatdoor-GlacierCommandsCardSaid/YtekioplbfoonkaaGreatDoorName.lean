/- chunk.Name of one. -/
import Derived.Test.YtekioplbfoonkaaGreatDoorMg1
namespace Go.Proofs.YtekioplbfoonkaaGreatDoor
open Go.RowKit
set_option linter.unusedVariables false
set_option maxRecDepth 100000
set_option maxHeartbeats 1000000
theorem itoa1 (w : World) : Calls Tryz.prog 87 #[.int .i64 1] w (Ret (.string ⟨#[49]⟩) w) := by
  go_enter Tryz.func87, Tryz.ntmps87
  go_wp2
  go_ret
  exact ⟨rfl, 0, rfl⟩
theorem hasPre (w : World) (s : ByteArray) (h1 : 1 ≤ s.size) (h2 : s.size ≤ 9223372036854775807) {B : Bool} (hB : ((s.extract 0 1).toList == [48]) = B) : Calls Tryz.prog 137 #[.string s, .string ⟨#[48]⟩] w (Ret (.bool B) w) := by
  have h3 : (1 : Int) ≤ (s.size : Int) := by omega
  cases B
  · go_enter Tryz.func137, Tryz.ntmps137
    go_wp2
    go_ret
    exact ⟨rfl, 0, rfl⟩
  · go_enter Tryz.func137, Tryz.ntmps137
    go_wp2
    go_ret
    exact ⟨rfl, 0, rfl⟩
theorem repeat6 (w : World) : Calls Tryz.prog 88 #[.string ⟨#[48]⟩, .int .i64 6] w (Ret (.string ⟨#[48, 48, 48, 48, 48, 48]⟩) w) := by
  have h32 : ((((⟨#[48]⟩ : ByteArray)[0].toNat : Nat) : Int) == 32) = false := by decide
  have h45 : ((((⟨#[48]⟩ : ByteArray)[0].toNat : Nat) : Int) == 45) = false := by decide
  have h48 : ((((⟨#[48]⟩ : ByteArray)[0].toNat : Nat) : Int) == 48) = true := by decide
  go_enter Tryz.func88, Tryz.ntmps88
  go_wp2_with (first
    | (go_at_call 137; refine (hasPre _ _ (by decide) (by decide) (B := false) (by decide +kernel)).mono ?_; rintro e w1 ⟨rfl, n, rfl⟩)
    | (go_at_call 137; refine (hasPre _ _ (by decide) (by decide) (B := true) (by decide +kernel)).mono ?_; rintro e w1 ⟨rfl, n, rfl⟩)
    | go_in)
  go_ret
  exact ⟨rfl, by exact ⟨_, rfl⟩⟩
theorem name1 (w : World) : Calls Tryz.prog 38 #[.int .i64 1] w (Ret (.string ⟨#[115, 101, 103, 45, 48, 48, 48, 48, 48, 48, 49]⟩) w) := by
  go_enter Tryz.func38, Tryz.ntmps38
  go_wp2_with (first
    | (go_at_call 87; refine (itoa1 _).mono ?_; rintro e w1 ⟨rfl, n, rfl⟩)
    | (go_at_call 88; refine (repeat6 _).mono ?_; rintro e w1 ⟨rfl, n, rfl⟩))
  go_ret
  exact ⟨rfl, by exact ⟨_, rfl⟩⟩
end Go.Proofs.YtekioplbfoonkaaGreatDoor
