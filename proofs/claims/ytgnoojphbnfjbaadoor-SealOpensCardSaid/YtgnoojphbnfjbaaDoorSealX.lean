/- law02.Same. -/
import Derived.Test.YtgnoojphbnfjbaaDoorSealV
namespace Go.Proofs.YtgnoojphbnfjbaaDoor
open Go.RowKit
set_option linter.unusedVariables false
set_option maxRecDepth 100000 in
set_option maxHeartbeats 1000000 in
theorem same_sat {w0 w : World} {I : Part} {L : List HP} (la lb : Option Addr) (n ca cb : Nat) (G : List (List UInt8)) (hn : G.length = n) (hca : n ≤ ca) (hcam : ca ≤ 9223372036854775807) (hcb : n ≤ cb) (hcbm : cb ≤ 9223372036854775807) (ha : Rd I la (G.map lv)) (hb : Rd I lb (G.map lv)) (H : Sat w0 I L w) :
    Calls Tryd.prog 19 #[.slice la n ca, .slice lb n cb] w fun e w' => e = .returned (.int .i64 0) ∧ Sat w0 I L w' := by
  have H0 := hid H
  have HA := hid ha
  have HB := hid hb
  have HN := hid hn
  clear H ha hb hn
  go_enter Tryd.func19, Tryd.ntmps19
  go_wp2_with fail
  go_loopw [5, 13] (fun _ i wr => ∃ k : Nat, k ≤ n ∧ i = .int .i64 (k : Int) ∧ Sat w0 I L wr) (fun _ i _ => n - (intOf i).toNat)
  case atStart => exact ⟨0, Nat.zero_le _, rfl, H0.out⟩
  case round =>
    clear H0
    obtain ⟨k, hk, rfl, S1⟩ := hrel
    have H1 := hid S1
    clear S1
    by_cases hlt : k < n
    · have hkl : k < G.length := by have := HN.out; omega
      obtain ⟨b1, o1, rfl, c1⟩ := HA.out.get H1.out k (u := lv G[k]) (by simp [hkl])
      obtain ⟨b2, o2, rfl, c2⟩ := HB.out.get H1.out k (u := lv G[k]) (by simp [hkl])
      unfold lv at c1 c2
      generalize (⟨(G[k]).toArray⟩ : ByteArray) = t at c1 c2
      have hk1 : (k : Int) < (n : Int) := by omega
      have hk0 : (0 : Int) ≤ (k : Int) := by omega
      go_wp2_with fail
      go_quiet (fail)
      go_wp2_with fail
      go_roundw
      case rel => exact ⟨k + 1, by omega, by go_num, H1.out.drewN _⟩
      case measure => (simp [intOf] <;> omega)
    · obtain rfl : k = n := by omega
      go_wp2_with fail
      go_ret
      exact ⟨rfl, H1.out⟩
end Go.Proofs.YtgnoojphbnfjbaaDoor
