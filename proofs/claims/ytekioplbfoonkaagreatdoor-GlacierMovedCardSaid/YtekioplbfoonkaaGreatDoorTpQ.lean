/- Layer 7: Label and Parts as calls that only read; Mend. -/
import Derived.Test.YtekioplbfoonkaaGreatDoorTpA
namespace Go.Proofs.YtekioplbfoonkaaGreatDoor
open Go.RowKit
set_option linter.unusedVariables false
set_option maxRecDepth 100000
set_option maxHeartbeats 1000000
section
variable {w0 w : World} {I : Part} {L : List HP} {p : Nat} {v : Vst}
theorem vlabel_q {lab : ByteArray} (hl : v.label = lab) (H : Sat w0 I (volp p v :: L) w) :
    Calls Tryz.prog 94 #[.pointer (some ⟨p, 0, none⟩)] w (Ret (.string lab) w) := by
  subst hl
  obtain ⟨ad, cap, k1, k2, H1⟩ := H.volOpen
  have c := H1.isBlk.cell 4 rfl
  clear H H1
  go_enter Tryz.func94, Tryz.ntmps94
  go_wp2
  go_ret
  exact ⟨rfl, 0, rfl⟩
theorem parts_q (w : World) (n : Nat) (hn : n ≤ 1000000) {N : Int} (hN : (nparts n : Int) = N) :
    Calls Tryz.prog 37 #[.int .i64 (n : Int)] w (Ret (.int .i64 N) w) := by
  have hm : max (n : Int) 1 = ((max n 1 : Nat) : Int) := by omega
  have HM := hid hm
  have h1 : 1 ≤ max n 1 := by omega
  have h2 : max n 1 ≤ 1000000 := by omega
  have hq := nparts_eq n
  generalize max n 1 = m at *
  have e1 : ((m : Int) - 1) = ((m - 1 : Nat) : Int) := by omega
  have e2 : (((m - 1) / 200 : Nat) : Int) + 1 = N := by omega
  have HN := hid e2
  have hsm : (m - 1) / 200 ≤ 1000000 := by omega
  clear hm hq hN e2
  go_enter Tryz.func37, Tryz.ntmps37
  go_wp2_with (refine wpList_max (o := ⟨some 4, _, _, _, _, _⟩) rfl rfl rfl rfl HM.out ?_)
  go_ret
  refine ⟨ret_int ?_, 0, rfl⟩
  have := HN.out
  omega
theorem trimS_ok (h : v.ok) : (trimS v).2.ok := by
  unfold trimS
  split
  · split
    · split
      · exact tryV_ok h
      · exact cutV_ok (tryV_ok h) _ (by show v.bl.length - 1 ≤ v.bl.length; omega)
    · exact tryV_ok h
  · exact tryV_ok h
def mendS (v : Vst) : Int × Vst := if (trimS v).1 = 0 ∨ (trimS v).1 = 5 then seekS (trimS v).2 (trimS v).2.bl.length else trimS v
end
end Go.Proofs.YtekioplbfoonkaaGreatDoor
