/- Layer 7: Label and Parts as calls that only read; Mend. -/
import Derived.Test.YtcogjlfdhiomnaaDoorTpA
namespace Go.Proofs.YtcogjlfdhiomnaaDoor
open Go.RowKit
set_option linter.unusedVariables false
set_option maxRecDepth 100000
set_option maxHeartbeats 1000000
section
variable {w0 w : World} {I : Part} {L : List HP} {p : Nat} {v : Vst}
theorem vlabel_q {lab : ByteArray} (hl : v.label = lab) (H : Sat w0 I (volp p v :: L) w) :
    Calls Tryd.prog 34 #[.pointer (some ⟨p, 0, none⟩)] w (Ret (.string lab) w) := by
  subst hl
  obtain ⟨ad, cap, k1, k2, H1⟩ := H.volOpen
  have c := H1.isBlk.cell 4 rfl
  clear H H1
  go_enter Tryd.func34, Tryd.ntmps34
  go_wp2
  go_ret
  exact ⟨rfl, 0, rfl⟩
theorem parts_q (w : World) (n : Nat) (hn : n ≤ 1000000) {N : Int} (hN : (nparts n : Int) = N) :
    Calls Tryd.prog 18 #[.int .i64 (n : Int)] w (Ret (.int .i64 N) w) := by
  have hm : max (n : Int) 1 = ((max n 1 : Nat) : Int) := by omega
  have HM := hid hm
  have h1 : 1 ≤ max n 1 := by omega
  have h2 : max n 1 ≤ 1000000 := by omega
  have hq := nparts_eq n
  generalize max n 1 = m at *
  have e1 : ((m : Int) - 1) = ((m - 1 : Nat) : Int) := by omega
  have e2 : (((m - 1) / 200 : Nat) : Int) + 1 = N := by omega
  have HN := hid e2
  have hsm : (m - 1) / 200 ≤ 1000000 := by omega
  clear hm hq hN e2
  go_enter Tryd.func18, Tryd.ntmps18
  go_wp2_with (refine wpList_max (o := ⟨some 4, _, _, _, _, _⟩) rfl rfl rfl rfl HM.out ?_)
  go_ret
  refine ⟨ret_int ?_, 0, rfl⟩
  have := HN.out
  omega
theorem trimS_ok (h : v.ok) : (trimS v).2.ok := by
  unfold trimS
  split
  · split
    · split
      · exact tryV_ok h
      · exact cutV_ok (tryV_ok h) _ (by show v.bl.length - 1 ≤ v.bl.length; omega)
    · exact tryV_ok h
  · exact tryV_ok h
def mendS (v : Vst) : Int × Vst := if (trimS v).1 = 0 ∨ (trimS v).1 = 5 then seekS (trimS v).2 (trimS v).2.bl.length else trimS v
theorem mend_sat (hv : v.ok) {E : Int} {V : Vst} (hA : mendS v = (E, V)) (H : Sat w0 I (volp p v :: L) w) :
    Calls Tryd.prog 27 #[.pointer (some ⟨p, 0, none⟩)] w fun e w' => e = .returned (.int .i64 E) ∧ Sat w0 I (volp p V :: L) w' := by
  have HS := hid H
  have hok := trimS_ok hv
  unfold mendS at hA
  obtain ⟨⟨e1, v1⟩, ht⟩ : ∃ x, trimS v = x := ⟨_, rfl⟩
  rw [ht] at hA hok
  simp only at hA hok
  have HT := hid ht
  have HOK := hid hok
  clear H ht hok
  by_cases z : e1 = 0 ∨ e1 = 5
  · rw [if_pos z] at hA
    have HA := hid hA
    clear hA
    rcases z with rfl | rfl
    all_goals
      go_enter Tryd.func27, Tryd.ntmps27
      go_wp2_with fail
      refine (vtrim hv HT.out HS.out).mono ?_; rintro e w1 ⟨rfl, S1⟩
      have H1 := hid S1
      clear S1 HS
      go_wp2_with fail
      refine (vlen H1.out).mono ?_; rintro e w2 ⟨rfl, S2⟩
      have H2 := hid S2
      clear S2 H1
      go_wp2_with fail
      refine (vseek v1.bl.length HOK.out HA.out H2.out).mono ?_; rintro e w3 ⟨rfl, S3⟩
      have H3 := hid S3
      clear S3 H2
      go_wp2_with fail
      go_ret
      exact ⟨rfl, H3.out⟩
  · rw [if_neg z] at hA
    have z0 : ¬ e1 = 0 := fun e => z (Or.inl e)
    have z5 : ¬ e1 = 5 := fun e => z (Or.inr e)
    have z0' : (e1 != 0) = true := by simpa using z0
    have z5' : (e1 != 5) = true := by simpa using z5
    clear z
    cases hA
    go_enter Tryd.func27, Tryd.ntmps27
    go_wp2_with fail
    refine (vtrim hv HT.out HS.out).mono ?_; rintro e w1 ⟨rfl, S1⟩
    have H1 := hid S1
    clear S1 HS
    go_wp2_with fail
    go_ret
    exact ⟨rfl, H1.out⟩
end
end Go.Proofs.YtcogjlfdhiomnaaDoor
