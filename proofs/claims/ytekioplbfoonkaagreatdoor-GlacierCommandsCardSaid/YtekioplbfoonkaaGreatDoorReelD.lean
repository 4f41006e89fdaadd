/- Volumes: Skip, Trim, Erase. -/
import Derived.Test.YtekioplbfoonkaaGreatDoorReelC
namespace Go.Proofs.YtekioplbfoonkaaGreatDoor
open Go.RowKit
set_option linter.unusedVariables false
set_option maxRecDepth 100000
set_option maxHeartbeats 2000000
section
variable {w0 w : World} {I : Part} {L : List HP} {p : Nat} {v : Vst}
theorem vcut_at {N : Int} (n : Nat) (hN : N = (n : Int)) (hv : v.ok) (hn : n ≤ v.bl.length) (H : Sat w0 I (volp p v :: L) w) :
    Calls Tryz.prog 100 #[.pointer (some ⟨p, 0, none⟩), .int .i64 N] w fun e w' => e = .returned (.tuple #[]) ∧ Sat w0 I (volp p (cutV v n) :: L) w' := hN ▸ vcut n hv hn H
def findMark (l : List Bk) (i : Nat) : Option Nat := ((l.drop i).findIdx? (·.mark)).map (· + i)
theorem findMark_none (l : List Bk) (i : Nat) (h : l.length ≤ i) : findMark l i = none := by
  unfold findMark; rw [List.drop_eq_nil_of_le h]; rfl
theorem findMark_at (l : List Bk) (i : Nat) (h : i < l.length) : findMark l i = if l[i].mark = true then some i else findMark l (i + 1) := by
  unfold findMark
  rw [List.drop_eq_getElem_cons h, List.findIdx?_cons]
  split
  · simp
  · rw [Option.map_map]; congr 1; funext x; simp only [Function.comp]; omega
theorem findMark_lt (l : List Bk) (i j : Nat) (h : findMark l i = some j) : j < l.length := by
  unfold findMark at h
  rw [Option.map_eq_some_iff] at h
  obtain ⟨k, hk, rfl⟩ := h
  have := (List.findIdx?_eq_some_iff_getElem.1 hk).1
  rw [List.length_drop] at this; omega
def trimS (v : Vst) : Int × Vst :=
  if tryE v.lost v.armed = 0 then
    if tornL v.bl = true then
      if v.prot = true then (15, tryV v) else (0, cutV (tryV v) (v.bl.length - 1))
    else (5, tryV v)
  else (tryE v.lost v.armed, tryV v)
theorem tornL_pos (l : List Bk) (h : tornL l = true) : 0 < l.length := by
  cases l with
  | nil => cases h
  | cons b l => simp
theorem vtrim (hv : v.ok) {E : Int} {V : Vst} (hA : trimS v = (E, V)) (H : Sat w0 I (volp p v :: L) w) :
    Calls Tryz.prog 47 #[.pointer (some ⟨p, 0, none⟩)] w fun e w' => e = .returned (.int .i64 E) ∧ Sat w0 I (volp p V :: L) w' := by
  have HS := hid H
  clear H
  unfold trimS at hA
  have hlen := hv.len
  generalize hE : tryE v.lost v.armed = e0 at hA
  by_cases z1 : e0 = 0
  · rw [if_pos z1] at hA
    subst z1
    have HE := hid hE; clear hE
    cases ht : tornL v.bl
    · rw [if_neg (by rw [ht]; decide)] at hA
      cases hA
      have HT := hid ht; clear ht
      go_enter Tryz.func47, Tryz.ntmps47
      go_wp2_with fail
      refine (vtry hv HS.out).mono ?_; rintro e w1 ⟨rfl, H1⟩
      rw [HE.out]
      have HS1 := hid H1
      clear H1
      go_wp2_with fail
      refine (vtorn_eq (v := tryV v) HT.out HS1.out).mono ?_; rintro e w2 ⟨rfl, m, rfl⟩
      go_wp2_with fail
      go_ret
      exact ⟨rfl, HS1.out.drewN _⟩
    · rw [if_pos ht] at hA
      have hpos := tornL_pos _ ht
      have HT := hid ht; clear ht
      cases hpr : v.prot
      · rw [if_neg (by rw [hpr]; decide)] at hA
        cases hA
        go_enter Tryz.func47, Tryz.ntmps47
        go_wp2_with fail
        refine (vtry hv HS.out).mono ?_; rintro e w1 ⟨rfl, H1⟩
        rw [HE.out]
        obtain ⟨ad, cap, k1, k2, H2⟩ := H1.volOpen
        have c5 : w1.cell? ⟨p, 5, none⟩ = some (.slice ad v.bl.length cap) := H2.isBlk.cell 5 rfl
        have c9 : w1.cell? ⟨p, 9, none⟩ = some (.bool v.prot) := H2.isBlk.cell 9 rfl
        rw [hpr] at c9
        have HS1 := hid H1
        have HP := hid hpr
        clear H1 H2 k1 hpr
        go_wp2_with fail
        refine (vtorn_eq (v := tryV v) HT.out HS1.out).mono ?_; rintro e w2 ⟨rfl, m, rfl⟩
        go_wp2_with fail
        refine (vcut_at (v := tryV v) (v.bl.length - 1) (by omega) (tryV_ok hv) (by show _ ≤ v.bl.length; omega) (HS1.out.drewN _)).mono ?_; rintro e w3 ⟨rfl, S3⟩
        have HS3 := hid S3
        clear S3
        go_wp2_with fail
        go_ret
        exact ⟨rfl, HS3.out⟩
      · rw [if_pos hpr] at hA
        cases hA
        go_enter Tryz.func47, Tryz.ntmps47
        go_wp2_with fail
        refine (vtry hv HS.out).mono ?_; rintro e w1 ⟨rfl, H1⟩
        rw [HE.out]
        obtain ⟨ad, cap, k1, k2, H2⟩ := H1.volOpen
        have c9 : w1.cell? ⟨p, 9, none⟩ = some (.bool v.prot) := H2.isBlk.cell 9 rfl
        rw [hpr] at c9
        have HS1 := hid H1
        have HP := hid hpr
        clear H1 H2 k1 hpr
        go_wp2_with fail
        refine (vtorn_eq (v := tryV v) HT.out HS1.out).mono ?_; rintro e w2 ⟨rfl, m, rfl⟩
        go_wp2_with fail
        go_ret
        exact ⟨rfl, HS1.out.drewN _⟩
  · rw [if_neg z1] at hA
    cases hA
    have HE := hid hE; clear hE
    go_enter Tryz.func47, Tryz.ntmps47
    have z1' : (E == 0) = false := by simpa using z1
    go_wp2_with fail
    refine (vtry hv HS.out).mono ?_; rintro e w1 ⟨rfl, H1⟩
    rw [HE.out]
    have HS1 := hid H1
    clear H1 z1
    go_wp2_with fail
    go_ret
    exact ⟨rfl, HS1.out⟩
end
end Go.Proofs.YtekioplbfoonkaaGreatDoor
