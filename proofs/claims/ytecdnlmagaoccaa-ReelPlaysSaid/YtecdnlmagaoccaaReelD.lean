/- Volumes: Skip, Trim, Erase. -/
import Derived.Test.YtecdnlmagaoccaaReelC
namespace Go.Proofs.Ytecdnlmagaoccaa
open Go.RowKit
set_option linter.unusedVariables false
set_option maxHeartbeats 2000000
section
variable {w0 w : World} {I : Part} {L : List HP} {p : Nat} {v : Vst}
theorem vcut_at {N : Int} (n : Nat) (hN : N = (n : Int)) (hv : v.ok) (hn : n ≤ v.bl.length) (H : Sat w0 I (volp p v :: L) w) :
    Calls Try.prog 35 #[.pointer (some ⟨p, 0, none⟩), .int .i64 N] w fun e w' => e = .returned (.tuple #[]) ∧ Sat w0 I (volp p (cutV v n) :: L) w' := hN ▸ vcut n hv hn H
def findMark (l : List Bk) (i : Nat) : Option Nat := ((l.drop i).findIdx? (·.mark)).map (· + i)
theorem findMark_none (l : List Bk) (i : Nat) (h : l.length ≤ i) : findMark l i = none := by
  unfold findMark; rw [List.drop_eq_nil_of_le h]; rfl
theorem findMark_at (l : List Bk) (i : Nat) (h : i < l.length) : findMark l i = if l[i].mark = true then some i else findMark l (i + 1) := by
  unfold findMark
  rw [List.drop_eq_getElem_cons h, List.findIdx?_cons]
  split
  · simp
  · rw [Option.map_map]; congr 1; funext x; simp only [Function.comp]; omega
theorem findMark_lt (l : List Bk) (i j : Nat) (h : findMark l i = some j) : j < l.length := by
  unfold findMark at h
  rw [Option.map_eq_some_iff] at h
  obtain ⟨k, hk, rfl⟩ := h
  have := (List.findIdx?_eq_some_iff_getElem.1 hk).1
  rw [List.length_drop] at this; omega
def skipS (v : Vst) : Int × Vst :=
  if tryE v.lost v.armed = 0 then
    match findMark v.bl v.at_ with
    | some j => (0, {tryV v with at_ := j + 1})
    | none => (2, tryV v)
  else (tryE v.lost v.armed, tryV v)
theorem vskip (hv : v.ok) {E : Int} {V : Vst} (hA : skipS v = (E, V)) (H : Sat w0 I (volp p v :: L) w) :
    Calls Try.prog 22 #[.pointer (some ⟨p, 0, none⟩)] w fun e w' => e = .returned (.int .i64 E) ∧ Sat w0 I (volp p V :: L) w' := by
  have HS := hid H
  clear H
  unfold skipS at hA
  have hat := hv.at_
  have hlen := hv.len
  generalize hE : tryE v.lost v.armed = e0 at hA
  by_cases z1 : e0 = 0
  · rw [if_pos z1] at hA
    subst z1
    have HE := hid hE; clear hE
    have HA := hid hA; clear hA
    go_enter Try.func22, Try.ntmps22
    go_wp2_with fail
    refine (vtry hv HS.out).mono ?_; rintro e w1 ⟨rfl, H1⟩
    rw [HE.out]
    obtain ⟨ad, cap, k1, k2, H2⟩ := H1.volOpen
    have c5 : w1.cell? ⟨p, 5, none⟩ = some (.slice ad v.bl.length cap) := H2.isBlk.cell 5 rfl
    have c7 : w1.cell? ⟨p, 7, none⟩ = some (.int .i64 v.at_) := H2.isBlk.cell 7 rfl
    have f7 := H2.isBlk.frozen 7
    have H1 := hid H1
    have HS2 := hid H2
    clear H2 k1
    go_wp2_with fail
    go_loop [4] (fun i => ∃ k : Nat, v.at_ ≤ k ∧ k ≤ v.bl.length ∧ i = .int .i64 k ∧ findMark v.bl k = findMark v.bl v.at_) (fun i => v.bl.length - (intOf i).toNat)
    case atStart => exact ⟨v.at_, Nat.le_refl _, hat, rfl, rfl⟩
    case round =>
      obtain ⟨k, h1, h2, rfl, h3⟩ := hrel
      by_cases hlt : k < v.bl.length
      · rw [findMark_at _ _ hlt] at h3
        obtain ⟨g, rfl, e1, e2, e3⟩ := row_elem (i := k) (b := default) (l := v.bl) HS2.out.swap hlt
        have hk1 : (k : Int) < (v.bl.length : Int) := by omega
        have hk0 : (0 : Int) ≤ (k : Int) := by omega
        cases hm : v.bl[k].mark
        · rw [if_neg (by rw [hm]; decide)] at h3
          rw [hm] at e2
          have H3 := hid h3
          clear h3 e1 e3 hm
          go_wp2_with fail
          go_round
          case rel => exact ⟨k + 1, by omega, by omega, by go_num, H3.out⟩
          case measure => simp [intOf]; omega
        · rw [if_pos hm] at h3
          rw [hm] at e2
          have H3 := hid h3
          clear h3 e1 e3 hm
          go_wp2_with fail
          go_ret
          have hA := HA.out
          rw [← H3.out] at hA
          cases hA
          exact ⟨rfl, Sat.volClose (v := {tryV v with at_ := k + 1}) (HS2.out.set 7 _ rfl)⟩
      · obtain rfl : k = v.bl.length := by omega
        rw [findMark_none _ _ (Nat.le_refl _)] at h3
        have H3 := hid h3
        clear h3
        go_wp2_with fail
        go_ret
        have hA := HA.out
        rw [← H3.out] at hA
        cases hA
        exact ⟨rfl, H1.out⟩
  · rw [if_neg z1] at hA
    cases hA
    have HE := hid hE; clear hE
    go_enter Try.func22, Try.ntmps22
    have z1' : (E == 0) = false := by simpa using z1
    go_wp2_with fail
    refine (vtry hv HS.out).mono ?_; rintro e w1 ⟨rfl, H1⟩
    rw [HE.out]
    have HS1 := hid H1
    clear H1 z1
    go_wp2_with fail
    go_ret
    exact ⟨rfl, HS1.out⟩
def trimS (v : Vst) : Int × Vst :=
  if tryE v.lost v.armed = 0 then
    if tornL v.bl = true then
      if v.prot = true then (15, tryV v) else (0, cutV (tryV v) (v.bl.length - 1))
    else (5, tryV v)
  else (tryE v.lost v.armed, tryV v)
theorem tornL_pos (l : List Bk) (h : tornL l = true) : 0 < l.length := by
  cases l with
  | nil => cases h
  | cons b l => simp
theorem vtrim (hv : v.ok) {E : Int} {V : Vst} (hA : trimS v = (E, V)) (H : Sat w0 I (volp p v :: L) w) :
    Calls Try.prog 19 #[.pointer (some ⟨p, 0, none⟩)] w fun e w' => e = .returned (.int .i64 E) ∧ Sat w0 I (volp p V :: L) w' := by
  have HS := hid H
  clear H
  unfold trimS at hA
  have hlen := hv.len
  generalize hE : tryE v.lost v.armed = e0 at hA
  by_cases z1 : e0 = 0
  · rw [if_pos z1] at hA
    subst z1
    have HE := hid hE; clear hE
    cases ht : tornL v.bl
    · rw [if_neg (by rw [ht]; decide)] at hA
      cases hA
      have HT := hid ht; clear ht
      go_enter Try.func19, Try.ntmps19
      go_wp2_with fail
      refine (vtry hv HS.out).mono ?_; rintro e w1 ⟨rfl, H1⟩
      rw [HE.out]
      have HS1 := hid H1
      clear H1
      go_wp2_with fail
      refine (vtorn_eq (v := tryV v) HT.out HS1.out).mono ?_; rintro e w2 ⟨rfl, m, rfl⟩
      go_wp2_with fail
      go_ret
      exact ⟨rfl, HS1.out.drewN _⟩
    · rw [if_pos ht] at hA
      have hpos := tornL_pos _ ht
      have HT := hid ht; clear ht
      cases hpr : v.prot
      · rw [if_neg (by rw [hpr]; decide)] at hA
        cases hA
        go_enter Try.func19, Try.ntmps19
        go_wp2_with fail
        refine (vtry hv HS.out).mono ?_; rintro e w1 ⟨rfl, H1⟩
        rw [HE.out]
        obtain ⟨ad, cap, k1, k2, H2⟩ := H1.volOpen
        have c5 : w1.cell? ⟨p, 5, none⟩ = some (.slice ad v.bl.length cap) := H2.isBlk.cell 5 rfl
        have c9 : w1.cell? ⟨p, 9, none⟩ = some (.bool v.prot) := H2.isBlk.cell 9 rfl
        rw [hpr] at c9
        have HS1 := hid H1
        have HP := hid hpr
        clear H1 H2 k1 hpr
        go_wp2_with fail
        refine (vtorn_eq (v := tryV v) HT.out HS1.out).mono ?_; rintro e w2 ⟨rfl, m, rfl⟩
        go_wp2_with fail
        refine (vcut_at (v := tryV v) (v.bl.length - 1) (by omega) (tryV_ok hv) (by show _ ≤ v.bl.length; omega) (HS1.out.drewN _)).mono ?_; rintro e w3 ⟨rfl, S3⟩
        have HS3 := hid S3
        clear S3
        go_wp2_with fail
        go_ret
        exact ⟨rfl, HS3.out⟩
      · rw [if_pos hpr] at hA
        cases hA
        go_enter Try.func19, Try.ntmps19
        go_wp2_with fail
        refine (vtry hv HS.out).mono ?_; rintro e w1 ⟨rfl, H1⟩
        rw [HE.out]
        obtain ⟨ad, cap, k1, k2, H2⟩ := H1.volOpen
        have c9 : w1.cell? ⟨p, 9, none⟩ = some (.bool v.prot) := H2.isBlk.cell 9 rfl
        rw [hpr] at c9
        have HS1 := hid H1
        have HP := hid hpr
        clear H1 H2 k1 hpr
        go_wp2_with fail
        refine (vtorn_eq (v := tryV v) HT.out HS1.out).mono ?_; rintro e w2 ⟨rfl, m, rfl⟩
        go_wp2_with fail
        go_ret
        exact ⟨rfl, HS1.out.drewN _⟩
  · rw [if_neg z1] at hA
    cases hA
    have HE := hid hE; clear hE
    go_enter Try.func19, Try.ntmps19
    have z1' : (E == 0) = false := by simpa using z1
    go_wp2_with fail
    refine (vtry hv HS.out).mono ?_; rintro e w1 ⟨rfl, H1⟩
    rw [HE.out]
    have HS1 := hid H1
    clear H1 z1
    go_wp2_with fail
    go_ret
    exact ⟨rfl, HS1.out⟩
def eraseS (v : Vst) (label : ByteArray) : Int × Vst :=
  if tryE v.lost v.armed = 0 then
    if v.prot = true then (15, tryV v) else (0, {cutV (tryV v) 0 with label := label, erased := v.erased + 1})
  else (tryE v.lost v.armed, tryV v)
theorem verase (label : ByteArray) (hv : v.ok) {E : Int} {V : Vst} (hA : eraseS v label = (E, V)) (H : Sat w0 I (volp p v :: L) w) :
    Calls Try.prog 43 #[.pointer (some ⟨p, 0, none⟩), .string label] w fun e w' => e = .returned (.int .i64 E) ∧ Sat w0 I (volp p V :: L) w' := by
  have HS := hid H
  clear H
  unfold eraseS at hA
  have her := hv.erased
  have her0 := hv.erased0
  generalize hE : tryE v.lost v.armed = e0 at hA
  by_cases z1 : e0 = 0
  · rw [if_pos z1] at hA
    subst z1
    have HE := hid hE; clear hE
    cases hpr : v.prot
    · rw [if_neg (by rw [hpr]; decide)] at hA
      cases hA
      go_enter Try.func43, Try.ntmps43
      go_wp2_with fail
      refine (vtry hv HS.out).mono ?_; rintro e w1 ⟨rfl, H1⟩
      rw [HE.out]
      obtain ⟨ad, cap, k1, k2, H2⟩ := H1.volOpen
      have c9 : w1.cell? ⟨p, 9, none⟩ = some (.bool v.prot) := H2.isBlk.cell 9 rfl
      rw [hpr] at c9
      have HS1 := hid H1
      have HP := hid hpr
      clear H1 H2 k1 hpr
      go_wp2_with fail
      refine (vcut_at (v := tryV v) 0 (by omega) (tryV_ok hv) (by omega) HS1.out).mono ?_; rintro e w3 ⟨rfl, S3⟩
      obtain ⟨ad3, cap3, k3, k4, S4⟩ := S3.volOpen
      have f4 := S4.isBlk.frozen 4
      have c4 : w3.cell? ⟨p, 4, none⟩ = some (.string v.label) := S4.isBlk.cell 4 rfl
      have c8 : w3.cell? ⟨p, 8, none⟩ = some (.int .i64 v.erased) := S4.isBlk.cell 8 rfl
      have f8 := S4.isBlk.frozen 8
      have HS4 := hid S4
      clear S3 S4 k3
      go_wp2_with fail
      go_ret
      exact ⟨rfl, Sat.volClose (v := {cutV (tryV v) 0 with label := label, erased := v.erased + 1}) ((HS4.out.set 4 _ rfl).set 8 _ rfl)⟩
    · rw [if_pos hpr] at hA
      cases hA
      go_enter Try.func43, Try.ntmps43
      go_wp2_with fail
      refine (vtry hv HS.out).mono ?_; rintro e w1 ⟨rfl, H1⟩
      rw [HE.out]
      obtain ⟨ad, cap, k1, k2, H2⟩ := H1.volOpen
      have c9 : w1.cell? ⟨p, 9, none⟩ = some (.bool v.prot) := H2.isBlk.cell 9 rfl
      rw [hpr] at c9
      have HS1 := hid H1
      have HP := hid hpr
      clear H1 H2 k1 hpr
      go_wp2_with fail
      go_ret
      exact ⟨rfl, HS1.out⟩
  · rw [if_neg z1] at hA
    cases hA
    have HE := hid hE; clear hE
    go_enter Try.func43, Try.ntmps43
    have z1' : (E == 0) = false := by simpa using z1
    go_wp2_with fail
    refine (vtry hv HS.out).mono ?_; rintro e w1 ⟨rfl, H1⟩
    rw [HE.out]
    have HS1 := hid H1
    clear H1 z1
    go_wp2_with fail
    go_ret
    exact ⟨rfl, HS1.out⟩
end
end Go.Proofs.Ytecdnlmagaoccaa
