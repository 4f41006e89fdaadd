/- Volumes: Write, Mark, Seek, Read, Skip. -/
import Derived.Test.YtekioplbfoonkaaGreatDoorReelA
namespace Go.Proofs.YtekioplbfoonkaaGreatDoor
open Go.RowKit
set_option linter.unusedVariables false
set_option maxRecDepth 100000
set_option maxHeartbeats 2000000
section
variable {w0 w : World} {I : Part} {L : List HP} {p : Nat} {v : Vst}
theorem vwrite (s : ByteArray) (hv : v.ok) (hb : (s.size : Int) + 4 ≤ 9223372036854775807) (hn : v.bl.length < 1048576) {E : Int} {V : Vst} (hA : addS v ⟨s, false, false⟩ = (E, V)) (H : Sat w0 I (volp p v :: L) w) :
    Calls Tryz.prog 95 #[.pointer (some ⟨p, 0, none⟩), .string s] w fun e w' => e = .returned (.int .i64 E) ∧ Sat w0 I (volp p V :: L) w' := by
  have HS := hid H
  clear H
  go_enter Tryz.func95, Tryz.ntmps95
  go_wp2_with fail
  refine (vadd ⟨s, false, false⟩ hv hb hn hA HS.out).mono ?_; rintro e w1 ⟨rfl, H1⟩
  have HS := hid H1
  clear H1
  go_wp2_with fail
  go_ret
  exact ⟨rfl, HS.out⟩
theorem vmark (hv : v.ok) (hn : v.bl.length < 1048576) {E : Int} {V : Vst} (hA : addS v ⟨⟨#[]⟩, true, false⟩ = (E, V)) (H : Sat w0 I (volp p v :: L) w) :
    Calls Tryz.prog 97 #[.pointer (some ⟨p, 0, none⟩)] w fun e w' => e = .returned (.int .i64 E) ∧ Sat w0 I (volp p V :: L) w' := by
  have HS := hid H
  clear H
  go_enter Tryz.func97, Tryz.ntmps97
  go_wp2_with fail
  refine (vadd ⟨⟨#[]⟩, true, false⟩ hv (by simp [ByteArray.size]) hn hA HS.out).mono ?_; rintro e w1 ⟨rfl, H1⟩
  have HS := hid H1
  clear H1
  go_wp2_with fail
  go_ret
  exact ⟨rfl, HS.out⟩
def seekS (v : Vst) (n : Int) : Int × Vst :=
  if tryE v.lost v.armed = 0 then
    if n < 0 then (1, tryV v) else
    if (v.bl.length : Int) < n then (1, tryV v) else (0, {tryV v with at_ := n.toNat})
  else (tryE v.lost v.armed, tryV v)
theorem vseek (n : Int) (hv : v.ok) {E : Int} {V : Vst} (hA : seekS v n = (E, V)) (H : Sat w0 I (volp p v :: L) w) :
    Calls Tryz.prog 91 #[.pointer (some ⟨p, 0, none⟩), .int .i64 n] w fun e w' => e = .returned (.int .i64 E) ∧ Sat w0 I (volp p V :: L) w' := by
  have HS := hid H
  clear H
  unfold seekS at hA
  generalize hE : tryE v.lost v.armed = e0 at hA
  by_cases z1 : e0 = 0
  · rw [if_pos z1] at hA
    subst z1
    have HE := hid hE; clear hE
    by_cases z2 : n < 0
    · rw [if_pos z2] at hA
      cases hA
      go_enter Tryz.func91, Tryz.ntmps91
      go_wp2_with fail
      refine (vtry hv HS.out).mono ?_; rintro e w1 ⟨rfl, H1⟩
      rw [HE.out]
      obtain ⟨ad, cap, k1, k2, H2⟩ := H1.volOpen
      have c5 : w1.cell? ⟨p, 5, none⟩ = some (.slice ad v.bl.length cap) := H2.isBlk.cell 5 rfl
      have c7 : w1.cell? ⟨p, 7, none⟩ = some (.int .i64 v.at_) := H2.isBlk.cell 7 rfl
      have f7 := H2.isBlk.frozen 7
      have H1 := hid H1
      have HS2 := hid H2
      clear H2 k1
      go_wp2_with fail
      go_ret
      exact ⟨rfl, H1.out⟩
    · rw [if_neg z2] at hA
      by_cases z3 : (v.bl.length : Int) < n
      · rw [if_pos z3] at hA
        cases hA
        go_enter Tryz.func91, Tryz.ntmps91
        go_wp2_with fail
        refine (vtry hv HS.out).mono ?_; rintro e w1 ⟨rfl, H1⟩
        rw [HE.out]
        obtain ⟨ad, cap, k1, k2, H2⟩ := H1.volOpen
        have c5 : w1.cell? ⟨p, 5, none⟩ = some (.slice ad v.bl.length cap) := H2.isBlk.cell 5 rfl
        have c7 : w1.cell? ⟨p, 7, none⟩ = some (.int .i64 v.at_) := H2.isBlk.cell 7 rfl
        have f7 := H2.isBlk.frozen 7
        have H1 := hid H1
        have HS2 := hid H2
        clear H2 k1
        go_wp2_with fail
        go_ret
        exact ⟨rfl, H1.out⟩
      · rw [if_neg z3] at hA
        cases hA
        obtain ⟨m, rfl⟩ := Int.eq_ofNat_of_zero_le (by omega : 0 ≤ n)
        go_enter Tryz.func91, Tryz.ntmps91
        go_wp2_with fail
        refine (vtry hv HS.out).mono ?_; rintro e w1 ⟨rfl, H1⟩
        rw [HE.out]
        obtain ⟨ad, cap, k1, k2, H2⟩ := H1.volOpen
        have c5 : w1.cell? ⟨p, 5, none⟩ = some (.slice ad v.bl.length cap) := H2.isBlk.cell 5 rfl
        have c7 : w1.cell? ⟨p, 7, none⟩ = some (.int .i64 v.at_) := H2.isBlk.cell 7 rfl
        have f7 := H2.isBlk.frozen 7
        have H1 := hid H1
        have HS2 := hid H2
        clear H2 k1
        go_wp2_with fail
        go_ret
        exact ⟨rfl, Sat.volClose (v := {tryV v with at_ := m}) (HS2.out.set 7 _ rfl)⟩
  · rw [if_neg z1] at hA
    cases hA
    have HE := hid hE; clear hE
    go_enter Tryz.func91, Tryz.ntmps91
    have z1' : (E == 0) = false := by simpa using z1
    go_wp2_with fail
    refine (vtry hv HS.out).mono ?_; rintro e w1 ⟨rfl, H1⟩
    rw [HE.out]
    have HS1 := hid H1
    clear H1 z1
    go_wp2_with fail
    go_ret
    exact ⟨rfl, HS1.out⟩
def readS (v : Vst) : (ByteArray × Bool × Int) × Vst :=
  if tryE v.lost v.armed = 0 then
    if h : v.at_ < v.bl.length then
      if v.bl[v.at_].torn = true then ((⟨#[]⟩, false, 4), tryV v) else ((v.bl[v.at_].s, v.bl[v.at_].mark, 0), {tryV v with at_ := v.at_ + 1})
    else ((⟨#[]⟩, false, 2), tryV v)
  else ((⟨#[]⟩, false, tryE v.lost v.armed), tryV v)
theorem vread (hv : v.ok) {s : ByteArray} {m : Bool} {E : Int} {V : Vst} (hA : readS v = ((s, m, E), V)) (H : Sat w0 I (volp p v :: L) w) :
    Calls Tryz.prog 149 #[.pointer (some ⟨p, 0, none⟩)] w fun e w' => e = .returned (.tuple #[.string s, .bool m, .int .i64 E]) ∧ Sat w0 I (volp p V :: L) w' := by
  have HS := hid H
  clear H
  have hat := hv.at_
  unfold readS at hA
  generalize hE : tryE v.lost v.armed = e0 at hA
  by_cases z1 : e0 = 0
  · rw [if_pos z1] at hA
    subst z1
    have HE := hid hE; clear hE
    by_cases z2 : v.at_ < v.bl.length
    · rw [dif_pos z2] at hA
      cases ht : v.bl[v.at_].torn
      · rw [if_neg (by rw [ht]; decide)] at hA
        cases hA
        go_enter Tryz.func149, Tryz.ntmps149
        go_wp2_with fail
        refine (vtry hv HS.out).mono ?_; rintro e w1 ⟨rfl, H1⟩
        rw [HE.out]
        obtain ⟨ad, cap, k1, k2, H2⟩ := H1.volOpen
        have c5 : w1.cell? ⟨p, 5, none⟩ = some (.slice ad v.bl.length cap) := H2.isBlk.cell 5 rfl
        have c7 : w1.cell? ⟨p, 7, none⟩ = some (.int .i64 v.at_) := H2.isBlk.cell 7 rfl
        have f7 := H2.isBlk.frozen 7
        have H1 := hid H1
        have HS2 := hid H2
        clear H2 k1
        obtain ⟨g, rfl, e1, e2, e3⟩ := row_elem (i := v.at_) (b := default) (l := v.bl) HS2.out.swap z2
        have hlt : (v.at_ : Int) < (v.bl.length : Int) := by omega
        have hge : (0 : Int) ≤ (v.at_ : Int) := by omega
        have hd : ((v.at_ : Int) == (v.bl.length : Int)) = false := by simp; omega
        rw [ht] at e3
        obtain ⟨x, hx⟩ : ∃ x, v.bl[v.at_] = x := ⟨_, rfl⟩
        rw [hx] at e1 e2
        have ht := hid ht
        have hx := hid hx
        go_wp2_with fail
        go_quiet (fail)
        go_wp2_with fail
        refine wp_gen (fun w2 => Sat w0 I (blk p 118 ((tryV v).cells (.slice (some ⟨g, 0, none⟩) v.bl.length cap)) :: row 186 3 (.slice (some ⟨g, 0, none⟩) v.bl.length cap) v.bl.length (v.bl.flatMap bc) :: L) w2) (HS2.out.drewN _) ?_
        clear c5 c7 f7 e1 e2 e3
        intro w2 S2
        obtain ⟨g', eg, e1, e2, e3⟩ := row_elem (i := v.at_) (b := default) (l := v.bl) S2.swap z2
        cases eg
        rw [ht.out] at e3
        rw [hx.out] at e1 e2
        have c5 : w2.cell? ⟨p, 5, none⟩ = some (.slice (some ⟨g, 0, none⟩) v.bl.length cap) := S2.isBlk.cell 5 rfl
        have c7 : w2.cell? ⟨p, 7, none⟩ = some (.int .i64 v.at_) := S2.isBlk.cell 7 rfl
        have c5' : ∀ o, (w2.alloc o).cell? ⟨p, 5, none⟩ = some (.slice (some ⟨g, 0, none⟩) v.bl.length cap) := fun o => (S2.alloc_ o).isBlk.cell 5 rfl
        have c7' : ∀ o, (w2.alloc o).cell? ⟨p, 7, none⟩ = some (.int .i64 v.at_) := fun o => (S2.alloc_ o).isBlk.cell 7 rfl
        have e1' : ∀ o, (w2.alloc o).cell? ⟨g, v.at_ * 3, none⟩ = _ := cell_alloc e1
        have e2' : ∀ o, (w2.alloc o).cell? ⟨g, v.at_ * 3 + 1, none⟩ = _ := cell_alloc e2
        have e3' : ∀ o, (w2.alloc o).cell? ⟨g, v.at_ * 3 + 2, none⟩ = _ := cell_alloc e3
        have f7' : ∀ o, (w2.alloc o).frozen? ⟨p, 7, none⟩ = false := fun o => (S2.alloc_ o).isBlk.frozen 7
        have HS3 := hid S2
        clear S2
        have hb7 : (v.at_ : Int) + 1 ≤ 9223372036854775807 := by have := hv.len; omega
        go_wp2_with fail
        go_region
        go_wp2_with fail
        refine wp_gen (fun w3 => Sat w0 I (blk w2.heap.size 186 [.string x.s, .bool x.mark, .bool false] :: blk p 118 (({tryV v with at_ := v.at_ + 1} : Vst).cells (.slice (some ⟨g, 0, none⟩) v.bl.length cap)) :: row 186 3 (.slice (some ⟨g, 0, none⟩) v.bl.length cap) v.bl.length (v.bl.flatMap bc) :: L) w3) (Sat.drew (Sat.set1 (HS3.out.alloc (b := w2.heap.size) rfl rfl) 7 _ rfl)) ?_
        clear c5 c7 e1 e2 e3 c5' c7' f7' e1' e2' e3'
        intro w3 S3
        have d0 := S3.isBlk.cell 0 rfl
        have d1 := S3.isBlk.cell 1 rfl
        have HS5 := hid S3
        clear S3
        go_quiet (fail)
        go_wp2_with fail
        go_returns
        exact ⟨rfl, Sat.volClose (v := {tryV v with at_ := v.at_ + 1}) (HS5.out.drop.drewN _)⟩
      · rw [if_pos ht] at hA
        cases hA
        go_enter Tryz.func149, Tryz.ntmps149
        go_wp2_with fail
        refine (vtry hv HS.out).mono ?_; rintro e w1 ⟨rfl, H1⟩
        rw [HE.out]
        obtain ⟨ad, cap, k1, k2, H2⟩ := H1.volOpen
        have c5 : w1.cell? ⟨p, 5, none⟩ = some (.slice ad v.bl.length cap) := H2.isBlk.cell 5 rfl
        have c7 : w1.cell? ⟨p, 7, none⟩ = some (.int .i64 v.at_) := H2.isBlk.cell 7 rfl
        have f7 := H2.isBlk.frozen 7
        have H1 := hid H1
        have HS2 := hid H2
        clear H2 k1
        obtain ⟨g, rfl, e1, e2, e3⟩ := row_elem (i := v.at_) (b := default) (l := v.bl) HS2.out.swap z2
        have hlt : (v.at_ : Int) < (v.bl.length : Int) := by omega
        have hge : (0 : Int) ≤ (v.at_ : Int) := by omega
        have hd : ((v.at_ : Int) == (v.bl.length : Int)) = false := by simp; omega
        rw [ht] at e3
        obtain ⟨x, hx⟩ : ∃ x, v.bl[v.at_] = x := ⟨_, rfl⟩
        rw [hx] at e1 e2
        have ht := hid ht
        have hx := hid hx
        go_wp2_with fail
        go_quiet (fail)
        go_wp2_with fail
        refine wp_gen (fun w2 => Sat w0 I (blk p 118 ((tryV v).cells (.slice (some ⟨g, 0, none⟩) v.bl.length cap)) :: row 186 3 (.slice (some ⟨g, 0, none⟩) v.bl.length cap) v.bl.length (v.bl.flatMap bc) :: L) w2) (HS2.out.drewN _) ?_
        clear c5 c7 f7 e1 e2 e3
        intro w2 S2
        obtain ⟨g', eg, e1, e2, e3⟩ := row_elem (i := v.at_) (b := default) (l := v.bl) S2.swap z2
        cases eg
        rw [ht.out] at e3
        rw [hx.out] at e1 e2
        have c5 : w2.cell? ⟨p, 5, none⟩ = some (.slice (some ⟨g, 0, none⟩) v.bl.length cap) := S2.isBlk.cell 5 rfl
        have c7 : w2.cell? ⟨p, 7, none⟩ = some (.int .i64 v.at_) := S2.isBlk.cell 7 rfl
        have c5' : ∀ o, (w2.alloc o).cell? ⟨p, 5, none⟩ = some (.slice (some ⟨g, 0, none⟩) v.bl.length cap) := fun o => (S2.alloc_ o).isBlk.cell 5 rfl
        have c7' : ∀ o, (w2.alloc o).cell? ⟨p, 7, none⟩ = some (.int .i64 v.at_) := fun o => (S2.alloc_ o).isBlk.cell 7 rfl
        have e1' : ∀ o, (w2.alloc o).cell? ⟨g, v.at_ * 3, none⟩ = _ := cell_alloc e1
        have e2' : ∀ o, (w2.alloc o).cell? ⟨g, v.at_ * 3 + 1, none⟩ = _ := cell_alloc e2
        have e3' : ∀ o, (w2.alloc o).cell? ⟨g, v.at_ * 3 + 2, none⟩ = _ := cell_alloc e3
        have f7' : ∀ o, (w2.alloc o).frozen? ⟨p, 7, none⟩ = false := fun o => (S2.alloc_ o).isBlk.frozen 7
        have HS3 := hid S2
        clear S2
        have hb7 : (v.at_ : Int) + 1 ≤ 9223372036854775807 := by have := hv.len; omega
        go_wp2_with fail
        go_region
        go_wp2_with fail
        go_returns
        exact ⟨rfl, Sat.volClose (v := tryV v) (HS3.out.alloc_ _).drew⟩
    · rw [dif_neg z2] at hA
      cases hA
      have z3 : v.at_ = v.bl.length := by omega
      go_enter Tryz.func149, Tryz.ntmps149
      go_wp2_with fail
      refine (vtry hv HS.out).mono ?_; rintro e w1 ⟨rfl, H1⟩
      rw [HE.out]
      obtain ⟨ad, cap, k1, k2, H2⟩ := H1.volOpen
      have c5 : w1.cell? ⟨p, 5, none⟩ = some (.slice ad v.bl.length cap) := H2.isBlk.cell 5 rfl
      have c7 : w1.cell? ⟨p, 7, none⟩ = some (.int .i64 v.at_) := H2.isBlk.cell 7 rfl
      have f7 := H2.isBlk.frozen 7
      have H1 := hid H1
      have HS2 := hid H2
      clear H2 k1
      rw [z3] at c7
      have hd : (((v.bl.length : Nat) : Int) == ((v.bl.length : Nat) : Int)) = true := by simp
      clear z3 hat
      go_wp2_with fail
      go_quiet (fail)
      go_wp2_with fail
      go_returns
      exact ⟨rfl, H1.out.drewN _⟩
  · rw [if_neg z1] at hA
    cases hA
    have HE := hid hE; clear hE
    go_enter Tryz.func149, Tryz.ntmps149
    have z1' : (E == 0) = false := by simpa using z1
    go_wp2_with fail
    refine (vtry hv HS.out).mono ?_; rintro e w1 ⟨rfl, H1⟩
    rw [HE.out]
    have HS1 := hid H1
    clear H1 z1
    go_wp2_with fail
    go_returns
    exact ⟨rfl, HS1.out⟩
end
end Go.Proofs.YtekioplbfoonkaaGreatDoor
