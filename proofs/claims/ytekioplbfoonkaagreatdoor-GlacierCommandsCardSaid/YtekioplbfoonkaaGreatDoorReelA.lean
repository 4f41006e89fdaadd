/- Volumes: add, Write, Mark, Seek, Read, Skip. -/
import Derived.Test.YtekioplbfoonkaaGreatDoorReel
namespace Go.Proofs.YtekioplbfoonkaaGreatDoor
open Go.RowKit
set_option linter.unusedVariables false
set_option maxRecDepth 100000
set_option maxHeartbeats 2000000
section
variable {w0 w : World} {I : Part} {L : List HP} {p : Nat} {v : Vst}
theorem vtake {cs : List Value} (r u n : Int) (h0 : cs[0]? = some (.int .i64 r)) (h1 : cs[1]? = some (.int .i64 u)) (hu : 0 ≤ u) (hur : u ≤ r) (hr : r ≤ 9223372036854775807) (H : Sat w0 I (blk p 118 cs :: L) w) :
    Calls Tryz.prog 101 #[.pointer (some ⟨p, 0, none⟩), .int .i64 n] w fun e w' => e = .returned (.int .i64 (takeE r u n)) ∧ Sat w0 I (blk p 118 (cs.set 1 (.int .i64 (takeU r u n))) :: L) w' := by
  refine (take_any w p 0 r u n (H.isBlk.cell 0 h0) (H.isBlk.cell 1 h1) (H.isBlk.frozen 1) hu hur hr).mono ?_
  rintro e w' ⟨rfl, m, rfl⟩
  exact ⟨rfl, Sat.drewN (H.set 1 _ rfl) m⟩
theorem vtake_vol {sv : Value} {n E U : Int} (hv : v.ok) (hE : takeE v.room (wsum v.bl) n = E) (hU : takeU v.room (wsum v.bl) n = U) (H : Sat w0 I (blk p 118 ((tryV v).cells sv) :: L) w) :
    Calls Tryz.prog 101 #[.pointer (some ⟨p, 0, none⟩), .int .i64 n] w fun e w' => e = .returned (.int .i64 E) ∧ Sat w0 I (blk p 118 [.int .i64 v.room, .int .i64 U, .bool v.lost, .int .i64 (tryV v).armed, .string v.label, sv, .int .i64 v.sure, .int .i64 v.at_, .int .i64 v.erased, .bool v.prot] :: L) w' := by
  subst hE hU
  exact vtake (cs := (tryV v).cells sv) v.room (wsum v.bl) n rfl rfl (by omega) hv.used hv.room H
theorem vtorn_eq {T : Bool} (hT : tornL v.bl = T) (H : Sat w0 I (volp p v :: L) w) :
    Calls Tryz.prog 104 #[.pointer (some ⟨p, 0, none⟩)] w fun e w' => e = .returned (.bool T) ∧ ∃ m, w' = w.drewN m := hT ▸ vtorn H
def addS (v : Vst) (b : Bk) : Int × Vst :=
  if tryE v.lost v.armed = 0 then
    if v.prot = true then (15, tryV v) else
    if v.at_ = v.bl.length then
      if tornL v.bl = true then (16, tryV v) else
      if (bwt b : Int) ≤ v.room - wsum v.bl then (0, {tryV v with bl := v.bl ++ [b], at_ := v.bl.length + 1}) else (7, tryV v)
    else (16, tryV v)
  else (tryE v.lost v.armed, tryV v)
theorem vadd (b : Bk) (hv : v.ok) (hb : (b.s.size : Int) + 4 ≤ 9223372036854775807) (hn : v.bl.length < 1048576) {E : Int} {V : Vst} (hA : addS v b = (E, V)) (H : Sat w0 I (volp p v :: L) w) :
    Calls Tryz.prog 148 #[.pointer (some ⟨p, 0, none⟩), .agg #[.string b.s, .bool b.mark, .bool b.torn]] w fun e w' => e = .returned (.int .i64 E) ∧ Sat w0 I (volp p V :: L) w' := by
  unfold addS at hA
  generalize hE : tryE v.lost v.armed = e0 at hA
  by_cases z1 : e0 = 0
  · rw [if_pos z1] at hA
    subst z1
    have HE := hid hE; clear hE
    cases hpr : v.prot
    · rw [if_neg (by rw [hpr]; decide)] at hA
      by_cases z2 : v.at_ = v.bl.length
      · rw [if_pos z2] at hA
        cases ht : tornL v.bl
        · rw [if_neg (by rw [ht]; decide)] at hA
          by_cases z3 : (bwt b : Int) ≤ v.room - wsum v.bl
          · rw [if_pos z3] at hA
            cases hA
            have TE := hid (show takeE v.room (wsum v.bl) (bwt b) = 0 by unfold takeE; rw [if_neg (by omega), if_pos z3])
            have TU := hid (show takeU v.room (wsum v.bl) (bwt b) = ((wsum (v.bl ++ [b]) : Nat) : Int) by unfold takeU; rw [if_neg (by omega), if_pos z3, wsum_app]; simp [wsum])
            have HS := hid (H.alloc (b := w.heap.size) (T := 186) (cs := bc b) (vs := #[.string b.s, .bool b.mark, .bool b.torn]) rfl rfl).swap
            clear H
            go_enter Tryz.func148, Tryz.ntmps148
            go_wp2_with fail
            refine (vtry hv HS.out).mono ?_; rintro e w1 ⟨rfl, H1⟩
            rw [HE.out]
            obtain ⟨ad, cap, k1, k2, H2⟩ := H1.volOpen
            have c5 : w1.cell? ⟨p, 5, none⟩ = some (.slice ad v.bl.length cap) := H2.isBlk.cell 5 rfl
            have c7 : w1.cell? ⟨p, 7, none⟩ = some (.int .i64 v.at_) := H2.isBlk.cell 7 rfl
            have c9 : w1.cell? ⟨p, 9, none⟩ = some (.bool v.prot) := H2.isBlk.cell 9 rfl
            have d0 := (H2.pick 2).isBlk.cell 0 rfl
            have d1 := (H2.pick 2).isBlk.cell 1 rfl
            have d2 := (H2.pick 2).isBlk.cell 2 rfl
            have H1 := hid H1
            have H2 := hid H2
            rw [hpr] at c9
            rw [z2] at c7
            have HT := hid ht; clear ht
            have hd : (((v.bl.length : Nat) : Int) == ((v.bl.length : Nat) : Int)) = true := by simp
            clear z2
            go_wp2_with fail
            go_quiet ((go_at_call 104; exact Calls.quiet_of (vtorn_eq (v := tryV v) HT.out (H1.out.drewN _))))
            go_wp2_with fail
            refine wp_gen (fun w2 => Sat w0 I (blk p 118 ((tryV v).cells (.slice ad v.bl.length cap)) :: row 186 3 (.slice ad v.bl.length cap) v.bl.length (v.bl.flatMap bc) :: blk w.heap.size 186 (bc b) :: L) w2) (H2.out.drewN _) ?_
            clear c5 c7 c9 d0 d1 d2 H1 H2
            intro w2 S2
            have d0 := (S2.pick 2).isBlk.cell 0 rfl
            have d1 := (S2.pick 2).isBlk.cell 1 rfl
            have d2 := (S2.pick 2).isBlk.cell 2 rfl
            have HS2 := hid S2
            clear S2
            rename Hid (Sat w0 I _ w2) => S2
            go_wp2_with fail
            go_region_with (first
              | (go_at_call 102; refine (weight_sat b hb S2.out.drew).mono ?_; rintro e w3 ⟨rfl, S3'⟩; have S3 := hid S3'; clear S3')
              | (go_at_call 101; refine (vtake_vol hv TE.out TU.out S3.out).mono ?_; rintro e w4 ⟨rfl, S4'⟩; have S4 := hid S4'; clear S4'))
            all_goals
              have S5 := S4.out
              have c5 := S5.isBlk.cell 5 rfl
              have c7 := S5.isBlk.cell 7 rfl
              have f5 := S5.isBlk.frozen 5
              have f7 := S5.isBlk.frozen 7
              have d0 := (S5.pick 2).isBlk.cell 0 rfl
              have d1 := (S5.pick 2).isBlk.cell 1 rfl
              have d2 := (S5.pick 2).isBlk.cell 2 rfl
              have c5' : ∀ o, (w4.alloc o).cell? ⟨p, 5, none⟩ = some (.slice ad v.bl.length cap) := fun o => (S5.alloc_ o).isBlk.cell 5 rfl
              clear S5
              go_wp2_with fail
              go_region_law (refine step_appS (w := w4.drew) slBlk (by rfl) (.tmp 45) (.tmp 47) (by rfl) (S4.out.pick 1).drew (bc b) (by rfl) (by rfl) (by rfl) (by rfl) (bc_one1 b) (by omega) (by omega) ?_; intro ad2 cap2 w5 k3 k4 S6; have q5 := S6.swap.isBlk.cell 5 rfl; have z5 := S6.swap.isBlk.frozen 5; have q7 := S6.swap.isBlk.cell 7 rfl; have z7 := S6.swap.isBlk.frozen 7)
            all_goals
              have S7 := hid ((S6.set1 5 (.slice ad2 (v.bl.length + 1) cap2) rfl).set1 7 (.int .i64 ((v.bl.length + 1 : Nat) : Int)) rfl)
              clear S6
              go_wp2_with fail
              go_ret
              refine ⟨rfl, ?_⟩
              have S8 := (S7.out.pick 2).drop.swap
              refine Sat.volClose (v := {tryV v with bl := v.bl ++ [b], at_ := v.bl.length + 1}) (ad := ad2) (cap := cap2) ?_
              simpa [Vst.cells, List.flatMap_append, tryV] using S8
          · rw [if_neg z3] at hA
            cases hA
            have TE := hid (show takeE v.room (wsum v.bl) (bwt b) = 7 by unfold takeE; rw [if_neg (by omega), if_neg z3])
            have TU := hid (show takeU v.room (wsum v.bl) (bwt b) = ((wsum v.bl : Nat) : Int) by unfold takeU; rw [if_neg (by omega), if_neg z3])
            have HS := hid (H.alloc (b := w.heap.size) (T := 186) (cs := bc b) (vs := #[.string b.s, .bool b.mark, .bool b.torn]) rfl rfl).swap
            clear H
            go_enter Tryz.func148, Tryz.ntmps148
            go_wp2_with fail
            refine (vtry hv HS.out).mono ?_; rintro e w1 ⟨rfl, H1⟩
            rw [HE.out]
            obtain ⟨ad, cap, k1, k2, H2⟩ := H1.volOpen
            have c5 : w1.cell? ⟨p, 5, none⟩ = some (.slice ad v.bl.length cap) := H2.isBlk.cell 5 rfl
            have c7 : w1.cell? ⟨p, 7, none⟩ = some (.int .i64 v.at_) := H2.isBlk.cell 7 rfl
            have c9 : w1.cell? ⟨p, 9, none⟩ = some (.bool v.prot) := H2.isBlk.cell 9 rfl
            have d0 := (H2.pick 2).isBlk.cell 0 rfl
            have d1 := (H2.pick 2).isBlk.cell 1 rfl
            have d2 := (H2.pick 2).isBlk.cell 2 rfl
            have H1 := hid H1
            have H2 := hid H2
            rw [hpr] at c9
            rw [z2] at c7
            have HT := hid ht; clear ht
            have hd : (((v.bl.length : Nat) : Int) == ((v.bl.length : Nat) : Int)) = true := by simp
            clear z2
            go_wp2_with fail
            go_quiet ((go_at_call 104; exact Calls.quiet_of (vtorn_eq (v := tryV v) HT.out (H1.out.drewN _))))
            go_wp2_with fail
            refine wp_gen (fun w2 => Sat w0 I (blk p 118 ((tryV v).cells (.slice ad v.bl.length cap)) :: row 186 3 (.slice ad v.bl.length cap) v.bl.length (v.bl.flatMap bc) :: blk w.heap.size 186 (bc b) :: L) w2) (H2.out.drewN _) ?_
            clear c5 c7 c9 d0 d1 d2 H1 H2
            intro w2 S2
            have d0 := (S2.pick 2).isBlk.cell 0 rfl
            have d1 := (S2.pick 2).isBlk.cell 1 rfl
            have d2 := (S2.pick 2).isBlk.cell 2 rfl
            have HS2 := hid S2
            clear S2
            rename Hid (Sat w0 I _ w2) => S2
            go_wp2_with fail
            go_region_with (first
              | (go_at_call 102; refine (weight_sat b hb S2.out.drew).mono ?_; rintro e w3 ⟨rfl, S3'⟩; have S3 := hid S3'; clear S3')
              | (go_at_call 101; refine (vtake_vol hv TE.out TU.out S3.out).mono ?_; rintro e w4 ⟨rfl, S4'⟩; have S4 := hid S4'; clear S4'))
            all_goals
              go_wp2_with fail
              go_ret
              exact ⟨rfl, Sat.volClose (v := tryV v) (S4.out.pick 2).drop⟩
        · rw [if_pos ht] at hA
          cases hA
          have HS := hid (H.alloc (b := w.heap.size) (T := 186) (cs := bc b) (vs := #[.string b.s, .bool b.mark, .bool b.torn]) rfl rfl).swap
          clear H
          go_enter Tryz.func148, Tryz.ntmps148
          go_wp2_with fail
          refine (vtry hv HS.out).mono ?_; rintro e w1 ⟨rfl, H1⟩
          rw [HE.out]
          obtain ⟨ad, cap, k1, k2, H2⟩ := H1.volOpen
          have c5 : w1.cell? ⟨p, 5, none⟩ = some (.slice ad v.bl.length cap) := H2.isBlk.cell 5 rfl
          have c7 : w1.cell? ⟨p, 7, none⟩ = some (.int .i64 v.at_) := H2.isBlk.cell 7 rfl
          have c9 : w1.cell? ⟨p, 9, none⟩ = some (.bool v.prot) := H2.isBlk.cell 9 rfl
          have d0 := (H2.pick 2).isBlk.cell 0 rfl
          have d1 := (H2.pick 2).isBlk.cell 1 rfl
          have d2 := (H2.pick 2).isBlk.cell 2 rfl
          have H1 := hid H1
          have H2 := hid H2
          rw [hpr] at c9
          rw [z2] at c7
          have hd : (((v.bl.length : Nat) : Int) == ((v.bl.length : Nat) : Int)) = true := by simp
          have HT := hid ht; clear ht
          clear z2 d0 d1 d2
          go_wp2_with fail
          go_quiet ((go_at_call 104; exact Calls.quiet_of (vtorn_eq (v := tryV v) HT.out (H1.out.drewN _))))
          go_wp2_with fail
          go_ret
          exact ⟨rfl, H1.out.swap.drop.drewN _⟩
      · rw [if_neg z2] at hA
        cases hA
        have HS := hid (H.alloc (b := w.heap.size) (T := 186) (cs := bc b) (vs := #[.string b.s, .bool b.mark, .bool b.torn]) rfl rfl).swap
        clear H
        go_enter Tryz.func148, Tryz.ntmps148
        go_wp2_with fail
        refine (vtry hv HS.out).mono ?_; rintro e w1 ⟨rfl, H1⟩
        rw [HE.out]
        obtain ⟨ad, cap, k1, k2, H2⟩ := H1.volOpen
        have c5 : w1.cell? ⟨p, 5, none⟩ = some (.slice ad v.bl.length cap) := H2.isBlk.cell 5 rfl
        have c7 : w1.cell? ⟨p, 7, none⟩ = some (.int .i64 v.at_) := H2.isBlk.cell 7 rfl
        have c9 : w1.cell? ⟨p, 9, none⟩ = some (.bool v.prot) := H2.isBlk.cell 9 rfl
        have d0 := (H2.pick 2).isBlk.cell 0 rfl
        have d1 := (H2.pick 2).isBlk.cell 1 rfl
        have d2 := (H2.pick 2).isBlk.cell 2 rfl
        have H1 := hid H1
        have H2 := hid H2
        rw [hpr] at c9
        have hd : ((v.at_ : Int) != ((v.bl.length : Nat) : Int)) = true := by simp; omega
        clear d0 d1 d2
        go_wp2_with fail
        go_quiet (fail)
        go_wp2_with fail
        go_ret
        exact ⟨rfl, H1.out.swap.drop.drewN _⟩
    · rw [if_pos hpr] at hA
      cases hA
      have HS := hid (H.alloc (b := w.heap.size) (T := 186) (cs := bc b) (vs := #[.string b.s, .bool b.mark, .bool b.torn]) rfl rfl).swap
      clear H
      go_enter Tryz.func148, Tryz.ntmps148
      go_wp2_with fail
      refine (vtry hv HS.out).mono ?_; rintro e w1 ⟨rfl, H1⟩
      rw [HE.out]
      obtain ⟨ad, cap, k1, k2, H2⟩ := H1.volOpen
      have c5 : w1.cell? ⟨p, 5, none⟩ = some (.slice ad v.bl.length cap) := H2.isBlk.cell 5 rfl
      have c7 : w1.cell? ⟨p, 7, none⟩ = some (.int .i64 v.at_) := H2.isBlk.cell 7 rfl
      have c9 : w1.cell? ⟨p, 9, none⟩ = some (.bool v.prot) := H2.isBlk.cell 9 rfl
      have d0 := (H2.pick 2).isBlk.cell 0 rfl
      have d1 := (H2.pick 2).isBlk.cell 1 rfl
      have d2 := (H2.pick 2).isBlk.cell 2 rfl
      have H1 := hid H1
      have H2 := hid H2
      rw [hpr] at c9
      go_wp2_with fail
      go_ret
      exact ⟨rfl, H1.out.swap.drop⟩
  · rw [if_neg z1] at hA
    cases hA
    have HE := hid hE; clear hE
    have HS := hid (H.alloc (b := w.heap.size) (T := 186) (cs := bc b) (vs := #[.string b.s, .bool b.mark, .bool b.torn]) rfl rfl).swap
    clear H
    go_enter Tryz.func148, Tryz.ntmps148
    go_wp2_with fail
    refine (vtry hv HS.out).mono ?_; rintro e w1 ⟨rfl, H1⟩
    rw [HE.out]
    obtain ⟨ad, cap, k1, k2, H2⟩ := H1.volOpen
    have c5 : w1.cell? ⟨p, 5, none⟩ = some (.slice ad v.bl.length cap) := H2.isBlk.cell 5 rfl
    have c7 : w1.cell? ⟨p, 7, none⟩ = some (.int .i64 v.at_) := H2.isBlk.cell 7 rfl
    have c9 : w1.cell? ⟨p, 9, none⟩ = some (.bool v.prot) := H2.isBlk.cell 9 rfl
    have d0 := (H2.pick 2).isBlk.cell 0 rfl
    have d1 := (H2.pick 2).isBlk.cell 1 rfl
    have d2 := (H2.pick 2).isBlk.cell 2 rfl
    have H1 := hid H1
    have H2 := hid H2
    clear c5 c7 c9 d0 d1 d2 k1 k2 hb hn
    have z1' : (E == 0) = false := by simpa using z1
    clear z1
    go_wp2_with fail
    go_ret
    exact ⟨rfl, H1.out.swap.drop⟩
end
end Go.Proofs.YtekioplbfoonkaaGreatDoor
