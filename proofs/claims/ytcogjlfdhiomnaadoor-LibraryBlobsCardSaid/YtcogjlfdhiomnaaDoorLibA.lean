/- Libraries: contracts of Volume, In, next, Moves. -/
import Derived.Test.YtcogjlfdhiomnaaDoorLib
import Derived.BigQuiet
namespace Go.Proofs.YtcogjlfdhiomnaaDoor
open Go.RowKit
set_option linter.unusedVariables false
set_option maxRecDepth 100000
set_option maxHeartbeats 2000000
section
variable {w0 w : World} {I : Part} {L : List HP} {q : Nat} {S : Lst}
theorem lvol_no (vol : Int) (hv : vol < 0 ∨ (S.vols.length : Int) ≤ vol) (H : Sat w0 I (libp q S :: L) w) :
    Calls Tryd.prog 31 #[.pointer (some ⟨q, 0, none⟩), .int .i64 vol] w fun e w' => e = .returned (.pointer none) ∧ Sat w0 I (libp q S :: L) w' := by
  obtain ⟨av, cv, ad, cd, k1, k2, k3, k4, H1⟩ := H.libOpen
  have c : w.cell? ⟨q, 0, none⟩ = some (.slice av S.vols.length cv) := H1.isBlk.cell 0 rfl
  refine ret_sat ?_ H
  clear H H1
  by_cases h0 : vol < 0
  · go_enter Tryd.func31, Tryd.ntmps31
    go_wp2
    go_ret
    exact ⟨rfl, 0, rfl⟩
  · have h1 : (S.vols.length : Int) ≤ vol := by omega
    go_enter Tryd.func31, Tryd.ntmps31
    go_wp2
    go_ret
    exact ⟨rfl, 0, rfl⟩
theorem lvol_yes (i : Nat) {vol : Int} (hV : vol = (i : Int)) {p : Nat} {v : Vst} (hi : S.vols[i]? = some (p, v)) (H : Sat w0 I (libp q S :: L) w) :
    Calls Tryd.prog 31 #[.pointer (some ⟨q, 0, none⟩), .int .i64 vol] w fun e w' => e = .returned (.pointer (some ⟨p, 0, none⟩)) ∧ Sat w0 I (libp q S :: L) w' := by
  subst hV
  obtain ⟨av, cv, ad, cd, k1, k2, k3, k4, H1⟩ := H.libOpen
  obtain ⟨hlt, hx⟩ := List.getElem?_eq_some_iff.1 hi
  obtain ⟨g, cap', hsv, c1⟩ := row1 (H1.pick 1) i hlt
  cases hsv
  rw [hx] at c1
  have c : w.cell? ⟨q, 0, none⟩ = some (.slice (some ⟨g, 0, none⟩) S.vols.length cv) := H1.isBlk.cell 0 rfl
  refine ret_sat ?_ H
  have h1 : (i : Int) < (S.vols.length : Int) := by omega
  have h0 : ¬ (i : Int) < 0 := by omega
  clear H H1 hx hi
  go_enter Tryd.func31, Tryd.ntmps31
  go_wp2
  go_ret
  exact ⟨rfl, 0, rfl⟩
theorem lin_sat (vol : Int) {N : Int} (hN : onI (inF S.drs vol) = N) (H : Sat w0 I (libp q S :: L) w) :
    Calls Tryd.prog 59 #[.pointer (some ⟨q, 0, none⟩), .int .i64 vol] w fun e w' => e = .returned (.int .i64 N) ∧ Sat w0 I (libp q S :: L) w' := by
  by_cases h0 : vol < 0
  · have hr : N = -1 := by rw [← hN]; unfold inF; rw [if_pos h0]; rfl
    subst hr
    refine ret_sat ?_ H
    clear H hN
    go_enter Tryd.func59, Tryd.ntmps59
    go_wp2
    go_ret
    exact ⟨rfl, 0, rfl⟩
  · obtain ⟨av, cv, ad, cd, k1, k2, k3, k4, H1⟩ := H.libOpen
    have c : w.cell? ⟨q, 1, none⟩ = some (.slice ad S.drs.length cd) := H1.isBlk.cell 1 rfl
    have HS := hid H
    have HO := hid H1
    have hF : inF S.drs vol = S.drs.findIdx? fun d => d.vol == vol := by unfold inF; rw [if_neg h0]
    have HF := hid hF
    have HN := hid hN
    clear H H1 hF hN
    go_enter Tryd.func59, Tryd.ntmps59
    go_wp2_with fail
    go_loopw [5, 6, 14] (fun _ _ i wr => ∃ k : Nat, k ≤ S.drs.length ∧ i = .int .i64 k ∧ (∀ j (hj : j < k) (hj2 : j < S.drs.length), S.drs[j].vol ≠ vol) ∧ Sat w0 I (blk q 103 (lcells S (.slice av S.vols.length cv) (.slice ad S.drs.length cd)) :: row 26 1 (.slice av S.vols.length cv) S.vols.length (ptrs S.vols) :: row 105 4 (.slice ad S.drs.length cd) S.drs.length (S.drs.flatMap dc) :: volsP S.vols :: L) wr) (fun _ _ i _ => S.drs.length - (intOf i).toNat)
    case atStart => exact ⟨0, Nat.zero_le _, rfl, fun j hj => absurd hj (Nat.not_lt_zero _), HO.out⟩
    case round =>
      clear HO HS c
      obtain ⟨k, hk, rfl, hno, Sr⟩ := hrel
      have HO := hid Sr
      have HNO := hid hno
      clear Sr hno
      by_cases hlt : k < S.drs.length
      · obtain ⟨g, cap', hsv, c0, c1, c2, c3, _⟩ := row4 (HO.out.pick 2) k hlt
        cases hsv
        have hk1 : (k : Int) < (S.drs.length : Int) := by omega
        have hk0 : (0 : Int) ≤ (k : Int) := by omega
        generalize hx : S.drs[k] = x at *
        have HX := hid hx
        clear hx
        by_cases he : x.vol = vol
        · have hR : N = (k : Int) := by
            rw [← HN.out, HF.out, List.findIdx?_eq_some_iff_getElem.2 ⟨hlt, by rw [HX.out]; simpa using he, fun j hj => by have := HNO.out j hj (by omega); simpa using this⟩]; rfl
          subst hR
          skip
          go_wp2_with fail
          go_ret
          exact ⟨rfl, Sat.libClose (HO.out.alloc_ _)⟩
        · skip
          go_wp2_with fail
          go_roundw
          case rel => exact ⟨k + 1, by omega, by go_num, fun j hj hj2 => by
            by_cases hjk : j = k
            · subst hjk; rw [HX.out]; exact he
            · exact HNO.out j (by omega) hj2, HO.out.alloc_ _⟩
          case measure => (simp [intOf] <;> omega)
      · obtain rfl : k = S.drs.length := by omega
        have hR : N = -1 := by
          rw [← HN.out, HF.out, List.findIdx?_eq_none_iff.2 fun d hd => ?_]; rfl
          obtain ⟨j, hj, rfl⟩ := List.getElem_of_mem hd
          have := HNO.out j hj hj
          simpa using this
        subst hR
        go_wp2_with fail
        go_ret
        exact ⟨rfl, Sat.libClose HO.out⟩
theorem nextF_lt2 {l : List Dr} {k : Nat} (hk : k < l.length) : nextF l (k + 1) = if l[k].broken = true ∨ 0 < l[k].holds then nextF l k else match nextF l k with
      | none => some k
      | some b => if l[k].used < (l[b]?.getD default).used then some k else some b := by
  conv => lhs; unfold nextF
  rw [List.getElem?_eq_getElem hk]
  rfl
theorem lnext_sat {N : Int} (hN : onI (nextF S.drs S.drs.length) = N) (H : Sat w0 I (libp q S :: L) w) :
    Calls Tryd.prog 76 #[.pointer (some ⟨q, 0, none⟩)] w fun e w' => e = .returned (.int .i64 N) ∧ Sat w0 I (libp q S :: L) w' := by
  obtain ⟨av, cv, ad, cd, k1, k2, k3, k4, H1⟩ := H.libOpen
  have c : w.cell? ⟨q, 1, none⟩ = some (.slice ad S.drs.length cd) := H1.isBlk.cell 1 rfl
  have HO := hid H1
  have HN := hid hN
  clear H H1 hN
  go_enter Tryd.func76, Tryd.ntmps76
  go_wp2_with fail
  go_loopw [3, 4, 5, 11] (fun best _ _ i wr => ∃ k : Nat, k ≤ S.drs.length ∧ i = .int .i64 k ∧ best = .int .i64 (onI (nextF S.drs k)) ∧ Sat w0 I (blk q 103 (lcells S (.slice av S.vols.length cv) (.slice ad S.drs.length cd)) :: row 26 1 (.slice av S.vols.length cv) S.vols.length (ptrs S.vols) :: row 105 4 (.slice ad S.drs.length cd) S.drs.length (S.drs.flatMap dc) :: volsP S.vols :: L) wr) (fun _ _ _ i _ => S.drs.length - (intOf i).toNat)
  case atStart => exact ⟨0, Nat.zero_le _, rfl, rfl, HO.out⟩
  case round =>
    clear HO c
    obtain ⟨k, hk, rfl, rfl, Sr⟩ := hrel
    have HO := hid Sr
    clear Sr
    by_cases hlt : k < S.drs.length
    · obtain ⟨g, cap', hsv, c0, c1, c2, c3, _⟩ := row4 (HO.out.pick 2) k hlt
      cases hsv
      have hk1 : (k : Int) < (S.drs.length : Int) := by omega
      have hk0 : (0 : Int) ≤ (k : Int) := by omega
      have HNX := hid (nextF_lt2 hlt)
      have HLT := hid (nextF_lt S.drs k)
      generalize hx : S.drs[k] = x at *
      clear hx
      cases hb : x.broken
      · rw [hb] at c3
        by_cases hh : 0 < x.holds
        · have hr : nextF S.drs (k + 1) = nextF S.drs k := by rw [HNX.out, if_pos (Or.inr hh)]
          have HR := hid hr
          clear hr hb
          have hd : decide (0 < x.holds) = true := by simpa using hh
          go_wp2_with fail
          go_roundw
          case rel => exact ⟨k + 1, by omega, by go_num, by rw [HR.out], HO.out.alloc_ _⟩
          case measure => (simp [intOf] <;> omega)
        · have hd : decide (0 < x.holds) = false := by simpa using hh
          have hr := HNX.out
          rw [if_neg (by rintro (e | e); rw [hb] at e; cases e; exact hh e)] at hr
          clear hb
          cases hnx : nextF S.drs k with
          | none =>
            rw [hnx] at hr
            have HR := hid hr
            clear hr hnx
            have hm : onI none = -1 := rfl
            rw [hm]
            go_wp2_with fail
            go_quiet (fail)
            go_wp2_with fail
            go_roundw
            case rel => exact ⟨k + 1, by omega, by go_num, by rw [HR.out]; rfl, by have HO2 := HO.out; (repeat' (first | (with_reducible assumption) | (with_reducible refine Sat.drewN ?_ _) | (with_reducible refine Sat.drew ?_) | ((with_reducible refine Sat.alloc ?_ ?_ ?_); rotate_left; (first | rfl | (simp; done)); (first | rfl | omega | (simp <;> omega))) | (with_reducible refine Sat.alloc_ ?_ _) | ((with_reducible refine Sat.set ?_ _ _ ?_); rotate_left; (first | rfl | (simp; done))) | ((with_reducible refine Sat.set1 ?_ _ _ ?_); rotate_left; (first | rfl | (simp; done))) | ((with_reducible refine Sat.set2 ?_ _ _ ?_); rotate_left; (first | rfl | (simp; done))) | ((with_reducible refine Sat.set3 ?_ _ _ ?_); rotate_left; (first | rfl | (simp; done)))))⟩
            case measure => (simp [intOf] <;> omega)
          | some b =>
            rw [hnx] at hr
            simp only at hr
            obtain ⟨hb1, hb2⟩ := HLT.out b hnx
            have hg : S.drs[b]?.getD default = S.drs[b] := by rw [List.getElem?_eq_getElem hb2]; rfl
            rw [hg] at hr
            obtain ⟨g', cap2, hsv, _, _, d2, _, _⟩ := row4 (HO.out.pick 2) b hb2
            cases hsv
            generalize hy : S.drs[b] = y at *
            have hm : onI (some b) = (b : Int) := rfl
            rw [hm]
            have e1 : (b : Int) < (S.drs.length : Int) := by omega
            have e2 : (0 : Int) ≤ (b : Int) := by omega
            have e3 : ¬ (b : Int) = -1 := by omega
            have e4 : decide ((b : Int) = -1) = false := decide_eq_false e3
            have C1 : w.cell? ⟨q, 1, none⟩ = some (.slice (some ⟨g, 0, none⟩) S.drs.length cd) → True := fun _ => trivial
            have q1 := fun o => (HO.out.alloc_ o).isBlk.cell 1 rfl
            have q2 := fun o => cell_alloc d2 o
            clear hy hg hnx C1
            by_cases hu : x.used < y.used
            · rw [if_pos hu] at hr
              have HR := hid hr
              clear hr
              have hd2 : decide (x.used < y.used) = true := by simpa using hu
              go_wp2_with fail
              go_quiet (fail)
              go_wp2_with fail
              go_roundw
              case rel => exact ⟨k + 1, by omega, by go_num, by rw [HR.out]; rfl, by have HO2 := HO.out; (repeat' (first | (with_reducible assumption) | (with_reducible refine Sat.drewN ?_ _) | (with_reducible refine Sat.drew ?_) | ((with_reducible refine Sat.alloc ?_ ?_ ?_); rotate_left; (first | rfl | (simp; done)); (first | rfl | omega | (simp <;> omega))) | (with_reducible refine Sat.alloc_ ?_ _) | ((with_reducible refine Sat.set ?_ _ _ ?_); rotate_left; (first | rfl | (simp; done))) | ((with_reducible refine Sat.set1 ?_ _ _ ?_); rotate_left; (first | rfl | (simp; done))) | ((with_reducible refine Sat.set2 ?_ _ _ ?_); rotate_left; (first | rfl | (simp; done))) | ((with_reducible refine Sat.set3 ?_ _ _ ?_); rotate_left; (first | rfl | (simp; done)))))⟩
              case measure => (simp [intOf] <;> omega)
            · rw [if_neg hu] at hr
              have HR := hid hr
              clear hr
              have hd2 : decide (x.used < y.used) = false := by simpa using hu
              go_wp2_with fail
              go_quiet (fail)
              go_wp2_with fail
              go_roundw
              case rel => exact ⟨k + 1, by omega, by go_num, by rw [HR.out]; rfl, by have HO2 := HO.out; (repeat' (first | (with_reducible assumption) | (with_reducible refine Sat.drewN ?_ _) | (with_reducible refine Sat.drew ?_) | ((with_reducible refine Sat.alloc ?_ ?_ ?_); rotate_left; (first | rfl | (simp; done)); (first | rfl | omega | (simp <;> omega))) | (with_reducible refine Sat.alloc_ ?_ _) | ((with_reducible refine Sat.set ?_ _ _ ?_); rotate_left; (first | rfl | (simp; done))) | ((with_reducible refine Sat.set1 ?_ _ _ ?_); rotate_left; (first | rfl | (simp; done))) | ((with_reducible refine Sat.set2 ?_ _ _ ?_); rotate_left; (first | rfl | (simp; done))) | ((with_reducible refine Sat.set3 ?_ _ _ ?_); rotate_left; (first | rfl | (simp; done)))))⟩
              case measure => (simp [intOf] <;> omega)
      · have hr : nextF S.drs (k + 1) = nextF S.drs k := by rw [HNX.out, if_pos (Or.inl hb)]
        have HR := hid hr
        rw [hb] at c3
        clear hr hb
        go_wp2_with fail
        go_roundw
        case rel => exact ⟨k + 1, by omega, by go_num, by rw [HR.out], HO.out.alloc_ _⟩
        case measure => (simp [intOf] <;> omega)
    · obtain rfl : k = S.drs.length := by omega
      rw [HN.out]
      go_wp2_with fail
      go_ret
      exact ⟨rfl, Sat.libClose HO.out⟩
theorem lmoves_sat {N : Int} (hN : S.moves = N) (H : Sat w0 I (libp q S :: L) w) :
    Calls Tryd.prog 58 #[.pointer (some ⟨q, 0, none⟩)] w fun e w' => e = .returned (.int .i64 N) ∧ Sat w0 I (libp q S :: L) w' := by
  subst hN
  obtain ⟨av, cv, ad, cd, k1, k2, k3, k4, H1⟩ := H.libOpen
  have c : w.cell? ⟨q, 2, none⟩ = some (.int .i64 S.moves) := H1.isBlk.cell 2 rfl
  refine ret_sat ?_ H
  clear H1 H
  go_enter Tryd.func58, Tryd.ntmps58
  go_wp2
  go_ret
  exact ⟨rfl, 0, rfl⟩
theorem llen_sat {N : Int} (hN : (S.vols.length : Int) = N) (H : Sat w0 I (libp q S :: L) w) :
    Calls Tryd.prog 55 #[.pointer (some ⟨q, 0, none⟩)] w fun e w' => e = .returned (.int .i64 N) ∧ Sat w0 I (libp q S :: L) w' := by
  subst hN
  obtain ⟨av, cv, ad, cd, k1, k2, k3, k4, H1⟩ := H.libOpen
  have c : w.cell? ⟨q, 0, none⟩ = some (.slice av S.vols.length cv) := H1.isBlk.cell 0 rfl
  refine ret_sat ?_ H
  clear H1 H
  go_enter Tryd.func55, Tryd.ntmps55
  go_wp2
  go_ret
  exact ⟨rfl, 0, rfl⟩
end
end Go.Proofs.YtcogjlfdhiomnaaDoor
