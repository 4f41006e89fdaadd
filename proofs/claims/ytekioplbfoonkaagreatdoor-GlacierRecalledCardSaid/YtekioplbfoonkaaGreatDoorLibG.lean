/- Libraries: contract of Crash, of a library whose volumes are empty. -/
import Derived.Test.YtekioplbfoonkaaGreatDoorLibF
import Derived.Deep.CutBlock
import Derived.Deep.DeepCutAuto
namespace Go.Proofs.YtekioplbfoonkaaGreatDoor
open Go.RowKit
set_option linter.unusedVariables false
set_option maxRecDepth 100000
set_option maxHeartbeats 1000000
section
variable {w0 w : World} {I : Part} {L : List HP} {q : Nat} {S : Lst}
def crD (d : Dr) : Dr := ⟨-1, 0, 0, d.broken⟩
def crL (k : Nat) (l : List Dr) : List Dr := (l.take k).map crD ++ l.drop k
theorem crL_len (k : Nat) (l : List Dr) (h : k ≤ l.length) : (crL k l).length = l.length := by simp [crL]; omega
theorem crL_zero (l : List Dr) : crL 0 l = l := by simp [crL]
theorem crL_all (l : List Dr) : crL l.length l = l.map crD := by simp [crL]
theorem crL_get (k : Nat) (l : List Dr) (h : k < l.length) : (crL k l)[k]'(by rw [crL_len k l (by omega)]; exact h) = l[k] := by
  unfold crL
  rw [List.getElem_append_right (by simp; omega)]
  simp [Nat.min_eq_left (Nat.le_of_lt h)]
theorem crL_succ (k : Nat) (l : List Dr) (h : k < l.length) : (crL k l).set k (crD l[k]) = crL (k + 1) l := by
  unfold crL
  rw [List.set_append_right _ _ (by simp; omega), List.take_succ_eq_append_getElem h, List.map_append, List.append_assoc]
  congr 1
  have e : k - ((l.take k).map crD).length = 0 := by simp; omega
  rw [e, List.drop_eq_getElem_cons h]
  rfl
theorem vNew0_ok : (vNew 0).ok := by constructor <;> simp [vNew, wsum]
theorem vNew0_crash : crashV (vNew 0) [] = vNew 0 := rfl
theorem vNew0_trim : trimS (vNew 0) = (5, vNew 0) := rfl
set_option maxRecDepth 100000 in
theorem lcrash_sat (hS : ∀ x ∈ S.vols, x.2 = vNew 0) (hd : S.drs.length ≤ 1000) (hv : S.vols.length ≤ 1000) (H : Sat w0 I (libp q S :: L) w) :
    Calls Tryz.prog 11 #[.pointer (some ⟨q, 0, none⟩), .slice none 0 0] w fun e w' => e = .returned (.tuple #[]) ∧ Sat w0 I (libp q {S with drs := S.drs.map crD} :: L) w' := by
  obtain ⟨av, cv, ad, cd, k1, k2, k3, k4, H1⟩ := H.libOpen
  have c : w.cell? ⟨q, 1, none⟩ = some (.slice ad S.drs.length cd) := H1.isBlk.cell 1 rfl
  have HO := hid H1
  have HSV := hid hS
  clear H H1 hS
  go_enter Tryz.func11, Tryz.ntmps11
  go_upto_block 0 with fail
  go_cut [13] (fun _ wx => Sat w0 I (blk q 99 [.slice av S.vols.length cv, .slice ad S.drs.length cd, .int .i64 S.moves, .int .i64 S.mounts] :: row 47 1 (.slice av S.vols.length cv) S.vols.length (ptrs S.vols) :: row 101 4 (.slice ad S.drs.length cd) S.drs.length ((S.drs.map crD).flatMap dc) :: volsP S.vols :: L) wx)
  case first =>
    go_wp2_with fail
    go_loopw [4, 5, 13] (fun _ _ i wr => ∃ k : Nat, k ≤ S.drs.length ∧ i = .int .i64 k ∧ Sat w0 I (blk q 99 [.slice av S.vols.length cv, .slice ad S.drs.length cd, .int .i64 S.moves, .int .i64 S.mounts] :: row 47 1 (.slice av S.vols.length cv) S.vols.length (ptrs S.vols) :: row 101 4 (.slice ad S.drs.length cd) S.drs.length ((crL k S.drs).flatMap dc) :: volsP S.vols :: L) wr) (fun _ _ i _ => S.drs.length - (intOf i).toNat)
    case atStart => exact ⟨0, Nat.zero_le _, rfl, by rw [crL_zero]; exact HO.out⟩
    case round =>
      clear HO c
      obtain ⟨k, hk, rfl, Sr⟩ := hrel
      have HO := hid Sr
      clear Sr
      by_cases hlt : k < S.drs.length
      · have hl := crL_len k S.drs (by omega)
        obtain ⟨g, cap', hsv, c0, c1, c2, c3, _⟩ := row4n hl (HO.out.pick 2) k (by omega)
        cases hsv
        have hk1 : (k : Int) < (S.drs.length : Int) := by omega
        have hk0 : (0 : Int) ≤ (k : Int) := by omega
        rw [crL_get k S.drs hlt] at c0 c1 c2 c3
        have HSU := hid (crL_succ k S.drs hlt)
        unfold crD at HSU
        generalize S.drs[k] = x at *
        have HL := hid hl
        clear hl
        go_wp2_with fail
        refine (lbreak_open (l := crL k S.drs) HL.out x.broken hlt (HO.out.alloc_ _)).mono ?_; rintro e w5 ⟨rfl, S5⟩
        rw [HSU.out] at S5
        have H5 := hid S5
        clear S5 HO c0 c1 c2 c3
        go_wp2_with fail
        go_roundw
        case rel => exact ⟨k + 1, by omega, by go_num, H5.out⟩
        case measure => (simp [intOf] <;> omega)
      · obtain rfl : k = S.drs.length := by omega
        rw [crL_all] at HO
        go_wp2_with fail
        go_meet
        exact HO.out
  case rest =>
    have c0 : wc.cell? ⟨q, 0, none⟩ = some (.slice av S.vols.length cv) := hcut.isBlk.cell 0 rfl
    have HO := hid hcut
    clear hcut c
    go_wp2_with fail
    go_loopw [6, 7, 29] (fun _ _ i wr => ∃ k : Nat, k ≤ S.vols.length ∧ i = .int .i64 k ∧ Sat w0 I (blk q 99 [.slice av S.vols.length cv, .slice ad S.drs.length cd, .int .i64 S.moves, .int .i64 S.mounts] :: row 47 1 (.slice av S.vols.length cv) S.vols.length (ptrs S.vols) :: row 101 4 (.slice ad S.drs.length cd) S.drs.length ((S.drs.map crD).flatMap dc) :: volsP S.vols :: L) wr) (fun _ _ i _ => S.vols.length - (intOf i).toNat)
    case atStart => exact ⟨0, Nat.zero_le _, rfl, HO.out⟩
    case round =>
      clear HO c0
      obtain ⟨k, hk, rfl, Sr⟩ := hrel
      have HO := hid Sr
      clear Sr
      by_cases hlt : k < S.vols.length
      · obtain ⟨g, cap', hsv, c0⟩ := row1 (HO.out.pick 1) k hlt
        cases hsv
        have hk1 : (k : Int) < (S.vols.length : Int) := by omega
        have hk0 : (0 : Int) ≤ (k : Int) := by omega
        have hx : S.vols[k]? = some (S.vols[k].1, vNew 0) := by
          rw [List.getElem?_eq_getElem hlt]
          have := HSV.out _ (List.getElem_mem hlt)
          rw [← this]
        have hset : S.vols.set k (S.vols[k].1, vNew 0) = S.vols := by
          have h2 := (List.getElem?_eq_some_iff.1 hx).2
          rw [← h2]; simp
        generalize S.vols[k].1 = p at *
        have HX := hid hx
        have HSET := hid hset
        have hm2 : (2 : Int) * (k : Int) ≤ 2000 := by omega
        clear hx hset
        go_wp2_with (refine wpList_min (o := ⟨some 40, _, _, _, _, _⟩) rfl rfl rfl rfl (m := 0) (by omega) ?_)
        refine (vcrash none 0 0 [] rfl (by omega) (Rd.nil _ _) (by simp) vNew0_ok vNew0_crash ((HO.out.pick 3).volTake k HX.out)).mono ?_; rintro e w5 ⟨rfl, S5⟩
        have H5 := hid S5
        clear S5 HO c0
        go_wp2_with fail
        refine (vtrim vNew0_ok vNew0_trim H5.out).mono ?_; rintro e w6 ⟨rfl, S6⟩
        have S7 := S6.volPut HX.out
        rw [HSET.out] at S7
        have H7 := hid (((S7.pick 3).pick 3).pick 3)
        clear S6 S7 H5
        go_wp2_with fail
        go_roundw
        case rel => exact ⟨k + 1, by omega, by go_num, H7.out⟩
        case measure => (simp [intOf] <;> omega)
      · obtain rfl : k = S.vols.length := by omega
        go_wp2_with fail
        go_returns
        exact ⟨rfl, Sat.libShut (T := {S with drs := S.drs.map crD}) (n := S.vols.length) (m := S.drs.length) rfl (by simp) HO.out⟩
end
end Go.Proofs.YtekioplbfoonkaaGreatDoor
