/- Libraries: contracts of Release, Break, Working, Crash. Libraries: contract of Crash, of a library whose volumes are empty. Libraries: contract of Crash, of volumes of which a crash takes nothing. Libraries of tapes: Crash. -/
import Derived.Test.YtekioplbfoonkaaGreatDoorLibC
import Derived.Test.YtekioplbfoonkaaGreatDoorMg3
import Derived.Deep.CutBlock
import Derived.Deep.DeepCutAuto
import Derived.Test.YtekioplbfoonkaaGreatDoorLibW
namespace Go.Proofs.YtekioplbfoonkaaGreatDoor
open Go.RowKit
set_option linter.unusedVariables false
set_option maxRecDepth 100000
set_option maxHeartbeats 1000000
section
variable {w0 w : World} {I : Part} {L : List HP} {q : Nat} {S : Lst}
theorem lbreak_no (n : Int) (b : Bool) (hn : n < 0 ∨ (S.drs.length : Int) ≤ n) (H : Sat w0 I (libp q S :: L) w) :
    Calls Tryz.prog 45 #[.pointer (some ⟨q, 0, none⟩), .int .i64 n, .bool b] w fun e w' => e = .returned (.tuple #[]) ∧ Sat w0 I (libp q S :: L) w' := by
  obtain ⟨av, cv, ad, cd, k1, k2, k3, k4, H1⟩ := H.libOpen
  have c : w.cell? ⟨q, 1, none⟩ = some (.slice ad S.drs.length cd) := H1.isBlk.cell 1 rfl
  refine ret_sat ?_ H
  clear H H1
  by_cases h0 : n < 0
  · go_enter Tryz.func45, Tryz.ntmps45
    go_wp2
    go_returns
    exact ⟨rfl, 0, rfl⟩
  · have h1 : (S.drs.length : Int) ≤ n := by omega
    go_enter Tryz.func45, Tryz.ntmps45
    go_wp2
    go_returns
    exact ⟨rfl, 0, rfl⟩
/-- with the parts laid open: the drives stay where they lie. -/
theorem lbreak_open {l : List Dr} {N : Nat} (hN : l.length = N) {av : Option Addr} {cv cd : Nat} {g n m : Nat} {mv mn : Int} {ps : List Value} {A : HP} (b : Bool) (hn : n < N) (H : Sat w0 I (blk q 99 [.slice av m cv, .slice (some ⟨g, 0, none⟩) N cd, .int .i64 mv, .int .i64 mn] :: row 47 1 (.slice av m cv) m ps :: row 101 4 (.slice (some ⟨g, 0, none⟩) N cd) N (l.flatMap dc) :: A :: L) w) :
    Calls Tryz.prog 45 #[.pointer (some ⟨q, 0, none⟩), .int .i64 (n : Int), .bool b] w fun e w' => e = .returned (.tuple #[]) ∧ Sat w0 I (blk q 99 [.slice av m cv, .slice (some ⟨g, 0, none⟩) N cd, .int .i64 mv, .int .i64 mn] :: row 47 1 (.slice av m cv) m ps :: row 101 4 (.slice (some ⟨g, 0, none⟩) N cd) N ((l.set n ⟨-1, 0, 0, b⟩).flatMap dc) :: A :: L) w' := by
  have d1 : w.cell? ⟨q, 1, none⟩ = some (.slice (some ⟨g, 0, none⟩) N cd) := H.isBlk.cell 1 rfl
  have hn' : n < l.length := by omega
  obtain ⟨g', cap', hsv, c0, c1, c2, c3, fz⟩ := row4n hN (H.pick 2) n hn'
  cases hsv
  have f0 := fz (n * 4)
  have f1 := fz (n * 4 + 1)
  have f2 := fz (n * 4 + 2)
  have f3 := fz (n * 4 + 3)
  have nn1 : (0 : Int) ≤ (n : Int) := by omega
  have nn2 : (n : Int) < (N : Int) := by omega
  have H5 := hid H
  clear H fz
  go_enter Tryz.func45, Tryz.ntmps45
  go_wp2_with fail
  go_returns
  exact ⟨rfl, (((H5.out.pick 2).drvPut hn' ⟨-1, 0, 0, b⟩ rfl).pick 2).pick 2⟩
theorem lbreak_yes {k : Nat} (b : Bool) {n : Int} (hn : n = (k : Int)) (hk : k < S.drs.length) (H : Sat w0 I (libp q S :: L) w) :
    Calls Tryz.prog 45 #[.pointer (some ⟨q, 0, none⟩), .int .i64 n, .bool b] w fun e w' => e = .returned (.tuple #[]) ∧ Sat w0 I (libp q {S with drs := S.drs.set k ⟨-1, 0, 0, b⟩} :: L) w' := by
  subst hn
  obtain ⟨av, cv, ad, cd, k1, k2, k3, k4, H1⟩ := H.libOpen
  obtain ⟨g, cap', hsv, _⟩ := row4 (H1.pick 2) k hk
  cases hsv
  exact (lbreak_open (l := S.drs) rfl b hk H1).mono fun e w' ⟨h1, h2⟩ => ⟨h1, Sat.libShut (T := {S with drs := S.drs.set k ⟨-1, 0, 0, b⟩}) (n := S.vols.length) (m := S.drs.length) rfl (by simp) h2⟩
end
end Go.Proofs.YtekioplbfoonkaaGreatDoor
namespace Go.Proofs.YtekioplbfoonkaaGreatDoor
open Go.RowKit
set_option linter.unusedVariables false
set_option maxRecDepth 100000
set_option maxHeartbeats 1000000
section
variable {w0 w : World} {I : Part} {L : List HP} {q : Nat} {S : Lst}
def crD (d : Dr) : Dr := ⟨-1, 0, 0, d.broken⟩
def crL (k : Nat) (l : List Dr) : List Dr := (l.take k).map crD ++ l.drop k
theorem crL_len (k : Nat) (l : List Dr) (h : k ≤ l.length) : (crL k l).length = l.length := by simp [crL]; omega
theorem crL_zero (l : List Dr) : crL 0 l = l := by simp [crL]
theorem crL_all (l : List Dr) : crL l.length l = l.map crD := by simp [crL]
theorem crL_get (k : Nat) (l : List Dr) (h : k < l.length) : (crL k l)[k]'(by rw [crL_len k l (by omega)]; exact h) = l[k] := by
  unfold crL
  rw [List.getElem_append_right (by simp; omega)]
  simp [Nat.min_eq_left (Nat.le_of_lt h)]
theorem crL_succ (k : Nat) (l : List Dr) (h : k < l.length) : (crL k l).set k (crD l[k]) = crL (k + 1) l := by
  unfold crL
  rw [List.set_append_right _ _ (by simp; omega), List.take_succ_eq_append_getElem h, List.map_append, List.append_assoc]
  congr 1
  have e : k - ((l.take k).map crD).length = 0 := by simp; omega
  rw [e, List.drop_eq_getElem_cons h]
  rfl
theorem vNew0_ok : (vNew 0).ok := by constructor <;> simp [vNew, wsum]
theorem vNew0_crash : crashV (vNew 0) [] = vNew 0 := rfl
theorem vNew0_trim : trimS (vNew 0) = (5, vNew 0) := rfl
set_option maxRecDepth 100000 in
theorem lcrash_sat (hS : ∀ x ∈ S.vols, x.2 = vNew 0) (hd : S.drs.length ≤ 1000) (hv : S.vols.length ≤ 1000) (H : Sat w0 I (libp q S :: L) w) :
    Calls Tryz.prog 11 #[.pointer (some ⟨q, 0, none⟩), .slice none 0 0] w fun e w' => e = .returned (.tuple #[]) ∧ Sat w0 I (libp q {S with drs := S.drs.map crD} :: L) w' := by
  obtain ⟨av, cv, ad, cd, k1, k2, k3, k4, H1⟩ := H.libOpen
  have c : w.cell? ⟨q, 1, none⟩ = some (.slice ad S.drs.length cd) := H1.isBlk.cell 1 rfl
  have HO := hid H1
  have HSV := hid hS
  clear H H1 hS
  go_enter Tryz.func11, Tryz.ntmps11
  go_upto_block 0 with fail
  go_cut [13] (fun _ wx => Sat w0 I (blk q 99 [.slice av S.vols.length cv, .slice ad S.drs.length cd, .int .i64 S.moves, .int .i64 S.mounts] :: row 47 1 (.slice av S.vols.length cv) S.vols.length (ptrs S.vols) :: row 101 4 (.slice ad S.drs.length cd) S.drs.length ((S.drs.map crD).flatMap dc) :: volsP S.vols :: L) wx)
  case first =>
    go_wp2_with fail
    go_loopw [4, 5, 13] (fun _ _ i wr => ∃ k : Nat, k ≤ S.drs.length ∧ i = .int .i64 k ∧ Sat w0 I (blk q 99 [.slice av S.vols.length cv, .slice ad S.drs.length cd, .int .i64 S.moves, .int .i64 S.mounts] :: row 47 1 (.slice av S.vols.length cv) S.vols.length (ptrs S.vols) :: row 101 4 (.slice ad S.drs.length cd) S.drs.length ((crL k S.drs).flatMap dc) :: volsP S.vols :: L) wr) (fun _ _ i _ => S.drs.length - (intOf i).toNat)
    case atStart => exact ⟨0, Nat.zero_le _, rfl, by rw [crL_zero]; exact HO.out⟩
    case round =>
      clear HO c
      obtain ⟨k, hk, rfl, Sr⟩ := hrel
      have HO := hid Sr
      clear Sr
      by_cases hlt : k < S.drs.length
      · have hl := crL_len k S.drs (by omega)
        obtain ⟨g, cap', hsv, c0, c1, c2, c3, _⟩ := row4n hl (HO.out.pick 2) k (by omega)
        cases hsv
        have hk1 : (k : Int) < (S.drs.length : Int) := by omega
        have hk0 : (0 : Int) ≤ (k : Int) := by omega
        rw [crL_get k S.drs hlt] at c0 c1 c2 c3
        have HSU := hid (crL_succ k S.drs hlt)
        unfold crD at HSU
        generalize S.drs[k] = x at *
        have HL := hid hl
        clear hl
        go_wp2_with fail
        refine (lbreak_open (l := crL k S.drs) HL.out x.broken hlt (HO.out.alloc_ _)).mono ?_; rintro e w5 ⟨rfl, S5⟩
        rw [HSU.out] at S5
        have H5 := hid S5
        clear S5 HO c0 c1 c2 c3
        go_wp2_with fail
        go_roundw
        case rel => exact ⟨k + 1, by omega, by go_num, H5.out⟩
        case measure => (simp [intOf] <;> omega)
      · obtain rfl : k = S.drs.length := by omega
        rw [crL_all] at HO
        go_wp2_with fail
        go_meet
        exact HO.out
  case rest =>
    have c0 : wc.cell? ⟨q, 0, none⟩ = some (.slice av S.vols.length cv) := hcut.isBlk.cell 0 rfl
    have HO := hid hcut
    clear hcut c
    go_wp2_with fail
    go_loopw [6, 7, 29] (fun _ _ i wr => ∃ k : Nat, k ≤ S.vols.length ∧ i = .int .i64 k ∧ Sat w0 I (blk q 99 [.slice av S.vols.length cv, .slice ad S.drs.length cd, .int .i64 S.moves, .int .i64 S.mounts] :: row 47 1 (.slice av S.vols.length cv) S.vols.length (ptrs S.vols) :: row 101 4 (.slice ad S.drs.length cd) S.drs.length ((S.drs.map crD).flatMap dc) :: volsP S.vols :: L) wr) (fun _ _ i _ => S.vols.length - (intOf i).toNat)
    case atStart => exact ⟨0, Nat.zero_le _, rfl, HO.out⟩
    case round =>
      clear HO c0
      obtain ⟨k, hk, rfl, Sr⟩ := hrel
      have HO := hid Sr
      clear Sr
      by_cases hlt : k < S.vols.length
      · obtain ⟨g, cap', hsv, c0⟩ := row1 (HO.out.pick 1) k hlt
        cases hsv
        have hk1 : (k : Int) < (S.vols.length : Int) := by omega
        have hk0 : (0 : Int) ≤ (k : Int) := by omega
        have hx : S.vols[k]? = some (S.vols[k].1, vNew 0) := by
          rw [List.getElem?_eq_getElem hlt]
          have := HSV.out _ (List.getElem_mem hlt)
          rw [← this]
        have hset : S.vols.set k (S.vols[k].1, vNew 0) = S.vols := by
          have h2 := (List.getElem?_eq_some_iff.1 hx).2
          rw [← h2]; simp
        generalize S.vols[k].1 = p at *
        have HX := hid hx
        have HSET := hid hset
        have hm2 : (2 : Int) * (k : Int) ≤ 2000 := by omega
        clear hx hset
        go_wp2_with (refine wpList_min (o := ⟨some 40, _, _, _, _, _⟩) rfl rfl rfl rfl (m := 0) (by omega) ?_)
        refine (vcrash none 0 0 [] rfl (by omega) (Rd.nil _ _) (by simp) vNew0_ok vNew0_crash ((HO.out.pick 3).volTake k HX.out)).mono ?_; rintro e w5 ⟨rfl, S5⟩
        have H5 := hid S5
        clear S5 HO c0
        go_wp2_with fail
        refine (vtrim vNew0_ok vNew0_trim H5.out).mono ?_; rintro e w6 ⟨rfl, S6⟩
        have S7 := S6.volPut HX.out
        rw [HSET.out] at S7
        have H7 := hid (((S7.pick 3).pick 3).pick 3)
        clear S6 S7 H5
        go_wp2_with fail
        go_roundw
        case rel => exact ⟨k + 1, by omega, by go_num, H7.out⟩
        case measure => (simp [intOf] <;> omega)
      · obtain rfl : k = S.vols.length := by omega
        go_wp2_with fail
        go_returns
        exact ⟨rfl, Sat.libShut (T := {S with drs := S.drs.map crD}) (n := S.vols.length) (m := S.drs.length) rfl (by simp) HO.out⟩
end
end Go.Proofs.YtekioplbfoonkaaGreatDoor
namespace Go.Proofs.YtekioplbfoonkaaGreatDoor
open Go.RowKit
set_option linter.unusedVariables false
set_option maxRecDepth 100000
set_option maxHeartbeats 2000000
/-- the first k are turned. -/
def turnL {α : Type} (f : α → α) (k : Nat) (l : List α) : List α := (l.take k).map f ++ l.drop k
theorem turnL_len {α : Type} (f : α → α) (k : Nat) (l : List α) : (turnL f k l).length = l.length := by simp [turnL]; omega
theorem turnL_zero {α : Type} (f : α → α) (l : List α) : turnL f 0 l = l := by simp [turnL]
theorem turnL_all {α : Type} (f : α → α) (l : List α) : turnL f l.length l = l.map f := by simp [turnL]
theorem turnL_get {α : Type} (f : α → α) (k : Nat) (l : List α) (h : k < l.length) : (turnL f k l)[k]? = some l[k] := by
  unfold turnL
  rw [List.getElem?_append_right (by simp; omega)]
  simp [Nat.min_eq_left (Nat.le_of_lt h), h]
theorem turnL_succ {α : Type} (f : α → α) (k : Nat) (l : List α) (h : k < l.length) : (turnL f k l).set k (f l[k]) = turnL f (k + 1) l := by
  unfold turnL
  rw [List.set_append_right _ _ (by simp; omega), List.take_succ_eq_append_getElem h, List.map_append, List.append_assoc]
  congr 1
  have e : k - ((l.take k).map f).length = 0 := by simp; omega
  rw [e, List.drop_eq_getElem_cons h]
  rfl
theorem rd_drop {I : Part} {ca : Option Addr} {vs : List Value} (h : Rd I ca vs) (m : Nat) : Rd I (ca.map fun x => x.add m) (vs.drop m) := by
  intro i hi
  rw [List.length_drop] at hi
  obtain ⟨b, off, ha, hc⟩ := h (m + i) (by omega)
  have e : (⟨b, off, none⟩ : Addr).add m = ⟨b, off + m, none⟩ := by unfold Addr.add; split <;> simp_all
  refine ⟨b, off + m, by rw [ha, ← e]; rfl, ?_⟩
  rw [Nat.add_assoc, hc, List.getElem_drop]
def onV (f : Vst → Vst) (x : Nat × Vst) : Nat × Vst := (x.1, f x.2)
theorem turn_ptrs (f : Vst → Vst) (k : Nat) (l : List (Nat × Vst)) : ptrs (turnL (onV f) k l) = ptrs l := by
  unfold ptrs turnL
  rw [List.map_append, List.map_map]
  have e : (fun x : Nat × Vst => ptrV x.1) ∘ onV f = fun x => ptrV x.1 := rfl
  rw [e, ← List.map_append, List.take_append_drop]
section
variable {w0 w : World} {I : Part} {L : List HP} {q : Nat} {S : Lst}
set_option maxRecDepth 100000 in
theorem lcrash_gen (ca : Option Addr) (zl cc : Nat) (zs : List Int) (hzl : zs.length = zl) (hzm : zl ≤ cc ∧ cc ≤ 9223372036854775807) (hz : Rd I ca (zs.map (Value.int .i64))) (hzb : ∀ z ∈ zs, -9223372036854775808 ≤ z ∧ z ≤ 9223372036854775807)
    (f : Vst → Vst) (hS : ∀ x ∈ S.vols, x.2.ok ∧ (∀ l, crashV x.2 l = f x.2) ∧ (f x.2).ok ∧ trimS (f x.2) = (5, f x.2)) (hd : S.drs.length ≤ 1000) (hv : S.vols.length ≤ 1000) (H : Sat w0 I (libp q S :: L) w) :
    Calls Tryz.prog 11 #[.pointer (some ⟨q, 0, none⟩), .slice ca zl cc] w fun e w' => e = .returned (.tuple #[]) ∧ Sat w0 I (libp q {S with drs := S.drs.map crD, vols := S.vols.map (onV f)} :: L) w' := by
  obtain ⟨av, cv, ad, cd, k1, k2, k3, k4, H1⟩ := H.libOpen
  have c : w.cell? ⟨q, 1, none⟩ = some (.slice ad S.drs.length cd) := H1.isBlk.cell 1 rfl
  have HO := hid H1
  have HSV := hid hS
  have HZ := hid hz
  have HZB := hid hzb
  have HZL := hid hzl
  clear H H1 hS hz hzb hzl
  go_enter Tryz.func11, Tryz.ntmps11
  go_upto_block 0 with fail
  go_cut [13] (fun _ wx => Sat w0 I (blk q 99 [.slice av S.vols.length cv, .slice ad S.drs.length cd, .int .i64 S.moves, .int .i64 S.mounts] :: row 47 1 (.slice av S.vols.length cv) S.vols.length (ptrs S.vols) :: row 101 4 (.slice ad S.drs.length cd) S.drs.length ((S.drs.map crD).flatMap dc) :: volsP S.vols :: L) wx)
  case first =>
    go_wp2_with fail
    go_loopw [4, 5, 13] (fun _ _ i wr => ∃ k : Nat, k ≤ S.drs.length ∧ i = .int .i64 k ∧ Sat w0 I (blk q 99 [.slice av S.vols.length cv, .slice ad S.drs.length cd, .int .i64 S.moves, .int .i64 S.mounts] :: row 47 1 (.slice av S.vols.length cv) S.vols.length (ptrs S.vols) :: row 101 4 (.slice ad S.drs.length cd) S.drs.length ((crL k S.drs).flatMap dc) :: volsP S.vols :: L) wr) (fun _ _ i _ => S.drs.length - (intOf i).toNat)
    case atStart => exact ⟨0, Nat.zero_le _, rfl, by rw [crL_zero]; exact HO.out⟩
    case round =>
      clear HO c
      obtain ⟨k, hk, rfl, Sr⟩ := hrel
      have HO := hid Sr
      clear Sr
      by_cases hlt : k < S.drs.length
      · have hl := crL_len k S.drs (by omega)
        obtain ⟨g, cap', hsv, c0, c1, c2, c3, _⟩ := row4n hl (HO.out.pick 2) k (by omega)
        cases hsv
        have hk1 : (k : Int) < (S.drs.length : Int) := by omega
        have hk0 : (0 : Int) ≤ (k : Int) := by omega
        rw [crL_get k S.drs hlt] at c0 c1 c2 c3
        have HSU := hid (crL_succ k S.drs hlt)
        unfold crD at HSU
        generalize S.drs[k] = x at *
        have HL := hid hl
        clear hl
        go_wp2_with fail
        refine (lbreak_open (l := crL k S.drs) HL.out x.broken hlt (HO.out.alloc_ _)).mono ?_; rintro e w5 ⟨rfl, S5⟩
        rw [HSU.out] at S5
        have H5 := hid S5
        clear S5 HO c0 c1 c2 c3
        go_wp2_with fail
        go_roundw
        case rel => exact ⟨k + 1, by omega, by go_num, H5.out⟩
        case measure => (simp [intOf] <;> omega)
      · obtain rfl : k = S.drs.length := by omega
        rw [crL_all] at HO
        go_wp2_with fail
        go_meet
        exact HO.out
  case rest =>
    have c0 : wc.cell? ⟨q, 0, none⟩ = some (.slice av S.vols.length cv) := hcut.isBlk.cell 0 rfl
    have HO := hid hcut
    clear hcut c
    go_wp2_with fail
    go_loopw [6, 7, 29] (fun _ _ i wr => ∃ k : Nat, k ≤ S.vols.length ∧ i = .int .i64 k ∧ Sat w0 I (blk q 99 [.slice av S.vols.length cv, .slice ad S.drs.length cd, .int .i64 S.moves, .int .i64 S.mounts] :: row 47 1 (.slice av S.vols.length cv) S.vols.length (ptrs S.vols) :: row 101 4 (.slice ad S.drs.length cd) S.drs.length ((S.drs.map crD).flatMap dc) :: volsP (turnL (onV f) k S.vols) :: L) wr) (fun _ _ i _ => S.vols.length - (intOf i).toNat)
    case atStart => exact ⟨0, Nat.zero_le _, rfl, by rw [turnL_zero]; exact HO.out⟩
    case round =>
      clear HO c0
      obtain ⟨k, hk, rfl, Sr⟩ := hrel
      have HO := hid Sr
      clear Sr
      by_cases hlt : k < S.vols.length
      · obtain ⟨g, cap', hsv, c0⟩ := row1 (HO.out.pick 1) k hlt
        cases hsv
        have hk1 : (k : Int) < (S.vols.length : Int) := by omega
        have hk0 : (0 : Int) ≤ (k : Int) := by omega
        obtain ⟨h1, h2, h3, h4⟩ := HSV.out _ (List.getElem_mem hlt)
        obtain ⟨p, v, hpv⟩ : ∃ p v, S.vols[k] = (p, v) := ⟨_, _, rfl⟩
        have hx : (turnL (onV f) k S.vols)[k]? = some (p, v) := by rw [turnL_get _ _ _ hlt, hpv]
        have hset : (turnL (onV f) k S.vols).set k (p, f v) = turnL (onV f) (k + 1) S.vols := by
          have h := turnL_succ (onV f) k S.vols hlt
          rw [hpv] at h
          exact h
        rw [hpv] at h1 h2 h3 h4 c0
        replace h1 : v.ok := h1
        replace h2 : ∀ l, crashV v l = f v := h2
        replace h3 : (f v).ok := h3
        replace h4 : trimS (f v) = (5, f v) := h4
        have HX := hid hx
        have HSET := hid hset
        have HH := hid (⟨h1, h2, h3, h4⟩ : _ ∧ _ ∧ _ ∧ _)
        obtain ⟨m, hm⟩ : ∃ m : Nat, min ((2 : Int) * (k : Int)) (zl : Int) = (m : Int) := ⟨min (2 * k) zl, by omega⟩
        have HM := hid hm
        have hm1 : m ≤ zl := by omega
        have hm3 : (m : Int) ≤ (zl : Int) := by omega
        have hm0 : (0 : Int) ≤ (m : Int) := by omega
        have hm2 : (2 : Int) * (k : Int) ≤ 2000 := by omega
        clear hx hset h1 h2 h3 h4 hm hpv
        have H0 := hid ((HO.out.pick 3).volTake k HX.out)
        clear HO
        have z1 : (zs.drop m).length = zl - m := by rw [List.length_drop, HZL.out]
        have z3 : ∀ z ∈ zs.drop m, -9223372036854775808 ≤ z ∧ z ≤ 9223372036854775807 := fun z hz => HZB.out z (List.mem_of_mem_drop hz)
        have z4 : zl - m ≤ 9223372036854775807 := by omega
        have Z1 := hid z1
        clear z1
        by_cases hmc : m = cc
        · subst hmc
          go_wp2_with (refine wpList_min (o := ⟨some 40, _, _, _, _, _⟩) rfl rfl rfl rfl HM.out ?_)
          have hc := vcrash ca 0 0 [] rfl (by omega) (fun i hi => absurd hi (Nat.not_lt_zero _)) (by simp) HH.out.1 (HH.out.2.1 []) H0.out
          (with_reducible refine hc.mono ?_)
          clear hc
          rintro e w5 ⟨rfl, S5⟩
          have H5 := hid S5
          clear S5 H0 c0
          go_wp2_with fail
          refine (vtrim HH.out.2.2.1 HH.out.2.2.2 H5.out).mono ?_; rintro e w6 ⟨rfl, S6⟩
          have S7 := S6.volPut HX.out
          rw [HSET.out] at S7
          have H7 := hid (((S7.pick 3).pick 3).pick 3)
          clear S6 S7 H5
          go_wp2_with fail
          go_roundw
          case rel => exact ⟨k + 1, by omega, by go_num, H7.out⟩
          case measure => (simp [intOf] <;> omega)
        · have z2 : Rd I (ca.map fun x => x.add m) ((zs.drop m).map (Value.int .i64)) := by rw [List.map_drop]; exact rd_drop HZ.out m
          have Z2 := hid z2
          clear z2
          go_wp2_with (refine wpList_min (o := ⟨some 40, _, _, _, _, _⟩) rfl rfl rfl rfl HM.out ?_)
          (with_reducible refine (vcrash (ca.map fun x => x.add m) (cc - m) (zl - m) (zs.drop m) Z1.out z4 Z2.out z3 HH.out.1 (HH.out.2.1 (zs.drop m)) H0.out).mono ?_)
          rintro e w5 ⟨rfl, S5⟩
          have H5 := hid S5
          clear S5 H0 c0
          go_wp2_with fail
          refine (vtrim HH.out.2.2.1 HH.out.2.2.2 H5.out).mono ?_; rintro e w6 ⟨rfl, S6⟩
          have S7 := S6.volPut HX.out
          rw [HSET.out] at S7
          have H7 := hid (((S7.pick 3).pick 3).pick 3)
          clear S6 S7 H5
          go_wp2_with fail
          go_roundw
          case rel => exact ⟨k + 1, by omega, by go_num, H7.out⟩
          case measure => (simp [intOf] <;> omega)
      · obtain rfl : k = S.vols.length := by omega
        rw [turnL_all] at HO
        go_wp2_with fail
        go_returns
        refine ⟨rfl, Sat.libShut (T := {S with drs := S.drs.map crD, vols := S.vols.map (onV f)}) (n := S.vols.length) (m := S.drs.length) (av := av) (ad := ad) (cv := cv) (cd := cd) (by simp) (by simp) ?_⟩
        have e := turn_ptrs f S.vols.length S.vols
        rw [turnL_all] at e
        show Sat w0 I (_ :: row _ 1 _ _ (ptrs (S.vols.map (onV f))) :: _) _
        rw [e]
        exact HO.out
end
end Go.Proofs.YtekioplbfoonkaaGreatDoor
namespace Go.Proofs.YtekioplbfoonkaaGreatDoor
open Go.RowKit
set_option linter.unusedVariables false
set_option maxRecDepth 100000
section
variable {lab : ByteArray} {er room : Int} {es : List (Nat × ByteArray)} {at_ : Nat}
theorem crash_tp (h : TpOk lab er room es (tapeB lab es).length at_) (l : List Int) : crashV (tpv lab er room es (tapeB lab es).length at_) l = tpv lab er room es (tapeB lab es).length 0 := by
  have hN : crashN (tpv lab er room es (tapeB lab es).length at_) l = (tapeB lab es).length := by
    have h1 := pickM_bd l 0 (((tpv lab er room es (tapeB lab es).length at_).bl.length : Int) - (tpv lab er room es (tapeB lab es).length at_).sure + 1)
    unfold crashN
    have e1 : (tpv lab er room es (tapeB lab es).length at_).bl.length = (tapeB lab es).length := rfl
    have e2 : (tpv lab er room es (tapeB lab es).length at_).sure = (tapeB lab es).length := rfl
    rw [e1, e2] at h1 ⊢
    omega
  have hB : crashB (tpv lab er room es (tapeB lab es).length at_) l = [] := by
    unfold crashB
    rw [dif_neg (by rw [hN]; show ¬ (tapeB lab es).length < (tapeB lab es).length; omega)]
  unfold crashV
  rw [hN, hB]
  show ({ tpv lab er room es (tapeB lab es).length at_ with bl := (tapeB lab es).take (tapeB lab es).length ++ [], sure := (tapeB lab es).length + 0, at_ := 0 } : Vst) = _
  rw [List.take_length, List.append_nil]
  rfl
theorem trim_tp (h : TpOk lab er room es (tapeB lab es).length at_) : trimS (tpv lab er room es (tapeB lab es).length 0) = (5, tpv lab er room es (tapeB lab es).length 0) := by
  have ht : tornL (tpv lab er room es (tapeB lab es).length 0).bl = false := tornL_all (tape_snoc h.hlab es h.hes (by have := h.hlen; omega)).1
  unfold trimS
  rw [if_pos (show tryE _ _ = 0 from rfl), if_neg (by rw [ht]; simp)]
  rfl
end
section
variable {w0 w : World} {I : Part} {L : List HP} {q : Nat} {room : Int} {P Q : Lst → Prop} {ps : List Nat} {t : Nat → TV}
def at0 (v : Vst) : Vst := {v with at_ := 0}
theorem lcrashP (hP : ∀ S, P S → S.drs.length ≤ 1000 ∧ ∀ vs, Q {S with drs := S.drs.map crD, vols := vs}) (hps : ps.length ≤ 1000) (ca : Option Addr) (zl cc : Nat) (zs : List Int) (hzl : zs.length = zl) (hzm : zl ≤ cc ∧ cc ≤ 9223372036854775807) (hz : Rd I ca (zs.map (Value.int .i64))) (hzb : ∀ z ∈ zs, -9223372036854775808 ≤ z ∧ z ≤ 9223372036854775807)
    (H : Sat w0 I (libP room q P ps t :: L) w) :
    Calls Tryz.prog 11 #[.pointer (some ⟨q, 0, none⟩), .slice ca zl cc] w fun e w' => e = .returned (.tuple #[]) ∧ Sat w0 I (libP room q Q ps t :: L) w' := by
  obtain ⟨S, hvs, hp, H1⟩ := H.libVo
  obtain ⟨hd, hq⟩ := hP S hp
  have key : ∀ x ∈ S.vols, ∃ (j : Nat) (at_ : Nat), ∃ hj : j < ps.length, TpOk (t j).lab (t j).er room (t j).es (tapeB (t j).lab (t j).es).length at_ ∧ x.2 = tpv (t j).lab (t j).er room (t j).es (tapeB (t j).lab (t j).es).length at_ := by
    intro x hx
    obtain ⟨j, hj, rfl⟩ := List.getElem_of_mem hx
    have hj' : j < ps.length := by rw [← hvs.len]; exact hj
    obtain ⟨a, h1, h2⟩ := hvs.get j hj' hj
    exact ⟨j, a, hj', h1, by rw [h2]⟩
  refine (lcrash_gen ca zl cc zs hzl hzm hz hzb at0 (fun x hx => ?_) hd (by rw [hvs.len]; exact hps) H1).mono fun e w' ⟨h1, h2⟩ => ⟨h1, Sat.toLibV (S := {S with drs := S.drs.map crD, vols := S.vols.map (onV at0)}) ⟨by simpa using hvs.len, fun j hj h2 => ?_⟩ (hq _) h2⟩
  · obtain ⟨j, a, hj, k1, k2⟩ := key x hx
    have e0 : at0 (tpv (t j).lab (t j).er room (t j).es (tapeB (t j).lab (t j).es).length a) = tpv (t j).lab (t j).er room (t j).es (tapeB (t j).lab (t j).es).length 0 := rfl
    rw [k2, e0]
    have k3 : TpOk (t j).lab (t j).er room (t j).es (tapeB (t j).lab (t j).es).length 0 := ⟨k1.hlab, k1.her, k1.hroom, k1.hes, k1.hlen, k1.hsure, Nat.zero_le _⟩
    exact ⟨k1.fit.ok, fun l => crash_tp k1 l, k3.fit.ok, trim_tp k1⟩
  · have h3 : j < S.vols.length := by rw [hvs.len]; exact hj
    obtain ⟨a, k1, k2⟩ := hvs.get j hj h3
    refine ⟨0, ⟨k1.hlab, k1.her, k1.hroom, k1.hes, k1.hlen, k1.hsure, Nat.zero_le _⟩, ?_⟩
    show (S.vols.map (onV at0))[j]'_ = _
    rw [List.getElem_map, k2]
    rfl
end
/-! ### one drive, and what it was moved -/
structure One (vol mv : Int) (k : Nat) (S : Lst) : Prop where
  drs : ∃ u, S.drs = [⟨vol, 0, u, false⟩]
  moves : S.moves = mv
  mv0 : 0 ≤ mv
  mv1 : mv ≤ k
  mounts0 : 0 ≤ S.mounts
  mounts : S.mounts ≤ k
theorem one_mnt {vol mv : Int} {k : Nat} (hk : k ≤ 1000) (i : Nat) : Mnt (One vol mv k) (One (i : Int) (if (i : Int) = vol then mv else mv + 1) (k + 1)) i := by
  intro S h hf hi
  have m0 := h.mounts0; have m1 := h.mounts; have v0 := h.mv0; have v1 := h.mv1; have hm := h.moves
  obtain ⟨u, hd⟩ := h.drs
  refine ⟨⟨by omega, by omega, by omega, by omega⟩, ?_⟩
  rw [mountS_fine rfl hf (by omega) (by omega)]
  have h0 : ¬ (i : Int) < 0 := by omega
  by_cases e : (i : Int) = vol
  · refine ⟨0, {S with drs := [⟨vol, 0, S.mounts + 1, false⟩], mounts := S.mounts + 1}, ?_, rfl, fun vs => ?_⟩
    · simp [hd, inF, List.findIdx?_cons, e, show ¬ vol < 0 by omega]
    · rw [if_pos e]
      exact ⟨⟨_, by rw [e]⟩, hm, v0, by omega, by show 0 ≤ S.mounts + 1; omega, by show S.mounts + 1 ≤ ((k + 1 : Nat) : Int); omega⟩
  · have e2 : ¬ vol = (i : Int) := fun x => e x.symm
    refine ⟨0, {S with drs := [⟨(i : Int), 0, S.mounts + 1, false⟩], moves := S.moves + 1, mounts := S.mounts + 1}, ?_, rfl, fun vs => ?_⟩
    · simp [hd, inF, List.findIdx?_cons, h0, e2, nextF]
    · rw [if_neg e]
      exact ⟨⟨_, rfl⟩, by show S.moves + 1 = mv + 1; omega, by omega, by omega, by show 0 ≤ S.mounts + 1; omega, by show S.mounts + 1 ≤ ((k + 1 : Nat) : Int); omega⟩
theorem one_crash {vol mv : Int} {k : Nat} (S : Lst) (h : One vol mv k S) : S.drs.length ≤ 1000 ∧ ∀ vs, One (-1) mv k {S with drs := S.drs.map crD, vols := vs} := by
  obtain ⟨u, hd⟩ := h.drs
  refine ⟨by rw [hd]; simp, fun vs => ⟨⟨0, ?_⟩, h.moves, h.mv0, h.mv1, h.mounts0, h.mounts⟩⟩
  show S.drs.map crD = _
  rw [hd]; rfl
theorem calm_crash {k : Nat} (S : Lst) (h : Calm k S) (hl : S.drs.length ≤ 1000) : ∀ vs, Calm k {S with drs := S.drs.map crD, vols := vs} := fun vs =>
  ⟨by simpa using h.any, fun d hd => by
    obtain ⟨x, hx, rfl⟩ := List.mem_map.1 hd
    exact ⟨rfl, (h.free x hx).2⟩, h.moves0, h.moves, h.mounts0, h.mounts⟩
end Go.Proofs.YtekioplbfoonkaaGreatDoor
