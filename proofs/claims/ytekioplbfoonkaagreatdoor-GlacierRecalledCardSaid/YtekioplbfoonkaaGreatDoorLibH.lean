/- Libraries: contract of Crash, of volumes of which a crash takes nothing. -/
import Derived.Test.YtekioplbfoonkaaGreatDoorLibG
namespace Go.Proofs.YtekioplbfoonkaaGreatDoor
open Go.RowKit
set_option linter.unusedVariables false
set_option maxRecDepth 100000
set_option maxHeartbeats 2000000
/-- the first k are turned. -/
def turnL {α : Type} (f : α → α) (k : Nat) (l : List α) : List α := (l.take k).map f ++ l.drop k
theorem turnL_len {α : Type} (f : α → α) (k : Nat) (l : List α) : (turnL f k l).length = l.length := by simp [turnL]; omega
theorem turnL_zero {α : Type} (f : α → α) (l : List α) : turnL f 0 l = l := by simp [turnL]
theorem turnL_all {α : Type} (f : α → α) (l : List α) : turnL f l.length l = l.map f := by simp [turnL]
theorem turnL_get {α : Type} (f : α → α) (k : Nat) (l : List α) (h : k < l.length) : (turnL f k l)[k]? = some l[k] := by
  unfold turnL
  rw [List.getElem?_append_right (by simp; omega)]
  simp [Nat.min_eq_left (Nat.le_of_lt h), h]
theorem turnL_succ {α : Type} (f : α → α) (k : Nat) (l : List α) (h : k < l.length) : (turnL f k l).set k (f l[k]) = turnL f (k + 1) l := by
  unfold turnL
  rw [List.set_append_right _ _ (by simp; omega), List.take_succ_eq_append_getElem h, List.map_append, List.append_assoc]
  congr 1
  have e : k - ((l.take k).map f).length = 0 := by simp; omega
  rw [e, List.drop_eq_getElem_cons h]
  rfl
theorem rd_drop {I : Part} {ca : Option Addr} {vs : List Value} (h : Rd I ca vs) (m : Nat) : Rd I (ca.map fun x => x.add m) (vs.drop m) := by
  intro i hi
  rw [List.length_drop] at hi
  obtain ⟨b, off, ha, hc⟩ := h (m + i) (by omega)
  have e : (⟨b, off, none⟩ : Addr).add m = ⟨b, off + m, none⟩ := by unfold Addr.add; split <;> simp_all
  refine ⟨b, off + m, by rw [ha, ← e]; rfl, ?_⟩
  rw [Nat.add_assoc, hc, List.getElem_drop]
def onV (f : Vst → Vst) (x : Nat × Vst) : Nat × Vst := (x.1, f x.2)
theorem turn_ptrs (f : Vst → Vst) (k : Nat) (l : List (Nat × Vst)) : ptrs (turnL (onV f) k l) = ptrs l := by
  unfold ptrs turnL
  rw [List.map_append, List.map_map]
  have e : (fun x : Nat × Vst => ptrV x.1) ∘ onV f = fun x => ptrV x.1 := rfl
  rw [e, ← List.map_append, List.take_append_drop]
section
variable {w0 w : World} {I : Part} {L : List HP} {q : Nat} {S : Lst}
set_option maxRecDepth 100000 in
theorem lcrash_gen (ca : Option Addr) (zl cc : Nat) (zs : List Int) (hzl : zs.length = zl) (hzm : zl ≤ cc ∧ cc ≤ 9223372036854775807) (hz : Rd I ca (zs.map (Value.int .i64))) (hzb : ∀ z ∈ zs, -9223372036854775808 ≤ z ∧ z ≤ 9223372036854775807)
    (f : Vst → Vst) (hS : ∀ x ∈ S.vols, x.2.ok ∧ (∀ l, crashV x.2 l = f x.2) ∧ (f x.2).ok ∧ trimS (f x.2) = (5, f x.2)) (hd : S.drs.length ≤ 1000) (hv : S.vols.length ≤ 1000) (H : Sat w0 I (libp q S :: L) w) :
    Calls Tryz.prog 11 #[.pointer (some ⟨q, 0, none⟩), .slice ca zl cc] w fun e w' => e = .returned (.tuple #[]) ∧ Sat w0 I (libp q {S with drs := S.drs.map crD, vols := S.vols.map (onV f)} :: L) w' := by
  obtain ⟨av, cv, ad, cd, k1, k2, k3, k4, H1⟩ := H.libOpen
  have c : w.cell? ⟨q, 1, none⟩ = some (.slice ad S.drs.length cd) := H1.isBlk.cell 1 rfl
  have HO := hid H1
  have HSV := hid hS
  have HZ := hid hz
  have HZB := hid hzb
  have HZL := hid hzl
  clear H H1 hS hz hzb hzl
  go_enter Tryz.func11, Tryz.ntmps11
  go_upto_block 0 with fail
  go_cut [13] (fun _ wx => Sat w0 I (blk q 99 [.slice av S.vols.length cv, .slice ad S.drs.length cd, .int .i64 S.moves, .int .i64 S.mounts] :: row 47 1 (.slice av S.vols.length cv) S.vols.length (ptrs S.vols) :: row 101 4 (.slice ad S.drs.length cd) S.drs.length ((S.drs.map crD).flatMap dc) :: volsP S.vols :: L) wx)
  case first =>
    go_wp2_with fail
    go_loopw [4, 5, 13] (fun _ _ i wr => ∃ k : Nat, k ≤ S.drs.length ∧ i = .int .i64 k ∧ Sat w0 I (blk q 99 [.slice av S.vols.length cv, .slice ad S.drs.length cd, .int .i64 S.moves, .int .i64 S.mounts] :: row 47 1 (.slice av S.vols.length cv) S.vols.length (ptrs S.vols) :: row 101 4 (.slice ad S.drs.length cd) S.drs.length ((crL k S.drs).flatMap dc) :: volsP S.vols :: L) wr) (fun _ _ i _ => S.drs.length - (intOf i).toNat)
    case atStart => exact ⟨0, Nat.zero_le _, rfl, by rw [crL_zero]; exact HO.out⟩
    case round =>
      clear HO c
      obtain ⟨k, hk, rfl, Sr⟩ := hrel
      have HO := hid Sr
      clear Sr
      by_cases hlt : k < S.drs.length
      · have hl := crL_len k S.drs (by omega)
        obtain ⟨g, cap', hsv, c0, c1, c2, c3, _⟩ := row4n hl (HO.out.pick 2) k (by omega)
        cases hsv
        have hk1 : (k : Int) < (S.drs.length : Int) := by omega
        have hk0 : (0 : Int) ≤ (k : Int) := by omega
        rw [crL_get k S.drs hlt] at c0 c1 c2 c3
        have HSU := hid (crL_succ k S.drs hlt)
        unfold crD at HSU
        generalize S.drs[k] = x at *
        have HL := hid hl
        clear hl
        go_wp2_with fail
        refine (lbreak_open (l := crL k S.drs) HL.out x.broken hlt (HO.out.alloc_ _)).mono ?_; rintro e w5 ⟨rfl, S5⟩
        rw [HSU.out] at S5
        have H5 := hid S5
        clear S5 HO c0 c1 c2 c3
        go_wp2_with fail
        go_roundw
        case rel => exact ⟨k + 1, by omega, by go_num, H5.out⟩
        case measure => (simp [intOf] <;> omega)
      · obtain rfl : k = S.drs.length := by omega
        rw [crL_all] at HO
        go_wp2_with fail
        go_meet
        exact HO.out
  case rest =>
    have c0 : wc.cell? ⟨q, 0, none⟩ = some (.slice av S.vols.length cv) := hcut.isBlk.cell 0 rfl
    have HO := hid hcut
    clear hcut c
    go_wp2_with fail
    go_loopw [6, 7, 29] (fun _ _ i wr => ∃ k : Nat, k ≤ S.vols.length ∧ i = .int .i64 k ∧ Sat w0 I (blk q 99 [.slice av S.vols.length cv, .slice ad S.drs.length cd, .int .i64 S.moves, .int .i64 S.mounts] :: row 47 1 (.slice av S.vols.length cv) S.vols.length (ptrs S.vols) :: row 101 4 (.slice ad S.drs.length cd) S.drs.length ((S.drs.map crD).flatMap dc) :: volsP (turnL (onV f) k S.vols) :: L) wr) (fun _ _ i _ => S.vols.length - (intOf i).toNat)
    case atStart => exact ⟨0, Nat.zero_le _, rfl, by rw [turnL_zero]; exact HO.out⟩
    case round =>
      clear HO c0
      obtain ⟨k, hk, rfl, Sr⟩ := hrel
      have HO := hid Sr
      clear Sr
      by_cases hlt : k < S.vols.length
      · obtain ⟨g, cap', hsv, c0⟩ := row1 (HO.out.pick 1) k hlt
        cases hsv
        have hk1 : (k : Int) < (S.vols.length : Int) := by omega
        have hk0 : (0 : Int) ≤ (k : Int) := by omega
        obtain ⟨h1, h2, h3, h4⟩ := HSV.out _ (List.getElem_mem hlt)
        obtain ⟨p, v, hpv⟩ : ∃ p v, S.vols[k] = (p, v) := ⟨_, _, rfl⟩
        have hx : (turnL (onV f) k S.vols)[k]? = some (p, v) := by rw [turnL_get _ _ _ hlt, hpv]
        have hset : (turnL (onV f) k S.vols).set k (p, f v) = turnL (onV f) (k + 1) S.vols := by
          have h := turnL_succ (onV f) k S.vols hlt
          rw [hpv] at h
          exact h
        rw [hpv] at h1 h2 h3 h4 c0
        replace h1 : v.ok := h1
        replace h2 : ∀ l, crashV v l = f v := h2
        replace h3 : (f v).ok := h3
        replace h4 : trimS (f v) = (5, f v) := h4
        have HX := hid hx
        have HSET := hid hset
        have HH := hid (⟨h1, h2, h3, h4⟩ : _ ∧ _ ∧ _ ∧ _)
        obtain ⟨m, hm⟩ : ∃ m : Nat, min ((2 : Int) * (k : Int)) (zl : Int) = (m : Int) := ⟨min (2 * k) zl, by omega⟩
        have HM := hid hm
        have hm1 : m ≤ zl := by omega
        have hm3 : (m : Int) ≤ (zl : Int) := by omega
        have hm0 : (0 : Int) ≤ (m : Int) := by omega
        have hm2 : (2 : Int) * (k : Int) ≤ 2000 := by omega
        clear hx hset h1 h2 h3 h4 hm hpv
        have H0 := hid ((HO.out.pick 3).volTake k HX.out)
        clear HO
        have z1 : (zs.drop m).length = zl - m := by rw [List.length_drop, HZL.out]
        have z3 : ∀ z ∈ zs.drop m, -9223372036854775808 ≤ z ∧ z ≤ 9223372036854775807 := fun z hz => HZB.out z (List.mem_of_mem_drop hz)
        have z4 : zl - m ≤ 9223372036854775807 := by omega
        have Z1 := hid z1
        clear z1
        by_cases hmc : m = cc
        · subst hmc
          go_wp2_with (refine wpList_min (o := ⟨some 40, _, _, _, _, _⟩) rfl rfl rfl rfl HM.out ?_)
          have hc := vcrash ca 0 0 [] rfl (by omega) (fun i hi => absurd hi (Nat.not_lt_zero _)) (by simp) HH.out.1 (HH.out.2.1 []) H0.out
          (with_reducible refine hc.mono ?_)
          clear hc
          rintro e w5 ⟨rfl, S5⟩
          have H5 := hid S5
          clear S5 H0 c0
          go_wp2_with fail
          refine (vtrim HH.out.2.2.1 HH.out.2.2.2 H5.out).mono ?_; rintro e w6 ⟨rfl, S6⟩
          have S7 := S6.volPut HX.out
          rw [HSET.out] at S7
          have H7 := hid (((S7.pick 3).pick 3).pick 3)
          clear S6 S7 H5
          go_wp2_with fail
          go_roundw
          case rel => exact ⟨k + 1, by omega, by go_num, H7.out⟩
          case measure => (simp [intOf] <;> omega)
        · have z2 : Rd I (ca.map fun x => x.add m) ((zs.drop m).map (Value.int .i64)) := by rw [List.map_drop]; exact rd_drop HZ.out m
          have Z2 := hid z2
          clear z2
          go_wp2_with (refine wpList_min (o := ⟨some 40, _, _, _, _, _⟩) rfl rfl rfl rfl HM.out ?_)
          (with_reducible refine (vcrash (ca.map fun x => x.add m) (cc - m) (zl - m) (zs.drop m) Z1.out z4 Z2.out z3 HH.out.1 (HH.out.2.1 (zs.drop m)) H0.out).mono ?_)
          rintro e w5 ⟨rfl, S5⟩
          have H5 := hid S5
          clear S5 H0 c0
          go_wp2_with fail
          refine (vtrim HH.out.2.2.1 HH.out.2.2.2 H5.out).mono ?_; rintro e w6 ⟨rfl, S6⟩
          have S7 := S6.volPut HX.out
          rw [HSET.out] at S7
          have H7 := hid (((S7.pick 3).pick 3).pick 3)
          clear S6 S7 H5
          go_wp2_with fail
          go_roundw
          case rel => exact ⟨k + 1, by omega, by go_num, H7.out⟩
          case measure => (simp [intOf] <;> omega)
      · obtain rfl : k = S.vols.length := by omega
        rw [turnL_all] at HO
        go_wp2_with fail
        go_returns
        refine ⟨rfl, Sat.libShut (T := {S with drs := S.drs.map crD, vols := S.vols.map (onV f)}) (n := S.vols.length) (m := S.drs.length) (av := av) (ad := ad) (cv := cv) (cd := cd) (by simp) (by simp) ?_⟩
        have e := turn_ptrs f S.vols.length S.vols
        rw [turnL_all] at e
        show Sat w0 I (_ :: row _ 1 _ _ (ptrs (S.vols.map (onV f))) :: _) _
        rw [e]
        exact HO.out
end
end Go.Proofs.YtekioplbfoonkaaGreatDoor
