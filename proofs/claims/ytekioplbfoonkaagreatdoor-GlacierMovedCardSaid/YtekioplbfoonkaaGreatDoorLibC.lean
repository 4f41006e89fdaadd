/- Libraries: contract of New. -/
import Derived.Test.YtekioplbfoonkaaGreatDoorLibB
import Derived.Test.YtekioplbfoonkaaGreatDoorMg1
namespace Go.Proofs.YtekioplbfoonkaaGreatDoor
open Go.RowKit
set_option linter.unusedVariables false
set_option maxRecDepth 100000
set_option maxHeartbeats 2000000
/-- a volume that was just made. -/
def vNew (r : Int) : Vst := ⟨max r 0, false, 0, ⟨#[]⟩, [], 0, 0, 0, false⟩
section
variable {w0 w : World} {I : Part} {L : List HP} {q : Nat} {S : Lst}
theorem Sat.libNew (h : Sat w0 I L w) (hq : q = w.heap.size) : Sat w0 I (libp q ⟨[], [], 0, 0⟩ :: L) (w.alloc (.cells #[.slice none 0 0, .slice none 0 0, .int .i64 0, .int .i64 0] 99)) := by
  have h1 : Sat w0 I (volsP [] :: L) w := h.add.weaken fun g _ => trivial
  have h2 := ((h1.nilRow 101 4).nilRow 47 1).alloc (b := q) (T := 99) (cs := [.slice none 0 0, .slice none 0 0, .int .i64 0, .int .i64 0]) rfl hq
  exact Sat.libClose (S := ⟨[], [], 0, 0⟩) (av := none) (ad := none) (cv := 0) (cd := 0) h2
theorem Sat.volAdd {l : List (Nat × Vst)} {p : Nat} {v : Vst} (h : Sat w0 I (volp p v :: volsP l :: L) w) : Sat w0 I (volsP (l ++ [(p, v)]) :: L) w := by
  have h1 : Sat w0 I (volsP l :: volp p v :: L) w := h.swap
  have h2 : Sat w0 I (l.map (fun x => volp x.1 x.2) ++ (volp p v :: L)) w := h1.flat
  have h3 : Sat w0 I ((l ++ [(p, v)]).map (fun x => volp x.1 x.2) ++ L) w := by
    rw [List.map_append, List.append_assoc]; exact h2
  exact h3.join
theorem mnew_min {d : Int} {m : Nat} (h : (m : Int) = min (max d 0) 3) : max d 0 = max d 0 ∧ min (max d 0) 3 = (m : Int) := ⟨rfl, h.symm⟩
set_option maxRecDepth 100000 in
set_option maxHeartbeats 4000000 in
theorem lnew_sat (ra : Option Addr) (n rc : Nat) (zs : List Int) (d : Int) (m : Nat) (hm : (m : Int) = min (max d 0) 3) (hn : zs.length = n) (hr : Rd I ra (zs.map (Value.int .i64))) (hz : ∀ z ∈ zs, -9223372036854775808 ≤ z ∧ z ≤ 9223372036854775807) (hn2 : n ≤ 1000000) (H : Sat w0 I L w) :
    Calls Tryz.prog 7 #[.slice ra n rc, .int .i64 d] w fun e w' => ∃ (q : Nat) (ps : List Nat), e = .returned (.pointer (some ⟨q, 0, none⟩)) ∧ ps.length = n ∧ Sat w0 I (libp q ⟨ps.zip (zs.map vNew), List.replicate m ⟨-1, 0, 0, false⟩, 0, 0⟩ :: L) w' := by
  have HS := hid H
  have HR := hid hr
  have HZ := hid hz
  have HN := hid hn
  obtain ⟨hM, hm1, hm2⟩ : min (max d 0) 3 = (m : Int) ∧ 0 ≤ m ∧ m ≤ 3 := by omega
  have HM := hid hM
  clear H hr hz hm hn hM
  obtain ⟨q, hq⟩ : ∃ q, w.heap.size = q := ⟨_, rfl⟩
  go_enter Tryz.func7, Tryz.ntmps7
  go_wp2_with fail
  refine wp_gen (fun w1 => Sat w0 I (libp q ⟨[], [], 0, 0⟩ :: L) w1) (HS.out.libNew hq.symm) ?_
  clear HS
  try rw [hq]
  clear hq
  intro w1 S1
  go_loopw [7, 12] (fun _ i wr => ∃ (k : Nat) (ps : List Nat), k ≤ n ∧ ps.length = k ∧ i = .int .i64 k ∧ Sat w0 I (libp q ⟨ps.zip ((zs.take k).map vNew), [], 0, 0⟩ :: L) wr) (fun _ i _ => n - (intOf i).toNat)
  case atStart => exact ⟨0, [], Nat.zero_le _, rfl, rfl, by simpa using S1⟩
  case round =>
    clear S1
    obtain ⟨k, ps, hk, hps, rfl, Sr⟩ := hrel
    by_cases hlt : k < n
    · have hzk : k < zs.length := by have := HN.out; omega
      obtain ⟨b', off, rfl, c9⟩ := HR.out.get Sr k (u := .int .i64 zs[k]) (by simp [hzk])
      have hzb := HZ.out zs[k] (List.getElem_mem hzk)
      have htk : zs.take (k + 1) = zs.take k ++ [zs[k]] := List.take_succ_eq_append_getElem hzk
      have hvl : (ps.zip ((zs.take k).map vNew)).length = k := by simp; omega
      generalize zs[k] = z at *
      generalize hvs : ps.zip ((zs.take k).map vNew) = vs at *
      have HTK := hid htk
      have HVS := hid hvs
      have HPS := hid hps
      obtain ⟨av, cv, ad, cd, k1, k2, _, _, S2⟩ := Sr.libOpen
      simp only at k1 S2
      rw [hvl] at k1 S2
      have HVL := hid hvl
      have hk0 : (0 : Int) ≤ (k : Int) := by omega
      have hk9 : (k : Int) < (n : Int) := by omega
      have e0 : wr.cell? ⟨q, 0, none⟩ = some (.slice av k cv) := S2.isBlk.cell 0 rfl
      have HO := hid S2
      clear S2 Sr htk hvs hps hvl
      go_wp2_with fail
      go_region_law (first
        | (go_simp; go_at_call 39; refine (vnew z HO.out.drew).mono ?_; rintro e w6 ⟨p, rfl, S6⟩; have p0 : w6.cell? ⟨q, 0, none⟩ = some (.slice av k cv) := (S6.pick 1).isBlk.cell 0 rfl; have p1 := fun o => cell_alloc p0 o; have HS6 := hid S6; clear S6)
        | (refine step_appS slPtr (by rfl) (.tmp 20) (.tmp 23) (by rfl) (HS6.out.pick 2) [ptrV p] (by rfl) (by rfl) (by rfl) (by rfl) (by intro u hu; simp at hu; subst hu; rfl) (by omega) (by omega) ?_; intro ad2 cap2 w7 k5 k6 S7; have r0 := (S7.pick 2).isBlk.cell 0 rfl; have z0 := (S7.pick 2).isBlk.frozen 0))
      all_goals
        have S8 := S7.set2 0 (.slice ad2 (k + 1) cap2) rfl
        have S9 : Sat w0 I (volsP (vs ++ [(p, vNew z)]) :: _) _ := ((S8.pick 1).pick 4).swap.volAdd
        have hpt : ptrs (vs ++ [(p, vNew z)]) = ptrs vs ++ [ptrV p] := by simp [ptrs]
        have S10 : Sat w0 I (libp q ⟨vs ++ [(p, vNew z)], [], 0, 0⟩ :: L) _ := Sat.libShut (T := ⟨vs ++ [(p, vNew z)], [], 0, 0⟩) (n := k + 1) (m := 0) (av := ad2) (cv := cap2) (ad := ad) (cd := cd) (by simp [HVL.out]) rfl (by
          show Sat w0 I (_ :: row _ 1 _ _ (ptrs (vs ++ [(p, vNew z)])) :: _) _
          rw [hpt]; exact ((S9.pick 3).pick 2).pick 3)
        have e1 : (ps ++ [p]).zip ((zs.take (k + 1)).map vNew) = vs ++ [(p, vNew z)] := by
          rw [HTK.out, List.map_append, List.zip_append (by simp [HPS.out]; omega), HVS.out]; rfl
        rw [← e1] at S10
        have H10 := hid S10
        clear S7 S8 S9 S10 hpt e1 HS6 HO p0 p1 r0 z0 e0
        go_wp2_with fail
        go_roundw
        case rel => exact ⟨k + 1, ps ++ [p], by omega, by simp [HPS.out], by go_num, H10.out⟩
        case measure => (simp [intOf] <;> omega)
    · obtain rfl : k = n := by omega
      have htk : zs.take k = zs := List.take_of_length_le (by have := HN.out; omega)
      rw [htk] at Sr
      generalize hvs2 : ps.zip (zs.map vNew) = vs2 at *
      have HV2 := hid hvs2
      have HO := hid Sr
      have HPS := hid hps
      clear Sr htk hps hvs2
      go_wp2_with (first | (refine wpList_max (o := ⟨some 29, _, _, _, _, _⟩) rfl rfl rfl rfl rfl ?_) | (refine wpList_min (o := ⟨some 30, _, _, _, _, _⟩) rfl rfl rfl rfl HM.out ?_))
      go_loopw [31] (fun i wr => ∃ j : Nat, j ≤ m ∧ i = .int .i64 j ∧ Sat w0 I (libp q ⟨vs2, List.replicate j ⟨-1, 0, 0, false⟩, 0, 0⟩ :: L) wr) (fun i _ => m - (intOf i).toNat)
      case atStart => exact ⟨0, Nat.zero_le _, rfl, HO.out⟩
      case round =>
        clear HO
        obtain ⟨j, hj, rfl, Sr⟩ := hrel
        by_cases hlt2 : j < m
        · obtain ⟨av, cv, ad, cd, k1, k2, k3, k4, S2⟩ := Sr.libOpen
          simp only [List.length_replicate] at k3 S2
          have e0 : wr.cell? ⟨q, 1, none⟩ = some (.slice ad j cd) := S2.isBlk.cell 1 rfl
          have f0 := S2.isBlk.frozen 1
          have H2 := hid S2
          have j1 : (j : Int) < (m : Int) := by omega
          have j0 : (0 : Int) ≤ (j : Int) := by omega
          clear S2 Sr
          go_wp2_with (at_builtin; refine wpList_appS slDr rfl _ _ rfl (H2.out.pick 2) (dc ⟨-1, 0, 0, false⟩) rfl rfl ?hgs rfl ?h1 ?hb ?hn ?_)
          case hgs => simp
          case h1 => exact dc_one1 _
          case hb => omega
          case hn => omega
          intro ad2 cap2 w5 k5 k6 S5
          have r0 : w5.cell? ⟨q, 1, none⟩ = some (.slice ad j cd) := S5.swap.isBlk.cell 1 rfl
          have z0 := S5.swap.isBlk.frozen 1
          have hfm : (List.replicate j (⟨-1, 0, 0, false⟩ : Dr)).flatMap dc ++ dc ⟨-1, 0, 0, false⟩ = (List.replicate (j + 1) (⟨-1, 0, 0, false⟩ : Dr)).flatMap dc := by
            rw [List.replicate_succ', List.flatMap_append]; simp
          rw [hfm] at S5
          have S6 := S5.set1 1 (.slice ad2 (j + 1) cap2) rfl
          have H6 : Hid (Sat w0 I (libp q ⟨vs2, List.replicate (j + 1) ⟨-1, 0, 0, false⟩, 0, 0⟩ :: L) _) := hid (Sat.libShut2 (n := (vs2).length) (m := j + 1) (av := av) (cv := cv) (ad := ad2) (cd := cap2) rfl (by simp) S6)
          clear S5 S6 H2 e0 f0 hfm
          go_wp2_with fail
          go_roundw
          case rel => exact ⟨j + 1, by omega, by go_num, H6.out⟩
          case measure => (simp [intOf] <;> omega)
        · obtain rfl : j = m := by omega
          have HO := hid Sr
          clear Sr
          go_wp2_with fail
          go_ret
          exact ⟨q, ps, rfl, HPS.out, by rw [HV2.out]; exact HO.out⟩
end
end Go.Proofs.YtekioplbfoonkaaGreatDoor
