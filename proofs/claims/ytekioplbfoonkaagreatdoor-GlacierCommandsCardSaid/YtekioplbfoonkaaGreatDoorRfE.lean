/- Layer 10, a node alone: count. -/
import Derived.Test.YtekioplbfoonkaaGreatDoorRfD
import Derived.OwnWalk
namespace Go.Proofs.YtekioplbfoonkaaGreatDoor
open Go.RowKit
set_option linter.unusedVariables false
set_option maxRecDepth 100000
set_option maxHeartbeats 4000000
theorem infoI1 : (Tryz.prog.info? 3).map (fun i => (i.zero, i.size, i.bytes)) = some (some (.int .i64 0), 1, 8) := by kernel_rfl
theorem infoB1 : (Tryz.prog.info? 4).map (fun i => (i.zero, i.size, i.bytes)) = some (some (.bool false), 1, 1) := by kernel_rfl
theorem run_mkI1 (w : World) : (Instr.makeSlice 23 (.int .i64 1) (.int .i64 1)).run Tryz.prog w = .ok (.slice (some ⟨w.heap.size, 0, none⟩) 1 1) (w.alloc (.cells #[.int .i64 0] 3)) := by
  obtain ⟨i, hi1, hi2, hi3, hi4⟩ := info_parts infoI1
  have hr := run_make (P := Tryz.prog) w 23 3 i (.int .i64 0) Tryz.underlying23 hi1 hi2 .i64 .i64 1 1 (by omega) (by omega) (by rw [hi4]; omega) (by omega)
  have hm : madeCells (Value.int .i64 0).cells 1 = #[.int .i64 0] := by
    apply Array.ext'
    show (madeCells #[Value.int .i64 0] 1).toList = _
    rw [toList_madeCells_one]; rfl
  rw [hr, hi3]
  show Result.ok _ (w.alloc (.cells (madeCells (Value.int .i64 0).cells 1) _)) = _
  rw [hm]; rfl
theorem run_mkB1 (w : World) : (Instr.makeSlice 126 (.int .i64 1) (.int .i64 1)).run Tryz.prog w = .ok (.slice (some ⟨w.heap.size, 0, none⟩) 1 1) (w.alloc (.cells #[.bool false] 4)) := by
  obtain ⟨i, hi1, hi2, hi3, hi4⟩ := info_parts infoB1
  have hr := run_make (P := Tryz.prog) w 126 4 i (.bool false) Tryz.underlying126 hi1 hi2 .i64 .i64 1 1 (by omega) (by omega) (by rw [hi4]; omega) (by omega)
  have hm : madeCells (Value.bool false).cells 1 = #[.bool false] := by
    apply Array.ext'
    show (madeCells #[Value.bool false] 1).toList = _
    rw [toList_madeCells_one]; rfl
  rw [hr, hi3]
  show Result.ok _ (w.alloc (.cells (madeCells (Value.bool false).cells 1) _)) = _
  rw [hm]; rfl
theorem lastI_add (s : Nst) (cmd : ByteArray) : lastI (s.add cmd) = lastI s + 1 := by
  show s.base + (s.log ++ [_]).length = _
  rw [List.length_append]
  unfold lastI
  simp; omega
section
variable {w0 w : World} {I : Part} {L : List HP} {b : Nat} {T : TypeId} {v : Value}
theorem Sat.oneRow (h : Sat w0 I (blk b T [v] :: L) w) : Sat w0 I (row T 1 (.slice (some ⟨b, 0, none⟩) 1 1) 1 [v] :: L) w :=
  h.weaken fun x hx => ⟨by simp, Or.inr ⟨b, 1, #[v], rfl, hx, Nat.le_refl _, by unfold maxLen; omega, by simp, by simp⟩⟩
end
section
variable {w0 w : World} {I : Part} {L : List HP} {p r : Nat} {d : Dst} {s : Nst} {sv ma ne : Value} {leader commit applied timer : Int}
set_option maxHeartbeats 8000000 in
theorem count_sat (hT : Rd I (some ⟨0, 0, none⟩) tabV) {U C : Nat} (h : Dk d U C) (hk : Kd d s) (hok : s.Ok) (hl : s.log.length < 20) (hU : U + 1038 ≤ 1048576) (hC : C ≤ 1000) (hcm : commit < ((lastI s + 1 : Nat) : Int)) (gv cv : Nat) (H : Sat w0 I (blk r 129 (ncells p s sv 1 leader commit applied timer (.slice (some ⟨gv, 0, none⟩) 1 cv) ma ne) :: row 4 1 (.slice (some ⟨gv, 0, none⟩) 1 cv) 1 [.bool true] :: row 73 3 sv s.log.length (s.log.flatMap Ent.cells) :: dskp p d :: L) w) :
    Calls Tryz.prog 123 #[.pointer (some ⟨r, 0, none⟩)] w fun e w' => ∃ D sv' ma' ne', e = .returned (.tuple #[]) ∧ Dk D (U + 1038) (C + 2) ∧ Kd D (s.add ⟨#[]⟩) ∧ Sat w0 I (blk r 129 (ncells p (s.add ⟨#[]⟩) sv' 2 0 ((lastI s + 1 : Nat) : Int) applied timer (.slice none 0 0) ma' ne') :: row 73 3 sv' (s.add ⟨#[]⟩).log.length ((s.add ⟨#[]⟩).log.flatMap Ent.cells) :: row 3 1 ma' 1 [.int .i64 ((lastI s + 1 : Nat) : Int)] :: dskp p D :: L) w' := by
  have hb := hok.base
  have hlI : lastI s + 1 ≤ 200 := by unfold lastI; omega
  obtain ⟨X, hX⟩ : ∃ X, lastI s = X := ⟨_, rfl⟩
  have HX := hid hX
  rw [hX] at hlI
  obtain ⟨Y, hY⟩ : ∃ Y : Int, ((lastI s + 1 : Nat) : Int) = Y := ⟨_, rfl⟩
  have HY := hid hY
  rw [hX] at hY
  have hw : IntKind.i64.wrap ((X : Int) + 1) = Y := by rw [IntWalk.i64_in _ (by omega)]; omega
  have HCM := hid hcm
  have HT := hid hT
  have HD := hid h
  have HK := hid hk
  have HOK := hid hok
  have HH := hid H
  have c14 := H.isBlk.cell 14 (v := .slice (some ⟨gv, 0, none⟩) 1 cv) rfl
  clear hT h hk hok H hX hY hcm
  go_enter Tryz.func123, Tryz.ntmps123
  go_wp2_with fail
  clear c14
  go_loopw [2, 4, 11] (fun n _ k wr => ((k = .int .i64 0 ∧ n = .int .i64 0) ∨ (k = .int .i64 1 ∧ n = .int .i64 1)) ∧ Sat w0 I (blk r 129 (ncells p s sv 1 leader commit applied timer (.slice (some ⟨gv, 0, none⟩) 1 cv) ma ne) :: row 4 1 (.slice (some ⟨gv, 0, none⟩) 1 cv) 1 [.bool true] :: row 73 3 sv s.log.length (s.log.flatMap Ent.cells) :: dskp p d :: L) wr) (fun _ _ k _ => 1 - (intOf k).toNat)
  case atStart => exact ⟨Or.inl ⟨rfl, rfl⟩, HH.out⟩
  case round =>
    clear HH
    obtain ⟨hk, Sr⟩ := hrel
    have e0 := own_cell Sr.swap.isRow 0 (u := .bool true) rfl
    have c2 := Sr.isBlk.cell 2 (v := .int .i64 1) rfl
    have c1 := Sr.isBlk.cell 1 (v := .int .i64 0) rfl
    have c9 := Sr.isBlk.cell 9 (v := .int .i64 1) rfl
    have c10 := Sr.isBlk.cell 10 (v := .int .i64 leader) rfl
    have c14 := Sr.isBlk.cell 14 (v := .slice (some ⟨gv, 0, none⟩) 1 cv) rfl
    have f9 := Sr.isBlk.frozen 9
    have f10 := Sr.isBlk.frozen 10
    have f14 := Sr.isBlk.frozen 14
    have HS := hid Sr
    have HE := hid (((Sr.set 9 (.int .i64 2) rfl).set 10 (.int .i64 0) rfl).set 14 (.slice none 0 0) (cs' := ncells p s sv 2 0 commit applied timer (.slice none 0 0) ma ne) rfl)
    clear Sr
    rcases hk with ⟨rfl, rfl⟩ | ⟨rfl, rfl⟩
    · clear HE c1 c2 c9 c10 c14 f9 f10 f14
      go_wp2_with fail
      go_roundw
      case rel => exact ⟨Or.inr ⟨rfl, rfl⟩, HS.out⟩
      case measure => simp [intOf]
    · clear HS e0
      go_upto_region 9 with fail
      refine wp_gen (fun w1 => Sat w0 I (blk r 129 (ncells p s sv 2 0 commit applied timer (.slice none 0 0) ma ne) :: row 4 1 (.slice (some ⟨gv, 0, none⟩) 1 cv) 1 [.bool true] :: row 73 3 sv s.log.length (s.log.flatMap Ent.cells) :: dskp p d :: L) w1) HE.out ?_
      clear HE c1 c2 c9 c10 c14 f9 f10 f14
      intro w3 S3
      have H3 := hid (S3.swap.drop)
      clear S3
      have c2 := H3.out.isBlk.cell 2 (v := .int .i64 1) rfl
      have c15 := H3.out.isBlk.cell 15 (v := ma) rfl
      have c16 := H3.out.isBlk.cell 16 (v := ne) rfl
      have f15 := H3.out.isBlk.frozen 15
      have f16 := H3.out.isBlk.frozen 16
      have mk := run_mkI1
      have c2' := fun o => cell_alloc c2 o
      have c15' := fun o => cell_alloc c15 o
      have c16' := fun o => cell_alloc c16 o
      have c15'' := fun o o2 => cell_alloc (cell_alloc c15 o) o2
      have c16'' := fun o o2 => cell_alloc (cell_alloc c16 o) o2
      have f15'' := fun o o2 => ((H3.out.alloc_ o).alloc_ o2).isBlk.frozen 15
      have f16'' := fun o o2 => ((H3.out.alloc_ o).alloc_ o2).isBlk.frozen 16
      have f15' := fun o => (H3.out.alloc_ o).isBlk.frozen 15
      have f16' := fun o => (H3.out.alloc_ o).isBlk.frozen 16
      have g15 := fun o v o2 => ((((H3.out.alloc_ o).set 16 v rfl)).alloc_ o2).isBlk.frozen 15
      have g16 := fun o v o2 => ((((H3.out.alloc_ o).set 15 v rfl)).alloc_ o2).isBlk.frozen 16
      have k15 := fun o v o2 => ((((H3.out.alloc_ o).set 16 v rfl)).alloc_ o2).isBlk.cell 15 (v := ma) rfl
      have k16 := fun o v o2 => ((((H3.out.alloc_ o).set 15 v rfl)).alloc_ o2).isBlk.cell 16 (v := ne) rfl
      obtain ⟨g, hg⟩ : ∃ g, w3.heap.size = g := ⟨_, rfl⟩
      have A1 := H3.out.alloc (b := g) (T := 3) (cs := [.int .i64 0]) rfl hg.symm
      have A2 := A1.alloc (b := g + 1) (T := 3) (cs := [.int .i64 0]) rfl (by simp [hg])
      have HA1 := hid ((A2.set2 15 (.slice (some ⟨g, 0, none⟩) 1 1) rfl).set2 16 (.slice (some ⟨g + 1, 0, none⟩) 1 1) (cs' := ncells p s sv 2 0 commit applied timer (.slice none 0 0) (.slice (some ⟨g, 0, none⟩) 1 1) (.slice (some ⟨g + 1, 0, none⟩) 1 1)) rfl).drew
      have HA2 := hid (((A1.set1 15 (.slice (some ⟨g, 0, none⟩) 1 1) rfl).alloc (b := g + 1) (T := 3) (cs := [.int .i64 0]) rfl (by simp [hg])).set2 16 (.slice (some ⟨g + 1, 0, none⟩) 1 1) (cs' := ncells p s sv 2 0 commit applied timer (.slice none 0 0) (.slice (some ⟨g, 0, none⟩) 1 1) (.slice (some ⟨g + 1, 0, none⟩) 1 1)) rfl).drew
      have HA3 := hid ((A2.set2 15 (.slice (some ⟨g + 1, 0, none⟩) 1 1) rfl).set2 16 (.slice (some ⟨g, 0, none⟩) 1 1) (cs' := ncells p s sv 2 0 commit applied timer (.slice none 0 0) (.slice (some ⟨g + 1, 0, none⟩) 1 1) (.slice (some ⟨g, 0, none⟩) 1 1)) rfl).drew
      have HA4 := hid (((A1.set1 16 (.slice (some ⟨g, 0, none⟩) 1 1) rfl).alloc (b := g + 1) (T := 3) (cs := [.int .i64 0]) rfl (by simp [hg])).set2 15 (.slice (some ⟨g + 1, 0, none⟩) 1 1) (cs' := ncells p s sv 2 0 commit applied timer (.slice none 0 0) (.slice (some ⟨g + 1, 0, none⟩) 1 1) (.slice (some ⟨g, 0, none⟩) 1 1)) rfl).drew
      have HG := hid hg
      clear A1 A2 hg
      go_cut [45] (fun _ wx => ∃ gm gn, Sat w0 I (blk r 129 (ncells p s sv 2 0 commit applied timer (.slice none 0 0) (.slice (some ⟨gm, 0, none⟩) 1 1) (.slice (some ⟨gn, 0, none⟩) 1 1)) :: row 3 1 (.slice (some ⟨gm, 0, none⟩) 1 1) 1 [.int .i64 0] :: row 3 1 (.slice (some ⟨gn, 0, none⟩) 1 1) 1 [.int .i64 0] :: row 73 3 sv s.log.length (s.log.flatMap Ent.cells) :: dskp p d :: L) wx)
      case first =>
        go_region
        all_goals
          go_wp2_with fail
          go_meet
          try rw [HG.out]
          first
            | exact ⟨g, g + 1, (HA1.out.oneRow.swap.oneRow.pick 2)⟩
            | exact ⟨g, g + 1, (HA2.out.oneRow.swap.oneRow.pick 2)⟩
            | exact ⟨g + 1, g, (HA3.out.oneRow.swap.oneRow.swap.pick 2)⟩
            | exact ⟨g + 1, g, (HA4.out.oneRow.swap.oneRow.swap.pick 2)⟩
      case rest =>
        clear HA1 HA2 HA3 HA4 HG H3 c2 c15 c16 f15 f16 mk c2' c15' c16' c15'' c16'' f15'' f16'' f15' f16' g15 g16 k15 k16
        obtain ⟨gm, gn, S5⟩ := hcut
        have c16 := S5.isBlk.cell 16 (v := .slice (some ⟨gn, 0, none⟩) 1 1) rfl
        have H5 := hid S5
        clear S5
        go_wp2_with fail
        clear c16
        go_loopw [5, 60] (fun _ k wr => ((k = .int .i64 0 ∧ Sat w0 I (blk r 129 (ncells p s sv 2 0 commit applied timer (.slice none 0 0) (.slice (some ⟨gm, 0, none⟩) 1 1) (.slice (some ⟨gn, 0, none⟩) 1 1)) :: row 3 1 (.slice (some ⟨gm, 0, none⟩) 1 1) 1 [.int .i64 0] :: row 3 1 (.slice (some ⟨gn, 0, none⟩) 1 1) 1 [.int .i64 0] :: row 73 3 sv s.log.length (s.log.flatMap Ent.cells) :: dskp p d :: L) wr) ∨ (k = .int .i64 1 ∧ Sat w0 I (blk r 129 (ncells p s sv 2 0 commit applied timer (.slice none 0 0) (.slice (some ⟨gm, 0, none⟩) 1 1) (.slice (some ⟨gn, 0, none⟩) 1 1)) :: row 3 1 (.slice (some ⟨gm, 0, none⟩) 1 1) 1 [.int .i64 0] :: row 3 1 (.slice (some ⟨gn, 0, none⟩) 1 1) 1 [.int .i64 Y] :: row 73 3 sv s.log.length (s.log.flatMap Ent.cells) :: dskp p d :: L) wr))) (fun _ k _ => 1 - (intOf k).toNat)
        case atStart => exact Or.inl ⟨rfl, H5.out⟩
        case round =>
          clear H5
          rcases hrel with ⟨rfl, Sr⟩ | ⟨rfl, Sr⟩
          · have c16 : wr.cell? ⟨r, 16, none⟩ = some (.slice (some ⟨gn, 0, none⟩) 1 1) := Sr.isBlk.cell 16 rfl
            have HS := hid ((Sr.pick 3).swap)
            clear Sr
            go_upto_region 13 with fail
            go_region_with (first
              | (go_at_call 124; refine (rlast_sat HOK.out HS.out.drew).mono ?_; rintro e w5 ⟨rfl, S5⟩; rw [HX.out]; have q16 : w5.cell? ⟨r, 16, none⟩ = some (.slice (some ⟨gn, 0, none⟩) 1 1) := S5.isBlk.cell 16 rfl; have n0 := own_cell (S5.pick 3).isRow 0 (u := .int .i64 0) rfl; have n1 := own_frozen (S5.pick 3).isRow 0; have H5 := hid S5; clear S5))
            all_goals
              have H6 := hid ((((((H5.out.pick 3).rowSet 0 (.int .i64 Y)).pick 4).pick 3).pick 2).pick 4 |>.pick 4)
              clear H5 HS q16 n0 n1 c16
              go_wp2_with fail
              go_roundw
              case rel => exact Or.inr ⟨rfl, H6.out⟩
              case measure => simp [intOf]
          · have HS := hid (show Sat w0 I (blk r 129 (ncells p s sv 2 0 commit applied timer (.slice none 0 0) (.slice (some ⟨gm, 0, none⟩) 1 1) (.slice (some ⟨gn, 0, none⟩) 1 1)) :: row 73 3 sv s.log.length (s.log.flatMap Ent.cells) :: row 3 1 (.slice (some ⟨gm, 0, none⟩) 1 1) 1 [.int .i64 0] :: dskp p d :: row 3 1 (.slice (some ⟨gn, 0, none⟩) 1 1) 1 [.int .i64 Y] :: L) wr from ((((Sr.pick 2).pick 4).pick 3).pick 4).pick 4)
            clear Sr
            go_wp2_with fail
            refine (rappend_sat HT.out HD.out HK.out HOK.out ⟨#[]⟩ (by decide) hl hU hC 0 HCM.out HS.out).mono ?_; rintro e w6 ⟨D, sv2, rfl, k1, k2, S6⟩
            have H6 := hid ((S6.pick 4).drop)
            have K1 := hid k1
            have K2 := hid k2
            clear S6 HS k1 k2
            go_wp2_with fail
            go_returns
            first
              | exact ⟨D, sv2, _, _, rfl, K1.out, K2.out, H6.out⟩
              | exact ⟨rfl, D, K1.out, K2.out, sv2, _, _, H6.out⟩
              | exact ⟨rfl, D, sv2, _, _, K1.out, K2.out, H6.out⟩
end
end Go.Proofs.YtekioplbfoonkaaGreatDoor
