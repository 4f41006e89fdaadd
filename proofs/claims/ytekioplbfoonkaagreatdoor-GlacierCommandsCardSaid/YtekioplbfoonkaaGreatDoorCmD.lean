/- command.Disk: some list of numbers, in memory that stays. -/
import Derived.Test.YtekioplbfoonkaaGreatDoorCmC
import Derived.Test.YtekioplbfoonkaaGreatDoorShelfC
namespace Go.Proofs.YtekioplbfoonkaaGreatDoor
open Go.RowKit Go.Sort
set_option linter.unusedVariables false
set_option maxRecDepth 100000
set_option maxHeartbeats 4000000
theorem compact_le (zs : List Int) : (Lib.compact zs).length ≤ zs.length := by
  unfold Lib.compact Lib.compactUpTo
  rw [List.length_map]
  refine Nat.le_trans (List.length_filter_le _ _) ?_
  rw [List.length_range]; exact Nat.le_refl _
section
variable {w0 w : World} {I : Part} {L : List HP}
theorem sortI_sat (g cap n : Nat) (zs : List Int) (hl : zs.length = n) (hn : n ≤ 1000000000000000) (H : Sat w0 I (row 3 1 (.slice (some ⟨g, 0, none⟩) n cap) n (zs.map (Value.int .i64)) :: L) w) :
    Calls Tryz.prog 53 #[.slice (some ⟨g, 0, none⟩) n cap] w fun e w' => ∃ ys : List Int, e = .returned (.tuple #[]) ∧ ys.length = n ∧ Sat w0 I (row 3 1 (.slice (some ⟨g, 0, none⟩) n cap) n (ys.map (Value.int .i64)) :: L) w' := by
  subst hl
  have h0 : w.ownsRow 0 3 1 (.slice (some ⟨g, 0, none⟩) zs.length cap) zs.length (zs.map encZ) := H.isRow
  obtain ⟨h1, h2, _, _, _⟩ := row_holds (g := g) (cap := cap) h0 rfl
  refine (AnyM.slices_Sort_int Tryz.sortI g 0 cap zs w h1 h2 (by omega)).mono ?_
  rintro e w' ⟨rfl, k, os, rfl⟩
  refine ⟨_, rfl, ?_, Sat.sorted _ k os ?_ H⟩
  · exact List.length_mergeSort ..
  · exact List.length_mergeSort ..
theorem compI_sat (g cap n : Nat) (zs : List Int) (hl : zs.length = n) (hn : n ≤ 1000000000000000) (hc : n ≤ cap) (H : Sat w0 I (row 3 1 (.slice (some ⟨g, 0, none⟩) n cap) n (zs.map (Value.int .i64)) :: L) w) :
    Calls Tryz.prog 54 #[.slice (some ⟨g, 0, none⟩) n cap] w fun e w' => ∃ ys : List Int, e = .returned (.slice (some ⟨g, 0, none⟩) ys.length cap) ∧ ys.length ≤ n ∧ Sat w0 I (row 3 1 (.slice (some ⟨g, 0, none⟩) ys.length cap) ys.length (ys.map (Value.int .i64)) :: L) w' := by
  subst hl
  have h0 : w.ownsRow 0 3 1 (.slice (some ⟨g, 0, none⟩) zs.length cap) zs.length (zs.map encZ) := H.isRow
  obtain ⟨h1, h2, _, _, _⟩ := row_holds (g := g) (cap := cap) h0 rfl
  have hle := compact_le zs
  refine (AnyG.slices_Compact_int Tryz.compI g 0 cap zs w h1 (by omega) hc).mono ?_
  rintro e w' ⟨rfl, k, rfl⟩
  have S1 := Sat.sorted (Lib.compact zs ++ List.replicate (zs.length - (Lib.compact zs).length) 0) k #[] (by rw [List.length_append, List.length_replicate]; omega) H
  rw [grow_empty] at S1
  have S2 := S1.rowCut (Lib.compact zs).length hle
  rw [← List.map_take, List.take_left] at S2
  exact ⟨Lib.compact zs, rfl, hle, S2⟩
theorem slIntD : SliceT Tryz.prog 23 3 1 8 := ⟨Tryz.underlying23, ⟨_, _, rfl, rfl, rfl, rfl, rfl⟩, by decide⟩
theorem disk_sat (la : Option Addr) (len cap : Nat) (zs : List Int) (hl : zs.length = len) (hreach : len * 8 ≤ 140737488351232) (hr : Rd I la (zs.map (Value.int .i64))) (H : Sat w0 I L w) :
    Calls Tryz.prog 18 #[.slice la len cap] w fun e w' => ∃ J da ds dc, e = .returned (.slice da (ds : List Int).length dc) ∧ I.le J ∧ ds.length ≤ dc ∧ ds.length ≤ 1000000000000000 ∧ Rd J da (ds.map (Value.int .i64)) ∧ Sat w0 J L w' := by
  have H0 := hid (H.nilRow 3 1)
  have HR := hid hr
  have HL := hid hl
  clear H hr hl
  go_enter Tryz.func18, Tryz.ntmps18
  go_wp2_with fail
  go_loopw [3, 5, 8] (fun t _ ix wr => ∃ (i m : Nat) (ds : List Int), ds.length = m ∧ i ≤ len ∧ m ≤ i ∧ ix = .int .i64 (i : Int) ∧ Sat w0 I (row 3 1 t m (ds.map (Value.int .i64)) :: L) wr) (fun _ _ ix _ => len - (intOf ix).toNat)
  case atStart => exact ⟨0, 0, [], rfl, Nat.zero_le _, Nat.le_refl _, rfl, H0.out⟩
  case round =>
    clear H0
    obtain ⟨i, m, ds, hm, hi, hdi, rfl, Sr⟩ := hrel
    obtain ⟨ad, cp, rfl, q1, q2⟩ := own_shape Sr.isRow
    have HM := hid hm
    have HS := hid Sr
    clear Sr hm
    by_cases hlt : i < len
    · have hil : (i : Int) < (len : Int) := by omega
      have hi0 : (0 : Int) ≤ (i : Int) := by omega
      have hiz : i < zs.length := by rw [HL.out]; exact hlt
      obtain ⟨z, hz⟩ : ∃ z, zs[i] = z := ⟨_, rfl⟩
      have h1 : (zs.map (Value.int .i64))[i]? = some (.int .i64 z) := by rw [List.getElem?_map, List.getElem?_eq_getElem hiz, hz]; rfl
      obtain ⟨g0, o0, rfl, e0⟩ := HR.out.get HS.out i h1
      clear h1 hz
      cases hu : upB z 5 with
      | false =>
        have HU := hid hu
        clear hu
        go_wp2_with fail
        refine (upto_sat z 5 HU.out HS.out).mono ?_; rintro e w3 ⟨rfl, S3⟩
        have H3 := hid S3
        clear S3 HS e0
        go_wp2_with fail
        go_roundw
        case rel => exact ⟨i + 1, m, ds, HM.out, by omega, by omega, by go_num, H3.out⟩
        case measure => simp [intOf]; omega
      | true =>
        have HU := hid hu
        clear hu
        go_wp2_with fail
        refine (upto_sat z 5 HU.out HS.out).mono ?_; rintro e w3 ⟨rfl, S3⟩
        have H3 := hid S3
        clear S3 HS e0
        go_wp2_with (at_builtin; refine wpList_appS slIntD rfl _ _ rfl H3.out [.int .i64 z] rfl rfl rfl rfl ?h1 ?hb ?hn ?_)
        case h1 => intro u hu; simp at hu; subst hu; rfl
        case hb => omega
        case hn => omega
        intro ad2 cp2 w9 hc1 hc2 S13
        have H4 := hid S13
        clear S13 H3
        go_wp2_with fail
        go_roundw
        case rel => exact ⟨i + 1, m + 1, ds ++ [z], by rw [List.length_append, HM.out]; rfl, by omega, by omega, by go_num, by rw [List.map_append]; exact H4.out⟩
        case measure => simp [intOf]; omega
    · obtain rfl : i = len := by omega
      have hii : ¬ (i : Int) < (i : Int) := by omega
      have had : (ad = none ∧ m = 0 ∧ cp = 0) ∨ ∃ g, ad = some ⟨g, 0, none⟩ := by
        rcases HS.out.isRow.2 with ⟨h, hn⟩ | ⟨g, cap, cur, h, _⟩
        · cases h; exact Or.inl ⟨rfl, rfl, rfl⟩
        · cases h; exact Or.inr ⟨g, rfl⟩
      rcases had with ⟨rfl, rfl, rfl⟩ | ⟨g, rfl⟩
      · go_wp2_with fail
        refine (AnyM.slices_Sort_int_none Tryz.sortI none 0 _).mono ?_; rintro e w3 ⟨rfl, rfl⟩
        go_wp2_with fail
        refine (AnyG.slices_Compact_int_empty Tryz.compI none 0 _).mono ?_; rintro e w4 ⟨rfl, rfl⟩
        go_wp2_with fail
        go_ret
        exact ⟨I, none, [], 0, rfl, Part.le_refl _, Nat.le_refl _, Nat.zero_le _, Rd.nil _ _, HS.out.drop⟩
      · go_wp2_with fail
        refine (sortI_sat g cp m ds HM.out (by omega) HS.out).mono ?_; rintro e w3 ⟨ys, rfl, hy, S3⟩
        have H3 := hid S3
        have HY := hid hy
        clear S3 HS hy
        go_wp2_with fail
        refine (compI_sat g cp m ys HY.out (by omega) q1 H3.out).mono ?_; rintro e w4 ⟨xs, rfl, hx, S4⟩
        obtain ⟨J, a2, c2, hJ, S5, hv, hc1, hc2, _, hrd⟩ := S4.freezeRow
        cases hv
        have HJ := hid hJ
        have HRD := hid hrd
        have H5 := hid S5
        have hx2 : xs.length ≤ 1000000000000000 := by omega
        clear S4 S5 H3 hJ hrd
        go_wp2_with fail
        go_ret
        exact ⟨J, _, xs, _, rfl, HJ.out, hc1, hx2, HRD.out, H5.out⟩
end
end Go.Proofs.YtekioplbfoonkaaGreatDoor
