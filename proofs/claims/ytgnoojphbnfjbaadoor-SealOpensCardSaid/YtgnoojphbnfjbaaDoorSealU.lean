/- Contracts of the reference of layer 2: Open. -/
import Derived.Test.YtgnoojphbnfjbaaDoorSealT
namespace Go.Proofs.YtgnoojphbnfjbaaDoor
open Go.RowKit
set_option linter.unusedVariables false
theorem frame_iff (s : List UInt8) (V : Nat) (h8 : 8 ≤ s.length) (hV : valS (s.take 4) = V) (hl : 8 + V ≤ s.length) :
    frameL ((s.drop 8).take V) = s.take (8 + V) ↔ crc (s.take 4 ++ (s.drop 8).take V) = valS ((s.drop 4).take 4) := by
  have hVl : V < 4294967296 := by rw [← hV]; exact valS_lt _
  have h4 : (s.take 4).length = 4 := by rw [List.length_take]; omega
  have h44 : ((s.drop 4).take 4).length = 4 := by rw [List.length_take, List.length_drop]; omega
  have hD : ((s.drop 8).take V).length = V := by rw [List.length_take, List.length_drop]; omega
  have hb : be4 V = s.take 4 := valS_inj _ _ (be4_len _) h4 (by rw [valS_be4 V hVl, hV])
  have hs : s.take (8 + V) = s.take 4 ++ (s.drop 4).take 4 ++ (s.drop 8).take V := by
    rw [show 8 + V = 4 + (4 + V) by omega, List.take_add, List.take_add, List.drop_drop, List.append_assoc]
  unfold frameL
  rw [hD, hb, hs]
  constructor
  · intro h
    have h1 := List.append_cancel_right h
    have h2 := List.append_cancel_left h1
    rw [← h2, valS_be4 _ (crc_lt _)]
  · intro h
    congr 2
    refine valS_inj _ _ (be4_len _) h44 ?_
    rw [valS_be4 _ (crc_lt _), h]
theorem ne_str {a b : ByteArray} (h : ¬ a = b) : (a.toList == b.toList) = false := by
  rw [ByteArray.toList_eq, ByteArray.toList_eq]
  refine beq_eq_false_iff_ne.2 fun h2 => h ?_
  obtain ⟨⟨x⟩⟩ := a; obtain ⟨⟨y⟩⟩ := b
  simp at h2; rw [h2]
set_option maxRecDepth 100000 in
set_option maxHeartbeats 4000000 in
theorem refOpen_any (w : World) (s : ByteArray) (hs : s.size ≤ 9223372036854775807) {c : List UInt8} {n : Nat} {E : Int} (hO : openR s.data.toList = (c, n, E)) :
    Calls Tryd.prog 17 #[.string s] w (RetB (.tuple #[.string ⟨c.toArray⟩, .int .i64 (n : Int), .int .i64 E]) w.heap.size w) := by
  have H0 := hid (Sat.start w)
  unfold openR at hO
  rw [openR_ba] at hO
  by_cases h1 : s.size < 8
  · rw [if_pos h1] at hO
    cases hO
    have h1' : (s.size : Int) < 8 := by omega
    go_enter Tryd.func17, Tryd.ntmps17
    go_wp2_with fail
    go_returns
    exact ⟨rfl, H0.out.toBelow (Part.le_refl _)⟩
  · rw [if_neg h1] at hO
    have h1' : ¬ (s.size : Int) < 8 := by omega
    have hl8 : 8 ≤ s.data.toList.length := by rw [openR_ba]; omega
    have e4 : s.data.toList.take 4 = (s.extract 0 4).data.toList := by rw [ext_list]; simp
    have z4 : (s.extract 0 4).size = 4 := by rw [ByteArray.size_extract]; omega
    obtain ⟨V, hV⟩ : ∃ V, valS (s.data.toList.take 4) = V := ⟨_, rfl⟩
    have hVl : V < 4294967296 := by rw [← hV]; exact valS_lt _
    have hfi := frame_iff s.data.toList V hl8 hV
    rw [openR_ba] at hfi
    rw [hV] at hO
    have HV := hid (show valS (s.extract 0 4).data.toList = V by rw [← e4]; exact hV)
    have Z4 := hid z4
    have m1 : (4 : Int) ≤ (s.size : Int) := by omega
    have m2 : (8 : Int) ≤ (s.size : Int) := by omega
    clear hV e4 z4 h1 hl8
    by_cases h2 : 1048576 < V
    · rw [if_pos h2] at hO
      cases hO
      clear hfi
      have h2' : (1048576 : Int) < (V : Int) := by omega
      go_enter Tryd.func17, Tryd.ntmps17
      go_wp2_with fail
      refine (refNumber_eq _ _ Z4.out HV.out).mono ?_; rintro e w1 ⟨rfl, rfl⟩
      go_wp2_with fail
      go_returns
      exact ⟨rfl, H0.out.toBelow (Part.le_refl _)⟩
    · rw [if_neg h2] at hO
      have h2' : ¬ (1048576 : Int) < (V : Int) := by omega
      have h2b : (V : Int) ≤ 1048576 := by omega
      by_cases h3 : s.size < 8 + V
      · rw [if_pos h3] at hO
        cases hO
        clear hfi
        have h3' : (s.size : Int) < 8 + (V : Int) := by omega
        go_enter Tryd.func17, Tryd.ntmps17
        go_wp2_with fail
        refine (refNumber_eq _ _ Z4.out HV.out).mono ?_; rintro e w1 ⟨rfl, rfl⟩
        go_wp2_with fail
        go_returns
        exact ⟨rfl, H0.out.toBelow (Part.le_refl _)⟩
      · rw [if_neg h3] at hO
        have hfi := hfi (by omega)
        obtain ⟨N, hN⟩ : ∃ N, 8 + V = N := ⟨_, rfl⟩
        have hNe : (8 : Int) + (V : Int) = (N : Int) := by omega
        have n1 : (8 : Int) ≤ (N : Int) := by omega
        have n2 : (N : Int) ≤ (s.size : Int) := by omega
        have n3 : ¬ (s.size : Int) < (N : Int) := by omega
        have n4 : (0 : Int) ≤ (N : Int) := by omega
        have nm : IntKind.i64.wrap (N : Int) = (N : Int) := by exact IntWalk.i64_in _ (by omega)
        have e9 : (s.data.toList.drop 8).take V = (s.extract 8 (8 + V)).data.toList := by rw [ext_list]; congr 1; omega
        have z9 : (s.extract 8 (8 + V)).size = V := by rw [ByteArray.size_extract]; omega
        have eT : s.data.toList.take (8 + V) = (s.extract 0 (8 + V)).data.toList := by rw [ext_list]; simp
        rw [hN] at e9 z9 hO eT hfi
        rw [e9] at hO
        rw [eT, e9] at hfi
        obtain ⟨D, hD⟩ : ∃ D, s.extract 8 N = D := ⟨_, rfl⟩
        obtain ⟨T, hT⟩ : ∃ T, s.extract 0 N = T := ⟨_, rfl⟩
        rw [hD] at hO z9 hfi
        rw [hT] at hfi
        obtain ⟨C, hC⟩ : ∃ C, frameL D.data.toList = C := ⟨_, rfl⟩
        rw [hC] at hfi
        obtain ⟨F, hFd⟩ : ∃ F : ByteArray, (⟨C.toArray⟩ : ByteArray) = F := ⟨_, rfl⟩
        have hfj : F = T ↔ C = T.data.toList := by
          rw [← hFd]
          constructor
          · intro h; rw [← h]
          · intro h; rw [h]
        have HFD := hid hFd
        have HF := hid (hfj.trans hfi)
        have HCF := hid hC
        have Z9 := hid (show D.size ≤ 1048576 by omega)
        have HO := hid hO
        clear z9 e9 hO h3 hN hfi hfj hC eT hFd
        by_cases hFT : F = T
        · have hO := HO.out
          rw [if_pos (HF.out.1 hFT)] at hO
          cases hO
          subst hFT
          clear HO HF
          go_enter Tryd.func17, Tryd.ntmps17
          go_wp2_with fail
          refine (refNumber_eq _ _ Z4.out HV.out).mono ?_; rintro e w1 ⟨rfl, rfl⟩
          go_upto_region 9 with fail
          go_cut [30] (fun c wx => c = .bool false ∧ Sat w1 (wpart w1) [] wx)
          case first =>
            go_region_with (first
              | (go_at_call 21; refine (retB_sat (refFrame_any _ D Z9.out HCF.out) H0.out.drew).mono ?_; rintro e w3 ⟨rfl, S3⟩; rw [HFD.out]; have H3 := hid S3; clear S3))
            all_goals
              go_wp2_with fail
              go_meet
              exact ⟨rfl, H3.out⟩
          case rest =>
            obtain ⟨rfl, S5⟩ := hcut
            have H5 := hid S5
            clear S5 H0
            go_wp2_with fail
            go_returns
            exact ⟨rfl, H5.out.toBelow (Part.le_refl _)⟩
        · have hO := HO.out
          rw [if_neg (fun h => hFT (HF.out.2 h))] at hO
          cases hO
          have HFT := hid hFT
          clear HO HF hFT
          go_enter Tryd.func17, Tryd.ntmps17
          go_wp2_with fail
          refine (refNumber_eq _ _ Z4.out HV.out).mono ?_; rintro e w1 ⟨rfl, rfl⟩
          go_upto_region 9 with fail
          go_cut [30] (fun c wx => c = .bool true ∧ Sat w1 (wpart w1) [] wx)
          case first =>
            go_region_with (first
              | (go_at_call 21; refine (retB_sat (refFrame_any _ D Z9.out HCF.out) H0.out.drew).mono ?_; rintro e w3 ⟨rfl, S3⟩; rw [HFD.out]; have H3 := hid S3; clear S3))
            all_goals
              go_wp2_with fail
              go_meet
              refine ⟨?_, H3.out⟩
              rw [ne_str HFT.out]; rfl
          case rest =>
            obtain ⟨rfl, S5⟩ := hcut
            have H5 := hid S5
            clear S5 H0
            go_wp2_with fail
            go_returns
            exact ⟨rfl, H5.out.toBelow (Part.le_refl _)⟩
end Go.Proofs.YtgnoojphbnfjbaaDoor
