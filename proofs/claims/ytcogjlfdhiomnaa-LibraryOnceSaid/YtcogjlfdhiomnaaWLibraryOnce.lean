/- LibraryOnce, walked. -/
import Derived.Test.YtcogjlfdhiomnaaLibOi
import Derived.Test.YtcogjlfdhiomnaaMapB
import Derived.Deep.CutBlock
import Derived.Deep.DeepCutAuto
namespace Go.Proofs.Ytcogjlfdhiomnaa
open Go.RowKit
set_option linter.unusedVariables false
theorem Sat.szEx {w0 w : World} {I : Part} {L : List HP} (h : Sat w0 I L w) : ∃ g, w.heap.size = g := ⟨_, rfl⟩
def ActAt (I : Part) (la : Option Addr) (i : Nat) : Prop := ∃ b off kd n, la = some ⟨b, off, none⟩ ∧ wfI kd ∧ wfI n ∧
  cellI I b (off + i * 2) = some (.int .i64 kd) ∧ cellI I b (off + i * 2 + 1) = some (.int .i64 n)
theorem okT_lacts {w : World} {la : Option Addr} {len cap : Nat} (hl : OkT Try.prog w 6 32 [.slice la len cap]) : len ≤ 9223372036854775807 ∧ len ≤ cap ∧ ∀ i, i < len → ActAt (wpart w) la i := by
  obtain ⟨h1, h2, h3⟩ := okT_slice Try.underlying32 (sz := 2) (by kernel_rfl) (by omega) hl
  refine ⟨by omega, h1, fun i hi => ?_⟩
  obtain ⟨b, off, cs, ha, hb, hlen, hok, hc⟩ := h3 i (by omega)
  obtain ⟨x, y, rfl⟩ : ∃ x y, cs = [x, y] := by
    match cs, hlen with
    | [x, y], _ => exact ⟨x, y, rfl⟩
  obtain ⟨a0, h0, w0⟩ := okT_int Try.underlying3 (okT_fld 0 (T := 3) (o := 0) Try.underlying34 rfl rfl rfl (by kernel_rfl) (by simp) hok)
  obtain ⟨a1, h1, w1⟩ := okT_int Try.underlying3 (okT_fld 1 (T := 3) (o := 1) Try.underlying34 rfl rfl rfl (by kernel_rfl) (by simp) hok)
  simp only [List.getElem_cons_zero, List.getElem_cons_succ] at h0 h1
  cases h0
  cases h1
  exact ⟨b, off, a0, a1, ha, wf_i64 w0, wf_i64 w1, cellI_start (hc 0 (by simp)), cellI_start (by rw [Nat.add_assoc]; exact hc 1 (by simp))⟩
theorem vs0_len (ps : List Nat) (V : Nat) (h : ps.length = V) : (ps.zip ((List.replicate V (0 : Int)).map vNew)).length = V := by simp [h]
theorem vs0_all (ps : List Nat) (V : Nat) : ∀ x ∈ ps.zip ((List.replicate V (0 : Int)).map vNew), x.2 = vNew 0 := by
  intro x hx
  have := (List.of_mem_zip hx).2
  simp at this
  exact this.2
theorem vs0_fine {vs : List (Nat × Vst)} (h : ∀ x ∈ vs, x.2 = vNew 0) : fineV vs := fun x hx => by rw [h x hx]; rfl
def kinds6 (kd : Int) : Prop := kd = 1 ∨ kd = 2 ∨ kd = 3 ∨ kd = 4 ∨ kd = 7 ∨ (¬ kd = 1 ∧ ¬ kd = 2 ∧ ¬ kd = 3 ∧ ¬ kd = 4 ∧ ¬ kd = 7)
theorem kinds6_all (kd : Int) : kinds6 kd := by unfold kinds6; omega
set_option maxRecDepth 100000 in
set_option maxHeartbeats 8000000 in
theorem libraryOnce_walk (vols drives : Int) (la : Option Addr) (len cap : Nat) (w : World) (hv : (Lit.int .i64 vols).wf = true) (hdv : (Lit.int .i64 drives).wf = true) (hl : OkT Try.prog w 6 32 [.slice la len cap]) :
    Calls Try.prog 4 #[.int .i64 vols, .int .i64 drives, .slice la len cap] w (RetB (.bool true) w.heap.size w) := by
  obtain ⟨hlc, hcm, hacts⟩ := okT_lacts hl
  clear hl hv hdv
  have H0 := hid (Sat.start w)
  by_cases h1 : vols < 1
  · go_enter Try.func4, Try.ntmps4
    go_wp2_with fail
    refine (lawake_sat H0.out).mono ?_; rintro e w1 ⟨rfl, S1⟩
    have H1 := hid S1
    clear S1
    go_wp2_with fail
    refine (lawake_sat H1.out).mono ?_; rintro e w2 ⟨rfl, S2⟩
    have H2 := hid S2
    clear S2
    go_wp2_with fail
    go_ret
    exact ⟨rfl, H2.out.toBelow (Part.le_refl _)⟩
  · by_cases h2 : 5 < vols
    · go_enter Try.func4, Try.ntmps4
      go_wp2_with fail
      refine (lawake_sat H0.out).mono ?_; rintro e w1 ⟨rfl, S1⟩
      have H1 := hid S1
      clear S1
      go_wp2_with fail
      refine (lawake_sat H1.out).mono ?_; rintro e w2 ⟨rfl, S2⟩
      have H2 := hid S2
      clear S2
      go_wp2_with fail
      go_ret
      exact ⟨rfl, H2.out.toBelow (Part.le_refl _)⟩
    · obtain ⟨V, rfl⟩ : ∃ V : Nat, vols = (V : Int) := ⟨vols.toNat, by omega⟩
      obtain ⟨D, hD⟩ : ∃ D : Nat, (D : Int) = min (max drives 0) 3 := ⟨(min (max drives 0) 3).toNat, by omega⟩
      have HD := hid hD
      have d3 : D ≤ 3 := by omega
      have v1 : 1 ≤ V := by omega
      have v5 : V ≤ 5 := by omega
      obtain ⟨N, hN⟩ : ∃ N, min len 40 = N := ⟨_, rfl⟩
      have hN1 : N ≤ len := by omega
      have hN2 : N ≤ 40 := by omega
      have hNe : N = len ∨ N = 40 := by omega
      have HNE := hid hNe
      have HAC := hid hacts
      clear hN hacts hNe hD
      go_enter Try.func4, Try.ntmps4
      go_wp2_with fail
      refine (lawake_sat H0.out).mono ?_; rintro e w1 ⟨rfl, S1⟩
      have H1 := hid S1
      clear S1 H0
      go_wp2_with (at_make; refine wpList_makeInts rfl _ _ rfl V rfl rfl rfl rfl (by omega) H1.out ?_)
      intro g w2 S2
      have H2 := hid S2
      clear S2 H1
      go_wp2_with fail
      refine (lnew_row (zs := List.replicate V (0 : Int)) rfl drives D HD.out (by simp) (by simp) (by omega) H2.out).mono ?_; rintro e w3 ⟨q, ps, rfl, hps, S3⟩
      have HV0 := hid (vs0_all ps V)
      have HVL := hid (vs0_len ps V hps)
      obtain ⟨I1, I2⟩ := LInv.start V D (ps.zip ((List.replicate V (0 : Int)).map vNew))
      generalize ps.zip ((List.replicate V (0 : Int)).map vNew) = vs at *
      have H3 := hid S3
      have HI1 := hid I1
      have HI2 := hid I2
      clear S3 H2 hps I1 I2
      go_wp2_with (at_make; refine wpList_makeInts rfl _ _ rfl V rfl rfl rfl rfl (by omega) H3.out ?_)
      intro gh w4 S4
      have e4 : zsL V = (heldL V (List.replicate D (⟨-1, 0, 0, false⟩ : Dr))).map (Value.int .i64) := by rw [HI2.out]; rfl
      rw [e4] at S4
      have H4 := hid S4
      clear S4 H3 HI2 e4
      go_wp2_with fail
      go_loopw [8, 9, 10, 11, 12, 13, 14, 15] (fun hv i _ _ _ _ _ _ wr => ∃ (k gh : Nat) (S : Lst), k ≤ N ∧ i = .int .i64 k ∧ hv = .slice (some ⟨gh, 0, none⟩) V V ∧ LInv V D vs k S ∧ Sat w (wpart w) [row 3 1 (.slice (some ⟨gh, 0, none⟩) V V) V ((heldL V S.drs).map (Value.int .i64)), libp q S] wr) (fun _ i _ _ _ _ _ _ _ => N - (intOf i).toNat)
      case atStart => exact ⟨0, gh, _, Nat.zero_le _, rfl, rfl, HI1.out, H4.out⟩
      case round =>
        clear H4 HI1
        obtain ⟨k, gh, S, hk, rfl, rfl, hI, Sr⟩ := hrel
        have HI := hid hI
        have HS := hid Sr
        clear hI Sr
        by_cases hlt : k < N
        · obtain ⟨b', off, kd, n, rfl, wfk, wfn, c0, c1⟩ := HAC.out k (by omega)
          replace c0 := HS.out.atI c0
          replace c1 := HS.out.atI c1
          have hk0 : (0 : Int) ≤ (k : Int) := by omega
          have hk1 : (k : Int) < (len : Int) := by omega
          have hk2 : (k : Int) < 40 := by omega
          obtain ⟨ga, hga⟩ := HS.out.szEx
          have S5 : Sat w (wpart w) (blk ga 34 [.int .i64 kd, .int .i64 n] :: row 3 1 (.slice (some ⟨gh, 0, none⟩) V V) V ((heldL V S.drs).map (Value.int .i64)) :: libp q S :: []) _ := HS.out.alloc rfl hga.symm
          have H5 := hid S5
          clear S5
          go_upto_block 2 with fail
          refine wp_gen (fun w5 => Sat w (wpart w) (blk ga 34 [.int .i64 kd, .int .i64 n] :: row 3 1 (.slice (some ⟨gh, 0, none⟩) V V) V ((heldL V S.drs).map (Value.int .i64)) :: libp q S :: []) w5) H5.out ?_
          try rw [hga]
          clear H5 hga HS c0 c1
          intro w5 S5
          have d0 : w5.cell? ⟨ga, 0, none⟩ = some (.int .i64 kd) := S5.isBlk.cell 0 rfl
          have d1 : w5.cell? ⟨ga, 1, none⟩ = some (.int .i64 n) := S5.isBlk.cell 1 rfl
          have H5 := hid S5
          clear S5
          have hks : k ≤ 1000 := by omega
          go_cut [8] (fun hv wx => ∃ (gh' : Nat) (T : Lst), hv = .slice (some ⟨gh', 0, none⟩) V V ∧ LInv V D vs (k + 1) T ∧ Sat w (wpart w) [row 3 1 (.slice (some ⟨gh', 0, none⟩) V V) V ((heldL V T.drs).map (Value.int .i64)), libp q T] wx)
          case first =>
            rcases kinds6_all kd with rfl | rfl | rfl | rfl | rfl | hk6
            · obtain ⟨⟨N1, E1, T⟩, hA⟩ : ∃ x, mountS S n = x := ⟨_, rfl⟩
              obtain ⟨i1, i2, _⟩ := HI.out.mount (vs0_fine HV0.out) HVL.out hA
              have HA := hid hA
              have I1 := hid i1
              have I2 := hid i2
              clear hA i1 i2
              go_wp2_with fail
              refine (lmount_sat (HI.out.ok hks) HA.out (H5.out.pick 2)).mono ?_; rintro e w6 ⟨rfl, S6⟩
              rw [← I2.out] at S6
              have H6 := hid (S6.pick 2)
              clear S6 H5 d0 d1
              go_wp2_with fail
              go_meet
              exact ⟨gh, T, rfl, I1.out, H6.out.two⟩
            · obtain ⟨⟨N1, E1, T⟩, hA⟩ : ∃ x, mountS S n = x := ⟨_, rfl⟩
              obtain ⟨i1, i2, i3⟩ := HI.out.mount (vs0_fine HV0.out) HVL.out hA
              have I1 := hid i1
              have I2 := hid i2
              clear i1 i2
              rcases i3 with hE | ⟨rfl, hTh, j, rfl, hin, hn0, hn1⟩
              · have HA := hid hA
                clear hA
                have hE1 : (E1 == 0) = false := by simpa using hE
                go_wp2_with fail
                refine (lhold_no (HI.out.ok hks) HA.out hE (H5.out.pick 2)).mono ?_; rintro e w6 ⟨rfl, S6⟩
                rw [← I2.out] at S6
                have H6 := hid (S6.pick 2)
                clear S6 H5 d0 d1
                go_wp2_with fail
                go_meet
                exact ⟨gh, T, rfl, I1.out, H6.out.two⟩
              · obtain ⟨m, rfl⟩ := Int.eq_ofNat_of_zero_le hn0
                obtain ⟨hj, hjv, _⟩ := inF_lt hin
                have hz0 := I1.out.dok.holds _ (List.getElem_mem hj)
                have hz1 := hTh _ (List.getElem_mem hj)
                have hho : heldOf T.drs (m : Int) = T.drs[j].holds := heldOf_some hin hj
                have hmV : m < V := by omega
                obtain ⟨J1, J2⟩ := I1.out.held hin (hj := hj) (z := T.drs[j].holds + 1) (by omega) (by omega) hn1
                have HA := hid hA
                have HHO := hid hho
                have J1 := hid J1
                have J2 := hid J2
                have hz2 : T.drs[j].holds ≤ 1000 := by omega
                have HZ0 := hid hz0
                have HZ2 := hid hz2
                clear hA hho hin hTh hz1
                go_wp2_with fail
                refine (lhold_yes (HI.out.ok hks) HA.out hj (by have := HZ2.out; omega) HZ0.out (H5.out.pick 2)).mono ?_; rintro e w6 ⟨rfl, S6⟩
                rw [← I2.out] at S6
                have S7 := (S6.pick 2)
                have r0 : w6.cell? ⟨gh, m, none⟩ = some (.int .i64 T.drs[j].holds) := own_cell S7.isRow m (by rw [List.getElem?_map, List.getElem?_eq_getElem (by rw [heldL_len]; exact hmV), heldL_get V T.drs m hmV, HHO.out]; rfl)
                have f0 := own_frozen S7.isRow m
                have e1 : w6.cell? ⟨ga, 1, none⟩ = some (.int .i64 (m : Int)) := (S6.pick 1).isBlk.cell 1 rfl
                have H7 := hid S7
                clear S6 S7 H5 d0 d1
                generalize T.drs[j].holds = z at *
                have hzI : z ≤ 1000 := HZ2.out
                have hzJ : 0 ≤ z := HZ0.out
                have nn0 : (0 : Int) ≤ (m : Int) := by omega
                have nn1 : (m : Int) < (V : Int) := by omega
                go_wp2_with fail
                go_meet
                refine ⟨gh, _, rfl, J1.out, ?_⟩
                have S8 := H7.out.two.rowSet m (.int .i64 (z + 1))
                rw [← List.map_set] at S8
                have e2 := J2.out
                rw [Int.toNat_natCast] at e2
                rw [← e2] at S8
                exact S8
            · cases hin : inF S.drs n with
              | none =>
                have HIN := hid hin
                clear hin
                go_wp2_with fail
                refine (lrel_none HIN.out (H5.out.pick 2)).mono ?_; rintro e w6 ⟨rfl, S6⟩
                have H6 := hid (S6.pick 2)
                clear S6 H5 d0 d1
                go_wp2_with fail
                go_meet
                exact ⟨gh, S, rfl, HI.out.up, H6.out.two⟩
              | some j =>
                obtain ⟨hj, hjv, hn0⟩ := inF_lt hin
                by_cases hz : S.drs[j].holds = 0
                · have HIN := hid hin
                  have HZ := hid hz
                  clear hin hz hjv
                  go_wp2_with fail
                  refine (lrel_zero HIN.out (hk' := hj) HZ.out (H5.out.pick 2)).mono ?_; rintro e w6 ⟨rfl, S6⟩
                  have H6 := hid (S6.pick 2)
                  clear S6 H5 d0 d1
                  go_wp2_with fail
                  go_meet
                  exact ⟨gh, S, rfl, HI.out.up, H6.out.two⟩
                · obtain ⟨m, rfl⟩ := Int.eq_ofNat_of_zero_le hn0
                  have hz0 := HI.out.dok.holds _ (List.getElem_mem hj)
                  have hz1 := HI.out.hb _ (List.getElem_mem hj)
                  have hn1 : (m : Int) < (V : Int) := by
                    have := HI.out.dok.rng _ (List.getElem_mem hj)
                    omega
                  have hho : heldOf S.drs (m : Int) = S.drs[j].holds := heldOf_some hin hj
                  have hmV : m < V := by omega
                  obtain ⟨J1, J2⟩ := HI.out.up.held hin (hj := hj) (z := S.drs[j].holds - 1) (by omega) (by omega) hn1
                  obtain ⟨z, hz9⟩ : ∃ z, S.drs[j].holds = z := ⟨_, rfl⟩
                  rw [hz9] at J1 J2 hho
                  have hzp : 0 < z := by omega
                  have hzI : z ≤ 1000 := by omega
                  have HIN := hid hin
                  have HHO := hid hho
                  have J1 := hid J1
                  have J2 := hid J2
                  have HZ9 := hid hz9
                  clear hho hin hz1 hz0 hz hz9 hjv
                  go_wp2_with fail
                  refine (lrel_yes HIN.out (hk' := hj) HZ9.out hzp (by omega) (H5.out.pick 2)).mono ?_; rintro e w6 ⟨rfl, S6⟩
                  have S7 := (S6.pick 2)
                  have r0 : w6.cell? ⟨gh, m, none⟩ = some (.int .i64 z) := own_cell S7.isRow m (by rw [List.getElem?_map, List.getElem?_eq_getElem (by rw [heldL_len]; exact hmV), heldL_get V S.drs m hmV, HHO.out]; rfl)
                  have f0 := own_frozen S7.isRow m
                  have e1 : w6.cell? ⟨ga, 1, none⟩ = some (.int .i64 (m : Int)) := (S6.pick 1).isBlk.cell 1 rfl
                  have H7 := hid S7
                  clear S6 S7 H5 d0 d1
                  have nn0 : (0 : Int) ≤ (m : Int) := by omega
                  go_wp2_with fail
                  go_meet
                  refine ⟨gh, _, rfl, J1.out, ?_⟩
                  have S8 := H7.out.two.rowSet m (.int .i64 (z - 1))
                  rw [← List.map_set] at S8
                  have e2 := J2.out
                  rw [Int.toNat_natCast] at e2
                  rw [← e2] at S8
                  exact S8
            · have H5a : Hid (Sat w (wpart w) [row 3 1 (.slice (some ⟨gh, 0, none⟩) V V) V ((hbL V S.drs n 0).map (Value.int .i64)), libp q S, blk ga 34 [.int .i64 4, .int .i64 n]] w5) := hid (by rw [hbL_zero]; exact (H5.out.pick 2).pick 2)
              go_wp2_with fail
              go_loopw [11, 89] (fun _ i wr => ∃ x : Nat, x ≤ V ∧ i = .int .i64 x ∧ Sat w (wpart w) [row 3 1 (.slice (some ⟨gh, 0, none⟩) V V) V ((hbL V S.drs n x).map (Value.int .i64)), libp q S, blk ga 34 [.int .i64 4, .int .i64 n]] wr) (fun _ i _ => V - (intOf i).toNat)
              case atStart => exact ⟨0, Nat.zero_le _, rfl, H5a.out⟩
              case round =>
                clear H5 H5a d0 d1
                obtain ⟨x, hx, rfl, Sr⟩ := hrel
                have d1 : wr.cell? ⟨ga, 1, none⟩ = some (.int .i64 n) := (Sr.pick 2).isBlk.cell 1 rfl
                have HR := hid Sr
                clear Sr
                by_cases hxV : x < V
                · have x1 : (x : Int) < (V : Int) := by omega
                  have x0 : (0 : Int) ≤ (x : Int) := by omega
                  obtain ⟨O, hO⟩ : ∃ O, onI (inF S.drs (x : Int)) = O := ⟨_, rfl⟩
                  have HO := hid hO
                  clear hO
                  by_cases hOn : O = n
                  · subst hOn
                    have HST := hid (hbL_yes (V := V) HO.out)
                    go_wp2_with fail
                    go_region_with (go_at_call 11; refine (lin_sat (x : Int) HO.out (HR.out.drew.pick 1)).mono ?_; rintro e w6 ⟨rfl, S6'⟩; have S6 := hid S6'; have p1 : w6.cell? ⟨ga, 1, none⟩ = some (.int .i64 O) := (S6'.pick 2).isBlk.cell 1 rfl; clear S6')
                    all_goals
                      have S7 := S6.out.pick 1
                      have f0 := own_frozen S7.isRow x
                      have r0 : w6.cell? ⟨gh, x, none⟩ = some (.int .i64 ((hbL V S.drs O x)[x]'(by rw [hbL_len]; exact hxV))) := own_cell S7.isRow x (by rw [List.getElem?_map, List.getElem?_eq_getElem (by rw [hbL_len]; exact hxV)]; rfl)
                      have H7 := hid S7
                      clear S7 S6 HR d1 p1
                      go_wp2_with fail
                      go_roundw
                      case rel => exact ⟨x + 1, by omega, by go_num, by
                        have S8 := H7.out.rowSet x (.int .i64 0)
                        rw [← List.map_set, HST.out] at S8
                        exact S8⟩
                      case measure => (simp [intOf] <;> omega)
                  · have HST := hid (hbL_no (V := V) (l := S.drs) (n := n) (k := x) (by rw [HO.out]; exact hOn))
                    have hOb : (O == n) = false := by simpa using hOn
                    go_wp2_with fail
                    go_region_with (go_at_call 11; refine (lin_sat (x : Int) HO.out (HR.out.drew.pick 1)).mono ?_; rintro e w6 ⟨rfl, S6'⟩; have S6 := hid S6'; have p1 : w6.cell? ⟨ga, 1, none⟩ = some (.int .i64 n) := (S6'.pick 2).isBlk.cell 1 rfl; clear S6')
                    all_goals
                      have S7 := S6.out.pick 1
                      rw [HST.out] at S7
                      have H7 := hid S7
                      clear S7 S6 HR d1 p1
                      go_wp2_with fail
                      go_roundw
                      case rel => exact ⟨x + 1, by omega, by go_num, H7.out⟩
                      case measure => (simp [intOf] <;> omega)
                · obtain rfl : x = V := by omega
                  by_cases hnr : 0 ≤ n ∧ n < (D : Int)
                  · obtain ⟨m, rfl⟩ := Int.eq_ofNat_of_zero_le hnr.1
                    obtain ⟨J1, J2⟩ := HI.out.up.broke (j := m) (by omega) true
                    have J1 := hid J1
                    have J2 := hid J2
                    have hml : m < S.drs.length := by rw [HI.out.len]; omega
                    go_wp2_with fail
                    refine (lbreak_yes true rfl hml (HR.out.pick 1)).mono ?_; rintro e w6 ⟨rfl, S6⟩
                    have S7 := S6.pick 1
                    rw [J2.out] at S7
                    have H7 := hid S7
                    clear S6 S7 HR d1
                    go_wp2_with fail
                    go_meet
                    exact ⟨gh, _, rfl, J1.out, H7.out.two⟩
                  · have hnr2 : n < 0 ∨ (S.drs.length : Int) ≤ n := by rw [HI.out.len]; omega
                    have HUN := hid (HI.out.unbroke (n := n) (by omega))
                    go_wp2_with fail
                    refine (lbreak_no n true hnr2 (HR.out.pick 1)).mono ?_; rintro e w6 ⟨rfl, S6⟩
                    have S7 := S6.pick 1
                    rw [HUN.out] at S7
                    have H7 := hid S7
                    clear S6 S7 HR d1
                    go_wp2_with fail
                    go_meet
                    exact ⟨gh, S, rfl, HI.out.up, H7.out.two⟩
            · obtain ⟨J1, J2⟩ := HI.out.up.crash
              have J1 := hid J1
              have J2 := hid J2
              go_wp2_with fail
              refine (lcrash_sat (by rw [HI.out.vols]; exact HV0.out) (by rw [HI.out.len]; omega) (by rw [HI.out.vols, HVL.out]; omega) (H5.out.pick 2)).mono ?_; rintro e w6 ⟨rfl, S6⟩
              have H6 := hid S6
              clear S6 H5 d0 d1
              go_wp2_with (at_make; refine wpList_makeInts rfl _ _ rfl V rfl rfl rfl rfl (by omega) H6.out ?_)
              intro gh2 w7 S7
              have e7 : zsL V = (heldL V (S.drs.map crD)).map (Value.int .i64) := by rw [J2.out]; rfl
              rw [e7] at S7
              have H7 := hid S7
              clear S7 H6 e7
              go_wp2_with fail
              go_meet
              exact ⟨gh2, _, rfl, J1.out, H7.out.two⟩
            · obtain ⟨q1, q2, q3, q4, q7⟩ := hk6
              go_wp2_with fail
              go_meet
              exact ⟨gh, S, rfl, HI.out.up, H5.out.drop⟩
          case rest =>
            clear H5 d0 d1 HI
            obtain ⟨gh', T, rfl, hIT, S6⟩ := hcut
            have HIT := hid hIT
            have H6 := hid S6
            clear S6 hIT
            have hmm := @run_makeMap Try.prog
            obtain ⟨mq, hmq⟩ := H6.out.szEx
            go_wp2_with fail
            refine wp_gen (fun w2 => Sat w (wpart w) [bmap mq 0 [], row 3 1 (.slice (some ⟨gh', 0, none⟩) V V) V ((heldL V T.drs).map (Value.int .i64)), libp q T] w2) (H6.out.mapNew hmq.symm) ?_
            clear H6 hmq hmm
            intro w7 S7
            go_loopw [13, 14, 15, 115] (fun nv _ _ i wr => ∃ (x : Nat) (U : List Int) (c : Nat), x ≤ V ∧ i = .int .i64 x ∧ nv = .int .i64 ((inL T.drs x).length : Int) ∧ c ≤ x ∧ (inL T.drs x).length ≤ x ∧ (∀ kk : Nat, (kk : Int) ∈ U → kk ∈ inL T.drs x) ∧ Sat w (wpart w) [bmap mq c U, row 3 1 (.slice (some ⟨gh', 0, none⟩) V V) V ((heldL V T.drs).map (Value.int .i64)), libp q T] wr) (fun _ _ _ i _ => V - (intOf i).toNat)
            case atStart => exact ⟨0, [], 0, Nat.zero_le _, rfl, rfl, Nat.le_refl _, Nat.le_refl _, by simp, S7⟩
            case round =>
              clear S7
              obtain ⟨x, U, c, hx, rfl, rfl, hc, hil, hU, Sr⟩ := hrel
              have HR := hid Sr
              have HU := hid hU
              clear Sr hU
              by_cases hxV : x < V
              · have x1 : (x : Int) < (V : Int) := by omega
                have x0 : (0 : Int) ≤ (x : Int) := by omega
                have HG := hid (heldL_get V T.drs x hxV)
                have hnn := HIT.out.dok.nn (x : Int)
                obtain ⟨z, hz⟩ : ∃ z, heldOf T.drs (x : Int) = z := ⟨_, rfl⟩
                rw [hz] at hnn
                have HZ := hid hz
                clear hz
                have r0 : ∀ w6, Sat w (wpart w) [row 3 1 (.slice (some ⟨gh', 0, none⟩) V V) V ((heldL V T.drs).map (Value.int .i64)), bmap mq c U, libp q T] w6 → w6.cell? ⟨gh', x, none⟩ = some (.int .i64 z) := fun w6 S => own_cell S.isRow x (by rw [List.getElem?_map, List.getElem?_eq_getElem (by rw [heldL_len]; exact hxV), HG.out, HZ.out]; rfl)
                have R0 := hid r0
                clear r0
                have HSU := hid (inL_succ T.drs x)
                cases hin : inF T.drs (x : Int) with
                | none =>
                  have hz0 : z = 0 := by rw [← HZ.out, heldOf_none hin]
                  subst hz0
                  have HIN := hid hin
                  have hsu : inL T.drs (x + 1) = inL T.drs x := by rw [HSU.out, hin]; simp
                  have HSU := hid hsu
                  clear hin hsu
                  go_wp2_with fail
                  refine (lin_sat (x : Int) (N := -1) (by rw [HIN.out]; rfl) (HR.out.pick 2)).mono ?_; rintro e w6 ⟨rfl, S6⟩
                  have S7 := S6.pick 1
                  have c0 := R0.out w6 (S7.pick 2)
                  have H7 := hid S7
                  clear S6 S7 HR
                  have hwf : wfI (-1) := by unfold wfI; omega
                  have HWF := hid hwf
                  clear hwf
                  go_wp2_with (at_mapUpdate; refine wpList_mapPut rfl _ _ _ rfl rfl rfl rfl H7.out HWF.out (by omega) ?_)
                  intro w8 S8
                  have H8 := hid (S8.pick 2)
                  clear S8 H7 c0
                  go_wp2_with fail
                  go_roundw
                  case rel => exact ⟨x + 1, setAdd U (-1), c + 1, by omega, by go_num, by rw [HSU.out], by omega, by rw [HSU.out]; omega, fun kk h => by
                    rw [HSU.out]
                    unfold setAdd at h
                    split at h
                    · exact HU.out kk h
                    · rcases List.mem_append.1 h with h | h
                      · exact HU.out kk h
                      · simp at h, (H8.out.pick 1)⟩
                  case measure => (simp [intOf] <;> omega)
                | some kk =>
                  have HIN := hid hin
                  have hsu : inL T.drs (x + 1) = inL T.drs x ++ [kk] := by rw [HSU.out, hin]; rfl
                  have hnew : kk ∉ inL T.drs x := inL_new hin
                  have hkU : (kk : Int) ∉ U := fun h => hnew (HU.out kk h)
                  have hkl := (inF_lt hin).1
                  have hkd : kk < D := by rw [← HIT.out.len]; exact hkl
                  have hwf : wfI (kk : Int) := by unfold wfI; omega
                  have HWF := hid hwf
                  have HKU := hid hkU
                  have HSU := hid hsu
                  clear hin hsu hnew hkU hkl hwf
                  have kk0 : (0 : Int) ≤ (kk : Int) := by omega
                  by_cases hz : 0 < z
                  all_goals
                    go_wp2_with fail
                    refine (lin_sat (x : Int) (N := (kk : Int)) (by rw [HIN.out]; rfl) (HR.out.pick 2)).mono ?_; rintro e w6 ⟨rfl, S6⟩
                    have S7 := S6.pick 1
                    have c0 := R0.out w6 (S7.pick 2)
                    have m0 := S7.mapGet HWF.out
                    rw [decide_eq_false HKU.out] at m0
                    have H7 := hid S7
                    clear S6 S7 HR
                    go_wp2_with (at_mapUpdate; refine wpList_mapPut rfl _ _ _ rfl rfl rfl rfl H7.out HWF.out (by omega) ?_)
                    intro w8 S8
                    have H8 := hid (S8.pick 2)
                    clear S8 H7 c0 m0
                    go_wp2_with fail
                    go_roundw
                    case rel => exact ⟨x + 1, setAdd U (kk : Int), c + 1, by omega, by go_num, by rw [HSU.out]; simp, by omega, by rw [HSU.out]; simp; omega, fun k2 h => by
                      rw [HSU.out]
                      rw [setAdd_out HKU.out] at h
                      rcases List.mem_append.1 h with h | h
                      · exact List.mem_append.2 (Or.inl (HU.out k2 h))
                      · have e : k2 = kk := by simp at h; omega
                        rw [e]; simp, (H8.out.pick 1)⟩
                    case measure => (simp [intOf] <;> omega)
              · obtain rfl : x = V := by omega
                have hwk := HIT.out.dok.work x
                obtain ⟨W, hW⟩ : ∃ W, workN T.drs T.drs.length = W := ⟨_, rfl⟩
                rw [hW] at hwk
                have HW := hid hW
                generalize (inL T.drs x).length = A at *
                have hnw : ¬ (W : Int) < (A : Int) := by omega
                clear hW hwk
                go_wp2_with fail
                refine (lwork_sat (N := (W : Int)) (by rw [HW.out]) (HR.out.pick 2)).mono ?_; rintro e w6 ⟨rfl, S6⟩
                have H7 := hid (S6.pick 2)
                clear S6 HR
                go_wp2_with fail
                go_roundw
                case rel => exact ⟨k + 1, gh', T, by omega, by go_num, rfl, HIT.out, H7.out.two⟩
                case measure => (simp [intOf] <;> omega)
        · obtain rfl : k = N := by omega
          rcases HNE.out with hN | hN
          · have hx : ¬ (k : Int) < (len : Int) := by omega
            clear hN
            go_wp2_with fail
            go_ret
            exact ⟨rfl, HS.out.toBelow (Part.le_refl _)⟩
          · have hx : ¬ (k : Int) < 40 := by omega
            clear hN
            by_cases hx2 : (k : Int) < (len : Int)
            all_goals
              go_wp2_with fail
              go_ret
              exact ⟨rfl, HS.out.toBelow (Part.le_refl _)⟩
end Go.Proofs.Ytcogjlfdhiomnaa
