/- QueueAll, walked. -/
import Derived.Test.YtecdcainkemicaaQAllPl
namespace Go.Proofs.Ytecdcainkemicaa
open Go.RowKit
set_option linter.unusedVariables false

set_option maxRecDepth 100000 in
set_option maxHeartbeats 20000000 in
theorem queueAll_gl (l1 : Option Addr) (len1 cap1 : Nat) (l2 : Option Addr) (len2 cap2 : Nat) (l3 : Option Addr) (len3 cap3 : Nat) (w : World) (hq1 : 20 < len1) (hq2 : len2 ≤ 10) (h1 : OkT Try.prog w 6 22 [.slice l1 len1 cap1]) (h2 : OkT Try.prog w 6 26 [.slice l2 len2 cap2]) (h3 : OkT Try.prog w 6 26 [.slice l3 len3 cap3]) :
    Calls Try.prog 5 #[.slice l1 len1 cap1, .slice l2 len2 cap2, .slice l3 len3 cap3] w (RetB (.bool true) w.heap.size w) := by
  obtain ⟨hlen1, hlc1, hreq⟩ := okT_reqsW h1
  obtain ⟨hlen2, hlc2, ds, hdl, hdr, hdw⟩ := okT_intsW h2
  obtain ⟨hlen3, hlc3, vs, hvl, hvr, hvw⟩ := okT_intsW h3
  have HREQ := hid hreq
  have HDR := hid hdr
  have HDW := hid hdw
  have HVR := hid hvr
  obtain ⟨N1, hN1⟩ : ∃ N, min len1 20 = N := ⟨_, rfl⟩
  obtain ⟨N2, hN2⟩ : ∃ N, min len2 10 = N := ⟨_, rfl⟩
  have n1a : N1 ≤ len1 := by omega
  have n1b : N1 ≤ 20 := by omega
  have n2a : N2 ≤ len2 := by omega
  have n2b : N2 ≤ 10 := by omega
  have HN1 := hid hN1
  have HN2 := hid hN2
  have HDL := hid hdl
  have HVL := hid hvl
  clear h1 h2 h3 hreq hdr hdw hvr hvw hN1 hN2 hdl hvl
  have H0 := hid (Sat.start w)
  have hmm := @run_makeMap Try.prog
  go_enter Try.func5, Try.ntmps5
  go_wp2_with fail
  refine (qawake_sat H0.out).mono ?_; rintro e w1 ⟨rfl, S1⟩
  have HS1 := hid S1
  clear S1
  go_wp2_with fail
  obtain ⟨q, hq⟩ : ∃ q, w1.heap.size = q := ⟨_, rfl⟩
  refine wp_gen (fun w2 => Sat w (wpart w) [bmap (q + 1) 0 [], que q []] w2) ((HS1.out.queNew hq.symm).mapNew (by simp [hq])) ?_
  rw [hq]
  clear hq HS1 hmm
  intro w2 S2
  go_loopw [9, 10] (fun i _ wr => ∃ (n : Nat) (l : List Wt) (c : Nat), n ≤ N1 ∧ i = .int .i64 n ∧ c ≤ n ∧ l.length ≤ n ∧ QAll 0 l ∧ Sat w (wpart w) [bmap (q + 1) c (idsOf l), que q l] wr) (fun i _ _ => N1 - (intOf i).toNat)
  case atStart => exact ⟨0, [], 0, Nat.zero_le _, rfl, Nat.le_refl _, by simp, ⟨by simp, by simp [idsOf], by simp [idsOf], by simp⟩, S2⟩
  case round =>
    clear S2
    obtain ⟨n, l, c, hn, rfl, hc, hln, hall, Sr⟩ := hrel
    have HS := hid Sr
    have HALL := hid hall
    clear Sr hall
    by_cases hlt : n < N1
    · obtain ⟨b, off, id, blob, vol, at_, rfl, hwf, c0, c1, c2, c3⟩ := HREQ.out n (by omega)
      replace c0 := HS.out.atI c0
      replace c1 := HS.out.atI c1
      replace c2 := HS.out.atI c2
      replace c3 := HS.out.atI c3
      have hk1 : (n : Int) < (len1 : Int) := by omega
      have hk0 : (0 : Int) ≤ (n : Int) := by omega
      have hk2 : (n : Int) < 20 := by omega
      have HWF := hid hwf
      clear hwf
      go_wp2_with fail
      refine (retB_sat (small_any _ id blob vol at_ rfl rfl) HS.out).mono ?_; rintro e w3 ⟨rfl, S3⟩
      obtain ⟨V, hV⟩ : ∃ V, min (max vol 0) 11 = V := ⟨_, rfl⟩
      obtain ⟨A, hA⟩ : ∃ A, min (max at_ 0) 1000000000 = A := ⟨_, rfl⟩
      rw [hV, hA]
      clear hV hA
      obtain ⟨g, hg⟩ : ∃ g, w3.heap.size = g := ⟨_, rfl⟩
      have S4 : Sat w (wpart w) (blk g 25 [.int .i64 id, .int .u64 blob, .int .i64 V, .int .i64 A] :: bmap (q + 1) c (idsOf l) :: que q l :: []) _ := S3.alloc rfl hg.symm
      have HS4 := hid S4
      clear S3 S4 HS c0 c1 c2 c3
      go_wp2_with fail
      refine wp_gen (fun w4 => Sat w (wpart w) (blk g 25 [.int .i64 id, .int .u64 blob, .int .i64 V, .int .i64 A] :: bmap (q + 1) c (idsOf l) :: que q l :: []) w4) HS4.out ?_
      clear HS4 hg
      intro w4 S4
      have d0 := S4.isBlk.cell 0 rfl
      have d1 := S4.isBlk.cell 1 rfl
      have d2 := S4.isBlk.cell 2 rfl
      have d3 := S4.isBlk.cell 3 rfl
      have m0 := S4.swap.drew.mapGet HWF.out
      have HS4 := hid (S4.pick 2)
      clear S4
      by_cases k1 : id ∈ idsOf l
      · obtain ⟨i, hf1, hf2, hf3⟩ := findF_in id l 0 k1
        have HF : Hid (0 ≤ findF id l 0) := hid (by rw [hf1]; omega)
        have HK := hid k1
        rw [decide_eq_true k1] at m0
        clear hf1 hf2 hf3 k1
        go_region_held3 (fun w' => w'.cell? ⟨g, 0, none⟩ = some (.int .i64 id) ∧ w'.cell? ⟨g, 1, none⟩ = some (.int .u64 blob) ∧ w'.cell? ⟨g, 2, none⟩ = some (.int .i64 V) ∧ w'.cell? ⟨g, 3, none⟩ = some (.int .i64 A) ∧ (Instr.lookup 38 (.map (some (q + 1))) (.int .i64 id) false).run Try.prog w' = .ok (.bool true) w') (first | exact ⟨d0, d1, d2, d3, m0⟩ | exact ⟨p0, p1, p2, p3, m1⟩)
          (first | (go_at_call 9; refine (qadd_no id blob V A HS4.out.drew HF.out).mono ?_; rintro e w5 ⟨rfl, S5⟩; have p0 := (S5.pick 1).isBlk.cell 0 rfl; have p1 := (S5.pick 1).isBlk.cell 1 rfl; have p2 := (S5.pick 1).isBlk.cell 2 rfl; have p3 := (S5.pick 1).isBlk.cell 3 rfl; have m1 := (S5.pick 2).mapGet HWF.out; rw [decide_eq_true HK.out] at m1; have HS5 := hid S5; clear S5))
        all_goals
          have HS6 := hid (HS5.out.pick 2)
          clear HS5 d0 d1 d2 d3 m0 p1 p2 p3 m1 HS4
          go_wp2_with (at_mapUpdate; refine wpList_mapPut rfl _ _ _ rfl rfl rfl rfl HS6.out HWF.out (by omega) ?_)
          intro w6 S6
          rw [setAdd_in HK.out] at S6
          have HS7 := hid S6.two
          clear S6 HS6 p0
          go_wp2_with fail
          go_roundw
          case rel => exact ⟨n + 1, l, c + 1, by omega, by go_num, by omega, by omega, HALL.out, HS7.out⟩
          case measure => (simp [intOf] <;> omega)
      · have hf := findF_out id l k1
        have HF : Hid (findF id l 0 < 0) := hid (by rw [hf]; omega)
        have HK := hid k1
        rw [decide_eq_false k1] at m0
        have hl20 : l.length < 1048576 := by omega
        have HADD := hid (HALL.out.add ⟨id, blob, V, A, 0⟩ (by omega) k1 HWF.out rfl)
        clear hf k1
        go_region_held3 (fun w' => w'.cell? ⟨g, 0, none⟩ = some (.int .i64 id) ∧ w'.cell? ⟨g, 1, none⟩ = some (.int .u64 blob) ∧ w'.cell? ⟨g, 2, none⟩ = some (.int .i64 V) ∧ w'.cell? ⟨g, 3, none⟩ = some (.int .i64 A) ∧ (Instr.lookup 38 (.map (some (q + 1))) (.int .i64 id) false).run Try.prog w' = .ok (.bool false) w') (first | exact ⟨d0, d1, d2, d3, m0⟩ | exact ⟨p0, p1, p2, p3, m1⟩)
          (first | (go_at_call 9; refine (qadd_yes id blob V A HS4.out.drew HF.out hl20).mono ?_; rintro e w5 ⟨rfl, S5⟩; have p0 := (S5.pick 1).isBlk.cell 0 rfl; have p1 := (S5.pick 1).isBlk.cell 1 rfl; have p2 := (S5.pick 1).isBlk.cell 2 rfl; have p3 := (S5.pick 1).isBlk.cell 3 rfl; have m1 := (S5.pick 2).mapGet HWF.out; rw [decide_eq_false HK.out] at m1; have HS5 := hid S5; clear S5))
        all_goals
          have HS6 := hid (HS5.out.pick 2)
          clear HS5 d0 d1 d2 d3 m0 p1 p2 p3 m1 HS4
          go_wp2_with (at_mapUpdate; refine wpList_mapPut rfl _ _ _ rfl rfl rfl rfl HS6.out HWF.out (by omega) ?_)
          intro w6 S6
          rw [setAdd_out HK.out] at S6
          have hid2 : idsOf l ++ [id] = idsOf (l ++ [⟨id, blob, V, A, 0⟩]) := by simp [idsOf]
          rw [hid2] at S6
          have HS7 := hid S6.two
          clear S6 HS6 p0 hid2
          go_wp2_with fail
          go_roundw
          case rel =>
            have hq0 := HADD.out
            refine ⟨n + 1, l ++ [⟨id, blob, V, A, 0⟩], c + 1, by omega, by go_num, by omega, by simp; omega, ⟨hq0.len, hq0.ids, hq0.wf, fun y hy => ?_⟩, HS7.out⟩
            rcases List.mem_append.1 hy with hy | hy
            · exact HALL.out.passed y hy
            · simp at hy; subst hy; simp
          case measure => (simp [intOf] <;> omega)
    · obtain rfl : n = N1 := by omega
      clear hlt
      first
      | (have hk1 : ¬ (n : Int) < (len1 : Int) := by have := HN1.out; omega)
      | (have hk1 : ¬ (n : Int) < 20 := by have := HN1.out; omega)
      go_wp2_with fail
      clear hk1
      go_loopw [11] (fun i wr => ∃ (m : Nat) (l : List Wt), m ≤ N2 ∧ i = .int .i64 m ∧ QAll 0 l ∧ Sat w (wpart w) [bmap (q + 1) c (idsOf l), que q l] wr) (fun i _ => N2 - (intOf i).toNat)
      case atStart => exact ⟨0, l, Nat.zero_le _, rfl, HALL.out, HS.out⟩
      case round =>
        clear HS HALL hln
        obtain ⟨m, l, hm, rfl, hall, Sr⟩ := hrel
        have HS := hid Sr
        have HALL := hid hall
        clear Sr hall
        by_cases hlt : m < N2
        · have hmd : m < ds.length := by have := HDL.out; omega
          obtain ⟨b2, off2, rfl, c0⟩ := HDR.out.get HS.out m (u := .int .i64 ds[m]) (by simp [hmd])
          have hwf := HDW.out ds[m] (List.getElem_mem _)
          have i0 : cellI (wpart w) b2 (off2 + m) = some (.int .i64 ds[m]) := by
            obtain ⟨b', off', e, hc⟩ := HDR.out m (by simpa using hmd)
            cases e
            simpa using hc
          generalize ds[m] = id at *
          have I0 := hid i0
          have HWF := hid hwf
          have hk1 : (m : Int) < (len2 : Int) := by omega
          have hk0 : (0 : Int) ≤ (m : Int) := by omega
          have hk2 : (m : Int) < 10 := by omega
          have m0 := HS.out.drew.mapGet hwf
          have HS4 := hid HS.out.swap
          clear i0 hwf HS
          by_cases k2 : id ∈ idsOf l
          · obtain ⟨i, hf1, hf2, hf3⟩ := findF_in id l 0 k2
            rw [Nat.zero_add] at hf1
            have HF := hid hf1
            have HK := hid k2
            have HE := hid hf3
            rw [decide_eq_true k2] at m0
            clear hf1 hf3 k2
            go_wp2_with fail
            go_region_held3 (fun w' => w'.cell? ⟨b2, off2 + m, none⟩ = some (.int .i64 id) ∧ (Instr.lookup 38 (.map (some (q + 1))) (.int .i64 id) false).run Try.prog w' = .ok (.bool true) w' ∧ Sat w (wpart w) [] w') (first | exact ⟨c0, m0, HS4.out.drew.drop.drop⟩ | exact ⟨p0, m1, HS5.out.drop.drop⟩)
              (first | (go_at_call 12; refine (qdrop_yes id i HS4.out.drew HF.out).mono ?_; rintro e w5 ⟨rfl, S5⟩; have p0 := S5.atI I0.out; have m1 := S5.swap.mapGet HWF.out; rw [decide_eq_true HK.out] at m1; have HS5 := hid S5; clear S5))
            all_goals
              have HS6 := hid HS5.out.swap
              clear HS5 m0 m1 HS4
              go_wp2_with (at_delete; refine wpList_mapDel rfl _ _ rfl rfl rfl HS6.out HWF.out ?_)
              intro w6 S6
              rw [HE.out] at S6
              have HS7 := hid S6
              clear S6 HS6 p0
              go_wp2_with fail
              go_roundw
              case rel =>
                have hq0 := HALL.out.drop i
                exact ⟨m + 1, l.eraseIdx i, by omega, by go_num, ⟨hq0.len, hq0.ids, hq0.wf, fun y hy => HALL.out.passed y (List.mem_of_mem_eraseIdx hy)⟩, HS7.out⟩
              case measure => (simp [intOf] <;> omega)
          · have hf := findF_out id l k2
            have HF : Hid (findF id l 0 < 0) := hid (by rw [hf]; omega)
            have HK := hid k2
            have HE : Hid ((idsOf l).erase id = idsOf l) := hid (List.erase_of_not_mem k2)
            rw [decide_eq_false k2] at m0
            clear hf k2
            go_wp2_with fail
            go_region_held3 (fun w' => w'.cell? ⟨b2, off2 + m, none⟩ = some (.int .i64 id) ∧ (Instr.lookup 38 (.map (some (q + 1))) (.int .i64 id) false).run Try.prog w' = .ok (.bool false) w') (first | exact ⟨c0, m0⟩ | exact ⟨p0, m1⟩)
              (first | (go_at_call 12; refine (qdrop_no id HS4.out.drew HF.out).mono ?_; rintro e w5 ⟨rfl, S5⟩; have p0 := S5.atI I0.out; have m1 := S5.swap.mapGet HWF.out; rw [decide_eq_false HK.out] at m1; have HS5 := hid S5; clear S5))
            all_goals
              have HS6 := hid HS5.out.swap
              clear HS5 m0 m1 HS4
              go_wp2_with (at_delete; refine wpList_mapDel rfl _ _ rfl rfl rfl HS6.out HWF.out ?_)
              intro w6 S6
              rw [HE.out] at S6
              have HS7 := hid S6
              clear S6 HS6 p0
              go_wp2_with fail
              go_roundw
              case rel => exact ⟨m + 1, l, by omega, by go_num, HALL.out, HS7.out⟩
              case measure => (simp [intOf] <;> omega)
        · obtain rfl : m = N2 := by omega
          clear hlt
          first
          | (have hk1 : ¬ (m : Int) < (len2 : Int) := by have := HN2.out; omega)
          | (have hk1 : ¬ (m : Int) < 10 := by have := HN2.out; omega)
          go_wp2_with (at_len; refine wpList_mapLen rfl _ rfl rfl HS.out ?_)
          clear hk1
          rw [ids_len]
          obtain ⟨M, hM⟩ : ∃ M, l.length = M := ⟨_, rfl⟩
          rw [hM]
          have hM20 : M ≤ 20 := by have := HALL.out.len; omega
          have HM := hid hM
          clear hM
          go_wp2_with fail
          go_loopw [13, 14, 15, 16] (fun i _ _ _ wr => ∃ (k : Nat) (l : List Wt), k ≤ M ∧ i = .int .i64 k ∧ l.length + k = M ∧ QAll k l ∧ Sat w (wpart w) [bmap (q + 1) c (idsOf l), que q l] wr) (fun i _ _ _ _ => M - (intOf i).toNat)
          case atStart => exact ⟨0, l, Nat.zero_le _, rfl, HM.out, HALL.out, HS.out⟩
          case round =>
            clear HS HALL HM
            obtain ⟨k, l, hk, rfl, hlk, hall, Sr⟩ := hrel
            have HS := hid Sr
            have HALL := hid hall
            clear Sr hall
            by_cases hlt : k < M
            · obtain ⟨x0, r, rfl⟩ : ∃ x0 r, l = x0 :: r := by
                cases l with
                | nil => simp at hlk; omega
                | cons x0 r => exact ⟨x0, r, rfl⟩
              obtain ⟨V, hVol⟩ : ∃ V : Int, (len3 = 0 ∧ V = -1) ∨ (0 < len3 ∧ ∃ h : k % len3 < vs.length, vs[k % len3] = V) := by
                by_cases h0 : len3 = 0
                · exact ⟨-1, Or.inl ⟨h0, rfl⟩⟩
                · have hm := Nat.mod_lt k (Nat.pos_of_ne_zero h0)
                  have := HVL.out
                  exact ⟨_, Or.inr ⟨by omega, by omega, rfl⟩⟩
              have hrng := chooseF_rng x0 r V k
              obtain ⟨i, hi⟩ := Int.eq_ofNat_of_zero_le hrng.1
              have hil : i < (x0 :: r).length := by rw [hi] at hrng; omega
              obtain ⟨x, hx⟩ : ∃ x, (x0 :: r)[i]? = some x := ⟨_, List.getElem?_eq_getElem hil⟩
              have hxm : x.id ∈ idsOf (x0 :: r) := by unfold idsOf; exact List.mem_map.2 ⟨x, List.mem_of_getElem? hx, rfl⟩
              have hxw := HALL.out.wf x.id hxm
              have hnx := ids_next HALL.out.ids hx
              have hc := fun w' (S : Sat w (wpart w) (que q (x0 :: r) :: bmap (q + 1) c (idsOf (x0 :: r)) :: []) w') => qnext_some x0 r V k i x S hi hx (fun y hy => by have := HALL.out.passed y hy; omega)
              have hall2 := HALL.out.next i
              have hlen2 := left_len (i := i) (l := x0 :: r) hil
              obtain ⟨lx, hlx⟩ : ∃ lx, lx = x0 :: r := ⟨_, rfl⟩
              rw [← hlx] at hc hnx hxm HS HALL hall2 hlen2 hlk
              have HC := hid hc
              have HNX := hid hnx
              have HXM := hid hxm
              have HXW := hid hxw
              have HALL2 := hid hall2
              have hlen2' : ((bump i lx).eraseIdx i).length + (k + 1) = M := by omega
              have HLEN2 := hid hlen2'
              have HVOL := hid hVol
              clear hrng hi hil hx hxm hxw hnx hc hall2 hlen2 hlen2' hlx hVol hlk
              have hkM : (k : Int) < (M : Int) := by omega
              rcases HVOL.out with ⟨rfl, rfl⟩ | ⟨h0, hmv, hv⟩
              · clear HVOL
                go_wp2_with fail
                refine (HC.out _ HS.out.swap).mono ?_; rintro e w5 ⟨rfl, S5⟩
                have m0 := fun o => (S5.alloc_ o).swap.mapGet HXW.out
                rw [decide_eq_true HXM.out] at m0
                have HS6 := hid (S5.swap.alloc_ (.cells #[.int .i64 x.id, .int .u64 x.blob, .int .i64 x.vol, .int .i64 x.at_] 25))
                clear S5 HC HS
                go_wp2_with (at_delete; refine wpList_mapDel rfl _ _ rfl rfl rfl HS6.out HXW.out ?_)
                clear m0
                intro w6 S6
                rw [HNX.out] at S6
                have HS7 := hid S6
                clear S6 HS6
                go_wp2_with fail
                go_roundw
                case rel => exact ⟨k + 1, _, by omega, by go_num, HLEN2.out, HALL2.out, HS7.out⟩
                case measure => (simp [intOf] <;> omega)
              · obtain ⟨b3, off3, rfl, c0⟩ := HVR.out.get HS.out (k % len3) (u := .int .i64 V) (by rw [List.getElem?_map, List.getElem?_eq_getElem hmv, hv]; rfl)
                have hm0 : (0 : Int) ≤ (k : Int) % (len3 : Int) := Int.emod_nonneg _ (by omega)
                have hm1 : (k : Int) % (len3 : Int) < (len3 : Int) := Int.emod_lt_of_pos _ (by omega)
                have hm2 : (0 : Int) < (len3 : Int) := by omega
                clear HVOL hv hmv
                go_wp2_with fail
                refine (HC.out _ HS.out.swap).mono ?_; rintro e w5 ⟨rfl, S5⟩
                have m0 := fun o => (S5.alloc_ o).swap.mapGet HXW.out
                rw [decide_eq_true HXM.out] at m0
                have HS6 := hid (S5.swap.alloc_ (.cells #[.int .i64 x.id, .int .u64 x.blob, .int .i64 x.vol, .int .i64 x.at_] 25))
                clear S5 HC HS
                go_wp2_with (at_delete; refine wpList_mapDel rfl _ _ rfl rfl rfl HS6.out HXW.out ?_)
                clear m0
                intro w6 S6
                rw [HNX.out] at S6
                have HS7 := hid S6
                clear S6 HS6
                go_wp2_with fail
                go_roundw
                case rel => exact ⟨k + 1, _, by omega, by go_num, HLEN2.out, HALL2.out, HS7.out⟩
                case measure => (simp [intOf] <;> omega)
            · obtain rfl : k = M := by omega
              have hl0 : l = [] := List.eq_nil_of_length_eq_zero (by omega)
              subst hl0
              clear hlt hlk
              go_wp2_with fail
              refine (qnext_none 0 0 HS.out.swap).mono ?_; rintro e w5 ⟨rfl, S5⟩
              have HS6 := hid (S5.swap.alloc_ (.cells #[.int .i64 0, .int .u64 0, .int .i64 0, .int .i64 0] 25))
              clear S5
              go_wp2_with (at_len; refine wpList_mapLenG (by rfl) _ rfl rfl HS6.out ?_)
              go_ret
              exact ⟨rfl, HS6.out.toBelow (Part.le_refl _)⟩
set_option maxRecDepth 100000 in
set_option maxHeartbeats 20000000 in
theorem queueAll_gg (l1 : Option Addr) (len1 cap1 : Nat) (l2 : Option Addr) (len2 cap2 : Nat) (l3 : Option Addr) (len3 cap3 : Nat) (w : World) (hq1 : 20 < len1) (hq2 : 10 < len2) (h1 : OkT Try.prog w 6 22 [.slice l1 len1 cap1]) (h2 : OkT Try.prog w 6 26 [.slice l2 len2 cap2]) (h3 : OkT Try.prog w 6 26 [.slice l3 len3 cap3]) :
    Calls Try.prog 5 #[.slice l1 len1 cap1, .slice l2 len2 cap2, .slice l3 len3 cap3] w (RetB (.bool true) w.heap.size w) := by
  obtain ⟨hlen1, hlc1, hreq⟩ := okT_reqsW h1
  obtain ⟨hlen2, hlc2, ds, hdl, hdr, hdw⟩ := okT_intsW h2
  obtain ⟨hlen3, hlc3, vs, hvl, hvr, hvw⟩ := okT_intsW h3
  have HREQ := hid hreq
  have HDR := hid hdr
  have HDW := hid hdw
  have HVR := hid hvr
  obtain ⟨N1, hN1⟩ : ∃ N, min len1 20 = N := ⟨_, rfl⟩
  obtain ⟨N2, hN2⟩ : ∃ N, min len2 10 = N := ⟨_, rfl⟩
  have n1a : N1 ≤ len1 := by omega
  have n1b : N1 ≤ 20 := by omega
  have n2a : N2 ≤ len2 := by omega
  have n2b : N2 ≤ 10 := by omega
  have HN1 := hid hN1
  have HN2 := hid hN2
  have HDL := hid hdl
  have HVL := hid hvl
  clear h1 h2 h3 hreq hdr hdw hvr hvw hN1 hN2 hdl hvl
  have H0 := hid (Sat.start w)
  have hmm := @run_makeMap Try.prog
  go_enter Try.func5, Try.ntmps5
  go_wp2_with fail
  refine (qawake_sat H0.out).mono ?_; rintro e w1 ⟨rfl, S1⟩
  have HS1 := hid S1
  clear S1
  go_wp2_with fail
  obtain ⟨q, hq⟩ : ∃ q, w1.heap.size = q := ⟨_, rfl⟩
  refine wp_gen (fun w2 => Sat w (wpart w) [bmap (q + 1) 0 [], que q []] w2) ((HS1.out.queNew hq.symm).mapNew (by simp [hq])) ?_
  rw [hq]
  clear hq HS1 hmm
  intro w2 S2
  go_loopw [9, 10] (fun i _ wr => ∃ (n : Nat) (l : List Wt) (c : Nat), n ≤ N1 ∧ i = .int .i64 n ∧ c ≤ n ∧ l.length ≤ n ∧ QAll 0 l ∧ Sat w (wpart w) [bmap (q + 1) c (idsOf l), que q l] wr) (fun i _ _ => N1 - (intOf i).toNat)
  case atStart => exact ⟨0, [], 0, Nat.zero_le _, rfl, Nat.le_refl _, by simp, ⟨by simp, by simp [idsOf], by simp [idsOf], by simp⟩, S2⟩
  case round =>
    clear S2
    obtain ⟨n, l, c, hn, rfl, hc, hln, hall, Sr⟩ := hrel
    have HS := hid Sr
    have HALL := hid hall
    clear Sr hall
    by_cases hlt : n < N1
    · obtain ⟨b, off, id, blob, vol, at_, rfl, hwf, c0, c1, c2, c3⟩ := HREQ.out n (by omega)
      replace c0 := HS.out.atI c0
      replace c1 := HS.out.atI c1
      replace c2 := HS.out.atI c2
      replace c3 := HS.out.atI c3
      have hk1 : (n : Int) < (len1 : Int) := by omega
      have hk0 : (0 : Int) ≤ (n : Int) := by omega
      have hk2 : (n : Int) < 20 := by omega
      have HWF := hid hwf
      clear hwf
      go_wp2_with fail
      refine (retB_sat (small_any _ id blob vol at_ rfl rfl) HS.out).mono ?_; rintro e w3 ⟨rfl, S3⟩
      obtain ⟨V, hV⟩ : ∃ V, min (max vol 0) 11 = V := ⟨_, rfl⟩
      obtain ⟨A, hA⟩ : ∃ A, min (max at_ 0) 1000000000 = A := ⟨_, rfl⟩
      rw [hV, hA]
      clear hV hA
      obtain ⟨g, hg⟩ : ∃ g, w3.heap.size = g := ⟨_, rfl⟩
      have S4 : Sat w (wpart w) (blk g 25 [.int .i64 id, .int .u64 blob, .int .i64 V, .int .i64 A] :: bmap (q + 1) c (idsOf l) :: que q l :: []) _ := S3.alloc rfl hg.symm
      have HS4 := hid S4
      clear S3 S4 HS c0 c1 c2 c3
      go_wp2_with fail
      refine wp_gen (fun w4 => Sat w (wpart w) (blk g 25 [.int .i64 id, .int .u64 blob, .int .i64 V, .int .i64 A] :: bmap (q + 1) c (idsOf l) :: que q l :: []) w4) HS4.out ?_
      clear HS4 hg
      intro w4 S4
      have d0 := S4.isBlk.cell 0 rfl
      have d1 := S4.isBlk.cell 1 rfl
      have d2 := S4.isBlk.cell 2 rfl
      have d3 := S4.isBlk.cell 3 rfl
      have m0 := S4.swap.drew.mapGet HWF.out
      have HS4 := hid (S4.pick 2)
      clear S4
      by_cases k1 : id ∈ idsOf l
      · obtain ⟨i, hf1, hf2, hf3⟩ := findF_in id l 0 k1
        have HF : Hid (0 ≤ findF id l 0) := hid (by rw [hf1]; omega)
        have HK := hid k1
        rw [decide_eq_true k1] at m0
        clear hf1 hf2 hf3 k1
        go_region_held3 (fun w' => w'.cell? ⟨g, 0, none⟩ = some (.int .i64 id) ∧ w'.cell? ⟨g, 1, none⟩ = some (.int .u64 blob) ∧ w'.cell? ⟨g, 2, none⟩ = some (.int .i64 V) ∧ w'.cell? ⟨g, 3, none⟩ = some (.int .i64 A) ∧ (Instr.lookup 38 (.map (some (q + 1))) (.int .i64 id) false).run Try.prog w' = .ok (.bool true) w') (first | exact ⟨d0, d1, d2, d3, m0⟩ | exact ⟨p0, p1, p2, p3, m1⟩)
          (first | (go_at_call 9; refine (qadd_no id blob V A HS4.out.drew HF.out).mono ?_; rintro e w5 ⟨rfl, S5⟩; have p0 := (S5.pick 1).isBlk.cell 0 rfl; have p1 := (S5.pick 1).isBlk.cell 1 rfl; have p2 := (S5.pick 1).isBlk.cell 2 rfl; have p3 := (S5.pick 1).isBlk.cell 3 rfl; have m1 := (S5.pick 2).mapGet HWF.out; rw [decide_eq_true HK.out] at m1; have HS5 := hid S5; clear S5))
        all_goals
          have HS6 := hid (HS5.out.pick 2)
          clear HS5 d0 d1 d2 d3 m0 p1 p2 p3 m1 HS4
          go_wp2_with (at_mapUpdate; refine wpList_mapPut rfl _ _ _ rfl rfl rfl rfl HS6.out HWF.out (by omega) ?_)
          intro w6 S6
          rw [setAdd_in HK.out] at S6
          have HS7 := hid S6.two
          clear S6 HS6 p0
          go_wp2_with fail
          go_roundw
          case rel => exact ⟨n + 1, l, c + 1, by omega, by go_num, by omega, by omega, HALL.out, HS7.out⟩
          case measure => (simp [intOf] <;> omega)
      · have hf := findF_out id l k1
        have HF : Hid (findF id l 0 < 0) := hid (by rw [hf]; omega)
        have HK := hid k1
        rw [decide_eq_false k1] at m0
        have hl20 : l.length < 1048576 := by omega
        have HADD := hid (HALL.out.add ⟨id, blob, V, A, 0⟩ (by omega) k1 HWF.out rfl)
        clear hf k1
        go_region_held3 (fun w' => w'.cell? ⟨g, 0, none⟩ = some (.int .i64 id) ∧ w'.cell? ⟨g, 1, none⟩ = some (.int .u64 blob) ∧ w'.cell? ⟨g, 2, none⟩ = some (.int .i64 V) ∧ w'.cell? ⟨g, 3, none⟩ = some (.int .i64 A) ∧ (Instr.lookup 38 (.map (some (q + 1))) (.int .i64 id) false).run Try.prog w' = .ok (.bool false) w') (first | exact ⟨d0, d1, d2, d3, m0⟩ | exact ⟨p0, p1, p2, p3, m1⟩)
          (first | (go_at_call 9; refine (qadd_yes id blob V A HS4.out.drew HF.out hl20).mono ?_; rintro e w5 ⟨rfl, S5⟩; have p0 := (S5.pick 1).isBlk.cell 0 rfl; have p1 := (S5.pick 1).isBlk.cell 1 rfl; have p2 := (S5.pick 1).isBlk.cell 2 rfl; have p3 := (S5.pick 1).isBlk.cell 3 rfl; have m1 := (S5.pick 2).mapGet HWF.out; rw [decide_eq_false HK.out] at m1; have HS5 := hid S5; clear S5))
        all_goals
          have HS6 := hid (HS5.out.pick 2)
          clear HS5 d0 d1 d2 d3 m0 p1 p2 p3 m1 HS4
          go_wp2_with (at_mapUpdate; refine wpList_mapPut rfl _ _ _ rfl rfl rfl rfl HS6.out HWF.out (by omega) ?_)
          intro w6 S6
          rw [setAdd_out HK.out] at S6
          have hid2 : idsOf l ++ [id] = idsOf (l ++ [⟨id, blob, V, A, 0⟩]) := by simp [idsOf]
          rw [hid2] at S6
          have HS7 := hid S6.two
          clear S6 HS6 p0 hid2
          go_wp2_with fail
          go_roundw
          case rel =>
            have hq0 := HADD.out
            refine ⟨n + 1, l ++ [⟨id, blob, V, A, 0⟩], c + 1, by omega, by go_num, by omega, by simp; omega, ⟨hq0.len, hq0.ids, hq0.wf, fun y hy => ?_⟩, HS7.out⟩
            rcases List.mem_append.1 hy with hy | hy
            · exact HALL.out.passed y hy
            · simp at hy; subst hy; simp
          case measure => (simp [intOf] <;> omega)
    · obtain rfl : n = N1 := by omega
      clear hlt
      first
      | (have hk1 : ¬ (n : Int) < (len1 : Int) := by have := HN1.out; omega)
      | (have hk1 : ¬ (n : Int) < 20 := by have := HN1.out; omega)
      go_wp2_with fail
      clear hk1
      go_loopw [11] (fun i wr => ∃ (m : Nat) (l : List Wt), m ≤ N2 ∧ i = .int .i64 m ∧ QAll 0 l ∧ Sat w (wpart w) [bmap (q + 1) c (idsOf l), que q l] wr) (fun i _ => N2 - (intOf i).toNat)
      case atStart => exact ⟨0, l, Nat.zero_le _, rfl, HALL.out, HS.out⟩
      case round =>
        clear HS HALL hln
        obtain ⟨m, l, hm, rfl, hall, Sr⟩ := hrel
        have HS := hid Sr
        have HALL := hid hall
        clear Sr hall
        by_cases hlt : m < N2
        · have hmd : m < ds.length := by have := HDL.out; omega
          obtain ⟨b2, off2, rfl, c0⟩ := HDR.out.get HS.out m (u := .int .i64 ds[m]) (by simp [hmd])
          have hwf := HDW.out ds[m] (List.getElem_mem _)
          have i0 : cellI (wpart w) b2 (off2 + m) = some (.int .i64 ds[m]) := by
            obtain ⟨b', off', e, hc⟩ := HDR.out m (by simpa using hmd)
            cases e
            simpa using hc
          generalize ds[m] = id at *
          have I0 := hid i0
          have HWF := hid hwf
          have hk1 : (m : Int) < (len2 : Int) := by omega
          have hk0 : (0 : Int) ≤ (m : Int) := by omega
          have hk2 : (m : Int) < 10 := by omega
          have m0 := HS.out.drew.mapGet hwf
          have HS4 := hid HS.out.swap
          clear i0 hwf HS
          by_cases k2 : id ∈ idsOf l
          · obtain ⟨i, hf1, hf2, hf3⟩ := findF_in id l 0 k2
            rw [Nat.zero_add] at hf1
            have HF := hid hf1
            have HK := hid k2
            have HE := hid hf3
            rw [decide_eq_true k2] at m0
            clear hf1 hf3 k2
            go_wp2_with fail
            go_region_held3 (fun w' => w'.cell? ⟨b2, off2 + m, none⟩ = some (.int .i64 id) ∧ (Instr.lookup 38 (.map (some (q + 1))) (.int .i64 id) false).run Try.prog w' = .ok (.bool true) w' ∧ Sat w (wpart w) [] w') (first | exact ⟨c0, m0, HS4.out.drew.drop.drop⟩ | exact ⟨p0, m1, HS5.out.drop.drop⟩)
              (first | (go_at_call 12; refine (qdrop_yes id i HS4.out.drew HF.out).mono ?_; rintro e w5 ⟨rfl, S5⟩; have p0 := S5.atI I0.out; have m1 := S5.swap.mapGet HWF.out; rw [decide_eq_true HK.out] at m1; have HS5 := hid S5; clear S5))
            all_goals
              have HS6 := hid HS5.out.swap
              clear HS5 m0 m1 HS4
              go_wp2_with (at_delete; refine wpList_mapDel rfl _ _ rfl rfl rfl HS6.out HWF.out ?_)
              intro w6 S6
              rw [HE.out] at S6
              have HS7 := hid S6
              clear S6 HS6 p0
              go_wp2_with fail
              go_roundw
              case rel =>
                have hq0 := HALL.out.drop i
                exact ⟨m + 1, l.eraseIdx i, by omega, by go_num, ⟨hq0.len, hq0.ids, hq0.wf, fun y hy => HALL.out.passed y (List.mem_of_mem_eraseIdx hy)⟩, HS7.out⟩
              case measure => (simp [intOf] <;> omega)
          · have hf := findF_out id l k2
            have HF : Hid (findF id l 0 < 0) := hid (by rw [hf]; omega)
            have HK := hid k2
            have HE : Hid ((idsOf l).erase id = idsOf l) := hid (List.erase_of_not_mem k2)
            rw [decide_eq_false k2] at m0
            clear hf k2
            go_wp2_with fail
            go_region_held3 (fun w' => w'.cell? ⟨b2, off2 + m, none⟩ = some (.int .i64 id) ∧ (Instr.lookup 38 (.map (some (q + 1))) (.int .i64 id) false).run Try.prog w' = .ok (.bool false) w') (first | exact ⟨c0, m0⟩ | exact ⟨p0, m1⟩)
              (first | (go_at_call 12; refine (qdrop_no id HS4.out.drew HF.out).mono ?_; rintro e w5 ⟨rfl, S5⟩; have p0 := S5.atI I0.out; have m1 := S5.swap.mapGet HWF.out; rw [decide_eq_false HK.out] at m1; have HS5 := hid S5; clear S5))
            all_goals
              have HS6 := hid HS5.out.swap
              clear HS5 m0 m1 HS4
              go_wp2_with (at_delete; refine wpList_mapDel rfl _ _ rfl rfl rfl HS6.out HWF.out ?_)
              intro w6 S6
              rw [HE.out] at S6
              have HS7 := hid S6
              clear S6 HS6 p0
              go_wp2_with fail
              go_roundw
              case rel => exact ⟨m + 1, l, by omega, by go_num, HALL.out, HS7.out⟩
              case measure => (simp [intOf] <;> omega)
        · obtain rfl : m = N2 := by omega
          clear hlt
          first
          | (have hk1 : ¬ (m : Int) < (len2 : Int) := by have := HN2.out; omega)
          | (have hk1 : ¬ (m : Int) < 10 := by have := HN2.out; omega)
          go_wp2_with (at_len; refine wpList_mapLen rfl _ rfl rfl HS.out ?_)
          clear hk1
          rw [ids_len]
          obtain ⟨M, hM⟩ : ∃ M, l.length = M := ⟨_, rfl⟩
          rw [hM]
          have hM20 : M ≤ 20 := by have := HALL.out.len; omega
          have HM := hid hM
          clear hM
          go_wp2_with fail
          go_loopw [13, 14, 15, 16] (fun i _ _ _ wr => ∃ (k : Nat) (l : List Wt), k ≤ M ∧ i = .int .i64 k ∧ l.length + k = M ∧ QAll k l ∧ Sat w (wpart w) [bmap (q + 1) c (idsOf l), que q l] wr) (fun i _ _ _ _ => M - (intOf i).toNat)
          case atStart => exact ⟨0, l, Nat.zero_le _, rfl, HM.out, HALL.out, HS.out⟩
          case round =>
            clear HS HALL HM
            obtain ⟨k, l, hk, rfl, hlk, hall, Sr⟩ := hrel
            have HS := hid Sr
            have HALL := hid hall
            clear Sr hall
            by_cases hlt : k < M
            · obtain ⟨x0, r, rfl⟩ : ∃ x0 r, l = x0 :: r := by
                cases l with
                | nil => simp at hlk; omega
                | cons x0 r => exact ⟨x0, r, rfl⟩
              obtain ⟨V, hVol⟩ : ∃ V : Int, (len3 = 0 ∧ V = -1) ∨ (0 < len3 ∧ ∃ h : k % len3 < vs.length, vs[k % len3] = V) := by
                by_cases h0 : len3 = 0
                · exact ⟨-1, Or.inl ⟨h0, rfl⟩⟩
                · have hm := Nat.mod_lt k (Nat.pos_of_ne_zero h0)
                  have := HVL.out
                  exact ⟨_, Or.inr ⟨by omega, by omega, rfl⟩⟩
              have hrng := chooseF_rng x0 r V k
              obtain ⟨i, hi⟩ := Int.eq_ofNat_of_zero_le hrng.1
              have hil : i < (x0 :: r).length := by rw [hi] at hrng; omega
              obtain ⟨x, hx⟩ : ∃ x, (x0 :: r)[i]? = some x := ⟨_, List.getElem?_eq_getElem hil⟩
              have hxm : x.id ∈ idsOf (x0 :: r) := by unfold idsOf; exact List.mem_map.2 ⟨x, List.mem_of_getElem? hx, rfl⟩
              have hxw := HALL.out.wf x.id hxm
              have hnx := ids_next HALL.out.ids hx
              have hc := fun w' (S : Sat w (wpart w) (que q (x0 :: r) :: bmap (q + 1) c (idsOf (x0 :: r)) :: []) w') => qnext_some x0 r V k i x S hi hx (fun y hy => by have := HALL.out.passed y hy; omega)
              have hall2 := HALL.out.next i
              have hlen2 := left_len (i := i) (l := x0 :: r) hil
              obtain ⟨lx, hlx⟩ : ∃ lx, lx = x0 :: r := ⟨_, rfl⟩
              rw [← hlx] at hc hnx hxm HS HALL hall2 hlen2 hlk
              have HC := hid hc
              have HNX := hid hnx
              have HXM := hid hxm
              have HXW := hid hxw
              have HALL2 := hid hall2
              have hlen2' : ((bump i lx).eraseIdx i).length + (k + 1) = M := by omega
              have HLEN2 := hid hlen2'
              have HVOL := hid hVol
              clear hrng hi hil hx hxm hxw hnx hc hall2 hlen2 hlen2' hlx hVol hlk
              have hkM : (k : Int) < (M : Int) := by omega
              rcases HVOL.out with ⟨rfl, rfl⟩ | ⟨h0, hmv, hv⟩
              · clear HVOL
                go_wp2_with fail
                refine (HC.out _ HS.out.swap).mono ?_; rintro e w5 ⟨rfl, S5⟩
                have m0 := fun o => (S5.alloc_ o).swap.mapGet HXW.out
                rw [decide_eq_true HXM.out] at m0
                have HS6 := hid (S5.swap.alloc_ (.cells #[.int .i64 x.id, .int .u64 x.blob, .int .i64 x.vol, .int .i64 x.at_] 25))
                clear S5 HC HS
                go_wp2_with (at_delete; refine wpList_mapDel rfl _ _ rfl rfl rfl HS6.out HXW.out ?_)
                clear m0
                intro w6 S6
                rw [HNX.out] at S6
                have HS7 := hid S6
                clear S6 HS6
                go_wp2_with fail
                go_roundw
                case rel => exact ⟨k + 1, _, by omega, by go_num, HLEN2.out, HALL2.out, HS7.out⟩
                case measure => (simp [intOf] <;> omega)
              · obtain ⟨b3, off3, rfl, c0⟩ := HVR.out.get HS.out (k % len3) (u := .int .i64 V) (by rw [List.getElem?_map, List.getElem?_eq_getElem hmv, hv]; rfl)
                have hm0 : (0 : Int) ≤ (k : Int) % (len3 : Int) := Int.emod_nonneg _ (by omega)
                have hm1 : (k : Int) % (len3 : Int) < (len3 : Int) := Int.emod_lt_of_pos _ (by omega)
                have hm2 : (0 : Int) < (len3 : Int) := by omega
                clear HVOL hv hmv
                go_wp2_with fail
                refine (HC.out _ HS.out.swap).mono ?_; rintro e w5 ⟨rfl, S5⟩
                have m0 := fun o => (S5.alloc_ o).swap.mapGet HXW.out
                rw [decide_eq_true HXM.out] at m0
                have HS6 := hid (S5.swap.alloc_ (.cells #[.int .i64 x.id, .int .u64 x.blob, .int .i64 x.vol, .int .i64 x.at_] 25))
                clear S5 HC HS
                go_wp2_with (at_delete; refine wpList_mapDel rfl _ _ rfl rfl rfl HS6.out HXW.out ?_)
                clear m0
                intro w6 S6
                rw [HNX.out] at S6
                have HS7 := hid S6
                clear S6 HS6
                go_wp2_with fail
                go_roundw
                case rel => exact ⟨k + 1, _, by omega, by go_num, HLEN2.out, HALL2.out, HS7.out⟩
                case measure => (simp [intOf] <;> omega)
            · obtain rfl : k = M := by omega
              have hl0 : l = [] := List.eq_nil_of_length_eq_zero (by omega)
              subst hl0
              clear hlt hlk
              go_wp2_with fail
              refine (qnext_none 0 0 HS.out.swap).mono ?_; rintro e w5 ⟨rfl, S5⟩
              have HS6 := hid (S5.swap.alloc_ (.cells #[.int .i64 0, .int .u64 0, .int .i64 0, .int .i64 0] 25))
              clear S5
              go_wp2_with (at_len; refine wpList_mapLenG (by rfl) _ rfl rfl HS6.out ?_)
              go_ret
              exact ⟨rfl, HS6.out.toBelow (Part.le_refl _)⟩
end Go.Proofs.Ytecdcainkemicaa
