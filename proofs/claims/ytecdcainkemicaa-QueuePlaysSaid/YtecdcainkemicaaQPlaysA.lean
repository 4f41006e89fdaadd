/- QueuePlays, walked, of at most 40 calls. -/
import Derived.Test.YtecdcainkemicaaQAct
namespace Go.Proofs.Ytecdcainkemicaa
open Go.RowKit
set_option linter.unusedVariables false

set_option maxRecDepth 100000 in
set_option maxHeartbeats 20000000 in
theorem queuePlays_le (la : Option Addr) (len cap : Nat) (w : World) (hlen40 : len ≤ 40) (hl : OkT Try.prog w 6 41 [.slice la len cap]) :
    Calls Try.prog 6 #[.slice la len cap] w (RetB (.bool true) w.heap.size w) := by
  obtain ⟨hlen, hlc, hact⟩ := okT_qacts hl
  obtain ⟨f, hf⟩ := Deep.choose_lt hact
  have HR := hid hf
  obtain ⟨N, hN⟩ : ∃ N, min len 40 = N := ⟨_, rfl⟩
  have hN1 : N ≤ len := by omega
  have hN2 : N ≤ 40 := by omega
  have HN := hid hN
  clear hl hact hf hN
  have H0 := hid (Sat.start w)
  go_enter Try.func6, Try.ntmps6
  go_wp2_with fail
  obtain ⟨q, hq⟩ : ∃ q, w.heap.size = q := ⟨_, rfl⟩
  have S1 : Sat w (wpart w) (blk (q + 1) 47 [] :: que q [] :: []) _ := (H0.out.queNew hq.symm).alloc (vs := #[]) rfl (by simp [hq])
  have HS1 := hid (S1.emptyRow 5)
  clear S1
  rw [hq]
  refine (qawake_sat HS1.out).mono ?_; rintro e w2 ⟨rfl, S2⟩
  obtain ⟨J2, xa2, xc2, hJ2, S3, hxv, hxc1, hxc2, _, hrd2⟩ := S2.freezeRow
  simp only [Value.slice.injEq] at hxv
  obtain ⟨hxa, _, hxc⟩ := hxv
  subst hxa hxc
  have HS3 := hid S3
  have HRD2 := hid hrd2
  clear S2 S3 hrd2 HS1 hq
  go_wp2_with fail
  go_loopw [4, 5, 6, 7, 8, 9, 10, 11, 12, 13, 14, 15, 16, 17] (fun x i _ _ _ _ _ _ _ _ _ _ _ _ wr => ∃ (n : Nat) (l : List Wt) (J : Part) (xa : Option Addr) (xc : Nat), n ≤ N ∧ i = .int .i64 n ∧ x = .slice xa l.length xc ∧ l.length ≤ xc ∧ xc ≤ 9223372036854775807 ∧ (wpart w).le J ∧ Rd J xa (l.flatMap wc) ∧ QInv n l ∧ Sat w J [que q l] wr) (fun _ i _ _ _ _ _ _ _ _ _ _ _ _ _ => N - (intOf i).toNat)
  case atStart => exact ⟨0, [], J2, _, _, Nat.zero_le _, rfl, rfl, by simp, by simp, hJ2, Rd.nil _ _, ⟨by simp, by simp⟩, HS3.out⟩
  case round =>
    clear HS3 HRD2
    obtain ⟨n, l, J, xa, xc, hn, rfl, rfl, hxcl, hxcm, hJ, hrd, hinv, Sr⟩ := hrel
    have HS := hid Sr
    have RD := hid hrd
    have INV := hid hinv
    have hl40 : l.length ≤ n := hinv.1
    clear Sr hrd hinv
    by_cases hlt : n < N
    · obtain ⟨b, off, rfl, c0, c1, c2, c3, c4, c5, c6⟩ := ((HR.out n (by omega)).mono hJ).get HS.out
      generalize f n = t at *
      have hn1 : (n : Int) < (len : Int) := by omega
      have hn0 : (0 : Int) ≤ (n : Int) := by omega
      have hn2 : (n : Int) < 40 := by omega
      obtain ⟨V, hV⟩ : ∃ V, min (max t.vol 0) 11 = V := ⟨_, rfl⟩
      obtain ⟨A, hA⟩ : ∃ A, min (max t.at_ 0) 1000000000 = A := ⟨_, rfl⟩
      have hVA : 0 ≤ V ∧ V ≤ 11 ∧ 0 ≤ A ∧ A ≤ 1000000000 := by omega
      have HV := hid hV
      have HA := hid hA
      have HVA := hid hVA
      clear hV hA hVA
      obtain ⟨g6, hg6⟩ : ∃ g, wr.heap.size = g := ⟨_, rfl⟩
      go_wp2_with fail
      have S4 : Sat w J (blk g6 44 t.cells :: que q l :: []) _ := HS.out.alloc rfl hg6.symm
      clear hg6
      refine (retB_sat (small_any _ t.id t.blob t.vol t.at_ HV.out HA.out) S4).mono ?_; rintro e w5 ⟨rfl, S5⟩
      have d0 := S5.isBlk.cell 0 rfl
      have d1 := S5.isBlk.cell 1 rfl
      have d2 := S5.isBlk.cell 2 rfl
      obtain ⟨g7, hg7⟩ : ∃ g, w5.heap.size = g := ⟨_, rfl⟩
      have e0 : ∀ o, (w5.alloc o).cell? ⟨g6, 0, none⟩ = some (.int .i64 t.kind) := fun o => by rw [World.cell?_alloc_lt _ _ _ S5.isBlk.lt]; exact d0
      have e1 : ∀ o, (w5.alloc o).cell? ⟨g6, 1, none⟩ = some (.int .i64 t.n) := fun o => by rw [World.cell?_alloc_lt _ _ _ S5.isBlk.lt]; exact d1
      have e2 : ∀ o, (w5.alloc o).cell? ⟨g6, 2, none⟩ = some (.int .i64 t.m) := fun o => by rw [World.cell?_alloc_lt _ _ _ S5.isBlk.lt]; exact d2
      have HS6 : Hid (Sat w J (blk g7 25 [.int .i64 t.id, .int .u64 t.blob, .int .i64 V, .int .i64 A] :: blk g6 44 t.cells :: que q l :: []) (w5.alloc (.cells #[.int .i64 t.id, .int .u64 t.blob, .int .i64 V, .int .i64 A] 25))) := hid (S5.alloc rfl hg7.symm)
      clear S4 S5 HS c0 c1 c2 c3 c4 c5 c6 HV HA d0 d1 d2
      by_cases k1 : t.kind = 1
      · have b1 : (t.kind == 1) = true := by simp [k1]
        clear k1
        go_wp2_with fail
        clear e0 e1 e2
        refine (refFind_sat xa xc l t.id HS6.out RD.out (by omega)).mono ?_; rintro e w7 ⟨rfl, S7⟩
        have d0 := S7.isBlk.cell 0 rfl
        have d1 := S7.isBlk.cell 1 rfl
        have d2 := S7.isBlk.cell 2 rfl
        have d3 := S7.isBlk.cell 3 rfl
        obtain ⟨F, hF⟩ : ∃ F, findF t.id l 0 = F := ⟨_, rfl⟩
        rw [hF]
        have HF := hid hF
        have HS7 := hid (S7.pick 2)
        clear hF S7 HS6
        by_cases k6 : 0 ≤ F
        · have hFd : decide (0 ≤ F) = true := by simpa using k6
          have HK := hid k6
          clear k6
          go_wp2_with fail
          refine (qadd_no t.id t.blob V A HS7.out (by rw [HF.out]; exact HK.out)).mono ?_; rintro e w8 ⟨rfl, S8⟩
          have HST := hid S8.one
          clear S8 HS7 d0 d1 d2 d3
          go_wp2_with fail
          obtain ⟨lT, hlT⟩ : ∃ lT, lT = l := ⟨_, rfl⟩
          subst hlT
          have RDT := RD
          have HINV := hid INV.out.same
          have HJT := hJ
          obtain ⟨xaT, hxaT⟩ : ∃ xaT, xaT = xa := ⟨_, rfl⟩
          obtain ⟨xcT, hxcT⟩ : ∃ xcT, xcT = xc := ⟨_, rfl⟩
          subst hxaT hxcT
          refine (qlist_sat HST.out).mono ?_; rintro e w9 ⟨J9, a9, c9, rfl, hc91, hc92, hJ9, hrd9, S9⟩
          have HR9 := hid hrd9
          have HS9 := hid S9
          have HX9 := hid (RDT.out.mono hJ9)
          clear hrd9 S9 HST
          go_wp2_with fail
          refine (qlen_sat HS9.out).mono ?_; rintro e w10 ⟨rfl, S10⟩
          have HS10 := hid S10
          clear S10 HS9
          go_wp2_with fail
          go_loopw [16, 17, 138] (fun _ _ i3 wr3 => ∃ (m : Nat), m ≤ lT.length ∧ i3 = .int .i64 m ∧ Sat w J9 [que q lT] wr3) (fun _ _ i3 _ => lT.length - (intOf i3).toNat)
          case atStart => exact ⟨0, Nat.zero_le _, rfl, HS10.out⟩
          case round =>
            clear HS10
            obtain ⟨m, hm, rfl, Sm⟩ := hrel
            have HSM := hid Sm
            clear Sm
            by_cases hml : m < lT.length
            · obtain ⟨b1, off1, rfl, e0, e1, e2, e3, e4⟩ := rd5 HX9.out HSM.out m hml
              obtain ⟨b2, off2, rfl, f0, f1, f2, f3⟩ := rd4 HR9.out HSM.out m hml
              generalize lT[m] = y at *
              have hm1 : (m : Int) < (lT.length : Int) := by omega
              have hm0 : (0 : Int) ≤ (m : Int) := by omega
              have f0' := fun o => cell_alloc f0 o
              have f2' := fun o => cell_alloc f2 o
              have f3' := fun o => cell_alloc f3 o
              go_wp2_with fail
              go_quiet (fail)
              go_wp2_with fail
              go_roundw
              case rel => exact ⟨m + 1, by omega, by go_num, by have := HSM.out; (repeat' (first | (with_reducible assumption) | (with_reducible refine Sat.drewN ?_ _) | (with_reducible refine Sat.drew ?_) | ((with_reducible refine Sat.alloc ?_ ?_ ?_); rotate_left; (first | rfl | (simp; done)); (first | rfl | omega | (simp <;> omega))) | (with_reducible refine Sat.alloc_ ?_ _) | ((with_reducible refine Sat.set ?_ _ _ ?_); rotate_left; (first | rfl | (simp; done))) | ((with_reducible refine Sat.set1 ?_ _ _ ?_); rotate_left; (first | rfl | (simp; done))) | ((with_reducible refine Sat.set2 ?_ _ _ ?_); rotate_left; (first | rfl | (simp; done))) | ((with_reducible refine Sat.set3 ?_ _ _ ?_); rotate_left; (first | rfl | (simp; done)))))⟩
              case measure => (simp [intOf] <;> omega)
            · obtain rfl : m = lT.length := by omega
              go_wp2_with fail
              go_roundw
              case rel => exact ⟨n + 1, lT, J9, xaT, xcT, by omega, by go_num, rfl, hxcl, hxcm, Part.le_trans HJT hJ9, HX9.out, HINV.out, HSM.out⟩
              case measure => (simp [intOf] <;> omega)
        · have hFd : decide (0 ≤ F) = false := by simpa using k6
          have HK := hid (Int.not_le.1 k6)
          clear k6
          go_wp2_with fail
          refine (qadd_yes t.id t.blob V A HS7.out (by rw [HF.out]; exact HK.out) (by omega)).mono ?_; rintro e w8 ⟨rfl, S8⟩
          have HS8 : Hid (Sat w J (blk g7 25 [.int .i64 t.id, .int .u64 t.blob, .int .i64 V, .int .i64 A] :: que q (l ++ [⟨t.id, t.blob, V, A, 0⟩]) :: []) w8) := hid (Sat.two (S8.pick 1 : Sat w J (_ :: que q _ :: _ :: []) w8))
          clear S8 HS7 d0 d1 d2 d3
          have d0 := HS8.out.isBlk.cell 0 rfl
          have d1 := HS8.out.isBlk.cell 1 rfl
          have d2 := HS8.out.isBlk.cell 2 rfl
          have d3 := HS8.out.isBlk.cell 3 rfl
          have HINV := hid (INV.out.add ⟨t.id, t.blob, V, A, 0⟩ HVA.out rfl)
          have hflat : l.flatMap wc ++ wc ⟨t.id, t.blob, V, A, 0⟩ = (l ++ [(⟨t.id, t.blob, V, A, 0⟩ : Wt)]).flatMap wc := by rw [List.flatMap_append]; simp
          have hlen1 : l.length + 1 = (l ++ [(⟨t.id, t.blob, V, A, 0⟩ : Wt)]).length := by simp
          obtain ⟨lT, hlT⟩ : ∃ lT, lT = l ++ [(⟨t.id, t.blob, V, A, 0⟩ : Wt)] := ⟨_, rfl⟩
          rw [← hlT] at HINV hflat hlen1 HS8
          have HFL := hid hflat
          have HLL := hid hlen1
          have hB1 : l.length * 40 ≤ 140737488355328 := by omega
          have hB2 : l.length ≤ 140737488355328 := by omega
          have hB3 : lT.length * 40 ≤ 140737488355328 := by omega
          have hB4 : lT.length ≤ 140737488355328 := by omega
          have HFLEN : Hid ((l.flatMap wc).length = l.length * 5) := hid (flat_len wc wc_len l)
          clear hflat hlen1 hlT
          go_wp2_with fail
          go_region_held3 (fun w' => w'.cell? ⟨g7, 0, none⟩ = some (.int .i64 t.id) ∧ w'.cell? ⟨g7, 1, none⟩ = some (.int .u64 t.blob) ∧ w'.cell? ⟨g7, 2, none⟩ = some (.int .i64 V) ∧ w'.cell? ⟨g7, 3, none⟩ = some (.int .i64 A)) (first | exact ⟨d0, d1, d2, d3⟩ | exact ⟨p0, p1, p2, p3⟩ | exact ⟨r0, r1, r2, r3⟩ | go_keep)
            (first
              | (refine step_copyN slRef (by rfl) _ _ (by rfl) (HS8.out.alloc (cs := []) (T := 47) rfl rfl).drew (by rfl) (by rfl) RD.out HFLEN.out (wc_one l) hB1 hB2 ?_; intro g9 cp9 w9 hc91 hc92 S9; have p0 := (S9.pick 1).isBlk.cell 0 rfl; have p1 := (S9.pick 1).isBlk.cell 1 rfl; have p2 := (S9.pick 1).isBlk.cell 2 rfl; have p3 := (S9.pick 1).isBlk.cell 3 rfl; have HS9 := hid S9; clear S9)
              | (refine step_copyN slRef (by rfl) _ _ (by rfl) ((HS8.out.alloc (cs := []) (T := 47) (b := w8.heap.size) rfl rfl).alloc (cs := wc ⟨t.id, t.blob, V, A, 0⟩) (T := 47) (b := w8.heap.size + 1) rfl (by simp)).swap.drew (by rfl) (by rfl) RD.out HFLEN.out (wc_one l) hB1 hB2 ?_; intro g9 cp9 w9 hc91 hc92 S9; have p0 := (S9.pick 2).isBlk.cell 0 rfl; have p1 := (S9.pick 2).isBlk.cell 1 rfl; have p2 := (S9.pick 2).isBlk.cell 2 rfl; have p3 := (S9.pick 2).isBlk.cell 3 rfl; have HS9b := hid S9; clear S9)
              | (refine step_copyN slRef (by rfl) _ _ (by rfl) ((HS8.out.alloc (cs := wc ⟨t.id, t.blob, V, A, 0⟩) (T := 47) (b := w8.heap.size) rfl rfl).alloc (cs := []) (T := 47) (b := w8.heap.size + 1) rfl (by simp)).drew (by rfl) (by rfl) RD.out HFLEN.out (wc_one l) hB1 hB2 ?_; intro g9 cp9 w9 hc91 hc92 S9; have p0 := (S9.pick 2).isBlk.cell 0 rfl; have p1 := (S9.pick 2).isBlk.cell 1 rfl; have p2 := (S9.pick 2).isBlk.cell 2 rfl; have p3 := (S9.pick 2).isBlk.cell 3 rfl; have HS9b := hid S9; clear S9)
              | (refine step_app1N slRef (by rfl) _ _ (by rfl) HS9.out (by rfl) (by rfl) (by rfl) (wc_len ⟨t.id, t.blob, V, A, 0⟩) (wc_one1 ⟨t.id, t.blob, V, A, 0⟩) HLL.out HFL.out hB3 hB4 ?_; intro g10 cp10 w10 hc101 hc102 S9; have r0 := (S9.pick 1).isBlk.cell 0 rfl; have r1 := (S9.pick 1).isBlk.cell 1 rfl; have r2 := (S9.pick 1).isBlk.cell 2 rfl; have r3 := (S9.pick 1).isBlk.cell 3 rfl; have HS10 := hid S9.swap.drop; clear S9)
              | (refine step_appSrcN slRef (by rfl) _ _ (by rfl) HS9b.out (by rfl) (by rfl) (Src.ofBlk slRef HS9b.out (m := 1) (wc_len ⟨t.id, t.blob, V, A, 0⟩) (wc_one1 ⟨t.id, t.blob, V, A, 0⟩)) HLL.out HFL.out hB3 hB4 ?_; intro g10 cp10 w10 hc101 hc102 S9; have r0 := (S9.pick 2).isBlk.cell 0 rfl; have r1 := (S9.pick 2).isBlk.cell 1 rfl; have r2 := (S9.pick 2).isBlk.cell 2 rfl; have r3 := (S9.pick 2).isBlk.cell 3 rfl; have HS10 := hid S9.swap.drop.swap.drop; clear S9))
          all_goals
            obtain ⟨JT, xaT, xcT, hJ', S11, hv, hc1, hc2, _, hrd'⟩ := HS10.out.freezeRow
            cases hv
            clear hxcl hxcm d0 d1 d2 d3 r0 r1 r2 r3 p0 p1 p2 p3
            have hxcl := hc1
            have hxcm : cp10 ≤ 9223372036854775807 := hc102
            have HST := hid S11
            have RDT := hid hrd'
            have HJT := Part.le_trans hJ hJ'
            obtain ⟨xaT, hxaT⟩ : ∃ x, x = (some ⟨g10, 0, none⟩ : Option Addr) := ⟨_, rfl⟩
            rw [← hxaT] at RDT ⊢
            obtain ⟨xcT, hxcT⟩ : ∃ x, x = cp10 := ⟨_, rfl⟩
            subst hxcT
            clear S11 hrd' HS10 hxaT
            go_wp2_with fail
            refine (qlist_sat HST.out).mono ?_; rintro e w9 ⟨J9, a9, c9, rfl, hc91, hc92, hJ9, hrd9, S9⟩
            have HR9 := hid hrd9
            have HS9 := hid S9
            have HX9 := hid (RDT.out.mono hJ9)
            clear hrd9 S9 HST
            go_wp2_with fail
            refine (qlen_sat HS9.out).mono ?_; rintro e w10 ⟨rfl, S10⟩
            have HS10 := hid S10
            clear S10 HS9
            go_wp2_with fail
            go_loopw [16, 17, 138] (fun _ _ i3 wr3 => ∃ (m : Nat), m ≤ lT.length ∧ i3 = .int .i64 m ∧ Sat w J9 [que q lT] wr3) (fun _ _ i3 _ => lT.length - (intOf i3).toNat)
            case atStart => exact ⟨0, Nat.zero_le _, rfl, HS10.out⟩
            case round =>
              clear HS10
              obtain ⟨m, hm, rfl, Sm⟩ := hrel
              have HSM := hid Sm
              clear Sm
              by_cases hml : m < lT.length
              · obtain ⟨b1, off1, rfl, e0, e1, e2, e3, e4⟩ := rd5 HX9.out HSM.out m hml
                obtain ⟨b2, off2, rfl, f0, f1, f2, f3⟩ := rd4 HR9.out HSM.out m hml
                generalize lT[m] = y at *
                have hm1 : (m : Int) < (lT.length : Int) := by omega
                have hm0 : (0 : Int) ≤ (m : Int) := by omega
                have f0' := fun o => cell_alloc f0 o
                have f2' := fun o => cell_alloc f2 o
                have f3' := fun o => cell_alloc f3 o
                go_wp2_with fail
                go_quiet (fail)
                go_wp2_with fail
                go_roundw
                case rel => exact ⟨m + 1, by omega, by go_num, by have := HSM.out; (repeat' (first | (with_reducible assumption) | (with_reducible refine Sat.drewN ?_ _) | (with_reducible refine Sat.drew ?_) | ((with_reducible refine Sat.alloc ?_ ?_ ?_); rotate_left; (first | rfl | (simp; done)); (first | rfl | omega | (simp <;> omega))) | (with_reducible refine Sat.alloc_ ?_ _) | ((with_reducible refine Sat.set ?_ _ _ ?_); rotate_left; (first | rfl | (simp; done))) | ((with_reducible refine Sat.set1 ?_ _ _ ?_); rotate_left; (first | rfl | (simp; done))) | ((with_reducible refine Sat.set2 ?_ _ _ ?_); rotate_left; (first | rfl | (simp; done))) | ((with_reducible refine Sat.set3 ?_ _ _ ?_); rotate_left; (first | rfl | (simp; done)))))⟩
                case measure => (simp [intOf] <;> omega)
              · obtain rfl : m = lT.length := by omega
                go_wp2_with fail
                go_roundw
                case rel => exact ⟨n + 1, lT, J9, xaT, xcT, by omega, by go_num, rfl, hxcl, hxcm, Part.le_trans HJT hJ9, HX9.out, HINV.out, HSM.out⟩
                case measure => (simp [intOf] <;> omega)
      have b1 : (t.kind == 1) = false := by simp [k1]
      by_cases k2 : t.kind = 2
      · have b2 : (t.kind == 2) = true := by simp [k2]
        clear k1 k2
        go_wp2_with fail
        clear e0 e1 e2
        refine (refFind_sat xa xc l t.n HS6.out RD.out (by omega)).mono ?_; rintro e w7 ⟨rfl, S7⟩
        have d1 := (S7.pick 1).isBlk.cell 1 rfl
        obtain ⟨hF1, hF2⟩ := findF_ge t.n l 0
        obtain ⟨F, hF⟩ : ∃ F, findF t.n l 0 = F := ⟨_, rfl⟩
        rw [hF] at hF1 hF2
        rw [hF]
        have HF := hid hF
        have HS7 := hid (S7.pick 2)
        clear hF S7 HS6
        by_cases k5 : F < 0
        · have hFd : decide (0 ≤ F) = false := by simpa using k5
          have HK := hid k5
          clear hF1 hF2 k5
          go_wp2_with fail
          refine (qdrop_no t.n HS7.out (by rw [HF.out]; exact HK.out)).mono ?_; rintro e w8 ⟨rfl, S8⟩
          have HST := hid S8.one
          have hk5 := HK.out
          clear S8 HS7 d1
          go_wp2_with fail
          obtain ⟨lT, hlT⟩ : ∃ lT, lT = l := ⟨_, rfl⟩
          subst hlT
          have RDT := RD
          have HINV := hid INV.out.same
          have HJT := hJ
          obtain ⟨xaT, hxaT⟩ : ∃ xaT, xaT = xa := ⟨_, rfl⟩
          obtain ⟨xcT, hxcT⟩ : ∃ xcT, xcT = xc := ⟨_, rfl⟩
          subst hxaT hxcT
          refine (qlist_sat HST.out).mono ?_; rintro e w9 ⟨J9, a9, c9, rfl, hc91, hc92, hJ9, hrd9, S9⟩
          have HR9 := hid hrd9
          have HS9 := hid S9
          have HX9 := hid (RDT.out.mono hJ9)
          clear hrd9 S9 HST
          go_wp2_with fail
          refine (qlen_sat HS9.out).mono ?_; rintro e w10 ⟨rfl, S10⟩
          have HS10 := hid S10
          clear S10 HS9
          go_wp2_with fail
          go_loopw [16, 17, 138] (fun _ _ i3 wr3 => ∃ (m : Nat), m ≤ lT.length ∧ i3 = .int .i64 m ∧ Sat w J9 [que q lT] wr3) (fun _ _ i3 _ => lT.length - (intOf i3).toNat)
          case atStart => exact ⟨0, Nat.zero_le _, rfl, HS10.out⟩
          case round =>
            clear HS10
            obtain ⟨m, hm, rfl, Sm⟩ := hrel
            have HSM := hid Sm
            clear Sm
            by_cases hml : m < lT.length
            · obtain ⟨b1, off1, rfl, e0, e1, e2, e3, e4⟩ := rd5 HX9.out HSM.out m hml
              obtain ⟨b2, off2, rfl, f0, f1, f2, f3⟩ := rd4 HR9.out HSM.out m hml
              generalize lT[m] = y at *
              have hm1 : (m : Int) < (lT.length : Int) := by omega
              have hm0 : (0 : Int) ≤ (m : Int) := by omega
              have f0' := fun o => cell_alloc f0 o
              have f2' := fun o => cell_alloc f2 o
              have f3' := fun o => cell_alloc f3 o
              go_wp2_with fail
              go_quiet (fail)
              go_wp2_with fail
              go_roundw
              case rel => exact ⟨m + 1, by omega, by go_num, by have := HSM.out; (repeat' (first | (with_reducible assumption) | (with_reducible refine Sat.drewN ?_ _) | (with_reducible refine Sat.drew ?_) | ((with_reducible refine Sat.alloc ?_ ?_ ?_); rotate_left; (first | rfl | (simp; done)); (first | rfl | omega | (simp <;> omega))) | (with_reducible refine Sat.alloc_ ?_ _) | ((with_reducible refine Sat.set ?_ _ _ ?_); rotate_left; (first | rfl | (simp; done))) | ((with_reducible refine Sat.set1 ?_ _ _ ?_); rotate_left; (first | rfl | (simp; done))) | ((with_reducible refine Sat.set2 ?_ _ _ ?_); rotate_left; (first | rfl | (simp; done))) | ((with_reducible refine Sat.set3 ?_ _ _ ?_); rotate_left; (first | rfl | (simp; done)))))⟩
              case measure => (simp [intOf] <;> omega)
            · obtain rfl : m = lT.length := by omega
              go_wp2_with fail
              go_roundw
              case rel => exact ⟨n + 1, lT, J9, xaT, xcT, by omega, by go_num, rfl, hxcl, hxcm, Part.le_trans HJT hJ9, HX9.out, HINV.out, HSM.out⟩
              case measure => (simp [intOf] <;> omega)
        · obtain ⟨i, rfl⟩ := Int.eq_ofNat_of_zero_le (Int.not_lt.1 k5)
          have hFd : decide (0 ≤ (i : Int)) = true := by simp
          have hil : i < l.length := by omega
          clear hF1 hF2 k5
          go_wp2_with fail
          refine (qdrop_yes t.n i HS7.out HF.out).mono ?_; rintro e w8 ⟨rfl, S8⟩
          have HS8 := hid S8.one
          clear S8 HS7 d1
          go_wp2_with fail
          refine (refWithout_sat xa xc l i HS8.out RD.out (by omega)).mono ?_; rintro e w9 ⟨JT, xaT, xcT, rfl, hxcl', hxcm', hJ', hrd', S9⟩
          have HST := hid S9
          have RDT := hid hrd'
          have HINV := hid (INV.out.erase i)
          have HJT := Part.le_trans hJ hJ'
          clear S9 HS8 hrd' hxcl hxcm
          obtain ⟨lT, hlT⟩ : ∃ lT, lT = l.eraseIdx i := ⟨_, rfl⟩
          rw [← hlT] at HST RDT HINV hxcl' ⊢
          have hxcl := hxcl'
          have hxcm := hxcm'
          clear hlT
          go_wp2_with fail
          refine (qlist_sat HST.out).mono ?_; rintro e w9 ⟨J9, a9, c9, rfl, hc91, hc92, hJ9, hrd9, S9⟩
          have HR9 := hid hrd9
          have HS9 := hid S9
          have HX9 := hid (RDT.out.mono hJ9)
          clear hrd9 S9 HST
          go_wp2_with fail
          refine (qlen_sat HS9.out).mono ?_; rintro e w10 ⟨rfl, S10⟩
          have HS10 := hid S10
          clear S10 HS9
          go_wp2_with fail
          go_loopw [16, 17, 138] (fun _ _ i3 wr3 => ∃ (m : Nat), m ≤ lT.length ∧ i3 = .int .i64 m ∧ Sat w J9 [que q lT] wr3) (fun _ _ i3 _ => lT.length - (intOf i3).toNat)
          case atStart => exact ⟨0, Nat.zero_le _, rfl, HS10.out⟩
          case round =>
            clear HS10
            obtain ⟨m, hm, rfl, Sm⟩ := hrel
            have HSM := hid Sm
            clear Sm
            by_cases hml : m < lT.length
            · obtain ⟨b1, off1, rfl, e0, e1, e2, e3, e4⟩ := rd5 HX9.out HSM.out m hml
              obtain ⟨b2, off2, rfl, f0, f1, f2, f3⟩ := rd4 HR9.out HSM.out m hml
              generalize lT[m] = y at *
              have hm1 : (m : Int) < (lT.length : Int) := by omega
              have hm0 : (0 : Int) ≤ (m : Int) := by omega
              have f0' := fun o => cell_alloc f0 o
              have f2' := fun o => cell_alloc f2 o
              have f3' := fun o => cell_alloc f3 o
              go_wp2_with fail
              go_quiet (fail)
              go_wp2_with fail
              go_roundw
              case rel => exact ⟨m + 1, by omega, by go_num, by have := HSM.out; (repeat' (first | (with_reducible assumption) | (with_reducible refine Sat.drewN ?_ _) | (with_reducible refine Sat.drew ?_) | ((with_reducible refine Sat.alloc ?_ ?_ ?_); rotate_left; (first | rfl | (simp; done)); (first | rfl | omega | (simp <;> omega))) | (with_reducible refine Sat.alloc_ ?_ _) | ((with_reducible refine Sat.set ?_ _ _ ?_); rotate_left; (first | rfl | (simp; done))) | ((with_reducible refine Sat.set1 ?_ _ _ ?_); rotate_left; (first | rfl | (simp; done))) | ((with_reducible refine Sat.set2 ?_ _ _ ?_); rotate_left; (first | rfl | (simp; done))) | ((with_reducible refine Sat.set3 ?_ _ _ ?_); rotate_left; (first | rfl | (simp; done)))))⟩
              case measure => (simp [intOf] <;> omega)
            · obtain rfl : m = lT.length := by omega
              go_wp2_with fail
              go_roundw
              case rel => exact ⟨n + 1, lT, J9, xaT, xcT, by omega, by go_num, rfl, hxcl, hxcm, Part.le_trans HJT hJ9, HX9.out, HINV.out, HSM.out⟩
              case measure => (simp [intOf] <;> omega)
      have b2 : (t.kind == 2) = false := by simp [k2]
      by_cases k3 : t.kind = 3
      · have b3 : (t.kind == 3) = true := by simp [k3]
        clear k1 k2 k3
        obtain ⟨A2, hA2⟩ : ∃ A2, min (max t.m 0) 1000000000 = A2 := ⟨_, rfl⟩
        have hA2b : 0 ≤ A2 ∧ A2 ≤ 1000000000 := by omega
        have HA2 := hid hA2
        have HA2B := hid hA2b
        clear hA2 hA2b
        go_wp2_with (first | (refine wpList_max (o := ⟨some 88, _, _, _, _, _⟩) rfl rfl rfl rfl rfl ?_) | (refine wpList_min (o := ⟨some 89, _, _, _, _, _⟩) rfl rfl rfl rfl HA2.out ?_))
        clear e0 e1 e2
        have HS7 := hid (HS6.out.pick 2)
        clear HS6
        by_cases k7 : l = []
        · subst k7
          refine (qnext_none t.n A2 HS7.out).mono ?_; rintro e w7 ⟨rfl, S7⟩
          have S8 := S7.one
          have HST := hid (S8.alloc_ (.cells #[.int .i64 0, .int .u64 0, .int .i64 0, .int .i64 0] 25))
          clear S7 S8 HS7
          obtain ⟨l, hl0⟩ : ∃ l, l = ([] : List Wt) := ⟨_, rfl⟩
          have hll : l.length = 0 := by rw [hl0]; rfl
          rw [← hl0] at HST RD INV hl40 hxcl ⊢
          have hgt : ¬ (0 : Int) < (l.length : Int) := by omega
          have HLL := hid hll
          clear hl0 hll
          go_wp2_with fail
          clear hgt
          obtain ⟨lT, hlT⟩ : ∃ lT, lT = l := ⟨_, rfl⟩
          subst hlT
          have RDT := RD
          have HINV := hid INV.out.same
          have HJT := hJ
          obtain ⟨xaT, hxaT⟩ : ∃ xaT, xaT = xa := ⟨_, rfl⟩
          obtain ⟨xcT, hxcT⟩ : ∃ xcT, xcT = xc := ⟨_, rfl⟩
          subst hxaT hxcT
          refine (qlist_sat HST.out).mono ?_; rintro e w9 ⟨J9, a9, c9, rfl, hc91, hc92, hJ9, hrd9, S9⟩
          have HR9 := hid hrd9
          have HS9 := hid S9
          have HX9 := hid (RDT.out.mono hJ9)
          clear hrd9 S9 HST
          go_wp2_with fail
          refine (qlen_sat HS9.out).mono ?_; rintro e w10 ⟨rfl, S10⟩
          have HS10 := hid S10
          clear S10 HS9
          go_wp2_with fail
          go_loopw [16, 17, 138] (fun _ _ i3 wr3 => ∃ (m : Nat), m ≤ lT.length ∧ i3 = .int .i64 m ∧ Sat w J9 [que q lT] wr3) (fun _ _ i3 _ => lT.length - (intOf i3).toNat)
          case atStart => exact ⟨0, Nat.zero_le _, rfl, HS10.out⟩
          case round =>
            clear HS10
            obtain ⟨m, hm, rfl, Sm⟩ := hrel
            have HSM := hid Sm
            clear Sm
            by_cases hml : m < lT.length
            · exfalso; have := HLL.out; omega
            · obtain rfl : m = lT.length := by omega
              go_wp2_with fail
              go_roundw
              case rel => exact ⟨n + 1, lT, J9, xaT, xcT, by omega, by go_num, rfl, hxcl, hxcm, Part.le_trans HJT hJ9, HX9.out, HINV.out, HSM.out⟩
              case measure => (simp [intOf] <;> omega)
        · obtain ⟨x0, r, rfl⟩ : ∃ x0 r, l = x0 :: r := by
            cases l with
            | nil => exact absurd rfl k7
            | cons x0 r => exact ⟨x0, r, rfl⟩
          clear k7
          have hrng := chooseF_rng x0 r t.n A2
          have heq := chooseR_eq x0 r t.n A2 HA2B.out (fun y hy => (INV.out.2 y hy).1)
          obtain ⟨i, hi⟩ := Int.eq_ofNat_of_zero_le hrng.1
          have hil : i < (x0 :: r).length := by rw [hi] at hrng; omega
          obtain ⟨x, hx⟩ : ∃ x, (x0 :: r)[i]? = some x := ⟨_, List.getElem?_eq_getElem hil⟩
          rw [hi] at heq
          have HI := hid hi
          have HEQ := hid heq
          have HX := hid hx
          clear hrng hi heq hx
          refine (qnext_some x0 r t.n A2 i x HS7.out HI.out HX.out (fun y hy => by have := (INV.out.2 y hy).2; omega)).mono ?_; rintro e w7 ⟨rfl, S7⟩
          obtain ⟨g8, hg8⟩ : ∃ g, w7.heap.size = g := ⟨_, rfl⟩
          have S8 : Sat w J (blk g8 25 [.int .i64 x.id, .int .u64 x.blob, .int .i64 x.vol, .int .i64 x.at_] :: que q _ :: blk g7 25 _ :: blk g6 44 t.cells :: []) _ := S7.alloc rfl hg8.symm
          have d1 := (S7.pick 2).isBlk.cell 1 rfl
          have d1' := fun o => cell_alloc d1 o
          have HS8 := hid S8
          clear S7 HS7
          have hc := refNext_sat xa xc x0 r t.n A2 i x S8 RD.out (by omega) HEQ.out HX.out (fun y hy => by have := (INV.out.2 y hy).2; omega)
          have hinv := INV.out.next i
          obtain ⟨lx, hlx⟩ : ∃ lx, lx = x0 :: r := ⟨_, rfl⟩
          have hlx0 : 0 < lx.length := by rw [hlx]; simp
          rw [← hlx] at hc HX hxcl RD INV hl40 HS8 hinv ⊢
          have HC := hid hc
          have HINV := hid hinv
          clear S8 HS8 hc hinv HI HEQ hlx hil
          have hgt : (0 : Int) < (lx.length : Int) := by omega
          go_wp2_with fail
          refine HC.out.mono ?_; rintro e w8 ⟨JT, xaT, xcT, rfl, hc1, hc2, hJ', hrd', S9⟩
          rw [show (wc x).toArray = #[.int .i64 x.id, .int .u64 x.blob, .int .i64 x.vol, .int .i64 x.at_, .int .i64 x.passed] from rfl]
          have k0 := S9.isBlk.cell 0 rfl
          have k1 := S9.isBlk.cell 1 rfl
          have k0' := fun o => cell_alloc k0 o
          have k1' := fun o => cell_alloc k1 o
          have HST := hid (S9.swap.one.alloc_ (.cells (wc x).toArray 47))
          have RDT := hid hrd'
          have HJT := Part.le_trans hJ hJ'
          obtain ⟨lT, hlT⟩ : ∃ lT, lT = (bump i lx).eraseIdx i := ⟨_, rfl⟩
          rw [← hlT] at HST RDT HINV hc1 ⊢
          clear HC hxcl hxcm hgt hlT d1 d1' S9 hrd'
          have hxcl := hc1
          have hxcm := hc2
          go_wp2_with fail
          clear k0 k1 k0' k1'
          refine (qlist_sat HST.out).mono ?_; rintro e w9 ⟨J9, a9, c9, rfl, hc91, hc92, hJ9, hrd9, S9⟩
          have HR9 := hid hrd9
          have HS9 := hid S9
          have HX9 := hid (RDT.out.mono hJ9)
          clear hrd9 S9 HST
          go_wp2_with fail
          refine (qlen_sat HS9.out).mono ?_; rintro e w10 ⟨rfl, S10⟩
          have HS10 := hid S10
          clear S10 HS9
          go_wp2_with fail
          go_loopw [16, 17, 138] (fun _ _ i3 wr3 => ∃ (m : Nat), m ≤ lT.length ∧ i3 = .int .i64 m ∧ Sat w J9 [que q lT] wr3) (fun _ _ i3 _ => lT.length - (intOf i3).toNat)
          case atStart => exact ⟨0, Nat.zero_le _, rfl, HS10.out⟩
          case round =>
            clear HS10
            obtain ⟨m, hm, rfl, Sm⟩ := hrel
            have HSM := hid Sm
            clear Sm
            by_cases hml : m < lT.length
            · obtain ⟨b1, off1, rfl, e0, e1, e2, e3, e4⟩ := rd5 HX9.out HSM.out m hml
              obtain ⟨b2, off2, rfl, f0, f1, f2, f3⟩ := rd4 HR9.out HSM.out m hml
              generalize lT[m] = y at *
              have hm1 : (m : Int) < (lT.length : Int) := by omega
              have hm0 : (0 : Int) ≤ (m : Int) := by omega
              have f0' := fun o => cell_alloc f0 o
              have f2' := fun o => cell_alloc f2 o
              have f3' := fun o => cell_alloc f3 o
              go_wp2_with fail
              go_quiet (fail)
              go_wp2_with fail
              go_roundw
              case rel => exact ⟨m + 1, by omega, by go_num, by have := HSM.out; (repeat' (first | (with_reducible assumption) | (with_reducible refine Sat.drewN ?_ _) | (with_reducible refine Sat.drew ?_) | ((with_reducible refine Sat.alloc ?_ ?_ ?_); rotate_left; (first | rfl | (simp; done)); (first | rfl | omega | (simp <;> omega))) | (with_reducible refine Sat.alloc_ ?_ _) | ((with_reducible refine Sat.set ?_ _ _ ?_); rotate_left; (first | rfl | (simp; done))) | ((with_reducible refine Sat.set1 ?_ _ _ ?_); rotate_left; (first | rfl | (simp; done))) | ((with_reducible refine Sat.set2 ?_ _ _ ?_); rotate_left; (first | rfl | (simp; done))) | ((with_reducible refine Sat.set3 ?_ _ _ ?_); rotate_left; (first | rfl | (simp; done)))))⟩
              case measure => (simp [intOf] <;> omega)
            · obtain rfl : m = lT.length := by omega
              go_wp2_with fail
              go_roundw
              case rel => exact ⟨n + 1, lT, J9, xaT, xcT, by omega, by go_num, rfl, hxcl, hxcm, Part.le_trans HJT hJ9, HX9.out, HINV.out, HSM.out⟩
              case measure => (simp [intOf] <;> omega)
      have b3 : (t.kind == 3) = false := by simp [k3]
      clear k1 k2 k3
      go_wp2_with fail
      clear e0 e1 e2
      have HST := hid HS6.out.drop.drop
      clear HS6
      obtain ⟨lT, hlT⟩ : ∃ lT, lT = l := ⟨_, rfl⟩
      subst hlT
      have RDT := RD
      have HINV := hid INV.out.same
      have HJT := hJ
      obtain ⟨xaT, hxaT⟩ : ∃ xaT, xaT = xa := ⟨_, rfl⟩
      obtain ⟨xcT, hxcT⟩ : ∃ xcT, xcT = xc := ⟨_, rfl⟩
      subst hxaT hxcT
      refine (qlist_sat HST.out).mono ?_; rintro e w9 ⟨J9, a9, c9, rfl, hc91, hc92, hJ9, hrd9, S9⟩
      have HR9 := hid hrd9
      have HS9 := hid S9
      have HX9 := hid (RDT.out.mono hJ9)
      clear hrd9 S9 HST
      go_wp2_with fail
      refine (qlen_sat HS9.out).mono ?_; rintro e w10 ⟨rfl, S10⟩
      have HS10 := hid S10
      clear S10 HS9
      go_wp2_with fail
      go_loopw [16, 17, 138] (fun _ _ i3 wr3 => ∃ (m : Nat), m ≤ lT.length ∧ i3 = .int .i64 m ∧ Sat w J9 [que q lT] wr3) (fun _ _ i3 _ => lT.length - (intOf i3).toNat)
      case atStart => exact ⟨0, Nat.zero_le _, rfl, HS10.out⟩
      case round =>
        clear HS10
        obtain ⟨m, hm, rfl, Sm⟩ := hrel
        have HSM := hid Sm
        clear Sm
        by_cases hml : m < lT.length
        · obtain ⟨b1, off1, rfl, e0, e1, e2, e3, e4⟩ := rd5 HX9.out HSM.out m hml
          obtain ⟨b2, off2, rfl, f0, f1, f2, f3⟩ := rd4 HR9.out HSM.out m hml
          generalize lT[m] = y at *
          have hm1 : (m : Int) < (lT.length : Int) := by omega
          have hm0 : (0 : Int) ≤ (m : Int) := by omega
          have f0' := fun o => cell_alloc f0 o
          have f2' := fun o => cell_alloc f2 o
          have f3' := fun o => cell_alloc f3 o
          go_wp2_with fail
          go_quiet (fail)
          go_wp2_with fail
          go_roundw
          case rel => exact ⟨m + 1, by omega, by go_num, by have := HSM.out; (repeat' (first | (with_reducible assumption) | (with_reducible refine Sat.drewN ?_ _) | (with_reducible refine Sat.drew ?_) | ((with_reducible refine Sat.alloc ?_ ?_ ?_); rotate_left; (first | rfl | (simp; done)); (first | rfl | omega | (simp <;> omega))) | (with_reducible refine Sat.alloc_ ?_ _) | ((with_reducible refine Sat.set ?_ _ _ ?_); rotate_left; (first | rfl | (simp; done))) | ((with_reducible refine Sat.set1 ?_ _ _ ?_); rotate_left; (first | rfl | (simp; done))) | ((with_reducible refine Sat.set2 ?_ _ _ ?_); rotate_left; (first | rfl | (simp; done))) | ((with_reducible refine Sat.set3 ?_ _ _ ?_); rotate_left; (first | rfl | (simp; done)))))⟩
          case measure => (simp [intOf] <;> omega)
        · obtain rfl : m = lT.length := by omega
          go_wp2_with fail
          go_roundw
          case rel => exact ⟨n + 1, lT, J9, xaT, xcT, by omega, by go_num, rfl, hxcl, hxcm, Part.le_trans HJT hJ9, HX9.out, HINV.out, HSM.out⟩
          case measure => (simp [intOf] <;> omega)
    · obtain rfl : n = N := by omega
      have hk1 : ¬ (n : Int) < (len : Int) := by have := HN.out; omega
      go_wp2_with fail
      go_ret
      exact ⟨rfl, HS.out.toBelow hJ⟩
end Go.Proofs.Ytecdcainkemicaa
