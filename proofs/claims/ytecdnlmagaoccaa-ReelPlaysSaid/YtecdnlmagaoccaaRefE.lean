/- Layer 5's document: Write. -/
import Derived.Test.YtecdnlmagaoccaaRefD
import Derived.Test.YtecdnlmagaoccaaAppSat
import Derived.Deep.RegionHeld3
import Derived.Deep.RegionLaw
namespace Go.Proofs.Ytecdnlmagaoccaa
open Go.RowKit
set_option linter.unusedVariables false
set_option maxHeartbeats 4000000
section
variable {w0 w : World} {I : Part} {L : List HP} {b n : Nat} {T ty : TypeId} {cs : List Value} {P : Program} {ops : Array Oper} {rest : List Oper} {o : Oper} {a : Act} {Q : Exit → Act → World → Prop}
theorem wpList_loadSG (W : WholeT P ty n) (hw : Region.wanted o (yielded ops a.tmps) = true) (x : Operand) (ho : o.op = .load ty x) (hx : a.eval x = .pointer (some ⟨b, 0, none⟩)) (hn : cs.length = n) (H : Sat w0 I (blk b T cs :: L) w)
    (h : wpList P ops Q rest (a.put o.dst (.agg cs.toArray)) w) : wpList P ops Q (o :: rest) a w := by
  unfold wpList
  rw [if_pos hw]
  refine .inl ?_
  subst hn
  obtain ⟨d, hu, hd⟩ := W.d
  exact wp_load_row ty x ho b hx T cs.toArray (0, 0) d H.isBlk hu (by cases d <;> first | rfl | cases hd) (by simpa using W.sz) h
end
section
variable {w0 w : World} {I : Part} {L : List HP} {v : Vst} {a : Option Addr} {n c : Nat}
theorem slBk : SliceT Try.prog 52 65 3 24 := ⟨Try.underlying52, ⟨_, _, rfl, rfl, rfl, rfl, rfl⟩, by decide⟩
theorem rwrite_sat (hv : v.ok) (b : Bk) (hb : b.s.size ≤ 1000) (hs : (wsum v.bl : Int) ≤ 1000000000) (hr : Rd I a (v.bl.flatMap bc)) (hcc : v.bl.length ≤ c ∧ c ≤ 9223372036854775807) {E : Int} {V : Vst} (hA : addS v b = (E, V)) (H : Sat w0 I L w) :
    Calls Try.prog 39 #[.agg (rvl v (.slice a v.bl.length c)).toArray, .agg (bc b).toArray] w fun e w' => ∃ J a' c', e = .returned (.tuple #[.agg (rvl V (.slice a' V.bl.length c')).toArray, .int .i64 E]) ∧ I.le J ∧ Rd J a' (V.bl.flatMap bc) ∧ V.bl.length ≤ c' ∧ c' ≤ 9223372036854775807 ∧ ((a' = a ∧ c' = c) ∨ ∃ b off, a' = some ⟨b, off, none⟩) ∧ Sat w0 J L w' := by
  unfold addS at hA
  have hat := hv.at_
  have hlen := hv.len
  have hused := hv.used
  have hroom := hv.room
  have hroom0 := hv.room0
  have HR := hid hr
  clear hr
  obtain ⟨g, hg⟩ := H.sizeQ
  have S1 := H.alloc (b := g) (T := 56) (cs := rvl v (.slice a v.bl.length c)) rfl hg.symm
  have S2 := S1.alloc (b := g + 1) (T := 65) (cs := bc b) rfl (by simp [hg])
  have S3 := S2.alloc (b := g + 1 + 1) (T := 56) (cs := rv0) rfl (by simp [hg])
  have H2 := hid S3
  clear S1 S2 S3 H
  have HV := hid hv
  generalize hE : tryE v.lost v.armed = E0 at *
  have HE := hid hE
  clear hE hv
  by_cases h0 : E0 = 0
  · subst h0
    rw [if_pos rfl] at hA
    cases hp : v.prot
    · rw [hp, if_neg (by simp)] at hA
      by_cases ha : v.at_ = v.bl.length
      · rw [if_pos ha] at hA
        cases ht : tornL v.bl
        · rw [ht, if_neg (by simp)] at hA
          have HT := hid ht
          clear ht
          obtain ⟨U, hU⟩ : ∃ U : Int, (wsum v.bl : Int) = U := ⟨_, rfl⟩
          have HU := hid hU
          obtain ⟨B, hB⟩ : ∃ B, decide (v.room < IntKind.i64.wrap (IntKind.i64.wrap (U + (b.s.size : Int)) + 4)) = B := ⟨_, rfl⟩
          have HB := hid hB
          have HA := hid hA
          have hU0 : (0 : Int) ≤ U := by omega
          have hUr : U ≤ v.room := by omega
          have hU9 : U ≤ 1000000000 := by omega
          have hz : (b.s.size : Int) ≤ 1000 := by omega
          have hz0 : (0 : Int) ≤ (b.s.size : Int) := by omega
          have hbw : (bwt b : Int) = (b.s.size : Int) + 4 := by unfold bwt; omega
          clear hB
          go_enter Try.func39, Try.ntmps39
          go_upto_region 1 with fail
          try rw [hg]
          refine wp_gen (fun w1 => Sat w0 I (blk (g + 1 + 1) 56 rv0 :: blk (g + 1) 65 (bc b) :: blk g 56 (rvl v (.slice a v.bl.length c)) :: L) w1) H2.out ?_
          clear H2 hg
          intro w1 S1
          have H1 := hid S1
          clear S1
          go_wp2_with (refine wpList_loadS whV rfl _ rfl rfl rfl (H1.out.pick 2) ?_)
          refine (rtry_sat HV.out H1.out).mono ?_; rintro e w2 ⟨rfl, S2⟩
          rw [HE.out]
          have H2 := hid (S2.pick 2)
          clear S2 H1
          go_upto_region 2 with (refine wpList_storeS whV rfl _ _ rfl rfl rfl rfl rfl (rvl_one (tryV v) a v.bl.length c) H2.out ?_; intro w3 S3)
          have H3 := hid (show Sat w0 I (blk g 56 (rvl (tryV v) (.slice a v.bl.length c)) :: blk (g + 1 + 1) 56 rv0 :: blk (g + 1) 65 (bc b) :: L) w3 from S3)
          clear S3 H2
          have c0 := H3.out.isBlk.cell 0 (v := .slice a v.bl.length c) rfl
          have c2 := H3.out.isBlk.cell 2 (v := .int .i64 v.at_) rfl
          have c6 := H3.out.isBlk.cell 6 (v := .bool v.prot) rfl
          rw [hp] at c6
          rw [ha] at c2
          go_wp2_with (refine wpList_loadSG whV (by rfl) _ rfl rfl rfl H3.out ?_)
          refine (rtorn_sat (v := tryV v) hlen HR.out HT.out H3.out).mono ?_; rintro e w4 ⟨rfl, S4⟩
          have H3 := hid S4
          clear S4 c0 c2 c6
          have c0 := H3.out.isBlk.cell 0 (v := .slice a v.bl.length c) rfl
          have c1 := H3.out.isBlk.cell 1 (v := .int .i64 v.sure) rfl
          have c2 := H3.out.isBlk.cell 2 (v := .int .i64 v.at_) rfl
          have c3 := H3.out.isBlk.cell 3 (v := .int .i64 v.room) rfl
          have c4 := H3.out.isBlk.cell 4 (v := .int .i64 v.erased) rfl
          have c5 := H3.out.isBlk.cell 5 (v := .string v.label) rfl
          have c6 := H3.out.isBlk.cell 6 (v := .bool v.prot) rfl
          have c7 := H3.out.isBlk.cell 7 (v := .bool (tryV v).lost) rfl
          have c8 := H3.out.isBlk.cell 8 (v := .int .i64 ((tryV v).armed - 1)) rfl
          have b0 := (H3.out.pick 2).isBlk.cell 0 (v := .string b.s) rfl
          have hus : ∀ w', Sat w0 I (blk g 56 (rvl (tryV v) (.slice a v.bl.length c)) :: blk (g + 1 + 1) 56 rv0 :: blk (g + 1) 65 (bc b) :: L) w' → Calls Try.prog 50 #[.agg #[.slice a v.bl.length c, .int .i64 v.sure, .int .i64 v.at_, .int .i64 v.room, .int .i64 v.erased, .string v.label, .bool v.prot, .bool (tryV v).lost, .int .i64 ((tryV v).armed - 1)]] w' (fun e w5 => e = .returned (.int .i64 U) ∧ Sat w0 I (blk g 56 (rvl (tryV v) (.slice a v.bl.length c)) :: blk (g + 1 + 1) 56 rv0 :: blk (g + 1) 65 (bc b) :: L) w5) := fun w' S => rused_sat (v := tryV v) hlen HR.out (by show (wsum v.bl : Int) ≤ _; omega) HU.out S
          have HUS := hid hus
          have HPP := hid hp
          have HAA := hid ha
          clear hus hp ha hA hU
          go_upto_region 8 with fail
          go_cut [39] (fun t wx => t = .bool B ∧ Sat w0 I (blk g 56 (rvl (tryV v) (.slice a v.bl.length c)) :: blk (g + 1 + 1) 56 rv0 :: blk (g + 1) 65 (bc b) :: L) wx)
          case first =>
            go_region_held3 (fun w' => w'.cell? ⟨g, 0, none⟩ = some (.slice a v.bl.length c) ∧ w'.cell? ⟨g, 1, none⟩ = some (.int .i64 v.sure) ∧ w'.cell? ⟨g, 2, none⟩ = some (.int .i64 v.at_) ∧ w'.cell? ⟨g, 3, none⟩ = some (.int .i64 v.room) ∧ w'.cell? ⟨g, 4, none⟩ = some (.int .i64 v.erased) ∧ w'.cell? ⟨g, 5, none⟩ = some (.string v.label) ∧ w'.cell? ⟨g, 6, none⟩ = some (.bool v.prot) ∧ w'.cell? ⟨g, 7, none⟩ = some (.bool (tryV v).lost) ∧ w'.cell? ⟨g, 8, none⟩ = some (.int .i64 ((tryV v).armed - 1)) ∧ w'.cell? ⟨g + 1, 0, none⟩ = some (.string b.s)) (first | exact ⟨c0, c1, c2, c3, c4, c5, c6, c7, c8, b0⟩ | exact ⟨p0, p1, p2, p3, p4, p5, p6, p7, p8, p9⟩ | go_keep)
              (first | (go_at_call 50; refine (HUS.out _ H3.out.drew).mono ?_; rintro e w5 ⟨rfl, S5⟩; have p0 := S5.isBlk.cell 0 (v := .slice a v.bl.length c) rfl; have p1 := S5.isBlk.cell 1 (v := .int .i64 v.sure) rfl; have p2 := S5.isBlk.cell 2 (v := .int .i64 v.at_) rfl; have p3 := S5.isBlk.cell 3 (v := .int .i64 v.room) rfl; have p4 := S5.isBlk.cell 4 (v := .int .i64 v.erased) rfl; have p5 := S5.isBlk.cell 5 (v := .string v.label) rfl; have p6 := S5.isBlk.cell 6 (v := .bool v.prot) rfl; have p7 := S5.isBlk.cell 7 (v := .bool (tryV v).lost) rfl; have p8 := S5.isBlk.cell 8 (v := .int .i64 ((tryV v).armed - 1)) rfl; have p9 := (S5.pick 2).isBlk.cell 0 (v := .string b.s) rfl; have H5 := hid S5; clear S5))
            all_goals
              go_wp2_with fail
              go_meet
              refine ⟨by rw [HB.out], H5.out⟩
          case rest =>
            obtain ⟨rfl, S8⟩ := hcut
            have H3 := hid S8
            clear S8 c0 c1 c2 c3 c4 c5 c6 c7 c8 b0
            have hw1 : IntKind.i64.wrap (IntKind.i64.wrap (U + (b.s.size : Int)) + 4) = U + (b.s.size : Int) + 4 := by
              rw [IntWalk.i64_in (U + (b.s.size : Int)) (by omega)]; exact IntWalk.i64_in _ (by omega)
            have hB := HB.out
            rw [hw1] at hB
            have hA := HA.out
            cases B
            · have hfit : (bwt b : Int) ≤ v.room - wsum v.bl := by
                have h1 := HU.out
                have h2 : ¬ v.room < U + (b.s.size : Int) + 4 := of_decide_eq_false hB
                omega
              rw [if_pos hfit] at hA
              cases hA
              have c0 := H3.out.isBlk.cell 0 (v := .slice a v.bl.length c) rfl
              have f0 := H3.out.isBlk.frozen 0
              have b0 := (H3.out.pick 2).isBlk.cell 0 (v := .string b.s) rfl
              have b1 := (H3.out.pick 2).isBlk.cell 1 (v := .bool b.mark) rfl
              have b2 := (H3.out.pick 2).isBlk.cell 2 (v := .bool b.torn) rfl
              have hflat : v.bl.flatMap bc ++ bc b = (v.bl ++ [b]).flatMap bc := by rw [List.flatMap_append]; simp
              have hlen1 : v.bl.length + 1 = (v.bl ++ [b]).length := by simp
              obtain ⟨lT, hlT⟩ : ∃ lT, lT = v.bl ++ [b] := ⟨_, rfl⟩
              have HLT := hid hlT
              rw [← hlT] at hflat hlen1
              have HFL := hid hflat
              have HLL := hid hlen1
              have hB1 : v.bl.length * 24 ≤ 140737488355328 := by omega
              have hB2 : v.bl.length ≤ 140737488355328 := by omega
              have hB3 : lT.length * 24 ≤ 140737488355328 := by omega
              have hB4 : lT.length ≤ 140737488355328 := by omega
              have HFLEN : Hid ((v.bl.flatMap bc).length = v.bl.length * 3) := hid (flat_len bc bc_len v.bl)
              clear hflat hlen1 hlT hfit hB hw1 HB HUS
              have c0' := fun o => cell_alloc c0 o
              have c0'' := fun o o2 => cell_alloc (cell_alloc c0 o) o2
              have b0' := fun o => cell_alloc b0 o
              have b1' := fun o => cell_alloc b1 o
              have b2' := fun o => cell_alloc b2 o
              go_upto_region 10 with fail
              go_cut [47] (fun t wx => ∃ (g10 cp10 : Nat), t = .slice (some ⟨g10, 0, none⟩) lT.length cp10 ∧ lT.length ≤ cp10 ∧ cp10 ≤ 9223372036854775807 ∧ Sat w0 I (blk g 56 (rvl {tryV v with bl := lT} (.slice (some ⟨g10, 0, none⟩) lT.length cp10)) :: row 65 3 (.slice (some ⟨g10, 0, none⟩) lT.length cp10) lT.length (lT.flatMap bc) :: blk (g + 1 + 1) 56 rv0 :: blk (g + 1) 65 (bc b) :: L) wx)
              case first =>
                go_region_law
                  (first
                    | (refine step_copyN slBk (by rfl) _ _ (by rfl) (H3.out.alloc (cs := []) (T := 65) rfl rfl).drew (by rfl) (by rfl) HR.out HFLEN.out (bc_one v.bl) hB1 hB2 ?_; intro g9 cp9 w9 hc91 hc92 S9; have p0 := (S9.pick 1).isBlk.cell 0 (v := .slice a v.bl.length c) rfl; have pf := (S9.pick 1).isBlk.frozen 0; have p1 := (S9.pick 3).isBlk.cell 0 (v := .string b.s) rfl; have p2 := (S9.pick 3).isBlk.cell 1 (v := .bool b.mark) rfl; have p3 := (S9.pick 3).isBlk.cell 2 (v := .bool b.torn) rfl; have HS9 := hid S9; clear S9)
                    | (refine step_copyN slBk (by rfl) _ _ (by rfl) ((H3.out.alloc (cs := []) (T := 65) (b := wc.heap.size) rfl rfl).alloc (cs := bc b) (T := 65) (b := wc.heap.size + 1) rfl (by simp)).swap.drew (by rfl) (by rfl) HR.out HFLEN.out (bc_one v.bl) hB1 hB2 ?_; intro g9 cp9 w9 hc91 hc92 S9; have p0 := (S9.pick 2).isBlk.cell 0 (v := .slice a v.bl.length c) rfl; have pf := (S9.pick 2).isBlk.frozen 0; have p1 := (S9.pick 4).isBlk.cell 0 (v := .string b.s) rfl; have p2 := (S9.pick 4).isBlk.cell 1 (v := .bool b.mark) rfl; have p3 := (S9.pick 4).isBlk.cell 2 (v := .bool b.torn) rfl; have HS9b := hid S9; clear S9)
                    | (refine step_copyN slBk (by rfl) _ _ (by rfl) ((H3.out.alloc (cs := bc b) (T := 65) (b := wc.heap.size) rfl rfl).alloc (cs := []) (T := 65) (b := wc.heap.size + 1) rfl (by simp)).drew (by rfl) (by rfl) HR.out HFLEN.out (bc_one v.bl) hB1 hB2 ?_; intro g9 cp9 w9 hc91 hc92 S9; have p0 := (S9.pick 2).isBlk.cell 0 (v := .slice a v.bl.length c) rfl; have pf := (S9.pick 2).isBlk.frozen 0; have p1 := (S9.pick 4).isBlk.cell 0 (v := .string b.s) rfl; have p2 := (S9.pick 4).isBlk.cell 1 (v := .bool b.mark) rfl; have p3 := (S9.pick 4).isBlk.cell 2 (v := .bool b.torn) rfl; have HS9b := hid S9; clear S9)
                    | (refine step_app1N slBk (by rfl) _ _ (by rfl) HS9.out (by rfl) (by rfl) (by rfl) (bc_len b) (bc_one1 b) HLL.out HFL.out hB3 hB4 ?_; intro g10 cp10 w10 hc101 hc102 S9; have r0 := (S9.pick 1).isBlk.cell 0 (v := .slice a v.bl.length c) rfl; have rf := (S9.pick 1).isBlk.frozen 0; have r1 := (S9.pick 3).isBlk.cell 0 (v := .string b.s) rfl; have r2 := (S9.pick 3).isBlk.cell 1 (v := .bool b.mark) rfl; have r3 := (S9.pick 3).isBlk.cell 2 (v := .bool b.torn) rfl; have HS10 := hid S9; clear S9)
                    | (refine step_appSrcN slBk (by rfl) _ _ (by rfl) HS9b.out (by rfl) (by rfl) (Src.ofBlk slBk HS9b.out (m := 1) (bc_len b) (bc_one1 b)) HLL.out HFL.out hB3 hB4 ?_; intro g10 cp10 w10 hc101 hc102 S9; have r0 := (S9.pick 2).isBlk.cell 0 (v := .slice a v.bl.length c) rfl; have rf := (S9.pick 2).isBlk.frozen 0; have r1 := (S9.pick 4).isBlk.cell 0 (v := .string b.s) rfl; have r2 := (S9.pick 4).isBlk.cell 1 (v := .bool b.mark) rfl; have r3 := (S9.pick 4).isBlk.cell 2 (v := .bool b.torn) rfl; have HS10 := hid S9.swap.drop; clear S9))
                all_goals
                  go_wp2_with fail
                  go_meet
                  exact ⟨g10, cp10, rfl, hc101, hc102, (HS10.out.pick 1).set 0 _ rfl⟩
              case rest =>
                obtain ⟨g10, cp10, rfl, hc1, hc2, S10⟩ := hcut
                obtain ⟨JT, xaT, xcT, hJ', S11, hv, hc3, hc4, _, hrd'⟩ := S10.swap.freezeRow
                cases hv
                have c2 := S11.isBlk.cell 2 (v := .int .i64 v.at_) rfl
                have f2 := S11.isBlk.frozen 2
                rw [HAA.out] at c2
                have H4 := hid S11
                have HRD := hid hrd'
                have HJT := hid hJ'
                clear S10 S11 hrd' hJ' H3 c0 f0 b0 b1 b2 c0' c0'' b0' b1' b2'
                go_upto_region 12 with fail
                refine wp_gen (fun w4 => Sat w0 JT (blk g 56 (rvl {tryV v with bl := lT, at_ := v.bl.length + 1} (.slice (some ⟨g10, 0, none⟩) lT.length cp10)) :: blk (g + 1 + 1) 56 rv0 :: blk (g + 1) 65 (bc b) :: L) w4) (H4.out.set 2 _ rfl) ?_
                clear H4 c2 f2
                intro w4 S4
                have H4 := hid S4
                clear S4
                go_wp2_with (first
                  | (refine wpList_loadS whV rfl _ rfl rfl rfl H4.out ?_)
                  | (refine wpList_storeS whV rfl _ _ rfl rfl rfl rfl rfl (rvl_one _ _ _ _) H4.out.swap ?_; intro w5 S5))
                refine bodyPost_ret (ret_cellS Try.results39 whV _ rfl rfl rfl S5) rfl ⟨JT, some ⟨g10, 0, none⟩, cp10, ?_, HJT.out, ?_, ?_, hc2, Or.inr ⟨g10, 0, rfl⟩, S5.drop.drop.drop⟩
                · rw [← HLL.out]; rfl
                · rw [HFL.out]; exact HRD.out
                · have := HLL.out; omega
            · have hfit : ¬ (bwt b : Int) ≤ v.room - wsum v.bl := by
                have h1 := HU.out
                have h2 : v.room < U + (b.s.size : Int) + 4 := of_decide_eq_true hB
                omega
              rw [if_neg hfit] at hA
              cases hA
              go_wp2_with (first
                | (refine wpList_loadS whV rfl _ rfl rfl rfl H3.out ?_)
                | (refine wpList_storeS whV rfl _ _ rfl rfl rfl rfl rfl (rvl_one (tryV v) a v.bl.length c) H3.out.swap ?_; intro w5 S5))
              exact bodyPost_ret (ret_cellS Try.results39 whV _ rfl rfl rfl S5) rfl ⟨I, a, c, rfl, Part.le_refl _, HR.out, hcc.1, hcc.2, Or.inl ⟨rfl, rfl⟩, S5.drop.drop.drop⟩
        · rw [ht, if_pos rfl] at hA
          cases hA
          have HT := hid ht
          clear ht
          go_enter Try.func39, Try.ntmps39
          go_upto_region 1 with fail
          try rw [hg]
          refine wp_gen (fun w1 => Sat w0 I (blk (g + 1 + 1) 56 rv0 :: blk (g + 1) 65 (bc b) :: blk g 56 (rvl v (.slice a v.bl.length c)) :: L) w1) H2.out ?_
          clear H2 hg
          intro w1 S1
          have H1 := hid S1
          clear S1
          go_wp2_with (refine wpList_loadS whV rfl _ rfl rfl rfl (H1.out.pick 2) ?_)
          refine (rtry_sat HV.out H1.out).mono ?_; rintro e w2 ⟨rfl, S2⟩
          rw [HE.out]
          have H2 := hid (S2.pick 2)
          clear S2 H1
          go_upto_region 2 with (refine wpList_storeS whV rfl _ _ rfl rfl rfl rfl rfl (rvl_one (tryV v) a v.bl.length c) H2.out ?_; intro w3 S3)
          have H3 := hid (show Sat w0 I (blk g 56 (rvl (tryV v) (.slice a v.bl.length c)) :: blk (g + 1 + 1) 56 rv0 :: blk (g + 1) 65 (bc b) :: L) w3 from S3)
          clear S3 H2
          have c0 := H3.out.isBlk.cell 0 (v := .slice a v.bl.length c) rfl
          have c2 := H3.out.isBlk.cell 2 (v := .int .i64 v.at_) rfl
          have c6 := H3.out.isBlk.cell 6 (v := .bool v.prot) rfl
          rw [hp] at c6
          rw [ha] at c2
          go_wp2_with (refine wpList_loadSG whV (by rfl) _ rfl rfl rfl H3.out ?_)
          refine (rtorn_sat (v := tryV v) hlen HR.out HT.out H3.out).mono ?_; rintro e w4 ⟨rfl, S4⟩
          have H3 := hid S4
          clear S4 c0 c2 c6
          go_wp2_with (first
            | (refine wpList_loadS whV rfl _ rfl rfl rfl H3.out ?_)
            | (refine wpList_storeS whV rfl _ _ rfl rfl rfl rfl rfl (rvl_one (tryV v) a v.bl.length c) H3.out.swap ?_; intro w5 S5))
          exact bodyPost_ret (ret_cellS Try.results39 whV _ rfl rfl rfl S5) rfl ⟨I, a, c, rfl, Part.le_refl _, HR.out, hcc.1, hcc.2, Or.inl ⟨rfl, rfl⟩, S5.drop.drop.drop⟩
      · rw [if_neg ha] at hA
        cases hA
        have hne : ¬ (v.at_ : Int) = (v.bl.length : Int) := by omega
        go_enter Try.func39, Try.ntmps39
        go_upto_region 1 with fail
        try rw [hg]
        refine wp_gen (fun w1 => Sat w0 I (blk (g + 1 + 1) 56 rv0 :: blk (g + 1) 65 (bc b) :: blk g 56 (rvl v (.slice a v.bl.length c)) :: L) w1) H2.out ?_
        clear H2 hg
        intro w1 S1
        have H1 := hid S1
        clear S1
        go_wp2_with (refine wpList_loadS whV rfl _ rfl rfl rfl (H1.out.pick 2) ?_)
        refine (rtry_sat HV.out H1.out).mono ?_; rintro e w2 ⟨rfl, S2⟩
        rw [HE.out]
        have H2 := hid (S2.pick 2)
        clear S2 H1
        go_upto_region 2 with (refine wpList_storeS whV rfl _ _ rfl rfl rfl rfl rfl (rvl_one (tryV v) a v.bl.length c) H2.out ?_; intro w3 S3)
        have H3 := hid (show Sat w0 I (blk g 56 (rvl (tryV v) (.slice a v.bl.length c)) :: blk (g + 1 + 1) 56 rv0 :: blk (g + 1) 65 (bc b) :: L) w3 from S3)
        clear S3 H2
        have c0 := H3.out.isBlk.cell 0 (v := .slice a v.bl.length c) rfl
        have c2 := H3.out.isBlk.cell 2 (v := .int .i64 v.at_) rfl
        have c6 := H3.out.isBlk.cell 6 (v := .bool v.prot) rfl
        rw [hp] at c6
        go_wp2_with (first
          | (refine wpList_loadS whV rfl _ rfl rfl rfl H3.out ?_)
          | (refine wpList_storeS whV rfl _ _ rfl rfl rfl rfl rfl (rvl_one (tryV v) a v.bl.length c) H3.out.swap ?_; intro w5 S5))
        exact bodyPost_ret (ret_cellS Try.results39 whV _ rfl rfl rfl S5) rfl ⟨I, a, c, rfl, Part.le_refl _, HR.out, hcc.1, hcc.2, Or.inl ⟨rfl, rfl⟩, S5.drop.drop.drop⟩
    · rw [hp, if_pos rfl] at hA
      cases hA
      go_enter Try.func39, Try.ntmps39
      go_upto_region 1 with fail
      try rw [hg]
      refine wp_gen (fun w1 => Sat w0 I (blk (g + 1 + 1) 56 rv0 :: blk (g + 1) 65 (bc b) :: blk g 56 (rvl v (.slice a v.bl.length c)) :: L) w1) H2.out ?_
      clear H2 hg
      intro w1 S1
      have H1 := hid S1
      clear S1
      go_wp2_with (refine wpList_loadS whV rfl _ rfl rfl rfl (H1.out.pick 2) ?_)
      refine (rtry_sat HV.out H1.out).mono ?_; rintro e w2 ⟨rfl, S2⟩
      rw [HE.out]
      have H2 := hid (S2.pick 2)
      clear S2 H1
      go_upto_region 2 with (refine wpList_storeS whV rfl _ _ rfl rfl rfl rfl rfl (rvl_one (tryV v) a v.bl.length c) H2.out ?_; intro w3 S3)
      have H3 := hid (show Sat w0 I (blk g 56 (rvl (tryV v) (.slice a v.bl.length c)) :: blk (g + 1 + 1) 56 rv0 :: blk (g + 1) 65 (bc b) :: L) w3 from S3)
      clear S3 H2
      have c6 := H3.out.isBlk.cell 6 (v := .bool v.prot) rfl
      rw [hp] at c6
      go_wp2_with (first
        | (refine wpList_loadS whV rfl _ rfl rfl rfl H3.out ?_)
        | (refine wpList_storeS whV rfl _ _ rfl rfl rfl rfl rfl (rvl_one (tryV v) a v.bl.length c) H3.out.swap ?_; intro w5 S5))
      exact bodyPost_ret (ret_cellS Try.results39 whV _ rfl rfl rfl S5) rfl ⟨I, a, c, rfl, Part.le_refl _, HR.out, hcc.1, hcc.2, Or.inl ⟨rfl, rfl⟩, S5.drop.drop.drop⟩
  · rw [if_neg h0] at hA
    cases hA
    go_enter Try.func39, Try.ntmps39
    go_upto_region 1 with fail
    try rw [hg]
    refine wp_gen (fun w1 => Sat w0 I (blk (g + 1 + 1) 56 rv0 :: blk (g + 1) 65 (bc b) :: blk g 56 (rvl v (.slice a v.bl.length c)) :: L) w1) H2.out ?_
    clear H2 hg
    intro w1 S1
    have H1 := hid S1
    clear S1
    go_wp2_with (refine wpList_loadS whV rfl _ rfl rfl rfl (H1.out.pick 2) ?_)
    refine (rtry_sat HV.out H1.out).mono ?_; rintro e w2 ⟨rfl, S2⟩
    rw [HE.out]
    have H2 := hid (S2.pick 2)
    clear S2 H1
    go_upto_region 2 with (refine wpList_storeS whV rfl _ _ rfl rfl rfl rfl rfl (rvl_one (tryV v) a v.bl.length c) H2.out ?_; intro w3 S3)
    have H3 := hid (show Sat w0 I (blk g 56 (rvl (tryV v) (.slice a v.bl.length c)) :: blk (g + 1 + 1) 56 rv0 :: blk (g + 1) 65 (bc b) :: L) w3 from S3)
    clear S3 H2
    go_wp2_with (first
      | (refine wpList_loadS whV rfl _ rfl rfl rfl H3.out ?_)
      | (refine wpList_storeS whV rfl _ _ rfl rfl rfl rfl rfl (rvl_one (tryV v) a v.bl.length c) H3.out.swap ?_; intro w5 S5))
    exact bodyPost_ret (ret_cellS Try.results39 whV _ rfl rfl rfl S5) rfl ⟨I, a, c, rfl, Part.le_refl _, HR.out, hcc.1, hcc.2, Or.inl ⟨rfl, rfl⟩, S5.drop.drop.drop⟩
end
end Go.Proofs.Ytecdnlmagaoccaa
