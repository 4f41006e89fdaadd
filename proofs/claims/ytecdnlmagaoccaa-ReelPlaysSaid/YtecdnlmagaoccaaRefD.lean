/- Layer 5's document: Trim, Write. -/
import Derived.Test.YtecdnlmagaoccaaRefC
import Derived.Test.YtecdnlmagaoccaaAppSat
namespace Go.Proofs.Ytecdnlmagaoccaa
open Go.RowKit
set_option linter.unusedVariables false
set_option maxHeartbeats 2000000
section
variable {w0 w : World} {I : Part} {L : List HP} {v : Vst} {a : Option Addr} {n c : Nat}
theorem rd_take {l : List Bk} (h : Rd I a (l.flatMap bc)) (k : Nat) : Rd I a ((l.take k).flatMap bc) := by
  intro i hi
  have hl : (l.take k).flatMap bc = (l.flatMap bc).take (k * 3) := (flat_take bc bc_len l k).symm
  have h2 : i < (l.flatMap bc).length := by rw [hl, List.length_take] at hi; omega
  have := h i h2
  have e : ((l.take k).flatMap bc)[i]? = (l.flatMap bc)[i]? := by
    rw [hl, List.getElem?_take_of_lt]
    rw [hl, List.length_take] at hi; omega
  rw [List.getElem?_eq_getElem hi, List.getElem?_eq_getElem h2] at e
  rw [Option.some.inj e]
  exact this
theorem rtrim_sat (hv : v.ok) (hr : Rd I a (v.bl.flatMap bc)) (hcc : v.bl.length ≤ c) {E : Int} {V : Vst} (hA : trimS v = (E, V)) (H : Sat w0 I L w) :
    Calls Try.prog 42 #[.agg (rvl v (.slice a v.bl.length c)).toArray] w fun e w' => e = .returned (.tuple #[.agg (rvl V (.slice a V.bl.length c)).toArray, .int .i64 E]) ∧ Sat w0 I L w' := by
  unfold trimS at hA
  have hat := hv.at_
  have hsu := hv.sure
  have hlen := hv.len
  have HR := hid hr
  clear hr
  obtain ⟨g, hg⟩ := H.sizeQ
  have S1 := H.alloc (b := g) (T := 56) (cs := rvl v (.slice a v.bl.length c)) rfl hg.symm
  have S2 := S1.alloc (b := g + 1) (T := 56) (cs := rv0) rfl (by simp [hg])
  have H2 := hid S2
  clear S1 S2 H
  have HV := hid hv
  generalize hE : tryE v.lost v.armed = E0 at *
  have HE := hid hE
  clear hE hv
  by_cases h0 : E0 = 0
  · subst h0
    rw [if_pos rfl] at hA
    cases ht : tornL v.bl
    · rw [ht, if_neg (by simp)] at hA
      cases hA
      have HT := hid ht
      clear ht
      go_enter Try.func42, Try.ntmps42
      go_upto_region 1 with fail
      try rw [hg]
      refine wp_gen (fun w1 => Sat w0 I (blk (g + 1) 56 rv0 :: blk g 56 (rvl v (.slice a v.bl.length c)) :: L) w1) H2.out ?_
      clear H2 hg
      intro w1 S1
      have H1 := hid S1
      clear S1
      go_wp2_with (refine wpList_loadS whV rfl _ rfl rfl rfl H1.out.swap ?_)
      refine (rtry_sat HV.out H1.out).mono ?_; rintro e w2 ⟨rfl, S2⟩
      rw [HE.out]
      have H2 := hid S2.swap
      clear S2 H1
      go_upto_region 2 with (refine wpList_storeS whV rfl _ _ rfl rfl rfl rfl rfl (rvl_one (tryV v) a v.bl.length c) H2.out ?_; intro w3 S3)
      have H3 := hid S3
      clear S3 H2
      go_wp2_with (refine wpList_loadS whV rfl _ rfl rfl rfl H3.out ?_)
      refine (rtorn_sat (v := tryV v) hlen HR.out HT.out H3.out).mono ?_; rintro e w4 ⟨rfl, S4⟩
      have H3 := hid S4
      clear S4
      go_wp2_with (first
        | (refine wpList_loadS whV rfl _ rfl rfl rfl H3.out ?_)
        | (refine wpList_storeS whV rfl _ _ rfl rfl rfl rfl rfl (rvl_one (tryV v) a v.bl.length c) H3.out.swap ?_; intro w5 S5))
      exact bodyPost_ret (ret_cellS Try.results42 whV _ rfl rfl rfl S5) rfl ⟨rfl, S5.drop.drop⟩
    · rw [ht, if_pos rfl] at hA
      have hpos := tornL_pos v.bl ht
      have HT := hid ht
      clear ht
      cases hp : v.prot
      · rw [hp, if_neg (by simp)] at hA
        cases hA
        obtain ⟨k, hka, hkb⟩ : ∃ k, k < v.bl.length ∧ v.bl.length ≤ k + 1 := ⟨v.bl.length - 1, by omega, by omega⟩
        have hk1 : v.bl.length - 1 = k := by omega
        rw [hk1]
        have htl : (cutV (tryV v) k).bl.length = k := by show (v.bl.take k).length = k; rw [List.length_take]; omega
        rw [htl]
        have HTL := hid htl
        clear hk1 htl
        go_enter Try.func42, Try.ntmps42
        go_upto_region 1 with fail
        try rw [hg]
        refine wp_gen (fun w1 => Sat w0 I (blk (g + 1) 56 rv0 :: blk g 56 (rvl v (.slice a v.bl.length c)) :: L) w1) H2.out ?_
        clear H2 hg
        intro w1 S1
        have H1 := hid S1
        clear S1
        go_wp2_with (refine wpList_loadS whV rfl _ rfl rfl rfl H1.out.swap ?_)
        refine (rtry_sat HV.out H1.out).mono ?_; rintro e w2 ⟨rfl, S2⟩
        rw [HE.out]
        have H2 := hid S2.swap
        clear S2 H1
        go_upto_region 2 with (refine wpList_storeS whV rfl _ _ rfl rfl rfl rfl rfl (rvl_one (tryV v) a v.bl.length c) H2.out ?_; intro w3 S3)
        have H3 := hid S3
        clear S3 H2
        go_wp2_with (refine wpList_loadS whV rfl _ rfl rfl rfl H3.out ?_)
        refine (rtorn_sat (v := tryV v) hlen HR.out HT.out H3.out).mono ?_; rintro e w4 ⟨rfl, S4⟩
        have H3 := hid S4
        clear S4
        have c0 := H3.out.isBlk.cell 0 (v := .slice a v.bl.length c) rfl
        have c1 := H3.out.isBlk.cell 1 (v := .int .i64 v.sure) rfl
        have c2 := H3.out.isBlk.cell 2 (v := .int .i64 v.at_) rfl
        have c3 := H3.out.isBlk.cell 3 (v := .int .i64 v.room) rfl
        have c4 := H3.out.isBlk.cell 4 (v := .int .i64 v.erased) rfl
        have c5 := H3.out.isBlk.cell 5 (v := .string v.label) rfl
        have c6 := H3.out.isBlk.cell 6 (v := .bool v.prot) rfl
        have f0 := H3.out.isBlk.frozen 0
        have f1 := H3.out.isBlk.frozen 1
        have f2 := H3.out.isBlk.frozen 2
        have f4 := H3.out.isBlk.frozen 4
        have f5 := H3.out.isBlk.frozen 5
        rw [hp] at c6
        obtain ⟨b, off, hb, _⟩ := rd3 HR.out H3.out k (by omega)
        rw [hb] at c0
        have hb2 := hid hb
        clear hb
        have hw : IntKind.i64.wrap ((v.bl.length : Int) - 1) = (k : Int) := by rw [IntWalk.i64_in _ (by omega)]; omega
        have hk0 : (0 : Int) ≤ (k : Int) := by omega
        have hkc : (k : Int) ≤ (c : Int) := by omega
        have hkc2 : k ≤ c := by omega
        go_upto_region 9 with fail
        refine wp_gen (fun w4 => Sat w0 I (blk g 56 (rvl {tryV v with bl := v.bl.take k} (.slice (some ⟨b, off, none⟩) k c)) :: blk (g + 1) 56 rv0 :: L) w4) (H3.out.set 0 _ rfl) ?_
        clear H3 c0 c1 c2 c3 c4 c5 c6 f0 f1 f2 f4 f5
        intro w4 S4
        have c0 := S4.isBlk.cell 0 (v := .slice (some ⟨b, off, none⟩) k c) rfl
        have c1 := S4.isBlk.cell 1 (v := .int .i64 v.sure) rfl
        have c2 := S4.isBlk.cell 2 (v := .int .i64 v.at_) rfl
        have f1 := S4.isBlk.frozen 1
        have f2 := S4.isBlk.frozen 2
        have H3 := hid S4
        clear S4
        go_upto_region 11 with (first
          | (refine wpList_min (o := ⟨some 34, _, _, _, _, _⟩) rfl rfl rfl rfl (m := ((min v.sure k : Nat) : Int)) (by omega) ?_)
          | (refine wpList_min (o := ⟨some 41, _, _, _, _, _⟩) rfl rfl rfl rfl (m := ((min v.at_ k : Nat) : Int)) (by omega) ?_))
        refine wp_gen (fun w4 => Sat w0 I (blk g 56 (rvl (cutV (tryV v) k) (.slice (some ⟨b, off, none⟩) k c)) :: blk (g + 1) 56 rv0 :: L) w4) ((H3.out.set 1 _ rfl).set 2 _ rfl) ?_
        clear H3 c0 c1 c2 f1 f2
        intro w4 S4
        have H4 := hid S4
        clear S4
        rw [hb2.out]
        go_wp2_with (first
          | (refine wpList_loadS whV rfl _ rfl rfl rfl H4.out ?_)
          | (refine wpList_storeS whV rfl _ _ rfl rfl rfl rfl rfl (rvl_one _ _ _ _) H4.out.swap ?_; intro w5 S5))
        refine bodyPost_ret (v := .tuple #[.agg (rvl (cutV (tryV v) k) (.slice (some ⟨b, off, none⟩) k c)).toArray, .int .i64 0]) (ret_cellS Try.results42 whV _ rfl rfl rfl S5) rfl ⟨?_, S5.drop.drop⟩
        rw [hb2.out]
      · rw [hp, if_pos rfl] at hA
        cases hA
        go_enter Try.func42, Try.ntmps42
        go_upto_region 1 with fail
        try rw [hg]
        refine wp_gen (fun w1 => Sat w0 I (blk (g + 1) 56 rv0 :: blk g 56 (rvl v (.slice a v.bl.length c)) :: L) w1) H2.out ?_
        clear H2 hg
        intro w1 S1
        have H1 := hid S1
        clear S1
        go_wp2_with (refine wpList_loadS whV rfl _ rfl rfl rfl H1.out.swap ?_)
        refine (rtry_sat HV.out H1.out).mono ?_; rintro e w2 ⟨rfl, S2⟩
        rw [HE.out]
        have H2 := hid S2.swap
        clear S2 H1
        go_upto_region 2 with (refine wpList_storeS whV rfl _ _ rfl rfl rfl rfl rfl (rvl_one (tryV v) a v.bl.length c) H2.out ?_; intro w3 S3)
        have H3 := hid S3
        clear S3 H2
        go_wp2_with (refine wpList_loadS whV rfl _ rfl rfl rfl H3.out ?_)
        refine (rtorn_sat (v := tryV v) hlen HR.out HT.out H3.out).mono ?_; rintro e w4 ⟨rfl, S4⟩
        have H3 := hid S4
        clear S4
        have c0 := H3.out.isBlk.cell 0 (v := .slice a v.bl.length c) rfl
        have c1 := H3.out.isBlk.cell 1 (v := .int .i64 v.sure) rfl
        have c2 := H3.out.isBlk.cell 2 (v := .int .i64 v.at_) rfl
        have c3 := H3.out.isBlk.cell 3 (v := .int .i64 v.room) rfl
        have c4 := H3.out.isBlk.cell 4 (v := .int .i64 v.erased) rfl
        have c5 := H3.out.isBlk.cell 5 (v := .string v.label) rfl
        have c6 := H3.out.isBlk.cell 6 (v := .bool v.prot) rfl
        have f0 := H3.out.isBlk.frozen 0
        have f1 := H3.out.isBlk.frozen 1
        have f2 := H3.out.isBlk.frozen 2
        have f4 := H3.out.isBlk.frozen 4
        have f5 := H3.out.isBlk.frozen 5
        rw [hp] at c6
        go_wp2_with (first
          | (refine wpList_loadS whV rfl _ rfl rfl rfl H3.out ?_)
          | (refine wpList_storeS whV rfl _ _ rfl rfl rfl rfl rfl (rvl_one (tryV v) a v.bl.length c) H3.out.swap ?_; intro w5 S5))
        exact bodyPost_ret (ret_cellS Try.results42 whV _ rfl rfl rfl S5) rfl ⟨rfl, S5.drop.drop⟩
  · rw [if_neg h0] at hA
    cases hA
    go_enter Try.func42, Try.ntmps42
    go_upto_region 1 with fail
    try rw [hg]
    refine wp_gen (fun w1 => Sat w0 I (blk (g + 1) 56 rv0 :: blk g 56 (rvl v (.slice a v.bl.length c)) :: L) w1) H2.out ?_
    clear H2 hg
    intro w1 S1
    have H1 := hid S1
    clear S1
    go_wp2_with (refine wpList_loadS whV rfl _ rfl rfl rfl H1.out.swap ?_)
    refine (rtry_sat HV.out H1.out).mono ?_; rintro e w2 ⟨rfl, S2⟩
    rw [HE.out]
    have H2 := hid S2.swap
    clear S2 H1
    go_upto_region 2 with (refine wpList_storeS whV rfl _ _ rfl rfl rfl rfl rfl (rvl_one (tryV v) a v.bl.length c) H2.out ?_; intro w3 S3)
    have H3 := hid S3
    clear S3 H2
    go_wp2_with (first
      | (refine wpList_loadS whV rfl _ rfl rfl rfl H3.out ?_)
      | (refine wpList_storeS whV rfl _ _ rfl rfl rfl rfl rfl (rvl_one (tryV v) a v.bl.length c) H3.out.swap ?_; intro w5 S5))
    exact bodyPost_ret (ret_cellS Try.results42 whV _ rfl rfl rfl S5) rfl ⟨rfl, S5.drop.drop⟩
end
end Go.Proofs.Ytecdnlmagaoccaa
