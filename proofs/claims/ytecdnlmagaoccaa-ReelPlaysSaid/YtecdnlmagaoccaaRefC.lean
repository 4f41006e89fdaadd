/- Layer 5's document: Skip, Trim. -/
import Derived.Test.YtecdnlmagaoccaaRefB
namespace Go.Proofs.Ytecdnlmagaoccaa
open Go.RowKit
set_option linter.unusedVariables false
set_option maxHeartbeats 2000000
section
variable {w0 w : World} {I : Part} {L : List HP} {v : Vst} {a : Option Addr} {n c : Nat}
theorem rskip_sat (hv : v.ok) (hr : Rd I a (v.bl.flatMap bc)) {E : Int} {V : Vst} (hA : skipS v = (E, V)) (H : Sat w0 I L w) :
    Calls Try.prog 41 #[.agg (rvl v (.slice a v.bl.length c)).toArray] w fun e w' => e = .returned (.tuple #[.agg (rvl V (.slice a v.bl.length c)).toArray, .int .i64 E]) ∧ Sat w0 I L w' := by
  unfold skipS at hA
  have hat := hv.at_
  have hlen := hv.len
  have HR := hid hr
  clear hr
  obtain ⟨g, hg⟩ := H.sizeQ
  have S1 := H.alloc (b := g) (T := 56) (cs := rvl v (.slice a v.bl.length c)) rfl hg.symm
  have S2 := S1.alloc (b := g + 1) (T := 56) (cs := rv0) rfl (by simp [hg])
  have H2 := hid S2
  clear S1 S2 H
  have HV := hid hv
  generalize hE : tryE v.lost v.armed = E0 at *
  have HE := hid hE
  clear hE hv
  by_cases h0 : E0 = 0
  · subst h0
    rw [if_pos rfl] at hA
    have HAA := hid hA
    clear hA
    go_enter Try.func41, Try.ntmps41
    go_upto_region 1 with fail
    try rw [hg]
    refine wp_gen (fun w1 => Sat w0 I (blk (g + 1) 56 rv0 :: blk g 56 (rvl v (.slice a v.bl.length c)) :: L) w1) H2.out ?_
    clear H2 hg
    intro w1 S1
    have H1 := hid S1
    clear S1
    go_wp2_with (refine wpList_loadS whV rfl _ rfl rfl rfl H1.out.swap ?_)
    refine (rtry_sat HV.out H1.out).mono ?_; rintro e w2 ⟨rfl, S2⟩
    rw [HE.out]
    have H2 := hid S2.swap
    clear S2 H1
    go_upto_region 2 with (refine wpList_storeS whV rfl _ _ rfl rfl rfl rfl rfl (rvl_one (tryV v) a v.bl.length c) H2.out ?_; intro w3 S3)
    have H3 := hid S3
    clear S3 H2
    have c0 := H3.out.isBlk.cell 0 (v := .slice a v.bl.length c) rfl
    go_wp2_with fail
    clear c0
    go_loopw [5, 6, 19] (fun _ _ i wr => ∃ k : Nat, k ≤ v.bl.length ∧ i = .int .i64 (k : Int) ∧ findMark v.bl (max k v.at_) = findMark v.bl v.at_ ∧ Sat w0 I (blk g 56 (rvl (tryV v) (.slice a v.bl.length c)) :: blk (g + 1) 56 rv0 :: L) wr) (fun _ _ i _ => v.bl.length - (intOf i).toNat)
    case atStart => exact ⟨0, Nat.zero_le _, rfl, by rw [Nat.zero_max], H3.out⟩
    case round =>
      clear H3
      obtain ⟨k, hk, rfl, hf, Sr⟩ := hrel
      have HS := hid Sr
      have HF := hid hf
      clear Sr hf
      by_cases hlt : k < v.bl.length
      · obtain ⟨b, off, hb, d0, d1, d2⟩ := rd3 HR.out HS.out k hlt
        obtain ⟨x, hx⟩ : ∃ x, v.bl[k] = x := ⟨_, rfl⟩
        rw [hx] at d0 d1 d2
        have HX := hid hx
        clear hx
        have k1 : (k : Int) < (v.bl.length : Int) := by omega
        have k0 : (0 : Int) ≤ (k : Int) := by omega
        have hb2 := hid hb
        subst hb
        obtain ⟨q, hq⟩ := HS.out.sizeQ
        have S6 := HS.out.alloc (b := q) (T := 65) (cs := bc x) (vs := #[.string x.s, .bool x.mark, .bool x.torn]) rfl hq.symm
        go_upto_region 7 with fail
        try rw [hq]
        refine wp_gen (fun w6 => Sat w0 I (blk q 65 (bc x) :: blk g 56 (rvl (tryV v) (.slice (some ⟨b, off, none⟩) v.bl.length c)) :: blk (g + 1) 56 rv0 :: L) w6) S6 ?_
        clear S6 HS hq d0 d1 d2
        intro w6 S6
        have q1 := S6.isBlk.cell 1 (v := .bool x.mark) rfl
        have c2 := S6.swap.isBlk.cell 2 (v := .int .i64 v.at_) rfl
        have f2 := S6.swap.isBlk.frozen 2
        have H6 := hid S6.swap
        clear S6
        by_cases ha : v.at_ ≤ k
        · have kd : decide (v.at_ ≤ k) = true := by simpa using ha
          have hmx : max k v.at_ = k := by omega
          cases hm : x.mark
          · rw [hm] at q1
            have hnext : findMark v.bl (max (k + 1) v.at_) = findMark v.bl v.at_ := by
              rw [← HF.out, hmx, findMark_at v.bl k hlt, HX.out, hm, show max (k + 1) v.at_ = k + 1 by omega]; rfl
            have HNX := hid hnext
            clear hnext hm
            go_wp2_with fail
            go_roundw
            case rel => exact ⟨k + 1, by omega, by go_num, HNX.out, H6.out.swap.drop⟩
            case measure => (simp [intOf] <;> omega)
          · rw [hm] at q1
            have hfound : findMark v.bl v.at_ = some k := by
              rw [← HF.out, hmx, findMark_at v.bl k hlt, HX.out, hm]; rfl
            have hVE := HAA.out
            rw [hfound] at hVE
            cases hVE
            clear hfound hm
            have hw1 : IntKind.i64.wrap ((k : Int) + 1) = ((k + 1 : Nat) : Int) := by rw [IntWalk.i64_in _ (by omega)]; omega
            go_upto_region 9 with fail
            refine wp_gen (fun w4 => Sat w0 I (blk g 56 (rvl {tryV v with at_ := k + 1} (.slice (some ⟨b, off, none⟩) v.bl.length c)) :: blk (g + 1) 56 rv0 :: L) w4) (((H6.out.set 2 _ rfl).swap).drop) ?_
            clear H6 q1 c2 f2
            intro w4 S4
            have H4 := hid S4
            clear S4
            go_wp2_with (first
              | (refine wpList_loadS whV rfl _ rfl rfl rfl H4.out ?_)
              | (refine wpList_storeS whV rfl _ _ rfl rfl rfl rfl rfl (rvl_one _ _ _ _) H4.out.swap ?_; intro w5 S5))
            exact bodyPost_ret (ret_cellS Try.results41 whV _ rfl rfl rfl S5) rfl ⟨rfl, S5.drop.drop⟩
        · have kd : decide (v.at_ ≤ k) = false := by simp; omega
          have hnext : findMark v.bl (max (k + 1) v.at_) = findMark v.bl v.at_ := by
            rw [← HF.out, show max (k + 1) v.at_ = max k v.at_ by omega]
          have HNX := hid hnext
          clear hnext
          go_wp2_with fail
          go_roundw
          case rel => exact ⟨k + 1, by omega, by go_num, HNX.out, H6.out.swap.drop⟩
          case measure => (simp [intOf] <;> omega)
      · obtain rfl : k = v.bl.length := by omega
        have hnone : findMark v.bl v.at_ = none := by
          rw [← HF.out, show max v.bl.length v.at_ = v.bl.length by omega]
          exact findMark_none _ _ (Nat.le_refl _)
        have hVE := HAA.out
        rw [hnone] at hVE
        cases hVE
        clear hnone
        have H3 := HS
        go_wp2_with (first
          | (refine wpList_loadS whV rfl _ rfl rfl rfl H3.out ?_)
          | (refine wpList_storeS whV rfl _ _ rfl rfl rfl rfl rfl (rvl_one (tryV v) a v.bl.length c) H3.out.swap ?_; intro w5 S5))
        exact bodyPost_ret (ret_cellS Try.results41 whV _ rfl rfl rfl S5) rfl ⟨rfl, S5.drop.drop⟩
  · rw [if_neg h0] at hA
    cases hA
    go_enter Try.func41, Try.ntmps41
    go_upto_region 1 with fail
    try rw [hg]
    refine wp_gen (fun w1 => Sat w0 I (blk (g + 1) 56 rv0 :: blk g 56 (rvl v (.slice a v.bl.length c)) :: L) w1) H2.out ?_
    clear H2 hg
    intro w1 S1
    have H1 := hid S1
    clear S1
    go_wp2_with (refine wpList_loadS whV rfl _ rfl rfl rfl H1.out.swap ?_)
    refine (rtry_sat HV.out H1.out).mono ?_; rintro e w2 ⟨rfl, S2⟩
    rw [HE.out]
    have H2 := hid S2.swap
    clear S2 H1
    go_upto_region 2 with (refine wpList_storeS whV rfl _ _ rfl rfl rfl rfl rfl (rvl_one (tryV v) a v.bl.length c) H2.out ?_; intro w3 S3)
    have H3 := hid S3
    clear S3 H2
    go_wp2_with (first
      | (refine wpList_loadS whV rfl _ rfl rfl rfl H3.out ?_)
      | (refine wpList_storeS whV rfl _ _ rfl rfl rfl rfl rfl (rvl_one (tryV v) a v.bl.length c) H3.out.swap ?_; intro w5 S5))
    exact bodyPost_ret (ret_cellS Try.results41 whV _ rfl rfl rfl S5) rfl ⟨rfl, S5.drop.drop⟩
end
end Go.Proofs.Ytecdnlmagaoccaa
