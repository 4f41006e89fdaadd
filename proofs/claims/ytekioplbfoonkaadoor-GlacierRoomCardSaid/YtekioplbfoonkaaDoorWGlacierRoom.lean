/- GlacierRoom, walked. -/
import Derived.Test.YtekioplbfoonkaaDoorPlatB
import Derived.Test.YtekioplbfoonkaaDoorLiveD
import Derived.Test.YtekioplbfoonkaaDoorReelB
namespace Go.Proofs.YtekioplbfoonkaaDoor
open Go.RowKit
set_option linter.unusedVariables false
set_option maxRecDepth 100000
set_option maxHeartbeats 4000000
def ka : Lit := .string [97]
/-- what is true of the disk behind n writes of file a. -/
structure DI (r : Int) (n : Nat) (d : Dst) : Prop where
  room : d.room = r
  used0 : 0 ≤ d.used
  used : d.used ≤ r
  lost : d.lost = false
  armed : d.armed = 0
  c : d.c ≤ n
  sx : ((d.F ka).getD fz).sx.size = 0
  nx : (((d.F ka).getD fz).nx.size : Int) = d.used
theorem DI.ok {r : Int} {n : Nat} {d : Dst} (h : DI r n d) (hr : r ≤ 500) (hn : n ≤ 100) : d.ok :=
  ⟨h.used0, by rw [h.room]; exact h.used, by rw [h.room]; omega, by rw [h.armed]; omega, by rw [h.armed]; omega, by have := h.c; omega⟩
theorem DI.up {r : Int} {n : Nat} {d : Dst} (h : DI r n d) : DI r (n + 1) d := ⟨h.room, h.used0, h.used, h.lost, h.armed, Nat.le_succ_of_le h.c, h.sx, h.nx⟩
theorem DI.app {r : Int} {n : Nat} {d : Dst} (h : DI r n d) (s : ByteArray) : ∃ E D, appS d ka s = (E, D) ∧ ((E = 0 ∧ d.used + s.size ≤ r ∧ DI r (n + 1) D) ∨ (E = 7 ∧ ¬ d.used + s.size ≤ r ∧ D = d)) := by
  obtain ⟨room, used, lost, armed, F, c⟩ := d
  have h1 := h.room; have h2 := h.used0; have h3 := h.used; have h4 := h.lost; have h5 := h.armed; have h6 := h.c; have h7 := h.sx; have h8 := h.nx
  simp only at h1 h2 h3 h4 h5 h6 h7 h8
  subst h1 h4 h5
  unfold appS
  rw [show tryE (Dst.lost ⟨room, used, false, 0, F, c⟩) (Dst.armed ⟨room, used, false, 0, F, c⟩) = 0 from rfl, if_pos rfl, show tryD ⟨room, used, false, 0, F, c⟩ = ⟨room, used, false, 0, F, c⟩ from rfl]
  unfold putS
  simp only
  generalize (F ka).getD fz = x at *
  have e1 : (fw x : Int) = used := by unfold fw; omega
  have e2 : (fw ⟨true, x.nx ++ s, x.st, x.sx⟩ : Int) = used + s.size := by
    unfold fw
    simp only [ByteArray.size_append]; omega
  rw [e1, e2, show used + (s.size : Int) - used = s.size by omega]
  have hF : ∀ f : Fst, ((fnPut F ka f) ka).getD fz = f := fun f => by rw [fnPut_eq]; rfl
  by_cases hpos : (0 : Int) < s.size
  · rw [if_pos hpos]
    by_cases hfit : (s.size : Int) ≤ room - used
    · rw [if_pos hfit]
      refine ⟨_, _, rfl, Or.inl ⟨rfl, by omega, ?_⟩⟩
      refine ⟨rfl, by show 0 ≤ used + (s.size : Int); omega, by show used + (s.size : Int) ≤ room; omega, rfl, rfl, by show c + 1 ≤ n + 1; omega, ?_, ?_⟩
      · show (((fnPut F ka _) ka).getD fz).sx.size = 0
        rw [hF]; exact h7
      · show ((((fnPut F ka _) ka).getD fz).nx.size : Int) = used + s.size
        rw [hF]; simp only [ByteArray.size_append]; omega
    · rw [if_neg hfit]
      exact ⟨_, _, rfl, Or.inr ⟨rfl, by omega, rfl⟩⟩
  · rw [if_neg hpos]
    have h0 : (s.size : Int) = 0 := by omega
    have hm : used - min (-(s.size : Int)) used = used := by omega
    rw [hm]
    refine ⟨_, _, rfl, Or.inl ⟨rfl, by omega, ?_⟩⟩
    refine ⟨rfl, h2, h3, rfl, rfl, by show c + 1 ≤ n + 1; omega, ?_, ?_⟩
    · show (((fnPut F ka _) ka).getD fz).sx.size = 0
      rw [hF]; exact h7
    · show ((((fnPut F ka _) ka).getD fz).nx.size : Int) = used
      rw [hF]; simp only [ByteArray.size_append]; omega
/-- a volume on which nothing fails, at its end. -/
def rv (r : Int) (bl : List Bk) : Vst := ⟨r, false, 0, ⟨#[]⟩, bl, 0, bl.length, 0, false⟩
structure VI (r : Int) (n : Nat) (bl : List Bk) : Prop where
  len : bl.length ≤ n
  torn : tornL bl = false
  used : (wsum bl : Int) ≤ r
theorem VI.ok {r : Int} {n : Nat} {bl : List Bk} (h : VI r n bl) (h0 : 0 ≤ r) (hr : r ≤ 500) (hn : n ≤ 100) : (rv r bl).ok :=
  ⟨h0, by show r ≤ _; omega, h.used, Int.le_refl 0, (by decide : (0 : Int) ≤ 1073741825), Nat.zero_le _, Nat.le_refl _, (by have := h.len; show bl.length ≤ _; omega), Int.le_refl 0, (by decide : (0 : Int) ≤ 4611686018427387904)⟩
theorem VI.add {r : Int} {n : Nat} {bl : List Bk} (h : VI r n bl) (s : ByteArray) : ∃ E B, addS (rv r bl) ⟨s, false, false⟩ = (E, rv r B) ∧ ((E = 0 ∧ (wsum bl : Int) + s.size + 4 ≤ r ∧ VI r (n + 1) B) ∨ (E = 7 ∧ ¬ (wsum bl : Int) + s.size + 4 ≤ r ∧ B = bl)) := by
  have hl := h.len
  have ht := h.torn
  by_cases hfit : (wsum bl : Int) + s.size + 4 ≤ r
  · refine ⟨0, bl ++ [⟨s, false, false⟩], ?_, Or.inl ⟨rfl, hfit, ⟨by simp; omega, by simp [tornL], by rw [wsum_app]; simp only [wsum, bwt]; omega⟩⟩⟩
    simp [addS, rv, tryV, tryE, tryA, ht, bwt]
    omega
  · refine ⟨7, bl, ?_, Or.inr ⟨rfl, hfit, rfl⟩⟩
    simp [addS, rv, tryV, tryE, tryA, ht, bwt]
    omega
theorem pused_q {w0 w : World} {I : Part} {L : List HP} {p : Nat} {d : Dst} {U : Int} (hU : d.used = U) (H : Sat w0 I (dskp p d :: L) w) : Calls Tryd.prog 8 #[.pointer (some ⟨p, 0, none⟩)] w (Ret (.int .i64 U) w) := by
  obtain ⟨b, H1⟩ := H.dskOpen
  subst hU
  exact used_any w p 0 _ (H1.isBlk.cell 1 rfl)
theorem vused_q {w0 w : World} {I : Part} {L : List HP} {p : Nat} {v : Vst} {U : Int} (hU : (wsum v.bl : Int) = U) (H : Sat w0 I (volp p v :: L) w) : Calls Tryd.prog 8 #[.pointer (some ⟨p, 0, none⟩)] w (Ret (.int .i64 U) w) := by
  obtain ⟨ad, cap, k1, k2, H1⟩ := H.volOpen
  subst hU
  exact used_any w p 0 _ (H1.isBlk.cell 1 rfl)
set_option maxRecDepth 100000 in
set_option maxHeartbeats 16000000 in
theorem glacierRoom_walk (r : Int) (la : Option Addr) (len cap : Nat) (w : World) (hT : Rd (wpart w) (some ⟨0, 0, none⟩) tabV) (hr : (Lit.int .i64 r).wf = true) (hl : OkT Tryd.prog w 6 22 [.slice la len cap]) :
    Calls Tryd.prog 3 #[.int .i64 r, .slice la len cap] w (RetB (.bool true) w.heap.size w) := by
  obtain ⟨hlc, hcm, ss, hsl, hrd, hss⟩ := okT_strs hl
  clear hl hr
  have HT := hid hT
  have HR := hid hrd
  have H0 := hid (Sat.start w)
  clear hT hrd
  by_cases h1 : r < 0
  · go_enter Tryd.func3, Tryd.ntmps3
    go_wp2_with fail
    refine (live_sat HT.out H0.out).mono ?_; rintro e w1 ⟨rfl, S1⟩
    have H1 := hid S1
    clear S1
    go_wp2_with fail
    refine (live_sat HT.out H1.out).mono ?_; rintro e w2 ⟨rfl, S2⟩
    have H2 := hid S2
    clear S2
    go_wp2_with fail
    go_ret
    exact ⟨rfl, H2.out.toBelow (Part.le_refl _)⟩
  by_cases h2 : 500 < r
  · go_enter Tryd.func3, Tryd.ntmps3
    go_wp2_with fail
    refine (live_sat HT.out H0.out).mono ?_; rintro e w1 ⟨rfl, S1⟩
    have H1 := hid S1
    clear S1
    go_wp2_with fail
    refine (live_sat HT.out H1.out).mono ?_; rintro e w2 ⟨rfl, S2⟩
    have H2 := hid S2
    clear S2
    go_wp2_with fail
    go_ret
    exact ⟨rfl, H2.out.toBelow (Part.le_refl _)⟩
  have h10 : 0 ≤ r := by omega
  have h25 : r ≤ 500 := by omega
  have hmx : max r 0 = r := by omega
  obtain ⟨M, hM⟩ : ∃ M, min len 20 = M := ⟨_, rfl⟩
  have hM1 : M ≤ len := by omega
  have hM2 : M ≤ 20 := by omega
  have HME := hid (show M = len ∨ (M = 20 ∧ M < len) by omega)
  have hel : ∀ q (h : q < M), ∃ (h1 : q < ss.length), ss[q].size ≤ 9223372036854775807 := fun q h => ⟨by omega, hss _ (List.getElem_mem _)⟩
  have HE := hid hel
  clear hM hel hss hsl
  go_enter Tryd.func3, Tryd.ntmps3
  go_wp2_with fail
  refine (live_sat HT.out H0.out).mono ?_; rintro e w1 ⟨rfl, S1⟩
  have H1 := hid S1
  clear S1
  go_wp2_with fail
  refine (pnew_sat r h10 H1.out).mono ?_; rintro e w2 ⟨p, rfl, S2⟩
  have H2 := hid S2
  clear S2
  go_wp2_with fail
  refine (vnew r H2.out).mono ?_; rintro e w3 ⟨z, rfl, S3⟩
  rw [hmx] at S3
  have H3 := hid (show Sat w (wpart w) [volp z (rv r []), dskp p ⟨r, 0, false, 0, fun _ => none, 0⟩] w3 from S3)
  clear S3 H2 H1 H0
  go_wp2_with fail
  go_loopw [7, 8, 9, 10, 11, 12] (fun i _ _ _ _ _ wr => ∃ (n : Nat) (d : Dst) (bl : List Bk), n ≤ M ∧ i = .int .i64 (n : Int) ∧ DI r n d ∧ VI r n bl ∧ Sat w (wpart w) [volp z (rv r bl), dskp p d] wr) (fun i _ _ _ _ _ _ => M - (intOf i).toNat)
  case atStart => exact ⟨0, _, [], Nat.zero_le _, rfl, ⟨rfl, Int.le_refl _, h10, rfl, rfl, Nat.le_refl _, rfl, rfl⟩, ⟨Nat.le_refl _, rfl, h10⟩, H3.out⟩
  case round =>
    clear H3
    obtain ⟨n, d, bl, hn, rfl, hD, hV, Sr⟩ := hrel
    have HS := hid Sr
    have HD := hid hD
    have HV := hid hV
    have hU1 := hD.used
    have hU0 := hD.used0
    have hW1 := hV.used
    obtain ⟨U, hU⟩ : ∃ U, d.used = U := ⟨_, rfl⟩
    obtain ⟨W, hW⟩ : ∃ W : Int, (wsum bl : Int) = W := ⟨_, rfl⟩
    have hW0 : 0 ≤ W := by omega
    rw [hU] at hU1 hU0
    rw [hW] at hW1
    have HU := hid hU
    have HW := hid hW
    clear Sr hD hV hU hW
    by_cases hlt : n < M
    · obtain ⟨hqs, hsz⟩ := HE.out n hlt
      obtain ⟨b', off, rfl, c0⟩ := HR.out.get HS.out n (u := .string ss[n]) (by simp [hqs])
      have hn1 : (n : Int) < (len : Int) := by omega
      have hn2 : (n : Int) < 20 := by omega
      have hn0 : (0 : Int) ≤ (n : Int) := by omega
      generalize ss[n] = s0 at *
      go_wp2_with fail
      refine (cut_sat s0 60 (by omega) hsz HS.out).mono ?_; rintro e w4 ⟨rfl, S4⟩
      have hz60 : (s0.extract 0 60).size ≤ 60 := cutSize s0 60
      obtain ⟨s, hs⟩ : ∃ s, s0.extract 0 60 = s := ⟨_, rfl⟩
      rw [hs] at hz60 ⊢
      have H4 := hid S4
      clear S4 HS hs hsz c0
      go_upto_region 8 with fail
      have u1 := fun k => pused_q HU.out (H4.out.drewN k).swap
      have u2 := fun k => vused_q (v := rv r bl) HW.out (H4.out.drewN k)
      go_quiet (first
        | (go_at_call 8; exact Calls.quiet_of (u1 _))
        | (go_at_call 8; exact Calls.quiet_of (u2 _)))
      clear u1 u2
      obtain ⟨E1, D, hA1, hc1⟩ := HD.out.app s
      obtain ⟨E2, B, hA2, hc2⟩ := HV.out.add s
      rw [HU.out] at hc1
      rw [HW.out] at hc2
      have HA1 := hid hA1
      have HA2 := hid hA2
      have hdk := HD.out.ok h25 (by omega)
      have hvk := HV.out.ok h10 h25 (by omega)
      have hxs := HD.out.sx
      have hxn := HD.out.nx
      rw [HU.out] at hxn
      have hvl := HV.out.len
      have hs1 : (((d.F ka).getD fz).nx.size + s.size) ≤ 1000000000 := by omega
      have hs2 : ((d.F ka).getD fz).sx.size ≤ 1000000000 := by omega
      clear hA1 hA2 hxs hxn
      go_wp2_with fail
      refine (dappend_sat ⟨#[97]⟩ (by decide) (by decide +kernel) s (d := d) rfl hs1 hs2 hdk HA1.out (H4.out.drewN _).swap).mono ?_; rintro e w5 ⟨rfl, S5⟩
      have H5 := hid S5.swap
      clear S5 H4 hs1 hs2 hdk
      go_wp2_with fail
      refine (vwrite s (v := rv r bl) hvk (by omega) (by show bl.length < _; omega) HA2.out H5.out).mono ?_; rintro e w6 ⟨rfl, S6⟩
      have H6 := hid S6
      clear S6 H5 hvk hvl
      have hz0 : (0 : Int) ≤ (s.size : Int) := by omega
      have hz1 : (s.size : Int) ≤ 60 := by omega
      have w1 : IntKind.i64.wrap (U + (s.size : Int)) = U + (s.size : Int) := IntWalk.i64_in _ (by omega)
      have w2 : IntKind.i64.wrap (W + (s.size : Int)) = W + (s.size : Int) := IntWalk.i64_in _ (by omega)
      have w3 : IntKind.i64.wrap (W + (s.size : Int) + 4) = W + (s.size : Int) + 4 := IntWalk.i64_in _ (by omega)
      rcases hc1 with ⟨rfl, hf1, hD2⟩ | ⟨rfl, hf1, rfl⟩
      · rcases hc2 with ⟨rfl, hf2, hV2⟩ | ⟨rfl, hf2, rfl⟩
        · have HD2 := hid hD2
          have HV2 := hid hV2
          clear hD2 hV2
          go_wp2_with fail
          go_roundw
          case rel => exact ⟨n + 1, D, B, by omega, by go_num, HD2.out, HV2.out, H6.out⟩
          case measure => (simp [intOf] <;> omega)
        · have HD2 := hid hD2
          have hU2 := D.used
          clear hD2
          go_wp2_with fail
          refine (vused_q (v := rv r B) HW.out H6.out).mono ?_; rintro e w7 ⟨rfl, n7, rfl⟩
          have H7 := hid (H6.out.drewN n7)
          clear H6
          go_wp2_with fail
          go_roundw
          case rel => exact ⟨n + 1, D, B, by omega, by go_num, HD2.out, ⟨Nat.le_succ_of_le HV.out.len, HV.out.torn, HV.out.used⟩, H7.out⟩
          case measure => (simp [intOf] <;> omega)
      · rcases hc2 with ⟨rfl, hf2, hV2⟩ | ⟨rfl, hf2, rfl⟩
        · have HV2 := hid hV2
          clear hV2
          go_wp2_with fail
          refine (pused_q HU.out H6.out.swap).mono ?_; rintro e w7 ⟨rfl, n7, rfl⟩
          have H7 := hid (H6.out.drewN n7)
          clear H6
          go_wp2_with fail
          go_roundw
          case rel => exact ⟨n + 1, D, B, by omega, by go_num, HD.out.up, HV2.out, H7.out⟩
          case measure => (simp [intOf] <;> omega)
        · go_wp2_with fail
          refine (pused_q HU.out H6.out.swap).mono ?_; rintro e w7 ⟨rfl, n7, rfl⟩
          go_wp2_with fail
          refine (vused_q (v := rv r B) HW.out (H6.out.drewN _)).mono ?_; rintro e w8 ⟨rfl, n8, rfl⟩
          go_wp2_with fail
          go_roundw
          case rel => exact ⟨n + 1, D, B, by omega, by go_num, HD.out.up, ⟨Nat.le_succ_of_le HV.out.len, HV.out.torn, HV.out.used⟩, H6.out.drewN _⟩
          case measure => (simp [intOf] <;> omega)
    · obtain rfl : M = n := by omega
      have hx : ¬ (M : Int) < (len : Int) ∨ (¬ (M : Int) < 20 ∧ (M : Int) < (len : Int)) := by have := HME.out; omega
      rcases hx with hx | ⟨hx, hx2⟩
      all_goals
        go_wp2_with fail
        refine (pused_q HU.out HS.out.swap).mono ?_; rintro e w7 ⟨rfl, n7, rfl⟩
        go_wp2_with fail
        refine (vused_q (v := rv r bl) HW.out (HS.out.drewN _)).mono ?_; rintro e w8 ⟨rfl, n8, rfl⟩
        go_wp2_with fail
        go_ret
        exact ⟨rfl, (HS.out.drewN _).toBelow (Part.le_refl _)⟩
end Go.Proofs.YtekioplbfoonkaaDoor
