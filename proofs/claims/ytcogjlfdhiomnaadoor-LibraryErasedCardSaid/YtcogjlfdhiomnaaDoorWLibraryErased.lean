/- LibraryErased: a volume that is erased takes blobs anew: walked. -/
import Derived.Test.YtcogjlfdhiomnaaDoorLibW
import Derived.Deep.CutBlock
import Derived.Deep.DeepCutAuto
namespace Go.Proofs.YtcogjlfdhiomnaaDoor
open Go.RowKit
set_option linter.unusedVariables false
set_option maxRecDepth 100000
/-- the tapes behind k Writes. -/
def tvE (bs : List Bl) : Nat → Nat → TV
  | 0 => tv0
  | k + 1 => tvSet (tvE bs k) (k % 2) ⟨(tvE bs k (k % 2)).lab, (tvE bs k (k % 2)).er, (tvE bs k (k % 2)).es ++ [((bs.getD k default).id, (bs.getD k default).data)]⟩
theorem tvE_ok (bs : List Bl) : ∀ k j, (tvE bs k j).es.length ≤ k ∧ (tvE bs k j).er = 0
  | 0, j => ⟨Nat.le_refl _, rfl⟩
  | k + 1, j => by
    unfold tvE tvSet
    by_cases h : j = k % 2
    · rw [if_pos h]
      have := tvE_ok bs k (k % 2)
      simp only [List.length_append, List.length_cons, List.length_nil]
      omega
    · rw [if_neg h]
      have := tvE_ok bs k j
      omega
set_option maxHeartbeats 12000000 in
theorem libraryErased_walk0 (la : Option Addr) (len cap : Nat) (bs : List Bl) (hlen : len ≤ 9223372036854775807) (hlc : len ≤ cap) (hbl : bs.length = len) (hbs : ∀ b ∈ bs, b.ok) (wh : Int) (w : World) (hBA : ∀ i (hi : i < bs.length), BlAt (wpart w) la i bs[i]) (hT : Rd (wpart w) (some ⟨0, 0, none⟩) tabV) :
    Calls Tryd.prog 8 #[.slice la len cap, .int .i64 wh] w (RetB (.bool true) w.heap.size w) := by
  have H0 := hid (Sat.start w)
  have HT0 := hid hT
  have HBA0 := hid hBA
  have HBS := hid hbs
  obtain ⟨n, hn⟩ : ∃ n, min len 5 = n := ⟨_, rfl⟩
  have hn5 : n ≤ 5 := by omega
  have hnl : n ≤ len := by omega
  have hnb : n ≤ bs.length := by omega
  have HMIN := hid (show min (len : Int) 5 = (n : Int) by omega)
  have HTV := hid (tvE_ok bs)
  clear hT hBA hbs hn
  go_enter Tryd.func8, Tryd.ntmps8
  go_wp2_with fail
  refine (lawake_sat H0.out).mono ?_; rintro e w1 ⟨rfl, S1⟩
  obtain ⟨g, hg⟩ := S1.sizeEx
  obtain ⟨J, hJ, S2, hrd⟩ := (S1.alloc (b := g) (T := 3) (cs := [.int .i64 20000, .int .i64 20000]) rfl hg.symm).freezeBlk
  have HJ := hid hJ
  have HT := hid (HT0.out.mono hJ)
  have HR := hid (show Rd J (some ⟨g, 0, none⟩) ([20000, 20000].map (Value.int .i64)) from hrd)
  have H2 := hid S2
  clear S1 S2 hrd hJ H0 HT0
  go_wp2_with fail
  try rw [hg]
  refine (lnew_sat (some ⟨g, 0, none⟩) 2 2 [20000, 20000] 1 1 (by omega) rfl HR.out (by simp) (by omega) H2.out).mono ?_; rintro e w3 ⟨q, ps, rfl, hps, S3⟩
  have S4 := Sat.libVnew (room := 20000) (n := 2) (m := 1) (by omega) hps (by omega) S3
  obtain ⟨p0, p1, rfl⟩ : ∃ a b, ps = [a, b] := by
    match ps, hps with
    | [a, b], _ => exact ⟨a, b, rfl⟩
  obtain ⟨PS, hPS⟩ : ∃ l, [p0, p1] = l := ⟨_, rfl⟩
  have hget : ∀ v : Nat, v ≤ 1 → ∃ p, PS[v]? = some p := fun v hv => by
    rw [← hPS]
    obtain rfl | rfl : v = 0 ∨ v = 1 := by omega
    · exact ⟨_, rfl⟩
    · exact ⟨_, rfl⟩
  rw [hPS] at S4
  have HGET := hid hget
  have H4 := hid (show Sat w J [libV 20000 q 0 PS (tvE bs 0)] w3 from S4)
  clear S3 S4 H2 HR hps hPS hget hg
  go_wp2_with (refine wpList_min (o := ⟨some 22, _, _, _, _, _⟩) rfl rfl rfl rfl HMIN.out ?_)
  go_loopw [7, 8, 9] (fun i _ _ wr => ∃ k : Nat, k ≤ n ∧ i = .int .i64 (k : Int) ∧ Sat w J [libV 20000 q k PS (tvE bs k)] wr) (fun i _ _ _ => 10 - (intOf i).toNat)
  case atStart => exact ⟨0, Nat.zero_le _, rfl, H4.out⟩
  case round =>
    clear H4
    obtain ⟨k, hk, rfl, Sr⟩ := hrel
    have HS := hid Sr
    clear Sr
    by_cases hlt : k < n
    · have hkn : (k : Int) < (n : Int) := by omega
      have hkl : (k : Int) < (len : Int) := by omega
      have hk0 : (0 : Int) ≤ (k : Int) := by omega
      have hkb : k < bs.length := by omega
      have hget := HBA0.out k hkb
      have bok := HBS.out bs[k] (List.getElem_mem _)
      have hd : bs.getD k default = bs[k] := by rw [List.getD_eq_getElem?_getD, List.getElem?_eq_getElem hkb]; rfl
      obtain ⟨x, hx⟩ : ∃ x, bs[k] = x := ⟨_, rfl⟩
      rw [hx] at hget bok hd
      obtain ⟨g, off, hla, e0, e1, e2⟩ := hget
      obtain ⟨D, hD⟩ : ∃ D, longS x.s x.n = D := ⟨_, rfl⟩
      have hDs : D.size ≤ 600 := by rw [← hD]; exact longS_size _ _
      have hes : tvE bs (k + 1) = tvSet (tvE bs k) (k % 2) ⟨(tvE bs k (k % 2)).lab, (tvE bs k (k % 2)).er, (tvE bs k (k % 2)).es ++ [(x.id, D)]⟩ := by
        show tvSet _ _ ⟨_, _, _ ++ [((bs.getD k default).id, (bs.getD k default).data)]⟩ = _
        rw [hd]
        show tvSet _ _ ⟨_, _, _ ++ [(x.id, longS x.s x.n)]⟩ = _
        rw [hD]
      have OK1 := hid (show okE (x.id, D) from ⟨bok.id, hDs⟩)
      have HTM := hid (show (k : Int).tmod 2 = ((k % 2 : Nat) : Int) by rw [Int.tmod_eq_emod_of_nonneg hk0]; omega)
      have hlen10 : (tvE bs k (k % 2)).es.length ≤ 10 := by have := (HTV.out k (k % 2)).1; omega
      obtain ⟨pk, hpk⟩ := HGET.out (k % 2) (by omega)
      obtain ⟨F, hF⟩ : ∃ F : Int, ((tapeB (tvE bs k (k % 2)).lab (tvE bs k (k % 2)).es).length : Int) = F := ⟨_, rfl⟩
      have c0 := (HS.out.thaw HJ.out).atI e0
      have c1 := (HS.out.thaw HJ.out).atI e1
      have c2 := (HS.out.thaw HJ.out).atI e2
      subst hla
      have HES := hid hes
      have HD := hid hD
      have BOK := hid bok
      have E0 := hid e0
      have L10 := hid hlen10
      have HPK := hid hpk
      have HF := hid hF
      clear hx hd hes hD hDs bok e0 e1 e2 hlen10 hpk hF
      go_wp2_with fail
      go_upto_region 8 with fail
      go_cut [8, 9] (fun t u wx => t = .int .i64 F ∧ u = .int .i64 0 ∧ Sat w J [libV 20000 q (k + 1) PS (tvE bs (k + 1))] wx)
      case first =>
        go_region_with (first
          | (go_at_call 13; refine (long_sat x.s x.n BOK.out.s BOK.out.n HD.out HS.out.drew).mono ?_; rintro e w7 ⟨rfl, S7⟩; have d0 := (S7.thaw HJ.out).atI E0.out; have H7 := hid S7; clear S7)
          | (go_at_call 30; refine (lwriteV (i := k % 2) HT.out (by omega) HPK.out HTM.out x.id D OK1.out L10.out HF.out H7.out).mono ?_; rintro e w8 ⟨rfl, S8⟩; have H8 := hid S8; clear S8))
        all_goals
          go_wp2_with fail
          go_meet
          refine ⟨rfl, rfl, ?_⟩
          rw [HES.out]
          exact H8.out
      case rest =>
        obtain ⟨rfl, rfl, S8⟩ := hcut
        have H8 := hid S8
        clear S8 HS c0 c1 c2
        go_wp2_with fail
        go_roundw
        case rel => exact ⟨k + 1, by omega, by go_num, H8.out⟩
        case measure => simp [intOf]; omega
    · obtain rfl : k = n := by omega
      obtain ⟨v, hv1, hv⟩ := and1 wh
      obtain ⟨u, hu1, hu⟩ : ∃ u : Nat, u ≤ 1 ∧ 1 - (v : Int) = (u : Int) := ⟨1 - v, by omega, by omega⟩
      have huv : u ≠ v := by omega
      obtain ⟨pv, hpv⟩ := HGET.out v hv1
      obtain ⟨pu, hpu⟩ := HGET.out u hu1
      have HPV := hid hpv
      have HPU := hid hpu
      have HUV := hid huv
      have hwrap : IntKind.i64.wrap (1 - (v : Int)) = (u : Int) := by rw [IntWalk.i64_in _ (by omega)]; exact hu
      obtain ⟨U, hU⟩ : ∃ U : Int, (wsum (tapeB (tvE bs k u).lab (tvE bs k u).es) : Int) = U := ⟨_, rfl⟩
      have HU := hid hU
      have HER := hid (show (tvE bs k v).er ≤ 900000 by have := (HTV.out k v).2; omega)
      obtain ⟨T0, hT0⟩ : ∃ T0, tvE bs k = T0 := ⟨_, rfl⟩
      rw [hT0] at HU HER HS
      obtain ⟨AG, hAG⟩ : ∃ l : ByteArray, (⟨#[97, 103, 97, 105, 110]⟩ : ByteArray) = l := ⟨_, rfl⟩
      have hAGs : AG.size = 5 := by subst hAG; rfl
      obtain ⟨FV, hFV⟩ : ∃ l : ByteArray, (⟨#[102, 105, 118, 101]⟩ : ByteArray) = l := ⟨_, rfl⟩
      have hFVs : FV.size = 4 := by subst hFV; rfl
      have L32 := hid (show AG.size ≤ 32 by omega)
      have OK5 := hid (show okE (5, FV) from ⟨by show (5 : Nat) < 18446744073709551616; omega, by show FV.size ≤ 600; omega⟩)
      clear hpv hpu hT0 hU huv hAGs hFVs
      go_wp2_with fail
      refine (lvolV HPU.out (V := (u : Int)) rfl HS.out).mono ?_; rintro e w5 ⟨rfl, S5⟩
      have H5 := hid S5
      clear S5 HS
      go_wp2_with fail
      refine (lusedV HPU.out HU.out H5.out).mono ?_; rintro e w6 ⟨rfl, S6⟩
      have H6 := hid S6
      clear S6 H5
      go_wp2_with fail
      refine (leraseV (by omega) HPV.out (V := (v : Int)) rfl HER.out L32.out H6.out).mono ?_; rintro e w7 ⟨rfl, S7⟩
      have H7 := hid S7
      clear S7 H6
      go_wp2_with fail
      refine (lvolV HPV.out (V := (v : Int)) rfl H7.out).mono ?_; rintro e w8 ⟨rfl, S8⟩
      have H8 := hid S8
      clear S8 H7
      go_wp2_with fail
      refine (lusedV HPV.out (U := 0) (by rw [tvSet_eq]; rfl) H8.out).mono ?_; rintro e w9 ⟨rfl, S9⟩
      have H9 := hid S9
      clear S9 H8
      go_wp2_with fail
      refine (lvolV HPU.out (V := (u : Int)) rfl H9.out).mono ?_; rintro e w10 ⟨rfl, S10⟩
      have H10 := hid S10
      clear S10 H9
      go_wp2_with fail
      refine (lusedV HPU.out (U := U) (by rw [tvSet_ne _ _ _ HUV.out]; exact HU.out) H10.out).mono ?_; rintro e w11 ⟨rfl, S11⟩
      have H11 := hid S11
      clear S11 H10
      go_wp2_with fail
      refine (lwriteV HT.out (by omega) HPV.out (V := (v : Int)) rfl 5 FV OK5.out (by rw [tvSet_eq]; exact Nat.zero_le _) (F := 0) (by rw [tvSet_eq]; rfl) H11.out).mono ?_; rintro e w12 ⟨rfl, S12⟩
      have H12 := hid S12
      clear S12 H11
      go_wp2_with fail
      refine (lreadV (frm := 0) (blob := 5) (data := FV) HT.out (by omega) HPV.out (V := (v : Int)) rfl 0 (by rw [tvSet_eq, tvSet_eq]; rfl) (by rfl) H12.out).mono ?_; rintro e w13 ⟨rfl, S13⟩
      have H13 := hid S13
      clear S13 H12
      go_wp2_with fail
      refine (lvolV HPV.out (V := (v : Int)) rfl H13.out).mono ?_; rintro e w14 ⟨rfl, S14⟩
      have H14 := hid S14
      clear S14 H13
      go_wp2_with fail
      refine (llabelV HPV.out (B := AG) (by rw [tvSet_eq, tvSet_eq]) H14.out).mono ?_; rintro e w15 ⟨rfl, S15⟩
      have H15 := hid S15
      clear S15 H14
      go_wp2_with fail
      go_ret
      exact ⟨rfl, H15.out.toBelow HJ.out⟩
theorem libraryErased_walk (la : Option Addr) (len cap : Nat) (wh : Int) (w : World) (hT : Rd (wpart w) (some ⟨0, 0, none⟩) tabV) (hl : OkT Tryd.prog w 6 43 [.slice la len cap]) (hw1 : (Lit.int .i64 wh).wf = true) :
    Calls Tryd.prog 8 #[.slice la len cap, .int .i64 wh] w (RetB (.bool true) w.heap.size w) := by
  obtain ⟨h1, h2, h3, bs, e1, e2, e3⟩ := okT_blobs hl
  exact libraryErased_walk0 la len cap bs h1 h2 e1 e2 wh w e3 hT
end Go.Proofs.YtcogjlfdhiomnaaDoor
