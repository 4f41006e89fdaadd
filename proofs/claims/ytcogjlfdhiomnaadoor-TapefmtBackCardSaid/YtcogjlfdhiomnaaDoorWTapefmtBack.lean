/- TapefmtBack, walked. -/
import Derived.Test.YtcogjlfdhiomnaaDoorTpC
import Derived.Deep.CutBlock
import Derived.Deep.DeepCutAuto
namespace Go.Proofs.YtcogjlfdhiomnaaDoor
open Go.RowKit
set_option linter.unusedVariables false
set_option maxRecDepth 100000
/-- where the first k blobs begin. -/
def atsV (bs : List Bl) (k : Nat) : List Value := (List.range k).map fun j => Value.int .i64 ((tapeB ⟨#[65]⟩ (esOf bs j)).length : Int)
theorem atsV_succ (bs : List Bl) (k : Nat) : atsV bs (k + 1) = atsV bs k ++ [.int .i64 ((tapeB ⟨#[65]⟩ (esOf bs k)).length : Int)] := by
  unfold atsV
  rw [List.range_succ, List.map_append]
  rfl
theorem atsV_len (bs : List Bl) (k : Nat) : (atsV bs k).length = k := by simp [atsV]
theorem atsV_get (bs : List Bl) (n k : Nat) (hk : k < n) : (atsV bs n)[k]? = some (.int .i64 ((tapeB ⟨#[65]⟩ (esOf bs k)).length : Int)) := by
  unfold atsV
  rw [List.getElem?_map, List.getElem?_range hk]
  rfl
theorem lenB (bs : List Bl) (h : ∀ b ∈ bs, b.ok) (k : Nat) (hk : k ≤ 10) (hb : k ≤ bs.length) : (tapeB ⟨#[65]⟩ (esOf bs k)).length ≤ 40 := by
  have := (tape_snoc (lab := ⟨#[65]⟩) (by decide) (esOf bs k) (esOf_ok bs h k) (by rw [esOf_len bs k hb]; omega)).2.2
  rw [esOf_len bs k hb] at this
  omega
theorem itsT_get {lab : ByteArray} (bs : List Bl) (n j : Nat) (hj : j < n) (hn : n ≤ bs.length) : (itsT lab (esOf bs n) n)[j]? = some ⟨(bs[j]'(Nat.lt_of_lt_of_le hj hn)).id, (tapeB lab (esOf bs j)).length, (bs[j]'(Nat.lt_of_lt_of_le hj hn)).data.size⟩ := by
  unfold itsT
  rw [List.getElem?_map, List.getElem?_range hj]
  show some _ = _
  rw [itmT_eq (esOf bs n) j (esOf_get bs n j hj hn), esOf_at bs n j (by omega)]
theorem next_id (x : Nat) (hx : x < 18446744073709551616) : ∃ b : Nat, IntKind.u64.wrap ((x : Int) + 1) = (b : Int) ∧ x ≠ b := by
  by_cases h : x + 1 < 18446744073709551616
  · exact ⟨x + 1, by rw [IntWalk.u64_in _ (by omega)]; omega, by omega⟩
  · obtain rfl : x = 18446744073709551615 := by omega
    exact ⟨0, by decide, by decide⟩
set_option maxHeartbeats 12000000 in
theorem tapefmtBack_walk0 (la : Option Addr) (len cap : Nat) (bs : List Bl) (hlen : len ≤ 9223372036854775807) (hlc : len ≤ cap) (hbl : bs.length = len) (hbs : ∀ b ∈ bs, b.ok) (w : World) (hBA : ∀ i (hi : i < bs.length), BlAt (wpart w) la i bs[i]) (hT : Rd (wpart w) (some ⟨0, 0, none⟩) tabV) :
    Calls Tryd.prog 5 #[.slice la len cap] w (RetB (.bool true) w.heap.size w) := by
  have H0 := hid (Sat.start w)
  have HT := hid hT
  have HBA := hid hBA
  have HBS := hid hbs
  obtain ⟨n, hn⟩ : ∃ n, min len 6 = n := ⟨_, rfl⟩
  have hn6 : n ≤ 6 := by omega
  have hnl : n ≤ len := by omega
  have hnb : n ≤ bs.length := by omega
  have HMIN := hid (show min (len : Int) 6 = (n : Int) by omega)
  have TP := hid (fun k (hk : k ≤ n) => esOf_tp (lab := ⟨#[65]⟩) (by decide) bs hbs k (by omega) (by omega))
  have LB := hid (fun k (hk : k ≤ n) => lenB bs hbs k (by omega) (by omega))
  have OKS := hid (show (⟨100000, false, 0, ⟨#[]⟩, [], 0, 0, 0, false⟩ : Vst).ok from ⟨by simp, by simp, by simp [wsum], by simp, by simp, by simp, by simp, by simp, by simp, by simp⟩)
  clear hT hBA hbs hn
  go_enter Tryd.func5, Tryd.ntmps5
  go_wp2_with fail
  refine (vnew_eq 100000 (R := 100000) (by omega) H0.out).mono ?_; rintro e w1 ⟨p, rfl, S1⟩
  have H1 := hid S1
  clear S1 H0
  go_wp2_with fail
  refine (tawake_sat HT.out H1.out).mono ?_; rintro e w2 ⟨rfl, S2⟩
  have H2 := hid S2
  clear S2 H1
  go_wp2_with fail
  refine (verase ⟨#[65]⟩ OKS.out (lv_erase 100000 ⟨#[65]⟩) H2.out).mono ?_; rintro e w3 ⟨rfl, S3⟩
  obtain ⟨q, hq⟩ := S3.sizeEx
  have S4 := (S3.alloc (b := q) (T := 3) (cs := []) rfl hq.symm).emptyRow 1
  have H4 := hid (show Sat w (wpart w) [row 3 1 (.slice (some ⟨q, 0, none⟩) 0 0) 0 [], volp p (tpv ⟨#[65]⟩ 1 100000 [] 0 0)] _ from S4)
  clear S3 S4 H2
  go_wp2_with (refine wpList_min (o := ⟨some 32, _, _, _, _, _⟩) rfl rfl rfl rfl HMIN.out ?_)
  try rw [hq]
  refine wp_gen (fun w5 => Sat w (wpart w) [row 3 1 (.slice (some ⟨q, 0, none⟩) 0 0) 0 [], volp p (tpv ⟨#[65]⟩ 1 100000 [] 0 0)] w5) H4.out ?_
  clear H4 hq
  intro w5 S5
  go_loopw [4, 6, 7, 8] (fun sl i _ _ wr => ∃ (k : Nat) (sv : Value), k ≤ n ∧ sl = sv ∧ i = .int .i64 (k : Int) ∧ Sat w (wpart w) [row 3 1 sv k (atsV bs k), volp p (tpv ⟨#[65]⟩ 1 100000 (esOf bs k) (tapeB ⟨#[65]⟩ (esOf bs k)).length (tapeB ⟨#[65]⟩ (esOf bs k)).length)] wr) (fun _ i _ _ _ => 10 - (intOf i).toNat)
  case atStart => exact ⟨0, _, Nat.zero_le _, rfl, rfl, S5⟩
  case round =>
    clear S5
    obtain ⟨k, sv, hk, rfl, rfl, Sr⟩ := hrel
    obtain ⟨ad, cp, rfl, q1, q2⟩ := own_shape Sr.isRow
    have HS := hid Sr.swap
    clear Sr
    by_cases hlt : k < n
    · have hkn : (k : Int) < (n : Int) := by omega
      have hkl : (k : Int) < (len : Int) := by omega
      have hk0 : (0 : Int) ≤ (k : Int) := by omega
      have hkb : k < bs.length := by omega
      obtain ⟨g, off, hla, e0, e1, e2⟩ := HBA.out k hkb
      have bok := HBS.out bs[k] (List.getElem_mem _)
      have hes := esOf_succ bs k hkb
      obtain ⟨D, hD⟩ : ∃ D, longS bs[k].s bs[k].n = D := ⟨_, rfl⟩
      have hD2 : bs[k].data = D := hD
      have hDs : D.size ≤ 600 := by rw [← hD]; exact longS_size _ _
      rw [hD2] at hes
      have OK1 := hid (show okE (bs[k].id, D) from ⟨bok.id, hDs⟩)
      have hget := (HBA.out k hkb)
      obtain ⟨x, hx⟩ : ∃ x, bs[k] = x := ⟨_, rfl⟩
      rw [hx] at e0 e1 e2 bok hes hD OK1
      subst hla
      have HES := hid hes
      have HD := hid hD
      have BOK := hid bok
      have E0 := hid e0
      have E1 := hid e1
      have E2 := hid e2
      have TK := hid (TP.out k (by omega))
      have c0 := HS.out.atI e0
      have c1 := HS.out.atI e1
      have c2 := HS.out.atI e2
      clear hx hes hD hD2 bok e0 e1 e2 hget
      go_wp2_with fail
      go_upto_region 9 with fail
      go_cut [7, 8] (fun t u wx => t = .int .i64 ((tapeB ⟨#[65]⟩ (esOf bs k)).length : Int) ∧ u = .int .i64 0 ∧ Sat w (wpart w) [volp p (tpv ⟨#[65]⟩ 1 100000 (esOf bs (k + 1)) (tapeB ⟨#[65]⟩ (esOf bs (k + 1))).length (tapeB ⟨#[65]⟩ (esOf bs (k + 1))).length), row 3 1 (.slice ad k cp) k (atsV bs k)] wx)
      case first =>
        go_region_with (first
          | (go_at_call 13; refine (long_sat x.s x.n BOK.out.s BOK.out.n HD.out HS.out.drew).mono ?_; rintro e w7 ⟨rfl, S7⟩; have d0 := S7.atI E0.out; have H7 := hid S7; clear S7)
          | (go_at_call 14; refine (twrite_tp HT.out TK.out x.id D OK1.out (by rw [esOf_len bs k (by omega)]; omega) (N := ((tapeB ⟨#[65]⟩ (esOf bs k)).length : Int)) rfl H7.out).mono ?_; rintro e w8 ⟨rfl, S8⟩; have H8 := hid S8; clear S8))
        all_goals
          go_wp2_with fail
          go_meet
          refine ⟨rfl, rfl, ?_⟩
          have h := H8.out
          rw [← HES.out] at h
          exact h
      case rest =>
        obtain ⟨rfl, rfl, S8⟩ := hcut
        have H8 := hid S8.swap
        clear S8 HS c0 c1 c2
        go_wp2_with (at_builtin; refine wpList_appS slInt rfl _ _ rfl H8.out [.int .i64 ((tapeB ⟨#[65]⟩ (esOf bs k)).length : Int)] rfl rfl rfl rfl ?h1 ?hb ?hn ?_)
        case h1 => intro u hu; simp at hu; subst hu; rfl
        case hb => omega
        case hn => omega
        intro ad2 cp2 w9 hc1 hc2 S9
        rw [← atsV_succ] at S9
        have H9 := hid S9
        clear S9 H8
        go_wp2_with fail
        go_roundw
        case rel => exact ⟨k + 1, _, by omega, rfl, by go_num, H9.out⟩
        case measure => simp [intOf]; omega
    · obtain rfl : k = n := by omega
      have hkk : ¬ (k : Int) < (k : Int) := by omega
      have hel := esOf_len bs k hnb
      have TK := hid (TP.out k (by omega))
      obtain ⟨J, a4, c4, hJ, S5, hv, hc1, hc2, _, hat⟩ := HS.out.swap.freezeRow
      cases hv
      have HAT := hid hat
      have HJ := hid hJ
      have H5 := hid S5
      obtain ⟨its, hits⟩ : ∃ l, itsT ⟨#[65]⟩ (esOf bs k) (esOf bs k).length = l := ⟨_, rfl⟩
      have hil : its.length = k := by rw [← hits, itsT_len, hel]
      obtain ⟨Lk, hLk⟩ : ∃ l, (tapeB ⟨#[65]⟩ (esOf bs k)).length = l := ⟨_, rfl⟩
      obtain ⟨EN, hEN⟩ : ∃ l, Lk - 1 = l := ⟨_, rfl⟩
      have hsc : ScR ⟨#[65]⟩ 1 100000 (tapeB ⟨#[65]⟩ (esOf bs k)) Lk (2 * k) 0 [] 0 (its, EN) := by
        have h := tape_scan (lab := ⟨#[65]⟩) (er := 1) (room := 100000) (sure := Lk) (by decide) (esOf bs k) (esOf_ok bs HBS.out k) (by rw [hel]; omega)
        rw [hits, hLk, hEN, hel] at h
        exact h
      have hL0 : 0 < k → 1 ≤ Lk := by
        intro h0
        obtain ⟨m, rfl⟩ : ∃ m, k = m + 1 := ⟨k - 1, by omega⟩
        rw [← hLk, esOf_succ bs m (by omega), tapeB_app, List.length_append, tpAll_len]
        omega
      have hL40 : Lk ≤ 40 := by rw [← hLk]; exact LB.out k (by omega)
      have HSC := hid hsc
      have HITS := hid hits
      have HLK := hid hLk
      have hits2 : itsT ⟨#[65]⟩ (esOf bs k) k = its := by rw [← hits, hel]
      have hget : ∀ j (hj : j < k), its[j]? = some ⟨(bs[j]'(Nat.lt_of_lt_of_le hj hnb)).id, (tapeB ⟨#[65]⟩ (esOf bs j)).length, (bs[j]'(Nat.lt_of_lt_of_le hj hnb)).data.size⟩ := fun j hj => by
        have h := itsT_get (lab := ⟨#[65]⟩) bs k j hj hnb
        rw [hits2] at h
        exact h
      clear hits2
      have HGET := hid hget
      rw [hLk] at H5
      clear hsc hits hLk hget hat hJ S5 HS
      go_wp2_with fail
      refine (scan_sat (HT.out.mono HJ.out) (lab := ⟨#[65]⟩) (er := 1) (room := 100000) (bl := tapeB ⟨#[65]⟩ (esOf bs k)) (sure := Lk) (at0 := Lk) (by have h := TK.out.fit; rw [HLK.out] at h; exact h) (NN := 2 * k) (by omega) HSC.out H5.out).mono ?_
      rintro e w6 ⟨J2, a3, c3, at3, rfl, hd1, hd2, hJ2, hrd, hat3, S6⟩
      have e1 : ((its, EN) : List Itm × Nat).1.length = k := hil
      have e2 : ((its, EN) : List Itm × Nat).2 = EN := rfl
      rw [e1, e2]
      have hd3 : k ≤ c3 := by rw [← e1]; exact hd1
      have hd4 : c3 ≤ 9223372036854775807 := hd2
      have TK3 := hid (show TpOk ⟨#[65]⟩ 1 100000 (esOf bs k) Lk at3 from ⟨by decide, by omega, by omega, esOf_ok bs HBS.out k, by omega, by rw [HLK.out]; exact Nat.le_refl _, hat3⟩)
      have H6 := hid (show Sat w J2 [volp p (tpv ⟨#[65]⟩ 1 100000 (esOf bs k) Lk at3)] w6 from S6)
      have HRD := hid (show Rd J2 a3 (its.flatMap itc) from hrd)
      have HJ2 := hid hJ2
      clear S6 hrd hJ2 H5 hd1 hd2 e1 e2 hat3
      go_upto_region 14 with fail
      go_cut [89] (fun t wx => t = .bool false ∧ Sat w J2 [volp p (tpv ⟨#[65]⟩ 1 100000 (esOf bs k) Lk at3)] wx)
      case first =>
        by_cases h0 : k = 0
        · subst h0
          go_wp2_with fail
          go_meet
          exact ⟨rfl, H6.out⟩
        · have h1 : (0 : Int) < (k : Int) := by omega
          have hw : IntKind.i64.wrap ((Lk : Int) - 1) = (EN : Int) := by
            have := hL0 (by omega)
            have e : (Lk : Int) - 1 = (EN : Int) := by omega
            rw [e]; exact IntWalk.i64_in _ (by omega)
          have HLK2 := hid (show (((tpv ⟨#[65]⟩ 1 100000 (esOf bs k) Lk at3).bl.length : Nat) : Int) = (Lk : Int) by rw [← HLK.out]; rfl)
          go_wp2_with fail
          refine (vlen_eq (N := (Lk : Int)) HLK2.out H6.out).mono ?_; rintro e w7 ⟨rfl, S7⟩
          have H7 := hid S7
          clear S7 H6
          go_wp2_with fail
          go_meet
          exact ⟨rfl, H7.out⟩
      case rest =>
        obtain ⟨rfl, S7⟩ := hcut
        clear H6
        go_wp2_with fail
        go_loopw [12, 13, 14, 15, 16] (fun i _ _ _ _ wr => ∃ (j at2 : Nat), j ≤ k ∧ i = .int .i64 (j : Int) ∧ TpOk ⟨#[65]⟩ 1 100000 (esOf bs k) Lk at2 ∧ Sat w J2 [volp p (tpv ⟨#[65]⟩ 1 100000 (esOf bs k) Lk at2)] wr) (fun i _ _ _ _ _ => 10 - (intOf i).toNat)
        case atStart => exact ⟨0, at3, Nat.zero_le _, rfl, TK3.out, S7⟩
        case round =>
          clear S7 TK3
          obtain ⟨j, at2, hj, rfl, htk, Sr⟩ := hrel
          have HS := hid Sr
          have TJ := hid htk
          clear Sr htk
          by_cases hlt : j < k
          · have hjk : (j : Int) < (k : Int) := by omega
            have hjl : (j : Int) < (len : Int) := by omega
            have hj0 : (0 : Int) ≤ (j : Int) := by omega
            have hjb : j < bs.length := by omega
            obtain ⟨g, off, hla, e0, e1, e2⟩ := HBA.out j hjb
            have bok := HBS.out bs[j] (List.getElem_mem _)
            have hesg := esOf_get bs k j hlt hnb
            have hig := HGET.out j hlt
            obtain ⟨D, hD⟩ : ∃ D, longS bs[j].s bs[j].n = D := ⟨_, rfl⟩
            have hD2 : bs[j].data = D := hD
            rw [hD2] at hesg hig
            obtain ⟨x, hx⟩ : ∃ x, bs[j] = x := ⟨_, rfl⟩
            rw [hx] at e0 e1 e2 bok hesg hD hig
            obtain ⟨A, hA⟩ : ∃ A, (tapeB ⟨#[65]⟩ (esOf bs j)).length = A := ⟨_, rfl⟩
            have hAt : tapeAt ⟨#[65]⟩ (esOf bs k) j = A := by rw [esOf_at bs k j (by omega), hA]
            have hav := atsV_get bs k j hlt
            rw [hA] at hav hig
            have hA40 : A ≤ 40 := by rw [← hA]; exact LB.out j (by omega)
            subst hla
            obtain ⟨b4, o4, rfl, v4⟩ := (HAT.out.mono HJ2.out).get HS.out j hav
            have hi0 := flat_get itc (sz := 3) (fun _ => rfl) its j 0 (by omega) (by omega)
            have hi1 := flat_get itc (sz := 3) (fun _ => rfl) its j 1 (by omega) (by omega)
            have hi2 := flat_get itc (sz := 3) (fun _ => rfl) its j 2 (by omega) (by omega)
            have hij : its[j]'(by omega) = ⟨x.id, A, D.size⟩ := (List.getElem?_eq_some_iff.1 hig).2
            rw [hij] at hi0 hi1 hi2
            obtain ⟨b5, o5, rfl, v0⟩ := HRD.out.get HS.out (j * 3) (u := .int .u64 (x.id : Int)) hi0
            have hth := Part.le_trans HJ.out HJ2.out
            have CE : ∀ wz : World, Sat w J2 [] wz → wz.cell? ⟨b4, o4 + j, none⟩ = some (.int .i64 (A : Int)) ∧ wz.cell? ⟨g, off + j * 3, none⟩ = some (.int .u64 (x.id : Int)) ∧ wz.cell? ⟨g, off + j * 3 + 1, none⟩ = some (.string x.s) ∧ wz.cell? ⟨g, off + j * 3 + 2, none⟩ = some (.int .i64 x.n) ∧ wz.cell? ⟨b5, o5 + j * 3, none⟩ = some (.int .u64 (x.id : Int)) ∧ wz.cell? ⟨b5, o5 + j * 3 + 1, none⟩ = some (.int .i64 (A : Int)) ∧ wz.cell? ⟨b5, o5 + j * 3 + 2, none⟩ = some (.int .i64 (D.size : Int)) := by
              intro wz Sz
              obtain ⟨y4, z4, q4, u4⟩ := (HAT.out.mono HJ2.out).get Sz j hav
              obtain ⟨y0, z0, q0, u0⟩ := HRD.out.get Sz (j * 3) (u := .int .u64 (x.id : Int)) hi0
              obtain ⟨y1, z1, q1, u1⟩ := HRD.out.get Sz (j * 3 + 1) (u := .int .i64 (A : Int)) hi1
              obtain ⟨y2, z2, q2, u2⟩ := HRD.out.get Sz (j * 3 + 2) (u := .int .i64 (D.size : Int)) hi2
              cases q4
              cases q0
              cases q1
              cases q2
              exact ⟨u4, (Sz.thaw hth).atI e0, (Sz.thaw hth).atI e1, (Sz.thaw hth).atI e2, u0, by rw [Nat.add_assoc]; exact u1, by rw [Nat.add_assoc]; exact u2⟩
            have HCE := hid CE
            obtain ⟨k4, k0, k1, k2, k5, k6, k7⟩ := CE wr HS.out.drop
            obtain ⟨b2, hb2, hbne⟩ := next_id x.id bok.id
            have HSG := hid hesg
            have HAT2 := hid hAt
            have HBNE := hid hbne
            have BOK := hid bok
            have HD := hid hD
            clear CE hi0 hi1 hi2 hij hig hav hesg hAt hbne bok hD hD2 hx hA v0 v4 e0 e1 e2
            have hck3 : (j : Int) < (c3 : Int) := by omega
            go_wp2_with fail
            go_upto_region 19 with fail
            go_cut [13, 14] (fun t u wx => t = .string D ∧ u = .int .i64 0 ∧ Hid (∃ at2, TpOk ⟨#[65]⟩ 1 100000 (esOf bs k) Lk at2 ∧ Sat w J2 [volp p (tpv ⟨#[65]⟩ 1 100000 (esOf bs k) Lk at2)] wx))
            case first =>
              go_region_with ((go_at_call 20; refine (tread_tp (HT.out.mono hth) TJ.out j HSG.out HAT2.out HS.out.drew).mono ?_; rintro e w8 ⟨rfl, hS8⟩; have H8 := hid hS8; clear hS8))
              all_goals
                go_wp2_with fail
                go_meet
                exact ⟨rfl, rfl, H8⟩
            case rest =>
              obtain ⟨rfl, rfl, hh⟩ := hcut
              obtain ⟨at5, tk5, S8⟩ := hh.out
              have T5 := hid tk5
              have H8 := hid S8
              clear k4 k0 k1 k2 k5 k6 k7 HS TJ hh tk5 S8
              obtain ⟨k4, k0, k1, k2, k5, k6, k7⟩ := HCE.out wc H8.out.drop
              go_wp2_with fail
              go_quiet ((go_at_call 13; exact Calls.quiet_of (long_q _ x.s x.n BOK.out.s BOK.out.n HD.out)))
              go_upto_region 22 with fail
              go_cut [15, 16] (fun t u wx => u = .int .i64 3 ∧ Hid (∃ at2, TpOk ⟨#[65]⟩ 1 100000 (esOf bs k) Lk at2 ∧ Sat w J2 [volp p (tpv ⟨#[65]⟩ 1 100000 (esOf bs k) Lk at2)] wx))
              case first =>
                go_region_with ((go_at_call 20; refine (tread_no (HT.out.mono hth) T5.out j HSG.out HBNE.out HAT2.out (H8.out.drewN _).drew).mono ?_; rintro e w9 ⟨rfl, hS9⟩; have H9 := hid hS9; clear hS9))
                all_goals
                  go_wp2_with fail
                  go_meet
                  exact ⟨rfl, H9⟩
              case rest =>
                obtain ⟨rfl, hh⟩ := hcut
                obtain ⟨at6, tk6, S9⟩ := hh.out
                have T6 := hid tk6
                have H9 := hid S9
                clear k4 k0 k1 k2 k5 k6 k7 H8 hh tk6 S9 T5
                go_wp2_with fail
                go_roundw
                case rel => exact ⟨j + 1, at6, by omega, by go_num, T6.out, H9.out⟩
                case measure => simp [intOf]; omega
          · obtain rfl : j = k := by omega
            have hjk : ¬ (j : Int) < (j : Int) := by omega
            go_wp2_with fail
            go_ret
            exact ⟨rfl, HS.out.toBelow (Part.le_trans HJ.out HJ2.out)⟩
theorem tapefmtBack_walk (la : Option Addr) (len cap : Nat) (w : World) (hT : Rd (wpart w) (some ⟨0, 0, none⟩) tabV) (hl : OkT Tryd.prog w 6 43 [.slice la len cap]) :
    Calls Tryd.prog 5 #[.slice la len cap] w (RetB (.bool true) w.heap.size w) := by
  obtain ⟨h1, h2, h3, bs, e1, e2, e3⟩ := okT_blobs hl
  exact tapefmtBack_walk0 la len cap bs h1 h2 e1 e2 w e3 hT
end Go.Proofs.YtcogjlfdhiomnaaDoor
