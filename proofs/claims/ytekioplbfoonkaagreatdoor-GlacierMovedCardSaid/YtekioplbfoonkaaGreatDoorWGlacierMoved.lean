/- GlacierMoved: blobs go from chunks to volumes, and are read there as they were: walked. -/
import Derived.Test.YtekioplbfoonkaaGreatDoorMg8
import Derived.Test.YtekioplbfoonkaaGreatDoorLive
import Derived.Test.YtekioplbfoonkaaGreatDoorMg6
import Derived.Deep.CutBlock
import Derived.Deep.DeepCutAuto
namespace Go.Proofs.YtekioplbfoonkaaGreatDoor
open Go.RowKit
set_option linter.unusedVariables false
set_option maxRecDepth 100000
set_option maxHeartbeats 12000000 in
theorem glacierMoved_walk0 (d : Int) (la : Option Addr) (len cap : Nat) (bs : List Bl) (hlen : len ≤ 9223372036854775807) (hlc : len ≤ cap) (hbl : bs.length = len) (hbs : ∀ b ∈ bs, b.ok) (va : Option Addr) (vl vc : Nat) (zs : List Int) (hzl : zs.length = vl) (hvm : vl ≤ vc ∧ vc ≤ 9223372036854775807) (hzb : ∀ z ∈ zs, -9223372036854775808 ≤ z ∧ z ≤ 9223372036854775807) (w : World) (hBA : ∀ i (hi : i < bs.length), BlAt (wpart w) la i bs[i]) (hZ : Rd (wpart w) va (zs.map (Value.int .i64))) (hT : Rd (wpart w) (some ⟨0, 0, none⟩) tabV) :
    Calls Tryz.prog 5 #[.slice la len cap, .int .i64 d, .slice va vl vc] w (RetB (.bool true) w.heap.size w) := by
  have H0 := hid (Sat.start w)
  have HT0 := hid hT
  by_cases hd1 : d < 1
  · clear hBA hZ hT hzb hbs
    go_enter Tryz.func5, Tryz.ntmps5
    go_wp2_with fail
    refine (live_sat HT0.out H0.out).mono ?_; rintro e w1 ⟨rfl, S1⟩
    have H1 := hid S1
    clear S1
    go_wp2_with fail
    refine (live_sat HT0.out H1.out).mono ?_; rintro e w2 ⟨rfl, S2⟩
    have H2 := hid S2
    clear S2
    go_wp2_with fail
    go_ret
    exact ⟨rfl, H2.out.toBelow (Part.le_refl _)⟩
  by_cases hd3 : 3 < d
  · clear hBA hZ hT hzb hbs
    go_enter Tryz.func5, Tryz.ntmps5
    go_wp2_with fail
    refine (live_sat HT0.out H0.out).mono ?_; rintro e w1 ⟨rfl, S1⟩
    have H1 := hid S1
    clear S1
    go_wp2_with fail
    refine (live_sat HT0.out H1.out).mono ?_; rintro e w2 ⟨rfl, S2⟩
    have H2 := hid S2
    clear S2
    go_wp2_with fail
    go_ret
    exact ⟨rfl, H2.out.toBelow (Part.le_refl _)⟩
  have HBA0 := hid hBA
  have HBS := hid hbs
  have HZ0 := hid hZ
  have HZB := hid hzb
  have HZL := hid hzl
  obtain ⟨n, hn⟩ : ∃ n, min len 6 = n := ⟨_, rfl⟩
  have hn6 : n ≤ 6 := by omega
  have hnl : n ≤ len := by omega
  have hnb : n ≤ bs.length := by omega
  have HMIN := hid (show min (len : Int) 6 = (n : Int) by omega)
  obtain ⟨m, hm⟩ : ∃ m : Nat, (m : Int) = min (max d 0) 3 ∧ 0 < m ∧ m ≤ 3 := ⟨d.toNat, by omega, by omega, by omega⟩
  have HM := hid hm
  obtain ⟨f, hf⟩ : ∃ f : Nat → Nat × ByteArray, f = fun j => (j, (bs.getD j default).data) := ⟨_, rfl⟩
  have hf1 : ∀ j, (f j).1 = j := fun j => by rw [hf]
  have HF1 := hid hf1
  have HF := hid (fun j (hj : j < bs.length) => (by rw [hf]; show (j, (bs.getD j default).data) = _; rw [List.getD_eq_getElem?_getD, List.getElem?_eq_getElem hj]; rfl : f j = (j, bs[j].data)))
  obtain ⟨vn, hvn⟩ : ∃ vn : Nat → Nat, vn = fun j => j % 2 := ⟨_, rfl⟩
  have HVN := hid (fun j => (by rw [hvn] : vn j = j % 2))
  have HTV := hid (tvB_ok f vn)
  clear hBA hZ hT hzb hbs hvn hf hn hzl hm hf1
  go_enter Tryz.func5, Tryz.ntmps5
  go_wp2_with fail
  refine (live_sat HT0.out H0.out).mono ?_; rintro e w1 ⟨rfl, S1⟩
  have H1 := hid S1
  clear S1 H0
  go_wp2_with fail
  refine (pnew_sat 1048576 (by omega) H1.out).mono ?_; rintro e w2 ⟨p, rfl, S2⟩
  have H2 := hid S2
  clear S2 H1
  go_wp2_with fail
  refine (copen_sat HT0.out (held0 1048576 (by omega)) H2.out).mono ?_; rintro e w3 ⟨cq, J1, rfl, hJ1, S3⟩
  obtain ⟨g, hg⟩ := S3.sizeEx
  obtain ⟨J, hJ, S4, hrd⟩ := (S3.alloc (b := g) (T := 3) (cs := [.int .i64 20000, .int .i64 20000]) rfl hg.symm).freezeBlk
  have HJ := hid (Part.le_trans hJ1 hJ)
  have HT := hid (HT0.out.mono HJ.out)
  have HR := hid (show Rd J (some ⟨g, 0, none⟩) ([20000, 20000].map (Value.int .i64)) from hrd)
  have H4 := hid S4
  clear S3 S4 hrd hJ hJ1 H2 HT0
  go_wp2_with fail
  try rw [hg]
  refine (lnew_sat (some ⟨g, 0, none⟩) 2 2 [20000, 20000] d m HM.out.1 rfl HR.out (by simp) (by omega) H4.out).mono ?_; rintro e w5 ⟨q, ps, rfl, hps, S5⟩
  have S6 := Sat.libDnew (room := 20000) (n := 2) (m := m) HM.out.2.1 HM.out.2.2 hps (by omega) S5
  obtain ⟨p0, p1, rfl⟩ : ∃ a b, ps = [a, b] := by
    match ps, hps with
    | [a, b], _ => exact ⟨a, b, rfl⟩
  obtain ⟨PS, hPS⟩ : ∃ l, [p0, p1] = l := ⟨_, rfl⟩
  have hget : ∀ v : Nat, v ≤ 1 → ∃ p, PS[v]? = some p := fun v hv => by
    rw [← hPS]
    obtain rfl | rfl : v = 0 ∨ v = 1 := by omega
    · exact ⟨_, rfl⟩
    · exact ⟨_, rfl⟩
  have hpl : PS.length ≤ 1000 := by rw [← hPS]; simp
  rw [hPS] at S6
  have HGET := hid hget
  have H6 := hid (S6.pick 2 |>.pick 2)
  clear S5 S6 H4 HR hps hPS hget hg
  go_wp2_with (refine wpList_min (o := ⟨some 50, _, _, _, _, _⟩) rfl rfl rfl rfl HMIN.out ?_)
  go_loopw [12] (fun i wr => ∃ (k : Nat) (s : Cst) (D : Dst), k ≤ n ∧ i = .int .i64 (k : Int) ∧ DR s D ∧ s.segs.flatten = (List.range k).map f ∧ Sat w J [chp cq p s, dskp p D, libP 20000 q (CalmD 0) PS (tvB f vn 0)] wr) (fun i _ => 10 - (intOf i).toNat)
  case atStart => exact ⟨0, opn [], _, Nat.zero_le _, rfl, dr0, rfl, H6.out⟩
  case round =>
    clear H6
    obtain ⟨k, s, D0, hk, rfl, hDR, hfl, Sr⟩ := hrel
    have HS := hid Sr
    have HDR := hid hDR
    have HFL := hid hfl
    clear Sr hDR hfl
    by_cases hlt : k < n
    · have hkn : (k : Int) < (n : Int) := by omega
      have hkl : (k : Int) < (len : Int) := by omega
      have hk0 : (0 : Int) ≤ (k : Int) := by omega
      have hku : IntKind.u64.wrap (k : Int) = (k : Int) := IntWalk.u64_in _ (by omega)
      have hkb : k < bs.length := by omega
      obtain ⟨g0, off, hla, e0, e1, e2⟩ := HBA0.out k hkb
      have bok := HBS.out bs[k] (List.getElem_mem _)
      have hfk := HF.out k hkb
      obtain ⟨x, hx⟩ : ∃ x, bs[k] = x := ⟨_, rfl⟩
      rw [hx] at e0 e1 e2 bok hfk
      obtain ⟨D, hD⟩ : ∃ D, longS x.s x.n = D := ⟨_, rfl⟩
      have hfk2 : f k = (k, D) := by rw [hfk, ← hD]; rfl
      have hDs : D.size ≤ 600 := by rw [← hD]; exact longS_size _ _
      have HIT := hid (show CItm (k, D) from ⟨by show k ≤ 1000; omega, by show D.size ≤ 4000; omega⟩)
      have HNUM := hid (show s.segs.flatten.length < 6 by rw [HFL.out]; simp; omega)
      have HNO := hid (show s.F (ulit k) = none from F_no s k fun y hy => by
        rw [HFL.out] at hy
        obtain ⟨j, hj, rfl⟩ := List.mem_map.1 hy
        have := List.mem_range.1 hj
        rw [HF1.out]; omega)
      have HFL2 := hid (show (s.put (k, D)).segs.flatten = (List.range (k + 1)).map f by rw [put_flat, HFL.out, List.range_succ, List.map_append, ← hfk2]; rfl)
      have c1 := (HS.out.thaw HJ.out).atI e1
      have c2 := (HS.out.thaw HJ.out).atI e2
      subst hla
      have HD := hid hD
      have BOK := hid bok
      clear hx hD hDs bok e0 e1 e2 hfk hfk2
      go_upto_region 12 with fail
      go_cut [71] (fun t wx => t = .bool false ∧ ∃ D2, DR (s.put (k, D)) D2 ∧ Sat w J [chp cq p (s.put (k, D)), dskp p D2, libP 20000 q (CalmD 0) PS (tvB f vn 0)] wx)
      case first =>
        go_region_with (first
          | (go_at_call 9; refine (long_sat x.s x.n BOK.out.s BOK.out.n HD.out HS.out.drew).mono ?_; rintro e w7 ⟨rfl, S7⟩; have H7 := hid S7; clear S7)
          | (go_at_call 30; refine (cput_sat HT.out HDR.out (k, D) HIT.out HNUM.out HNO.out H7.out).mono ?_; rintro e w8 ⟨D2, rfl, hD2, S8⟩; have H8 := hid S8; have HD2 := hid hD2; clear S8 hD2))
        all_goals
          go_wp2_with fail
          go_meet
          exact ⟨rfl, D2, HD2.out, H8.out⟩
      case rest =>
        obtain ⟨rfl, D2, hD2, S8⟩ := hcut
        have H8 := hid S8
        have HD2 := hid hD2
        clear S8 hD2 HS c1 c2
        go_wp2_with fail
        go_roundw
        case rel => exact ⟨k + 1, s.put (k, D), D2, by omega, by go_num, HD2.out, HFL2.out, H8.out⟩
        case measure => simp [intOf]; omega
    · obtain rfl : k = n := by omega
      have hkk : ¬ (k : Int) < (k : Int) := by omega
      go_wp2_with fail
      refine (csync_sat HDR.out HS.out).mono ?_; rintro e w9 ⟨D3, rfl, hD3, S9⟩
      obtain ⟨s1, hs1⟩ : ∃ s1, ({s with dirty := false} : Cst) = s1 := ⟨_, rfl⟩
      have HFL1 := hid (show s1.segs.flatten = (List.range k).map f by rw [← hs1]; exact HFL.out)
      have HSD := hid (show s1.dirty = false by rw [← hs1])
      rw [hs1] at hD3 S9
      have HFF := hid (show s1.files.flatten = (List.range k).map f by rw [Cst.files_flat]; exact HFL1.out)
      have HND := hid (show (s1.files.flatten.map (·.1)).Nodup by rw [HFF.out]; exact range_nd f HF1.out k)
      have HSF := hid (show s1.F = fnAll (fun _ => none) (plAll s1.files 1) by rw [Cst.files_pl]; rfl)
      have HHELD := hid hD3.held
      have HSAFE := hid (hD3.safe HSD.out)
      obtain ⟨ga, hga⟩ := S9.sizeEx
      have S10 := (S9.alloc (b := ga) (T := 3) (cs := []) rfl hga.symm).emptyRow 1
      have H10 := hid (show Sat w J [row 3 1 (.slice (some ⟨ga, 0, none⟩) 0 0) 0 (atsB f vn 0), chp cq p s1, dskp p D3, libP 20000 q (CalmD 0) PS (tvB f vn 0)] _ from S10)
      clear S9 S10 HS HDR HFL hs1 hD3 HSD HFL1
      go_wp2_with fail
      try rw [hga]
      clear hga
      go_loopw [13, 14, 15, 16, 17, 18] (fun sl i _ _ _ _ wr => ∃ (j : Nat) (sv : Value), j ≤ k ∧ sl = sv ∧ i = .int .i64 (j : Int) ∧ Sat w J [row 3 1 sv j (atsB f vn j), chp cq p s1, dskp p D3, libP 20000 q (CalmD j) PS (tvB f vn j)] wr) (fun _ i _ _ _ _ _ => 10 - (intOf i).toNat)
      case atStart => exact ⟨0, _, Nat.zero_le _, rfl, rfl, H10.out⟩
      case round =>
        clear H10
        obtain ⟨j, sv, hj, rfl, rfl, Sr⟩ := hrel
        obtain ⟨ad, cp, rfl, q1, q2⟩ := own_shape Sr.isRow
        by_cases hlt : j < k
        · have HS := hid ((Sr.pick 2).pick 2)
          clear Sr
          have hjk : (j : Int) < (k : Int) := by omega
          have hjl : (j : Int) < (len : Int) := by omega
          have hj0 : (0 : Int) ≤ (j : Int) := by omega
          have hju : IntKind.u64.wrap (j : Int) = (j : Int) := IntWalk.u64_in _ (by omega)
          have hjb : j < bs.length := by omega
          have hfj := HF.out j hjb
          have hmem : f j ∈ s1.files.flatten := by rw [HFF.out]; exact List.mem_map_of_mem (List.mem_range.2 hlt)
          obtain ⟨D, hD⟩ : ∃ D, bs[j].data = D := ⟨_, rfl⟩
          have hDs : D.size ≤ 600 := by rw [← hD]; exact Bl.size _
          rw [hD] at hfj
          rw [hfj] at hmem
          have HMEM := hid hmem
          obtain ⟨v, hv⟩ : ∃ v, vn j = v := ⟨_, rfl⟩
          have hv2 : v = j % 2 := by rw [← hv, HVN.out]
          have hvI : (j : Int) % 2 = (v : Int) := by omega
          have HVI := hid hvI
          have hes : tvB f vn (j + 1) = tvSet (tvB f vn j) v ⟨(tvB f vn j v).lab, (tvB f vn j v).er, (tvB f vn j v).es ++ [(j, D)]⟩ := by
            rw [← hv, ← hfj]; rfl
          have OK1 := hid (show okE (j, D) from ⟨by show j < 18446744073709551616; omega, hDs⟩)
          have hlen10 : (tvB f vn j v).es.length ≤ 10 := by have := (HTV.out j v).1; omega
          obtain ⟨pk, hpk⟩ := HGET.out v (by omega)
          obtain ⟨F, hF⟩ : ∃ F : Int, ((tapeB (tvB f vn j v).lab (tvB f vn j v).es).length : Int) = F := ⟨_, rfl⟩
          have hats : atsB f vn (j + 1) = atsB f vn j ++ [.int .i64 F] := by rw [atsB_succ, hv, hF]
          have HMN := hid (calmD_mnt (k := j) (by omega) v)
          have HES := hid hes
          have L10 := hid hlen10
          have HPK := hid hpk
          have HFI := hid hF
          have HATS := hid hats
          clear hmem hvI hes hlen10 hpk hF hats hfj hD hDs hv hv2
          go_wp2_with fail
          refine (cgetH HT.out HHELD.out HSF.out HND.out (j, D) HMEM.out (HS.out.swap.pick 1)).mono ?_; rintro e w11 ⟨rfl, S11⟩
          have H11 := hid (S11.pick 3)
          clear S11 HS
          go_wp2_with fail
          try rw [HVI.out]
          refine (lwriteP HT.out HMN.out HPK.out rfl j D OK1.out L10.out HFI.out H11.out).mono ?_; rintro e w12 ⟨rfl, S12⟩
          rw [← HES.out] at S12
          have H12 := hid (S12.pick 3)
          clear S12 H11
          go_wp2_with (at_builtin; refine wpList_appS slInt rfl _ _ rfl H12.out [.int .i64 F] rfl rfl rfl rfl ?h1 ?hb ?hn ?_)
          case h1 => intro u hu; simp at hu; subst hu; rfl
          case hb => omega
          case hn => omega
          intro ad2 cp2 w9 hc1 hc2 S13
          rw [← HATS.out] at S13
          have H13 := hid S13
          clear S13 H12
          go_wp2_with fail
          go_roundw
          case rel => exact ⟨j + 1, _, by omega, rfl, by go_num, H13.out.pick 3 |>.pick 3 |>.pick 2⟩
          case measure => simp [intOf]; omega
        · obtain rfl : j = k := by omega
          have hjk : ¬ (j : Int) < (j : Int) := by omega
          obtain ⟨J2, a4, c4, hJ2, S5, hv, hc1, hc2, _, hat⟩ := Sr.freezeRow
          cases hv
          have HAT := hid hat
          have HJ2 := hid hJ2
          have H5 := hid (S5.pick 1)
          clear Sr hat hJ2 S5
          go_wp2_with fail
          refine (dcrash_sat HHELD.out.files HSAFE.out va vl vc H5.out).mono ?_; rintro e w12 ⟨J3, rfl, hJ3, S6⟩
          have HJ3 := hid (Part.le_trans HJ2.out hJ3)
          have H6 := hid (S6.pick 2)
          have HAT3 := hid (HAT.out.mono hJ3)
          clear hJ3 S6 H5 HAT
          go_wp2_with fail
          refine (lcrashP (Q := CalmD j) (fun S h => calmD_crash S h) hpl va vl vc zs HZL.out hvm ((HZ0.out.mono HJ.out).mono HJ3.out) HZB.out H6.out).mono ?_; rintro e w13 ⟨rfl, S7⟩
          have H7 := hid (S7.pick 1)
          clear S7 H6
          go_wp2_with fail
          refine (copen_sat (HT.out.mono HJ3.out) HHELD.out H7.out).mono ?_; rintro e w14 ⟨q2, J4, rfl, hJ4, S8⟩
          have HJ4 := hid (Part.le_trans HJ.out (Part.le_trans HJ3.out hJ4))
          have HT4 := hid ((HT.out.mono HJ3.out).mono hJ4)
          have HAT4 := hid (HAT3.out.mono hJ4)
          have H8 := hid S8
          clear hJ4 S8 H7 HAT3
          go_wp2_with fail
          go_loopw [21, 22, 23, 24, 25] (fun ix _ _ _ _ wr => ∃ i : Nat, i ≤ j ∧ ix = .int .i64 (i : Int) ∧ Sat w J4 [chp q2 p (opn s1.files), dskp p D3, libP 20000 q (CalmD (j + i)) PS (tvB f vn j), chp cq p s1] wr) (fun ix _ _ _ _ _ => 10 - (intOf ix).toNat)
          case atStart => exact ⟨0, Nat.zero_le _, rfl, H8.out⟩
          case round =>
            clear H8
            obtain ⟨i, hi, rfl, Sr⟩ := hrel
            have HS := hid Sr
            clear Sr
            by_cases hlt : i < j
            · have hij : (i : Int) < (j : Int) := by omega
              have hil : (i : Int) < (len : Int) := by omega
              have hi0 : (0 : Int) ≤ (i : Int) := by omega
              have hiu : IntKind.u64.wrap (i : Int) = (i : Int) := IntWalk.u64_in _ (by omega)
              have hib : i < bs.length := by omega
              obtain ⟨g0, off, hla, e0, e1, e2⟩ := HBA0.out i hib
              have bok := HBS.out bs[i] (List.getElem_mem _)
              have hfi := HF.out i hib
              obtain ⟨D, hD⟩ : ∃ D, longS bs[i].s bs[i].n = D := ⟨_, rfl⟩
              have hfi2 : f i = (i, D) := by rw [hfi, ← hD]; rfl
              obtain ⟨x, hx⟩ : ∃ x, bs[i] = x := ⟨_, rfl⟩
              rw [hx] at e0 e1 e2 bok hD
              have hmem : f i ∈ s1.files.flatten := by rw [HFF.out]; exact List.mem_map_of_mem (List.mem_range.2 hlt)
              rw [hfi2] at hmem
              have HMEM := hid hmem
              obtain ⟨v, hv⟩ : ∃ v, vn i = v := ⟨_, rfl⟩
              have hv2 : v = i % 2 := by rw [← hv, HVN.out]
              have hvI : (i : Int) % 2 = (v : Int) := by omega
              have HVI := hid hvI
              have hgt := (tvB_get f vn (i := i) (n := j) hlt).1
              have hta := tvB_at f vn (i := i) (n := j) hlt
              rw [hv] at hgt hta
              rw [hfi2] at hgt
              obtain ⟨A, hA⟩ : ∃ A, (tapeB (tvB f vn i v).lab (tvB f vn i v).es).length = A := ⟨_, rfl⟩
              rw [hA] at hta
              have hag := atsB_get f vn hlt
              rw [hv, hA] at hag
              obtain ⟨pk, hpk⟩ := HGET.out v (by omega)
              subst hla
              obtain ⟨b4, o4, rfl, v4⟩ := HAT4.out.get HS.out i hag
              have HMN := hid (calmD_mnt (k := j + i) (by omega) v)
              have E1 := hid e1
              have E2 := hid e2
              have HD := hid hD
              have BOK := hid bok
              have HGT := hid hgt
              have HTA := hid hta
              have HPK := hid hpk
              have HV4 := hid hag
              clear hx hD bok e0 e1 e2 hgt hta hag hv hv2 hvI hfi hfi2 hpk hA hmem v4
              go_wp2_with fail
              refine (cgetH HT4.out HHELD.out (opn_F _) HND.out (i, D) HMEM.out HS.out).mono ?_; rintro e w15 ⟨rfl, S9⟩
              have H9 := hid (S9.pick 2)
              obtain ⟨b5, o5, h5, v5⟩ := HAT4.out.get S9 i HV4.out
              cases h5
              clear S9 HS
              go_wp2_with fail
              try rw [HVI.out]
              refine (lreadP HT4.out HMN.out HPK.out rfl _ HGT.out HTA.out H9.out).mono ?_; rintro e w16 ⟨rfl, S10⟩
              have c1 := (S10.thaw HJ4.out).atI E1.out
              have c2 := (S10.thaw HJ4.out).atI E2.out
              have H10 := hid (S10.pick 2 |>.pick 2)
              clear S10 H9 v5
              go_wp2_with fail
              go_quiet ((go_at_call 9; exact Calls.quiet_of (long_q _ x.s x.n BOK.out.s BOK.out.n HD.out)))
              go_wp2_with fail
              go_roundw
              case rel => exact ⟨i + 1, by omega, by go_num, H10.out.drewN _⟩
              case measure => simp [intOf]; omega
            · obtain rfl : i = j := by omega
              have hij : ¬ (i : Int) < (i : Int) := by omega
              go_wp2_with fail
              go_ret
              exact ⟨rfl, HS.out.toBelow HJ4.out⟩
theorem glacierMoved_walk (la : Option Addr) (len cap : Nat) (d : Int) (va : Option Addr) (vl vc : Nat) (w : World) (hT : Rd (wpart w) (some ⟨0, 0, none⟩) tabV) (hl : OkT Tryz.prog w 6 22 [.slice la len cap]) (hw0 : (Lit.int .i64 d).wf = true) (hc : OkT Tryz.prog w 6 23 [.slice va vl vc]) :
    Calls Tryz.prog 5 #[.slice la len cap, .int .i64 d, .slice va vl vc] w (RetB (.bool true) w.heap.size w) := by
  obtain ⟨h1, h2, h3, bs, e1, e2, e3⟩ := okT_blobs hl
  obtain ⟨k1, k2, zs, k3, k4, k5⟩ := okT_intl hc
  exact glacierMoved_walk0 d la len cap bs h1 h2 e1 e2 va vl vc zs k3 (by omega) k5 w e3 k4 hT
end Go.Proofs.YtekioplbfoonkaaGreatDoor
