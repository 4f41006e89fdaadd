/- LibraryBlobs: blobs on several volumes are read again: walked. -/
import Derived.Test.YtcogjlfdhiomnaaDoorLibW
import Derived.Test.YtcogjlfdhiomnaaDoorMk
import Derived.Deep.CutBlock
import Derived.Deep.DeepCutAuto
namespace Go.Proofs.YtcogjlfdhiomnaaDoor
open Go.RowKit
set_option linter.unusedVariables false
set_option maxRecDepth 100000
section
variable {P : Program} {ops : Array Oper} {rest : List Oper} {o : Oper} {a : Act} {w : World} {Q : Exit → Act → World → Prop} {x y u : Operand} {t t2 t3 : TypeId} {z c d m : Int}
theorem op_min3 {ev : Operand → Value} (ho : o.op = .call { callee := .builtin .min, args := #[x, y, u], argTypes := #[t, t2, t3] }) (w : World) (hx : ev x = .int .i64 z) (hy : ev y = .int .i64 c) (hu : ev u = .int .i64 d) :
    (execOp ev o).run P w = .ok (.value (.int .i64 (min (min z c) d))) w := by
  by_cases h : z < c
  · have e : min z c = z := by omega
    rw [e]
    by_cases h2 : z < d
    · have e2 : min z d = z := by omega
      rw [e2]; simp [execOp, ho, resolve, invoke, builtin, hx, hy, hu, go_sem]; omega
    · have e2 : min z d = d := by omega
      rw [e2]; simp [execOp, ho, resolve, invoke, builtin, hx, hy, hu, go_sem]; omega
  · have e : min z c = c := by omega
    rw [e]
    by_cases h2 : c < d
    · have e2 : min c d = c := by omega
      rw [e2]; simp [execOp, ho, resolve, invoke, builtin, hx, hy, hu, go_sem]; omega
    · have e2 : min c d = d := by omega
      rw [e2]; simp [execOp, ho, resolve, invoke, builtin, hx, hy, hu, go_sem]; omega
theorem wpList_min3 (hgd : o.guard = none) (ho : o.op = .call { callee := .builtin .min, args := #[x, y, u], argTypes := #[t, t2, t3] }) (hx : a.eval x = .int .i64 z) (hy : a.eval y = .int .i64 c) (hu : a.eval u = .int .i64 d) (hm : min (min z c) d = m)
    (h : wpList P ops Q rest (a.put o.dst (.int .i64 m)) w) : wpList P ops Q (o :: rest) a w := by
  subst hm
  exact wpList_val hgd _ (op_min3 ho w hx hy hu) h
end
/-- the tapes behind k Writes. -/
def tvB (f : Nat → Nat × ByteArray) (vn : Nat → Nat) : Nat → Nat → TV
  | 0 => tv0
  | k + 1 => tvSet (tvB f vn k) (vn k) ⟨(tvB f vn k (vn k)).lab, (tvB f vn k (vn k)).er, (tvB f vn k (vn k)).es ++ [f k]⟩
section
variable (f : Nat → Nat × ByteArray) (vn : Nat → Nat)
theorem tvB_succ (k j : Nat) : tvB f vn (k + 1) j = if j = vn k then ⟨(tvB f vn k (vn k)).lab, (tvB f vn k (vn k)).er, (tvB f vn k (vn k)).es ++ [f k]⟩ else tvB f vn k j := rfl
theorem tvB_ok : ∀ k j, (tvB f vn k j).es.length ≤ k ∧ (tvB f vn k j).er = 0 ∧ (tvB f vn k j).lab = ⟨#[]⟩
  | 0, j => ⟨Nat.le_refl _, rfl, rfl⟩
  | k + 1, j => by
    rw [tvB_succ]
    by_cases h : j = vn k
    · rw [if_pos h]
      have := tvB_ok k (vn k)
      simp only [List.length_append, List.length_cons, List.length_nil]
      exact ⟨by omega, this.2⟩
    · rw [if_neg h]
      have := tvB_ok k j
      exact ⟨by omega, this.2⟩
theorem tvB_pre (i j : Nat) : ∀ d, ∃ r, (tvB f vn (i + d) j).es = (tvB f vn i j).es ++ r
  | 0 => ⟨[], by simp⟩
  | d + 1 => by
    obtain ⟨r, hr⟩ := tvB_pre i j d
    rw [← Nat.add_assoc, tvB_succ]
    by_cases h : j = vn (i + d)
    · rw [if_pos h]
      refine ⟨r ++ [f (i + d)], ?_⟩
      rw [← List.append_assoc, ← hr, h]
    · rw [if_neg h]
      exact ⟨r, hr⟩
theorem tvB_get {i n : Nat} (h : i < n) : (tvB f vn n (vn i)).es[(tvB f vn i (vn i)).es.length]? = some (f i) ∧ (tvB f vn n (vn i)).es.take (tvB f vn i (vn i)).es.length = (tvB f vn i (vn i)).es := by
  obtain ⟨r, hr⟩ := tvB_pre f vn (i + 1) (vn i) (n - (i + 1))
  rw [show i + 1 + (n - (i + 1)) = n by omega, tvB_succ, if_pos rfl] at hr
  rw [hr]
  simp
theorem tvB_at {i n : Nat} (h : i < n) : tapeAt (tvB f vn n (vn i)).lab (tvB f vn n (vn i)).es (tvB f vn i (vn i)).es.length = (tapeB (tvB f vn i (vn i)).lab (tvB f vn i (vn i)).es).length := by
  unfold tapeAt
  rw [(tvB_get f vn h).2, (tvB_ok f vn n (vn i)).2.2, (tvB_ok f vn i (vn i)).2.2]
/-- where the first k blobs begin. -/
def atsB (k : Nat) : List Value := (List.range k).map fun j => Value.int .i64 ((tapeB (tvB f vn j (vn j)).lab (tvB f vn j (vn j)).es).length : Int)
theorem atsB_succ (k : Nat) : atsB f vn (k + 1) = atsB f vn k ++ [.int .i64 ((tapeB (tvB f vn k (vn k)).lab (tvB f vn k (vn k)).es).length : Int)] := by
  unfold atsB
  rw [List.range_succ, List.map_append]
  rfl
theorem atsB_get {n k : Nat} (hk : k < n) : (atsB f vn n)[k]? = some (.int .i64 ((tapeB (tvB f vn k (vn k)).lab (tvB f vn k (vn k)).es).length : Int)) := by
  unfold atsB
  rw [List.getElem?_map, List.getElem?_range hk]
  rfl
end
/-- how many blobs are on each. -/
def cntV (t : Nat → TV) : List Value := (List.range 3).map fun j => Value.int .i64 ((t j).es.length : Int)
theorem cntV_get (t : Nat → TV) (j : Nat) (h : j ≤ 2) : (cntV t)[j]? = some (.int .i64 ((t j).es.length : Int)) := by
  unfold cntV
  rw [List.getElem?_map, List.getElem?_range (by omega)]
  rfl
theorem cntV_set (t : Nat → TV) (v : Nat) (h : v ≤ 2) (lab : ByteArray) (er : Int) (es : List (Nat × ByteArray)) : (cntV t).set v (.int .i64 (es.length : Int)) = cntV (tvSet t v ⟨lab, er, es⟩) := by
  obtain rfl | rfl | rfl : v = 0 ∨ v = 1 ∨ v = 2 := by omega
  all_goals rfl
/-- which volume. -/
def volN (z : Int) : Nat := ((z.tmod 3 + 3) % 3).toNat
theorem volN_le (z : Int) : volN z ≤ 2 ∧ (z.tmod 3 + 3) % 3 = ((volN z : Nat) : Int) ∧ z.tmod 3 % 3 = ((volN z : Nat) : Int) := by
  unfold volN
  have h1 : 0 ≤ (z.tmod 3 + 3) % 3 := Int.emod_nonneg _ (by omega)
  have h2 : (z.tmod 3 + 3) % 3 < 3 := Int.emod_lt_of_pos _ (by omega)
  have h3 : z.tmod 3 % 3 = (z.tmod 3 + 3) % 3 := by rw [Int.add_emod_right]
  omega
theorem volN_tm (z : Int) : (z.tmod 3 + 3).tmod 3 = ((volN z : Nat) : Int) := by
  have h1 := Int.lt_tmod_of_pos z (by omega : (0 : Int) < 3)
  rw [Int.tmod_eq_emod_of_nonneg (by omega)]
  exact (volN_le z).2.1
theorem tmod3_bd (z : Int) : -3 < z.tmod 3 ∧ z.tmod 3 < 3 := ⟨Int.lt_tmod_of_pos z (by omega), Int.tmod_lt_of_pos z (by omega)⟩
def entB (bs : List Bl) (j : Nat) : Nat × ByteArray := ((bs.getD j default).id, (bs.getD j default).data)
theorem entB_eq (bs : List Bl) (j : Nat) (h : j < bs.length) : entB bs j = (bs[j].id, bs[j].data) := by
  unfold entB
  rw [List.getD_eq_getElem?_getD, List.getElem?_eq_getElem h]; rfl
set_option maxHeartbeats 12000000 in
theorem libraryBlobs_walk0 (d : Int) (la : Option Addr) (len cap : Nat) (bs : List Bl) (hlen : len ≤ 9223372036854775807) (hlc : len ≤ cap) (hbl : bs.length = len) (hbs : ∀ b ∈ bs, b.ok) (va : Option Addr) (vl vc : Nat) (zs : List Int) (hzl : zs.length = vl) (hvl : vl ≤ 9223372036854775807) (hzb : ∀ z ∈ zs, -9223372036854775808 ≤ z ∧ z ≤ 9223372036854775807) (w : World) (hBA : ∀ i (hi : i < bs.length), BlAt (wpart w) la i bs[i]) (hZ : Rd (wpart w) va (zs.map (Value.int .i64))) (hT : Rd (wpart w) (some ⟨0, 0, none⟩) tabV) :
    Calls Tryd.prog 9 #[.int .i64 d, .slice la len cap, .slice va vl vc] w (RetB (.bool true) w.heap.size w) := by
  have H0 := hid (Sat.start w)
  by_cases hd1 : d < 1
  · clear hBA hZ hT hzb hbs
    go_enter Tryd.func9, Tryd.ntmps9
    go_wp2_with fail
    refine (lawake_sat H0.out).mono ?_; rintro e w1 ⟨rfl, S1⟩
    have H1 := hid S1
    clear S1
    go_wp2_with fail
    refine (lawake_sat H1.out).mono ?_; rintro e w2 ⟨rfl, S2⟩
    have H2 := hid S2
    clear S2
    go_wp2_with fail
    go_ret
    exact ⟨rfl, H2.out.toBelow (Part.le_refl _)⟩
  by_cases hd3 : 3 < d
  · clear hBA hZ hT hzb hbs
    go_enter Tryd.func9, Tryd.ntmps9
    go_wp2_with fail
    refine (lawake_sat H0.out).mono ?_; rintro e w1 ⟨rfl, S1⟩
    have H1 := hid S1
    clear S1
    go_wp2_with fail
    refine (lawake_sat H1.out).mono ?_; rintro e w2 ⟨rfl, S2⟩
    have H2 := hid S2
    clear S2
    go_wp2_with fail
    go_ret
    exact ⟨rfl, H2.out.toBelow (Part.le_refl _)⟩
  have HT0 := hid hT
  have HBA0 := hid hBA
  have HBS := hid hbs
  have HZ0 := hid hZ
  have HZB := hid hzb
  have HZL := hid hzl
  obtain ⟨n, hn⟩ : ∃ n, min (min len vl) 6 = n := ⟨_, rfl⟩
  have hn6 : n ≤ 6 := by omega
  have hnl : n ≤ len := by omega
  have hnv : n ≤ vl := by omega
  have hnb : n ≤ bs.length := by omega
  have HMIN := hid (show min (min (len : Int) (vl : Int)) 6 = (n : Int) by omega)
  obtain ⟨m, hm⟩ : ∃ m : Nat, (m : Int) = min (max d 0) 3 ∧ 0 < m := ⟨d.toNat, by omega⟩
  have HM := hid hm
  obtain ⟨vn, hvn⟩ : ∃ vn : Nat → Nat, vn = fun j => volN (zs.getD j 0) := ⟨_, rfl⟩
  obtain ⟨f, hf⟩ : ∃ f, entB bs = f := ⟨_, rfl⟩
  have HVN := hid (fun j => (by rw [hvn]; exact (volN_le _).1 : vn j ≤ 2))
  have HVE := hid (fun j (hj : j < zs.length) => (by rw [hvn]; show volN (zs.getD j 0) = _; rw [List.getD_eq_getElem?_getD, List.getElem?_eq_getElem hj]; rfl : vn j = volN zs[j]))
  have HF := hid (fun j (hj : j < bs.length) => (by rw [← hf]; exact entB_eq bs j hj : f j = (bs[j].id, bs[j].data)))
  have HTV := hid (tvB_ok f vn)
  clear hBA hZ hT hzb hbs hm hvn hf hn hzl
  go_enter Tryd.func9, Tryd.ntmps9
  go_wp2_with fail
  refine (lawake_sat H0.out).mono ?_; rintro e w1 ⟨rfl, S1⟩
  obtain ⟨g, hg⟩ := S1.sizeEx
  obtain ⟨J, hJ, S2, hrd⟩ := (S1.alloc (b := g) (T := 3) (cs := [.int .i64 20000, .int .i64 20000, .int .i64 20000]) rfl hg.symm).freezeBlk
  have HJ := hid hJ
  have HT := hid (HT0.out.mono hJ)
  have HZ := hid (HZ0.out.mono hJ)
  have HR := hid (show Rd J (some ⟨g, 0, none⟩) ([20000, 20000, 20000].map (Value.int .i64)) from hrd)
  have H2 := hid S2
  clear S1 S2 hrd hJ H0 HT0 HZ0
  go_wp2_with fail
  try rw [hg]
  refine (lnew_sat (some ⟨g, 0, none⟩) 3 3 [20000, 20000, 20000] d m HM.out.1 rfl HR.out (by simp) (by omega) H2.out).mono ?_; rintro e w3 ⟨q, ps, rfl, hps, S3⟩
  have S4 := Sat.libVnew (room := 20000) (n := 3) (m := m) HM.out.2 hps (by omega) S3
  obtain ⟨p0, p1, p2, rfl⟩ : ∃ a b c, ps = [a, b, c] := by
    match ps, hps with
    | [a, b, c], _ => exact ⟨a, b, c, rfl⟩
  obtain ⟨PS, hPS⟩ : ∃ l, [p0, p1, p2] = l := ⟨_, rfl⟩
  have hget : ∀ v : Nat, v ≤ 2 → ∃ p, PS[v]? = some p := fun v hv => by
    rw [← hPS]
    obtain rfl | rfl | rfl : v = 0 ∨ v = 1 ∨ v = 2 := by omega
    · exact ⟨_, rfl⟩
    · exact ⟨_, rfl⟩
    · exact ⟨_, rfl⟩
  rw [hPS] at S4
  have HGET := hid hget
  obtain ⟨ga, hga⟩ := S4.sizeEx
  have S5 := (S4.alloc (b := ga) (T := 3) (cs := []) rfl hga.symm).emptyRow 1
  have H5 := hid S5
  clear S3 S4 S5 H2 HR hps hPS hget hg
  go_wp2_with (first | (refine wpList_min3 (o := ⟨some 41, _, _, _, _, _⟩) rfl rfl rfl rfl rfl HMIN.out ?_) | (at_make; refine wpList_makeInts rfl _ _ rfl 3 rfl rfl rfl rfl (by omega) H5.out ?_; intro gc w6 S6))
  try rw [hga]
  have H6 := hid (show Sat w J [row 3 1 (.slice (some ⟨gc, 0, none⟩) 3 3) 3 (cntV (tvB f vn 0)), row 3 1 (.slice (some ⟨ga, 0, none⟩) 0 0) 0 (atsB f vn 0), libV 20000 q 0 PS (tvB f vn 0)] w6 from S6)
  clear S6 H5 hga
  go_loopw [9, 11, 12, 13, 14] (fun sl i _ _ _ wr => ∃ (k : Nat) (sv : Value), k ≤ n ∧ sl = sv ∧ i = .int .i64 (k : Int) ∧ Sat w J [row 3 1 (.slice (some ⟨gc, 0, none⟩) 3 3) 3 (cntV (tvB f vn k)), row 3 1 sv k (atsB f vn k), libV 20000 q k PS (tvB f vn k)] wr) (fun _ i _ _ _ _ => 10 - (intOf i).toNat)
  case atStart => exact ⟨0, _, Nat.zero_le _, rfl, rfl, H6.out⟩
  case round =>
    clear H6
    obtain ⟨k, sv, hk, rfl, rfl, Sr⟩ := hrel
    obtain ⟨ad, cp, rfl, q1, q2⟩ := own_shape Sr.swap.isRow
    have HS := hid (Sr.pick 2)
    clear Sr
    by_cases hlt : k < n
    · have hkn : (k : Int) < (n : Int) := by omega
      have hkl : (k : Int) < (len : Int) := by omega
      have hkv : (k : Int) < (vl : Int) := by omega
      have hk0 : (0 : Int) ≤ (k : Int) := by omega
      have hkb : k < bs.length := by omega
      have hkz : k < zs.length := by have := HZL.out; omega
      have hget := HBA0.out k hkb
      have bok := HBS.out bs[k] (List.getElem_mem _)
      have hfk := HF.out k hkb
      obtain ⟨x, hx⟩ : ∃ x, bs[k] = x := ⟨_, rfl⟩
      rw [hx] at hget bok hfk
      obtain ⟨D, hD⟩ : ∃ D, longS x.s x.n = D := ⟨_, rfl⟩
      have hfk2 : f k = (x.id, D) := by rw [hfk, ← hD]; rfl
      have hDs : D.size ≤ 600 := by rw [← hD]; exact longS_size _ _
      obtain ⟨b4, o4, rfl, cz⟩ := HZ.out.get HS.out k (u := .int .i64 zs[k]) (by rw [List.getElem?_map, List.getElem?_eq_getElem hkz]; rfl)
      have hv := HVE.out k hkz
      have hzw := HZB.out zs[k] (List.getElem_mem _)
      obtain ⟨z, hz⟩ : ∃ z, zs[k] = z := ⟨_, rfl⟩
      rw [hz] at cz hv hzw
      obtain ⟨g0, off, hla, e0, e1, e2⟩ := hget
      obtain ⟨v, hv0⟩ : ∃ v, vn k = v := ⟨_, rfl⟩
      obtain ⟨t1, t2⟩ := tmod3_bd z
      obtain ⟨hv2, t3, t4⟩ := volN_le z
      rw [← hv, hv0] at hv2 t3 t4
      have HT3 := hid t3
      clear t3 t4
      have hes : tvB f vn (k + 1) = tvSet (tvB f vn k) v ⟨(tvB f vn k v).lab, (tvB f vn k v).er, (tvB f vn k v).es ++ [(x.id, D)]⟩ := by
        rw [← hv0, ← hfk2]; rfl
      have OK1 := hid (show okE (x.id, D) from ⟨bok.id, hDs⟩)
      have hlen10 : (tvB f vn k v).es.length ≤ 10 := by have := (HTV.out k v).1; omega
      obtain ⟨pk, hpk⟩ := HGET.out v hv2
      obtain ⟨F, hF⟩ : ∃ F : Int, ((tapeB (tvB f vn k v).lab (tvB f vn k v).es).length : Int) = F := ⟨_, rfl⟩
      have hats : atsB f vn (k + 1) = atsB f vn k ++ [.int .i64 F] := by rw [atsB_succ, hv0, hF]
      obtain ⟨M, hM⟩ : ∃ M : Nat, (tvB f vn k v).es.length = M := ⟨_, rfl⟩
      have hcg : (cntV (tvB f vn k))[v]? = some (.int .i64 (M : Int)) := by rw [cntV_get _ _ hv2, hM]
      have hcs : (cntV (tvB f vn k)).set v (.int .i64 ((M : Int) + 1)) = cntV (tvB f vn (k + 1)) := by
        rw [hes]
        have := cntV_set (tvB f vn k) v hv2 (tvB f vn k v).lab (tvB f vn k v).er ((tvB f vn k v).es ++ [(x.id, D)])
        rw [← this]
        congr 2
        simp [hM]
      have c0 := (HS.out.thaw HJ.out).atI e0
      have c1 := (HS.out.thaw HJ.out).atI e1
      have c2 := (HS.out.thaw HJ.out).atI e2
      subst hla
      have HES := hid hes
      have HD := hid hD
      have BOK := hid bok
      have E0 := hid e0
      have L10 := hid hlen10
      have HPK := hid hpk
      have HFF := hid hF
      have HATS := hid hats
      have HCG := hid hcg
      have HCS := hid hcs
      have hM6 : M ≤ 6 := by have := (HTV.out k v).1; omega
      have hv0' : (0 : Int) ≤ (v : Int) := by omega
      have hv3 : (v : Int) < 3 := by omega
      clear hx hes hD hDs bok e0 e1 e2 hlen10 hpk hF hfk hfk2 hats hcg hcs hz hv hv0 hM
      go_wp2_with fail
      rw [HT3.out]
      go_upto_region 11 with fail
      go_cut [13, 14] (fun t u wx => t = .int .i64 F ∧ u = .int .i64 0 ∧ Sat w J [libV 20000 q (k + 1) PS (tvB f vn (k + 1)), row 3 1 (.slice (some ⟨gc, 0, none⟩) 3 3) 3 (cntV (tvB f vn k)), row 3 1 (.slice ad k cp) k (atsB f vn k)] wx)
      case first =>
        go_region_with (first
          | (go_at_call 13; refine (long_sat x.s x.n BOK.out.s BOK.out.n HD.out HS.out.drew).mono ?_; rintro e w7 ⟨rfl, S7⟩; have d0 := (S7.thaw HJ.out).atI E0.out; have H7 := hid S7; clear S7)
          | (go_at_call 30; refine (lwriteV HT.out (by omega) HPK.out rfl x.id D OK1.out L10.out HFF.out H7.out).mono ?_; rintro e w8 ⟨rfl, S8⟩; have H8 := hid S8; clear S8))
        all_goals
          go_wp2_with fail
          go_meet
          refine ⟨rfl, rfl, ?_⟩
          rw [HES.out]
          exact H8.out
      case rest =>
        obtain ⟨rfl, rfl, S8⟩ := hcut
        have H8 := hid (S8.pick 2)
        clear S8 HS c0 c1 c2 cz
        go_wp2_with (at_builtin; refine wpList_appS slInt rfl _ _ rfl H8.out [.int .i64 F] rfl rfl rfl rfl ?h1 ?hb ?hn ?_)
        case h1 => intro u hu; simp at hu; subst hu; rfl
        case hb => omega
        case hn => omega
        intro ad2 cp2 w9 hc1 hc2 S9
        rw [← HATS.out] at S9
        have S10 := S9.pick 2
        have cc := own_cell S10.isRow v HCG.out
        have fc := own_frozen S10.isRow v
        have hw1 : IntKind.i64.wrap ((M : Int) + 1) = (M : Int) + 1 := IntWalk.i64_in _ (by omega)
        have S11 := S10.rowSet v (.int .i64 ((M : Int) + 1))
        rw [HCS.out] at S11
        have H11 := hid S11
        clear S9 S10 S11 H8
        go_wp2_with fail
        go_roundw
        case rel => exact ⟨k + 1, _, by omega, rfl, by go_num, H11.out.pick 1 |>.swap⟩
        case measure => simp [intOf]; omega
    · obtain rfl : k = n := by omega
      have hkk : ¬ (k : Int) < (k : Int) := by omega
      obtain ⟨J2, a4, c4, hJ2, S5, hv, hc1, hc2, _, hat⟩ := (HS.out.pick 2).freezeRow
      cases hv
      have HAT := hid hat
      have HT2 := hid (HT.out.mono hJ2)
      have HZ2 := hid (HZ.out.mono hJ2)
      have HJ2 := hid (Part.le_trans HJ.out hJ2)
      have H5 := hid S5
      clear hat hJ2 S5 HS
      go_wp2_with fail
      go_loopw [15, 16, 17] (fun i _ _ wr => ∃ j : Nat, j ≤ k ∧ i = .int .i64 (j : Int) ∧ Sat w J2 [libV 20000 q (k + j) PS (tvB f vn k), row 3 1 (.slice (some ⟨gc, 0, none⟩) 3 3) 3 (cntV (tvB f vn k))] wr) (fun i _ _ _ => 10 - (intOf i).toNat)
      case atStart => exact ⟨0, Nat.zero_le _, rfl, H5.out⟩
      case round =>
        clear H5
        obtain ⟨j, hj, rfl, Sr⟩ := hrel
        have HS := hid Sr
        clear Sr
        by_cases hlt : j < k
        · have hjk : (j : Int) < (k : Int) := by omega
          have hjl : (j : Int) < (len : Int) := by omega
          have hjv : (j : Int) < (vl : Int) := by omega
          have hj0 : (0 : Int) ≤ (j : Int) := by omega
          have hjb : j < bs.length := by omega
          have hjz : j < zs.length := by have := HZL.out; omega
          obtain ⟨g0, off, hla, e0, e1, e2⟩ := HBA0.out j hjb
          have bok := HBS.out bs[j] (List.getElem_mem _)
          have hfj := HF.out j hjb
          obtain ⟨D, hD⟩ : ∃ D, longS bs[j].s bs[j].n = D := ⟨_, rfl⟩
          have hfj2 : f j = (bs[j].id, D) := by rw [hfj, ← hD]; rfl
          obtain ⟨x, hx⟩ : ∃ x, bs[j] = x := ⟨_, rfl⟩
          rw [hx] at e0 e1 e2 bok hD hfj2
          have hzg : (zs.map (Value.int .i64))[j]? = some (.int .i64 zs[j]) := by rw [List.getElem?_map, List.getElem?_eq_getElem hjz]; rfl
          have hv := HVE.out j hjz
          have hzw := HZB.out zs[j] (List.getElem_mem _)
          obtain ⟨z, hz⟩ : ∃ z, zs[j] = z := ⟨_, rfl⟩
          rw [hz] at hzg hv hzw
          obtain ⟨v, hv0⟩ : ∃ v, vn j = v := ⟨_, rfl⟩
          obtain ⟨t1, t2⟩ := tmod3_bd z
          obtain ⟨hv2, t3, t4⟩ := volN_le z
          have t5 := volN_tm z
          rw [← hv, hv0] at hv2 t3 t4 t5
          have HT3 := hid t3
          have HT5 := hid t5
          have hw3 : IntKind.i64.wrap (z.tmod 3 + 3) = z.tmod 3 + 3 := IntWalk.i64_in _ (by omega)
          clear t3 t4 t5
          have hgt := (tvB_get f vn (i := j) (n := k) hlt).1
          have hta := tvB_at f vn (i := j) (n := k) hlt
          rw [hv0] at hgt hta
          rw [hfj2] at hgt
          obtain ⟨A, hA⟩ : ∃ A, (tapeB (tvB f vn j v).lab (tvB f vn j v).es).length = A := ⟨_, rfl⟩
          rw [hA] at hta
          have hag := atsB_get f vn hlt
          rw [hv0, hA] at hag
          obtain ⟨pk, hpk⟩ := HGET.out v hv2
          subst hla
          obtain ⟨b4, o4, rfl, v4⟩ := HAT.out.get HS.out j hag
          obtain ⟨b5, o5, rfl, v5⟩ := HZ2.out.get HS.out j hzg
          have c0 := (HS.out.thaw HJ2.out).atI e0
          have E0 := hid e0
          have E1 := hid e1
          have E2 := hid e2
          have HD := hid hD
          have BOK := hid bok
          have HGT := hid hgt
          have HTA := hid hta
          have HPK := hid hpk
          clear hx hD bok e0 e1 e2 hgt hta hag hzg hz hv hv0 hfj hfj2 hpk hA
          go_wp2_with fail
          go_upto_region 19 with fail
          go_cut [16, 17] (fun t u wx => t = .string D ∧ u = .int .i64 0 ∧ Sat w J2 [libV 20000 q (k + j + 1) PS (tvB f vn k), row 3 1 (.slice (some ⟨gc, 0, none⟩) 3 3) 3 (cntV (tvB f vn k))] wx)
          case first =>
            go_region_with ((go_at_call 33; refine (lreadV HT2.out (by omega) HPK.out (by first | exact HT5.out | exact HT3.out) _ HGT.out HTA.out HS.out.drew).mono ?_; rintro e w8 ⟨rfl, hS8⟩; have H8 := hid hS8; clear hS8))
            all_goals
              go_wp2_with fail
              go_meet
              exact ⟨rfl, rfl, H8.out⟩
          case rest =>
            obtain ⟨rfl, rfl, S8⟩ := hcut
            have c1 := (S8.thaw HJ2.out).atI E1.out
            have c2 := (S8.thaw HJ2.out).atI E2.out
            have H8 := hid S8
            clear HS S8 c0 v4 v5
            go_wp2_with fail
            go_quiet ((go_at_call 13; exact Calls.quiet_of (long_q _ x.s x.n BOK.out.s BOK.out.n HD.out)))
            go_wp2_with fail
            go_roundw
            case rel => exact ⟨j + 1, by omega, by go_num, H8.out.drewN _⟩
            case measure => simp [intOf]; omega
        · obtain rfl : j = k := by omega
          have hjk : ¬ (j : Int) < (j : Int) := by omega
          go_wp2_with fail
          go_loopw [18, 19, 20, 135] (fun _ _ _ i wr => ∃ v : Nat, v ≤ 3 ∧ i = .int .i64 (v : Int) ∧ Sat w J2 [libV 20000 q (j + j + v) PS (tvB f vn j), row 3 1 (.slice (some ⟨gc, 0, none⟩) 3 3) 3 (cntV (tvB f vn j))] wr) (fun _ _ _ i _ => 10 - (intOf i).toNat)
          case atStart => exact ⟨0, Nat.zero_le _, rfl, HS.out⟩
          case round =>
            clear HS
            obtain ⟨v, hv, rfl, Sr⟩ := hrel
            have HS := hid Sr
            clear Sr
            by_cases hlt : v < 3
            · obtain ⟨pk, hpk⟩ := HGET.out v (by omega)
              obtain ⟨M, hM⟩ : ∃ M, (tvB f vn j v).es.length = M := ⟨_, rfl⟩
              have hcg : (cntV (tvB f vn j))[v]? = some (.int .i64 (M : Int)) := by rw [cntV_get _ _ (by omega), hM]
              have HPK := hid hpk
              have HM2 := hid hM
              have HCG := hid hcg
              have hM6 : M ≤ 6 := by have := (HTV.out j v).1; omega
              have hv3 : (v : Int) < 3 := by omega
              have hv0 : (0 : Int) ≤ (v : Int) := by omega
              clear hpk hM hcg
              go_wp2_with fail
              refine (lscanV HT2.out (by omega) HPK.out rfl HM2.out HS.out).mono ?_; rintro e w9 ⟨ad9, cp9, rfl, d1, d2, S9⟩
              have cc := own_cell S9.swap.isRow v HCG.out
              have H9 := hid S9
              clear S9 HS
              go_wp2_with fail
              go_roundw
              case rel => exact ⟨v + 1, by omega, by go_num, H9.out⟩
              case measure => simp [intOf]; omega
            · obtain rfl : v = 3 := by omega
              obtain ⟨pk, hpk⟩ := HGET.out 0 (by omega)
              have HPK := hid hpk
              have HER := hid (show (tvB f vn j 0).er ≤ 900000 by have := (HTV.out j 0).2.1; omega)
              obtain ⟨NW, hNW⟩ : ∃ l : ByteArray, (⟨#[110, 101, 119]⟩ : ByteArray) = l := ⟨_, rfl⟩
              have hNWs : NW.size = 3 := by subst hNW; rfl
              have L32 := hid (show NW.size ≤ 32 by omega)
              clear hpk hNWs
              go_wp2_with fail
              refine (leraseV (by omega) HPK.out (V := 0) rfl HER.out L32.out HS.out).mono ?_; rintro e w9 ⟨rfl, S9⟩
              have H9 := hid S9
              clear S9 HS
              go_wp2_with fail
              refine (lscanV HT2.out (by omega) HPK.out (V := 0) rfl (M := 0) (by rw [tvSet_eq]; rfl) H9.out).mono ?_; rintro e w10 ⟨ad9, cp9, rfl, d1, d2, S10⟩
              have H10 := hid S10
              clear S10 H9
              go_wp2_with fail
              refine (lvolV HPK.out (V := 0) rfl H10.out).mono ?_; rintro e w11 ⟨rfl, S11⟩
              have H11 := hid S11
              clear S11 H10
              go_wp2_with fail
              refine (llabelV HPK.out (B := NW) (by rw [tvSet_eq]) H11.out).mono ?_; rintro e w12 ⟨rfl, S12⟩
              have H12 := hid S12
              clear S12 H11
              go_wp2_with fail
              go_ret
              exact ⟨rfl, H12.out.toBelow HJ2.out⟩
theorem libraryBlobs_walk (d : Int) (la : Option Addr) (len cap : Nat) (va : Option Addr) (vl vc : Nat) (w : World) (hT : Rd (wpart w) (some ⟨0, 0, none⟩) tabV) (hw0 : (Lit.int .i64 d).wf = true) (hl : OkT Tryd.prog w 6 43 [.slice la len cap]) (hc : OkT Tryd.prog w 6 44 [.slice va vl vc]) :
    Calls Tryd.prog 9 #[.int .i64 d, .slice la len cap, .slice va vl vc] w (RetB (.bool true) w.heap.size w) := by
  obtain ⟨h1, h2, h3, bs, e1, e2, e3⟩ := okT_blobs hl
  obtain ⟨k1, k2, zs, k3, k4, k5⟩ := okT_intl hc
  exact libraryBlobs_walk0 d la len cap bs h1 h2 e1 e2 va vl vc zs k3 (by omega) k5 w e3 k4 hT
end Go.Proofs.YtcogjlfdhiomnaaDoor
