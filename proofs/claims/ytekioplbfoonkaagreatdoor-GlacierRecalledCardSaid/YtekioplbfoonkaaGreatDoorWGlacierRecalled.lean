/- GlacierRecalled: blobs that are waited for at once are read with few mounts: walked. -/
import Derived.Test.YtekioplbfoonkaaGreatDoorLibK
import Derived.Test.YtekioplbfoonkaaGreatDoorLive
import Derived.Test.YtekioplbfoonkaaGreatDoorQMem
import Derived.Test.YtekioplbfoonkaaGreatDoorRecP
import Derived.Test.YtekioplbfoonkaaGreatDoorMg6
import Derived.Deep.CutBlock
import Derived.Deep.DeepCutAuto
namespace Go.Proofs.YtekioplbfoonkaaGreatDoor
open Go.RowKit
set_option linter.unusedVariables false
set_option maxRecDepth 100000
section
variable {P : Program} {ops : Array Oper} {rest : List Oper} {o : Oper} {a : Act} {w : World} {Q : Exit → Act → World → Prop} {x y u : Operand} {t t2 t3 : TypeId} {z c d m : Int}
theorem op_min3 {ev : Operand → Value} (ho : o.op = .call { callee := .builtin .min, args := #[x, y, u], argTypes := #[t, t2, t3] }) (w : World) (hx : ev x = .int .i64 z) (hy : ev y = .int .i64 c) (hu : ev u = .int .i64 d) :
    (execOp ev o).run P w = .ok (.value (.int .i64 (min (min z c) d))) w := by
  by_cases h : z < c
  · have e : min z c = z := by omega
    rw [e]
    by_cases h2 : z < d
    · have e2 : min z d = z := by omega
      rw [e2]; simp [execOp, ho, resolve, invoke, builtin, hx, hy, hu, go_sem]; omega
    · have e2 : min z d = d := by omega
      rw [e2]; simp [execOp, ho, resolve, invoke, builtin, hx, hy, hu, go_sem]; omega
  · have e : min z c = c := by omega
    rw [e]
    by_cases h2 : c < d
    · have e2 : min c d = c := by omega
      rw [e2]; simp [execOp, ho, resolve, invoke, builtin, hx, hy, hu, go_sem]; omega
    · have e2 : min c d = d := by omega
      rw [e2]; simp [execOp, ho, resolve, invoke, builtin, hx, hy, hu, go_sem]; omega
theorem wpList_min3 (hgd : o.guard = none) (ho : o.op = .call { callee := .builtin .min, args := #[x, y, u], argTypes := #[t, t2, t3] }) (hx : a.eval x = .int .i64 z) (hy : a.eval y = .int .i64 c) (hu : a.eval u = .int .i64 d) (hm : min (min z c) d = m)
    (h : wpList P ops Q rest (a.put o.dst (.int .i64 m)) w) : wpList P ops Q (o :: rest) a w := by
  subst hm
  exact wpList_val hgd _ (op_min3 ho w hx hy hu) h
end
/-- the tapes behind k Writes. -/
def tvB (f : Nat → Nat × ByteArray) (vn : Nat → Nat) : Nat → Nat → TV
  | 0 => tv0
  | k + 1 => tvSet (tvB f vn k) (vn k) ⟨(tvB f vn k (vn k)).lab, (tvB f vn k (vn k)).er, (tvB f vn k (vn k)).es ++ [f k]⟩
section
variable (f : Nat → Nat × ByteArray) (vn : Nat → Nat)
theorem tvB_succ (k j : Nat) : tvB f vn (k + 1) j = if j = vn k then ⟨(tvB f vn k (vn k)).lab, (tvB f vn k (vn k)).er, (tvB f vn k (vn k)).es ++ [f k]⟩ else tvB f vn k j := rfl
theorem tvB_ok : ∀ k j, (tvB f vn k j).es.length ≤ k ∧ (tvB f vn k j).er = 0 ∧ (tvB f vn k j).lab = ⟨#[]⟩
  | 0, j => ⟨Nat.le_refl _, rfl, rfl⟩
  | k + 1, j => by
    rw [tvB_succ]
    by_cases h : j = vn k
    · rw [if_pos h]
      have := tvB_ok k (vn k)
      simp only [List.length_append, List.length_cons, List.length_nil]
      exact ⟨by omega, this.2⟩
    · rw [if_neg h]
      have := tvB_ok k j
      exact ⟨by omega, this.2⟩
theorem tvB_pre (i j : Nat) : ∀ d, ∃ r, (tvB f vn (i + d) j).es = (tvB f vn i j).es ++ r
  | 0 => ⟨[], by simp⟩
  | d + 1 => by
    obtain ⟨r, hr⟩ := tvB_pre i j d
    rw [← Nat.add_assoc, tvB_succ]
    by_cases h : j = vn (i + d)
    · rw [if_pos h]
      refine ⟨r ++ [f (i + d)], ?_⟩
      rw [← List.append_assoc, ← hr, h]
    · rw [if_neg h]
      exact ⟨r, hr⟩
theorem tvB_get {i n : Nat} (h : i < n) : (tvB f vn n (vn i)).es[(tvB f vn i (vn i)).es.length]? = some (f i) ∧ (tvB f vn n (vn i)).es.take (tvB f vn i (vn i)).es.length = (tvB f vn i (vn i)).es := by
  obtain ⟨r, hr⟩ := tvB_pre f vn (i + 1) (vn i) (n - (i + 1))
  rw [show i + 1 + (n - (i + 1)) = n by omega, tvB_succ, if_pos rfl] at hr
  rw [hr]
  simp
theorem tvB_at {i n : Nat} (h : i < n) : tapeAt (tvB f vn n (vn i)).lab (tvB f vn n (vn i)).es (tvB f vn i (vn i)).es.length = (tapeB (tvB f vn i (vn i)).lab (tvB f vn i (vn i)).es).length := by
  unfold tapeAt
  rw [(tvB_get f vn h).2, (tvB_ok f vn n (vn i)).2.2, (tvB_ok f vn i (vn i)).2.2]
/-- where blob j begins. -/
def frB (j : Nat) : Nat := (tapeB (tvB f vn j (vn j)).lab (tvB f vn j (vn j)).es).length
/-- the first k requests. -/
def reqs (k : Nat) : List Wt := (List.range k).map fun (j : Nat) => (⟨(j : Int), (j : Int), ((vn j : Nat) : Int), ((frB f vn j : Nat) : Int), 0⟩ : Wt)
theorem reqs_succ (k : Nat) : reqs f vn (k + 1) = reqs f vn k ++ [⟨(k : Int), (k : Int), (vn k : Int), (frB f vn k : Int), 0⟩] := by
  unfold reqs
  rw [List.range_succ, List.map_append]
  rfl
theorem reqs_len (k : Nat) : (reqs f vn k).length = k := by simp [reqs]
theorem reqs_find (k : Nat) : findF (k : Int) (reqs f vn k) 0 < 0 := by
  have h := (findF_ge (k : Int) (reqs f vn k) 0).2
  have key : ∀ (l : List Wt) (i : Nat), (∀ y ∈ l, y.id ≠ (k : Int)) → findF (k : Int) l i = -1 := by
    intro l
    induction l with
    | nil => intro i _; rfl
    | cons x r ih =>
      intro i hl
      rw [findF, if_neg (hl x (by simp))]
      exact ih (i + 1) fun y hy => hl y (by simp [hy])
  rw [key (reqs f vn k) 0 fun y hy => ?_]
  · omega
  · unfold reqs at hy
    obtain ⟨j, hj, rfl⟩ := List.mem_map.1 hy
    have := List.mem_range.1 hj
    show (j : Int) ≠ (k : Int)
    omega
theorem choose_g (x0 : Wt) (r : List Wt) (vol at_ : Int) : ∃ (i : Nat) (x : Wt), chooseF x0 (x0 :: r) vol at_ = i ∧ (x0 :: r)[i]? = some x := by
  obtain ⟨h1, h2⟩ := chooseF_rng x0 r vol at_
  obtain ⟨i, hi⟩ := Int.eq_ofNat_of_zero_le h1
  exact ⟨i, (x0 :: r)[i]'(by omega), hi, List.getElem?_eq_getElem _⟩
/-- a request that is still waited for is one of those. -/
structure Waits (n r : Nat) (y : Wt) : Prop where
  one : ∃ i, i < n ∧ y.id = (i : Int) ∧ y.blob = (i : Int) ∧ y.vol = (vn i : Int) ∧ y.at_ = (frB f vn i : Int)
  lo : 0 ≤ y.passed
  hi : y.passed ≤ (r : Int)
theorem waits_start (n : Nat) : ∀ y ∈ reqs f vn n, Waits f vn n 0 y := by
  intro y hy
  unfold reqs at hy
  obtain ⟨j, hj, rfl⟩ := List.mem_map.1 hy
  exact ⟨⟨j, List.mem_range.1 hj, rfl, rfl, rfl, rfl⟩, Int.le_refl _, Int.le_refl _⟩
theorem waits_left {n r i : Nat} {l : List Wt} (h : ∀ y ∈ l, Waits f vn n r y) : ∀ y ∈ (bump i l).eraseIdx i, Waits f vn n (r + 1) y := by
  intro y hy
  obtain ⟨z, hz, h1, h2, h3, h4, h5, h6⟩ := mem_left hy
  obtain ⟨⟨j, k1, k2, k3, k4, k5⟩, k6, k7⟩ := h z hz
  exact ⟨⟨j, k1, h1.trans k2, h2.trans k3, h3.trans k4, h4.trans k5⟩, by omega, by omega⟩
end
/-- which volume. -/
def volN (z : Int) : Nat := ((z.tmod 3 + 3) % 3).toNat
theorem volN_le (z : Int) : volN z ≤ 2 ∧ (z.tmod 3 + 3) % 3 = ((volN z : Nat) : Int) ∧ z.tmod 3 % 3 = ((volN z : Nat) : Int) := by
  unfold volN
  have h1 : 0 ≤ (z.tmod 3 + 3) % 3 := Int.emod_nonneg _ (by omega)
  have h2 : (z.tmod 3 + 3) % 3 < 3 := Int.emod_lt_of_pos _ (by omega)
  have h3 : z.tmod 3 % 3 = (z.tmod 3 + 3) % 3 := by rw [Int.add_emod_right]
  omega
theorem tmod3_bd (z : Int) : -3 < z.tmod 3 ∧ z.tmod 3 < 3 := ⟨Int.lt_tmod_of_pos z (by omega), Int.tmod_lt_of_pos z (by omega)⟩
section
variable {w0 w : World} {I : Part} {L : List HP} {q k p i : Nat} {room : Int} {P Q : Lst → Prop} {ps : List Nat} {t : Nat → TV} {vol mv : Int}
theorem Sat.libOneNew {n : Nat} (hl : ps.length = n) (hr : 10000 ≤ room ∧ room ≤ 1000000) (H : Sat w0 I (libp q ⟨ps.zip ((List.replicate n room).map vNew), List.replicate 1 ⟨-1, 0, 0, false⟩, 0, 0⟩ :: L) w) : Sat w0 I (libP room q (One (-1) 0 0) ps tv0 :: L) w := by
  refine Sat.toLibV ⟨by simp [hl], fun j hj h2 => ?_⟩ ⟨⟨0, rfl⟩, rfl, Int.le_refl _, Int.le_refl _, Int.le_refl _, Int.le_refl _⟩ H
  refine ⟨0, ⟨by show (⟨#[]⟩ : ByteArray).size ≤ 32; decide, by show (0 : Int) ≤ 0 ∧ (0 : Int) ≤ 1000000; omega, hr, fun e he => (by cases he), by show (0 : Nat) ≤ 11; omega, Nat.zero_le _, Nat.zero_le _⟩, ?_⟩
  simp only [List.getElem_zip, List.getElem_map, List.getElem_replicate]
  have e : max room 0 = room := by omega
  show (ps[j], vNew room) = (ps[j], tpv ⟨#[]⟩ 0 room [] 0 0)
  unfold vNew tpv lv
  rw [e]; rfl
theorem lmovesP (H : Sat w0 I (libP room q (One vol mv k) ps t :: L) w) :
    Calls Tryz.prog 12 #[.pointer (some ⟨q, 0, none⟩)] w fun e w' => e = .returned (.int .i64 mv) ∧ Sat w0 I (libP room q (One vol mv k) ps t :: L) w' := by
  obtain ⟨S, hvs, h1, H1⟩ := H.libVo
  exact (lmoves_sat h1.moves H1).mono fun e w' ⟨h2, h3⟩ => ⟨h2, Sat.toLibV hvs h1 h3⟩
theorem latP (hp : ps[i]? = some p) (H : Sat w0 I (libP room q P ps t :: L) w) :
    Calls Tryz.prog 16 #[.pointer (some ⟨p, 0, none⟩)] w fun e w' => ∃ a : Nat, a ≤ 1000000 ∧ e = .returned (.int .i64 (a : Int)) ∧ Sat w0 I (libP room q P ps t :: L) w' := by
  obtain ⟨M, a, htp, H1, hb⟩ := H.libVvol hp
  have h1 := htp.hat
  have h2 := (tape_snoc htp.hlab (t i).es htp.hes (by have := htp.hlen; omega)).2.2
  have h3 := htp.hlen
  exact (vat H1).mono fun e w' ⟨k1, k2⟩ => ⟨a, by omega, k1, hb w' k2⟩
end
set_option maxHeartbeats 12000000 in
theorem glacierRecalled_walk0 (la : Option Addr) (len cap : Nat) (bs : List Bl) (hlen : len ≤ 9223372036854775807) (hlc : len ≤ cap) (hbl : bs.length = len) (hbs : ∀ b ∈ bs, b.ok) (va : Option Addr) (vl vc : Nat) (zs : List Int) (hzl : zs.length = vl) (hvl : vl ≤ 9223372036854775807) (hzb : ∀ z ∈ zs, -9223372036854775808 ≤ z ∧ z ≤ 9223372036854775807) (w : World) (hBA : ∀ i (hi : i < bs.length), BlAt (wpart w) la i bs[i]) (hZ : Rd (wpart w) va (zs.map (Value.int .i64))) (hT : Rd (wpart w) (some ⟨0, 0, none⟩) tabV) :
    Calls Tryz.prog 3 #[.slice la len cap, .slice va vl vc] w (RetB (.bool true) w.heap.size w) := by
  have H0 := hid (Sat.start w)
  have HT0 := hid hT
  have HBA0 := hid hBA
  have HBS := hid hbs
  have HZ0 := hid hZ
  have HZB := hid hzb
  have HZL := hid hzl
  obtain ⟨n, hn⟩ : ∃ n, min (min len vl) 8 = n := ⟨_, rfl⟩
  have hn8 : n ≤ 8 := by omega
  have hnl : n ≤ len := by omega
  have hnv : n ≤ vl := by omega
  have hnb : n ≤ bs.length := by omega
  have HMIN := hid (show min (min (len : Int) (vl : Int)) 8 = (n : Int) by omega)
  obtain ⟨vn, hvn⟩ : ∃ vn : Nat → Nat, vn = fun j => volN (zs.getD j 0) := ⟨_, rfl⟩
  obtain ⟨f, hf⟩ : ∃ f : Nat → Nat × ByteArray, f = fun j => (j, (bs.getD j default).data) := ⟨_, rfl⟩
  have HVN := hid (fun j => (by rw [hvn]; exact (volN_le _).1 : vn j ≤ 2))
  have HVE := hid (fun j (hj : j < zs.length) => (by rw [hvn]; show volN (zs.getD j 0) = _; rw [List.getD_eq_getElem?_getD, List.getElem?_eq_getElem hj]; rfl : vn j = volN zs[j]))
  have HF := hid (fun j (hj : j < bs.length) => (by rw [hf]; show (j, (bs.getD j default).data) = _; rw [List.getD_eq_getElem?_getD, List.getElem?_eq_getElem hj]; rfl : f j = (j, bs[j].data)))
  have HTV := hid (tvB_ok f vn)
  have hmm := @run_makeMap Tryz.prog
  clear hBA hZ hT hzb hbs hvn hf hn hzl
  go_enter Tryz.func3, Tryz.ntmps3
  go_wp2_with fail
  refine (live_sat HT0.out H0.out).mono ?_; rintro e w1 ⟨rfl, S1⟩
  obtain ⟨g, hg⟩ := S1.sizeEx
  obtain ⟨J, hJ, S2, hrd⟩ := (S1.alloc (b := g) (T := 3) (cs := [.int .i64 20000, .int .i64 20000, .int .i64 20000]) rfl hg.symm).freezeBlk
  have HJ := hid hJ
  have HT := hid (HT0.out.mono hJ)
  have HZ := hid (HZ0.out.mono hJ)
  have HR := hid (show Rd J (some ⟨g, 0, none⟩) ([20000, 20000, 20000].map (Value.int .i64)) from hrd)
  have H2 := hid S2
  clear S1 S2 hrd hJ H0 HT0 HZ0
  go_wp2_with fail
  try rw [hg]
  refine (lnew_sat (some ⟨g, 0, none⟩) 3 3 [20000, 20000, 20000] 1 1 (by omega) rfl HR.out (by simp) (by omega) H2.out).mono ?_; rintro e w3 ⟨q, ps, rfl, hps, S3⟩
  have S4 := Sat.libOneNew (room := 20000) (n := 3) hps (by omega) S3
  obtain ⟨p0, p1, p2, rfl⟩ : ∃ a b c, ps = [a, b, c] := by
    match ps, hps with
    | [a, b, c], _ => exact ⟨a, b, c, rfl⟩
  obtain ⟨PS, hPS⟩ : ∃ l, [p0, p1, p2] = l := ⟨_, rfl⟩
  have hget : ∀ v : Nat, v ≤ 2 → ∃ p, PS[v]? = some p := fun v hv => by
    rw [← hPS]
    obtain rfl | rfl | rfl : v = 0 ∨ v = 1 ∨ v = 2 := by omega
    · exact ⟨_, rfl⟩
    · exact ⟨_, rfl⟩
    · exact ⟨_, rfl⟩
  have hpl : PS.length ≤ 1000 := by rw [← hPS]; simp
  rw [hPS] at S4
  have HGET := hid hget
  obtain ⟨gq, hgq⟩ := S4.sizeEx
  have S5 := (S4.queNew (b := gq) hgq.symm).mapNew (b := gq + 1) (by simp [hgq])
  have H5 := hid S5
  clear S3 S4 S5 H2 HR hps hPS hget hg
  go_wp2_with (refine wpList_min3 (o := ⟨some 29, _, _, _, _, _⟩) rfl rfl rfl rfl rfl HMIN.out ?_)
  try rw [hgq]
  clear hgq
  go_loopw [9, 10, 11, 12] (fun i _ _ _ wr => ∃ (k : Nat) (vol mv : Int) (c : Nat) (seen : List Int), k ≤ n ∧ i = .int .i64 (k : Int) ∧ c ≤ k ∧ seen.length = others (reqs f vn k) (-1) ∧ (∀ v, v ∈ seen ↔ hasV (reqs f vn k) v = true) ∧ Sat w J [bmap (gq + 1) c seen, que gq (reqs f vn k), libP 20000 q (One vol mv k) PS (tvB f vn k)] wr) (fun i _ _ _ _ => 10 - (intOf i).toNat)
  case atStart => exact ⟨0, -1, 0, 0, [], Nat.zero_le _, rfl, Nat.le_refl _, by simp [reqs, others, oth, hasV], fun v => by simp [reqs, hasV], H5.out⟩
  case round =>
    clear H5 hmm
    obtain ⟨k, vol, mv, c, seen, hk, rfl, hck, hsl, hsm, Sr⟩ := hrel
    have HSL := hid hsl
    have HSM := hid hsm
    clear hsl hsm
    by_cases hlt : k < n
    · have HS := hid (Sr.pick 2)
      clear Sr
      have hkn : (k : Int) < (n : Int) := by omega
      have hkl : (k : Int) < (len : Int) := by omega
      have hkv : (k : Int) < (vl : Int) := by omega
      have hk0 : (0 : Int) ≤ (k : Int) := by omega
      have hku : IntKind.u64.wrap (k : Int) = (k : Int) := IntWalk.u64_in _ (by omega)
      have hkb : k < bs.length := by omega
      have hkz : k < zs.length := by have := HZL.out; omega
      have hget := HBA0.out k hkb
      have bok := HBS.out bs[k] (List.getElem_mem _)
      have hfk := HF.out k hkb
      obtain ⟨x, hx⟩ : ∃ x, bs[k] = x := ⟨_, rfl⟩
      rw [hx] at hget bok hfk
      obtain ⟨D, hD⟩ : ∃ D, longS x.s x.n = D := ⟨_, rfl⟩
      have hfk2 : f k = (k, D) := by rw [hfk, ← hD]; rfl
      have hDs : D.size ≤ 600 := by rw [← hD]; exact longS_size _ _
      obtain ⟨b4, o4, rfl, cz⟩ := HZ.out.get HS.out k (u := .int .i64 zs[k]) (by rw [List.getElem?_map, List.getElem?_eq_getElem hkz]; rfl)
      have hv := HVE.out k hkz
      have hzw := HZB.out zs[k] (List.getElem_mem _)
      obtain ⟨z, hz⟩ : ∃ z, zs[k] = z := ⟨_, rfl⟩
      rw [hz] at cz hv hzw
      obtain ⟨g0, off, hla, e0, e1, e2⟩ := hget
      obtain ⟨v, hv0⟩ : ∃ v, vn k = v := ⟨_, rfl⟩
      obtain ⟨t1, t2⟩ := tmod3_bd z
      obtain ⟨hv2, t3, t4⟩ := volN_le z
      rw [← hv, hv0] at hv2 t3 t4
      have HT3 := hid t4
      have hw3 : IntKind.i64.wrap (z.tmod 3 + 3) = z.tmod 3 + 3 := IntWalk.i64_in _ (by omega)
      clear t3 t4
      have hes : tvB f vn (k + 1) = tvSet (tvB f vn k) v ⟨(tvB f vn k v).lab, (tvB f vn k v).er, (tvB f vn k v).es ++ [(k, D)]⟩ := by
        rw [← hv0, ← hfk2]; rfl
      have OK1 := hid (show okE (k, D) from ⟨by show k < 18446744073709551616; omega, hDs⟩)
      have hlen10 : (tvB f vn k v).es.length ≤ 10 := by have := (HTV.out k v).1; omega
      obtain ⟨pk, hpk⟩ := HGET.out v hv2
      obtain ⟨F, hF⟩ : ∃ F : Int, ((tapeB (tvB f vn k v).lab (tvB f vn k v).es).length : Int) = F := ⟨_, rfl⟩
      have hrq : reqs f vn (k + 1) = reqs f vn k ++ [⟨(k : Int), (k : Int), (v : Int), F, 0⟩] := by
        rw [reqs_succ]; unfold frB; rw [hv0, hF]
      obtain ⟨m1, m2⟩ := rec_add (x := ⟨(k : Int), (k : Int), (v : Int), F, 0⟩) HSL.out HSM.out ⟨by show (0 : Int) ≤ (v : Int); omega, by show (v : Int) ≤ 2; omega⟩
      rw [← hrq] at m1 m2
      have M1 := hid m1
      have M2 := hid m2
      have HFI := hid (reqs_find f vn k)
      have HRL := hid (show (reqs f vn k).length < 1048576 by rw [reqs_len]; omega)
      have hv0' : (0 : Int) ≤ (v : Int) := by omega
      have hv3 : (v : Int) < 3 := by omega
      have HWF := hid (show wfI (v : Int) from ⟨by omega, by omega⟩)
      obtain ⟨mv2, hmv2⟩ : ∃ m, (if (v : Int) = vol then mv else mv + 1) = m := ⟨_, rfl⟩
      have hmnt := one_mnt (vol := vol) (mv := mv) (k := k) (by omega) v
      rw [hmv2] at hmnt
      have HMN := hid hmnt
      have c0 := (HS.out.thaw HJ.out).atI e0
      have c1 := (HS.out.thaw HJ.out).atI e1
      have c2 := (HS.out.thaw HJ.out).atI e2
      subst hla
      have HES := hid hes
      have HD := hid hD
      have BOK := hid bok
      have E0 := hid e0
      have L10 := hid hlen10
      have HPK := hid hpk
      have HFF := hid hF
      have HRQ := hid hrq
      clear hx hes hD hDs bok e0 e1 e2 hlen10 hpk hF hfk hfk2 hz hv hv0 hrq m1 m2 hmnt hmv2
      go_wp2_with fail
      rw [HT3.out]
      go_upto_region 11 with fail
      go_cut [11, 12] (fun t u wx => t = .int .i64 F ∧ u = .int .i64 0 ∧ Sat w J [libP 20000 q (One (v : Int) mv2 (k + 1)) PS (tvB f vn (k + 1)), bmap (gq + 1) c seen, que gq (reqs f vn k)] wx)
      case first =>
        go_region_with (first
          | (go_at_call 9; refine (long_sat x.s x.n BOK.out.s BOK.out.n HD.out HS.out.drew).mono ?_; rintro e w7 ⟨rfl, S7⟩; have d0 := (S7.thaw HJ.out).atI E0.out; have H7 := hid S7; clear S7)
          | (go_at_call 8; refine (lwriteP HT.out HMN.out HPK.out rfl k D OK1.out L10.out HFF.out H7.out).mono ?_; rintro e w8 ⟨rfl, S8⟩; have H8 := hid S8; clear S8))
        all_goals
          go_wp2_with fail
          go_meet
          refine ⟨rfl, rfl, ?_⟩
          rw [HES.out]
          exact H8.out
      case rest =>
        obtain ⟨rfl, rfl, S8⟩ := hcut
        have H8 := hid (S8.pick 2)
        clear S8 HS c0 c1 c2 cz
        go_wp2_with fail
        refine (qadd_yes (k : Int) (k : Int) (v : Int) F H8.out HFI.out HRL.out).mono ?_; rintro e w9 ⟨rfl, S9⟩
        rw [← HRQ.out] at S9
        have H9 := hid (S9.pick 2)
        clear S9 H8
        go_wp2_with (at_mapUpdate; refine wpList_mapPut rfl _ _ _ rfl rfl rfl rfl H9.out HWF.out (by omega) ?_)
        intro w10 S10
        have H10 := hid S10
        clear S10 H9
        go_wp2_with fail
        go_roundw
        case rel => exact ⟨k + 1, (v : Int), mv2, c + 1, setAdd seen (v : Int), by omega, by go_num, by omega, M1.out, M2.out, H10.out⟩
        case measure => simp [intOf]; omega
    · obtain rfl : k = n := by omega
      have hkk : ¬ (k : Int) < (k : Int) := by omega
      have HS := hid (Sr.pick 2)
      clear Sr hlt
      go_wp2_with fail
      refine (lcrashP (Q := One (-1) mv k) (fun S h => one_crash S h) hpl none 0 0 [] rfl (by omega) (Rd.nil _ _) (by simp) HS.out).mono ?_; rintro e w4 ⟨rfl, S4⟩
      have H4 := hid S4
      clear S4 HS
      go_wp2_with fail
      refine (lmovesP H4.out).mono ?_; rintro e w5 ⟨rfl, S5⟩
      have H5 := hid S5
      clear S5 H4
      go_wp2_with fail
      go_loopw [14, 15, 16, 17, 18, 19, 20] (fun vo at_ i _ _ _ _ wr => ∃ (j : Nat) (V A mvn : Int) (l : List Wt), j ≤ k ∧ i = .int .i64 (j : Int) ∧ vo = .int .i64 V ∧ at_ = .int .i64 A ∧ l.length + j = k ∧ (∀ y ∈ l, Waits f vn k j y) ∧ mvn + ((others l V : Nat) : Int) = mv + (seen.length : Int) ∧ Sat w J [libP 20000 q (One V mvn (k + j)) PS (tvB f vn k), que gq l, bmap (gq + 1) c seen] wr) (fun _ _ i _ _ _ _ _ => 10 - (intOf i).toNat)
      case atStart => exact ⟨0, -1, 0, mv, reqs f vn k, Nat.zero_le _, rfl, rfl, rfl, by have := reqs_len f vn k; omega, waits_start f vn k, by rw [HSL.out], H5.out.pick 2 |>.swap⟩
      case round =>
        clear H5
        obtain ⟨j, V, A, mvn, l, hj, rfl, rfl, rfl, hlen, hW, hO, Sr⟩ := hrel
        by_cases hlt : j < k
        · obtain ⟨x0, r, rfl⟩ : ∃ a b, l = a :: b := by
            cases l with
            | nil => simp at hlen; omega
            | cons a b => exact ⟨a, b, rfl⟩
          obtain ⟨i, x, hch, hxi⟩ := choose_g x0 r V A
          have hx0 := hW x0 (by simp)
          obtain ⟨⟨y, hy, k2, k3, k4, k5⟩, k6, k7⟩ := hW x (List.mem_of_getElem? hxi)
          have hp0 : x0.passed < 8 := by have := hx0.hi; omega
          have hv2 := HVN.out y
          have hst := rec_step hp0 hch hxi ⟨by rw [k4]; omega, by rw [k4]; omega⟩
          have hW2 := waits_left f vn (i := i) hW
          have hl2 := left_len (i := i) (l := x0 :: r) (List.getElem?_eq_some_iff.1 hxi).1
          have hpass : ∀ y ∈ x0 :: r, 0 ≤ y.passed ∧ y.passed ≤ 4611686018427387903 := fun y hy => by
            have h1 := (hW y hy).lo; have h2 := (hW y hy).hi; omega
          have S5 := Sr.swap
          have hnx := qnext_some x0 r V A i x S5 hch hxi hpass
          obtain ⟨l2, hl2e⟩ : ∃ l2, (bump i (x0 :: r)).eraseIdx i = l2 := ⟨_, rfl⟩
          obtain ⟨l1, hl1e⟩ : ∃ l1, x0 :: r = l1 := ⟨_, rfl⟩
          rw [hl2e] at hst hW2 hl2 hnx
          rw [hl1e] at hst hl2 hO hlen
          obtain ⟨xi, xb, xv, xa, xp⟩ := x
          replace k2 : xi = (y : Int) := k2
          replace k3 : xb = (y : Int) := k3
          replace k4 : xv = ((vn y : Nat) : Int) := k4
          replace k5 : xa = ((frB f vn y : Nat) : Int) := k5
          subst k2 k3 k4 k5
          obtain ⟨v, hv0⟩ : ∃ v, vn y = v := ⟨_, rfl⟩
          have hgt := (tvB_get f vn (i := y) (n := k) hy).1
          have hta := tvB_at f vn (i := y) (n := k) hy
          have hfr : frB f vn y = (tapeB (tvB f vn y (vn y)).lab (tvB f vn y (vn y)).es).length := rfl
          rw [← hfr] at hta
          rw [hv0] at hgt hta hst hnx hv2
          obtain ⟨F, hF⟩ : ∃ F, frB f vn y = F := ⟨_, rfl⟩
          rw [hF] at hta hnx
          replace hst : ((v : Int) = V ∧ others l2 (v : Int) = others l1 V) ∨ ((v : Int) ≠ V ∧ others l2 (v : Int) + 1 = others l1 V) := hst
          replace hnx : Calls Tryz.prog 13 #[.pointer (some ⟨gq, 0, none⟩), .int .i64 V, .int .i64 A] wr fun e w' => e = .returned (.tuple #[.agg #[.int .i64 (y : Int), .int .u64 (y : Int), .int .i64 (v : Int), .int .i64 (F : Int)], .bool true]) ∧ Sat w J (que gq l2 :: libP 20000 q (One V mvn (k + j)) PS (tvB f vn k) :: bmap (gq + 1) c seen :: []) w' := hnx
          obtain ⟨mv2, hmv2⟩ : ∃ m, (if (v : Int) = V then mvn else mvn + 1) = m := ⟨_, rfl⟩
          have hmnt := one_mnt (vol := V) (mv := mvn) (k := k + j) (by omega) v
          rw [hmv2] at hmnt
          have HMN := hid hmnt
          have HO2 := hid (show mv2 + ((others l2 (v : Int) : Nat) : Int) = mv + (seen.length : Int) by
            rw [← hmv2]
            rcases hst with ⟨h1, h2⟩ | ⟨h1, h2⟩
            · rw [if_pos h1]; omega
            · rw [if_neg h1]; omega)
          have HW2 := hid hW2
          have HL2 := hid (show l2.length + (j + 1) = k by omega)
          have HNX := hid hnx
          obtain ⟨pk, hpk⟩ := HGET.out v hv2
          have HPK := hid hpk
          have hyb : y < bs.length := by omega
          have hyl : (y : Int) < (len : Int) := by omega
          have hy0 : (0 : Int) ≤ (y : Int) := by omega
          have hjk : (j : Int) < (k : Int) := by omega
          obtain ⟨g0, off, hla, e0, e1, e2⟩ := HBA0.out y hyb
          have bok := HBS.out bs[y] (List.getElem_mem _)
          have hfy := HF.out y hyb
          obtain ⟨x, hx⟩ : ∃ x, bs[y] = x := ⟨_, rfl⟩
          rw [hx] at e0 e1 e2 bok hfy
          obtain ⟨D, hD⟩ : ∃ D, longS x.s x.n = D := ⟨_, rfl⟩
          have hfy2 : f y = (y, D) := by rw [hfy, ← hD]; rfl
          rw [hfy2] at hgt
          have HGT := hid hgt
          have HTA := hid hta
          have HD := hid hD
          have BOK := hid bok
          have E1 := hid e1
          have E2 := hid e2
          subst hla
          clear hnx hW hW2 hO hst hmnt hmv2 hch hxi hx0 hpass S5 Sr hl1e hl2e hl2 hlen hgt hta hfr hF hv0 hpk bok e0 e1 e2 hfy hfy2 hx hD k6 k7 hp0
          go_wp2_with fail
          refine HNX.out.mono ?_; rintro e w6 ⟨rfl, S6⟩
          obtain ⟨gr, hgr⟩ := S6.sizeEx
          have S7 := S6.alloc (b := gr) (T := 40) (cs := [.int .i64 (y : Int), .int .u64 (y : Int), .int .i64 (v : Int), .int .i64 (F : Int)]) rfl hgr.symm
          have d0 := S7.isBlk.cell 0 rfl
          have d1 := S7.isBlk.cell 1 rfl
          have d2 := S7.isBlk.cell 2 rfl
          have d3 := S7.isBlk.cell 3 rfl
          have H7 := hid (S7.pick 2)
          clear S6 S7 HNX
          go_wp2_with fail
          refine (lreadP HT.out HMN.out HPK.out rfl _ HGT.out HTA.out H7.out).mono ?_; rintro e w8 ⟨rfl, S8⟩
          have c1 := (S8.thaw HJ.out).atI E1.out
          have c2 := (S8.thaw HJ.out).atI E2.out
          have d4 := S8.swap.isBlk.cell 0 rfl
          have d5 := S8.swap.isBlk.cell 2 rfl
          have H8 := hid S8
          clear S8 H7 d0 d1 d2 d3 hgr
          go_wp2_with fail
          go_quiet ((go_at_call 9; exact Calls.quiet_of (long_q _ x.s x.n BOK.out.s BOK.out.n HD.out)))
          go_wp2_with fail
          refine (lvolV HPK.out rfl (H8.out.drewN _)).mono ?_; rintro e w9 ⟨rfl, S9⟩
          have H9 := hid S9
          clear S9 H8 d4 d5 c1 c2
          go_wp2_with fail
          refine (latP HPK.out H9.out).mono ?_; rintro e w10 ⟨A2, hA2, rfl, S10⟩
          have H10 := hid S10.swap.drop
          clear S10 H9
          go_wp2_with fail
          go_roundw
          case rel => exact ⟨j + 1, (v : Int), (A2 : Int), mv2, l2, by omega, by go_num, rfl, rfl, HL2.out, HW2.out, HO2.out, H10.out.swap.pick 1⟩
          case measure => simp [intOf]; omega
        · obtain rfl : j = k := by omega
          have hl0 : l = [] := List.eq_nil_of_length_eq_zero (by omega)
          subst hl0
          obtain ⟨M, hM⟩ : ∃ M, seen.length = M := ⟨_, rfl⟩
          have hM3 : M ≤ 3 := by
            rw [← hM, HSL.out]
            unfold others oth
            split <;> split <;> split <;> omega
          have h0 : others [] V = 0 := by simp [others, oth, hasV]
          rw [h0, hM] at hO
          have hmvn : mvn = mv + (M : Int) := by omega
          subst hmvn
          have HS := hid Sr
          have HM := hid hM
          have hjk : ¬ (j : Int) < (j : Int) := by omega
          have hw9 : IntKind.i64.wrap (mv + (M : Int) - mv) = (M : Int) := by rw [show mv + (M : Int) - mv = (M : Int) by omega]; exact IntWalk.i64_in _ (by omega)
          clear Sr hM h0 hO hW hlen
          go_wp2_with fail
          refine (lmovesP HS.out).mono ?_; rintro e w9 ⟨rfl, S9⟩
          have H9 := hid (S9.pick 2)
          clear S9 HS
          go_wp2_with (at_len; refine wpList_mapLen rfl _ rfl rfl H9.out ?_; rw [HM.out])
          refine (qlen_sat (H9.out.pick 2)).mono ?_; rintro e w10 ⟨rfl, S10⟩
          have H10 := hid S10
          clear S10 H9
          go_wp2_with fail
          go_ret
          exact ⟨rfl, H10.out.toBelow HJ.out⟩
theorem glacierRecalled_walk (la : Option Addr) (len cap : Nat) (va : Option Addr) (vl vc : Nat) (w : World) (hT : Rd (wpart w) (some ⟨0, 0, none⟩) tabV) (hl : OkT Tryz.prog w 6 22 [.slice la len cap]) (hc : OkT Tryz.prog w 6 23 [.slice va vl vc]) :
    Calls Tryz.prog 3 #[.slice la len cap, .slice va vl vc] w (RetB (.bool true) w.heap.size w) := by
  obtain ⟨h1, h2, h3, bs, e1, e2, e3⟩ := okT_blobs hl
  obtain ⟨k1, k2, zs, k3, k4, k5⟩ := okT_intl hc
  exact glacierRecalled_walk0 la len cap bs h1 h2 e1 e2 va vl vc zs k3 (by omega) k5 w e3 k4 hT
end Go.Proofs.YtekioplbfoonkaaGreatDoor
