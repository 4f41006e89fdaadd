/- Layer 5's document: Crash. -/
import Derived.Test.YtecdnlmagaoccaaRefE
namespace Go.Proofs.Ytecdnlmagaoccaa
open Go.RowKit
set_option linter.unusedVariables false
set_option maxHeartbeats 4000000
section
variable {w0 w : World} {I : Part} {L : List HP} {v : Vst} {a : Option Addr} {n c : Nat}
theorem wpList_copyN {P : Program} {ops : Array Oper} {rest : List Oper} {o : Oper} {A : Act} {Q : Exit → Act → World → Prop} {t e : TypeId} {size bytes : Nat} (T : SliceT P t e size bytes) (hgd : o.guard = none) (s x : Operand)
    (ho : o.op = .call { callee := .builtin .append, args := #[s, x], argTypes := #[t, t] })
    {g m k : Nat} {ad : Option Addr} {vs : List Value} (H : Sat w0 I (blk g e [] :: L) w) (hs : A.eval s = .slice (some ⟨g, 0, none⟩) 0 0) (hx : A.eval x = .slice ad m k) (hr : Rd I ad vs) (hl : vs.length = m * size) (h1 : ∀ u ∈ vs, u.oneCell' = true)
    (hb : m * bytes ≤ 140737488355328) (hn : m ≤ 140737488355328)
    (h : ∀ g' cap' w', m ≤ cap' → cap' ≤ 9223372036854775807 → Sat w0 I (row e size (.slice (some ⟨g', 0, none⟩) m cap') m vs :: L) w' → wpList P ops Q rest (A.put o.dst (.slice (some ⟨g', 0, none⟩) m cap')) w') : wpList P ops Q (o :: rest) A w := by
  have H2 : Sat w0 I (row e size (.slice (some ⟨g, 0, none⟩) 0 0) 0 [] :: L) w := H.weaken fun x hg => ⟨by simp, Or.inr ⟨g, 0, #[], rfl, hg, Nat.le_refl _, Nat.zero_le _, by simp, by simp⟩⟩
  refine wpList_appSrcS T hgd s x ho H2 hs hx (Src.ofRd T H2 hr hl h1) (by rw [Nat.zero_add]; exact hb) (by rw [Nat.zero_add]; exact hn) ?_
  intro g' cap' w' k1 k2 k3
  rw [Nat.zero_add] at k1 k3 ⊢
  rw [List.nil_append] at k3
  exact h g' cap' w' k1 k2 k3
theorem wpList_app1N {P : Program} {ops : Array Oper} {rest : List Oper} {o : Oper} {A : Act} {Q : Exit → Act → World → Prop} {t e : TypeId} {size bytes : Nat} (T : SliceT P t e size bytes) (hgd : o.guard = none) (s x : Operand)
    (ho : o.op = .call { callee := .builtin .append, args := #[s, x], argTypes := #[t, t] })
    {g n cap N g2 c2 : Nat} {xs news ys : List Value} (H : Sat w0 I (row e size (.slice (some ⟨g, 0, none⟩) n cap) n xs :: L) w) (hs : A.eval s = .slice (some ⟨g, 0, none⟩) n cap) (hx : A.eval x = .slice (some ⟨g2, 0, none⟩) 1 c2) (hg2 : g2 = w.heap.size) (hl : news.length = size) (h1 : ∀ u ∈ news, u.oneCell' = true)
    (hN : n + 1 = N) (hys : xs ++ news = ys) (hb : N * bytes ≤ 140737488355328) (hn : N ≤ 140737488355328)
    (h : ∀ g' cap' w', N ≤ cap' → cap' ≤ 9223372036854775807 → Sat w0 I (row e size (.slice (some ⟨g', 0, none⟩) N cap') N ys :: L) w' → wpList P ops Q rest (A.put o.dst (.slice (some ⟨g', 0, none⟩) N cap')) w') : wpList P ops Q (o :: rest) A (w.alloc (.cells news.toArray e)) := by
  subst hN hys hg2
  have H2 : Sat w0 I (row e size (.slice (some ⟨g, 0, none⟩) n cap) n xs :: blk w.heap.size e news :: L) (w.alloc (.cells news.toArray e)) := (H.alloc rfl rfl).swap
  exact wpList_appSrcS T hgd s x ho H2 hs hx (Src.ofBlk T H2 (by simpa using hl) h1) hb hn fun g' cap' w' k1 k2 k3 => h g' cap' w' k1 k2 k3.swap.drop
theorem rpick_sat (ca : Option Addr) (cc zl : Nat) (zs : List Int) (at_ n : Int) (hzl : zs.length = zl) (hzm : zl ≤ 9223372036854775807) (hz : Rd I ca (zs.map (Value.int .i64))) (hb : ∀ z ∈ zs, -9223372036854775808 ≤ z ∧ z ≤ 9223372036854775807) (hn : n ≤ 9223372036854775807) {Z : Int} (hZ : pickM zs at_ n = Z) (H : Sat w0 I L w) :
    Calls Try.prog 56 #[.slice ca zl cc, .int .i64 at_, .int .i64 n] w fun e w' => e = .returned (.int .i64 Z) ∧ Sat w0 I L w' := by
  subst hzl hZ
  exact ret_sat (refPick_any _ ca cc zs at_ n (hz.ints H) hzm hb hn) H
set_option maxRecDepth 20000 in
theorem rcrash_nil {room er ar : Int} {lost prot : Bool} {label : ByteArray} (at_ : Nat) (ca : Option Addr) (cc zl : Nat) (zs : List Int) (hzl : zs.length = zl) (hzm : zl ≤ 9223372036854775807) (hz : Rd I ca (zs.map (Value.int .i64))) (hb : ∀ z ∈ zs, -9223372036854775808 ≤ z ∧ z ≤ 9223372036854775807)
    (H : Sat w0 I L w) :
    Calls Try.prog 45 #[.agg (rvl ⟨room, lost, ar, label, [], 0, at_, er, prot⟩ (.slice none 0 0)).toArray, .slice ca zl cc] w fun e w' => ∃ b c', e = .returned (.agg (rvl ⟨room, lost, ar, label, [], 0, 0, er, prot⟩ (.slice (some ⟨b, 0, none⟩) 0 c')).toArray) ∧ c' ≤ 9223372036854775807 ∧ Sat w0 I L w' := by
  have HZ := hid hz
  have HB := hid hb
  clear hz hb
  have hP : pickM zs 0 1 = 0 := by
    have h1 := pickM_bd zs 0 1
    have := h1.2.1 (by omega); omega
  have HP := hid hP
  clear hP
  obtain ⟨g, hg⟩ := H.sizeQ
  have S1 := H.alloc (b := g) (T := 56) (cs := rvl ⟨room, lost, ar, label, [], 0, at_, er, prot⟩ (.slice none 0 0)) rfl hg.symm
  have S2 := S1.alloc (b := g + 1) (T := 56) (cs := rv0) rfl (by simp [hg])
  have H2 := hid S2
  clear S1 S2 H
  go_enter Try.func45, Try.ntmps45
  go_upto_region 1 with fail
  try rw [hg]
  refine wp_gen (fun w1 => Sat w0 I (blk (g + 1) 56 rv0 :: blk g 56 (rvl ⟨room, lost, ar, label, [], 0, at_, er, prot⟩ (.slice none 0 0)) :: L) w1) H2.out ?_
  clear H2 hg
  intro w1 S1
  have c0 := S1.swap.isBlk.cell 0 (v := .slice none 0 0) rfl
  have c1 := S1.swap.isBlk.cell 1 (v := .int .i64 0) rfl
  have H1 := hid S1
  clear S1
  go_wp2_with fail
  refine (rpick_sat ca cc zl zs 0 1 hzl hzm HZ.out HB.out (by decide) HP.out H1.out).mono ?_; rintro e w2 ⟨rfl, S2⟩
  have H3 := hid (S2.alloc (b := w2.heap.size) (T := 65) (cs := []) rfl rfl)
  have c0 := (H3.out.pick 2).isBlk.cell 0 (v := .slice none 0 0) rfl
  have c1 := (H3.out.pick 2).isBlk.cell 1 (v := .int .i64 0) rfl
  clear S2 H1
  go_upto_region 4 with (at_builtin; refine wpList_copyN slBk rfl _ _ rfl H3.out rfl rfl (Rd.nil _ none) rfl (by intro u hu; cases hu) (by decide) (by decide) ?_; intro g7 cp7 w7 hc7 hc8 S7)
  clear c0 c1
  have S12 := S7.drop.swap
  have c0 := S12.isBlk.cell 0 (v := .slice none 0 0) rfl
  have c1 := S12.isBlk.cell 1 (v := .int .i64 0) rfl
  have c2 := S12.isBlk.cell 2 (v := .int .i64 at_) rfl
  have f0 := S12.isBlk.frozen 0
  have f1 := S12.isBlk.frozen 1
  have f2 := S12.isBlk.frozen 2
  have H5 := hid S12
  clear S7 S12 H3
  go_upto_region 11 with fail
  refine wp_gen (fun w4 => Sat w0 I (blk g 56 (rvl ⟨room, lost, ar, label, [], 0, 0, er, prot⟩ (.slice (some ⟨g7, 0, none⟩) 0 cp7)) :: blk (g + 1) 56 rv0 :: L) w4) (((H5.out.set 0 _ rfl).set 1 _ rfl).set 2 _ rfl) ?_
  clear H5 c0 c1 c2 f0 f1 f2
  intro w4 S4
  have H4 := hid S4
  clear S4
  go_wp2_with (first
    | (refine wpList_loadS whV rfl _ rfl rfl rfl H4.out ?_)
    | (refine wpList_storeS whV rfl _ _ rfl rfl rfl rfl rfl (rvl_one _ _ _ _) H4.out.swap ?_; intro w5 S5))
  exact bodyPost_ret (ret_cell1S Try.results45 whV _ rfl rfl S5) rfl ⟨g7, cp7, rfl, hc8, S5.drop.drop⟩
set_option maxRecDepth 20000 in
theorem rcrash_sat (hv : v.ok) (hmk : ∀ b ∈ v.bl, b.mark = true → b.s = ⟨#[]⟩) (hr : Rd I a (v.bl.flatMap bc)) (hcc : v.bl.length ≤ c ∧ c ≤ 9223372036854775807) (hsh : (a = none ∧ c = 0) ∨ ∃ b off, a = some ⟨b, off, none⟩) (ca : Option Addr) (cc zl : Nat) (zs : List Int) (hzl : zs.length = zl) (hzm : zl ≤ 9223372036854775807) (hz : Rd I ca (zs.map (Value.int .i64))) (hb : ∀ z ∈ zs, -9223372036854775808 ≤ z ∧ z ≤ 9223372036854775807)
    {V : Vst} (hA : crashV v zs = V) (H : Sat w0 I L w) :
    Calls Try.prog 45 #[.agg (rvl v (.slice a v.bl.length c)).toArray, .slice ca zl cc] w fun e w' => ∃ J a' c', e = .returned (.agg (rvl V (.slice a' V.bl.length c')).toArray) ∧ I.le J ∧ Rd J a' (V.bl.flatMap bc) ∧ V.bl.length ≤ c' ∧ c' ≤ 9223372036854775807 ∧ (∃ b off, a' = some ⟨b, off, none⟩) ∧ Sat w0 J L w' := by
  have hlen := hv.len
  have hsure := hv.sure
  have hN := crashN_le hv zs
  have q1 : pickM zs 0 ((v.bl.length : Int) - v.sure + 1) = ((crashN v zs - v.sure : Nat) : Int) := by
    have := pickM_bd zs 0 ((v.bl.length : Int) - v.sure + 1)
    unfold crashN; omega
  have hJ := crashJ_le v zs
  have HZ := hid hz
  have HB := hid hb
  have HR := hid hr
  unfold crashV at hA
  unfold crashB at hA
  generalize crashN v zs = n at *
  generalize crashJ v zs = j at *
  obtain ⟨q, hq⟩ : ∃ q, n = v.sure + q := ⟨n - v.sure, by omega⟩
  rw [show n - v.sure = q from by omega] at q1
  have Q1 := hid q1
  clear q1 hz hb hr
  obtain ⟨g, hg⟩ := H.sizeQ
  have S1 := H.alloc (b := g) (T := 56) (cs := rvl v (.slice a v.bl.length c)) rfl hg.symm
  have S2 := S1.alloc (b := g + 1) (T := 56) (cs := rv0) rfl (by simp [hg])
  have H2 := hid S2
  clear S1 S2
  have HH := hid H
  clear H
  by_cases hn : n < v.bl.length
  · rw [dif_pos hn] at hA
    replace hJ := hJ hn
    obtain ⟨b0, off, rfl, -⟩ := rd3 HR.out H2.out n hn
    have HA := hid hA
    have HJ := hid hJ
    have hsc : v.sure < c := by omega
    have hsl : v.sure ≤ v.bl.length := by omega
    have hsI : (v.sure : Int) ≤ (v.bl.length : Int) := by omega
    clear hA hJ hsh
    go_enter Try.func45, Try.ntmps45
    go_upto_region 1 with fail
    try rw [hg]
    refine wp_gen (fun w1 => Sat w0 I (blk (g + 1) 56 rv0 :: blk g 56 (rvl v (.slice (some ⟨b0, off, none⟩) v.bl.length c)) :: L) w1) H2.out ?_
    clear H2 hg
    intro w1 S1
    have c0 := S1.swap.isBlk.cell 0 (v := .slice (some ⟨b0, off, none⟩) v.bl.length c) rfl
    have c1 := S1.swap.isBlk.cell 1 (v := .int .i64 v.sure) rfl
    have H1 := hid S1
    clear S1
    have hD : pickM zs 0 (((v.bl.length - v.sure : Nat) : Int) + 1) = (q : Int) := by
      rw [show ((v.bl.length - v.sure : Nat) : Int) = (v.bl.length : Int) - (v.sure : Int) by omega]; exact Q1.out
    have HD := hid hD
    have hDb : ((v.bl.length - v.sure : Nat) : Int) + 1 ≤ 9223372036854775807 := by omega
    have hql : q < v.bl.length - v.sure := by omega
    have hqI : (q : Int) < ((v.bl.length - v.sure : Nat) : Int) := by omega
    have hq0 : (0 : Int) ≤ (q : Int) := by omega
    have hnI : IntKind.i64.wrap ((v.sure : Int) + (q : Int)) = (n : Int) := by rw [IntWalk.i64_in _ (by omega)]; omega
    have hn0 : (0 : Int) ≤ (n : Int) := by omega
    have hnc : (n : Int) ≤ (c : Int) := by omega
    have hncN : n ≤ c := by omega
    have HQ := hid hq
    clear hD hq hN
    go_wp2_with fail
    refine (rpick_sat ca cc zl zs 0 _ hzl hzm HZ.out HB.out hDb HD.out H1.out).mono ?_; rintro e w2 ⟨rfl, S2⟩
    have H3 := hid (S2.alloc (b := w2.heap.size) (T := 65) (cs := []) rfl rfl)
    have c0 := (H3.out.pick 2).isBlk.cell 0 (v := .slice (some ⟨b0, off, none⟩) v.bl.length c) rfl
    have c1 := (H3.out.pick 2).isBlk.cell 1 (v := .int .i64 v.sure) rfl
    have RT := hid (rd_take HR.out n)
    have hnb : n * 24 ≤ 140737488355328 := by omega
    have hnb2 : n ≤ 140737488355328 := by omega
    have hfl : ((v.bl.take n).flatMap bc).length = n * 3 := by rw [flat_len bc bc_len, List.length_take, Nat.min_eq_left (by omega)]
    have HFLN := hid hfl
    have QL := hid hql
    have QI := hid hqI
    clear S2 H1 hfl hql hqI hDb hsl hsI hsc
    go_upto_region 4 with (at_builtin; refine wpList_copyN slBk rfl _ _ rfl H3.out rfl rfl RT.out HFLN.out (bc_one _) hnb hnb2 ?_; intro g7 cp7 w7 hc7 hc8 S7)
    have H4 := hid (S7.pick 2)
    have hx := rd3 HR.out H4.out n hn
    obtain ⟨b1, off1, e1, x0, x1, x2⟩ := hx
    cases e1
    have hoff : off + n * 3 = off + v.sure * 3 + q * 3 := by rw [HQ.out]; omega
    rw [hoff] at x0 x1 x2
    have hqI := QI.out
    have hql := QL.out
    have hmn := hmk v.bl[n] (List.getElem_mem _)
    have hszn := hv.size n hn
    obtain ⟨m, hm⟩ : ∃ m, v.bl[n].mark = m := ⟨_, rfl⟩
    obtain ⟨s, hs⟩ : ∃ s, v.bl[n].s = s := ⟨_, rfl⟩
    have HA2 := hid HA.out
    rw [hm] at x1 hmn
    have hJ2 := HJ.out
    have hA2 := HA.out
    rw [hs] at x0 hmn hJ2 hA2 hszn
    have htl : (v.bl.take n).length = n := by rw [List.length_take]; omega
    have HOFF := hid hoff
    have HS0 := hid hs
    clear hoff hm hs HA HJ HA2 hmk x2
    clear c0 c1
    cases m
    · have hJm := hJ2.2.symm
      have hszm : (s.size : Int) ≤ 9223372036854775807 := by omega
      have hj1 : (j : Int) ≤ (s.size : Int) := by have := hJ2.1; omega
      have HA4 := hid hA2
      clear H4 hJ2 hmn hA2
      go_wp2_with fail
      refine (rpick_sat ca cc zl zs 1 _ hzl hzm HZ.out HB.out hszm hJm S7).mono ?_; rintro e w8 ⟨rfl, S7⟩
      have hA2 := HA4.out
      by_cases hj : j = 0
      · rw [if_pos hj] at hA2
        have hjI : ¬ (0 : Int) < (j : Int) := by omega
        clear HA4 hJm
        obtain ⟨JT, xaT, xcT, hJ', S11, hv7, hc3, hc4, _, hrd'⟩ := S7.freezeRow
        cases hv7
        have S12 := S11.swap
        have c0 := S12.isBlk.cell 0 (v := .slice (some ⟨b0, off, none⟩) v.bl.length c) rfl
        have c1 := S12.isBlk.cell 1 (v := .int .i64 v.sure) rfl
        have c2 := S12.isBlk.cell 2 (v := .int .i64 v.at_) rfl
        have f0 := S12.isBlk.frozen 0
        have f1 := S12.isBlk.frozen 1
        have f2 := S12.isBlk.frozen 2
        have H5 := hid S12
        have HRD := hid hrd'
        have HJT := hid hJ'
        have HA3 := hid hA2
        clear S7 S11 S12 hrd' hJ' hA2
        go_upto_region 11 with fail
        refine wp_gen (fun w4 => Sat w0 JT (blk g 56 (rvl {v with bl := v.bl.take n, sure := n, at_ := 0} (.slice (some ⟨g7, 0, none⟩) n cp7)) :: blk (g + 1) 56 rv0 :: L) w4) (((H5.out.set 0 _ rfl).set 1 _ rfl).set 2 _ rfl) ?_
        clear H5 c0 c1 c2 f0 f1 f2
        try clear x0 x1
        intro w4 S4
        have H4 := hid S4
        clear S4
        go_wp2_with (first
          | (refine wpList_loadS whV rfl _ rfl rfl rfl H4.out ?_)
          | (refine wpList_storeS whV rfl _ _ rfl rfl rfl rfl rfl (rvl_one _ _ _ _) H4.out.swap ?_; intro w5 S5))
        have hV := HA3.out
        subst hV
        refine bodyPost_ret (ret_cell1S Try.results45 whV _ rfl rfl S5) rfl ⟨JT, some ⟨g7, 0, none⟩, cp7, ?_, HJT.out, ?_, ?_, hc8, ⟨g7, 0, rfl⟩, S5.drop.drop⟩
        · simp only [List.append_nil, htl]; rfl
        · simp only [List.append_nil]; exact HRD.out
        · simp only [List.append_nil, htl]; exact hc7
      · rw [if_neg hj] at hA2
        have hjI : (0 : Int) < (j : Int) := by omega
        have hj0 : (0 : Int) ≤ (j : Int) := by omega
        obtain ⟨b2, off2, e2, y0, y1, y2⟩ := rd3 HR.out S7 n hn
        cases e2
        rw [HOFF.out, HS0.out] at y0
        have hflat : (v.bl.take n).flatMap bc ++ bc ⟨s.extract 0 j, false, true⟩ = (v.bl.take n ++ [(⟨s.extract 0 j, false, true⟩ : Bk)]).flatMap bc := by rw [List.flatMap_append]; simp
        have hlen1 : n + 1 = (v.bl.take n ++ [(⟨s.extract 0 j, false, true⟩ : Bk)]).length := by rw [List.length_append, htl]; rfl
        obtain ⟨lT, hlT⟩ : ∃ lT, lT = v.bl.take n ++ [(⟨s.extract 0 j, false, true⟩ : Bk)] := ⟨_, rfl⟩
        rw [← hlT] at hflat hlen1
        have HLT := hid hlT
        have HFL := hid hflat
        have HLL := hid hlen1
        have hB3 : lT.length * 24 ≤ 140737488355328 := by omega
        have hB4 : lT.length ≤ 140737488355328 := by omega
        clear HA4 hJm hlT hflat hlen1 y1 y2 x0 x1
        clear hj hql hszn hszm
        go_upto_region 7 with fail
        go_upto_region 8 with (at_builtin; refine wpList_app1N slBk rfl _ _ rfl S7 rfl rfl rfl (bc_len ⟨s.extract 0 j, false, true⟩) (bc_one1 ⟨s.extract 0 j, false, true⟩) HLL.out HFL.out hB3 hB4 ?_; intro g9 cp9 w9 hc91 hc92 S9)
        clear y0
        obtain ⟨JT, xaT, xcT, hJ', S11, hv7, hc3, hc4, _, hrd'⟩ := S9.freezeRow
        cases hv7
        have S12 := S11.swap
        have c0 := S12.isBlk.cell 0 (v := .slice (some ⟨b0, off, none⟩) v.bl.length c) rfl
        have c1 := S12.isBlk.cell 1 (v := .int .i64 v.sure) rfl
        have c2 := S12.isBlk.cell 2 (v := .int .i64 v.at_) rfl
        have f0 := S12.isBlk.frozen 0
        have f1 := S12.isBlk.frozen 1
        have f2 := S12.isBlk.frozen 2
        have H5 := hid S12
        have HRD := hid hrd'
        have HJT := hid hJ'
        have HA3 := hid hA2
        clear S9 S11 S12 hrd' hJ' hA2
        go_upto_region 11 with fail
        refine wp_gen (fun w4 => Sat w0 JT (blk g 56 (rvl {v with bl := lT, sure := lT.length, at_ := 0} (.slice (some ⟨g9, 0, none⟩) lT.length cp9)) :: blk (g + 1) 56 rv0 :: L) w4) (((H5.out.set 0 _ rfl).set 1 _ rfl).set 2 _ rfl) ?_
        clear H5 c0 c1 c2 f0 f1 f2
        intro w4 S4
        have H4 := hid S4
        clear S4
        go_wp2_with (first
          | (refine wpList_loadS whV rfl _ rfl rfl rfl H4.out ?_)
          | (refine wpList_storeS whV rfl _ _ rfl rfl rfl rfl rfl (rvl_one _ _ _ _) H4.out.swap ?_; intro w5 S5))
        have hV := HA3.out
        subst hV
        have e := HLT.out
        subst e
        have hl := HLL.out
        refine bodyPost_ret (ret_cell1S Try.results45 whV _ rfl rfl S5) rfl ⟨JT, some ⟨g9, 0, none⟩, cp9, ?_, HJT.out, ?_, hc91, hc92, ⟨g9, 0, rfl⟩, S5.drop.drop⟩
        · simp only [List.length_singleton]; rw [hl]
        · first
            | exact HRD.out
            | (rw [HFL.out]; exact HRD.out)
    · have hs0 := hmn rfl
      have hj0 : j = 0 := by have h := hJ2.1; rw [hs0] at h; exact Nat.le_zero.1 h
      rw [if_pos hj0] at hA2
      clear H4 hJ2 hmn
      obtain ⟨JT, xaT, xcT, hJ', S11, hv7, hc3, hc4, _, hrd'⟩ := S7.freezeRow
      cases hv7
      have S12 := S11.swap
      have c0 := S12.isBlk.cell 0 (v := .slice (some ⟨b0, off, none⟩) v.bl.length c) rfl
      have c1 := S12.isBlk.cell 1 (v := .int .i64 v.sure) rfl
      have c2 := S12.isBlk.cell 2 (v := .int .i64 v.at_) rfl
      have f0 := S12.isBlk.frozen 0
      have f1 := S12.isBlk.frozen 1
      have f2 := S12.isBlk.frozen 2
      have H5 := hid S12
      have HRD := hid hrd'
      have HJT := hid hJ'
      have HA3 := hid hA2
      clear S7 S11 S12 hrd' hJ' hA2
      go_upto_region 11 with fail
      refine wp_gen (fun w4 => Sat w0 JT (blk g 56 (rvl {v with bl := v.bl.take n, sure := n, at_ := 0} (.slice (some ⟨g7, 0, none⟩) n cp7)) :: blk (g + 1) 56 rv0 :: L) w4) (((H5.out.set 0 _ rfl).set 1 _ rfl).set 2 _ rfl) ?_
      clear H5 c0 c1 c2 f0 f1 f2
      try clear x0 x1
      intro w4 S4
      have H4 := hid S4
      clear S4
      go_wp2_with (first
        | (refine wpList_loadS whV rfl _ rfl rfl rfl H4.out ?_)
        | (refine wpList_storeS whV rfl _ _ rfl rfl rfl rfl rfl (rvl_one _ _ _ _) H4.out.swap ?_; intro w5 S5))
      have hV := HA3.out
      subst hV
      refine bodyPost_ret (ret_cell1S Try.results45 whV _ rfl rfl S5) rfl ⟨JT, some ⟨g7, 0, none⟩, cp7, ?_, HJT.out, ?_, ?_, hc8, ⟨g7, 0, rfl⟩, S5.drop.drop⟩
      · simp only [List.append_nil, htl]; rfl
      · simp only [List.append_nil]; exact HRD.out
      · simp only [List.append_nil, htl]; exact hc7
  · rw [dif_neg hn] at hA
    have hnl : n = v.bl.length := by omega
    obtain ⟨D, hDD⟩ : ∃ D : Nat, v.bl.length - v.sure = D := ⟨_, rfl⟩
    have hqD : q = D := by omega
    have hP : pickM zs 0 ((D : Int) + 1) = (D : Int) := by
      have h := Q1.out
      rw [show (v.bl.length : Int) - (v.sure : Int) + 1 = (D : Int) + 1 by omega, hqD] at h
      exact h
    have HP := hid hP
    have hnI : IntKind.i64.wrap ((v.sure : Int) + (D : Int)) = (n : Int) := by rw [IntWalk.i64_in _ (by omega)]; omega
    have HA3 := hid hA
    have htl : (v.bl.take n).length = n := by rw [List.length_take]; omega
    have RT := hid (rd_take HR.out n)
    have hnb : n * 24 ≤ 140737488355328 := by omega
    have hnb2 : n ≤ 140737488355328 := by omega
    have hfl : ((v.bl.take n).flatMap bc).length = n * 3 := by rw [flat_len bc bc_len, List.length_take, Nat.min_eq_left (by omega)]
    have HFLN := hid hfl
    have hDb : (D : Int) + 1 ≤ 9223372036854775807 := by omega
    have hD0 : (0 : Int) ≤ (D : Int) := by omega
    have hn0 : (0 : Int) ≤ (n : Int) := by omega
    have hnc : (n : Int) ≤ (c : Int) := by omega
    have hncN : n ≤ c := by omega
    have hsl : v.sure ≤ v.bl.length := by omega
    have hsI : (v.sure : Int) ≤ (v.bl.length : Int) := by omega
    have HDD := hid hDD
    have HNL := hid hnl
    clear hJ hA hP hfl hq hN hqD
    rcases hsh with ⟨rfl, rfl⟩ | ⟨b0, off, rfl⟩
    · clear H2 hg
      obtain ⟨room, lost, ar, label, bl, sure, at_, er, prot⟩ := v
      obtain rfl : bl = [] := List.eq_nil_of_length_eq_zero (Nat.le_zero.1 hcc.1)
      obtain rfl : sure = 0 := Nat.le_zero.1 hsl
      obtain rfl : n = 0 := HNL.out
      have hA2 := HA3.out
      refine (rcrash_nil at_ ca cc zl zs hzl hzm HZ.out HB.out HH.out).mono ?_
      rintro e w' ⟨b, c', rfl, h1, S⟩
      refine ⟨I, some ⟨b, 0, none⟩, c', ?_, Part.le_refl _, ?_, ?_, h1, ⟨b, 0, rfl⟩, S⟩
      · rw [← hA2]; rfl
      · rw [← hA2]; exact Rd.nil _ _
      · rw [← hA2]; exact Nat.zero_le _
    · by_cases hsc : v.sure = c
      · subst hsc
        go_enter Try.func45, Try.ntmps45
        go_upto_region 1 with fail
        try rw [hg]
        refine wp_gen (fun w1 => Sat w0 I (blk (g + 1) 56 rv0 :: blk g 56 (rvl v (.slice (some ⟨b0, off, none⟩) v.bl.length v.sure)) :: L) w1) H2.out ?_
        clear H2 hg
        intro w1 S1
        have c0 := S1.swap.isBlk.cell 0 (v := .slice (some ⟨b0, off, none⟩) v.bl.length v.sure) rfl
        have c1 := S1.swap.isBlk.cell 1 (v := .int .i64 v.sure) rfl
        have H1 := hid S1
        clear S1 hnl hn
        go_upto_region 2 with fail
        try rw [HDD.out]
        clear hDD
        go_wp2_with fail
        refine (rpick_sat ca cc zl zs 0 _ hzl hzm HZ.out HB.out hDb HP.out H1.out).mono ?_; rintro e w2 ⟨rfl, S2⟩
        have H3 := hid (S2.alloc (b := w2.heap.size) (T := 65) (cs := []) rfl rfl)
        have c0 := (H3.out.pick 2).isBlk.cell 0 (v := .slice (some ⟨b0, off, none⟩) v.bl.length v.sure) rfl
        have c1 := (H3.out.pick 2).isBlk.cell 1 (v := .int .i64 v.sure) rfl
        clear S2 H1 hDb hsl hsI
        go_upto_region 4 with (at_builtin; refine wpList_copyN slBk rfl _ _ rfl H3.out rfl rfl RT.out HFLN.out (bc_one _) hnb hnb2 ?_; intro g7 cp7 w7 hc7 hc8 S7)
        have hA2 := HA3.out
        clear c0 c1
        obtain ⟨JT, xaT, xcT, hJ', S11, hv7, hc3, hc4, _, hrd'⟩ := S7.freezeRow
        cases hv7
        have S12 := S11.swap
        have c0 := S12.isBlk.cell 0 (v := .slice (some ⟨b0, off, none⟩) v.bl.length v.sure) rfl
        have c1 := S12.isBlk.cell 1 (v := .int .i64 v.sure) rfl
        have c2 := S12.isBlk.cell 2 (v := .int .i64 v.at_) rfl
        have f0 := S12.isBlk.frozen 0
        have f1 := S12.isBlk.frozen 1
        have f2 := S12.isBlk.frozen 2
        have H5 := hid S12
        have HRD := hid hrd'
        have HJT := hid hJ'
        have HA3 := hid hA2
        clear S7 S11 S12 hrd' hJ' hA2
        go_upto_region 11 with fail
        refine wp_gen (fun w4 => Sat w0 JT (blk g 56 (rvl {v with bl := v.bl.take n, sure := n, at_ := 0} (.slice (some ⟨g7, 0, none⟩) n cp7)) :: blk (g + 1) 56 rv0 :: L) w4) (((H5.out.set 0 _ rfl).set 1 _ rfl).set 2 _ rfl) ?_
        clear H5 c0 c1 c2 f0 f1 f2
        try clear x0 x1
        intro w4 S4
        have H4 := hid S4
        clear S4
        go_wp2_with (first
          | (refine wpList_loadS whV rfl _ rfl rfl rfl H4.out ?_)
          | (refine wpList_storeS whV rfl _ _ rfl rfl rfl rfl rfl (rvl_one _ _ _ _) H4.out.swap ?_; intro w5 S5))
        have hV := HA3.out
        subst hV
        refine bodyPost_ret (ret_cell1S Try.results45 whV _ rfl rfl S5) rfl ⟨JT, some ⟨g7, 0, none⟩, cp7, ?_, HJT.out, ?_, ?_, hc8, ⟨g7, 0, rfl⟩, S5.drop.drop⟩
        · simp only [List.append_nil, htl]; rfl
        · simp only [List.append_nil]; exact HRD.out
        · simp only [List.append_nil, htl]; exact hc7
      · have hsc2 : v.sure < c := by omega
        clear hsc
        go_enter Try.func45, Try.ntmps45
        go_upto_region 1 with fail
        try rw [hg]
        refine wp_gen (fun w1 => Sat w0 I (blk (g + 1) 56 rv0 :: blk g 56 (rvl v (.slice (some ⟨b0, off, none⟩) v.bl.length c)) :: L) w1) H2.out ?_
        clear H2 hg
        intro w1 S1
        have c0 := S1.swap.isBlk.cell 0 (v := .slice (some ⟨b0, off, none⟩) v.bl.length c) rfl
        have c1 := S1.swap.isBlk.cell 1 (v := .int .i64 v.sure) rfl
        have H1 := hid S1
        clear S1 hnl hn
        go_upto_region 2 with fail
        try rw [HDD.out]
        clear hDD
        go_wp2_with fail
        refine (rpick_sat ca cc zl zs 0 _ hzl hzm HZ.out HB.out hDb HP.out H1.out).mono ?_; rintro e w2 ⟨rfl, S2⟩
        have H3 := hid (S2.alloc (b := w2.heap.size) (T := 65) (cs := []) rfl rfl)
        have c0 := (H3.out.pick 2).isBlk.cell 0 (v := .slice (some ⟨b0, off, none⟩) v.bl.length c) rfl
        have c1 := (H3.out.pick 2).isBlk.cell 1 (v := .int .i64 v.sure) rfl
        clear S2 H1 hDb hsl hsI hsc2
        go_upto_region 4 with (at_builtin; refine wpList_copyN slBk rfl _ _ rfl H3.out rfl rfl RT.out HFLN.out (bc_one _) hnb hnb2 ?_; intro g7 cp7 w7 hc7 hc8 S7)
        have hA2 := HA3.out
        clear c0 c1
        obtain ⟨JT, xaT, xcT, hJ', S11, hv7, hc3, hc4, _, hrd'⟩ := S7.freezeRow
        cases hv7
        have S12 := S11.swap
        have c0 := S12.isBlk.cell 0 (v := .slice (some ⟨b0, off, none⟩) v.bl.length c) rfl
        have c1 := S12.isBlk.cell 1 (v := .int .i64 v.sure) rfl
        have c2 := S12.isBlk.cell 2 (v := .int .i64 v.at_) rfl
        have f0 := S12.isBlk.frozen 0
        have f1 := S12.isBlk.frozen 1
        have f2 := S12.isBlk.frozen 2
        have H5 := hid S12
        have HRD := hid hrd'
        have HJT := hid hJ'
        have HA3 := hid hA2
        clear S7 S11 S12 hrd' hJ' hA2
        go_upto_region 11 with fail
        refine wp_gen (fun w4 => Sat w0 JT (blk g 56 (rvl {v with bl := v.bl.take n, sure := n, at_ := 0} (.slice (some ⟨g7, 0, none⟩) n cp7)) :: blk (g + 1) 56 rv0 :: L) w4) (((H5.out.set 0 _ rfl).set 1 _ rfl).set 2 _ rfl) ?_
        clear H5 c0 c1 c2 f0 f1 f2
        try clear x0 x1
        intro w4 S4
        have H4 := hid S4
        clear S4
        go_wp2_with (first
          | (refine wpList_loadS whV rfl _ rfl rfl rfl H4.out ?_)
          | (refine wpList_storeS whV rfl _ _ rfl rfl rfl rfl rfl (rvl_one _ _ _ _) H4.out.swap ?_; intro w5 S5))
        have hV := HA3.out
        subst hV
        refine bodyPost_ret (ret_cell1S Try.results45 whV _ rfl rfl S5) rfl ⟨JT, some ⟨g7, 0, none⟩, cp7, ?_, HJT.out, ?_, ?_, hc8, ⟨g7, 0, rfl⟩, S5.drop.drop⟩
        · simp only [List.append_nil, htl]; rfl
        · simp only [List.append_nil]; exact HRD.out
        · simp only [List.append_nil, htl]; exact hc7
end
end Go.Proofs.Ytecdnlmagaoccaa
