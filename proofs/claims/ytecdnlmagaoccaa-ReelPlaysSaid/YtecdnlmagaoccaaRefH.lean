/- The law's Does: a call on both. -/
import Derived.Test.YtecdnlmagaoccaaRefG
import Derived.Test.YtecdnlmagaoccaaReelAct
namespace Go.Proofs.Ytecdnlmagaoccaa
open Go.RowKit
set_option linter.unusedVariables false
set_option maxHeartbeats 4000000
/-- both are the same volume behind it. -/
def DoesPost (w0 : World) (I : Part) (L : List HP) (p n : Nat) : Ending → World → Prop := fun e w' => ∃ (V : Vst) (J : Part) (a' : Option Addr) (c' : Nat),
  e = .returned (.tuple #[.agg (rvl V (.slice a' V.bl.length c')).toArray, .bool true]) ∧ RP (n + 1) V ∧ I.le J ∧ Rd J a' (V.bl.flatMap bc) ∧ (V.bl.length ≤ c' ∧ c' ≤ 9223372036854775807) ∧ ((a' = none ∧ c' = 0) ∨ ∃ b off, a' = some ⟨b, off, none⟩) ∧ Sat w0 J (volp p V :: L) w'
section
variable {w0 w : World} {I : Part} {L : List HP} {v : Vst} {a : Option Addr} {n c p : Nat} {t : RAct}
theorem RP.sum (h : RP n v) (hn : n ≤ 100) : (wsum v.bl : Int) ≤ 1000000 := by
  have : ∀ l : List Bk, (∀ b ∈ l, b.s.size ≤ 60) → wsum l ≤ 64 * l.length := by
    intro l
    induction l with
    | nil => intro _; simp [wsum]
    | cons b l ih =>
      intro hb
      have h1 := hb b (by simp)
      have h2 := ih (fun x hx => hb x (by simp [hx]))
      simp only [wsum, bwt, List.length_cons]; omega
  have h1 := this v.bl h.small
  have h2 := h.len
  omega


theorem flush_bl (v : Vst) : (flushV v).bl = v.bl := by unfold flushV; split <;> rfl
theorem read_bl {v V : Vst} {s : ByteArray} {m : Bool} {E : Int} (h : readS v = ((s, m, E), V)) : V.bl = v.bl := by
  unfold readS at h
  split at h
  · split at h
    · split at h <;> (cases h; rfl)
    · cases h; rfl
  · cases h; rfl
theorem seek_bl {v V : Vst} {n E : Int} (h : seekS v n = (E, V)) : V.bl = v.bl := by
  unfold seekS at h
  split at h
  · split at h
    · cases h; rfl
    · split at h <;> (cases h; rfl)
  · cases h; rfl
theorem skip_bl {v V : Vst} {E : Int} (h : skipS v = (E, V)) : V.bl = v.bl := by
  unfold skipS at h
  split at h
  · split at h <;> (cases h; rfl)
  · cases h; rfl
theorem trim_bl {v V : Vst} {E : Int} (h : trimS v = (E, V)) : ∃ k, V.bl = v.bl.take k := by
  unfold trimS at h
  split at h
  · split at h
    · split at h
      · cases h; exact ⟨v.bl.length, (List.take_length).symm⟩
      · cases h; exact ⟨v.bl.length - 1, rfl⟩
    · cases h; exact ⟨v.bl.length, (List.take_length).symm⟩
  · cases h; exact ⟨v.bl.length, (List.take_length).symm⟩
theorem spoil_cases (v : Vst) (n m : Int) : (n < 0 ∨ (0 ≤ n ∧ (v.bl.length : Int) ≤ n) ∨ (0 ≤ n ∧ n < v.bl.length ∧ m < 0) ∨ (∃ k : Nat, ∃ hk : k < v.bl.length, n = (k : Int) ∧ 0 ≤ m ∧ (v.bl[k].s.size : Int) ≤ m)) ∨ ∃ (k i : Nat) (hk : k < v.bl.length), n = (k : Int) ∧ m = (i : Int) ∧ i < v.bl[k].s.size := by
  by_cases h1 : n < 0
  · exact Or.inl (Or.inl h1)
  · by_cases h2 : (v.bl.length : Int) ≤ n
    · exact Or.inl (Or.inr (Or.inl ⟨by omega, h2⟩))
    · by_cases h3 : m < 0
      · exact Or.inl (Or.inr (Or.inr (Or.inl ⟨by omega, by omega, h3⟩)))
      · obtain ⟨k, rfl⟩ := Int.eq_ofNat_of_zero_le (by omega : 0 ≤ n)
        obtain ⟨i, rfl⟩ := Int.eq_ofNat_of_zero_le (by omega : 0 ≤ m)
        have hk : k < v.bl.length := by omega
        by_cases h4 : i < v.bl[k].s.size
        · exact Or.inr ⟨k, i, hk, rfl, rfl, h4⟩
        · exact Or.inl (Or.inr (Or.inr (Or.inr ⟨k, hk, rfl, by omega, by omega⟩)))

set_option maxRecDepth 20000 in
theorem does1 (hp : RP n v) (hn : n ≤ 100) (hgd : t.good I) (hr : Rd I a (v.bl.flatMap bc)) (hcc : v.bl.length ≤ c ∧ c ≤ 9223372036854775807) (hsh : (a = none ∧ c = 0) ∨ ∃ b off, a = some ⟨b, off, none⟩) (H : Sat w0 I (volp p v :: L) w) :
    Calls Try.prog 26 #[.pointer (some ⟨p, 0, none⟩), .agg (rvl v (.slice a v.bl.length c)).toArray, .agg #[.int .i64 1, .int .i64 t.n, .int .i64 t.m, .string t.s, .slice t.ca t.cl t.cc, .int .u8 t.by_]] w (DoesPost w0 I L p n) := by
  obtain ⟨g, hg⟩ := H.sizeQ
  have S1 := H.alloc (b := g) (T := 56) (cs := rvl v (.slice a v.bl.length c)) rfl hg.symm
  have S2 := S1.alloc (b := g + 1) (T := 48) (cs := [.int .i64 1, .int .i64 t.n, .int .i64 t.m, .string t.s, .slice t.ca t.cl t.cc, .int .u8 t.by_]) rfl (by simp [hg])
  have S3 := S2.alloc (b := g + 1 + 1) (T := 56) (cs := rv0) rfl (by simp [hg])
  have H3 := hid S3
  have HP := hid hp
  have HR := hid hr
  have HG := hid hgd
  have HSH := hid hsh
  have hlen := hp.len
  clear S1 S2 S3 H hp hr hgd hsh
  go_enter Try.func26, Try.ntmps26
  go_upto_region 1 with fail
  try rw [hg]
  refine wp_gen (fun w1 => Sat w0 I (blk (g + 1 + 1) 56 rv0 :: blk (g + 1) 48 [.int .i64 1, .int .i64 t.n, .int .i64 t.m, .string t.s, .slice t.ca t.cl t.cc, .int .u8 t.by_] :: blk g 56 (rvl v (.slice a v.bl.length c)) ::  volp p v :: L) w1) H3.out ?_
  clear H3 hg
  intro w1 S1
  have d3 := S1.swap.isBlk.cell 3 (v := .string t.s) rfl
  have H1 := hid S1
  clear S1
  go_wp2_with fail
  refine (cut_sat t.s 60 (by omega) HG.out.s H1.out).mono ?_; rintro e w2 ⟨rfl, S2⟩
  have d0 := S2.swap.isBlk.cell 0 (v := .int .i64 1) rfl
  have d1 := S2.swap.isBlk.cell 1 (v := .int .i64 t.n) rfl
  have d2 := S2.swap.isBlk.cell 2 (v := .int .i64 t.m) rfl
  have d4 := S2.swap.isBlk.cell 4 (v := .slice t.ca t.cl t.cc) rfl
  have d5 := S2.swap.isBlk.cell 5 (v := .int .u8 t.by_) rfl
  have hz60 := cutSize t.s 60
  obtain ⟨x, hx⟩ : ∃ x, t.s.extract 0 60 = x := ⟨_, rfl⟩
  rw [hx] at hz60 ⊢
  have H2 := hid S2
  clear S2 H1 d3 hx

  go_wp2_with fail
  have hsm := HP.out.sum hn
  obtain ⟨E, V, hA⟩ : ∃ E V, addS v ⟨x, false, false⟩ = (E, V) := ⟨_, _, rfl⟩
  have hp2 := HP.out.add (by omega) hz60 (by intro h; cases h) hA
  have HA := hid hA
  have HP2 := hid hp2
  clear hA hp2
  refine (vwrite x HP.out.ok (by omega) (by omega) HA.out (H2.out.pick 3)).mono ?_; rintro e w3 ⟨rfl, S3⟩
  have H3 := hid (S3.pick 3)
  clear S3 H2
  go_wp2_with (refine wpList_loadS whV rfl _ rfl rfl rfl H3.out ?_)
  refine (rwrite_sat HP.out.ok ⟨x, false, false⟩ (by show x.size ≤ _; omega) (by omega) HR.out hcc HA.out H3.out).mono ?_; rintro e w4 ⟨J, a', c', rfl, hJ, hrd, hc1, hc2, hs2, S4⟩
  have HJ := hid hJ
  have HRD := hid hrd
  have HC := hid (And.intro hc1 hc2)
  have HS2 := hid hs2
  clear hJ hrd hc1 hc2 hs2
  obtain ⟨q, hq⟩ := S4.sizeQ
  have HQ := hid (S4.alloc (b := q) (T := 56) (cs := rv0) rfl hq.symm)
  clear S4 H3
  go_wp2_with (first
    | (refine wpList_storeS whV rfl _ _ rfl rfl rfl rfl rfl (rvl_one _ _ _ _) HQ.out ?_; intro w5 S5; have H5 := hid S5; clear S5)
    | (refine wpList_loadS whV rfl _ rfl rfl rfl H5.out ?_)
    | (refine wpList_storeS whV rfl _ _ rfl rfl rfl rfl rfl (rvl_one _ _ _ _) (H5.out.pick 3) ?_; intro w6 S6))
  refine bodyPost_ret (ret_cellS Try.results26 whV _ rfl rfl rfl S6) rfl ⟨V, J, a', c', rfl, HP2.out, HJ.out, HRD.out, HC.out, ?_, S6.drop.drop.drop.swap.drop⟩
  rcases HS2.out with ⟨rfl, rfl⟩ | h
  · exact HSH.out
  · exact Or.inr h

set_option maxRecDepth 20000 in
theorem does2 (hp : RP n v) (hn : n ≤ 100) (hgd : t.good I) (hr : Rd I a (v.bl.flatMap bc)) (hcc : v.bl.length ≤ c ∧ c ≤ 9223372036854775807) (hsh : (a = none ∧ c = 0) ∨ ∃ b off, a = some ⟨b, off, none⟩) (H : Sat w0 I (volp p v :: L) w) :
    Calls Try.prog 26 #[.pointer (some ⟨p, 0, none⟩), .agg (rvl v (.slice a v.bl.length c)).toArray, .agg #[.int .i64 2, .int .i64 t.n, .int .i64 t.m, .string t.s, .slice t.ca t.cl t.cc, .int .u8 t.by_]] w (DoesPost w0 I L p n) := by
  obtain ⟨g, hg⟩ := H.sizeQ
  have S1 := H.alloc (b := g) (T := 56) (cs := rvl v (.slice a v.bl.length c)) rfl hg.symm
  have S2 := S1.alloc (b := g + 1) (T := 48) (cs := [.int .i64 2, .int .i64 t.n, .int .i64 t.m, .string t.s, .slice t.ca t.cl t.cc, .int .u8 t.by_]) rfl (by simp [hg])
  have S3 := S2.alloc (b := g + 1 + 1) (T := 56) (cs := rv0) rfl (by simp [hg])
  have H3 := hid S3
  have HP := hid hp
  have HR := hid hr
  have HG := hid hgd
  have HSH := hid hsh
  have hlen := hp.len
  clear S1 S2 S3 H hp hr hgd hsh
  go_enter Try.func26, Try.ntmps26
  go_upto_region 1 with fail
  try rw [hg]
  refine wp_gen (fun w1 => Sat w0 I (blk (g + 1 + 1) 56 rv0 :: blk (g + 1) 48 [.int .i64 2, .int .i64 t.n, .int .i64 t.m, .string t.s, .slice t.ca t.cl t.cc, .int .u8 t.by_] :: blk g 56 (rvl v (.slice a v.bl.length c)) ::  volp p v :: L) w1) H3.out ?_
  clear H3 hg
  intro w1 S1
  have d3 := S1.swap.isBlk.cell 3 (v := .string t.s) rfl
  have H1 := hid S1
  clear S1
  go_wp2_with fail
  refine (cut_sat t.s 60 (by omega) HG.out.s H1.out).mono ?_; rintro e w2 ⟨rfl, S2⟩
  have d0 := S2.swap.isBlk.cell 0 (v := .int .i64 2) rfl
  have d1 := S2.swap.isBlk.cell 1 (v := .int .i64 t.n) rfl
  have d2 := S2.swap.isBlk.cell 2 (v := .int .i64 t.m) rfl
  have d4 := S2.swap.isBlk.cell 4 (v := .slice t.ca t.cl t.cc) rfl
  have d5 := S2.swap.isBlk.cell 5 (v := .int .u8 t.by_) rfl
  have hz60 := cutSize t.s 60
  obtain ⟨x, hx⟩ : ∃ x, t.s.extract 0 60 = x := ⟨_, rfl⟩
  rw [hx] at hz60 ⊢
  have H2 := hid S2
  clear S2 H1 d3 hx

  go_wp2_with fail
  have hsm := HP.out.sum hn
  obtain ⟨E, V, hA⟩ : ∃ E V, addS v ⟨⟨#[]⟩, true, false⟩ = (E, V) := ⟨_, _, rfl⟩
  have hp2 := HP.out.add (by omega) (by show (0 : Nat) ≤ 60; omega) (by intro _; rfl) hA
  have HA := hid hA
  have HP2 := hid hp2
  clear hA hp2
  refine (vmark HP.out.ok (by omega) HA.out (H2.out.pick 3)).mono ?_; rintro e w3 ⟨rfl, S3⟩
  have H3 := hid (S3.pick 3)
  clear S3 H2
  go_wp2_with (refine wpList_loadS whV rfl _ rfl rfl rfl H3.out ?_)
  refine (rwrite_sat HP.out.ok ⟨⟨#[]⟩, true, false⟩ (by show (0 : Nat) ≤ 1000; omega) (by omega) HR.out hcc HA.out H3.out).mono ?_; rintro e w4 ⟨J, a', c', rfl, hJ, hrd, hc1, hc2, hs2, S4⟩
  have HJ := hid hJ
  have HRD := hid hrd
  have HC := hid (And.intro hc1 hc2)
  have HS2 := hid hs2
  clear hJ hrd hc1 hc2 hs2
  obtain ⟨q, hq⟩ := S4.sizeQ
  have HQ := hid (S4.alloc (b := q) (T := 56) (cs := rv0) rfl hq.symm)
  clear S4 H3
  go_wp2_with (first
    | (refine wpList_storeS whV rfl _ _ rfl rfl rfl rfl rfl (rvl_one _ _ _ _) HQ.out ?_; intro w5 S5; have H5 := hid S5; clear S5)
    | (refine wpList_loadS whV rfl _ rfl rfl rfl H5.out ?_)
    | (refine wpList_storeS whV rfl _ _ rfl rfl rfl rfl rfl (rvl_one _ _ _ _) (H5.out.pick 3) ?_; intro w6 S6))
  refine bodyPost_ret (ret_cellS Try.results26 whV _ rfl rfl rfl S6) rfl ⟨V, J, a', c', rfl, HP2.out, HJ.out, HRD.out, HC.out, ?_, S6.drop.drop.drop.swap.drop⟩
  rcases HS2.out with ⟨rfl, rfl⟩ | h
  · exact HSH.out
  · exact Or.inr h

set_option maxRecDepth 20000 in
theorem does3 (hp : RP n v) (hn : n ≤ 100) (hgd : t.good I) (hr : Rd I a (v.bl.flatMap bc)) (hcc : v.bl.length ≤ c ∧ c ≤ 9223372036854775807) (hsh : (a = none ∧ c = 0) ∨ ∃ b off, a = some ⟨b, off, none⟩) (H : Sat w0 I (volp p v :: L) w) :
    Calls Try.prog 26 #[.pointer (some ⟨p, 0, none⟩), .agg (rvl v (.slice a v.bl.length c)).toArray, .agg #[.int .i64 3, .int .i64 t.n, .int .i64 t.m, .string t.s, .slice t.ca t.cl t.cc, .int .u8 t.by_]] w (DoesPost w0 I L p n) := by
  obtain ⟨g, hg⟩ := H.sizeQ
  have S1 := H.alloc (b := g) (T := 56) (cs := rvl v (.slice a v.bl.length c)) rfl hg.symm
  have S2 := S1.alloc (b := g + 1) (T := 48) (cs := [.int .i64 3, .int .i64 t.n, .int .i64 t.m, .string t.s, .slice t.ca t.cl t.cc, .int .u8 t.by_]) rfl (by simp [hg])
  have S3 := S2.alloc (b := g + 1 + 1) (T := 56) (cs := rv0) rfl (by simp [hg])
  have H3 := hid S3
  have HP := hid hp
  have HR := hid hr
  have HG := hid hgd
  have HSH := hid hsh
  have hlen := hp.len
  clear S1 S2 S3 H hp hr hgd hsh
  go_enter Try.func26, Try.ntmps26
  go_upto_region 1 with fail
  try rw [hg]
  refine wp_gen (fun w1 => Sat w0 I (blk (g + 1 + 1) 56 rv0 :: blk (g + 1) 48 [.int .i64 3, .int .i64 t.n, .int .i64 t.m, .string t.s, .slice t.ca t.cl t.cc, .int .u8 t.by_] :: blk g 56 (rvl v (.slice a v.bl.length c)) ::  volp p v :: L) w1) H3.out ?_
  clear H3 hg
  intro w1 S1
  have d3 := S1.swap.isBlk.cell 3 (v := .string t.s) rfl
  have H1 := hid S1
  clear S1
  go_wp2_with fail
  refine (cut_sat t.s 60 (by omega) HG.out.s H1.out).mono ?_; rintro e w2 ⟨rfl, S2⟩
  have d0 := S2.swap.isBlk.cell 0 (v := .int .i64 3) rfl
  have d1 := S2.swap.isBlk.cell 1 (v := .int .i64 t.n) rfl
  have d2 := S2.swap.isBlk.cell 2 (v := .int .i64 t.m) rfl
  have d4 := S2.swap.isBlk.cell 4 (v := .slice t.ca t.cl t.cc) rfl
  have d5 := S2.swap.isBlk.cell 5 (v := .int .u8 t.by_) rfl
  have hz60 := cutSize t.s 60
  obtain ⟨x, hx⟩ : ∃ x, t.s.extract 0 60 = x := ⟨_, rfl⟩
  rw [hx] at hz60 ⊢
  have H2 := hid S2
  clear S2 H1 d3 hx

  go_wp2_with fail
  obtain ⟨V, hV⟩ : ∃ V, flushV v = V := ⟨_, rfl⟩
  obtain ⟨E, hE⟩ : ∃ E, flushE v = E := ⟨_, rfl⟩
  have hp2 := HP.out.flush
  have hb2 := flush_bl v
  rw [hV] at hp2 hb2
  have HV := hid hV
  have HE := hid hE
  have HP2 := hid hp2
  clear hV hE hp2
  have HB2 := hid hb2
  clear hb2
  refine (vflush_eq HP.out.ok HE.out HV.out (H2.out.pick 3)).mono ?_; rintro e w3 ⟨rfl, S3⟩
  have H3 := hid (S3.pick 3)
  clear S3 H2
  go_wp2_with (refine wpList_loadS whV rfl _ rfl rfl rfl H3.out ?_)
  refine (rflush_sat HP.out.ok H3.out).mono ?_; rintro e w4 ⟨rfl, S4⟩
  rw [HE.out, HV.out]
  obtain ⟨q, hq⟩ := S4.sizeQ
  have HQ := hid (S4.alloc (b := q) (T := 56) (cs := rv0) rfl hq.symm)
  clear S4 H3
  go_wp2_with (first
    | (refine wpList_storeS whV rfl _ _ rfl rfl rfl rfl rfl (rvl_one _ _ _ _) HQ.out ?_; intro w5 S5; have H5 := hid S5; clear S5)
    | (refine wpList_loadS whV rfl _ rfl rfl rfl H5.out ?_)
    | (refine wpList_storeS whV rfl _ _ rfl rfl rfl rfl rfl (rvl_one _ _ _ _) (H5.out.pick 3) ?_; intro w6 S6))
  refine bodyPost_ret (ret_cellS Try.results26 whV _ rfl rfl rfl S6) rfl ⟨V, I, a, c, (by rw [HB2.out] <;> rfl), HP2.out, Part.le_refl _, by rw [HB2.out]; exact HR.out, by rw [HB2.out]; exact hcc, HSH.out, S6.drop.drop.drop.swap.drop⟩

set_option maxRecDepth 20000 in
theorem does4 (hp : RP n v) (hn : n ≤ 100) (hgd : t.good I) (hr : Rd I a (v.bl.flatMap bc)) (hcc : v.bl.length ≤ c ∧ c ≤ 9223372036854775807) (hsh : (a = none ∧ c = 0) ∨ ∃ b off, a = some ⟨b, off, none⟩) (H : Sat w0 I (volp p v :: L) w) :
    Calls Try.prog 26 #[.pointer (some ⟨p, 0, none⟩), .agg (rvl v (.slice a v.bl.length c)).toArray, .agg #[.int .i64 4, .int .i64 t.n, .int .i64 t.m, .string t.s, .slice t.ca t.cl t.cc, .int .u8 t.by_]] w (DoesPost w0 I L p n) := by
  obtain ⟨g, hg⟩ := H.sizeQ
  have S1 := H.alloc (b := g) (T := 56) (cs := rvl v (.slice a v.bl.length c)) rfl hg.symm
  have S2 := S1.alloc (b := g + 1) (T := 48) (cs := [.int .i64 4, .int .i64 t.n, .int .i64 t.m, .string t.s, .slice t.ca t.cl t.cc, .int .u8 t.by_]) rfl (by simp [hg])
  have S3 := S2.alloc (b := g + 1 + 1) (T := 56) (cs := rv0) rfl (by simp [hg])
  have H3 := hid S3
  have HP := hid hp
  have HR := hid hr
  have HG := hid hgd
  have HSH := hid hsh
  have hlen := hp.len
  clear S1 S2 S3 H hp hr hgd hsh
  go_enter Try.func26, Try.ntmps26
  go_upto_region 1 with fail
  try rw [hg]
  refine wp_gen (fun w1 => Sat w0 I (blk (g + 1 + 1) 56 rv0 :: blk (g + 1) 48 [.int .i64 4, .int .i64 t.n, .int .i64 t.m, .string t.s, .slice t.ca t.cl t.cc, .int .u8 t.by_] :: blk g 56 (rvl v (.slice a v.bl.length c)) ::  volp p v :: L) w1) H3.out ?_
  clear H3 hg
  intro w1 S1
  have d3 := S1.swap.isBlk.cell 3 (v := .string t.s) rfl
  have H1 := hid S1
  clear S1
  go_wp2_with fail
  refine (cut_sat t.s 60 (by omega) HG.out.s H1.out).mono ?_; rintro e w2 ⟨rfl, S2⟩
  have d0 := S2.swap.isBlk.cell 0 (v := .int .i64 4) rfl
  have d1 := S2.swap.isBlk.cell 1 (v := .int .i64 t.n) rfl
  have d2 := S2.swap.isBlk.cell 2 (v := .int .i64 t.m) rfl
  have d4 := S2.swap.isBlk.cell 4 (v := .slice t.ca t.cl t.cc) rfl
  have d5 := S2.swap.isBlk.cell 5 (v := .int .u8 t.by_) rfl
  have hz60 := cutSize t.s 60
  obtain ⟨x, hx⟩ : ∃ x, t.s.extract 0 60 = x := ⟨_, rfl⟩
  rw [hx] at hz60 ⊢
  have H2 := hid S2
  clear S2 H1 d3 hx

  obtain ⟨s, m, E, V, hA⟩ : ∃ s m E V, readS v = ((s, m, E), V) := ⟨_, _, _, _, rfl⟩
  have hp2 := HP.out.read hA
  have hb2 := read_bl hA
  have HA := hid hA
  have HP2 := hid hp2
  clear hA hp2
  have HB2 := hid hb2
  clear hb2
  go_wp2_with fail
  refine (vread HP.out.ok HA.out (H2.out.pick 3)).mono ?_; rintro e w3 ⟨rfl, S3⟩
  have H3 := hid (S3.pick 3)
  clear S3 H2
  go_wp2_with (refine wpList_loadS whV rfl _ rfl rfl rfl H3.out ?_)
  refine (rread_sat HP.out.ok HR.out HA.out H3.out).mono ?_; rintro e w4 ⟨rfl, S12⟩
  obtain ⟨q2, hq2⟩ := S12.sizeQ
  have S13 := S12.alloc (b := q2) (T := 56) (cs := rv0) rfl hq2.symm
  have H13 := hid (S13.alloc (b := q2 + 1) (T := 65) (cs := bc ⟨⟨#[]⟩, false, false⟩) rfl (by simp [hq2])).swap
  clear S12 S13 H3
  go_upto_region 18 with (first
    | (refine wpList_storeS whV rfl _ _ rfl rfl rfl rfl rfl (rvl_one _ _ _ _) H13.out ?_; intro w14 S14; have H14 := hid S14.swap; clear S14)
    | (refine wpList_storeS whB rfl _ _ rfl rfl rfl rfl rfl (bc_one1 _) H14.out ?_; intro w15 S15))
  clear H13 H14 hq2
  have e0 := S15.isBlk.cell 0 (v := .string s) rfl
  have e1 := S15.isBlk.cell 1 (v := .bool m) rfl
  have c0 := (S15.pick 1).isBlk.cell 0 (v := (.slice a v.bl.length c)) rfl
  have c1 := (S15.pick 1).isBlk.cell 1 (v := (.int .i64 V.sure)) rfl
  have c2 := (S15.pick 1).isBlk.cell 2 (v := (.int .i64 V.at_)) rfl
  have c3 := (S15.pick 1).isBlk.cell 3 (v := (.int .i64 V.room)) rfl
  have c4 := (S15.pick 1).isBlk.cell 4 (v := (.int .i64 V.erased)) rfl
  have c5 := (S15.pick 1).isBlk.cell 5 (v := (.string V.label)) rfl
  have c6 := (S15.pick 1).isBlk.cell 6 (v := (.bool V.prot)) rfl
  have c7 := (S15.pick 1).isBlk.cell 7 (v := (.bool V.lost)) rfl
  have c8 := (S15.pick 1).isBlk.cell 8 (v := (.int .i64 (V.armed - 1))) rfl
  have t0 := (S15.pick 4).isBlk.cell 0 (v := .slice none 0 0) rfl
  have ft0 := (S15.pick 4).isBlk.frozen 0
  have t1 := (S15.pick 4).isBlk.cell 1 (v := .int .i64 0) rfl
  have ft1 := (S15.pick 4).isBlk.frozen 1
  have t2 := (S15.pick 4).isBlk.cell 2 (v := .int .i64 0) rfl
  have ft2 := (S15.pick 4).isBlk.frozen 2
  have t3 := (S15.pick 4).isBlk.cell 3 (v := .int .i64 0) rfl
  have ft3 := (S15.pick 4).isBlk.frozen 3
  have t4 := (S15.pick 4).isBlk.cell 4 (v := .int .i64 0) rfl
  have ft4 := (S15.pick 4).isBlk.frozen 4
  have t5 := (S15.pick 4).isBlk.cell 5 (v := .string ⟨#[]⟩) rfl
  have ft5 := (S15.pick 4).isBlk.frozen 5
  have t6 := (S15.pick 4).isBlk.cell 6 (v := .bool false) rfl
  have ft6 := (S15.pick 4).isBlk.frozen 6
  have t7 := (S15.pick 4).isBlk.cell 7 (v := .bool false) rfl
  have ft7 := (S15.pick 4).isBlk.frozen 7
  have t8 := (S15.pick 4).isBlk.cell 8 (v := .int .i64 0) rfl
  have ft8 := (S15.pick 4).isBlk.frozen 8
  have HY := hid (show Sat w0 I (blk (g + 1 + 1) 56 (rvl V (.slice a v.bl.length c)) :: blk (q2 + 1) 65 (bc ⟨s, m, false⟩) :: blk q2 56 (rvl V (.slice a v.bl.length c)) :: blk g 56 (rvl v (.slice a v.bl.length c)) :: volp p V :: blk (g + 1) 48 [.int .i64 4, .int .i64 t.n, .int .i64 t.m, .string t.s, .slice t.ca t.cl t.cc, .int .u8 t.by_] :: L) _ from ((((((((((S15.pick 4).set 0 (.slice a v.bl.length c) rfl).set 1 (.int .i64 V.sure) rfl).set 2 (.int .i64 V.at_) rfl).set 3 (.int .i64 V.room) rfl).set 4 (.int .i64 V.erased) rfl).set 5 (.string V.label) rfl).set 6 (.bool V.prot) rfl).set 7 (.bool V.lost) rfl).set 8 (.int .i64 (V.armed - 1)) rfl).drew)
  have n1 := (S15.pick 4).ne
  have n2 := (S15.drop.pick 3).ne
  have n3 : g + 1 ≠ q2 := fun e => n1 (by rw [e])
  have n4 : q2 ≠ g + 1 := fun e => n3 e.symm
  have n5 : q2 ≠ g + 1 + 1 := fun e => n2 e.symm
  have n6 : q2 + 1 ≠ g + 1 + 1 := fun e => n1 e.symm
  clear S15
  go_region
  all_goals
    go_wp2_with fail
    with_reducible refine body_gen (fun w => Sat w0 I (blk (g + 1 + 1) 56 (rvl V (.slice a v.bl.length c)) :: blk (q2 + 1) 65 (bc ⟨s, m, false⟩) :: blk q2 56 (rvl V (.slice a v.bl.length c)) :: blk g 56 (rvl v (.slice a v.bl.length c)) :: volp p V :: blk (g + 1) 48 [.int .i64 4, .int .i64 t.n, .int .i64 t.m, .string t.s, .slice t.ca t.cl t.cc, .int .u8 t.by_] :: L) w) HY.out ?_
    intro w6 S6
    refine bodyPost_ret (ret_cellS Try.results26 whV _ rfl rfl rfl S6) rfl ⟨V, I, a, c, (by rw [HB2.out] <;> rfl), HP2.out, Part.le_refl _, by rw [HB2.out]; exact HR.out, by rw [HB2.out]; exact hcc, HSH.out, S6.drop.drop.drop.drop.swap.drop⟩

set_option maxRecDepth 20000 in
theorem does5 (hp : RP n v) (hn : n ≤ 100) (hgd : t.good I) (hr : Rd I a (v.bl.flatMap bc)) (hcc : v.bl.length ≤ c ∧ c ≤ 9223372036854775807) (hsh : (a = none ∧ c = 0) ∨ ∃ b off, a = some ⟨b, off, none⟩) (H : Sat w0 I (volp p v :: L) w) :
    Calls Try.prog 26 #[.pointer (some ⟨p, 0, none⟩), .agg (rvl v (.slice a v.bl.length c)).toArray, .agg #[.int .i64 5, .int .i64 t.n, .int .i64 t.m, .string t.s, .slice t.ca t.cl t.cc, .int .u8 t.by_]] w (DoesPost w0 I L p n) := by
  obtain ⟨g, hg⟩ := H.sizeQ
  have S1 := H.alloc (b := g) (T := 56) (cs := rvl v (.slice a v.bl.length c)) rfl hg.symm
  have S2 := S1.alloc (b := g + 1) (T := 48) (cs := [.int .i64 5, .int .i64 t.n, .int .i64 t.m, .string t.s, .slice t.ca t.cl t.cc, .int .u8 t.by_]) rfl (by simp [hg])
  have S3 := S2.alloc (b := g + 1 + 1) (T := 56) (cs := rv0) rfl (by simp [hg])
  have H3 := hid S3
  have HP := hid hp
  have HR := hid hr
  have HG := hid hgd
  have HSH := hid hsh
  have hlen := hp.len
  clear S1 S2 S3 H hp hr hgd hsh
  go_enter Try.func26, Try.ntmps26
  go_upto_region 1 with fail
  try rw [hg]
  refine wp_gen (fun w1 => Sat w0 I (blk (g + 1 + 1) 56 rv0 :: blk (g + 1) 48 [.int .i64 5, .int .i64 t.n, .int .i64 t.m, .string t.s, .slice t.ca t.cl t.cc, .int .u8 t.by_] :: blk g 56 (rvl v (.slice a v.bl.length c)) ::  volp p v :: L) w1) H3.out ?_
  clear H3 hg
  intro w1 S1
  have d3 := S1.swap.isBlk.cell 3 (v := .string t.s) rfl
  have H1 := hid S1
  clear S1
  go_wp2_with fail
  refine (cut_sat t.s 60 (by omega) HG.out.s H1.out).mono ?_; rintro e w2 ⟨rfl, S2⟩
  have d0 := S2.swap.isBlk.cell 0 (v := .int .i64 5) rfl
  have d1 := S2.swap.isBlk.cell 1 (v := .int .i64 t.n) rfl
  have d2 := S2.swap.isBlk.cell 2 (v := .int .i64 t.m) rfl
  have d4 := S2.swap.isBlk.cell 4 (v := .slice t.ca t.cl t.cc) rfl
  have d5 := S2.swap.isBlk.cell 5 (v := .int .u8 t.by_) rfl
  have hz60 := cutSize t.s 60
  obtain ⟨x, hx⟩ : ∃ x, t.s.extract 0 60 = x := ⟨_, rfl⟩
  rw [hx] at hz60 ⊢
  have H2 := hid S2
  clear S2 H1 d3 hx

  go_wp2_with fail
  obtain ⟨E, V, hA⟩ : ∃ E V, seekS v t.n = (E, V) := ⟨_, _, rfl⟩
  have hp2 := HP.out.seek t.n hA
  have hb2 := seek_bl hA
  have HA := hid hA
  have HP2 := hid hp2
  clear hA hp2
  have HB2 := hid hb2
  clear hb2
  refine (vseek t.n HP.out.ok HA.out (H2.out.pick 3)).mono ?_; rintro e w3 ⟨rfl, S3⟩
  clear d1
  have d1 := (S3.pick 2).isBlk.cell 1 (v := .int .i64 t.n) rfl
  have H3 := hid (S3.pick 3)
  clear S3 H2
  go_wp2_with (refine wpList_loadS whV rfl _ rfl rfl rfl H3.out ?_)
  refine (rseek_sat t.n HP.out.ok HA.out H3.out).mono ?_; rintro e w4 ⟨rfl, S4⟩
  obtain ⟨q, hq⟩ := S4.sizeQ
  have HQ := hid (S4.alloc (b := q) (T := 56) (cs := rv0) rfl hq.symm)
  clear S4 H3
  go_wp2_with (first
    | (refine wpList_storeS whV rfl _ _ rfl rfl rfl rfl rfl (rvl_one _ _ _ _) HQ.out ?_; intro w5 S5; have H5 := hid S5; clear S5)
    | (refine wpList_loadS whV rfl _ rfl rfl rfl H5.out ?_)
    | (refine wpList_storeS whV rfl _ _ rfl rfl rfl rfl rfl (rvl_one _ _ _ _) (H5.out.pick 3) ?_; intro w6 S6))
  refine bodyPost_ret (ret_cellS Try.results26 whV _ rfl rfl rfl S6) rfl ⟨V, I, a, c, (by rw [HB2.out] <;> rfl), HP2.out, Part.le_refl _, by rw [HB2.out]; exact HR.out, by rw [HB2.out]; exact hcc, HSH.out, S6.drop.drop.drop.swap.drop⟩

set_option maxRecDepth 20000 in
theorem does6 (hp : RP n v) (hn : n ≤ 100) (hgd : t.good I) (hr : Rd I a (v.bl.flatMap bc)) (hcc : v.bl.length ≤ c ∧ c ≤ 9223372036854775807) (hsh : (a = none ∧ c = 0) ∨ ∃ b off, a = some ⟨b, off, none⟩) (H : Sat w0 I (volp p v :: L) w) :
    Calls Try.prog 26 #[.pointer (some ⟨p, 0, none⟩), .agg (rvl v (.slice a v.bl.length c)).toArray, .agg #[.int .i64 6, .int .i64 t.n, .int .i64 t.m, .string t.s, .slice t.ca t.cl t.cc, .int .u8 t.by_]] w (DoesPost w0 I L p n) := by
  obtain ⟨g, hg⟩ := H.sizeQ
  have S1 := H.alloc (b := g) (T := 56) (cs := rvl v (.slice a v.bl.length c)) rfl hg.symm
  have S2 := S1.alloc (b := g + 1) (T := 48) (cs := [.int .i64 6, .int .i64 t.n, .int .i64 t.m, .string t.s, .slice t.ca t.cl t.cc, .int .u8 t.by_]) rfl (by simp [hg])
  have S3 := S2.alloc (b := g + 1 + 1) (T := 56) (cs := rv0) rfl (by simp [hg])
  have H3 := hid S3
  have HP := hid hp
  have HR := hid hr
  have HG := hid hgd
  have HSH := hid hsh
  have hlen := hp.len
  clear S1 S2 S3 H hp hr hgd hsh
  go_enter Try.func26, Try.ntmps26
  go_upto_region 1 with fail
  try rw [hg]
  refine wp_gen (fun w1 => Sat w0 I (blk (g + 1 + 1) 56 rv0 :: blk (g + 1) 48 [.int .i64 6, .int .i64 t.n, .int .i64 t.m, .string t.s, .slice t.ca t.cl t.cc, .int .u8 t.by_] :: blk g 56 (rvl v (.slice a v.bl.length c)) ::  volp p v :: L) w1) H3.out ?_
  clear H3 hg
  intro w1 S1
  have d3 := S1.swap.isBlk.cell 3 (v := .string t.s) rfl
  have H1 := hid S1
  clear S1
  go_wp2_with fail
  refine (cut_sat t.s 60 (by omega) HG.out.s H1.out).mono ?_; rintro e w2 ⟨rfl, S2⟩
  have d0 := S2.swap.isBlk.cell 0 (v := .int .i64 6) rfl
  have d1 := S2.swap.isBlk.cell 1 (v := .int .i64 t.n) rfl
  have d2 := S2.swap.isBlk.cell 2 (v := .int .i64 t.m) rfl
  have d4 := S2.swap.isBlk.cell 4 (v := .slice t.ca t.cl t.cc) rfl
  have d5 := S2.swap.isBlk.cell 5 (v := .int .u8 t.by_) rfl
  have hz60 := cutSize t.s 60
  obtain ⟨x, hx⟩ : ∃ x, t.s.extract 0 60 = x := ⟨_, rfl⟩
  rw [hx] at hz60 ⊢
  have H2 := hid S2
  clear S2 H1 d3 hx

  go_wp2_with fail
  obtain ⟨E, V, hA⟩ : ∃ E V, skipS v = (E, V) := ⟨_, _, rfl⟩
  have hp2 := HP.out.skip hA
  have hb2 := skip_bl hA
  have HA := hid hA
  have HP2 := hid hp2
  clear hA hp2
  have HB2 := hid hb2
  clear hb2
  refine (vskip HP.out.ok HA.out (H2.out.pick 3)).mono ?_; rintro e w3 ⟨rfl, S3⟩
  have H3 := hid (S3.pick 3)
  clear S3 H2
  go_wp2_with (refine wpList_loadS whV rfl _ rfl rfl rfl H3.out ?_)
  refine (rskip_sat HP.out.ok HR.out HA.out H3.out).mono ?_; rintro e w4 ⟨rfl, S4⟩
  obtain ⟨q, hq⟩ := S4.sizeQ
  have HQ := hid (S4.alloc (b := q) (T := 56) (cs := rv0) rfl hq.symm)
  clear S4 H3
  go_wp2_with (first
    | (refine wpList_storeS whV rfl _ _ rfl rfl rfl rfl rfl (rvl_one _ _ _ _) HQ.out ?_; intro w5 S5; have H5 := hid S5; clear S5)
    | (refine wpList_loadS whV rfl _ rfl rfl rfl H5.out ?_)
    | (refine wpList_storeS whV rfl _ _ rfl rfl rfl rfl rfl (rvl_one _ _ _ _) (H5.out.pick 3) ?_; intro w6 S6))
  refine bodyPost_ret (ret_cellS Try.results26 whV _ rfl rfl rfl S6) rfl ⟨V, I, a, c, (by rw [HB2.out] <;> rfl), HP2.out, Part.le_refl _, by rw [HB2.out]; exact HR.out, by rw [HB2.out]; exact hcc, HSH.out, S6.drop.drop.drop.swap.drop⟩

set_option maxRecDepth 20000 in
theorem does7 (hp : RP n v) (hn : n ≤ 100) (hgd : t.good I) (hr : Rd I a (v.bl.flatMap bc)) (hcc : v.bl.length ≤ c ∧ c ≤ 9223372036854775807) (hsh : (a = none ∧ c = 0) ∨ ∃ b off, a = some ⟨b, off, none⟩) (H : Sat w0 I (volp p v :: L) w) :
    Calls Try.prog 26 #[.pointer (some ⟨p, 0, none⟩), .agg (rvl v (.slice a v.bl.length c)).toArray, .agg #[.int .i64 7, .int .i64 t.n, .int .i64 t.m, .string t.s, .slice t.ca t.cl t.cc, .int .u8 t.by_]] w (DoesPost w0 I L p n) := by
  obtain ⟨g, hg⟩ := H.sizeQ
  have S1 := H.alloc (b := g) (T := 56) (cs := rvl v (.slice a v.bl.length c)) rfl hg.symm
  have S2 := S1.alloc (b := g + 1) (T := 48) (cs := [.int .i64 7, .int .i64 t.n, .int .i64 t.m, .string t.s, .slice t.ca t.cl t.cc, .int .u8 t.by_]) rfl (by simp [hg])
  have S3 := S2.alloc (b := g + 1 + 1) (T := 56) (cs := rv0) rfl (by simp [hg])
  have H3 := hid S3
  have HP := hid hp
  have HR := hid hr
  have HG := hid hgd
  have HSH := hid hsh
  have hlen := hp.len
  clear S1 S2 S3 H hp hr hgd hsh
  go_enter Try.func26, Try.ntmps26
  go_upto_region 1 with fail
  try rw [hg]
  refine wp_gen (fun w1 => Sat w0 I (blk (g + 1 + 1) 56 rv0 :: blk (g + 1) 48 [.int .i64 7, .int .i64 t.n, .int .i64 t.m, .string t.s, .slice t.ca t.cl t.cc, .int .u8 t.by_] :: blk g 56 (rvl v (.slice a v.bl.length c)) ::  volp p v :: L) w1) H3.out ?_
  clear H3 hg
  intro w1 S1
  have d3 := S1.swap.isBlk.cell 3 (v := .string t.s) rfl
  have H1 := hid S1
  clear S1
  go_wp2_with fail
  refine (cut_sat t.s 60 (by omega) HG.out.s H1.out).mono ?_; rintro e w2 ⟨rfl, S2⟩
  have d0 := S2.swap.isBlk.cell 0 (v := .int .i64 7) rfl
  have d1 := S2.swap.isBlk.cell 1 (v := .int .i64 t.n) rfl
  have d2 := S2.swap.isBlk.cell 2 (v := .int .i64 t.m) rfl
  have d4 := S2.swap.isBlk.cell 4 (v := .slice t.ca t.cl t.cc) rfl
  have d5 := S2.swap.isBlk.cell 5 (v := .int .u8 t.by_) rfl
  have hz60 := cutSize t.s 60
  obtain ⟨x, hx⟩ : ∃ x, t.s.extract 0 60 = x := ⟨_, rfl⟩
  rw [hx] at hz60 ⊢
  have H2 := hid S2
  clear S2 H1 d3 hx

  go_wp2_with fail
  obtain ⟨E, V, hA⟩ : ∃ E V, trimS v = (E, V) := ⟨_, _, rfl⟩
  have hp2 := HP.out.trim hA
  have hb2 := trim_bl hA
  have HA := hid hA
  have HP2 := hid hp2
  clear hA hp2
  have HB2 := hid hb2
  clear hb2
  refine (vtrim HP.out.ok HA.out (H2.out.pick 3)).mono ?_; rintro e w3 ⟨rfl, S3⟩
  have H3 := hid (S3.pick 3)
  clear S3 H2
  go_wp2_with (refine wpList_loadS whV rfl _ rfl rfl rfl H3.out ?_)
  refine (rtrim_sat HP.out.ok HR.out hcc.1 HA.out H3.out).mono ?_; rintro e w4 ⟨rfl, S4⟩
  obtain ⟨q, hq⟩ := S4.sizeQ
  have HQ := hid (S4.alloc (b := q) (T := 56) (cs := rv0) rfl hq.symm)
  clear S4 H3
  go_wp2_with (first
    | (refine wpList_storeS whV rfl _ _ rfl rfl rfl rfl rfl (rvl_one _ _ _ _) HQ.out ?_; intro w5 S5; have H5 := hid S5; clear S5)
    | (refine wpList_loadS whV rfl _ rfl rfl rfl H5.out ?_)
    | (refine wpList_storeS whV rfl _ _ rfl rfl rfl rfl rfl (rvl_one _ _ _ _) (H5.out.pick 3) ?_; intro w6 S6))
  refine bodyPost_ret (ret_cellS Try.results26 whV _ rfl rfl rfl S6) rfl ⟨V, I, a, c, rfl, HP2.out, Part.le_refl _, ?_, ?_, HSH.out, S6.drop.drop.drop.swap.drop⟩
  · obtain ⟨k, hk⟩ := HB2.out
    rw [hk]; exact rd_take HR.out k
  · obtain ⟨k, hk⟩ := HB2.out
    rw [hk, List.length_take]; omega

set_option maxRecDepth 20000 in
theorem does8 (hp : RP n v) (hn : n ≤ 100) (hgd : t.good I) (hr : Rd I a (v.bl.flatMap bc)) (hcc : v.bl.length ≤ c ∧ c ≤ 9223372036854775807) (hsh : (a = none ∧ c = 0) ∨ ∃ b off, a = some ⟨b, off, none⟩) (H : Sat w0 I (volp p v :: L) w) :
    Calls Try.prog 26 #[.pointer (some ⟨p, 0, none⟩), .agg (rvl v (.slice a v.bl.length c)).toArray, .agg #[.int .i64 8, .int .i64 t.n, .int .i64 t.m, .string t.s, .slice t.ca t.cl t.cc, .int .u8 t.by_]] w (DoesPost w0 I L p n) := by
  obtain ⟨g, hg⟩ := H.sizeQ
  have S1 := H.alloc (b := g) (T := 56) (cs := rvl v (.slice a v.bl.length c)) rfl hg.symm
  have S2 := S1.alloc (b := g + 1) (T := 48) (cs := [.int .i64 8, .int .i64 t.n, .int .i64 t.m, .string t.s, .slice t.ca t.cl t.cc, .int .u8 t.by_]) rfl (by simp [hg])
  have S3 := S2.alloc (b := g + 1 + 1) (T := 56) (cs := rv0) rfl (by simp [hg])
  have H3 := hid S3
  have HP := hid hp
  have HR := hid hr
  have HG := hid hgd
  have HSH := hid hsh
  have hlen := hp.len
  clear S1 S2 S3 H hp hr hgd hsh
  go_enter Try.func26, Try.ntmps26
  go_upto_region 1 with fail
  try rw [hg]
  refine wp_gen (fun w1 => Sat w0 I (blk (g + 1 + 1) 56 rv0 :: blk (g + 1) 48 [.int .i64 8, .int .i64 t.n, .int .i64 t.m, .string t.s, .slice t.ca t.cl t.cc, .int .u8 t.by_] :: blk g 56 (rvl v (.slice a v.bl.length c)) ::  volp p v :: L) w1) H3.out ?_
  clear H3 hg
  intro w1 S1
  have d3 := S1.swap.isBlk.cell 3 (v := .string t.s) rfl
  have H1 := hid S1
  clear S1
  go_wp2_with fail
  refine (cut_sat t.s 60 (by omega) HG.out.s H1.out).mono ?_; rintro e w2 ⟨rfl, S2⟩
  have d0 := S2.swap.isBlk.cell 0 (v := .int .i64 8) rfl
  have d1 := S2.swap.isBlk.cell 1 (v := .int .i64 t.n) rfl
  have d2 := S2.swap.isBlk.cell 2 (v := .int .i64 t.m) rfl
  have d4 := S2.swap.isBlk.cell 4 (v := .slice t.ca t.cl t.cc) rfl
  have d5 := S2.swap.isBlk.cell 5 (v := .int .u8 t.by_) rfl
  have hz60 := cutSize t.s 60
  obtain ⟨x, hx⟩ : ∃ x, t.s.extract 0 60 = x := ⟨_, rfl⟩
  rw [hx] at hz60 ⊢
  have H2 := hid S2
  clear S2 H1 d3 hx

  go_wp2_with fail
  obtain ⟨E, V, hA⟩ : ∃ E V, eraseS v x = (E, V) := ⟨_, _, rfl⟩
  have hp2 := HP.out.erase (by omega) x hA
  have HA := hid hA
  have HP2 := hid hp2
  clear hA hp2
  refine (verase x HP.out.ok HA.out (H2.out.pick 3)).mono ?_; rintro e w3 ⟨rfl, S3⟩
  have H3 := hid (S3.pick 3)
  clear S3 H2
  go_wp2_with (refine wpList_loadS whV rfl _ rfl rfl rfl H3.out ?_)
  refine (rerase_sat x HP.out.ok HA.out H3.out).mono ?_; rintro e w4 ⟨⟨rfl, hb2⟩ | ⟨rfl, hb2⟩, S4⟩
  · have HB2 := hid hb2
    clear hb2

    obtain ⟨q, hq⟩ := S4.sizeQ
    have HQ := hid (S4.alloc (b := q) (T := 56) (cs := rv0) rfl hq.symm)
    clear S4 H3
    go_wp2_with (first
      | (refine wpList_storeS whV rfl _ _ rfl rfl rfl rfl rfl (rvl_one _ _ _ _) HQ.out ?_; intro w5 S5; have H5 := hid S5; clear S5)
      | (refine wpList_loadS whV rfl _ rfl rfl rfl H5.out ?_)
      | (refine wpList_storeS whV rfl _ _ rfl rfl rfl rfl rfl (rvl_one _ _ _ _) (H5.out.pick 3) ?_; intro w6 S6))
    refine bodyPost_ret (ret_cellS Try.results26 whV _ rfl rfl rfl S6) rfl ⟨V, I, a, c, (by rw [HB2.out] <;> rfl), HP2.out, Part.le_refl _, by rw [HB2.out]; exact HR.out, by rw [HB2.out]; exact hcc, HSH.out, S6.drop.drop.drop.swap.drop⟩
  · have HB2 := hid hb2
    clear hb2

    obtain ⟨q, hq⟩ := S4.sizeQ
    have HQ := hid (S4.alloc (b := q) (T := 56) (cs := rv0) rfl hq.symm)
    clear S4 H3
    go_wp2_with (first
      | (refine wpList_storeS whV rfl _ _ rfl rfl rfl rfl rfl (rvl_one _ _ _ _) HQ.out ?_; intro w5 S5; have H5 := hid S5; clear S5)
      | (refine wpList_loadS whV rfl _ rfl rfl rfl H5.out ?_)
      | (refine wpList_storeS whV rfl _ _ rfl rfl rfl rfl rfl (rvl_one _ _ _ _) (H5.out.pick 3) ?_; intro w6 S6))
    refine bodyPost_ret (ret_cellS Try.results26 whV _ rfl rfl rfl S6) rfl ⟨V, I, none, 0, (by rw [HB2.out] <;> rfl), HP2.out, Part.le_refl _, by rw [HB2.out]; exact Rd.nil _ _, by rw [HB2.out]; exact ⟨Nat.le_refl _, by decide⟩, Or.inl ⟨rfl, rfl⟩, S6.drop.drop.drop.swap.drop⟩

set_option maxRecDepth 20000 in
theorem does9 (hp : RP n v) (hn : n ≤ 100) (hgd : t.good I) (hr : Rd I a (v.bl.flatMap bc)) (hcc : v.bl.length ≤ c ∧ c ≤ 9223372036854775807) (hsh : (a = none ∧ c = 0) ∨ ∃ b off, a = some ⟨b, off, none⟩) (H : Sat w0 I (volp p v :: L) w) :
    Calls Try.prog 26 #[.pointer (some ⟨p, 0, none⟩), .agg (rvl v (.slice a v.bl.length c)).toArray, .agg #[.int .i64 9, .int .i64 t.n, .int .i64 t.m, .string t.s, .slice t.ca t.cl t.cc, .int .u8 t.by_]] w (DoesPost w0 I L p n) := by
  obtain ⟨g, hg⟩ := H.sizeQ
  have S1 := H.alloc (b := g) (T := 56) (cs := rvl v (.slice a v.bl.length c)) rfl hg.symm
  have S2 := S1.alloc (b := g + 1) (T := 48) (cs := [.int .i64 9, .int .i64 t.n, .int .i64 t.m, .string t.s, .slice t.ca t.cl t.cc, .int .u8 t.by_]) rfl (by simp [hg])
  have S3 := S2.alloc (b := g + 1 + 1) (T := 56) (cs := rv0) rfl (by simp [hg])
  have H3 := hid S3
  have HP := hid hp
  have HR := hid hr
  have HG := hid hgd
  have HSH := hid hsh
  have hlen := hp.len
  clear S1 S2 S3 H hp hr hgd hsh
  go_enter Try.func26, Try.ntmps26
  go_upto_region 1 with fail
  try rw [hg]
  refine wp_gen (fun w1 => Sat w0 I (blk (g + 1 + 1) 56 rv0 :: blk (g + 1) 48 [.int .i64 9, .int .i64 t.n, .int .i64 t.m, .string t.s, .slice t.ca t.cl t.cc, .int .u8 t.by_] :: blk g 56 (rvl v (.slice a v.bl.length c)) ::  volp p v :: L) w1) H3.out ?_
  clear H3 hg
  intro w1 S1
  have d3 := S1.swap.isBlk.cell 3 (v := .string t.s) rfl
  have H1 := hid S1
  clear S1
  go_wp2_with fail
  refine (cut_sat t.s 60 (by omega) HG.out.s H1.out).mono ?_; rintro e w2 ⟨rfl, S2⟩
  have d0 := S2.swap.isBlk.cell 0 (v := .int .i64 9) rfl
  have d1 := S2.swap.isBlk.cell 1 (v := .int .i64 t.n) rfl
  have d2 := S2.swap.isBlk.cell 2 (v := .int .i64 t.m) rfl
  have d4 := S2.swap.isBlk.cell 4 (v := .slice t.ca t.cl t.cc) rfl
  have d5 := S2.swap.isBlk.cell 5 (v := .int .u8 t.by_) rfl
  have hz60 := cutSize t.s 60
  obtain ⟨x, hx⟩ : ∃ x, t.s.extract 0 60 = x := ⟨_, rfl⟩
  rw [hx] at hz60 ⊢
  have H2 := hid S2
  clear S2 H1 d3 hx

  obtain ⟨V, hA⟩ : ∃ V, crashV v t.zs = V := ⟨_, rfl⟩
  have hp2 := HP.out.crash t.zs
  rw [hA] at hp2
  have HA := hid hA
  have HP2 := hid hp2
  clear hA hp2
  go_wp2_with fail
  refine (vcrash t.ca t.cc t.cl t.zs HG.out.zl HG.out.cl HG.out.rd HG.out.zb HP.out.ok HA.out (H2.out.pick 3)).mono ?_; rintro e w3 ⟨rfl, S3⟩
  clear d4
  have d4 := (S3.pick 2).isBlk.cell 4 (v := .slice t.ca t.cl t.cc) rfl
  have H3 := hid (S3.pick 3)
  clear S3 H2
  go_wp2_with (refine wpList_loadS whV rfl _ rfl rfl rfl H3.out ?_)
  refine (rcrash_sat HP.out.ok HP.out.marks HR.out hcc HSH.out t.ca t.cc t.cl t.zs HG.out.zl HG.out.cl HG.out.rd HG.out.zb HA.out H3.out).mono ?_; rintro e w4 ⟨J, a', c', rfl, hJ, hrd, hc1, hc2, hs2, S4⟩
  have HJ := hid hJ
  have HRD := hid hrd
  have HC := hid (And.intro hc1 hc2)
  have HS2 := hid hs2
  have H4 := hid S4
  clear hJ hrd hc1 hc2 hs2 S4 H3
  go_wp2_with (refine wpList_storeS whV rfl _ _ rfl rfl rfl rfl rfl (rvl_one _ _ _ _) (H4.out.pick 2) ?_; intro w6 S6)
  refine bodyPost_ret (ret_cellS Try.results26 whV _ rfl rfl rfl S6) rfl ⟨V, J, a', c', rfl, HP2.out, HJ.out, HRD.out, HC.out, Or.inr HS2.out, S6.drop.drop.swap.drop⟩

set_option maxRecDepth 20000 in
theorem does10 (hp : RP n v) (hn : n ≤ 100) (hgd : t.good I) (hr : Rd I a (v.bl.flatMap bc)) (hcc : v.bl.length ≤ c ∧ c ≤ 9223372036854775807) (hsh : (a = none ∧ c = 0) ∨ ∃ b off, a = some ⟨b, off, none⟩) (H : Sat w0 I (volp p v :: L) w) :
    Calls Try.prog 26 #[.pointer (some ⟨p, 0, none⟩), .agg (rvl v (.slice a v.bl.length c)).toArray, .agg #[.int .i64 10, .int .i64 t.n, .int .i64 t.m, .string t.s, .slice t.ca t.cl t.cc, .int .u8 t.by_]] w (DoesPost w0 I L p n) := by
  obtain ⟨g, hg⟩ := H.sizeQ
  have S1 := H.alloc (b := g) (T := 56) (cs := rvl v (.slice a v.bl.length c)) rfl hg.symm
  have S2 := S1.alloc (b := g + 1) (T := 48) (cs := [.int .i64 10, .int .i64 t.n, .int .i64 t.m, .string t.s, .slice t.ca t.cl t.cc, .int .u8 t.by_]) rfl (by simp [hg])
  have S3 := S2.alloc (b := g + 1 + 1) (T := 56) (cs := rv0) rfl (by simp [hg])
  have H3 := hid S3
  have HP := hid hp
  have HR := hid hr
  have HG := hid hgd
  have HSH := hid hsh
  have hlen := hp.len
  clear S1 S2 S3 H hp hr hgd hsh
  go_enter Try.func26, Try.ntmps26
  go_upto_region 1 with fail
  try rw [hg]
  refine wp_gen (fun w1 => Sat w0 I (blk (g + 1 + 1) 56 rv0 :: blk (g + 1) 48 [.int .i64 10, .int .i64 t.n, .int .i64 t.m, .string t.s, .slice t.ca t.cl t.cc, .int .u8 t.by_] :: blk g 56 (rvl v (.slice a v.bl.length c)) ::  volp p v :: L) w1) H3.out ?_
  clear H3 hg
  intro w1 S1
  have d3 := S1.swap.isBlk.cell 3 (v := .string t.s) rfl
  have H1 := hid S1
  clear S1
  go_wp2_with fail
  refine (cut_sat t.s 60 (by omega) HG.out.s H1.out).mono ?_; rintro e w2 ⟨rfl, S2⟩
  have d0 := S2.swap.isBlk.cell 0 (v := .int .i64 10) rfl
  have d1 := S2.swap.isBlk.cell 1 (v := .int .i64 t.n) rfl
  have d2 := S2.swap.isBlk.cell 2 (v := .int .i64 t.m) rfl
  have d4 := S2.swap.isBlk.cell 4 (v := .slice t.ca t.cl t.cc) rfl
  have d5 := S2.swap.isBlk.cell 5 (v := .int .u8 t.by_) rfl
  have hz60 := cutSize t.s 60
  obtain ⟨x, hx⟩ : ∃ x, t.s.extract 0 60 = x := ⟨_, rfl⟩
  rw [hx] at hz60 ⊢
  have H2 := hid S2
  clear S2 H1 d3 hx

  go_upto_region 39 with fail
  go_cut [7] (fun _ wx => Sat w0 I (volp p {v with armed := failA t.n} :: blk (g + 1 + 1) 56 rv0 :: blk (g + 1) 48 [.int .i64 10, .int .i64 t.n, .int .i64 t.m, .string t.s, .slice t.ca t.cl t.cc, .int .u8 t.by_] :: blk g 56 (rvl v (.slice a v.bl.length c)) :: L) wx)
  case first =>
    go_region_with (first
      | (go_at_call 28; refine (vfail t.n (H2.out.pick 3).drew).mono ?_; rintro e w3 ⟨rfl, S3⟩; have H3 := hid S3; clear S3))
    all_goals
      go_wp2_with fail
      go_meet
      exact H3.out
  case rest =>
    have S3 := hcut
    clear hcut d0 d1 d2 d4 d5 H2
    have d1 := (S3.pick 2).isBlk.cell 1 (v := .int .i64 t.n) rfl
    have c8 := (S3.pick 3).isBlk.cell 8 (v := .int .i64 (v.armed - 1)) rfl
    have f8 := (S3.pick 3).isBlk.frozen 8
    obtain ⟨m1, hm1⟩ : ∃ m1, max t.n (-1) = m1 := ⟨_, rfl⟩
    have hm2 : min m1 1073741824 = failA t.n - 1 := by have := (failA_bd t.n).2.2; rw [← hm1]; omega
    have HM1 := hid hm1
    have HM2 := hid hm2
    have H3 := hid ((S3.pick 3).set 8 (.int .i64 (failA t.n - 1)) (cs' := rvl {v with armed := failA t.n} (.slice a v.bl.length c)) rfl)
    clear S3 hm1 hm2
    go_upto_region 48 with (first
      | (refine wpList_max (o := ⟨some 195, _, _, _, _, _⟩) rfl rfl rfl rfl HM1.out ?_)
      | (refine wpList_min (o := ⟨some 196, _, _, _, _, _⟩) rfl rfl rfl rfl HM2.out ?_))
    refine wp_gen (fun w4 => Sat w0 I (blk g 56 (rvl {v with armed := failA t.n} (.slice a v.bl.length c)) :: volp p {v with armed := failA t.n} :: blk (g + 1 + 1) 56 rv0 :: blk (g + 1) 48 [.int .i64 10, .int .i64 t.n, .int .i64 t.m, .string t.s, .slice t.ca t.cl t.cc, .int .u8 t.by_] :: L) w4) H3.out ?_
    clear H3 d1 c8 f8
    intro w4 S4
    have H4 := hid S4
    clear S4
    go_wp2_with (first
      | (refine wpList_loadS whV rfl _ rfl rfl rfl H4.out ?_)
      | (refine wpList_storeS whV rfl _ _ rfl rfl rfl rfl rfl (rvl_one _ _ _ _) (H4.out.pick 2) ?_; intro w6 S6))
    refine bodyPost_ret (ret_cellS Try.results26 whV _ rfl rfl rfl S6) rfl ⟨{v with armed := failA t.n}, I, a, c, rfl, HP.out.fail t.n, Part.le_refl _, HR.out, hcc, HSH.out, S6.drop.drop.swap.drop⟩

set_option maxRecDepth 20000 in
theorem does11 (hp : RP n v) (hn : n ≤ 100) (hgd : t.good I) (hr : Rd I a (v.bl.flatMap bc)) (hcc : v.bl.length ≤ c ∧ c ≤ 9223372036854775807) (hsh : (a = none ∧ c = 0) ∨ ∃ b off, a = some ⟨b, off, none⟩) (H : Sat w0 I (volp p v :: L) w) :
    Calls Try.prog 26 #[.pointer (some ⟨p, 0, none⟩), .agg (rvl v (.slice a v.bl.length c)).toArray, .agg #[.int .i64 11, .int .i64 t.n, .int .i64 t.m, .string t.s, .slice t.ca t.cl t.cc, .int .u8 t.by_]] w (DoesPost w0 I L p n) := by
  obtain ⟨g, hg⟩ := H.sizeQ
  have S1 := H.alloc (b := g) (T := 56) (cs := rvl v (.slice a v.bl.length c)) rfl hg.symm
  have S2 := S1.alloc (b := g + 1) (T := 48) (cs := [.int .i64 11, .int .i64 t.n, .int .i64 t.m, .string t.s, .slice t.ca t.cl t.cc, .int .u8 t.by_]) rfl (by simp [hg])
  have S3 := S2.alloc (b := g + 1 + 1) (T := 56) (cs := rv0) rfl (by simp [hg])
  have H3 := hid S3
  have HP := hid hp
  have HR := hid hr
  have HG := hid hgd
  have HSH := hid hsh
  have hlen := hp.len
  clear S1 S2 S3 H hp hr hgd hsh
  go_enter Try.func26, Try.ntmps26
  go_upto_region 1 with fail
  try rw [hg]
  refine wp_gen (fun w1 => Sat w0 I (blk (g + 1 + 1) 56 rv0 :: blk (g + 1) 48 [.int .i64 11, .int .i64 t.n, .int .i64 t.m, .string t.s, .slice t.ca t.cl t.cc, .int .u8 t.by_] :: blk g 56 (rvl v (.slice a v.bl.length c)) ::  volp p v :: L) w1) H3.out ?_
  clear H3 hg
  intro w1 S1
  have d3 := S1.swap.isBlk.cell 3 (v := .string t.s) rfl
  have H1 := hid S1
  clear S1
  go_wp2_with fail
  refine (cut_sat t.s 60 (by omega) HG.out.s H1.out).mono ?_; rintro e w2 ⟨rfl, S2⟩
  have d0 := S2.swap.isBlk.cell 0 (v := .int .i64 11) rfl
  have d1 := S2.swap.isBlk.cell 1 (v := .int .i64 t.n) rfl
  have d2 := S2.swap.isBlk.cell 2 (v := .int .i64 t.m) rfl
  have d4 := S2.swap.isBlk.cell 4 (v := .slice t.ca t.cl t.cc) rfl
  have d5 := S2.swap.isBlk.cell 5 (v := .int .u8 t.by_) rfl
  have hz60 := cutSize t.s 60
  obtain ⟨x, hx⟩ : ∃ x, t.s.extract 0 60 = x := ⟨_, rfl⟩
  rw [hx] at hz60 ⊢
  have H2 := hid S2
  clear S2 H1 d3 hx

  go_wp2_with fail
  refine (vprotect _ (H2.out.pick 3)).mono ?_; rintro e w3 ⟨rfl, S3⟩
  clear d0 d1 d2 d4 d5
  have d1 := (S3.pick 2).isBlk.cell 1 (v := .int .i64 t.n) rfl
  have c6 := (S3.pick 3).isBlk.cell 6 (v := .bool v.prot) rfl
  have f6 := (S3.pick 3).isBlk.frozen 6
  have H3 := hid S3
  clear S3 H2
  go_upto_region 48 with fail
  refine wp_gen (fun w4 => Sat w0 I (blk g 56 (rvl {v with prot := t.n.tmod 2 != 0} (.slice a v.bl.length c)) :: volp p {v with prot := t.n.tmod 2 != 0} :: blk (g + 1 + 1) 56 rv0 :: blk (g + 1) 48 [.int .i64 11, .int .i64 t.n, .int .i64 t.m, .string t.s, .slice t.ca t.cl t.cc, .int .u8 t.by_] :: L) w4) ((H3.out.pick 3).set 6 _ rfl) ?_
  clear H3 d1 c6 f6
  intro w4 S4
  have H4 := hid S4
  clear S4
  go_wp2_with (first
    | (refine wpList_loadS whV rfl _ rfl rfl rfl H4.out ?_)
    | (refine wpList_storeS whV rfl _ _ rfl rfl rfl rfl rfl (rvl_one _ _ _ _) (H4.out.pick 2) ?_; intro w6 S6))
  refine bodyPost_ret (ret_cellS Try.results26 whV _ rfl rfl rfl S6) rfl ⟨{v with prot := t.n.tmod 2 != 0}, I, a, c, rfl, HP.out.protect _, Part.le_refl _, HR.out, hcc, HSH.out, S6.drop.drop.swap.drop⟩

set_option maxRecDepth 20000 in
theorem does12 (hp : RP n v) (hn : n ≤ 100) (hgd : t.good I) (hr : Rd I a (v.bl.flatMap bc)) (hcc : v.bl.length ≤ c ∧ c ≤ 9223372036854775807) (hsh : (a = none ∧ c = 0) ∨ ∃ b off, a = some ⟨b, off, none⟩) (H : Sat w0 I (volp p v :: L) w) :
    Calls Try.prog 26 #[.pointer (some ⟨p, 0, none⟩), .agg (rvl v (.slice a v.bl.length c)).toArray, .agg #[.int .i64 12, .int .i64 t.n, .int .i64 t.m, .string t.s, .slice t.ca t.cl t.cc, .int .u8 t.by_]] w (DoesPost w0 I L p n) := by
  obtain ⟨g, hg⟩ := H.sizeQ
  have S1 := H.alloc (b := g) (T := 56) (cs := rvl v (.slice a v.bl.length c)) rfl hg.symm
  have S2 := S1.alloc (b := g + 1) (T := 48) (cs := [.int .i64 12, .int .i64 t.n, .int .i64 t.m, .string t.s, .slice t.ca t.cl t.cc, .int .u8 t.by_]) rfl (by simp [hg])
  have S3 := S2.alloc (b := g + 1 + 1) (T := 56) (cs := rv0) rfl (by simp [hg])
  have H3 := hid S3
  have HP := hid hp
  have HR := hid hr
  have HG := hid hgd
  have HSH := hid hsh
  have hlen := hp.len
  clear S1 S2 S3 H hp hr hgd hsh
  go_enter Try.func26, Try.ntmps26
  go_upto_region 1 with fail
  try rw [hg]
  refine wp_gen (fun w1 => Sat w0 I (blk (g + 1 + 1) 56 rv0 :: blk (g + 1) 48 [.int .i64 12, .int .i64 t.n, .int .i64 t.m, .string t.s, .slice t.ca t.cl t.cc, .int .u8 t.by_] :: blk g 56 (rvl v (.slice a v.bl.length c)) ::  volp p v :: L) w1) H3.out ?_
  clear H3 hg
  intro w1 S1
  have d3 := S1.swap.isBlk.cell 3 (v := .string t.s) rfl
  have H1 := hid S1
  clear S1
  go_wp2_with fail
  refine (cut_sat t.s 60 (by omega) HG.out.s H1.out).mono ?_; rintro e w2 ⟨rfl, S2⟩
  have d0 := S2.swap.isBlk.cell 0 (v := .int .i64 12) rfl
  have d1 := S2.swap.isBlk.cell 1 (v := .int .i64 t.n) rfl
  have d2 := S2.swap.isBlk.cell 2 (v := .int .i64 t.m) rfl
  have d4 := S2.swap.isBlk.cell 4 (v := .slice t.ca t.cl t.cc) rfl
  have d5 := S2.swap.isBlk.cell 5 (v := .int .u8 t.by_) rfl
  have hz60 := cutSize t.s 60
  obtain ⟨x, hx⟩ : ∃ x, t.s.extract 0 60 = x := ⟨_, rfl⟩
  rw [hx] at hz60 ⊢
  have H2 := hid S2
  clear S2 H1 d3 hx

  obtain ⟨y, hy⟩ : ∃ y : UInt8, t.by_ = (y.toNat : Int) := ⟨UInt8.ofNat t.by_.toNat, by have := HG.out.by_; rw [UInt8.toNat_ofNat']; omega⟩
  have HY := hid hy
  rw [hy] at d5
  clear hy
  have hsm := HP.out.small
  rcases spoil_cases v t.n t.m with hno | ⟨k, i, hk, hn1, hm1, hi⟩
  · have HNO := hid hno
    clear hno hsm
    go_wp2_with fail
    refine (vspoil_no t.n t.m y.toNat HNO.out (H2.out.pick 3)).mono ?_; rintro e w3 ⟨rfl, S3⟩
    clear d1 d2 d5
    have d1 := (S3.pick 2).isBlk.cell 1 (v := .int .i64 t.n) rfl
    have d2 := (S3.pick 2).isBlk.cell 2 (v := .int .i64 t.m) rfl
    have d5 := (S3.pick 2).isBlk.cell 5 (v := .int .u8 t.by_) rfl
    rw [HY.out] at d5
    have H3 := hid (S3.pick 3)
    clear S3 H2
    go_wp2_with (refine wpList_loadS whV rfl _ rfl rfl rfl H3.out ?_)
    refine (rspoil_no t.n t.m y.toNat HNO.out HR.out H3.out).mono ?_; rintro e w4 ⟨rfl, S4⟩
    obtain ⟨q, hq⟩ := S4.sizeQ
    have HQ := hid (S4.alloc (b := q) (T := 56) (cs := rv0) rfl hq.symm)
    clear S4 H3
    go_wp2_with (first
      | (refine wpList_storeS whV rfl _ _ rfl rfl rfl rfl rfl (rvl_one _ _ _ _) HQ.out ?_; intro w5 S5; have H5 := hid S5; clear S5)
      | (refine wpList_loadS whV rfl _ rfl rfl rfl H5.out ?_)
      | (refine wpList_storeS whV rfl _ _ rfl rfl rfl rfl rfl (rvl_one _ _ _ _) (H5.out.pick 3) ?_; intro w6 S6))
    refine bodyPost_ret (ret_cellS Try.results26 whV _ rfl rfl rfl S6) rfl ⟨v, I, a, c, rfl, HP.out.up, Part.le_refl _, HR.out, hcc, HSH.out, S6.drop.drop.drop.swap.drop⟩

  · have hp2 := HP.out.set hk (b := spoilB v.bl[k] i y) (spoilB_wt _ _ _) (fun h => by
      have := HP.out.marks v.bl[k] (List.getElem_mem _) h
      rw [this] at hi; exact absurd hi (Nat.not_lt_zero _)) (wsum_set v.bl k _ hk (spoilB_wt _ _ _))
    have hz := hsm v.bl[k] (List.getElem_mem _)
    have hbl : (v.bl.set k (spoilB v.bl[k] i y)).length = v.bl.length := List.length_set
    have HP2 := hid hp2
    have HBL := hid hbl
    have HN1 := hid hn1
    have HM1 := hid hm1
    have HI := hid hi
    rw [hn1] at d1
    rw [hm1] at d2
    clear hp2 hsm hbl hn1 hm1 hi
    go_wp2_with fail
    refine (vspoil_yes k i y hk HI.out (by omega) (H2.out.pick 3)).mono ?_; rintro e w3 ⟨rfl, S3⟩
    clear d1 d2 d5
    have d1 := (S3.pick 2).isBlk.cell 1 (v := .int .i64 t.n) rfl
    have d2 := (S3.pick 2).isBlk.cell 2 (v := .int .i64 t.m) rfl
    have d5 := (S3.pick 2).isBlk.cell 5 (v := .int .u8 t.by_) rfl
    rw [HY.out] at d5
    rw [HN1.out] at d1
    rw [HM1.out] at d2
    have H3 := hid (S3.pick 3)
    clear S3 H2
    go_wp2_with (refine wpList_loadS whV rfl _ rfl rfl rfl H3.out ?_)
    refine (rspoil_yes HP.out.ok k i y hk HI.out (by omega) HR.out H3.out).mono ?_; rintro e w4 ⟨J, a', c', rfl, hJ, hrd, hc1, hc2, hs2, S4⟩
    have HJ := hid hJ
    have HRD := hid hrd
    have HC := hid (And.intro hc1 hc2)
    have HS2 := hid hs2
    clear hJ hrd hc1 hc2 hs2
    obtain ⟨q, hq⟩ := S4.sizeQ
    have HQ := hid (S4.alloc (b := q) (T := 56) (cs := rv0) rfl hq.symm)
    clear S4 H3
    go_wp2_with (first
      | (refine wpList_storeS whV rfl _ _ rfl rfl rfl rfl rfl (rvl_one _ _ _ _) HQ.out ?_; intro w5 S5; have H5 := hid S5; clear S5)
      | (refine wpList_loadS whV rfl _ rfl rfl rfl H5.out ?_)
      | (refine wpList_storeS whV rfl _ _ rfl rfl rfl rfl rfl (rvl_one _ _ _ _) (H5.out.pick 3) ?_; intro w6 S6))
    refine bodyPost_ret (ret_cellS Try.results26 whV _ rfl rfl rfl S6) rfl ⟨{v with bl := v.bl.set k (spoilB v.bl[k] i y)}, J, a', c', (by rw [HBL.out] <;> rfl), HP2.out, HJ.out, HRD.out, (by rw [HBL.out]; exact HC.out), Or.inr HS2.out, S6.drop.drop.drop.swap.drop⟩

set_option maxRecDepth 20000 in
theorem does13 {kd : Int} (hk : (kd == 1) = false ∧ (kd == 2) = false ∧ (kd == 3) = false ∧ (kd == 4) = false ∧ (kd == 5) = false ∧ (kd == 6) = false ∧ (kd == 7) = false ∧ (kd == 8) = false ∧ (kd == 9) = false ∧ (kd == 10) = false ∧ (kd == 11) = false ∧ (kd == 12) = false) (hp : RP n v) (hn : n ≤ 100) (hgd : t.good I) (hr : Rd I a (v.bl.flatMap bc)) (hcc : v.bl.length ≤ c ∧ c ≤ 9223372036854775807) (hsh : (a = none ∧ c = 0) ∨ ∃ b off, a = some ⟨b, off, none⟩) (H : Sat w0 I (volp p v :: L) w) :
    Calls Try.prog 26 #[.pointer (some ⟨p, 0, none⟩), .agg (rvl v (.slice a v.bl.length c)).toArray, .agg #[.int .i64 kd, .int .i64 t.n, .int .i64 t.m, .string t.s, .slice t.ca t.cl t.cc, .int .u8 t.by_]] w (DoesPost w0 I L p n) := by
  obtain ⟨g, hg⟩ := H.sizeQ
  have S1 := H.alloc (b := g) (T := 56) (cs := rvl v (.slice a v.bl.length c)) rfl hg.symm
  have S2 := S1.alloc (b := g + 1) (T := 48) (cs := [.int .i64 kd, .int .i64 t.n, .int .i64 t.m, .string t.s, .slice t.ca t.cl t.cc, .int .u8 t.by_]) rfl (by simp [hg])
  have S3 := S2.alloc (b := g + 1 + 1) (T := 56) (cs := rv0) rfl (by simp [hg])
  have H3 := hid S3
  have HP := hid hp
  have HR := hid hr
  have HG := hid hgd
  have HSH := hid hsh
  have hlen := hp.len
  clear S1 S2 S3 H hp hr hgd hsh
  go_enter Try.func26, Try.ntmps26
  go_upto_region 1 with fail
  try rw [hg]
  refine wp_gen (fun w1 => Sat w0 I (blk (g + 1 + 1) 56 rv0 :: blk (g + 1) 48 [.int .i64 kd, .int .i64 t.n, .int .i64 t.m, .string t.s, .slice t.ca t.cl t.cc, .int .u8 t.by_] :: blk g 56 (rvl v (.slice a v.bl.length c)) ::  volp p v :: L) w1) H3.out ?_
  clear H3 hg
  intro w1 S1
  have d3 := S1.swap.isBlk.cell 3 (v := .string t.s) rfl
  have H1 := hid S1
  clear S1
  go_wp2_with fail
  refine (cut_sat t.s 60 (by omega) HG.out.s H1.out).mono ?_; rintro e w2 ⟨rfl, S2⟩
  have d0 := S2.swap.isBlk.cell 0 (v := .int .i64 kd) rfl
  have d1 := S2.swap.isBlk.cell 1 (v := .int .i64 t.n) rfl
  have d2 := S2.swap.isBlk.cell 2 (v := .int .i64 t.m) rfl
  have d4 := S2.swap.isBlk.cell 4 (v := .slice t.ca t.cl t.cc) rfl
  have d5 := S2.swap.isBlk.cell 5 (v := .int .u8 t.by_) rfl
  have hz60 := cutSize t.s 60
  obtain ⟨x, hx⟩ : ∃ x, t.s.extract 0 60 = x := ⟨_, rfl⟩
  rw [hx] at hz60 ⊢
  have H2 := hid S2
  clear S2 H1 d3 hx

  obtain ⟨q1, q2, q3, q4, q5, q6, q7, q8, q9, q10, q11, q12⟩ := hk
  have H3 := hid (H2.out.pick 2)
  clear H2
  go_wp2_with (first
    | (refine wpList_loadS whV rfl _ rfl rfl rfl H3.out ?_)
    | (refine wpList_storeS whV rfl _ _ rfl rfl rfl rfl rfl (rvl_one _ _ _ _) H3.out.swap ?_; intro w6 S6))
  refine bodyPost_ret (ret_cellS Try.results26 whV _ rfl rfl rfl S6) rfl ⟨v, I, a, c, rfl, HP.out.up, Part.le_refl _, HR.out, hcc, HSH.out, S6.drop.drop.drop⟩

theorem does_sat (hp : RP n v) (hn : n ≤ 100) (hgd : t.good I) (hr : Rd I a (v.bl.flatMap bc)) (hcc : v.bl.length ≤ c ∧ c ≤ 9223372036854775807) (hsh : (a = none ∧ c = 0) ∨ ∃ b off, a = some ⟨b, off, none⟩) (H : Sat w0 I (volp p v :: L) w) :
    Calls Try.prog 26 #[.pointer (some ⟨p, 0, none⟩), .agg (rvl v (.slice a v.bl.length c)).toArray, .agg t.cells.toArray] w (DoesPost w0 I L p n) := by
  obtain ⟨kd, nn, mm, s, ca, cl, cc, by_, zs⟩ := t
  rcases kinds9 kd with rfl | rfl | rfl | rfl | rfl | rfl | rfl | rfl | rfl | rfl | rfl | rfl | hk
  · exact does1 hp hn hgd hr hcc hsh H
  · exact does2 hp hn hgd hr hcc hsh H
  · exact does3 hp hn hgd hr hcc hsh H
  · exact does4 hp hn hgd hr hcc hsh H
  · exact does5 hp hn hgd hr hcc hsh H
  · exact does6 hp hn hgd hr hcc hsh H
  · exact does7 hp hn hgd hr hcc hsh H
  · exact does8 hp hn hgd hr hcc hsh H
  · exact does9 hp hn hgd hr hcc hsh H
  · exact does10 hp hn hgd hr hcc hsh H
  · exact does11 hp hn hgd hr hcc hsh H
  · exact does12 hp hn hgd hr hcc hsh H
  · exact does13 hk hp hn hgd hr hcc hsh H

end
end Go.Proofs.Ytecdnlmagaoccaa
