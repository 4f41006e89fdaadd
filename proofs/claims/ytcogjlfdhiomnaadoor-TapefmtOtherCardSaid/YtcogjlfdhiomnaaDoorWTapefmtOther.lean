/- TapefmtOther, walked. -/
import Derived.Test.YtcogjlfdhiomnaaDoorTpC
import Derived.Deep.CutBlock
import Derived.Deep.DeepCutAuto
namespace Go.Proofs.YtcogjlfdhiomnaaDoor
open Go.RowKit
set_option linter.unusedVariables false
set_option maxRecDepth 100000
section
variable {a b : ByteArray} {x y : Bl} {w : World}
set_option maxHeartbeats 4000000 in
theorem tapefmtOther_out (hT : Rd (wpart w) (some ⟨0, 0, none⟩) tabV) (hc : 32 < a.size ∨ (a.size ≤ 32 ∧ 32 < b.size) ∨ (a.size ≤ 32 ∧ b.size ≤ 32 ∧ a = b)) :
    Calls Tryd.prog 6 #[.string a, .string b, .agg #[.int .u64 (x.id : Int), .string x.s, .int .i64 x.n], .agg #[.int .u64 (y.id : Int), .string y.s, .int .i64 y.n]] w (RetB (.bool true) w.heap.size w) := by
  have H0 := hid (Sat.start w)
  have HT := hid hT
  clear hT
  have H1 := hid ((H0.out.alloc_ (.cells #[.int .u64 (x.id : Int), .string x.s, .int .i64 x.n] 24)).alloc_ (.cells #[.int .u64 (y.id : Int), .string y.s, .int .i64 y.n] 24))
  clear H0
  rcases hc with h | ⟨h, h2⟩ | ⟨h, h2, rfl⟩
  · have h' : (32 : Int) < (a.size : Int) := by omega
    clear h
    go_enter Tryd.func6, Tryd.ntmps6
    go_wp2_with fail
    refine (tawake_sat HT.out H1.out).mono ?_; rintro e w2 ⟨rfl, S2⟩
    have H2 := hid S2
    clear S2 H1
    go_wp2_with fail
    refine (tawake_sat HT.out H2.out).mono ?_; rintro e w3 ⟨rfl, S3⟩
    have H3 := hid S3
    clear S3 H2
    go_wp2_with fail
    go_ret
    exact ⟨rfl, H3.out.toBelow (Part.le_refl _)⟩
  · have h' : ¬ (32 : Int) < (a.size : Int) := by omega
    have h2' : (32 : Int) < (b.size : Int) := by omega
    clear h h2
    go_enter Tryd.func6, Tryd.ntmps6
    go_wp2_with fail
    refine (tawake_sat HT.out H1.out).mono ?_; rintro e w2 ⟨rfl, S2⟩
    have H2 := hid S2
    clear S2 H1
    go_wp2_with fail
    refine (tawake_sat HT.out H2.out).mono ?_; rintro e w3 ⟨rfl, S3⟩
    have H3 := hid S3
    clear S3 H2
    go_wp2_with fail
    go_ret
    exact ⟨rfl, H3.out.toBelow (Part.le_refl _)⟩
  · have h' : ¬ (32 : Int) < (a.size : Int) := by omega
    clear h h2
    go_enter Tryd.func6, Tryd.ntmps6
    go_wp2_with fail
    refine (tawake_sat HT.out H1.out).mono ?_; rintro e w2 ⟨rfl, S2⟩
    have H2 := hid S2
    clear S2 H1
    go_wp2_with fail
    refine (tawake_sat HT.out H2.out).mono ?_; rintro e w3 ⟨rfl, S3⟩
    have H3 := hid S3
    clear S3 H2
    go_wp2_with fail
    go_ret
    exact ⟨rfl, H3.out.toBelow (Part.le_refl _)⟩
end
/-- the first blocks of the other volume's blob. -/
def preB (a : ByteArray) (ib : Nat) (X : ByteArray) (k : Nat) : List Bk := tpBks a 0 ib X k 0
section
variable {a b : ByteArray} {x y : Bl} {w : World} {X Y : ByteArray} {ib : Nat}
theorem preB_len (k : Nat) : (preB a ib X k).length = k := tpBks_len k 0
theorem preB_snoc (k : Nat) : preB a ib X (k + 1) = preB a ib X k ++ [tpBlock a 0 ib X k] := by
  unfold preB
  rw [tpBks_snoc, Nat.zero_add]
theorem preB_wt (ha : a.size ≤ 32) (hib : ib < 18446744073709551616) (hX : X.size ≤ 600) : ∀ k, k ≤ nparts X.size → wsum (preB a ib X k) ≤ 276 * k
  | 0, _ => Nat.le_refl _
  | k + 1, h => by
    have := preB_wt ha hib hX k (by omega)
    have h2 := tpBlock_wt (lab := a) (frm := 0) (blob := ib) (data := X) (k := k) ha (by omega) hib (by omega) (by omega)
    rw [preB_snoc, wsum_app]
    have e : wsum [tpBlock a 0 ib X k] = bwt (tpBlock a 0 ib X k) := by simp [wsum]
    omega
theorem preB_torn (k : Nat) : ∀ z ∈ preB a ib X k, z.torn = false := tpBks_torn _ _
theorem preB_fit {k at_ : Nat} (ha : a.size ≤ 32) (hib : ib < 18446744073709551616) (hX : X.size ≤ 600) (hk : k ≤ nparts X.size) (hat : at_ ≤ k) : (lv b 1 100000 (preB a ib X k) 0 at_).fit := by
  have h := preB_wt ha hib hX k hk
  have hn : nparts X.size ≤ 3 := by unfold nparts; omega
  exact lv_fit (by omega) (by omega) (by omega) (Nat.zero_le _) (by rw [preB_len]; exact hat) (by omega) (by omega)
theorem preB_add {k : Nat} (ha : a.size ≤ 32) (hib : ib < 18446744073709551616) (hX : X.size ≤ 600) (hk : k < nparts X.size) : addS (lv b 1 100000 (preB a ib X k) 0 k) ⟨spellB (tpPiece a 0 ib X k), false, false⟩ = (0, lv b 1 100000 (preB a ib X (k + 1)) 0 (k + 1)) := by
  have h := preB_wt ha hib hX k (by omega)
  have hn : nparts X.size ≤ 3 := by unfold nparts; omega
  have h2 := tpBlock_wt (lab := a) (frm := 0) (blob := ib) (data := X) (k := k) ha (by omega) hib (by omega) (by omega)
  have e := lv_add (lab := b) (er := 1) (room := 100000) (bl := preB a ib X k) (sure := 0) (at_ := k) (tpBlock a 0 ib X k) (by rw [preB_len]) (tornL_all (preB_torn k)) (by omega)
  rw [preB_snoc]
  rw [preB_len] at e
  exact e
/-- the volume behind all: the other's blocks, and a blob. -/
def othB (a b : ByteArray) (i1 : Nat) (X : ByteArray) (i2 : Nat) (Y : ByteArray) : List Bk := preB a i1 X (nparts X.size) ++ tpAll b (nparts X.size) i2 Y
theorem oth_scan (ha : a.size ≤ 32) (hb : b.size ≤ 32) (hne : a ≠ b) {i1 i2 : Nat} (h1 : i1 < 18446744073709551616) (h2 : i2 < 18446744073709551616) (hX : X.size ≤ 600) (hY : Y.size ≤ 600) (sure : Nat) :
    ScR b 1 100000 (othB a b i1 X i2 Y) sure (2 + nparts X.size) 0 [] 0 ([⟨i2, nparts X.size, Y.size⟩], nparts X.size + nparts Y.size) := by
  have hn : nparts X.size ≤ 3 := by unfold nparts; omega
  have hlen : (othB a b i1 X i2 Y).length = nparts X.size + nparts Y.size + 1 := by unfold othB; rw [List.length_append, preB_len, tpAll_len]; omega
  have hpre : ∀ i, 0 ≤ i → i < nparts X.size → (othB a b i1 X i2 Y)[0 + i]? = some (tpBlock a 0 i1 X i) := fun i _ hi => by
    unfold othB
    rw [Nat.zero_add, List.getElem?_append_left (by rw [preB_len]; exact hi)]
    unfold preB
    rw [tpBks_get _ _ _ hi, Nat.zero_add]
  have hpost : ∀ j, (othB a b i1 X i2 Y)[nparts X.size + j]? = (tpAll b (nparts X.size) i2 Y)[j]? := fun j => by
    unfold othB
    rw [List.getElem?_append_right (by rw [preB_len]; omega), preB_len, Nat.add_sub_cancel_left]
  have hs : ScR b 1 100000 (othB a b i1 X i2 Y) sure 2 (nparts X.size) [] 0 ([⟨i2, nparts X.size, Y.size⟩], nparts X.size + nparts Y.size) := by
    refine scan_blob (data := Y) (frm := nparts X.size) (blob := i2) (n := 0) hb (by omega) h2 (by omega) (fun i hi => ?_) ?_ ?_
    · rw [hpost]
      unfold tpAll
      rw [List.getElem?_append_left (by rw [tpBks_len]; exact hi), tpBks_get _ _ _ hi, Nat.zero_add]
    · rw [hpost]
      unfold tpAll
      rw [List.getElem?_append_right (by rw [tpBks_len]; omega), tpBks_len, Nat.sub_self]
      rfl
    · exact ScR.stop (by rw [hlen]; exact Nat.le_refl _)
  have h := scan_other (lab := b) (la := a) (er := 1) (room := 100000) (bl := othB a b i1 X i2 Y) (sure := sure) (frm := 0) (blob := i1) (data := X) ha (by omega) h1 (by omega) hne 0 (nparts X.size) 0 (by omega) hpre 2 (by rw [Nat.zero_add]; exact hs)
  exact h
end
set_option maxHeartbeats 12000000 in
theorem tapefmtOther_main (a b : ByteArray) (x y : Bl) (hx : x.ok) (hy : y.ok) (w : World) (hT : Rd (wpart w) (some ⟨0, 0, none⟩) tabV) (ha : a.size ≤ 32) (hb : b.size ≤ 32) (hne : a ≠ b) :
    Calls Tryd.prog 6 #[.string a, .string b, .agg #[.int .u64 (x.id : Int), .string x.s, .int .i64 x.n], .agg #[.int .u64 (y.id : Int), .string y.s, .int .i64 y.n]] w (RetB (.bool true) w.heap.size w) := by
  have H0 := hid (Sat.start w)
  have HT := hid hT
  have HX := hid hx
  have HY := hid hy
  clear hT hx hy
  obtain ⟨q, hq⟩ := H0.out.sizeEx
  have S1 := H0.out.alloc (b := q) (T := 24) (cs := blc x) rfl hq.symm
  have S2 := S1.alloc (b := q + 1) (T := 24) (cs := blc y) rfl (by simp [hq])
  have H1 := hid S2
  clear H0 S1 S2
  have ha' : ¬ (32 : Int) < (a.size : Int) := by omega
  have hb' : ¬ (32 : Int) < (b.size : Int) := by omega
  have hab : (a.toList == b.toList) = false := (Go.Lib.bytes_beq_false_iff _ _).2 hne
  have OKS := hid (show (⟨100000, false, 0, ⟨#[]⟩, [], 0, 0, 0, false⟩ : Vst).ok from ⟨by simp, by simp, by simp [wsum], by simp, by simp, by simp, by simp, by simp, by simp, by simp⟩)
  obtain ⟨X, hDX⟩ : ∃ D, longS x.s x.n = D := ⟨_, rfl⟩
  obtain ⟨Y, hDY⟩ : ∃ D, longS y.s y.n = D := ⟨_, rfl⟩
  have hXs : X.size ≤ 600 := by rw [← hDX]; exact longS_size _ _
  have hYs : Y.size ≤ 600 := by rw [← hDY]; exact longS_size _ _
  have HDX := hid hDX
  have HDY := hid hDY
  clear hDX hDY
  obtain ⟨n, hn⟩ : ∃ n, nparts X.size = n := ⟨_, rfl⟩
  have hn3 : n ≤ 3 := by unfold nparts at hn; omega
  have hn1 : 1 ≤ n := by unfold nparts at hn; omega
  have T0 := hid (show TpOk a 1 100000 [] 0 0 from ⟨ha, by omega, by omega, fun e h => (by cases h), Nat.zero_le _, Nat.zero_le _, Nat.zero_le _⟩)
  have OK1 := hid (show okE (x.id, X) from ⟨HX.out.id, hXs⟩)
  have T1 := hid (T0.out.snoc OK1.out (by simp))
  obtain ⟨va, hva⟩ : ∃ l : List Bk, tapeB a ([] ++ [(x.id, X)]) = l := ⟨_, rfl⟩
  have hvl : va.length = n + 1 := by rw [← hva, tapeB_app, List.length_append, tpAll_len, hn]; simp [tapeB]
  have hvg : ∀ k, k < n → va[k]? = some (tpBlock a 0 x.id X k) := fun k hk => by
    have h := tape_get (lab := a) ([] ++ [(x.id, X)]) 0 (e := (x.id, X)) rfl k (by simp only; omega)
    rw [hva] at h
    have e : tapeAt a ([] ++ [(x.id, X)]) 0 = 0 := rfl
    rw [e, Nat.zero_add] at h
    exact h
  have HVG := hid hvg
  have hfit : (lv a 1 100000 va (n + 1) (n + 1)).fit := by
    have := T1.out.fit
    unfold tpv at this
    rw [hva, hvl] at this
    exact this
  have FV := hid (show ∀ k, k ≤ n + 1 → (lv a 1 100000 va (n + 1) k).fit from fun k hk => lv_fit2 hfit (by omega))
  clear hfit
  have HVA := hid hva
  have FW := hid (fun k at_ (hk : k ≤ n) (h2 : at_ ≤ k) => preB_fit (b := b) (ib := x.id) ha HX.out.id hXs (hn ▸ hk) h2)
  have HN := hid hn
  clear hvg hva
  go_enter Tryd.func6, Tryd.ntmps6
  go_wp2_with fail
  refine (tawake_sat HT.out H1.out).mono ?_; rintro e w2 ⟨rfl, S2⟩
  have H2 := hid S2
  clear S2 H1 hq
  go_wp2_with fail
  refine (vnew_eq 100000 (R := 100000) (by omega) H2.out).mono ?_; rintro e w3 ⟨p, rfl, S3⟩
  have H3 := hid S3
  clear S3 H2
  go_wp2_with fail
  refine (vnew_eq 100000 (R := 100000) (by omega) H3.out).mono ?_; rintro e w4 ⟨p2, rfl, S4⟩
  have H4 := hid S4.swap
  clear S4 H3
  go_wp2_with fail
  refine (verase a OKS.out (lv_erase 100000 a) H4.out).mono ?_; rintro e w5 ⟨rfl, S5⟩
  have H5 := hid S5.swap
  clear S5 H4
  go_wp2_with fail
  refine (verase b OKS.out (lv_erase 100000 b) H5.out).mono ?_; rintro e w6 ⟨rfl, S6⟩
  have H6 := hid (show Sat w (wpart w) [volp p (tpv a 1 100000 [] 0 0), volp p2 (lv b 1 100000 [] 0 0), blk (q + 1) 24 (blc y), blk q 24 (blc x)] w6 from S6.swap)
  clear S6 H5
  have c0 := (H6.out.pick 3).isBlk.cell 0 (v := .int .u64 (x.id : Int)) rfl
  have c1 := (H6.out.pick 3).isBlk.cell 1 (v := .string x.s) rfl
  have c2 := (H6.out.pick 3).isBlk.cell 2 (v := .int .i64 x.n) rfl
  go_upto_region 6 with fail
  go_cut [11, 12] (fun t u wx => t = .int .i64 0 ∧ u = .int .i64 0 ∧ Sat w (wpart w) [volp p (lv a 1 100000 va (n + 1) (n + 1)), volp p2 (lv b 1 100000 [] 0 0), blk (q + 1) 24 (blc y), blk q 24 (blc x)] wx)
  case first =>
    go_region_with (first
      | (go_at_call 13; refine (long_sat x.s x.n HX.out.s HX.out.n HDX.out H6.out.drew).mono ?_; rintro e w7 ⟨rfl, S7⟩; have d0 := (S7.pick 3).isBlk.cell 0 (v := .int .u64 (x.id : Int)) rfl; have H7 := hid S7; clear S7)
      | (go_at_call 14; refine (twrite_tp HT.out T0.out x.id X OK1.out (by simp) (N := 0) rfl H7.out).mono ?_; rintro e w8 ⟨rfl, S8⟩; have H8 := hid S8; clear S8))
    all_goals
      go_wp2_with fail
      go_meet
      refine ⟨rfl, rfl, ?_⟩
      have h := H8.out
      unfold tpv at h
      rw [HVA.out, hvl] at h
      exact h
  case rest =>
    obtain ⟨rfl, rfl, S8⟩ := hcut
    have H8 := hid S8
    clear S8 H6 c0 c1 c2
    go_wp2_with fail
    refine (vseek 0 (FV.out (n + 1) (by omega)).ok (show seekS _ (((0 : Nat) : Int)) = _ from lv_seek 0 (Nat.zero_le _)) H8.out).mono ?_; rintro e w9 ⟨rfl, S9⟩
    have H9 := hid S9
    clear S9 H8
    go_wp2_with fail
    go_loopw [13, 14, 15, 16] (fun i _ _ _ wr => ∃ k : Nat, k ≤ n ∧ i = .int .i64 (k : Int) ∧ Sat w (wpart w) [volp p (lv a 1 100000 va (n + 1) k), volp p2 (lv b 1 100000 (preB a x.id X k) 0 k), blk (q + 1) 24 (blc y), blk q 24 (blc x)] wr) (fun i _ _ _ _ => 10 - (intOf i).toNat)
    case atStart => exact ⟨0, Nat.zero_le _, rfl, H9.out⟩
    case round =>
      clear H9
      obtain ⟨k, hk, rfl, Sr⟩ := hrel
      have HS := hid Sr
      clear Sr
      have hvl2 : ((lv a 1 100000 va (n + 1) k).bl.length : Int) = (n : Int) + 1 := by show (va.length : Int) = _; omega
      have HVL := hid hvl2
      clear hvl2
      go_wp2_with fail
      refine (vlen_eq (N := (n : Int) + 1) HVL.out HS.out).mono ?_; rintro e w10 ⟨rfl, S10⟩
      have H10 := hid S10
      clear S10 HS HVL
      have hw : IntKind.i64.wrap ((n : Int) + 1 - 1) = (n : Int) := by rw [Int.add_sub_cancel]; exact IntWalk.i64_in _ (by omega)
      by_cases hlt : k < n
      · have hkn : (k : Int) < (n : Int) := by omega
        have hA : readS (lv a 1 100000 va (n + 1) k) = ((spellB (tpPiece a 0 x.id X k), false, 0), lv a 1 100000 va (n + 1) (k + 1)) := lv_read (HVG.out k hlt) rfl
        have hadd := preB_add (b := b) (ib := x.id) ha HX.out.id hXs (k := k) (by rw [HN.out]; exact hlt)
        have hss := spellB_size (tpPiece_ok (lab := a) (frm := 0) (blob := x.id) (data := X) (k := k) ha (by omega) HX.out.id (by omega) (by rw [HN.out]; exact hlt))
        obtain ⟨sp, hsp⟩ : ∃ sp, spellB (tpPiece a 0 x.id X k) = sp := ⟨_, rfl⟩
        rw [hsp] at hA hadd hss
        have HA := hid hA
        have HADD := hid hadd
        clear hsp hA hadd
        go_wp2_with fail
        refine (vread (FV.out k (by omega)).ok HA.out H10.out).mono ?_; rintro e w11 ⟨rfl, S11⟩
        have H11 := hid S11.swap
        clear S11 H10 HA
        go_wp2_with fail
        refine (vwrite sp (FW.out k k (by omega) (by omega)).ok (by omega) (by show (preB a x.id X k).length < _; rw [preB_len]; omega) HADD.out H11.out).mono ?_; rintro e w12 ⟨rfl, S12⟩
        have H12 := hid S12.swap
        clear S12 H11 HADD
        go_wp2_with fail
        go_roundw
        case rel => exact ⟨k + 1, by omega, by go_num, H12.out⟩
        case measure => simp [intOf]; omega
      · obtain rfl : k = n := by omega
        have hkk : ¬ (k : Int) < (k : Int) := by omega
        have c0 := (H10.out.pick 3).isBlk.cell 0 (v := .int .u64 (x.id : Int)) rfl
        have H11 := hid H10.out.swap
        have hnx := HN.out
        have hg0 : (preB a x.id X k)[0]? = some (tpBlock a 0 x.id X 0) := by
          unfold preB
          rw [tpBks_get _ _ _ (by omega), Nat.zero_add]
        have hrd : RdR b ((0 : Nat) : Int) x.id 0 (lv b 1 100000 (preB a x.id X k) 0 0) 0 [] ([], 3, lv b 1 100000 (preB a x.id X k) 0 1) := other_read (la := a) (lab := b) ha (by omega) HX.out.id (by omega) (by omega) hne hg0 _ _ _ _
        have hs0 : seekS (lv b 1 100000 (preB a x.id X k) 0 k) ((0 : Nat) : Int) = (0, lv b 1 100000 (preB a x.id X k) 0 0) := lv_seek 0 (Nat.zero_le _)
        have HRD := hid hrd
        have HS0 := hid hs0
        clear H10 hrd hs0 hg0 hnx
        go_wp2_with fail
        refine (tread_sat HT.out (FW.out k k (by omega) (by omega)) (lab := b) rfl 0 (by omega) x.id HS0.out (N := 0) (by omega) (R := ([], 3, lv b 1 100000 (preB a x.id X k) 0 1)) (fun _ => HRD.out) (fun e => absurd rfl e) H11.out).mono ?_; rintro e w12 ⟨rfl, S12⟩
        have d0 := (S12.pick 2).isBlk.cell 0 (v := .int .u64 (y.id : Int)) rfl
        have d1 := (S12.pick 2).isBlk.cell 1 (v := .string y.s) rfl
        have d2 := (S12.pick 2).isBlk.cell 2 (v := .int .i64 y.n) rfl
        have H12 := hid S12
        clear S12 H11 c0 HRD HS0
        have hwr : writeS (lv b 1 100000 (preB a x.id X k) 0 1) y.id Y = ((k : Int), 0, lv b 1 100000 (othB a b x.id X y.id Y) (othB a b x.id X y.id Y).length (othB a b x.id X y.id Y).length) := by
          have h := preB_wt (a := a) (ib := x.id) ha HX.out.id hXs k (by rw [HN.out]; exact Nat.le_refl _)
          have h2 : weightN Y.size ≤ 832 := by unfold weightN nparts; omega
          have h3 := lv_write (lab := b) (er := 1) (room := 100000) (bl := preB a x.id X k) (sure := 0) (at_ := 1) (blob := y.id) (data := Y) hb (by rw [preB_len]; omega) HY.out.id (by omega) (preB_torn k) (by omega)
          rw [preB_len] at h3
          have e : othB a b x.id X y.id Y = preB a x.id X k ++ tpAll b k y.id Y := by unfold othB; rw [HN.out]
          rw [e]
          exact h3
        have HWR := hid hwr
        clear hwr
        have HFO := hid (show (lv b 1 100000 (othB a b x.id X y.id Y) (othB a b x.id X y.id Y).length (othB a b x.id X y.id Y).length).fit by
          have h := preB_wt (a := a) (ib := x.id) ha HX.out.id hXs k (by rw [HN.out]; exact Nat.le_refl _)
          have h2 : weightN Y.size ≤ 832 := by unfold weightN nparts; omega
          have h3 := tpAll_wt (lab := b) (frm := k) (blob := y.id) (data := Y) hb (by omega) HY.out.id (by omega)
          have e : wsum (othB a b x.id X y.id Y) = wsum (preB a x.id X k) + wsum (tpAll b k y.id Y) := by unfold othB; rw [HN.out, wsum_app]
          exact lv_fit (by omega) (by omega) (by omega) (Nat.le_refl _) (Nat.le_refl _) (by omega) (by omega))
        have HSC := hid (oth_scan (a := a) (b := b) (X := X) (Y := Y) ha hb hne HX.out.id HY.out.id hXs hYs (othB a b x.id X y.id Y).length)
        go_upto_region 18 with fail
        go_cut [19, 20] (fun t u wx => t = .int .i64 (k : Int) ∧ u = .int .i64 0 ∧ Sat w (wpart w) [volp p2 (lv b 1 100000 (othB a b x.id X y.id Y) (othB a b x.id X y.id Y).length (othB a b x.id X y.id Y).length), volp p (lv a 1 100000 va (k + 1) k), blk (q + 1) 24 (blc y), blk q 24 (blc x)] wx)
        case first =>
          go_region_with (first
            | (go_at_call 13; refine (long_sat y.s y.n HY.out.s HY.out.n HDY.out H12.out.drew).mono ?_; rintro e w13 ⟨rfl, S13⟩; have f0 := (S13.pick 2).isBlk.cell 0 (v := .int .u64 (y.id : Int)) rfl; have H13 := hid S13; clear S13)
            | (go_at_call 14; refine (twrite_sat HT.out (FW.out k 1 (by omega) (by omega)) hb y.id HY.out.id Y (by omega) HWR.out H13.out).mono ?_; rintro e w14 ⟨rfl, S14⟩; have H14 := hid S14; clear S14))
          all_goals
            go_wp2_with fail
            go_meet
            exact ⟨rfl, rfl, H14.out⟩
        case rest =>
          obtain ⟨rfl, rfl, S14⟩ := hcut
          have H14 := hid S14
          clear S14 H12 d0 d1 d2
          go_wp2_with fail
          refine (scan_sat HT.out HFO.out (NN := 2 + nparts X.size) (by have := HN.out; omega) HSC.out H14.out).mono ?_
          rintro e w15 ⟨J, a3, c3, at3, rfl, hc1, hc2, hJ, hrd, hat3, S15⟩
          obtain ⟨g, off, rfl, cx⟩ := hrd.get S15 1 (u := .int .i64 (nparts X.size : Int)) rfl
          rw [HN.out] at cx
          have H15 := hid S15
          clear S15 H14 hrd
          go_wp2_with fail
          go_ret
          exact ⟨rfl, H15.out.toBelow hJ⟩
theorem tapefmtOther_walk (a b : ByteArray) (cs ds : Array Value) (w : World) (hT : Rd (wpart w) (some ⟨0, 0, none⟩) tabV) (ha : a.size ≤ maxLen) (hb : b.size ≤ maxLen) (hz : cs.size = Tryd.prog.cellsOf 24) (hm : OkT Tryd.prog w 6 24 cs.toList) (hz2 : ds.size = Tryd.prog.cellsOf 24) (hm2 : OkT Tryd.prog w 6 24 ds.toList) :
    Calls Tryd.prog 6 #[.string a, .string b, .agg cs, .agg ds] w (RetB (.bool true) w.heap.size w) := by
  obtain ⟨x, hx, rfl⟩ := blob_agg hz hm
  obtain ⟨y, hy, rfl⟩ := blob_agg hz2 hm2
  by_cases h1 : a.size ≤ 32
  · by_cases h2 : b.size ≤ 32
    · by_cases h3 : a = b
      · exact tapefmtOther_out hT (Or.inr (Or.inr ⟨h1, h2, h3⟩))
      · exact tapefmtOther_main a b x y hx hy w hT h1 h2 h3
    · exact tapefmtOther_out hT (Or.inr (Or.inl ⟨h1, by omega⟩))
  · exact tapefmtOther_out hT (Or.inl (by omega))
end Go.Proofs.YtcogjlfdhiomnaaDoor
