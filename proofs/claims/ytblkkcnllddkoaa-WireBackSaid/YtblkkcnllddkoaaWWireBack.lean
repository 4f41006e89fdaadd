/- WireBack, walked. -/
import Derived.Test.YtblkkcnllddkoaaWireDL
import Derived.Deep.RegionHeld3
namespace Go.Proofs.Ytblkkcnllddkoaa
open Go.RowKit
set_option linter.unusedVariables false

def catF (B : Nat → List UInt8) : Nat → Nat → List UInt8
  | _, 0 => []
  | k, n + 1 => B k ++ catF B (k + 1) n
def tB (t : Thg) : List UInt8 := thingB t.kind t.n t.u t.is t.s t.zs
instance : Inhabited Thg := ⟨⟨0, 0, 0, 0, false, ByteArray.empty, none, 0, []⟩⟩
theorem takeI_big (most : Int) (v : Nat) (hv : v < 18446744073709551616) (rest : List UInt8) (h : (max most 0).toNat < v) : takeI most (encU v ++ rest) = (0, rest, 11) := by
  unfold takeI
  rw [takeU_enc v hv rest, if_pos ⟨rfl, h⟩]
theorem takeLs_enc : ∀ (ys : List Int) (rest : List UInt8), (∀ z ∈ ys, z ≤ 4611686018427387904) → takeLs 4611686018427387904 ys.length ((ys.flatMap fun z => encU (max z 0).toNat) ++ rest) = (ys.map fun z => max z 0, rest, 0)
  | [], rest, _ => rfl
  | z :: ys, rest, h => by
    have hz := h z (by simp)
    rw [List.flatMap_cons, List.length_cons, takeLs, List.append_assoc, takeI_enc _ _ (by omega) _ (by omega)]
    simp only [ne_eq, not_true_eq_false, ↓reduceIte]
    rw [takeLs_enc ys rest (fun y hy => h y (by simp [hy]))]
    simp only [List.map_cons, Prod.mk.injEq, List.cons.injEq, and_true]
    omega
theorem takeLs_big : ∀ (ys : List Int) (rest : List UInt8), (∀ z ∈ ys, z ≤ 9223372036854775807) → (∃ z ∈ ys, 4611686018427387904 < z) → (takeLs 4611686018427387904 ys.length ((ys.flatMap fun z => encU (max z 0).toNat) ++ rest)).2.2 = 11
  | [], rest, _, h => by obtain ⟨z, hz, _⟩ := h; cases hz
  | z :: ys, rest, h, hb => by
    have hz := h z (by simp)
    rw [List.flatMap_cons, List.length_cons, takeLs, List.append_assoc]
    by_cases h1 : 4611686018427387904 < z
    · rw [takeI_big _ _ (by omega) _ (by omega)]
      simp
    · rw [takeI_enc _ _ (by omega) _ (by omega)]
      simp only [ne_eq, not_true_eq_false, ↓reduceIte]
      obtain ⟨y, hy, hy2⟩ := hb
      refine takeLs_big ys rest (fun y hy => h y (by simp [hy])) ⟨y, ?_, hy2⟩
      rcases List.mem_cons.1 hy with rfl | hy
      · exact absurd hy2 h1
      · exact hy
theorem takeL_enc (ys : List Int) (rest : List UInt8) (hl : ys.length ≤ 20) (h : ∀ z ∈ ys, z ≤ 4611686018427387904) :
    takeL 20 4611686018427387904 (encU ys.length ++ (ys.flatMap fun z => encU (max z 0).toNat) ++ rest) = (ys.map fun z => max z 0, rest, 0) := by
  unfold takeL
  rw [List.append_assoc, takeI_enc 20 ys.length (by omega) _ (by omega)]
  simp only [ne_eq, not_true_eq_false, ↓reduceIte]
  rw [takeLs_enc ys rest h]
  simp
theorem takeL_big (ys : List Int) (rest : List UInt8) (hl : ys.length ≤ 20) (h : ∀ z ∈ ys, z ≤ 9223372036854775807) (hb : ∃ z ∈ ys, 4611686018427387904 < z) :
    (takeL 20 4611686018427387904 (encU ys.length ++ (ys.flatMap fun z => encU (max z 0).toNat) ++ rest)).1 = [] ∧ (takeL 20 4611686018427387904 (encU ys.length ++ (ys.flatMap fun z => encU (max z 0).toNat) ++ rest)).2.2 = 11 := by
  have hb' := takeLs_big ys rest h hb
  unfold takeL
  rw [List.append_assoc, takeI_enc 20 ys.length (by omega) _ (by omega)]
  simp only [ne_eq, not_true_eq_false, ↓reduceIte]
  rw [if_pos (by rw [hb']; decide)]
  exact ⟨rfl, hb'⟩

section
variable {w0 w : World} {I : Part} {L : List HP} {d : Nat} {rest : List UInt8}
theorem decU_enc (u : Int) (hu : 0 ≤ u ∧ u ≤ 18446744073709551615) (h : Sat w0 I (decr d (encU u.toNat ++ rest) 0 :: L) w) :
    Calls Try.prog 21 #[.pointer (some ⟨d, 0, none⟩)] w fun e w' => e = .returned (.int .u64 u) ∧ Sat w0 I (decr d rest 0 :: L) w' := by
  have := decU_sat h
  rw [takeU_enc u.toNat (by omega) rest, show ((u.toNat : Nat) : Int) = u by omega] at this
  exact this
theorem decI_enc' (n m : Int) (hm : max n 0 = m) (hn : n ≤ 9223372036854775807) (h : Sat w0 I (decr d (encU (max n 0).toNat ++ rest) 0 :: L) w) :
    Calls Try.prog 22 #[.pointer (some ⟨d, 0, none⟩), .int .i64 m] w fun e w' => e = .returned (.int .i64 m) ∧ Sat w0 I (decr d rest 0 :: L) w' := by
  subst hm
  have := decI_sat (max n 0) h (by omega)
  rw [takeI_enc (max n 0) (max n 0).toNat (by omega) rest (by omega), show (((max n 0).toNat : Nat) : Int) = max n 0 by omega] at this
  exact this
theorem decB_enc (b : Bool) (h : Sat w0 I (decr d ([bB b] ++ rest) 0 :: L) w) :
    Calls Try.prog 23 #[.pointer (some ⟨d, 0, none⟩)] w fun e w' => e = .returned (.bool b) ∧ Sat w0 I (decr d rest 0 :: L) w' := decB_sat b h
theorem decList_enc (ys : List Int) (hl : ys.length ≤ 20) (hy : ∀ z ∈ ys, z ≤ 4611686018427387904) (h : Sat w0 I (decr d (encU ys.length ++ (ys.flatMap fun z => encU (max z 0).toNat) ++ rest) 0 :: L) w) :
    Calls Try.prog 24 #[.pointer (some ⟨d, 0, none⟩), .int .i64 20, .int .i64 4611686018427387904] w fun e w' => ∃ J a cap, e = .returned (.slice a ys.length cap) ∧ ys.length ≤ cap ∧ cap ≤ 9223372036854775807 ∧ I.le J ∧ Rd J a ((ys.map fun z => max z 0).map (Value.int .i64)) ∧ Sat w0 J (decr d rest 0 :: L) w' := by
  refine (decList_sat 20 4611686018427387904 h (by omega) (by omega)).mono ?_
  rintro e w' ⟨v, rfl, S⟩
  rw [takeL_enc ys rest hl hy] at S
  obtain ⟨J, a, cap, hJ, S', hv, hc, hm, _, hr⟩ := S.freezeRow
  simp only [List.length_map] at hv hc
  unfold maxLen at hm
  exact ⟨J, a, cap, by rw [hv], hc, hm, hJ, hr, S'⟩
theorem decList_big (ys : List Int) (hl : ys.length ≤ 20) (hy : ∀ z ∈ ys, z ≤ 9223372036854775807) (hb : ∃ z ∈ ys, 4611686018427387904 < z) (h : Sat w0 I (decr d (encU ys.length ++ (ys.flatMap fun z => encU (max z 0).toNat) ++ rest) 0 :: L) w) :
    Calls Try.prog 24 #[.pointer (some ⟨d, 0, none⟩), .int .i64 20, .int .i64 4611686018427387904] w fun e w' => ∃ a cap R, e = .returned (.slice a 0 cap) ∧ Sat w0 I (decr d R 11 :: L) w' := by
  refine (decList_sat 20 4611686018427387904 h (by omega) (by omega)).mono ?_
  rintro e w' ⟨v, rfl, S⟩
  obtain ⟨h1, h2⟩ := takeL_big ys rest hl hy hb
  rw [h1, h2] at S
  obtain ⟨J, a, cap, hJ, S', hv, hc, hm, _, hr⟩ := S.freezeRow
  exact ⟨a, cap, _, by rw [hv]; rfl, S'.thaw hJ⟩
theorem cut_eq (w : World) (s : ByteArray) (n : Nat) (hn : n ≤ 100000) (hs : s.size ≤ 9223372036854775807) :
    Calls Try.prog 12 #[.string s, .int .i64 (n : Int)] w fun e w' => e = .returned (.string (s.extract 0 n)) ∧ w' = w := by
  by_cases h : n < s.size
  · have h' : (n : Int) < (s.size : Int) := by omega
    go_enter Try.func12, Try.ntmps12
    go_wp2_with fail
    go_ret
    exact ⟨rfl, rfl⟩
  · have h' : ¬ (n : Int) < (s.size : Int) := by omega
    go_enter Try.func12, Try.ntmps12
    go_wp2_with fail
    go_ret
    refine ⟨?_, rfl⟩
    rw [baAll s n (by omega)]; rfl
theorem decI_enc (n : Int) (hn : n ≤ 9223372036854775807) (h : Sat w0 I (decr d (encU (max n 0).toNat ++ rest) 0 :: L) w) :
    Calls Try.prog 22 #[.pointer (some ⟨d, 0, none⟩), .int .i64 (max n 0)] w fun e w' => e = .returned (.int .i64 (max n 0)) ∧ Sat w0 I (decr d rest 0 :: L) w' := by
  have := decI_sat (max n 0) h (by omega)
  rw [takeI_enc (max n 0) (max n 0).toNat (by omega) rest (by omega), show (((max n 0).toNat : Nat) : Int) = max n 0 by omega] at this
  exact this
theorem decS_enc (s : ByteArray) (hs : s.size ≤ 200) (h : Sat w0 I (decr d (encS s ++ rest) 0 :: L) w) :
    Calls Try.prog 19 #[.pointer (some ⟨d, 0, none⟩), .int .i64 200] w fun e w' => e = .returned (.string s) ∧ Sat w0 I (decr d rest 0 :: L) w' := by
  have := decS_sat 200 h (by omega)
  rw [takeS_enc 200 s (by omega) rest (by omega)] at this
  exact this
end

set_option maxRecDepth 100000 in
set_option maxHeartbeats 20000000 in
theorem wireBack_le (la : Option Addr) (len cap : Nat) (w : World) (hlen20 : len ≤ 20) (hl : OkT Try.prog w 6 31 [.slice la len cap]) :
    Calls Try.prog 7 #[.slice la len cap] w (RetB (.bool true) w.heap.size w) := by
  have hn200 : (200 : Nat) ≤ 100000 := by omega
  obtain ⟨hlen, hlc, hthg⟩ := okT_things hl
  obtain ⟨f, hf⟩ := Deep.choose_lt hthg
  have HR := hid hf
  obtain ⟨N, hN⟩ : ∃ N, min len 20 = N := ⟨_, rfl⟩
  have hN1 : N ≤ len := by omega
  have hN2 : N ≤ 20 := by omega
  have HN := hid hN
  clear hl hthg hf hN
  have H0 := hid (Sat.start w)
  go_enter Try.func7, Try.ntmps7
  go_wp2_with fail
  refine (awake_sat H0.out).mono ?_; rintro r w1 ⟨rfl, S1⟩
  have HS1 := hid S1
  clear S1
  go_wp2_with fail
  obtain ⟨e, he⟩ : ∃ e, w1.heap.size = e := ⟨_, rfl⟩
  refine wp_gen (fun w2 => Sat w (wpart w) [enc e []] w2) (HS1.out.encNew he.symm) ?_
  rw [he]
  clear he HS1
  intro w2 S2
  go_loopw [4] (fun i wr => ∃ (k : Nat) (bs : List UInt8), k ≤ N ∧ i = .int .i64 k ∧ bs.length ≤ 400 * k ∧ bs ++ catF (fun i => tB (f i)) k (N - k) = catF (fun i => tB (f i)) 0 N ∧ Sat w (wpart w) [enc e bs] wr) (fun i _ => N - (intOf i).toNat)
  case atStart => exact ⟨0, [], Nat.zero_le _, rfl, by simp, rfl, S2⟩
  case round =>
    clear S2
    obtain ⟨k, bs, hk, rfl, hbl, hcat, Sr⟩ := hrel
    have HS := hid Sr
    have HCAT := hid hcat
    clear Sr hcat
    by_cases hlt : k < N
    · have htg := HR.out k (by omega)
      obtain ⟨b', off, rfl, c0, c1, c2, c3, c4, c5, c6⟩ := htg.get HS.out
      have OK := hid htg.ok
      have hcat : catF (fun i => tB (f i)) k (N - k) = tB (f k) ++ catF (fun i => tB (f i)) (k + 1) (N - (k + 1)) := by
        rw [show N - k = (N - (k + 1)) + 1 by omega, catF]
      have HC2 := hid hcat
      have htb : tB (f k) = thingB (f k).kind (f k).n (f k).u (f k).is (f k).s (f k).zs := rfl
      have HTB := hid htb
      clear htg hcat htb
      generalize hfk : f k = tg at *
      clear hfk
      have hk1 : (k : Int) < (len : Int) := by omega
      have hk0 : (0 : Int) ≤ (k : Int) := by omega
      have hk2 : (k : Int) < 20 := by omega
      go_wp2_with fail
      refine (put_any tg.kind tg.n tg.m tg.u tg.is tg.s tg.la tg.cap tg.zs HS.out OK.out.rd OK.out.n0.2 OK.out.u0 OK.out.s0 (fun z hz => (OK.out.zwf z hz).2) (by have := OK.out.cap0; omega) OK.out.cap0 (by omega)).mono ?_; rintro r w3 ⟨rfl, S3⟩
      have htl := thingB_len tg.kind tg.n tg.u tg.is tg.s tg.zs OK.out.n0.2 OK.out.u0.2 (fun z hz => (OK.out.zwf z hz).2)
      rw [← HTB.out] at S3 htl
      have HS3 := hid S3
      clear S3 c0 c1 c2 c3 c4 c5 c6
      go_wp2_with fail
      go_roundw
      case rel => exact ⟨k + 1, bs ++ tB tg, by omega, by go_num, by simp; omega, by rw [List.append_assoc, ← HC2.out]; exact HCAT.out, HS3.out⟩
      case measure => (simp [intOf] <;> omega)
    · obtain rfl : k = N := by omega
      have hbs : bs = catF (fun i => tB (f i)) 0 k := by have := HCAT.out; rw [Nat.sub_self, catF, List.append_nil] at this; exact this
      have HBS := hid hbs
      clear hbs HCAT hlt
      first
      | (have hk1 : ¬ (k : Int) < (len : Int) := by have := HN.out; omega)
      | (have hk1 : ¬ (k : Int) < (20 : Int) := by have := HN.out; omega)
      go_wp2_with fail
      refine (bytes_sat HS.out).mono ?_; rintro r w3 ⟨rfl, S3⟩
      have HS3 := hid S3
      clear S3 HS
      go_wp2_with fail
      refine (from_sat _ HS3.out (by simp [ByteArray.size]; omega)).mono ?_; rintro r w4 ⟨d, rfl, S4⟩
      rw [HBS.out] at S4
      have HS4 := hid (S4.pick 1).drop
      clear S4 HS3 hk1
      go_wp2_with fail
      go_loopw [6, 7, 8, 9, 10, 11] (fun i _ _ _ _ _ wr => ∃ (j : Nat), j ≤ k ∧ i = .int .i64 j ∧ Sat w (wpart w) [decr d (catF (fun i => tB (f i)) j (k - j)) 0] wr) (fun i _ _ _ _ _ _ => k - (intOf i).toNat)
      case atStart => exact ⟨0, Nat.zero_le _, rfl, HS4.out⟩
      case round =>
        clear HS4
        obtain ⟨j, hj, rfl, Sr⟩ := hrel
        have HS := hid Sr
        clear Sr
        by_cases hlt : j < k
        · have htg := HR.out j (by omega)
          obtain ⟨b', off, rfl, c0, c1, c2, c3, c4, c5, c6⟩ := htg.get HS.out
          have OK := hid htg.ok
          have hcat : catF (fun i => tB (f i)) j (k - j) = tB (f j) ++ catF (fun i => tB (f i)) (j + 1) (k - (j + 1)) := by
            rw [show k - j = (k - (j + 1)) + 1 by omega, catF]
          rw [hcat] at HS
          have htb : tB (f j) = thingB (f j).kind (f j).n (f j).u (f j).is (f j).s (f j).zs := rfl
          rw [htb] at HS
          clear htg hcat htb
          generalize hfk : f j = tg at *
          clear hfk
          have hk1 : (j : Int) < (len : Int) := by omega
          have hk0 : (0 : Int) ≤ (j : Int) := by omega
          have hk2 : (j : Int) < 20 := by omega
          obtain ⟨g, hg⟩ : ∃ g, wr.heap.size = g := ⟨_, rfl⟩
          have HG := hid hg
          clear hg
          obtain ⟨rest, hrest⟩ : ∃ rest, catF (fun i => tB (f i)) (j + 1) (k - (j + 1)) = rest := ⟨_, rfl⟩
          rw [hrest] at HS
          have HREST := hid hrest
          clear hrest
          by_cases k1 : tg.kind = 1
          · have b1 : (tg.kind == 1) = true := by simp [k1]
            rw [thingB, if_pos k1] at HS
            clear k1
            go_wp2_with fail
            refine wp_gen (fun w5 => Sat w (wpart w) [decr d _ 0, blk g 35 tg.cells] w5) (HS.out.alloc rfl HG.out.symm).swap ?_
            rw [HG.out]
            intro w5 S5
            clear HS c0 c1 c2 c3 c4 c5 c6
            have c9 := S5.swap.isBlk.cell 3 rfl
            have HS5 := hid S5
            clear S5
            go_region_held3 (fun w' => w'.cell? ⟨g, 3, none⟩ = some (.int .u64 tg.u)) (first | exact c9 | exact c10) (first | (go_at_call 21; refine (decU_enc tg.u OK.out.u0 HS5.out.drew).mono ?_; rintro r w6 ⟨rfl, S6⟩; have c10 := S6.swap.isBlk.cell 3 rfl; have HS6 := hid S6; clear S6))
            all_goals
              go_wp2_with fail
              go_roundw
              case rel => exact ⟨j + 1, by omega, by go_num, HREST.out ▸ HS6.out.swap.drop⟩
              case measure => (simp [intOf] <;> omega)
          have b1 : (tg.kind == 1) = false := by simp [k1]
          by_cases k2 : tg.kind = 2
          · have b2 : (tg.kind == 2) = true := by simp [k2]
            rw [thingB, if_neg k1, if_pos k2] at HS
            have hn1 := OK.out.n0.2
            clear k1 k2
            go_wp2_with fail
            refine wp_gen (fun w5 => Sat w (wpart w) [decr d _ 0, blk g 35 tg.cells] w5) (HS.out.alloc rfl HG.out.symm).swap ?_
            rw [HG.out]
            intro w5 S5
            clear HS c0 c1 c2 c3 c4 c5 c6
            have c9 := S5.swap.isBlk.cell 1 rfl
            have HS5 := hid S5
            clear S5
            go_region_held3 (fun w' => w'.cell? ⟨g, 1, none⟩ = some (.int .i64 tg.n)) (first | exact c9 | exact c10) (first | (go_at_call 22; refine (decI_enc tg.n hn1 HS5.out.drew).mono ?_; rintro r w6 ⟨rfl, S6⟩; have c10 := S6.swap.isBlk.cell 1 rfl; have HS6 := hid S6; clear S6))
            all_goals
              go_wp2_with fail
              go_roundw
              case rel => exact ⟨j + 1, by omega, by go_num, HREST.out ▸ HS6.out.swap.drop⟩
              case measure => (simp [intOf] <;> omega)
          have b2 : (tg.kind == 2) = false := by simp [k2]
          by_cases k3 : tg.kind = 3
          · have b3 : (tg.kind == 3) = true := by simp [k3]
            rw [thingB, if_neg k1, if_neg k2, if_pos k3] at HS
            clear k1 k2 k3
            go_wp2_with fail
            refine wp_gen (fun w5 => Sat w (wpart w) [decr d _ 0, blk g 35 tg.cells] w5) (HS.out.alloc rfl HG.out.symm).swap ?_
            rw [HG.out]
            intro w5 S5
            clear HS c0 c1 c2 c3 c4 c5 c6
            have c9 := S5.swap.isBlk.cell 4 rfl
            have HS5 := hid S5
            clear S5
            go_region_held3 (fun w' => w'.cell? ⟨g, 4, none⟩ = some (.bool tg.is)) (first | exact c9 | exact c10) (first | (go_at_call 23; refine (decB_enc tg.is HS5.out.drew).mono ?_; rintro r w6 ⟨rfl, S6⟩; have c10 := S6.swap.isBlk.cell 4 rfl; have HS6 := hid S6; clear S6))
            all_goals
              go_wp2_with fail
              go_roundw
              case rel => exact ⟨j + 1, by omega, by go_num, HREST.out ▸ HS6.out.swap.drop⟩
              case measure => (simp [intOf] <;> omega)
          have b3 : (tg.kind == 3) = false := by simp [k3]
          by_cases k4 : tg.kind = 4
          · have b4 : (tg.kind == 4) = true := by simp [k4]
            rw [thingB, if_neg k1, if_neg k2, if_neg k3, if_pos k4] at HS
            clear k1 k2 k3 k4
            have hcs := cutSize tg.s 200
            have hs1 := OK.out.s0
            go_wp2_with fail
            refine wp_gen (fun w5 => Sat w (wpart w) [decr d _ 0, blk g 35 tg.cells] w5) (HS.out.alloc rfl HG.out.symm).swap ?_
            rw [HG.out]
            intro w5 S5
            clear HS c0 c1 c2 c3 c4 c5 c6
            have c9 := S5.swap.isBlk.cell 5 rfl
            have HS5 := hid S5
            clear S5
            go_region_held3 (fun w' => w'.cell? ⟨g, 5, none⟩ = some (.string tg.s)) (first | exact c9 | exact c10) (first | (go_at_call 19; refine (decS_enc _ hcs HS5.out.drew).mono ?_; rintro r w6 ⟨rfl, S6⟩; have c10 := S6.swap.isBlk.cell 5 rfl; have HS6 := hid S6; clear S6) | (go_at_call 12; refine (cut_eq _ tg.s 200 hn200 hs1).mono ?_; rintro r w7 ⟨rfl, rfl⟩))
            all_goals
              go_wp2_with fail
              go_roundw
              case rel => exact ⟨j + 1, by omega, by go_num, HREST.out ▸ HS6.out.swap.drop⟩
              case measure => (simp [intOf] <;> omega)
          have b4 : (tg.kind == 4) = false := by simp [k4]
          by_cases k5 : tg.kind = 5
          · have b5 : (tg.kind == 5) = true := by simp [k5]
            rw [thingB, if_neg k1, if_neg k2, if_neg k3, if_neg k4, if_pos k5] at HS
            clear k1 k2 k3 k4 k5
            have hmin : (tg.zs.take 20).length = min 20 tg.zs.length := List.length_take
            have hget : ∀ q, q < (tg.zs.take 20).length → (tg.zs.take 20)[q]? = tg.zs[q]? := fun q hq => by rw [List.getElem?_take_of_lt]; omega
            have hwy : ∀ z ∈ tg.zs.take 20, z ≤ 9223372036854775807 := fun z hz => (OK.out.zwf z (List.mem_of_mem_take hz)).2
            obtain ⟨ys, hys⟩ : ∃ ys, tg.zs.take 20 = ys := ⟨_, rfl⟩
            rw [hys] at hmin hget hwy HS
            have hyl : ys.length ≤ tg.zs.length := by omega
            have hy20 : ys.length ≤ 20 := by omega
            have hc1 := OK.out.cap0.1
            have hc2 := OK.out.cap0.2
            have HMIN := hid hmin
            have HGET := hid hget
            have HWY := hid hwy
            clear hmin hget hwy hys
            by_cases k7 : ∃ z ∈ ys, 4611686018427387904 < z
            · have HK7 := hid k7
              have hy1 : 0 < ys.length := by
                obtain ⟨z, hz, _⟩ := k7
                exact List.length_pos_of_mem hz
              have hne : ((0 : Int) != (ys.length : Int)) = true := by rw [bne_iff_ne]; omega
              clear k7
              go_wp2_with fail
              refine calls_gen (fun w5 => Sat w (wpart w) [decr d _ 0, blk g 35 tg.cells] w5) (HS.out.alloc rfl HG.out.symm).swap ?_
              rw [HG.out]
              intro w5 S5
              clear HS c0 c1 c2 c3 c4 c5 c6
              refine (decList_big ys hy20 HWY.out HK7.out S5).mono ?_; rintro r w6 ⟨a, cap', R9, rfl, S6⟩
              have c9 := S6.swap.isBlk.cell 6 rfl
              have HS6 := hid S6
              clear S6 S5
              go_wp2_with (refine wpList_val (o := ⟨some 87, _, _, _, _, _⟩) rfl (.int .i64 (ys.length : Int)) ?hrun2 ?_)
              case hrun2 =>
                have := HMIN.out
                by_cases hh : tg.zs.length ≤ 20
                · have e1 : ys.length = tg.zs.length := by omega
                  rw [e1]; simp [go_sem]; omega
                · have e1 : ys.length = 20 := by omega
                  rw [e1]; simp [go_sem]; omega
              go_wp2_with fail
              refine (err_sat HS6.out).mono ?_; rintro r w7 ⟨rfl, S7⟩
              have HS7 := hid S7
              clear S7 HS6 c9
              go_wp2_with fail
              go_loop [10, 11, 99] (fun _ _ i => i = .int .i64 0) (fun _ _ i => 0)
              case atStart => rfl
              case round =>
                obtain rfl := hrel
                go_wp2_with fail
                refine (err_sat HS7.out).mono ?_; rintro r w8 ⟨rfl, S8⟩
                have HS8 := hid S8
                clear S8 HS7
                go_wp2_with fail
                refine (err_sat HS8.out).mono ?_; rintro r w9 ⟨rfl, S9⟩
                have HS9 := hid S9
                clear S9 HS8
                go_wp2_with fail
                go_ret
                exact ⟨rfl, HS9.out.toBelow (Part.le_refl _)⟩
            have hall : ∀ z ∈ ys, z ≤ 4611686018427387904 := fun z hz => by
              by_cases h : z ≤ 4611686018427387904
              · exact h
              · exact absurd ⟨z, hz, by omega⟩ k7
            have HALL := hid hall
            clear hall k7
            go_wp2_with fail
            refine calls_gen (fun w5 => Sat w (wpart w) [decr d _ 0, blk g 35 tg.cells] w5) (HS.out.alloc rfl HG.out.symm).swap ?_
            rw [HG.out]
            intro w5 S5
            clear HS c0 c1 c2 c3 c4 c5 c6
            refine (decList_enc ys hy20 HALL.out S5).mono ?_; rintro r w6 ⟨J, a, cap', rfl, hca, hcb, hJ, hrd, S6⟩
            have c9 := S6.swap.isBlk.cell 6 rfl
            have HS6 := hid S6
            have HRD := hid hrd
            have HRZ := hid (OK.out.rd.mono hJ)
            clear S6 S5 hrd
            go_wp2_with (refine wpList_val (o := ⟨some 87, _, _, _, _, _⟩) rfl (.int .i64 (ys.length : Int)) ?hrun ?_)
            case hrun =>
              have := HMIN.out
              by_cases hh : tg.zs.length ≤ 20
              · have e1 : ys.length = tg.zs.length := by omega
                rw [e1]; simp [go_sem]; omega
              · have e1 : ys.length = 20 := by omega
                rw [e1]; simp [go_sem]; omega
            go_wp2_with fail
            go_loop [10, 11, 99] (fun _ _ i => ∃ (q : Nat), q ≤ ys.length ∧ i = .int .i64 (q : Int)) (fun _ _ i => ys.length - (intOf i).toNat)
            case atStart => exact ⟨0, Nat.zero_le _, rfl⟩
            case round =>
              obtain ⟨q, hq, rfl⟩ := hrel
              by_cases hql : q < ys.length
              · obtain ⟨b1', off1, rfl, d0⟩ := HRD.out.get HS6.out q (u := .int .i64 (max ys[q] 0)) (by simp [hql])
                obtain ⟨b2', off2, hla2, d1⟩ := HRZ.out.get HS6.out q (u := .int .i64 ys[q]) (by
                  have := HGET.out q hql
                  rw [List.getElem?_eq_getElem hql] at this
                  simp [← this])
                rw [hla2] at c9
                have hq0 : (0 : Int) ≤ (q : Int) := by omega
                have hq1 : (q : Int) < (ys.length : Int) := by omega
                have hq2 : (q : Int) < (tg.zs.length : Int) := by omega
                generalize ys[q] = z at *
                go_wp2_with fail
                go_round
                case rel => exact ⟨q + 1, by omega, by go_num⟩
                case measure => (simp [intOf] <;> omega)
              · obtain rfl : q = ys.length := by omega
                go_wp2_with fail
                refine (err_sat HS6.out).mono ?_; rintro r w7 ⟨rfl, S7⟩
                have HS7 := hid S7
                clear S7 HS6
                go_wp2_with fail
                go_roundw
                case rel => exact ⟨j + 1, by omega, by go_num, HREST.out ▸ (HS7.out.swap.drop.thaw hJ)⟩
                case measure => (simp [intOf] <;> omega)
          have b5 : (tg.kind == 5) = false := by simp [k5]
          by_cases k6 : True
          · rw [thingB, if_neg k1, if_neg k2, if_neg k3, if_neg k4, if_neg k5, List.nil_append] at HS
            clear k1 k2 k3 k4 k5
            go_wp2_with fail
            go_roundw
            case rel => exact ⟨j + 1, by omega, by go_num, HREST.out ▸ HS.out.alloc_ _⟩
            case measure => (simp [intOf] <;> omega)
          exact absurd trivial k6
        · obtain rfl : j = k := by omega
          first
          | (have hk1 : ¬ (j : Int) < (len : Int) := by have := HN.out; omega)
          | (have hk1 : ¬ (j : Int) < (20 : Int) := by have := HN.out; omega)
          rw [Nat.sub_self, catF] at HS
          go_wp2_with fail
          refine (done_sat HS.out).mono ?_; rintro r w7 ⟨rfl, S7⟩
          have HS7 := hid S7
          clear S7 HS
          go_wp2_with fail
          go_ret
          exact ⟨rfl, HS7.out.toBelow (Part.le_refl _)⟩
set_option maxRecDepth 100000 in
set_option maxHeartbeats 20000000 in
theorem wireBack_gt (la : Option Addr) (len cap : Nat) (w : World) (hlen20 : 20 < len) (hl : OkT Try.prog w 6 31 [.slice la len cap]) :
    Calls Try.prog 7 #[.slice la len cap] w (RetB (.bool true) w.heap.size w) := by
  have hn200 : (200 : Nat) ≤ 100000 := by omega
  obtain ⟨hlen, hlc, hthg⟩ := okT_things hl
  obtain ⟨f, hf⟩ := Deep.choose_lt hthg
  have HR := hid hf
  obtain ⟨N, hN⟩ : ∃ N, min len 20 = N := ⟨_, rfl⟩
  have hN1 : N ≤ len := by omega
  have hN2 : N ≤ 20 := by omega
  have HN := hid hN
  clear hl hthg hf hN
  have H0 := hid (Sat.start w)
  go_enter Try.func7, Try.ntmps7
  go_wp2_with fail
  refine (awake_sat H0.out).mono ?_; rintro r w1 ⟨rfl, S1⟩
  have HS1 := hid S1
  clear S1
  go_wp2_with fail
  obtain ⟨e, he⟩ : ∃ e, w1.heap.size = e := ⟨_, rfl⟩
  refine wp_gen (fun w2 => Sat w (wpart w) [enc e []] w2) (HS1.out.encNew he.symm) ?_
  rw [he]
  clear he HS1
  intro w2 S2
  go_loopw [4] (fun i wr => ∃ (k : Nat) (bs : List UInt8), k ≤ N ∧ i = .int .i64 k ∧ bs.length ≤ 400 * k ∧ bs ++ catF (fun i => tB (f i)) k (N - k) = catF (fun i => tB (f i)) 0 N ∧ Sat w (wpart w) [enc e bs] wr) (fun i _ => N - (intOf i).toNat)
  case atStart => exact ⟨0, [], Nat.zero_le _, rfl, by simp, rfl, S2⟩
  case round =>
    clear S2
    obtain ⟨k, bs, hk, rfl, hbl, hcat, Sr⟩ := hrel
    have HS := hid Sr
    have HCAT := hid hcat
    clear Sr hcat
    by_cases hlt : k < N
    · have htg := HR.out k (by omega)
      obtain ⟨b', off, rfl, c0, c1, c2, c3, c4, c5, c6⟩ := htg.get HS.out
      have OK := hid htg.ok
      have hcat : catF (fun i => tB (f i)) k (N - k) = tB (f k) ++ catF (fun i => tB (f i)) (k + 1) (N - (k + 1)) := by
        rw [show N - k = (N - (k + 1)) + 1 by omega, catF]
      have HC2 := hid hcat
      have htb : tB (f k) = thingB (f k).kind (f k).n (f k).u (f k).is (f k).s (f k).zs := rfl
      have HTB := hid htb
      clear htg hcat htb
      generalize hfk : f k = tg at *
      clear hfk
      have hk1 : (k : Int) < (len : Int) := by omega
      have hk0 : (0 : Int) ≤ (k : Int) := by omega
      have hk2 : (k : Int) < 20 := by omega
      go_wp2_with fail
      refine (put_any tg.kind tg.n tg.m tg.u tg.is tg.s tg.la tg.cap tg.zs HS.out OK.out.rd OK.out.n0.2 OK.out.u0 OK.out.s0 (fun z hz => (OK.out.zwf z hz).2) (by have := OK.out.cap0; omega) OK.out.cap0 (by omega)).mono ?_; rintro r w3 ⟨rfl, S3⟩
      have htl := thingB_len tg.kind tg.n tg.u tg.is tg.s tg.zs OK.out.n0.2 OK.out.u0.2 (fun z hz => (OK.out.zwf z hz).2)
      rw [← HTB.out] at S3 htl
      have HS3 := hid S3
      clear S3 c0 c1 c2 c3 c4 c5 c6
      go_wp2_with fail
      go_roundw
      case rel => exact ⟨k + 1, bs ++ tB tg, by omega, by go_num, by simp; omega, by rw [List.append_assoc, ← HC2.out]; exact HCAT.out, HS3.out⟩
      case measure => (simp [intOf] <;> omega)
    · obtain rfl : k = N := by omega
      have hbs : bs = catF (fun i => tB (f i)) 0 k := by have := HCAT.out; rw [Nat.sub_self, catF, List.append_nil] at this; exact this
      have HBS := hid hbs
      clear hbs HCAT hlt
      first
      | (have hk1 : ¬ (k : Int) < (len : Int) := by have := HN.out; omega)
      | (have hk1 : ¬ (k : Int) < (20 : Int) := by have := HN.out; omega)
      go_wp2_with fail
      refine (bytes_sat HS.out).mono ?_; rintro r w3 ⟨rfl, S3⟩
      have HS3 := hid S3
      clear S3 HS
      go_wp2_with fail
      refine (from_sat _ HS3.out (by simp [ByteArray.size]; omega)).mono ?_; rintro r w4 ⟨d, rfl, S4⟩
      rw [HBS.out] at S4
      have HS4 := hid (S4.pick 1).drop
      clear S4 HS3 hk1
      go_wp2_with fail
      go_loopw [6, 7, 8, 9, 10, 11] (fun i _ _ _ _ _ wr => ∃ (j : Nat), j ≤ k ∧ i = .int .i64 j ∧ Sat w (wpart w) [decr d (catF (fun i => tB (f i)) j (k - j)) 0] wr) (fun i _ _ _ _ _ _ => k - (intOf i).toNat)
      case atStart => exact ⟨0, Nat.zero_le _, rfl, HS4.out⟩
      case round =>
        clear HS4
        obtain ⟨j, hj, rfl, Sr⟩ := hrel
        have HS := hid Sr
        clear Sr
        by_cases hlt : j < k
        · have htg := HR.out j (by omega)
          obtain ⟨b', off, rfl, c0, c1, c2, c3, c4, c5, c6⟩ := htg.get HS.out
          have OK := hid htg.ok
          have hcat : catF (fun i => tB (f i)) j (k - j) = tB (f j) ++ catF (fun i => tB (f i)) (j + 1) (k - (j + 1)) := by
            rw [show k - j = (k - (j + 1)) + 1 by omega, catF]
          rw [hcat] at HS
          have htb : tB (f j) = thingB (f j).kind (f j).n (f j).u (f j).is (f j).s (f j).zs := rfl
          rw [htb] at HS
          clear htg hcat htb
          generalize hfk : f j = tg at *
          clear hfk
          have hk1 : (j : Int) < (len : Int) := by omega
          have hk0 : (0 : Int) ≤ (j : Int) := by omega
          have hk2 : (j : Int) < 20 := by omega
          obtain ⟨g, hg⟩ : ∃ g, wr.heap.size = g := ⟨_, rfl⟩
          have HG := hid hg
          clear hg
          obtain ⟨rest, hrest⟩ : ∃ rest, catF (fun i => tB (f i)) (j + 1) (k - (j + 1)) = rest := ⟨_, rfl⟩
          rw [hrest] at HS
          have HREST := hid hrest
          clear hrest
          by_cases k1 : tg.kind = 1
          · have b1 : (tg.kind == 1) = true := by simp [k1]
            rw [thingB, if_pos k1] at HS
            clear k1
            go_wp2_with fail
            refine wp_gen (fun w5 => Sat w (wpart w) [decr d _ 0, blk g 35 tg.cells] w5) (HS.out.alloc rfl HG.out.symm).swap ?_
            rw [HG.out]
            intro w5 S5
            clear HS c0 c1 c2 c3 c4 c5 c6
            have c9 := S5.swap.isBlk.cell 3 rfl
            have HS5 := hid S5
            clear S5
            go_region_held3 (fun w' => w'.cell? ⟨g, 3, none⟩ = some (.int .u64 tg.u)) (first | exact c9 | exact c10) (first | (go_at_call 21; refine (decU_enc tg.u OK.out.u0 HS5.out.drew).mono ?_; rintro r w6 ⟨rfl, S6⟩; have c10 := S6.swap.isBlk.cell 3 rfl; have HS6 := hid S6; clear S6))
            all_goals
              go_wp2_with fail
              go_roundw
              case rel => exact ⟨j + 1, by omega, by go_num, HREST.out ▸ HS6.out.swap.drop⟩
              case measure => (simp [intOf] <;> omega)
          have b1 : (tg.kind == 1) = false := by simp [k1]
          by_cases k2 : tg.kind = 2
          · have b2 : (tg.kind == 2) = true := by simp [k2]
            rw [thingB, if_neg k1, if_pos k2] at HS
            have hn1 := OK.out.n0.2
            clear k1 k2
            go_wp2_with fail
            refine wp_gen (fun w5 => Sat w (wpart w) [decr d _ 0, blk g 35 tg.cells] w5) (HS.out.alloc rfl HG.out.symm).swap ?_
            rw [HG.out]
            intro w5 S5
            clear HS c0 c1 c2 c3 c4 c5 c6
            have c9 := S5.swap.isBlk.cell 1 rfl
            have HS5 := hid S5
            clear S5
            go_region_held3 (fun w' => w'.cell? ⟨g, 1, none⟩ = some (.int .i64 tg.n)) (first | exact c9 | exact c10) (first | (go_at_call 22; refine (decI_enc tg.n hn1 HS5.out.drew).mono ?_; rintro r w6 ⟨rfl, S6⟩; have c10 := S6.swap.isBlk.cell 1 rfl; have HS6 := hid S6; clear S6))
            all_goals
              go_wp2_with fail
              go_roundw
              case rel => exact ⟨j + 1, by omega, by go_num, HREST.out ▸ HS6.out.swap.drop⟩
              case measure => (simp [intOf] <;> omega)
          have b2 : (tg.kind == 2) = false := by simp [k2]
          by_cases k3 : tg.kind = 3
          · have b3 : (tg.kind == 3) = true := by simp [k3]
            rw [thingB, if_neg k1, if_neg k2, if_pos k3] at HS
            clear k1 k2 k3
            go_wp2_with fail
            refine wp_gen (fun w5 => Sat w (wpart w) [decr d _ 0, blk g 35 tg.cells] w5) (HS.out.alloc rfl HG.out.symm).swap ?_
            rw [HG.out]
            intro w5 S5
            clear HS c0 c1 c2 c3 c4 c5 c6
            have c9 := S5.swap.isBlk.cell 4 rfl
            have HS5 := hid S5
            clear S5
            go_region_held3 (fun w' => w'.cell? ⟨g, 4, none⟩ = some (.bool tg.is)) (first | exact c9 | exact c10) (first | (go_at_call 23; refine (decB_enc tg.is HS5.out.drew).mono ?_; rintro r w6 ⟨rfl, S6⟩; have c10 := S6.swap.isBlk.cell 4 rfl; have HS6 := hid S6; clear S6))
            all_goals
              go_wp2_with fail
              go_roundw
              case rel => exact ⟨j + 1, by omega, by go_num, HREST.out ▸ HS6.out.swap.drop⟩
              case measure => (simp [intOf] <;> omega)
          have b3 : (tg.kind == 3) = false := by simp [k3]
          by_cases k4 : tg.kind = 4
          · have b4 : (tg.kind == 4) = true := by simp [k4]
            rw [thingB, if_neg k1, if_neg k2, if_neg k3, if_pos k4] at HS
            clear k1 k2 k3 k4
            have hcs := cutSize tg.s 200
            have hs1 := OK.out.s0
            go_wp2_with fail
            refine wp_gen (fun w5 => Sat w (wpart w) [decr d _ 0, blk g 35 tg.cells] w5) (HS.out.alloc rfl HG.out.symm).swap ?_
            rw [HG.out]
            intro w5 S5
            clear HS c0 c1 c2 c3 c4 c5 c6
            have c9 := S5.swap.isBlk.cell 5 rfl
            have HS5 := hid S5
            clear S5
            go_region_held3 (fun w' => w'.cell? ⟨g, 5, none⟩ = some (.string tg.s)) (first | exact c9 | exact c10) (first | (go_at_call 19; refine (decS_enc _ hcs HS5.out.drew).mono ?_; rintro r w6 ⟨rfl, S6⟩; have c10 := S6.swap.isBlk.cell 5 rfl; have HS6 := hid S6; clear S6) | (go_at_call 12; refine (cut_eq _ tg.s 200 hn200 hs1).mono ?_; rintro r w7 ⟨rfl, rfl⟩))
            all_goals
              go_wp2_with fail
              go_roundw
              case rel => exact ⟨j + 1, by omega, by go_num, HREST.out ▸ HS6.out.swap.drop⟩
              case measure => (simp [intOf] <;> omega)
          have b4 : (tg.kind == 4) = false := by simp [k4]
          by_cases k5 : tg.kind = 5
          · have b5 : (tg.kind == 5) = true := by simp [k5]
            rw [thingB, if_neg k1, if_neg k2, if_neg k3, if_neg k4, if_pos k5] at HS
            clear k1 k2 k3 k4 k5
            have hmin : (tg.zs.take 20).length = min 20 tg.zs.length := List.length_take
            have hget : ∀ q, q < (tg.zs.take 20).length → (tg.zs.take 20)[q]? = tg.zs[q]? := fun q hq => by rw [List.getElem?_take_of_lt]; omega
            have hwy : ∀ z ∈ tg.zs.take 20, z ≤ 9223372036854775807 := fun z hz => (OK.out.zwf z (List.mem_of_mem_take hz)).2
            obtain ⟨ys, hys⟩ : ∃ ys, tg.zs.take 20 = ys := ⟨_, rfl⟩
            rw [hys] at hmin hget hwy HS
            have hyl : ys.length ≤ tg.zs.length := by omega
            have hy20 : ys.length ≤ 20 := by omega
            have hc1 := OK.out.cap0.1
            have hc2 := OK.out.cap0.2
            have HMIN := hid hmin
            have HGET := hid hget
            have HWY := hid hwy
            clear hmin hget hwy hys
            by_cases k7 : ∃ z ∈ ys, 4611686018427387904 < z
            · have HK7 := hid k7
              have hy1 : 0 < ys.length := by
                obtain ⟨z, hz, _⟩ := k7
                exact List.length_pos_of_mem hz
              have hne : ((0 : Int) != (ys.length : Int)) = true := by rw [bne_iff_ne]; omega
              clear k7
              go_wp2_with fail
              refine calls_gen (fun w5 => Sat w (wpart w) [decr d _ 0, blk g 35 tg.cells] w5) (HS.out.alloc rfl HG.out.symm).swap ?_
              rw [HG.out]
              intro w5 S5
              clear HS c0 c1 c2 c3 c4 c5 c6
              refine (decList_big ys hy20 HWY.out HK7.out S5).mono ?_; rintro r w6 ⟨a, cap', R9, rfl, S6⟩
              have c9 := S6.swap.isBlk.cell 6 rfl
              have HS6 := hid S6
              clear S6 S5
              go_wp2_with (refine wpList_val (o := ⟨some 87, _, _, _, _, _⟩) rfl (.int .i64 (ys.length : Int)) ?hrun2 ?_)
              case hrun2 =>
                have := HMIN.out
                by_cases hh : tg.zs.length ≤ 20
                · have e1 : ys.length = tg.zs.length := by omega
                  rw [e1]; simp [go_sem]; omega
                · have e1 : ys.length = 20 := by omega
                  rw [e1]; simp [go_sem]; omega
              go_wp2_with fail
              refine (err_sat HS6.out).mono ?_; rintro r w7 ⟨rfl, S7⟩
              have HS7 := hid S7
              clear S7 HS6 c9
              go_wp2_with fail
              go_loop [10, 11, 99] (fun _ _ i => i = .int .i64 0) (fun _ _ i => 0)
              case atStart => rfl
              case round =>
                obtain rfl := hrel
                go_wp2_with fail
                refine (err_sat HS7.out).mono ?_; rintro r w8 ⟨rfl, S8⟩
                have HS8 := hid S8
                clear S8 HS7
                go_wp2_with fail
                refine (err_sat HS8.out).mono ?_; rintro r w9 ⟨rfl, S9⟩
                have HS9 := hid S9
                clear S9 HS8
                go_wp2_with fail
                go_ret
                exact ⟨rfl, HS9.out.toBelow (Part.le_refl _)⟩
            have hall : ∀ z ∈ ys, z ≤ 4611686018427387904 := fun z hz => by
              by_cases h : z ≤ 4611686018427387904
              · exact h
              · exact absurd ⟨z, hz, by omega⟩ k7
            have HALL := hid hall
            clear hall k7
            go_wp2_with fail
            refine calls_gen (fun w5 => Sat w (wpart w) [decr d _ 0, blk g 35 tg.cells] w5) (HS.out.alloc rfl HG.out.symm).swap ?_
            rw [HG.out]
            intro w5 S5
            clear HS c0 c1 c2 c3 c4 c5 c6
            refine (decList_enc ys hy20 HALL.out S5).mono ?_; rintro r w6 ⟨J, a, cap', rfl, hca, hcb, hJ, hrd, S6⟩
            have c9 := S6.swap.isBlk.cell 6 rfl
            have HS6 := hid S6
            have HRD := hid hrd
            have HRZ := hid (OK.out.rd.mono hJ)
            clear S6 S5 hrd
            go_wp2_with (refine wpList_val (o := ⟨some 87, _, _, _, _, _⟩) rfl (.int .i64 (ys.length : Int)) ?hrun ?_)
            case hrun =>
              have := HMIN.out
              by_cases hh : tg.zs.length ≤ 20
              · have e1 : ys.length = tg.zs.length := by omega
                rw [e1]; simp [go_sem]; omega
              · have e1 : ys.length = 20 := by omega
                rw [e1]; simp [go_sem]; omega
            go_wp2_with fail
            go_loop [10, 11, 99] (fun _ _ i => ∃ (q : Nat), q ≤ ys.length ∧ i = .int .i64 (q : Int)) (fun _ _ i => ys.length - (intOf i).toNat)
            case atStart => exact ⟨0, Nat.zero_le _, rfl⟩
            case round =>
              obtain ⟨q, hq, rfl⟩ := hrel
              by_cases hql : q < ys.length
              · obtain ⟨b1', off1, rfl, d0⟩ := HRD.out.get HS6.out q (u := .int .i64 (max ys[q] 0)) (by simp [hql])
                obtain ⟨b2', off2, hla2, d1⟩ := HRZ.out.get HS6.out q (u := .int .i64 ys[q]) (by
                  have := HGET.out q hql
                  rw [List.getElem?_eq_getElem hql] at this
                  simp [← this])
                rw [hla2] at c9
                have hq0 : (0 : Int) ≤ (q : Int) := by omega
                have hq1 : (q : Int) < (ys.length : Int) := by omega
                have hq2 : (q : Int) < (tg.zs.length : Int) := by omega
                generalize ys[q] = z at *
                go_wp2_with fail
                go_round
                case rel => exact ⟨q + 1, by omega, by go_num⟩
                case measure => (simp [intOf] <;> omega)
              · obtain rfl : q = ys.length := by omega
                go_wp2_with fail
                refine (err_sat HS6.out).mono ?_; rintro r w7 ⟨rfl, S7⟩
                have HS7 := hid S7
                clear S7 HS6
                go_wp2_with fail
                go_roundw
                case rel => exact ⟨j + 1, by omega, by go_num, HREST.out ▸ (HS7.out.swap.drop.thaw hJ)⟩
                case measure => (simp [intOf] <;> omega)
          have b5 : (tg.kind == 5) = false := by simp [k5]
          by_cases k6 : True
          · rw [thingB, if_neg k1, if_neg k2, if_neg k3, if_neg k4, if_neg k5, List.nil_append] at HS
            clear k1 k2 k3 k4 k5
            go_wp2_with fail
            go_roundw
            case rel => exact ⟨j + 1, by omega, by go_num, HREST.out ▸ HS.out.alloc_ _⟩
            case measure => (simp [intOf] <;> omega)
          exact absurd trivial k6
        · obtain rfl : j = k := by omega
          first
          | (have hk1 : ¬ (j : Int) < (len : Int) := by have := HN.out; omega)
          | (have hk1 : ¬ (j : Int) < (20 : Int) := by have := HN.out; omega)
          rw [Nat.sub_self, catF] at HS
          go_wp2_with fail
          refine (done_sat HS.out).mono ?_; rintro r w7 ⟨rfl, S7⟩
          have HS7 := hid S7
          clear S7 HS
          go_wp2_with fail
          go_ret
          exact ⟨rfl, HS7.out.toBelow (Part.le_refl _)⟩
theorem wireBack_walk (la : Option Addr) (len cap : Nat) (w : World) (hl : OkT Try.prog w 6 31 [.slice la len cap]) :
    Calls Try.prog 7 #[.slice la len cap] w (RetB (.bool true) w.heap.size w) := by
  by_cases h : len ≤ 20
  · exact wireBack_le la len cap w h hl
  · exact wireBack_gt la len cap w (by omega) hl
end Go.Proofs.Ytblkkcnllddkoaa
