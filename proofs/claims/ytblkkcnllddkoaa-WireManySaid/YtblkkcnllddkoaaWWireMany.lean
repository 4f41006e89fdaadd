/- WireMany, walked. -/
import Derived.Test.YtblkkcnllddkoaaWireDL
namespace Go.Proofs.Ytblkkcnllddkoaa
open Go.RowKit
set_option linter.unusedVariables false

theorem Sat.emptyRow {w0 w : World} {I : Part} {L : List HP} {b : Nat} {T : TypeId} (h : Sat w0 I (blk b T [] :: L) w) (sz : Nat) : Sat w0 I (row T sz (.slice (some ⟨b, 0, none⟩) 0 0) 0 [] :: L) w :=
  h.weaken fun g hg => ⟨by simp, Or.inr ⟨b, 0, #[], rfl, hg, Nat.le_refl _, Nat.zero_le _, by simp, by simp⟩⟩
theorem slStr : SliceT Try.prog 45 9 1 16 := ⟨Try.underlying45, ⟨_, _, rfl, rfl, rfl, rfl, rfl⟩, by decide⟩
theorem okT_elems {w : World} {t e : TypeId} {la : Option Addr} {len cap : Nat} {α : Type} (mk : α → Value) (ht : Try.prog.underlying t = some (.slice e)) (hc : Try.prog.cellsOf e = 1)
    (ho : ∀ v, OkT Try.prog w 5 e [v] → ∃ x, v = mk x) (hl : OkT Try.prog w 6 t [.slice la len cap]) : len ≤ cap ∧ cap ≤ 9223372036854775807 ∧ ∃ xs : List α, xs.length = len ∧ Rd (wpart w) la (xs.map mk) ∧ ∀ x ∈ xs, OkT Try.prog w 5 e [mk x] := by
  obtain ⟨h1, h2, h3⟩ := okT_slice ht (sz := 1) hc (by omega) hl
  refine ⟨h1, h2, ?_⟩
  have h4 : ∀ i, i < len → ∃ x : α, (∃ b off, la = some ⟨b, off, none⟩ ∧ cellI (wpart w) b (off + i) = some (mk x)) ∧ OkT Try.prog w 5 e [mk x] := fun i hi => by
    obtain ⟨b, off, cs, ha, hb, hlen, hok, hc⟩ := h3 i (by omega)
    match cs, hlen with
    | [c], _ =>
      obtain ⟨x, rfl⟩ := ho c hok
      exact ⟨x, ⟨b, off, ha, cellI_start (by simpa using hc 0 (by simp))⟩, hok⟩
  have h5 : ∃ f : Nat → Option α, ∀ i, i < len → ∃ x, f i = some x ∧ (∃ b off, la = some ⟨b, off, none⟩ ∧ cellI (wpart w) b (off + i) = some (mk x)) ∧ OkT Try.prog w 5 e [mk x] := by
    obtain ⟨f, hf⟩ := Deep.choose_lt (p := fun i (x : Option α) => ∃ y, x = some y ∧ (∃ b off, la = some ⟨b, off, none⟩ ∧ cellI (wpart w) b (off + i) = some (mk y)) ∧ OkT Try.prog w 5 e [mk y]) (n := len) (fun i hi => by
      obtain ⟨x, hx⟩ := h4 i hi
      exact ⟨some x, x, rfl, hx⟩)
    exact ⟨f, hf⟩
  obtain ⟨f, hf⟩ := h5
  have h6 : ∀ n, n ≤ len → ∃ xs : List α, xs.length = n ∧ ∀ i (h : i < xs.length), f i = some xs[i] := by
    intro n
    induction n with
    | zero => intro _; exact ⟨[], rfl, fun i h => absurd h (Nat.not_lt_zero _)⟩
    | succ n ih =>
      intro hn
      obtain ⟨xs, hx, hg⟩ := ih (by omega)
      obtain ⟨x, hfx, _⟩ := hf n (by omega)
      refine ⟨xs ++ [x], by simp [hx], fun i hi => ?_⟩
      by_cases h : i < xs.length
      · rw [List.getElem_append_left h]; exact hg i h
      · have : i = n := by simp at hi; omega
        subst this
        rw [hfx, List.getElem_append_right (by omega)]
        simp
  obtain ⟨xs, hx, hg⟩ := h6 len (Nat.le_refl _)
  refine ⟨xs, hx, fun i hi => ?_, fun x hxm => ?_⟩
  · have hi' : i < xs.length := by simpa using hi
    obtain ⟨y, hy, ⟨b, off, e1, e2⟩, _⟩ := hf i (by omega)
    have := hg i hi'
    rw [hy] at this
    cases this
    exact ⟨b, off, e1, by simpa using e2⟩
  · obtain ⟨i, hi, rfl⟩ := List.mem_iff_getElem.1 hxm
    obtain ⟨y, hy, _, ok⟩ := hf i (by omega)
    have := hg i hi
    rw [hy] at this
    cases this
    exact ok
theorem flatU_len (zs : List Int) (h : ∀ z ∈ zs, 0 ≤ z ∧ z ≤ 18446744073709551615) : (zs.flatMap fun z => encU z.toNat).length ≤ 10 * zs.length := by
  induction zs with
  | nil => simp
  | cons z r ih =>
    have h1 := encU_len z.toNat (by have := h z (by simp); omega)
    have h2 := ih (fun y hy => h y (by simp [hy]))
    rw [List.flatMap_cons, List.length_append, List.length_cons]; omega
theorem flatI_len (zs : List Int) (h : ∀ z ∈ zs, z ≤ 9223372036854775807) : (zs.flatMap fun z => encU (max z 0).toNat).length ≤ 10 * zs.length := flat_enc_len zs h
theorem flatS_len (ss : List ByteArray) (h : ∀ s ∈ ss, s.size ≤ 30) : (ss.flatMap encS).length ≤ 40 * ss.length := by
  induction ss with
  | nil => simp
  | cons s r ih =>
    have h0 := h s (by simp)
    have h1 := encS_len s (by omega)
    have h2 := ih (fun y hy => h y (by simp [hy]))
    rw [List.flatMap_cons, List.length_append, List.length_cons]; omega
def cut30 (s : ByteArray) : ByteArray := s.extract 0 30

set_option maxRecDepth 100000 in
set_option maxHeartbeats 8000000 in
theorem wireMany_walk (l1 : Option Addr) (n1 c1 : Nat) (l2 : Option Addr) (n2 c2 : Nat) (l3 : Option Addr) (n3 c3 : Nat) (l4 : Option Addr) (n4 c4 : Nat) (w : World) (h1 : OkT Try.prog w 6 43 [.slice l1 n1 c1]) (h2 : OkT Try.prog w 6 33 [.slice l2 n2 c2]) (h3 : OkT Try.prog w 6 44 [.slice l3 n3 c3]) (h4 : OkT Try.prog w 6 45 [.slice l4 n4 c4]) :
    Calls Try.prog 5 #[.slice l1 n1 c1, .slice l2 n2 c2, .slice l3 n3 c3, .slice l4 n4 c4] w (RetB (.bool true) w.heap.size w) := by
  obtain ⟨a1, b1, xs1, e1, r1, o1⟩ := okT_elems (Value.int .u64) Try.underlying43 (by kernel_rfl) (fun v hv => by obtain ⟨z, hz, _⟩ := okT_int Try.underlying22 hv; exact ⟨z, hz⟩) h1
  obtain ⟨a2, b2, xs2, e2, r2, o2⟩ := okT_elems (Value.int .i64) Try.underlying33 (by kernel_rfl) (fun v hv => by obtain ⟨z, hz, _⟩ := okT_int Try.underlying3 hv; exact ⟨z, hz⟩) h2
  obtain ⟨a3, b3, xs3, e3, r3, o3⟩ := okT_elems Value.bool Try.underlying44 (by kernel_rfl) (fun v hv => okT_bool Try.underlying4 hv) h3
  obtain ⟨a4, b4, xs4, e4, r4, o4⟩ := okT_elems Value.string Try.underlying45 (by kernel_rfl) (fun v hv => by obtain ⟨z, hz, _⟩ := okT_str Try.underlying9 hv; exact ⟨z, hz⟩) h4
  have p1 : ∀ z ∈ xs1.take 9, 0 ≤ z ∧ z ≤ 18446744073709551615 := fun z hz => by
    obtain ⟨y, hy, hw⟩ := okT_int Try.underlying22 (o1 z (List.mem_of_mem_take hz)); cases hy; exact wf_u64 hw
  have p2 : ∀ z ∈ xs2.take 9, z ≤ 9223372036854775807 := fun z hz => by
    obtain ⟨y, hy, hw⟩ := okT_int Try.underlying3 (o2 z (List.mem_of_mem_take hz)); cases hy; exact (wf_i64 hw).2
  have p4 : ∀ s ∈ xs4.take 5, s.size ≤ 9223372036854775807 := fun z hz => by
    obtain ⟨y, hy, hw⟩ := okT_str Try.underlying9 (o4 z (List.mem_of_mem_take hz)); cases hy; unfold maxLen at hw; exact hw
  replace r1 := r1.take 9
  replace r2 := r2.take 9
  replace r3 := r3.take 9
  replace r4 := r4.take 5
  rw [← List.map_take] at r1 r2 r3 r4
  have q1 : (xs1.take 9).length = min 9 n1 := by rw [List.length_take, e1]
  have q2 : (xs2.take 9).length = min 9 n2 := by rw [List.length_take, e2]
  have q3 : (xs3.take 9).length = min 9 n3 := by rw [List.length_take, e3]
  have q4 : (xs4.take 5).length = min 5 n4 := by rw [List.length_take, e4]
  clear h1 h2 h3 h4 o1 o2 o3 o4
  generalize xs1.take 9 = y1 at *
  generalize xs2.take 9 = y2 at *
  generalize xs3.take 9 = y3 at *
  generalize xs4.take 5 = y4 at *
  have m1 : min (n1 : Int) 9 = (y1.length : Int) := by omega
  have m2 : min (n2 : Int) 9 = (y2.length : Int) := by omega
  have m3 : min (n3 : Int) 9 = (y3.length : Int) := by omega
  have m4 : min (n4 : Int) 5 = (y4.length : Int) := by omega
  have d1 : (y1.length : Int) ≤ (c1 : Int) := by omega
  have d2 : (y2.length : Int) ≤ (c2 : Int) := by omega
  have d3 : (y3.length : Int) ≤ (c3 : Int) := by omega
  have d4 : (y4.length : Int) ≤ (c4 : Int) := by omega
  have g1 : (0 : Int) ≤ (y1.length : Int) := by omega
  have g2 : (0 : Int) ≤ (y2.length : Int) := by omega
  have g3 : (0 : Int) ≤ (y3.length : Int) := by omega
  have g4 : (0 : Int) ≤ (y4.length : Int) := by omega
  have t1 : y1.length ≤ 9 := by omega
  have t2 : y2.length ≤ 9 := by omega
  have t3 : y3.length ≤ 9 := by omega
  have t4 : y4.length ≤ 5 := by omega
  have R1 := hid r1
  have R2 := hid r2
  have R3 := hid r3
  have R4 := hid r4
  have P1 := hid p1
  have P2 := hid p2
  have P4 := hid p4
  clear r1 r2 r3 r4 p1 p2 p4 q1 q2 q3 q4 e1 e2 e3 e4
  have H0 := hid (Sat.start w)
  go_enter Try.func5, Try.ntmps5
  go_wp2_with fail
  go_quiet (fail)
  go_wp2_with fail
  clear m1 m2 m3 m4 d1 d2 d3 d4
  obtain ⟨a, ha⟩ : ∃ a, w.heap.size = a := ⟨_, rfl⟩
  have S1 := ((H0.out.drewN nq).encNew ha.symm).encNew (b := a + 1) (by simp [ha])
  rw [ha]
  clear ha
  refine (encU_sat _ _ y1 S1.swap R1.out P1.out (by simp; omega) (by omega)).mono ?_; rintro r w2 ⟨rfl, S2⟩
  have HS2 := hid S2
  clear S1 S2
  have k1 := flatU_len y1 P1.out
  go_wp2_with fail
  refine (encI_sat _ _ y2 HS2.out R2.out P2.out (by rw [List.nil_append]; omega) (by omega)).mono ?_; rintro r w3 ⟨rfl, S3⟩
  have HS3 := hid S3
  clear S3 HS2
  have k2 := flatI_len y2 P2.out
  go_wp2_with fail
  refine (encB_sat _ _ y3 HS3.out R3.out (by rw [List.nil_append, List.length_append]; omega) (by omega)).mono ?_; rintro r w4 ⟨rfl, S4⟩
  have HS4 := hid S4
  clear S4 HS3
  rw [List.nil_append] at HS4
  obtain ⟨A3, hA3⟩ : ∃ A, y1.flatMap (fun z => encU z.toNat) ++ y2.flatMap (fun z => encU (max z 0).toNat) ++ y3.map bB = A := ⟨_, rfl⟩
  rw [hA3] at HS4
  have hA3l : A3.length ≤ 10 * y1.length + 10 * y2.length + y3.length := by rw [← hA3, List.length_append, List.length_append, List.length_map]; omega
  have HA3 := hid hA3
  clear hA3
  go_wp2_with fail
  obtain ⟨g, hg⟩ : ∃ g, w4.heap.size = g := ⟨_, rfl⟩
  have S5 : Sat w (wpart w) (blk g 9 [] :: enc a A3 :: enc (a + 1) [] :: []) _ := HS4.out.alloc rfl hg.symm
  have HS5 := hid (S5.emptyRow 1)
  rw [hg]
  clear S5 HS4 hg
  go_loopw [11, 13, 51] (fun tv _ i wr => ∃ (q : Nat), q ≤ y4.length ∧ i = .int .i64 (q : Int) ∧ Sat w (wpart w) [row 9 1 tv q ((y4.take q).map fun s => Value.string (cut30 s)), enc a A3, enc (a + 1) []] wr) (fun _ _ i _ => y4.length - (intOf i).toNat)
  case atStart => exact ⟨0, Nat.zero_le _, rfl, HS5.out⟩
  case round =>
    clear HS5
    obtain ⟨q, hq, rfl, Sr⟩ := hrel
    have HS := hid Sr
    clear Sr
    by_cases hlt : q < y4.length
    · obtain ⟨b', off, rfl, c0⟩ := R4.out.get HS.out q (u := .string y4[q]) (by simp [hlt])
      have hq1 : (q : Int) < (y4.length : Int) := by omega
      have hq0 : (0 : Int) ≤ (q : Int) := by omega
      have hsz := P4.out y4[q] (List.getElem_mem _)
      have htk : (y4.take (q + 1)).map (fun s => Value.string (cut30 s)) = (y4.take q).map (fun s => Value.string (cut30 s)) ++ [.string (cut30 y4[q])] := by rw [List.take_succ_eq_append_getElem hlt, List.map_append]; rfl
      have htq : ((y4.take q).map fun s => Value.string (cut30 s)).length = q := by simp; omega
      have HTK := hid htk
      clear htk htq
      have hcut : cut30 y4[q] = y4[q].extract 0 30 := rfl
      generalize y4[q] = s at *
      rw [hcut] at HTK
      clear hcut
      go_wp2_with fail
      refine (ret_sat (cut_any _ s 30 (by omega) hsz) HS.out).mono ?_; rintro r w6 ⟨rfl, S6⟩
      have HS6 := hid S6
      clear S6 HS c0
      generalize s.extract 0 30 = s' at *
      go_wp2_with (at_builtin; refine wpList_appS slStr rfl _ _ rfl HS6.out [.string s'] rfl rfl rfl rfl ?h1 ?hb ?hn ?_)
      case h1 => intro u hu; simp at hu; subst hu; rfl
      case hb => omega
      case hn => omega
      intro ad cap w7 hc1 hc2 S7
      have HS7 := hid S7
      clear S7 HS6
      go_wp2_with fail
      go_roundw
      case rel => exact ⟨q + 1, by omega, by go_num, by rw [HTK.out, List.map_take]; exact HS7.out⟩
      case measure => (simp [intOf] <;> omega)
    · obtain rfl : q = y4.length := by omega
      rw [List.take_length] at HS
      clear hlt
      obtain ⟨J, ad, cp, hJ, S8, rfl, hcp1, hcp2, _, hrd⟩ := HS.out.freezeRow
      unfold maxLen at hcp2
      have hmm : y4.map (fun s => Value.string (cut30 s)) = (y4.map cut30).map Value.string := by simp
      rw [hmm] at hrd
      have hyl : (y4.map cut30).length = y4.length := by simp
      have h30 : ∀ s ∈ y4.map cut30, s.size ≤ 30 := fun s hs => by
        obtain ⟨x, _, rfl⟩ := List.mem_map.1 hs
        exact cutSize x 30
      generalize y4.map cut30 = y5 at *
      have HS8 := hid S8
      have RD := hid hrd
      have H30 := hid h30
      have t5 : y5.length ≤ 5 := by omega
      clear S8 hrd h30 HS hmm
      rw [← hyl]
      have hcp3 : y5.length ≤ cp := by omega
      clear hyl
      go_wp2_with fail
      refine (encS_sat _ _ y5 30 HS8.out RD.out H30.out (by omega) (by omega) (by omega)).mono ?_; rintro r w9 ⟨rfl, S9⟩
      have HS9 := hid S9.swap
      clear S9 HS8
      go_wp2_with fail
      go_loopw [15, 65] (fun _ i wr => ∃ (q : Nat), q ≤ y1.length ∧ i = .int .i64 (q : Int) ∧ Sat w J [enc (a + 1) ((y1.take q).flatMap fun z => encU z.toNat), enc a (A3 ++ y5.flatMap encS)] wr) (fun _ i _ => y1.length - (intOf i).toNat)
      case atStart => exact ⟨0, Nat.zero_le _, rfl, HS9.out⟩
      case round =>
        clear HS9
        obtain ⟨q, hq, rfl, Sr⟩ := hrel
        have HS := hid Sr
        clear Sr
        by_cases hlt : q < y1.length
        · obtain ⟨b', off, rfl, c0⟩ := (R1.out.mono hJ).get HS.out q (u := .int .u64 y1[q]) (by simp [hlt])
          have hq1 : (q : Int) < (y1.length : Int) := by omega
          have hq0 : (0 : Int) ≤ (q : Int) := by omega
          have hwf := P1.out y1[q] (List.getElem_mem _)
          have htk : (y1.take (q + 1)).flatMap (fun z => encU z.toNat) = (y1.take q).flatMap (fun z => encU z.toNat) ++ encU y1[q].toNat := by rw [List.take_succ_eq_append_getElem hlt, List.flatMap_append]; simp
          have HTK := hid htk
          have hln := flatU_len (y1.take q) (fun z hz => P1.out z (List.mem_of_mem_take hz))
          rw [List.length_take] at hln
          clear htk
          generalize y1[q] = z at *
          go_wp2_with fail
          refine (encU1_sat _ z rfl HS.out hwf (by omega)).mono ?_; rintro r w10 ⟨rfl, S10⟩
          rw [← HTK.out] at S10
          have HS10 := hid S10
          clear S10 HS
          go_wp2_with fail
          go_roundw
          case rel => exact ⟨q + 1, by omega, by go_num, HS10.out⟩
          case measure => (simp [intOf] <;> omega)
        · obtain rfl : q = y1.length := by omega
          rw [List.take_length] at HS
          clear hlt
          obtain ⟨B1, hB1⟩ : ∃ B, y1.flatMap (fun z => encU z.toNat) = B := ⟨_, rfl⟩
          rw [hB1] at HS k1
          have HB1 := hid hB1
          clear hB1
          go_wp2_with fail
          go_loopw [17, 75] (fun _ i wr => ∃ (q : Nat), q ≤ y2.length ∧ i = .int .i64 (q : Int) ∧ Sat w J [enc (a + 1) (B1 ++ (y2.take q).flatMap fun z => encU (max z 0).toNat), enc a (A3 ++ y5.flatMap encS)] wr) (fun _ i _ => y2.length - (intOf i).toNat)
          case atStart => exact ⟨0, Nat.zero_le _, rfl, by simpa using HS.out⟩
          case round =>
            clear HS
            obtain ⟨q, hq, rfl, Sr⟩ := hrel
            have HS := hid Sr
            clear Sr
            by_cases hlt : q < y2.length
            · obtain ⟨b', off, rfl, c0⟩ := (R2.out.mono hJ).get HS.out q (u := .int .i64 y2[q]) (by simp [hlt])
              have hq1 : (q : Int) < (y2.length : Int) := by omega
              have hq0 : (0 : Int) ≤ (q : Int) := by omega
              have hwf := P2.out y2[q] (List.getElem_mem _)
              have htk : (y2.take (q + 1)).flatMap (fun z => encU (max z 0).toNat) = (y2.take q).flatMap (fun z => encU (max z 0).toNat) ++ encU (max y2[q] 0).toNat := by rw [List.take_succ_eq_append_getElem hlt, List.flatMap_append]; simp
              have HTK := hid htk
              have hln := flatI_len (y2.take q) (fun z hz => P2.out z (List.mem_of_mem_take hz))
              rw [List.length_take] at hln
              clear htk
              generalize y2[q] = z at *
              go_wp2_with fail
              refine (encI1_sat _ z rfl HS.out hwf (by rw [List.length_append]; omega)).mono ?_; rintro r w10 ⟨rfl, S10⟩
              rw [List.append_assoc, ← HTK.out] at S10
              have HS10 := hid S10
              clear S10 HS
              go_wp2_with fail
              go_roundw
              case rel => exact ⟨q + 1, by omega, by go_num, HS10.out⟩
              case measure => (simp [intOf] <;> omega)
            · obtain rfl : q = y2.length := by omega
              rw [List.take_length] at HS
              clear hlt
              obtain ⟨B2, hB2⟩ : ∃ B, B1 ++ y2.flatMap (fun z => encU (max z 0).toNat) = B := ⟨_, rfl⟩
              rw [hB2] at HS
              have hB2l : B2.length ≤ 180 := by rw [← hB2, List.length_append]; omega
              have HB2 := hid hB2
              clear hB2
              go_wp2_with fail
              go_loopw [19, 85] (fun _ i wr => ∃ (q : Nat), q ≤ y3.length ∧ i = .int .i64 (q : Int) ∧ Sat w J [enc (a + 1) (B2 ++ (y3.take q).map bB), enc a (A3 ++ y5.flatMap encS)] wr) (fun _ i _ => y3.length - (intOf i).toNat)
              case atStart => exact ⟨0, Nat.zero_le _, rfl, by simpa using HS.out⟩
              case round =>
                clear HS
                obtain ⟨q, hq, rfl, Sr⟩ := hrel
                have HS := hid Sr
                clear Sr
                by_cases hlt : q < y3.length
                · obtain ⟨b', off, rfl, c0⟩ := (R3.out.mono hJ).get HS.out q (u := .bool y3[q]) (by simp [hlt])
                  have hq1 : (q : Int) < (y3.length : Int) := by omega
                  have hq0 : (0 : Int) ≤ (q : Int) := by omega
                  have htk : (y3.take (q + 1)).map bB = (y3.take q).map bB ++ [bB y3[q]] := by rw [List.take_succ_eq_append_getElem hlt, List.map_append]; rfl
                  have HTK := hid htk
                  have hln : ((y3.take q).map bB).length ≤ q := by simp; omega
                  clear htk
                  generalize y3[q] = z at *
                  go_wp2_with fail
                  refine (encB1_sat _ z rfl HS.out (by rw [List.length_append]; omega)).mono ?_; rintro r w10 ⟨rfl, S10⟩
                  rw [List.append_assoc, ← HTK.out] at S10
                  have HS10 := hid S10
                  clear S10 HS
                  go_wp2_with fail
                  go_roundw
                  case rel => exact ⟨q + 1, by omega, by go_num, HS10.out⟩
                  case measure => (simp [intOf] <;> omega)
                · obtain rfl : q = y3.length := by omega
                  rw [List.take_length] at HS
                  clear hlt
                  have hB3 : B2 ++ y3.map bB = A3 := by rw [← HB2.out, ← HB1.out, HA3.out]
                  rw [hB3] at HS
                  clear hB3
                  go_wp2_with fail
                  go_loopw [21, 95] (fun _ i wr => ∃ (q : Nat), q ≤ y5.length ∧ i = .int .i64 (q : Int) ∧ Sat w J [enc (a + 1) (A3 ++ (y5.take q).flatMap encS), enc a (A3 ++ y5.flatMap encS)] wr) (fun _ i _ => y5.length - (intOf i).toNat)
                  case atStart => exact ⟨0, Nat.zero_le _, rfl, by simpa using HS.out⟩
                  case round =>
                    clear HS
                    obtain ⟨q, hq, rfl, Sr⟩ := hrel
                    have HS := hid Sr
                    clear Sr
                    by_cases hlt : q < y5.length
                    · obtain ⟨b', off, rfl, c0⟩ := RD.out.get HS.out q (u := .string y5[q]) (by simp [hlt])
                      have hq1 : (q : Int) < (y5.length : Int) := by omega
                      have hq0 : (0 : Int) ≤ (q : Int) := by omega
                      have hwf := H30.out y5[q] (List.getElem_mem _)
                      have htk : (y5.take (q + 1)).flatMap encS = (y5.take q).flatMap encS ++ encS y5[q] := by rw [List.take_succ_eq_append_getElem hlt, List.flatMap_append]; simp
                      have HTK := hid htk
                      have hln := flatS_len (y5.take q) (fun z hz => H30.out z (List.mem_of_mem_take hz))
                      rw [List.length_take] at hln
                      clear htk
                      generalize y5[q] = z at *
                      go_wp2_with fail
                      refine (encS1_sat _ z rfl HS.out (by omega) (by rw [List.length_append]; omega)).mono ?_; rintro r w10 ⟨rfl, S10⟩
                      rw [List.append_assoc, ← HTK.out] at S10
                      have HS10 := hid S10
                      clear S10 HS
                      go_wp2_with fail
                      go_roundw
                      case rel => exact ⟨q + 1, by omega, by go_num, HS10.out⟩
                      case measure => (simp [intOf] <;> omega)
                    · obtain rfl : q = y5.length := by omega
                      rw [List.take_length] at HS
                      clear hlt
                      go_wp2_with fail
                      refine (awake_sat HS.out).mono ?_; rintro r w11 ⟨rfl, S11⟩
                      have HS11 := hid S11.swap
                      clear S11 HS
                      go_wp2_with fail
                      refine (bytes_sat HS11.out).mono ?_; rintro r w12 ⟨rfl, S12⟩
                      have HS12 := hid S12.swap
                      clear S12 HS11
                      go_wp2_with fail
                      refine (bytes_sat HS12.out).mono ?_; rintro r w13 ⟨rfl, S13⟩
                      have HS13 := hid S13
                      clear S13 HS12
                      go_wp2_with fail
                      go_ret
                      refine ⟨ret_bool ?_, HS13.out.toBelow hJ⟩
                      simp
end Go.Proofs.Ytblkkcnllddkoaa
