/- Contracts of the decoder, in parts of the memory: what is left of the text, and the error. -/
import Derived.Test.YtcogjlfdhiomnaaDoorWireSat
import Derived.Test.YtcogjlfdhiomnaaDoorElems
import Derived.Deep.QuietTactic
namespace Go.Proofs.YtcogjlfdhiomnaaDoor
open Go.RowKit
set_option linter.unusedVariables false
set_option maxRecDepth 100000

/-- block d is a decoder; R is left; its error is r. -/
def decr (d : Nat) (R : List UInt8) (r : Int) : HP := fun g => ∃ (s : ByteArray) (p : Nat), s.data.toList.drop p = R ∧ p ≤ s.size ∧ s.size ≤ 9223372036854775807 ∧ blk d 134 [.string s, .int .i64 (p : Int), .int .i64 r] g
section
variable {w0 w w' : World} {I : Part} {L : List HP} {d : Nat} {R : List UInt8} {r : Int}
theorem Sat.isDecr (h : Sat w0 I (decr d R r :: L) w) : ∃ (s : ByteArray) (p : Nat), s.data.toList.drop p = R ∧ p ≤ s.size ∧ s.size ≤ 9223372036854775807 ∧ Sat w0 I (blk d 134 [.string s, .int .i64 (p : Int), .int .i64 r] :: L) w := by
  obtain ⟨g, ⟨s, p, h1, h2, h3, h4⟩, _, k⟩ := h.elim
  exact ⟨s, p, h1, h2, h3, k _ h4⟩
theorem Sat.toDecr {s : ByteArray} {p : Nat} (h : Sat w0 I (blk d 134 [.string s, .int .i64 (p : Int), .int .i64 r] :: L) w) (h1 : s.data.toList.drop p = R) (h2 : p ≤ s.size) (h3 : s.size ≤ 9223372036854775807) : Sat w0 I (decr d R r :: L) w :=
  h.weaken fun g hg => ⟨s, p, h1, h2, h3, hg⟩
theorem Sat.modBlk {T U : TypeId} {cs cs' : List Value} (h : Sat w0 I (blk d T cs :: L) w) (hb : Blk w' d U cs') (m : Mod (At d) w w') : Sat w0 I (blk d U cs' :: L) w' := by
  have hB := h.isBlk
  refine h.change fun g hg hle => ⟨At d, fun k hk _ => by cases hk; unfold blk at hg; rw [hg]; rfl, m, fun g' hg' => ?_⟩
  unfold blk at hg ⊢
  rw [hg' d (Or.inl (by rw [hg]; rfl))]
  exact hb
theorem decr_size (s : ByteArray) (p : Nat) (h : s.data.toList.drop p = R) (hp : p ≤ s.size) : R.length + p = s.size := by
  have h1 : s.data.toList.length = s.size := Array.length_toList
  rw [← h, List.length_drop, h1]; omega
theorem decr_some (s : ByteArray) (p : Nat) (c : UInt8) (Q : List UInt8) (h : s.data.toList.drop p = c :: Q) : ∃ hp : p < s.size, s[p] = c ∧ s.data.toList.drop (p + 1) = Q := by
  have h1 : s.data.toList.length = s.size := Array.length_toList
  have hp : p < s.size := by
    by_cases hh : p < s.size
    · exact hh
    · rw [List.drop_of_length_le (by omega)] at h; cases h
  refine ⟨hp, ?_, ?_⟩
  · rw [List.drop_eq_getElem_cons (by omega)] at h
    have := (List.cons.inj h).1
    rw [← this]; rfl
  · rw [List.drop_eq_getElem_cons (by omega)] at h
    exact (List.cons.inj h).2
theorem from_sat (s : ByteArray) (h : Sat w0 I L w) (hs : s.size ≤ 9223372036854775807) :
    Calls Tryd.prog 81 #[.string s] w fun e w' => ∃ d, e = .returned (.pointer (some ⟨d, 0, none⟩)) ∧ Sat w0 I (decr d s.data.toList 0 :: L) w' := by
  go_enter Tryd.func81, Tryd.ntmps81
  go_wp2
  go_ret
  exact ⟨_, rfl, Sat.toDecr (p := 0) (h.alloc rfl rfl) rfl (by omega) hs⟩
theorem fail_sat (e : Int) (h : Sat w0 I (decr d R 0 :: L) w) : Calls Tryd.prog 85 #[.pointer (some ⟨d, 0, none⟩), .int .i64 e] w fun r w' => r = .returned (.tuple #[]) ∧ Sat w0 I (decr d R e :: L) w' := by
  obtain ⟨s, p, h1, h2, h3, H⟩ := h.isDecr
  refine (fail_first w d s p e H.isBlk).mono ?_; rintro r w' ⟨rfl, D, M⟩
  exact ⟨rfl, (H.modBlk D M).toDecr h1 h2 h3⟩
theorem next_blk_end {s : ByteArray} {p : Nat} (H : Sat w0 I (blk d 134 [.string s, .int .i64 (p : Int), .int .i64 0] :: L) w) (hp : s.size ≤ p) : Calls Tryd.prog 91 #[.pointer (some ⟨d, 0, none⟩)] w fun r w' => r = .returned (.tuple #[.int .u8 0, .bool false]) ∧ Sat w0 I (blk d 134 [.string s, .int .i64 (p : Int), .int .i64 2] :: L) w' := by
  refine (next_end w d s p H.isBlk (by omega)).mono ?_; rintro r w' ⟨rfl, D, M⟩
  exact ⟨rfl, H.modBlk D M⟩
theorem next_blk {s : ByteArray} {p : Nat} (H : Sat w0 I (blk d 134 [.string s, .int .i64 (p : Int), .int .i64 0] :: L) w) (hp : p < s.size) (h3 : s.size ≤ 9223372036854775807) : Calls Tryd.prog 91 #[.pointer (some ⟨d, 0, none⟩)] w fun r w' => r = .returned (.tuple #[.int .u8 (s[p].toNat : Int), .bool true]) ∧ Sat w0 I (blk d 134 [.string s, .int .i64 ((p + 1 : Nat) : Int), .int .i64 0] :: L) w' := by
  refine (next_some w d s p H.isBlk hp h3).mono ?_; rintro r w' ⟨rfl, D, M⟩
  exact ⟨rfl, H.modBlk D M⟩
theorem next_sat_end (h : Sat w0 I (decr d [] 0 :: L) w) : Calls Tryd.prog 91 #[.pointer (some ⟨d, 0, none⟩)] w fun r w' => r = .returned (.tuple #[.int .u8 0, .bool false]) ∧ Sat w0 I (decr d [] 2 :: L) w' := by
  obtain ⟨s, p, h1, h2, h3, H⟩ := h.isDecr
  have h4 := decr_size s p h1 h2
  simp at h4
  refine (next_end w d s p H.isBlk (by omega)).mono ?_; rintro r w' ⟨rfl, D, M⟩
  exact ⟨rfl, (H.modBlk D M).toDecr h1 h2 h3⟩
theorem next_sat (c : UInt8) (h : Sat w0 I (decr d (c :: R) 0 :: L) w) : Calls Tryd.prog 91 #[.pointer (some ⟨d, 0, none⟩)] w fun r w' => r = .returned (.tuple #[.int .u8 (c.toNat : Int), .bool true]) ∧ Sat w0 I (decr d R 0 :: L) w' := by
  obtain ⟨s, p, h1, h2, h3, H⟩ := h.isDecr
  obtain ⟨hp, h4, h5⟩ := decr_some s p c R h1
  refine (next_some w d s p H.isBlk hp h3).mono ?_; rintro r w' ⟨rfl, D, M⟩
  rw [h4]
  exact ⟨rfl, (H.modBlk D M).toDecr h5 hp h3⟩
theorem left_sat (h : Sat w0 I (decr d R r :: L) w) : Calls Tryd.prog 90 #[.pointer (some ⟨d, 0, none⟩)] w fun e w' => e = .returned (.int .i64 (R.length : Int)) ∧ Sat w0 I (decr d R r :: L) w' := by
  obtain ⟨s, p, h1, h2, h3, H⟩ := h.isDecr
  have h4 := decr_size s p h1 h2
  have c0 := H.isBlk.cell 0 rfl
  have c1 := H.isBlk.cell 1 rfl
  have HH := hid h
  have h5 : IntKind.i64.wrap ((s.size : Int) - (p : Int)) = (R.length : Int) := by
    rw [show (s.size : Int) - (p : Int) = (R.length : Int) by omega, IntKind.wrap_i64]
    omega
  have H4 := hid h4
  clear h h1 H h4
  go_enter Tryd.func90, Tryd.ntmps90
  go_wp2_with fail
  go_quiet (fail)
  go_wp2_with fail
  go_ret
  refine ⟨ret_int ?_, HH.out.drewN _⟩
  first | exact h5 | omega
end

/-! ### numbers -/
def takeUW : List UInt8 → Bool → Nat → Nat × List UInt8 × Int
  | [], _, _ => (0, [], 2)
  | c :: R, f, v => if f = true ∧ c.toNat = 128 then (0, R, 3) else if 144115188075855871 < v then (0, R, 3) else if c.toNat < 128 then (v * 128 + c.toNat % 128, R, 0) else takeUW R false (v * 128 + c.toNat % 128)
theorem shl_or (v c : Nat) (hv : v ≤ 144115188075855871) (hc : c < 256) : bits .or .u64 ((v : Int) * 128) ((c : Int) % 128) = ((v * 128 + c % 128 : Nat) : Int) := by
  have ec : (c : Int) % 128 = ((c % 128 : Nat) : Int) := by simp
  rw [ec]
  have h := bits_or_u64_nat (v * 128) (c % 128) (by omega) (by omega)
  have e : (((v * 128 : Nat)) : Int) = (v : Int) * 128 := by simp
  rw [e] at h
  rw [h]
  congr 1
  have := Nat.shiftLeft_add_eq_or_of_lt (b := c % 128) (i := 7) (by omega) v
  rw [Nat.shiftLeft_eq] at this
  rw [← this]
def posOf (d : Nat) (w : World) : Nat := (intOf ((w.cell? ⟨d, 1, none⟩).getD (.bool false))).toNat
set_option maxRecDepth 100000 in
set_option maxHeartbeats 8000000 in
theorem decU_sat {w0 w : World} {I : Part} {L : List HP} {d : Nat} {R : List UInt8} (h : Sat w0 I (decr d R 0 :: L) w) :
    Calls Tryd.prog 84 #[.pointer (some ⟨d, 0, none⟩)] w fun e w' => e = .returned (.int .u64 ((takeUW R true 0).1 : Int)) ∧ Sat w0 I (decr d (takeUW R true 0).2.1 (takeUW R true 0).2.2 :: L) w' := by
  obtain ⟨s, p, hp1, hp2, hp3, hD⟩ := h.isDecr
  have H := hid hD
  clear h hD
  subst hp1
  obtain ⟨T, hT⟩ : ∃ T, takeUW (s.data.toList.drop p) true 0 = T := ⟨_, rfl⟩
  rw [hT]
  obtain ⟨x, R2, e2⟩ := T
  have HT := hid hT
  clear hT
  go_enter Tryd.func84, Tryd.ntmps84
  go_wp2_with fail
  go_loopw [3, 4, 5, 6] (fun v f _ _ wr => ∃ (p1 : Nat) (x1 : Nat) (f1 : Bool), v = .int .u64 (x1 : Int) ∧ f = .bool f1 ∧ p1 ≤ s.size ∧ takeUW (s.data.toList.drop p1) f1 x1 = (x, R2, e2) ∧ Sat w0 I (blk d 134 [.string s, .int .i64 (p1 : Int), .int .i64 0] :: L) wr) (fun _ _ _ _ wr => s.size - posOf d wr)
  case atStart => exact ⟨p, 0, true, rfl, rfl, hp2, HT.out, H.out⟩
  case round =>
    obtain ⟨p1, x1, f1, rfl, rfl, hp1, h1, Sr⟩ := hrel
    have hpos : posOf d wr = p1 := by unfold posOf; rw [Sr.isBlk.cell 1 rfl]; simp [intOf]
    have HPOS := hid hpos
    have HS := hid Sr
    have H1 := hid h1
    clear Sr h1 hpos
    by_cases hps : p1 < s.size
    case neg =>
      go_wp2_with fail
      refine (next_blk_end HS.out (by omega)).mono ?_; rintro e w1 ⟨rfl, S1⟩
      have HS1 := hid S1
      clear S1
      go_wp2_with fail
      go_ret
      have := H1.out
      have hnil : s.data.toList.drop p1 = [] := List.drop_of_length_le (by rw [Array.length_toList]; show s.size ≤ p1; omega)
      rw [hnil] at this
      simp only [takeUW, Prod.mk.injEq] at this
      obtain ⟨rfl, rfl, rfl⟩ := this
      exact ⟨rfl, HS1.out.toDecr hnil hp1 hp3⟩
    case pos =>
      obtain ⟨c, hc0⟩ : ∃ c, s[p1] = c := ⟨_, rfl⟩
      have hdr : s.data.toList.drop p1 = c :: s.data.toList.drop (p1 + 1) := by
        rw [List.drop_eq_getElem_cons (by rw [Array.length_toList]; exact hps)]
        congr 1
      have hcb := c.toNat_lt
      have e1 := H1.out
      rw [hdr, takeUW] at e1
      have HC0 := hid hc0
      clear hc0 hdr H1
      go_wp2_with fail
      refine (next_blk HS.out hps hp3).mono ?_; rintro e w1 ⟨rfl, S1⟩
      rw [HC0.out]
      have hpos2 : posOf d w1 = p1 + 1 := by unfold posOf; rw [S1.isBlk.cell 1 rfl]; simp [intOf]
      have HPOS2 := hid hpos2
      have HS1 := hid S1
      clear S1 hpos2
      by_cases hA : f1 = true ∧ c.toNat = 128
      · rw [if_pos hA] at e1
        obtain ⟨rfl, hc⟩ := hA
        simp only [Prod.mk.injEq] at e1
        obtain ⟨rfl, hR, rfl⟩ := e1
        have HR := hid hR
        have hcb : ((c.toNat : Int) == 128) = true := by simp; omega
        clear hc hR
        go_wp2_with fail
        refine (fail_sat 3 (HS1.out.toDecr HR.out (by omega) hp3)).mono ?_; rintro r w2 ⟨rfl, S2⟩
        have HS2 := hid S2
        clear S2
        go_wp2_with fail
        go_ret
        exact ⟨rfl, HS2.out⟩
      rw [if_neg hA] at e1
      have hA2 : f1 = true → ((c.toNat : Int) == 128) = false := fun hf => by simp; intro h; exact hA ⟨hf, by omega⟩
      have HA2 := hid hA2
      clear hA hA2
      by_cases hB : 144115188075855871 < x1
      · rw [if_pos hB] at e1
        simp only [Prod.mk.injEq] at e1
        obtain ⟨rfl, hR, rfl⟩ := e1
        have HR := hid hR
        clear hR
        have hB' : (144115188075855871 : Int) < (x1 : Int) := by omega
        cases f1
        all_goals
          first
          | have hA3 := HA2.out rfl
          | skip
          go_wp2_with fail
          refine (fail_sat 3 (HS1.out.toDecr HR.out (by omega) hp3)).mono ?_; rintro r w2 ⟨rfl, S2⟩
          have HS2 := hid S2
          clear S2
          go_wp2_with fail
          go_ret
          exact ⟨rfl, HS2.out⟩
      rw [if_neg hB] at e1
      have hB' : ¬ (144115188075855871 : Int) < (x1 : Int) := by omega
      have hso := shl_or x1 c.toNat (by omega) hcb
      have han := andnot128_fin ⟨c.toNat, hcb⟩
      by_cases hC : c.toNat < 128
      · rw [if_pos hC] at e1
        simp only [Prod.mk.injEq] at e1
        obtain ⟨rfl, hR, rfl⟩ := e1
        have HR := hid hR
        clear hR
        have hC' : (c.toNat : Int) < 128 := by omega
        cases f1
        all_goals
          first
          | have hA3 := HA2.out rfl
          | skip
          go_wp2_with fail
          go_ret
          refine ⟨ret_int ?_, HS1.out.toDecr HR.out (by omega) hp3⟩
          omega
      · rw [if_neg hC] at e1
        have hC' : ¬ (c.toNat : Int) < 128 := by omega
        have E1 := hid e1
        clear e1
        cases f1
        all_goals
          first
          | have hA3 := HA2.out rfl
          | skip
          go_wp2_with fail
          go_roundw
          case rel => exact ⟨p1 + 1, x1 * 128 + c.toNat % 128, false, by congr 1, rfl, by omega, E1.out, HS1.out⟩
          case measure =>
            have q1 := HPOS.out
            have q2 := HPOS2.out
            omega
end Go.Proofs.YtcogjlfdhiomnaaDoor
