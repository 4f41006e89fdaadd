/- Contracts of the encoder, in parts of the memory. Plain laws of the numbers' spelling. Contracts of the decoder, in parts of the memory: what is left of the text, and the error. Contracts of the decoder: whole numbers, truths, texts. Plain laws: what is spelled is taken again; what is cut off lacks bytes. -/
import Derived.Test.YtekioplbfoonkaaGreatDoorMg1
import Derived.Test.YtekioplbfoonkaaGreatDoorMg2
import Derived.Deep.QuietTactic
namespace Go.Proofs.YtekioplbfoonkaaGreatDoor
open Go.RowKit
set_option linter.unusedVariables false
set_option maxRecDepth 100000

section
variable {w0 w w' : World} {I J : Part} {L M : List HP} {A B : HP}
theorem Part.minus_anti {I J : Part} (h : I.le J) (g : Part) : (g.minus J).le (g.minus I) := fun b o e => by
  refine Part.minus_some (Part.minus_le _ _ b o e) ?_
  have := Part.minus_none e
  cases hx : I b with
  | none => rfl
  | some u => rw [h b u hx] at this; cases this
/-- what was kept for a while may go. -/
theorem Sat.thaw (h : Sat w0 J L w) (k : I.le J) : Sat w0 I L w := ⟨h.os, h.tape, h.output, h.size, Part.le_trans k h.imm, sepL_mono L (Part.minus_anti k _) h.sep⟩
/-- a new block that is only read from now on. -/
theorem Sat.lend (h : Sat w0 I L w) (cs : List Value) (T : TypeId) {vs : Array Value} (hv : cs.toArray = vs) : ∃ J, I.le J ∧ Sat w0 J L (w.alloc (.cells vs T)) ∧ Rd J (some ⟨w.heap.size, 0, none⟩) cs := by
  subst hv; exact (h.alloc rfl rfl).freezeBlk
theorem Rd.dom {a : Option Addr} {vs : List Value} (h : Rd I a vs) (h0 : 0 < vs.length) : ∀ x, a = some x → (I x.block).isSome = true := fun x hx => by
  obtain ⟨b, off, e, hc⟩ := h 0 h0
  rw [hx] at e; cases e
  unfold cellI at hc
  cases hb : I b with
  | none => rw [hb] at hc; cases hc
  | some u => rfl
theorem Sat.domNe (h : Sat w0 I (A :: L) w) : ∃ g : Part, A g ∧ g.le (wpart w) ∧ (∀ b, (I b).isSome = true → g b = none) ∧ Sat w0 I ((fun x => x = g) :: L) w := by
  obtain ⟨g, hg, a, s⟩ := h.sep
  refine ⟨g, a, Part.le_trans hg (Part.minus_le _ _), fun b hb => ?_, ⟨h.os, h.tape, h.output, h.size, h.imm, g, hg, rfl, s⟩⟩
  cases hx : g b with
  | none => rfl
  | some u => rw [Part.minus_none (hg b u hx)] at hb; cases hb
end

/-- block e is an encoder; it has gathered bs. -/
def enc (e : Nat) (bs : List UInt8) : HP := fun g => bs.length ≤ 1048576 ∧ ∃ sv, (∀ k, sv.ownBlock = some k → e < k) ∧ sepL [blk e 89 [sv], row 5 1 sv bs.length (Lib.byteCells bs)] g
section
variable {w0 w w' : World} {I : Part} {L : List HP} {e : Nat} {bs : List UInt8}
theorem Sat.isEnc (h : Sat w0 I (enc e bs :: L) w) : ∃ sv, IsE w e sv bs ∧ (∀ b, (I b).isSome = true → b ≠ e ∧ sv.ownBlock ≠ some b) ∧
    ∀ w' sv' bs', IsE w' e sv' bs' → Mod (EFp e sv) w w' → Moved w sv sv' → Sat w0 I (enc e bs' :: L) w' := by
  obtain ⟨g, ⟨hl, sv, hlt, g1, h1, b1, g2, h2, b2, _⟩, hle, hI, H⟩ := h.domNe
  have e1 : g e = some (.cells #[sv] 89 (0, 0)) := h1 _ _ b1
  have hown : ∀ k, sv.ownBlock = some k → (g k).isSome = true := fun k hk => by
    rcases b2.2 with ⟨rfl, _⟩ | ⟨b, cap, cur, rfl, hb, _⟩
    · cases hk
    · simp only [Value.ownBlock, Option.some.injEq] at hk; subst hk
      rw [Part.minus_le _ _ _ _ (h2 _ _ hb)]; rfl
  refine ⟨sv, ⟨hle _ _ e1, ⟨b2.1, ?_⟩, hl⟩, fun b hb => ⟨fun x => ?_, fun x => ?_⟩, fun w' sv' bs' E' M' V' => ?_⟩
  · rcases b2.2 with hb | ⟨b, cap, cur, hv, hb, r⟩
    · exact Or.inl hb
    · exact Or.inr ⟨b, cap, cur, hv, hlt b (by rw [hv]; rfl), hle _ _ (Part.minus_le _ _ _ _ (h2 _ _ hb)), r⟩
  · have := hI b hb; rw [x, e1] at this; cases this
  · have := hI b hb; have h3 := hown b x; rw [this] at h3; cases h3
  · refine H.change fun g' hg' _ => ⟨EFp e sv, fun b hb _ => ?_, M', fun g3 h3 => ⟨E'.small, sv', fun k hk => E'.row.lt k hk |>.1, ?_⟩⟩
    · subst hg'
      rcases hb with rfl | hb
      · rw [e1]; rfl
      · exact hown b hb
    · subst hg'
      have e3 : g3 e = some (.cells #[sv'] 89 (0, 0)) := by rw [h3 e (Or.inl (by rw [e1]; rfl))]; exact E'.blk
      refine ⟨fun k => if k = e then some (.cells #[sv'] 89 (0, 0)) else none, fun k o hk => ?_, if_pos rfl, g3.minus _, Part.le_refl _, ⟨E'.row.1, ?_⟩, trivial⟩
      · replace hk : (if k = e then some (Obj.cells #[sv'] 89 (0, 0)) else none) = some o := hk
        split at hk
        · rename_i hke; subst hke; cases hk; exact e3
        · cases hk
      · rcases E'.row.2 with hb | ⟨b, cap, cur, hv, hbe, hh, r⟩
        · exact Or.inl hb
        · refine Or.inr ⟨b, cap, cur, hv, Part.minus_some ?_ (if_neg (by omega)), r⟩
          rw [h3 b ?_]
          · exact hh
          · rcases V' b (by rw [hv]; rfl) with h4 | h4
            · exact Or.inl (hown b h4)
            · exact Or.inr h4
theorem Sat.encNew (h : Sat w0 I L w) {b : Nat} (hb : b = w.heap.size) : Sat w0 I (enc b [] :: L) (w.alloc (.cells #[.slice none 0 0] 89)) := by
  subst hb
  have h1 : Sat w0 I (row 5 1 (.slice none 0 0) 0 [] :: blk w.heap.size 89 [.slice none 0 0] :: L) (w.alloc (.cells #[.slice none 0 0] 89)) := (h.alloc rfl rfl).nilRow _ _
  exact Sat.of (M := [_, _]) h1.swap fun g s => ⟨by simp, .slice none 0 0, fun k hk => (by cases hk), s⟩
theorem bytes_sat (h : Sat w0 I (enc e bs :: L) w) : Calls Tryz.prog 35 #[.pointer (some ⟨e, 0, none⟩)] w fun r w' => r = .returned (.string ⟨bs.toArray⟩) ∧ Sat w0 I (enc e bs :: L) w' := by
  obtain ⟨sv, E, hI, K⟩ := h.isEnc
  refine (bytes_any w e sv bs E).mono ?_; rintro r w' ⟨rfl, n, rfl⟩
  exact ⟨rfl, h.drewN n⟩
theorem encU_sat (la : Option Addr) (cap : Nat) (zs : List Int) (h : Sat w0 I (enc e bs :: L) w) (hz : Rd I la (zs.map (Value.int .u64))) (hwf : ∀ z ∈ zs, 0 ≤ z ∧ z ≤ 18446744073709551615)
    (hsm : bs.length + 10 * zs.length ≤ 1048576) (hlen : zs.length ≤ 9223372036854775807) :
    Calls Tryz.prog 34 #[.pointer (some ⟨e, 0, none⟩), .slice la zs.length cap] w
      fun r w' => r = .returned (.pointer (some ⟨e, 0, none⟩)) ∧ Sat w0 I (enc e (bs ++ zs.flatMap fun z => encU z.toNat) :: L) w' := by
  obtain ⟨sv, E, hI, K⟩ := h.isEnc
  refine (encU_any w e sv bs la cap zs E (hz.ints h) hwf (fun h0 x hx => hI _ (hz.dom (by simpa using h0) x hx)) hsm hlen).mono ?_; rintro r w' ⟨rfl, sv', E', M, V⟩
  exact ⟨rfl, K _ _ _ E' M V⟩
theorem encI_sat (la : Option Addr) (cap : Nat) (zs : List Int) (h : Sat w0 I (enc e bs :: L) w) (hz : Rd I la (zs.map (Value.int .i64))) (hwf : ∀ z ∈ zs, z ≤ 9223372036854775807)
    (hsm : bs.length + 10 * zs.length ≤ 1048576) (hlen : zs.length ≤ 9223372036854775807) :
    Calls Tryz.prog 61 #[.pointer (some ⟨e, 0, none⟩), .slice la zs.length cap] w
      fun r w' => r = .returned (.pointer (some ⟨e, 0, none⟩)) ∧ Sat w0 I (enc e (bs ++ zs.flatMap fun z => encU (max z 0).toNat) :: L) w' := by
  obtain ⟨sv, E, hI, K⟩ := h.isEnc
  refine (encI_any w e sv bs la cap zs E (hz.ints h) hwf (fun h0 x hx => hI _ (hz.dom (by simpa using h0) x hx)) hsm hlen).mono ?_; rintro r w' ⟨rfl, sv', E', M, V⟩
  exact ⟨rfl, K _ _ _ E' M V⟩
theorem Rd.lt {a : Option Addr} {vs : List Value} (hr : Rd I a vs) (h : Sat w0 I L w) (h0 : 0 < vs.length) : ∀ x, a = some x → x.block < w.heap.size := fun x hx => by
  have := hr.dom h0 x hx
  cases hb : I x.block with
  | none => rw [hb] at this; cases this
  | some u => exact wpart_lt (h.imm _ _ hb)
theorem encList_sat (la : Option Addr) (cap : Nat) (zs : List Int) (h : Sat w0 I (enc e bs :: L) w) (hz : Rd I la (zs.map (Value.int .i64))) (hwf : ∀ z ∈ zs, z ≤ 9223372036854775807)
    (hsm : bs.length + 10 + 10 * zs.length ≤ 1048576) (hlen : zs.length ≤ 9223372036854775807) :
    Calls Tryz.prog 63 #[.pointer (some ⟨e, 0, none⟩), .slice la zs.length cap] w
      fun r w' => r = .returned (.pointer (some ⟨e, 0, none⟩)) ∧ Sat w0 I (enc e (bs ++ encU zs.length ++ zs.flatMap fun z => encU (max z 0).toNat) :: L) w' := by
  obtain ⟨sv, E, hI, K⟩ := h.isEnc
  refine (encList_any w e sv bs la cap zs E (hz.ints h) hwf (fun h0 x hx => ?_) hsm hlen).mono ?_
  · obtain ⟨h1, h2⟩ := hI _ (hz.dom (by simpa using h0) x hx)
    exact ⟨h1, h2, hz.lt h (by simpa using h0) x hx⟩
  rintro r w' ⟨rfl, sv', E', M, V⟩
  exact ⟨rfl, K _ _ _ E' M V⟩
theorem encS_sat (la : Option Addr) (cap : Nat) (ss : List ByteArray) (N : Nat) (h : Sat w0 I (enc e bs :: L) w) (hz : Rd I la (ss.map Value.string)) (hwf : ∀ s ∈ ss, s.size ≤ N)
    (hsm : bs.length + (10 + N) * ss.length ≤ 1048576) (hN : N ≤ 100000) (hlen : ss.length ≤ 9223372036854775807) :
    Calls Tryz.prog 62 #[.pointer (some ⟨e, 0, none⟩), .slice la ss.length cap] w
      fun r w' => r = .returned (.pointer (some ⟨e, 0, none⟩)) ∧ Sat w0 I (enc e (bs ++ ss.flatMap encS) :: L) w' := by
  obtain ⟨sv, E, hI, K⟩ := h.isEnc
  refine (encS_any w e sv bs la cap ss N E (fun i hi => ?_) hwf (fun h0 x hx => hI _ (hz.dom (by simpa using h0) x hx)) hsm hN hlen).mono ?_
  · exact hz.get h i (by simp [hi])
  rintro r w' ⟨rfl, sv', E', M, V⟩
  exact ⟨rfl, K _ _ _ E' M V⟩
/-- one number. -/
theorem encU1_sat (T : TypeId) (z : Int) {g : Nat} (hg : g = w.heap.size) (h : Sat w0 I (enc e bs :: L) w) (hwf : 0 ≤ z ∧ z ≤ 18446744073709551615) (hsm : bs.length + 10 ≤ 1048576) :
    Calls Tryz.prog 34 #[.pointer (some ⟨e, 0, none⟩), .slice (some ⟨g, 0, none⟩) 1 1] (w.alloc (.cells #[.int .u64 z] T))
      fun r w' => r = .returned (.pointer (some ⟨e, 0, none⟩)) ∧ Sat w0 I (enc e (bs ++ encU z.toNat) :: L) w' := by
  subst hg
  obtain ⟨J, hJ, S, R⟩ := h.lend [.int .u64 z] T rfl
  refine (encU_sat _ 1 [z] S R (by intro y hy; simp at hy; subst hy; exact hwf) (by simpa using hsm) (by simp)).mono ?_
  rintro r w' ⟨rfl, h'⟩
  exact ⟨rfl, by simpa using h'.thaw hJ⟩
theorem encI1_sat (T : TypeId) (z : Int) {g : Nat} (hg : g = w.heap.size) (h : Sat w0 I (enc e bs :: L) w) (hwf : z ≤ 9223372036854775807) (hsm : bs.length + 10 ≤ 1048576) :
    Calls Tryz.prog 61 #[.pointer (some ⟨e, 0, none⟩), .slice (some ⟨g, 0, none⟩) 1 1] (w.alloc (.cells #[.int .i64 z] T))
      fun r w' => r = .returned (.pointer (some ⟨e, 0, none⟩)) ∧ Sat w0 I (enc e (bs ++ encU (max z 0).toNat) :: L) w' := by
  subst hg
  obtain ⟨J, hJ, S, R⟩ := h.lend [.int .i64 z] T rfl
  refine (encI_sat _ 1 [z] S R (by intro y hy; simp at hy; subst hy; exact hwf) (by simpa using hsm) (by simp)).mono ?_
  rintro r w' ⟨rfl, h'⟩
  exact ⟨rfl, by simpa using h'.thaw hJ⟩
theorem encS1_sat (T : TypeId) (s : ByteArray) {g : Nat} (hg : g = w.heap.size) (h : Sat w0 I (enc e bs :: L) w) (hs : s.size ≤ 100000) (hsm : bs.length + 10 + s.size ≤ 1048576) :
    Calls Tryz.prog 62 #[.pointer (some ⟨e, 0, none⟩), .slice (some ⟨g, 0, none⟩) 1 1] (w.alloc (.cells #[.string s] T))
      fun r w' => r = .returned (.pointer (some ⟨e, 0, none⟩)) ∧ Sat w0 I (enc e (bs ++ encS s) :: L) w' := by
  subst hg
  obtain ⟨J, hJ, S, R⟩ := h.lend [.string s] T rfl
  refine (encS_sat _ 1 [s] s.size S R (by intro y hy; simp at hy; subst hy; exact Nat.le_refl _) (by simp; omega) hs (by simp)).mono ?_
  rintro r w' ⟨rfl, h'⟩
  exact ⟨rfl, by simpa using h'.thaw hJ⟩
end

/-! ### booleans -/
def bB (b : Bool) : UInt8 := if b then 1 else 0

end Go.Proofs.YtekioplbfoonkaaGreatDoor
namespace Go.Proofs.YtekioplbfoonkaaGreatDoor
open Go.RowKit
set_option linter.unusedVariables false
set_option maxRecDepth 100000

theorem bitLen_or1 (v : Nat) (h : v < 18446744073709551616) : Lib.bitLen (v ||| 1) = 1 + Lib.bitLen (v / 2) := by
  have h0 : v ||| 1 ≠ 0 := by intro h; have := Nat.right_le_or (n := v) (m := 1); omega
  have hor : (v ||| 1) < 18446744073709551616 := Nat.or_lt_two_pow (n := 64) (by omega) (by omega)
  rw [Lib.bitLen_half _ h0 hor]
  have e1 : (v ||| 1) / 2 = v / 2 := by
    have := Nat.or_div_two (a := v) (b := 1)
    rw [this]; simp
  rw [e1]
theorem grp_small (v : Nat) (h : v < 128) : grp v = 0 := by
  unfold grp
  rw [bitLen_or1 v (by omega)]
  have := Lib.bitLen_le (v / 2) 6 (by omega) (by omega)
  omega
theorem grp_step (v : Nat) (h : 128 ≤ v) (hv : v < 18446744073709551616) : grp v = grp (v / 128) + 1 := by
  unfold grp
  rw [bitLen_or1 v hv, bitLen_or1 (v / 128) (by omega)]
  by_cases h2 : 128 ≤ v / 2
  · rw [Lib.bitLen_shift 7 (v / 2) (by omega) (by omega)]
    have : v / 2 / 2 ^ 7 = v / 128 / 2 := by omega
    rw [this]; omega
  · have e1 : v / 128 / 2 = 0 := by omega
    rw [e1]
    have h3 := Lib.bitLen_shift 6 (v / 2) (by omega) (by omega)
    have e2 : v / 2 / 2 ^ 6 = 1 := by omega
    rw [e2] at h3
    have e3 : Lib.bitLen 1 = 1 := by decide
    have e4 : Lib.bitLen 0 = 0 := by decide
    omega
def hiR (v : Nat) : List UInt8 := if h : v = 0 then [] else hiR (v / 128) ++ [UInt8.ofNat (v % 128 + 128)]
termination_by v
decreasing_by omega
theorem hiR_zero : hiR 0 = [] := by rw [hiR]; simp
theorem hiR_pos (v : Nat) (h : v ≠ 0) : hiR v = hiR (v / 128) ++ [UInt8.ofNat (v % 128 + 128)] := by rw [hiR, dif_neg h]
theorem encHi_back (v : Nat) : ∀ k, encHi v (k + 1) = encHi (v / 128) k ++ [hiB v 1]
  | 0 => rfl
  | k + 1 => by
    rw [encHi, encHi_back v k, encHi, List.cons_append]
    congr 1
    unfold hiB
    have e1 : v / 2 ^ (7 * (k + 1 + 1)) = v / 128 / 2 ^ (7 * (k + 1)) := by
      rw [Nat.div_div_eq_div_mul]; congr 1
      rw [show 7 * (k + 1 + 1) = 7 + 7 * (k + 1) by omega, Nat.pow_add]
    rw [e1]
theorem encHi_hiR : ∀ v, v < 18446744073709551616 → encHi v (grp v) = hiR (v / 128) := by
  intro v
  induction v using Nat.strongRecOn with
  | ind v ih =>
    intro hv
    by_cases h : v < 128
    · rw [grp_small v h, Nat.div_eq_of_lt h, hiR_zero]; rfl
    · rw [grp_step v (by omega) hv, encHi_back, ih (v / 128) (by omega) (by omega), hiR_pos (v / 128) (by omega)]
      rfl
theorem encU_eq (v : Nat) (hv : v < 18446744073709551616) : encU v = hiR (v / 128) ++ [UInt8.ofNat (v % 128)] := by
  unfold encU; rw [encHi_hiR v hv]
theorem hiR_mono : ∀ v u, u ≤ v → (hiR u).length ≤ (hiR v).length := by
  intro v
  induction v using Nat.strongRecOn with
  | ind v ih =>
    intro u hu
    by_cases h : u = 0
    · subst h; rw [hiR_zero]; simp
    · rw [hiR_pos u h, hiR_pos v (by omega)]
      have := ih (v / 128) (by omega) (u / 128) (by omega)
      simp; exact this
theorem bl_app : ∀ (A B : List UInt8) (x y : UInt8), A.length = B.length → Op.bytesLess (A ++ [x]) (B ++ [y]) = (Op.bytesLess A B || (A == B && decide (x < y)))
  | [], [], x, y, _ => by simp [Op.bytesLess]
  | a :: A, b :: B, x, y, h => by
    have ih := bl_app A B x y (by simpa using h)
    simp only [List.cons_append, Op.bytesLess, ih]
    have hc : ∀ c d e f : Bool, (c || d && (e || f)) = (c || d && e || d && f) := by decide
    have hd : (a :: A == b :: B) = (a == b && A == B) := rfl
    rw [hc, hd, Bool.and_assoc]
theorem bl_irr : ∀ (A : List UInt8), Op.bytesLess A A = false
  | [] => rfl
  | a :: A => by simp [Op.bytesLess, bl_irr A]
theorem bl_asymm : ∀ (A B : List UInt8), Op.bytesLess A B = true → Op.bytesLess B A = false
  | [], [], h => by simp [Op.bytesLess] at h
  | [], b :: B, h => rfl
  | a :: A, [], h => by simp [Op.bytesLess] at h
  | a :: A, b :: B, h => by
    have ih := bl_asymm A B
    simp only [Op.bytesLess, Bool.or_eq_true, Bool.and_eq_true, beq_iff_eq, decide_eq_true_eq] at h
    simp only [Op.bytesLess, Bool.or_eq_false_iff, Bool.and_eq_false_iff, decide_eq_false_iff_not, beq_eq_false_iff_ne]
    simp only [UInt8.lt_iff_toNat_lt] at *
    rcases h with h | ⟨h, h2⟩
    · exact ⟨by omega, Or.inl (fun e => by subst e; omega)⟩
    · subst h; exact ⟨by omega, Or.inr (ih h2)⟩
theorem ofNat_lt (x y : Nat) (hy : y < 256) (h : x < y) : UInt8.ofNat x < UInt8.ofNat y := by
  rw [UInt8.lt_iff_toNat_lt, UInt8.toNat_ofNat', UInt8.toNat_ofNat']
  have e1 : x % 2 ^ 8 = x := Nat.mod_eq_of_lt (by omega)
  have e2 : y % 2 ^ 8 = y := Nat.mod_eq_of_lt (by omega)
  rw [e1, e2]; exact h
theorem hiR_lt : ∀ v u, u < v → (hiR u).length = (hiR v).length → Op.bytesLess (hiR u) (hiR v) = true := by
  intro v
  induction v using Nat.strongRecOn with
  | ind v ih =>
    intro u hu hl
    by_cases h : u = 0
    · subst h
      rw [hiR_zero, hiR_pos v (by omega)] at hl
      simp at hl
    · rw [hiR_pos u h, hiR_pos v (by omega)] at hl ⊢
      have hl2 : (hiR (u / 128)).length = (hiR (v / 128)).length := by simpa using hl
      rw [bl_app _ _ _ _ hl2]
      by_cases h1 : u / 128 < v / 128
      · rw [ih (v / 128) (by omega) (u / 128) h1 hl2]; rfl
      · have e : u / 128 = v / 128 := by omega
        rw [e, bl_irr]
        have := ofNat_lt (u % 128 + 128) (v % 128 + 128) (by omega) (by omega)
        rw [decide_eq_true this]; simp
theorem encU_mono (u v : Nat) (hv : v < 18446744073709551616) (h : u ≤ v) : (encU u).length ≤ (encU v).length := by
  rw [encU_eq u (by omega), encU_eq v hv]
  have := hiR_mono (v / 128) (u / 128) (by omega)
  simp; exact this
theorem encU_lt (u v : Nat) (hv : v < 18446744073709551616) (h : u < v) (hl : (encU u).length = (encU v).length) : Op.bytesLess (encU u) (encU v) = true := by
  rw [encU_eq u (by omega), encU_eq v hv] at hl ⊢
  have hl2 : (hiR (u / 128)).length = (hiR (v / 128)).length := by simpa using hl
  rw [bl_app _ _ _ _ hl2]
  by_cases h1 : u / 128 < v / 128
  · rw [hiR_lt _ _ h1 hl2]; rfl
  · have e : u / 128 = v / 128 := by omega
    rw [e, bl_irr]
    have := ofNat_lt (u % 128) (v % 128) (by omega) (by omega)
    simp [this]
/-- what the law asks of two numbers' bytes. -/
theorem encU_order (u v : Nat) (hv : v < 18446744073709551616) (h : u < v) :
    (encU u).length < (encU v).length ∨ ((encU u).length = (encU v).length ∧ Op.bytesLess (encU u) (encU v) = true ∧ Op.bytesLess (encU v) (encU u) = false ∧ encU u ≠ encU v) := by
  rcases Nat.lt_or_eq_of_le (encU_mono u v hv (by omega)) with h1 | h1
  · exact Or.inl h1
  · have h2 := encU_lt u v hv h h1
    exact Or.inr ⟨h1, h2, bl_asymm _ _ h2, fun e => by rw [e, bl_irr] at h2; cases h2⟩
end Go.Proofs.YtekioplbfoonkaaGreatDoor
namespace Go.Proofs.YtekioplbfoonkaaGreatDoor
open Go.RowKit
set_option linter.unusedVariables false
set_option maxRecDepth 100000

/-- block d is a decoder; R is left; its error is r. -/
def decr (d : Nat) (R : List UInt8) (r : Int) : HP := fun g => ∃ (s : ByteArray) (p : Nat), s.data.toList.drop p = R ∧ p ≤ s.size ∧ s.size ≤ 9223372036854775807 ∧ blk d 210 [.string s, .int .i64 (p : Int), .int .i64 r] g
section
variable {w0 w w' : World} {I : Part} {L : List HP} {d : Nat} {R : List UInt8} {r : Int}
theorem Sat.isDecr (h : Sat w0 I (decr d R r :: L) w) : ∃ (s : ByteArray) (p : Nat), s.data.toList.drop p = R ∧ p ≤ s.size ∧ s.size ≤ 9223372036854775807 ∧ Sat w0 I (blk d 210 [.string s, .int .i64 (p : Int), .int .i64 r] :: L) w := by
  obtain ⟨g, ⟨s, p, h1, h2, h3, h4⟩, _, k⟩ := h.elim
  exact ⟨s, p, h1, h2, h3, k _ h4⟩
theorem Sat.toDecr {s : ByteArray} {p : Nat} (h : Sat w0 I (blk d 210 [.string s, .int .i64 (p : Int), .int .i64 r] :: L) w) (h1 : s.data.toList.drop p = R) (h2 : p ≤ s.size) (h3 : s.size ≤ 9223372036854775807) : Sat w0 I (decr d R r :: L) w :=
  h.weaken fun g hg => ⟨s, p, h1, h2, h3, hg⟩
theorem Sat.modBlk {T U : TypeId} {cs cs' : List Value} (h : Sat w0 I (blk d T cs :: L) w) (hb : Blk w' d U cs') (m : Mod (At d) w w') : Sat w0 I (blk d U cs' :: L) w' := by
  have hB := h.isBlk
  refine h.change fun g hg hle => ⟨At d, fun k hk _ => by cases hk; unfold blk at hg; rw [hg]; rfl, m, fun g' hg' => ?_⟩
  unfold blk at hg ⊢
  rw [hg' d (Or.inl (by rw [hg]; rfl))]
  exact hb
theorem decr_size (s : ByteArray) (p : Nat) (h : s.data.toList.drop p = R) (hp : p ≤ s.size) : R.length + p = s.size := by
  have h1 : s.data.toList.length = s.size := Array.length_toList
  rw [← h, List.length_drop, h1]; omega
theorem decr_some (s : ByteArray) (p : Nat) (c : UInt8) (Q : List UInt8) (h : s.data.toList.drop p = c :: Q) : ∃ hp : p < s.size, s[p] = c ∧ s.data.toList.drop (p + 1) = Q := by
  have h1 : s.data.toList.length = s.size := Array.length_toList
  have hp : p < s.size := by
    by_cases hh : p < s.size
    · exact hh
    · rw [List.drop_of_length_le (by omega)] at h; cases h
  refine ⟨hp, ?_, ?_⟩
  · rw [List.drop_eq_getElem_cons (by omega)] at h
    have := (List.cons.inj h).1
    rw [← this]; rfl
  · rw [List.drop_eq_getElem_cons (by omega)] at h
    exact (List.cons.inj h).2
theorem from_sat (s : ByteArray) (h : Sat w0 I L w) (hs : s.size ≤ 9223372036854775807) :
    Calls Tryz.prog 65 #[.string s] w fun e w' => ∃ d, e = .returned (.pointer (some ⟨d, 0, none⟩)) ∧ Sat w0 I (decr d s.data.toList 0 :: L) w' := by
  go_enter Tryz.func65, Tryz.ntmps65
  go_wp2
  go_ret
  exact ⟨_, rfl, Sat.toDecr (p := 0) (h.alloc rfl rfl) rfl (by omega) hs⟩
theorem fail_sat (e : Int) (h : Sat w0 I (decr d R 0 :: L) w) : Calls Tryz.prog 70 #[.pointer (some ⟨d, 0, none⟩), .int .i64 e] w fun r w' => r = .returned (.tuple #[]) ∧ Sat w0 I (decr d R e :: L) w' := by
  obtain ⟨s, p, h1, h2, h3, H⟩ := h.isDecr
  refine (fail_first w d s p e H.isBlk).mono ?_; rintro r w' ⟨rfl, D, M⟩
  exact ⟨rfl, (H.modBlk D M).toDecr h1 h2 h3⟩
theorem next_blk_end {s : ByteArray} {p : Nat} (H : Sat w0 I (blk d 210 [.string s, .int .i64 (p : Int), .int .i64 0] :: L) w) (hp : s.size ≤ p) : Calls Tryz.prog 129 #[.pointer (some ⟨d, 0, none⟩)] w fun r w' => r = .returned (.tuple #[.int .u8 0, .bool false]) ∧ Sat w0 I (blk d 210 [.string s, .int .i64 (p : Int), .int .i64 2] :: L) w' := by
  refine (next_end w d s p H.isBlk (by omega)).mono ?_; rintro r w' ⟨rfl, D, M⟩
  exact ⟨rfl, H.modBlk D M⟩
theorem next_blk {s : ByteArray} {p : Nat} (H : Sat w0 I (blk d 210 [.string s, .int .i64 (p : Int), .int .i64 0] :: L) w) (hp : p < s.size) (h3 : s.size ≤ 9223372036854775807) : Calls Tryz.prog 129 #[.pointer (some ⟨d, 0, none⟩)] w fun r w' => r = .returned (.tuple #[.int .u8 (s[p].toNat : Int), .bool true]) ∧ Sat w0 I (blk d 210 [.string s, .int .i64 ((p + 1 : Nat) : Int), .int .i64 0] :: L) w' := by
  refine (next_some w d s p H.isBlk hp h3).mono ?_; rintro r w' ⟨rfl, D, M⟩
  exact ⟨rfl, H.modBlk D M⟩
theorem next_sat_end (h : Sat w0 I (decr d [] 0 :: L) w) : Calls Tryz.prog 129 #[.pointer (some ⟨d, 0, none⟩)] w fun r w' => r = .returned (.tuple #[.int .u8 0, .bool false]) ∧ Sat w0 I (decr d [] 2 :: L) w' := by
  obtain ⟨s, p, h1, h2, h3, H⟩ := h.isDecr
  have h4 := decr_size s p h1 h2
  simp at h4
  refine (next_end w d s p H.isBlk (by omega)).mono ?_; rintro r w' ⟨rfl, D, M⟩
  exact ⟨rfl, (H.modBlk D M).toDecr h1 h2 h3⟩
theorem next_sat (c : UInt8) (h : Sat w0 I (decr d (c :: R) 0 :: L) w) : Calls Tryz.prog 129 #[.pointer (some ⟨d, 0, none⟩)] w fun r w' => r = .returned (.tuple #[.int .u8 (c.toNat : Int), .bool true]) ∧ Sat w0 I (decr d R 0 :: L) w' := by
  obtain ⟨s, p, h1, h2, h3, H⟩ := h.isDecr
  obtain ⟨hp, h4, h5⟩ := decr_some s p c R h1
  refine (next_some w d s p H.isBlk hp h3).mono ?_; rintro r w' ⟨rfl, D, M⟩
  rw [h4]
  exact ⟨rfl, (H.modBlk D M).toDecr h5 hp h3⟩
theorem left_sat (h : Sat w0 I (decr d R r :: L) w) : Calls Tryz.prog 128 #[.pointer (some ⟨d, 0, none⟩)] w fun e w' => e = .returned (.int .i64 (R.length : Int)) ∧ Sat w0 I (decr d R r :: L) w' := by
  obtain ⟨s, p, h1, h2, h3, H⟩ := h.isDecr
  have h4 := decr_size s p h1 h2
  have c0 := H.isBlk.cell 0 rfl
  have c1 := H.isBlk.cell 1 rfl
  have HH := hid h
  have h5 : IntKind.i64.wrap ((s.size : Int) - (p : Int)) = (R.length : Int) := by
    rw [show (s.size : Int) - (p : Int) = (R.length : Int) by omega, IntKind.wrap_i64]
    omega
  have H4 := hid h4
  clear h h1 H h4
  go_enter Tryz.func128, Tryz.ntmps128
  go_wp2_with fail
  go_quiet (fail)
  go_wp2_with fail
  go_ret
  refine ⟨ret_int ?_, HH.out.drewN _⟩
  first | exact h5 | omega
end

/-! ### numbers -/
def takeUW : List UInt8 → Bool → Nat → Nat × List UInt8 × Int
  | [], _, _ => (0, [], 2)
  | c :: R, f, v => if f = true ∧ c.toNat = 128 then (0, R, 3) else if 144115188075855871 < v then (0, R, 3) else if c.toNat < 128 then (v * 128 + c.toNat % 128, R, 0) else takeUW R false (v * 128 + c.toNat % 128)
theorem shl_or (v c : Nat) (hv : v ≤ 144115188075855871) (hc : c < 256) : bits .or .u64 ((v : Int) * 128) ((c : Int) % 128) = ((v * 128 + c % 128 : Nat) : Int) := by
  have ec : (c : Int) % 128 = ((c % 128 : Nat) : Int) := by simp
  rw [ec]
  have h := bits_or_u64_nat (v * 128) (c % 128) (by omega) (by omega)
  have e : (((v * 128 : Nat)) : Int) = (v : Int) * 128 := by simp
  rw [e] at h
  rw [h]
  congr 1
  have := Nat.shiftLeft_add_eq_or_of_lt (b := c % 128) (i := 7) (by omega) v
  rw [Nat.shiftLeft_eq] at this
  rw [← this]
def posOf (d : Nat) (w : World) : Nat := (intOf ((w.cell? ⟨d, 1, none⟩).getD (.bool false))).toNat
set_option maxRecDepth 100000 in
set_option maxHeartbeats 8000000 in
theorem decU_sat {w0 w : World} {I : Part} {L : List HP} {d : Nat} {R : List UInt8} (h : Sat w0 I (decr d R 0 :: L) w) :
    Calls Tryz.prog 68 #[.pointer (some ⟨d, 0, none⟩)] w fun e w' => e = .returned (.int .u64 ((takeUW R true 0).1 : Int)) ∧ Sat w0 I (decr d (takeUW R true 0).2.1 (takeUW R true 0).2.2 :: L) w' := by
  obtain ⟨s, p, hp1, hp2, hp3, hD⟩ := h.isDecr
  have H := hid hD
  clear h hD
  subst hp1
  obtain ⟨T, hT⟩ : ∃ T, takeUW (s.data.toList.drop p) true 0 = T := ⟨_, rfl⟩
  rw [hT]
  obtain ⟨x, R2, e2⟩ := T
  have HT := hid hT
  clear hT
  go_enter Tryz.func68, Tryz.ntmps68
  go_wp2_with fail
  go_loopw [3, 4, 5, 6] (fun v f _ _ wr => ∃ (p1 : Nat) (x1 : Nat) (f1 : Bool), v = .int .u64 (x1 : Int) ∧ f = .bool f1 ∧ p1 ≤ s.size ∧ takeUW (s.data.toList.drop p1) f1 x1 = (x, R2, e2) ∧ Sat w0 I (blk d 210 [.string s, .int .i64 (p1 : Int), .int .i64 0] :: L) wr) (fun _ _ _ _ wr => s.size - posOf d wr)
  case atStart => exact ⟨p, 0, true, rfl, rfl, hp2, HT.out, H.out⟩
  case round =>
    obtain ⟨p1, x1, f1, rfl, rfl, hp1, h1, Sr⟩ := hrel
    have hpos : posOf d wr = p1 := by unfold posOf; rw [Sr.isBlk.cell 1 rfl]; simp [intOf]
    have HPOS := hid hpos
    have HS := hid Sr
    have H1 := hid h1
    clear Sr h1 hpos
    by_cases hps : p1 < s.size
    case neg =>
      go_wp2_with fail
      refine (next_blk_end HS.out (by omega)).mono ?_; rintro e w1 ⟨rfl, S1⟩
      have HS1 := hid S1
      clear S1
      go_wp2_with fail
      go_ret
      have := H1.out
      have hnil : s.data.toList.drop p1 = [] := List.drop_of_length_le (by rw [Array.length_toList]; show s.size ≤ p1; omega)
      rw [hnil] at this
      simp only [takeUW, Prod.mk.injEq] at this
      obtain ⟨rfl, rfl, rfl⟩ := this
      exact ⟨rfl, HS1.out.toDecr hnil hp1 hp3⟩
    case pos =>
      obtain ⟨c, hc0⟩ : ∃ c, s[p1] = c := ⟨_, rfl⟩
      have hdr : s.data.toList.drop p1 = c :: s.data.toList.drop (p1 + 1) := by
        rw [List.drop_eq_getElem_cons (by rw [Array.length_toList]; exact hps)]
        congr 1
      have hcb := c.toNat_lt
      have e1 := H1.out
      rw [hdr, takeUW] at e1
      have HC0 := hid hc0
      clear hc0 hdr H1
      go_wp2_with fail
      refine (next_blk HS.out hps hp3).mono ?_; rintro e w1 ⟨rfl, S1⟩
      rw [HC0.out]
      have hpos2 : posOf d w1 = p1 + 1 := by unfold posOf; rw [S1.isBlk.cell 1 rfl]; simp [intOf]
      have HPOS2 := hid hpos2
      have HS1 := hid S1
      clear S1 hpos2
      by_cases hA : f1 = true ∧ c.toNat = 128
      · rw [if_pos hA] at e1
        obtain ⟨rfl, hc⟩ := hA
        simp only [Prod.mk.injEq] at e1
        obtain ⟨rfl, hR, rfl⟩ := e1
        have HR := hid hR
        have hcb : ((c.toNat : Int) == 128) = true := by simp; omega
        clear hc hR
        go_wp2_with fail
        refine (fail_sat 3 (HS1.out.toDecr HR.out (by omega) hp3)).mono ?_; rintro r w2 ⟨rfl, S2⟩
        have HS2 := hid S2
        clear S2
        go_wp2_with fail
        go_ret
        exact ⟨rfl, HS2.out⟩
      rw [if_neg hA] at e1
      have hA2 : f1 = true → ((c.toNat : Int) == 128) = false := fun hf => by simp; intro h; exact hA ⟨hf, by omega⟩
      have HA2 := hid hA2
      clear hA hA2
      by_cases hB : 144115188075855871 < x1
      · rw [if_pos hB] at e1
        simp only [Prod.mk.injEq] at e1
        obtain ⟨rfl, hR, rfl⟩ := e1
        have HR := hid hR
        clear hR
        have hB' : (144115188075855871 : Int) < (x1 : Int) := by omega
        cases f1
        all_goals
          first
          | have hA3 := HA2.out rfl
          | skip
          go_wp2_with fail
          refine (fail_sat 3 (HS1.out.toDecr HR.out (by omega) hp3)).mono ?_; rintro r w2 ⟨rfl, S2⟩
          have HS2 := hid S2
          clear S2
          go_wp2_with fail
          go_ret
          exact ⟨rfl, HS2.out⟩
      rw [if_neg hB] at e1
      have hB' : ¬ (144115188075855871 : Int) < (x1 : Int) := by omega
      have hso := shl_or x1 c.toNat (by omega) hcb
      have han := andnot128_fin ⟨c.toNat, hcb⟩
      by_cases hC : c.toNat < 128
      · rw [if_pos hC] at e1
        simp only [Prod.mk.injEq] at e1
        obtain ⟨rfl, hR, rfl⟩ := e1
        have HR := hid hR
        clear hR
        have hC' : (c.toNat : Int) < 128 := by omega
        cases f1
        all_goals
          first
          | have hA3 := HA2.out rfl
          | skip
          go_wp2_with fail
          go_ret
          refine ⟨ret_int ?_, HS1.out.toDecr HR.out (by omega) hp3⟩
          omega
      · rw [if_neg hC] at e1
        have hC' : ¬ (c.toNat : Int) < 128 := by omega
        have E1 := hid e1
        clear e1
        cases f1
        all_goals
          first
          | have hA3 := HA2.out rfl
          | skip
          go_wp2_with fail
          go_roundw
          case rel => exact ⟨p1 + 1, x1 * 128 + c.toNat % 128, false, by congr 1, rfl, by omega, E1.out, HS1.out⟩
          case measure =>
            have q1 := HPOS.out
            have q2 := HPOS2.out
            omega
end Go.Proofs.YtekioplbfoonkaaGreatDoor
namespace Go.Proofs.YtekioplbfoonkaaGreatDoor
open Go.RowKit
set_option linter.unusedVariables false
set_option maxRecDepth 100000

theorem takeU_err : ∀ (R : List UInt8) (f : Bool) (v : Nat), (takeUW R f v).2.2 ≠ 0 → (takeUW R f v).1 = 0
  | [], _, _, _ => rfl
  | c :: R, f, v, h => by
    rw [takeUW] at h ⊢
    split
    · rfl
    · rename_i h1
      rw [if_neg h1] at h
      split
      · rfl
      · rename_i h2
        rw [if_neg h2] at h
        split
        · rename_i h3; rw [if_pos h3] at h; exact absurd rfl h
        · rename_i h3; rw [if_neg h3] at h; exact takeU_err R _ _ h
def takeI (most : Int) (R : List UInt8) : Nat × List UInt8 × Int :=
  if (takeUW R true 0).2.2 = 0 ∧ (max most 0).toNat < (takeUW R true 0).1 then (0, (takeUW R true 0).2.1, 11) else takeUW R true 0
theorem takeI_le (most : Int) (R : List UInt8) : (takeI most R).1 ≤ (max most 0).toNat := by
  unfold takeI
  split
  · simp
  · rename_i h
    by_cases he : (takeUW R true 0).2.2 = 0
    · have : ¬ (max most 0).toNat < (takeUW R true 0).1 := fun h2 => h ⟨he, h2⟩
      omega
    · rw [takeU_err R true 0 he]; simp
def takeS (most : Int) (R : List UInt8) : List UInt8 × List UInt8 × Int :=
  if (takeI most R).2.2 ≠ 0 then ([], (takeI most R).2.1, (takeI most R).2.2)
  else if (takeI most R).2.1.length < (takeI most R).1 then ([], (takeI most R).2.1, 2)
  else ((takeI most R).2.1.take (takeI most R).1, (takeI most R).2.1.drop (takeI most R).1, 0)
section
variable {w0 w : World} {I : Part} {L : List HP} {d : Nat} {R : List UInt8}
set_option maxRecDepth 100000 in
set_option maxHeartbeats 4000000 in
theorem decI_sat (most : Int) (h : Sat w0 I (decr d R 0 :: L) w) (hm : most ≤ 9223372036854775807) :
    Calls Tryz.prog 66 #[.pointer (some ⟨d, 0, none⟩), .int .i64 most] w fun e w' => e = .returned (.int .i64 ((takeI most R).1 : Int)) ∧ Sat w0 I (decr d (takeI most R).2.1 (takeI most R).2.2 :: L) w' := by
  have hle := takeI_le most R
  have herr := takeU_err R true 0
  have hti : takeI most R = if (takeUW R true 0).2.2 = 0 ∧ (max most 0).toNat < (takeUW R true 0).1 then (0, (takeUW R true 0).2.1, 11) else takeUW R true 0 := rfl
  have hc := @decU_sat w0 w I L d R h
  obtain ⟨T, hT⟩ : ∃ T, takeUW R true 0 = T := ⟨_, rfl⟩
  rw [hT] at hti herr hc
  obtain ⟨x, R2, e2⟩ := T
  simp only at hti herr hc
  obtain ⟨m, hmm⟩ : ∃ m, (max most 0).toNat = m := ⟨_, rfl⟩
  rw [hmm] at hti
  have HM := hid hmm
  have hm1 : m ≤ 9223372036854775807 := by omega
  have HTI := hid hti
  have HERR := hid herr
  have HC := hid hc
  clear hti herr hc hT hmm hle h
  go_enter Tryz.func66, Tryz.ntmps66
  go_wp2_with fail
  refine HC.out.mono ?_; rintro e w1 ⟨rfl, S1⟩
  have HS1 := hid S1
  clear S1 HC
  by_cases hA : e2 = 0 ∧ m < x
  · rw [if_pos hA] at HTI
    obtain ⟨rfl, hlt⟩ := hA
    have hlt' : (m : Int) < (x : Int) := by omega
    go_wp2_with (refine wpList_val (o := ⟨some 10, _, _, _, _, _⟩) rfl (.int .i64 (m : Int)) ?hrun ?_)
    case hrun =>
      have := HM.out
      by_cases hh : most ≤ 0
      · have e1 : m = 0 := by omega
        subst e1; simp [go_sem]; omega
      · have e1 : (m : Int) = most := by omega
        rw [e1]; simp [go_sem]; omega
    go_wp2_with fail
    refine (fail_sat 11 HS1.out).mono ?_; rintro r w2 ⟨rfl, S2⟩
    have HS2 := hid S2
    clear S2
    go_wp2_with fail
    go_ret
    rw [HTI.out]
    exact ⟨rfl, HS2.out⟩
  · rw [if_neg hA] at HTI
    have hge : ¬ (m : Int) < (x : Int) := by
      intro h
      by_cases he : e2 = 0
      · exact hA ⟨he, by omega⟩
      · have := HERR.out he; omega
    clear hA
    have hgN : decide (m < x) = false := by simp; omega
    have hx : x ≤ 9223372036854775807 := by omega
    go_wp2_with (refine wpList_val (o := ⟨some 10, _, _, _, _, _⟩) rfl (.int .i64 (m : Int)) ?hrun ?_)
    case hrun =>
      have := HM.out
      by_cases hh : most ≤ 0
      · have e1 : m = 0 := by omega
        subst e1; simp [go_sem]; omega
      · have e1 : (m : Int) = most := by omega
        rw [e1]; simp [go_sem]; omega
    go_wp2_with fail
    go_ret
    rw [HTI.out]
    refine ⟨ret_int ?_, HS1.out⟩
    omega
theorem err_blk {s : ByteArray} {p r : Int} (h : Sat w0 I (blk d 210 [.string s, .int .i64 p, .int .i64 r] :: L) w) : True := trivial
set_option maxRecDepth 100000 in
set_option maxHeartbeats 4000000 in
theorem done_sat (h : Sat w0 I (decr d [] 0 :: L) w) :
    Calls Tryz.prog 71 #[.pointer (some ⟨d, 0, none⟩)] w fun e w' => e = .returned (.int .i64 0) ∧ Sat w0 I (decr d [] 0 :: L) w' := by
  have H := hid h
  clear h
  go_enter Tryz.func71, Tryz.ntmps71
  go_wp2_with fail
  refine (left_sat H.out).mono ?_; rintro e w1 ⟨rfl, S1⟩
  have HS1 := hid S1
  obtain ⟨s, p, _, _, _, Sb⟩ := S1.isDecr
  have c2 := Sb.isBlk.cell 2 rfl
  clear S1 Sb
  go_wp2_with fail
  go_ret
  exact ⟨rfl, HS1.out⟩
theorem extract_list (s : ByteArray) (p n : Nat) (h : p + n ≤ s.size) : s.extract p (p + n) = ⟨((s.data.toList.drop p).take n).toArray⟩ := by
  apply ByteArray.ext
  rw [ByteArray.data_extract]
  apply Array.toList_inj.1
  rw [Array.toList_extract]
  simp [List.extract]
set_option maxRecDepth 100000 in
set_option maxHeartbeats 4000000 in
theorem decS_sat (most : Int) (h : Sat w0 I (decr d R 0 :: L) w) (hm : most ≤ 9223372036854775807) :
    Calls Tryz.prog 67 #[.pointer (some ⟨d, 0, none⟩), .int .i64 most] w fun e w' => e = .returned (.string ⟨(takeS most R).1.toArray⟩) ∧ Sat w0 I (decr d (takeS most R).2.1 (takeS most R).2.2 :: L) w' := by
  have hts : takeS most R = if (takeI most R).2.2 ≠ 0 then ([], (takeI most R).2.1, (takeI most R).2.2) else if (takeI most R).2.1.length < (takeI most R).1 then ([], (takeI most R).2.1, 2) else ((takeI most R).2.1.take (takeI most R).1, (takeI most R).2.1.drop (takeI most R).1, 0) := rfl
  have hc := decI_sat most h hm
  have hle := takeI_le most R
  obtain ⟨T, hT⟩ : ∃ T, takeI most R = T := ⟨_, rfl⟩
  rw [hT] at hts hc hle
  obtain ⟨n, R2, e2⟩ := T
  simp only at hts hc hle
  have HTS := hid hts
  have HC := hid hc
  have hn : n ≤ 9223372036854775807 := by omega
  clear hts hc hT h hle
  go_enter Tryz.func67, Tryz.ntmps67
  go_wp2_with fail
  refine HC.out.mono ?_; rintro e w1 ⟨rfl, S1⟩
  have HS1 := hid S1
  obtain ⟨s, p, _, _, _, Sb⟩ := S1.isDecr
  have c2 := Sb.isBlk.cell 2 rfl
  clear S1 HC Sb
  by_cases hA : e2 = 0
  case neg =>
    rw [if_pos hA] at HTS
    have hA1 : (e2 == 0) = false := by simp [hA]
    have hA2 : (e2 != 0) = true := by simp [hA]
    clear hA
    go_wp2_with fail
    go_ret
    rw [HTS.out]
    exact ⟨rfl, HS1.out⟩
  case pos =>
    subst hA
    rw [if_neg (by simp)] at HTS
    by_cases hB : R2.length < n
    · rw [if_pos hB] at HTS
      have hB' : (R2.length : Int) < (n : Int) := by omega
      go_wp2_with fail
      refine (left_sat HS1.out).mono ?_; rintro e w2 ⟨rfl, S2⟩
      have HS2 := hid S2
      clear S2 HS1 c2
      go_wp2_with fail
      refine (fail_sat 2 HS2.out).mono ?_; rintro r w3 ⟨rfl, S3⟩
      have HS3 := hid S3
      obtain ⟨s, p, _, _, _, Sb⟩ := S3.isDecr
      have c2 := Sb.isBlk.cell 2 rfl
      clear S3 HS2 Sb
      go_wp2_with fail
      go_ret
      rw [HTS.out]
      exact ⟨rfl, HS3.out⟩
    · rw [if_neg hB] at HTS
      have hB' : ¬ (R2.length : Int) < (n : Int) := by omega
      go_wp2_with fail
      refine (left_sat HS1.out).mono ?_; rintro e w2 ⟨rfl, S2⟩
      obtain ⟨s, p, hp1, hp2, hp3, Sb⟩ := S2.isDecr
      have hsz := decr_size s p hp1 hp2
      have HP1 := hid hp1
      have HSB := hid Sb
      have c2 := Sb.isBlk.cell 2 rfl
      have c1 := Sb.isBlk.cell 1 rfl
      have f1 := Sb.isBlk.frozen 1
      clear S2 HS1 Sb hp1
      have hpn : p + n ≤ s.size := by omega
      have hpn' : ((p : Int) + (n : Int)) ≤ 9223372036854775807 := by omega
      have HSZ := hid hsz
      clear hsz
      go_wp2_with fail
      refine wp_gen (fun w3 => Sat w0 I (blk d 210 [.string s, .int .i64 ((p + n : Nat) : Int), .int .i64 0] :: L) w3) (HSB.out.set 1 _ (by simp)) ?_
      intro w3 S3
      have c0 := S3.isBlk.cell 0 rfl
      have c1 := S3.isBlk.cell 1 rfl
      have HS3 := hid S3
      have hw0 : IntKind.i64.wrap (p : Int) = (p : Int) := by rw [IntKind.wrap_i64]; omega
      have hw1 : IntKind.i64.wrap ((p : Int) + (n : Int) - (n : Int)) = (p : Int) := by rw [IntKind.wrap_i64]; omega
      have hp0 : (0 : Int) ≤ (p : Int) := by omega
      have hpn2 : (p : Int) ≤ (p : Int) + (n : Int) := by omega
      have hpn3 : (p : Int) + (n : Int) ≤ (s.size : Int) := by omega
      have hpn4 : (((p + n : Nat) : Int)).toNat = p + n := by omega
      clear S3
      go_quiet (fail)
      go_wp2_with fail
      go_ret
      have e1 := extract_list s p n hpn
      rw [HP1.out] at e1
      rw [HTS.out, e1]
      refine ⟨rfl, (HS3.out.drewN _).toDecr ?_ hpn hp3⟩
      rw [← HP1.out, List.drop_drop]
end
end Go.Proofs.YtekioplbfoonkaaGreatDoor
namespace Go.Proofs.YtekioplbfoonkaaGreatDoor
open Go.RowKit
set_option linter.unusedVariables false
set_option maxRecDepth 100000

theorem ofNat_toNat (x : Nat) (h : x < 256) : (UInt8.ofNat x).toNat = x := by
  rw [UInt8.toNat_ofNat']; exact Nat.mod_eq_of_lt (by omega)
theorem takeU_hi : ∀ (x : Nat) (rest : List UInt8), x ≤ 144115188075855871 → x ≠ 0 → takeUW (hiR x ++ rest) true 0 = takeUW rest false x := by
  intro x
  induction x using Nat.strongRecOn with
  | ind x ih =>
    intro rest hx h0
    rw [hiR_pos x h0, List.append_assoc, List.singleton_append]
    have hb := ofNat_toNat (x % 128 + 128) (by omega)
    by_cases h1 : x / 128 = 0
    · rw [h1, hiR_zero, List.nil_append, takeUW, if_neg (by rw [hb]; omega), if_neg (by omega), if_neg (by omega), hb]
      congr 1; omega
    · rw [ih (x / 128) (by omega) _ (by omega) h1, takeUW, if_neg (by simp), if_neg (by omega), if_neg (by omega), hb]
      congr 1; omega
theorem takeU_enc (v : Nat) (hv : v < 18446744073709551616) (rest : List UInt8) : takeUW (encU v ++ rest) true 0 = (v, rest, 0) := by
  rw [encU_eq v hv, List.append_assoc, List.singleton_append]
  have hb := ofNat_toNat (v % 128) (by omega)
  by_cases h1 : v / 128 = 0
  · rw [h1, hiR_zero, List.nil_append, takeUW, if_neg (by rw [hb]; omega), if_neg (by omega), if_pos (by omega), hb]
    congr 1; omega
  · rw [takeU_hi _ _ (by omega) h1, takeUW, if_neg (by simp), if_neg (by omega), if_pos (by omega), hb]
    congr 1; omega
theorem takeU_hicut : ∀ (x c : Nat), x ≤ 144115188075855871 → takeUW ((hiR x).take c) true 0 = (0, [], 2) := by
  intro x
  induction x using Nat.strongRecOn with
  | ind x ih =>
    intro c hx
    by_cases h0 : x = 0
    · subst h0; rw [hiR_zero]; simp [takeUW]
    by_cases hc : c ≤ (hiR (x / 128)).length
    · rw [hiR_pos x h0, List.take_append_of_le_length hc]
      exact ih (x / 128) (by omega) c (by omega)
    · rw [List.take_of_length_le (by rw [hiR_pos x h0]; simp; omega)]
      have := takeU_hi x [] hx h0
      rw [List.append_nil] at this
      rw [this, takeUW]
theorem takeU_cut (v c : Nat) (hv : v < 18446744073709551616) (hc : c < (encU v).length) : takeUW ((encU v).take c) true 0 = (0, [], 2) := by
  rw [encU_eq v hv] at hc ⊢
  have : c ≤ (hiR (v / 128)).length := by simpa using (Nat.lt_succ_iff.1 (by simpa using hc))
  rw [List.take_append_of_le_length this]
  exact takeU_hicut _ _ (by omega)
theorem takeI_enc (most : Int) (v : Nat) (hv : v < 18446744073709551616) (rest : List UInt8) (h : v ≤ (max most 0).toNat) : takeI most (encU v ++ rest) = (v, rest, 0) := by
  unfold takeI
  rw [takeU_enc v hv rest, if_neg (by simp; omega)]
theorem takeS_enc (most : Int) (s : ByteArray) (hs : s.size < 18446744073709551616) (rest : List UInt8) (h : s.size ≤ (max most 0).toNat) : takeS most (encS s ++ rest) = (s.data.toList, rest, 0) := by
  have hl : s.data.toList.length = s.size := Array.length_toList
  unfold takeS encS
  rw [List.append_assoc, takeI_enc most s.size hs _ h]
  simp only []
  rw [if_neg (by simp), if_neg (by rw [List.length_append]; omega), List.take_left' hl, List.drop_left' hl]
theorem takeS_cut (s : ByteArray) (hs : s.size ≤ 200) : ∀ c, c < (encS s).length → (takeS 200 ((encS s).take c)).1 = [] ∧ (takeS 200 ((encS s).take c)).2.2 = 2 := by
  intro c hc
  have hl : s.data.toList.length = s.size := Array.length_toList
  unfold encS at hc ⊢
  by_cases h1 : c < (encU s.size).length
  · rw [List.take_append_of_le_length (by omega)]
    unfold takeS takeI
    rw [takeU_cut _ _ (by omega) h1]
    simp
  · rw [List.length_append] at hc
    rw [List.take_append, List.take_of_length_le (by omega)]
    unfold takeS
    rw [takeI_enc 200 s.size (by omega) _ (by omega)]
    simp only []
    rw [if_neg (by simp), if_pos (by rw [List.length_take]; omega)]
    exact ⟨rfl, rfl⟩
end Go.Proofs.YtekioplbfoonkaaGreatDoor
