/- Contracts of the encoder that the top asks, in parts of the memory. -/
import Derived.Test.YtekioplbfoonkaaDoorMg1
import Derived.Test.YtekioplbfoonkaaDoorMg2
namespace Go.Proofs.YtekioplbfoonkaaDoor
open Go.RowKit
set_option linter.unusedVariables false
set_option maxRecDepth 100000

section
variable {w0 w w' : World} {I J : Part} {L M : List HP} {A B : HP}
theorem Part.minus_anti {I J : Part} (h : I.le J) (g : Part) : (g.minus J).le (g.minus I) := fun b o e => by
  refine Part.minus_some (Part.minus_le _ _ b o e) ?_
  have := Part.minus_none e
  cases hx : I b with
  | none => rfl
  | some u => rw [h b u hx] at this; cases this
/-- what was kept for a while may go. -/
theorem Sat.thaw (h : Sat w0 J L w) (k : I.le J) : Sat w0 I L w := ⟨h.os, h.tape, h.output, h.size, Part.le_trans k h.imm, sepL_mono L (Part.minus_anti k _) h.sep⟩
/-- a new block that is only read from now on. -/
theorem Sat.lend (h : Sat w0 I L w) (cs : List Value) (T : TypeId) {vs : Array Value} (hv : cs.toArray = vs) : ∃ J, I.le J ∧ Sat w0 J L (w.alloc (.cells vs T)) ∧ Rd J (some ⟨w.heap.size, 0, none⟩) cs := by
  subst hv; exact (h.alloc rfl rfl).freezeBlk
theorem Rd.dom {a : Option Addr} {vs : List Value} (h : Rd I a vs) (h0 : 0 < vs.length) : ∀ x, a = some x → (I x.block).isSome = true := fun x hx => by
  obtain ⟨b, off, e, hc⟩ := h 0 h0
  rw [hx] at e; cases e
  unfold cellI at hc
  cases hb : I b with
  | none => rw [hb] at hc; cases hc
  | some u => rfl
theorem Sat.domNe (h : Sat w0 I (A :: L) w) : ∃ g : Part, A g ∧ g.le (wpart w) ∧ (∀ b, (I b).isSome = true → g b = none) ∧ Sat w0 I ((fun x => x = g) :: L) w := by
  obtain ⟨g, hg, a, s⟩ := h.sep
  refine ⟨g, a, Part.le_trans hg (Part.minus_le _ _), fun b hb => ?_, ⟨h.os, h.tape, h.output, h.size, h.imm, g, hg, rfl, s⟩⟩
  cases hx : g b with
  | none => rfl
  | some u => rw [Part.minus_none (hg b u hx)] at hb; cases hb
end

/-- block e is an encoder; it has gathered bs. -/
def enc (e : Nat) (bs : List UInt8) : HP := fun g => bs.length ≤ 1048576 ∧ ∃ sv, (∀ k, sv.ownBlock = some k → e < k) ∧ sepL [blk e 46 [sv], row 5 1 sv bs.length (Lib.byteCells bs)] g
section
variable {w0 w w' : World} {I : Part} {L : List HP} {e : Nat} {bs : List UInt8}
theorem Sat.isEnc (h : Sat w0 I (enc e bs :: L) w) : ∃ sv, IsE w e sv bs ∧ (∀ b, (I b).isSome = true → b ≠ e ∧ sv.ownBlock ≠ some b) ∧
    ∀ w' sv' bs', IsE w' e sv' bs' → Mod (EFp e sv) w w' → Moved w sv sv' → Sat w0 I (enc e bs' :: L) w' := by
  obtain ⟨g, ⟨hl, sv, hlt, g1, h1, b1, g2, h2, b2, _⟩, hle, hI, H⟩ := h.domNe
  have e1 : g e = some (.cells #[sv] 46 (0, 0)) := h1 _ _ b1
  have hown : ∀ k, sv.ownBlock = some k → (g k).isSome = true := fun k hk => by
    rcases b2.2 with ⟨rfl, _⟩ | ⟨b, cap, cur, rfl, hb, _⟩
    · cases hk
    · simp only [Value.ownBlock, Option.some.injEq] at hk; subst hk
      rw [Part.minus_le _ _ _ _ (h2 _ _ hb)]; rfl
  refine ⟨sv, ⟨hle _ _ e1, ⟨b2.1, ?_⟩, hl⟩, fun b hb => ⟨fun x => ?_, fun x => ?_⟩, fun w' sv' bs' E' M' V' => ?_⟩
  · rcases b2.2 with hb | ⟨b, cap, cur, hv, hb, r⟩
    · exact Or.inl hb
    · exact Or.inr ⟨b, cap, cur, hv, hlt b (by rw [hv]; rfl), hle _ _ (Part.minus_le _ _ _ _ (h2 _ _ hb)), r⟩
  · have := hI b hb; rw [x, e1] at this; cases this
  · have := hI b hb; have h3 := hown b x; rw [this] at h3; cases h3
  · refine H.change fun g' hg' _ => ⟨EFp e sv, fun b hb _ => ?_, M', fun g3 h3 => ⟨E'.small, sv', fun k hk => E'.row.lt k hk |>.1, ?_⟩⟩
    · subst hg'
      rcases hb with rfl | hb
      · rw [e1]; rfl
      · exact hown b hb
    · subst hg'
      have e3 : g3 e = some (.cells #[sv'] 46 (0, 0)) := by rw [h3 e (Or.inl (by rw [e1]; rfl))]; exact E'.blk
      refine ⟨fun k => if k = e then some (.cells #[sv'] 46 (0, 0)) else none, fun k o hk => ?_, if_pos rfl, g3.minus _, Part.le_refl _, ⟨E'.row.1, ?_⟩, trivial⟩
      · replace hk : (if k = e then some (Obj.cells #[sv'] 46 (0, 0)) else none) = some o := hk
        split at hk
        · rename_i hke; subst hke; cases hk; exact e3
        · cases hk
      · rcases E'.row.2 with hb | ⟨b, cap, cur, hv, hbe, hh, r⟩
        · exact Or.inl hb
        · refine Or.inr ⟨b, cap, cur, hv, Part.minus_some ?_ (if_neg (by omega)), r⟩
          rw [h3 b ?_]
          · exact hh
          · rcases V' b (by rw [hv]; rfl) with h4 | h4
            · exact Or.inl (hown b h4)
            · exact Or.inr h4
theorem Sat.encNew (h : Sat w0 I L w) {b : Nat} (hb : b = w.heap.size) : Sat w0 I (enc b [] :: L) (w.alloc (.cells #[.slice none 0 0] 46)) := by
  subst hb
  have h1 : Sat w0 I (row 5 1 (.slice none 0 0) 0 [] :: blk w.heap.size 46 [.slice none 0 0] :: L) (w.alloc (.cells #[.slice none 0 0] 46)) := (h.alloc rfl rfl).nilRow _ _
  exact Sat.of (M := [_, _]) h1.swap fun g s => ⟨by simp, .slice none 0 0, fun k hk => (by cases hk), s⟩
theorem bytes_sat (h : Sat w0 I (enc e bs :: L) w) : Calls Tryd.prog 12 #[.pointer (some ⟨e, 0, none⟩)] w fun r w' => r = .returned (.string ⟨bs.toArray⟩) ∧ Sat w0 I (enc e bs :: L) w' := by
  obtain ⟨sv, E, hI, K⟩ := h.isEnc
  refine (bytes_any w e sv bs E).mono ?_; rintro r w' ⟨rfl, n, rfl⟩
  exact ⟨rfl, h.drewN n⟩
theorem encU_sat (la : Option Addr) (cap : Nat) (zs : List Int) (h : Sat w0 I (enc e bs :: L) w) (hz : Rd I la (zs.map (Value.int .u64))) (hwf : ∀ z ∈ zs, 0 ≤ z ∧ z ≤ 18446744073709551615)
    (hsm : bs.length + 10 * zs.length ≤ 1048576) (hlen : zs.length ≤ 9223372036854775807) :
    Calls Tryd.prog 11 #[.pointer (some ⟨e, 0, none⟩), .slice la zs.length cap] w
      fun r w' => r = .returned (.pointer (some ⟨e, 0, none⟩)) ∧ Sat w0 I (enc e (bs ++ zs.flatMap fun z => encU z.toNat) :: L) w' := by
  obtain ⟨sv, E, hI, K⟩ := h.isEnc
  refine (encU_any w e sv bs la cap zs E (hz.ints h) hwf (fun h0 x hx => hI _ (hz.dom (by simpa using h0) x hx)) hsm hlen).mono ?_; rintro r w' ⟨rfl, sv', E', M, V⟩
  exact ⟨rfl, K _ _ _ E' M V⟩
theorem Rd.lt {a : Option Addr} {vs : List Value} (hr : Rd I a vs) (h : Sat w0 I L w) (h0 : 0 < vs.length) : ∀ x, a = some x → x.block < w.heap.size := fun x hx => by
  have := hr.dom h0 x hx
  cases hb : I x.block with
  | none => rw [hb] at this; cases this
  | some u => exact wpart_lt (h.imm _ _ hb)
/-- one number. -/
theorem encU1_sat (T : TypeId) (z : Int) {g : Nat} (hg : g = w.heap.size) (h : Sat w0 I (enc e bs :: L) w) (hwf : 0 ≤ z ∧ z ≤ 18446744073709551615) (hsm : bs.length + 10 ≤ 1048576) :
    Calls Tryd.prog 11 #[.pointer (some ⟨e, 0, none⟩), .slice (some ⟨g, 0, none⟩) 1 1] (w.alloc (.cells #[.int .u64 z] T))
      fun r w' => r = .returned (.pointer (some ⟨e, 0, none⟩)) ∧ Sat w0 I (enc e (bs ++ encU z.toNat) :: L) w' := by
  subst hg
  obtain ⟨J, hJ, S, R⟩ := h.lend [.int .u64 z] T rfl
  refine (encU_sat _ 1 [z] S R (by intro y hy; simp at hy; subst hy; exact hwf) (by simpa using hsm) (by simp)).mono ?_
  rintro r w' ⟨rfl, h'⟩
  exact ⟨rfl, by simpa using h'.thaw hJ⟩
end
end Go.Proofs.YtekioplbfoonkaaDoor
