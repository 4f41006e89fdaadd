/- Contracts of the queue, in parts of the memory; and that the document chooses alike. -/
import Derived.Test.YtecdcainkemicaaQRef2
import Derived.OwnWalk
namespace Go.Proofs.Ytecdcainkemicaa
open Go.RowKit
set_option linter.unusedVariables false

section
variable {w0 w w' : World} {I J : Part} {L M : List HP} {A B : HP}
theorem Part.minus_anti {I J : Part} (h : I.le J) (g : Part) : (g.minus J).le (g.minus I) := fun b o e => by
  refine Part.minus_some (Part.minus_le _ _ b o e) ?_
  have := Part.minus_none e
  cases hx : I b with
  | none => rfl
  | some u => rw [h b u hx] at this; cases this
/-- what was kept for a while may go. -/
theorem Sat.thaw (h : Sat w0 J L w) (k : I.le J) : Sat w0 I L w := ⟨h.os, h.tape, h.output, h.size, Part.le_trans k h.imm, sepL_mono L (Part.minus_anti k _) h.sep⟩
theorem Sat.domNe (h : Sat w0 I (A :: L) w) : ∃ g : Part, A g ∧ g.le (wpart w) ∧ (∀ b, (I b).isSome = true → g b = none) ∧ Sat w0 I ((fun x => x = g) :: L) w := by
  obtain ⟨g, hg, a, s⟩ := h.sep
  refine ⟨g, a, Part.le_trans hg (Part.minus_le _ _), fun b hb => ?_, ⟨h.os, h.tape, h.output, h.size, h.imm, g, hg, rfl, s⟩⟩
  cases hx : g b with
  | none => rfl
  | some u => rw [Part.minus_none (hg b u hx)] at hb; cases hb
end
/-- block q is a queue; its requests are l. -/
def que (q : Nat) (l : List Wt) : HP := fun g => l.length ≤ 1048576 ∧ ∃ sv, (∀ k, sv.ownBlock = some k → q < k) ∧ sepL [blk q 30 [sv], row 56 5 sv l.length (l.flatMap wc)] g
section
variable {w0 w w' : World} {I : Part} {L : List HP} {q : Nat} {l : List Wt}
theorem Sat.isQue (h : Sat w0 I (que q l :: L) w) : ∃ sv, IsQ w q sv l ∧
    ∀ w' sv' l', IsQ w' q sv' l' → Mod (QFp q sv) w w' → Moved w sv sv' → Sat w0 I (que q l' :: L) w' := by
  obtain ⟨g, ⟨hl, sv, hlt, g1, h1, b1, g2, h2, b2, _⟩, hle, hI, H⟩ := h.domNe
  have e1 : g q = some (.cells #[sv] 30 (0, 0)) := h1 _ _ b1
  have hown : ∀ k, sv.ownBlock = some k → (g k).isSome = true := fun k hk => by
    rcases b2.2 with ⟨rfl, _⟩ | ⟨b, cap, cur, rfl, hb, _⟩
    · cases hk
    · simp only [Value.ownBlock, Option.some.injEq] at hk; subst hk
      rw [Part.minus_le _ _ _ _ (h2 _ _ hb)]; rfl
  refine ⟨sv, ⟨hle _ _ e1, ⟨b2.1, ?_⟩, hl⟩, fun w' sv' bs' E' M' V' => ?_⟩
  · rcases b2.2 with hb | ⟨b, cap, cur, hv, hb, r⟩
    · exact Or.inl hb
    · exact Or.inr ⟨b, cap, cur, hv, hlt b (by rw [hv]; rfl), hle _ _ (Part.minus_le _ _ _ _ (h2 _ _ hb)), r⟩
  · refine H.change fun g' hg' _ => ⟨QFp q sv, fun b hb _ => ?_, M', fun g3 h3 => ⟨E'.small, sv', fun k hk => E'.row.lt k hk |>.1, ?_⟩⟩
    · subst hg'
      rcases hb with rfl | hb
      · rw [e1]; rfl
      · exact hown b hb
    · subst hg'
      have e3 : g3 q = some (.cells #[sv'] 30 (0, 0)) := by rw [h3 q (Or.inl (by rw [e1]; rfl))]; exact E'.blk
      refine ⟨fun k => if k = q then some (.cells #[sv'] 30 (0, 0)) else none, fun k o hk => ?_, if_pos rfl, g3.minus _, Part.le_refl _, ⟨E'.row.1, ?_⟩, trivial⟩
      · replace hk : (if k = q then some (Obj.cells #[sv'] 30 (0, 0)) else none) = some o := hk
        split at hk
        · rename_i hke; subst hke; cases hk; exact e3
        · cases hk
      · rcases E'.row.2 with hb | ⟨b, cap, cur, hv, hbe, hh, r⟩
        · exact Or.inl hb
        · refine Or.inr ⟨b, cap, cur, hv, Part.minus_some ?_ (if_neg (by omega)), r⟩
          rw [h3 b ?_]
          · exact hh
          · rcases V' b (by rw [hv]; rfl) with h4 | h4
            · exact Or.inl (hown b h4)
            · exact Or.inr h4
theorem Sat.queNew (h : Sat w0 I L w) {b : Nat} (hb : b = w.heap.size) : Sat w0 I (que b [] :: L) (w.alloc (.cells #[.slice none 0 0] 30)) := by
  subst hb
  have h1 : Sat w0 I (row 56 5 (.slice none 0 0) 0 [] :: blk w.heap.size 30 [.slice none 0 0] :: L) (w.alloc (.cells #[.slice none 0 0] 30)) := (h.alloc rfl rfl).nilRow _ _
  exact Sat.of (M := [_, _]) h1.swap fun g s => ⟨by simp, .slice none 0 0, fun k hk => (by cases hk), s⟩
theorem qawake_sat (h : Sat w0 I L w) : Calls Try.prog 7 #[] w fun r w' => r = .returned (.bool true) ∧ Sat w0 I L w' := retB_sat (awake_any w) h
theorem qlen_sat (h : Sat w0 I (que q l :: L) w) : Calls Try.prog 10 #[.pointer (some ⟨q, 0, none⟩)] w fun r w' => r = .returned (.int .i64 l.length) ∧ Sat w0 I (que q l :: L) w' := by
  obtain ⟨sv, Q, _⟩ := h.isQue
  exact ret_sat (qlen_any w q sv l Q) h
theorem qadd_no (id blob vol at_ : Int) (h : Sat w0 I (que q l :: L) w) (hf : 0 ≤ findF id l 0) :
    Calls Try.prog 9 #[.pointer (some ⟨q, 0, none⟩), .agg #[.int .i64 id, .int .u64 blob, .int .i64 vol, .int .i64 at_]] w fun r w' => r = .returned (.bool false) ∧ Sat w0 I (que q l :: L) w' := by
  obtain ⟨sv, Q, _⟩ := h.isQue
  exact retB_sat (add_no w q sv l id blob vol at_ Q hf) h
theorem qadd_yes (id blob vol at_ : Int) (h : Sat w0 I (que q l :: L) w) (hf : findF id l 0 < 0) (hl : l.length < 1048576) :
    Calls Try.prog 9 #[.pointer (some ⟨q, 0, none⟩), .agg #[.int .i64 id, .int .u64 blob, .int .i64 vol, .int .i64 at_]] w fun r w' => r = .returned (.bool true) ∧ Sat w0 I (que q (l ++ [⟨id, blob, vol, at_, 0⟩]) :: L) w' := by
  obtain ⟨sv, Q, K⟩ := h.isQue
  refine (add_yes w q sv l id blob vol at_ Q hf hl).mono ?_; rintro r w' ⟨rfl, sv', Q', M, V⟩
  exact ⟨rfl, K _ _ _ Q' M V⟩
theorem qdrop_no (id : Int) (h : Sat w0 I (que q l :: L) w) (hf : findF id l 0 < 0) :
    Calls Try.prog 12 #[.pointer (some ⟨q, 0, none⟩), .int .i64 id] w fun r w' => r = .returned (.bool false) ∧ Sat w0 I (que q l :: L) w' := by
  obtain ⟨sv, Q, _⟩ := h.isQue
  exact retB_sat (drop_no w q sv l id Q hf) h
theorem qdrop_yes (id : Int) (i : Nat) (h : Sat w0 I (que q l :: L) w) (hf : findF id l 0 = i) :
    Calls Try.prog 12 #[.pointer (some ⟨q, 0, none⟩), .int .i64 id] w fun r w' => r = .returned (.bool true) ∧ Sat w0 I (que q (l.eraseIdx i) :: L) w' := by
  obtain ⟨sv, Q, K⟩ := h.isQue
  refine (drop_yes w q sv l id i Q hf).mono ?_; rintro r w' ⟨rfl, sv', Q', M, V⟩
  exact ⟨rfl, K _ _ _ Q' M V⟩
theorem qnext_none (vol at_ : Int) (h : Sat w0 I (que q [] :: L) w) :
    Calls Try.prog 11 #[.pointer (some ⟨q, 0, none⟩), .int .i64 vol, .int .i64 at_] w fun r w' => r = .returned (.tuple #[.agg #[.int .i64 0, .int .u64 0, .int .i64 0, .int .i64 0], .bool false]) ∧ Sat w0 I (que q [] :: L) w' := by
  obtain ⟨sv, Q, _⟩ := h.isQue
  exact retB_sat (next_none w q sv vol at_ Q) h
end
/-- the document chooses alike. -/
theorem chooseR_eq (x0 : Wt) (r : List Wt) (vol at_ : Int) (hat : 0 ≤ at_ ∧ at_ ≤ 1000000000) (h : ∀ y ∈ x0 :: r, 0 ≤ y.vol ∧ y.vol ≤ 11 ∧ 0 ≤ y.at_ ∧ y.at_ ≤ 1000000000) : chooseR x0 (x0 :: r) vol at_ = chooseF x0 (x0 :: r) vol at_ := by
  have e1 : vol ≠ -1 → leastF vol at_ 2000000000 (x0 :: r) = lowF vol at_ true (x0 :: r) 0 (-1) 0 := fun hv => by
    unfold leastF
    rw [lowF_eq]
    refine lowG_congr _ _ _ _ fun y hy => ?_
    have := h y hy
    unfold skipL skipB
    rw [Bool.eq_iff_iff]
    simp
    omega
  have e3 : leastF x0.vol 0 2000000000 (x0 :: r) = lowF x0.vol 0 false (x0 :: r) 0 (-1) 0 := by
    unfold leastF
    rw [lowF_eq]
    refine lowG_congr _ _ _ _ fun y hy => ?_
    have := h y hy
    unfold skipL skipB
    rw [Bool.eq_iff_iff]
    simp
    omega
  have em : ∀ f t, leastF (-1) f t (x0 :: r) = -1 := fun f t => by
    unfold leastF
    have : ∀ (l : List Wt) (k : Nat), (∀ y ∈ l, 0 ≤ y.vol) → lowG (skipL (-1) f t) l k (-1) 0 = -1 := by
      intro l
      induction l with
      | nil => intro k _; rfl
      | cons y l ih =>
        intro k hk
        rw [lowG, if_pos (by have := hk y (by simp); simp [skipL]; omega)]
        exact ih _ (fun z hz => hk z (by simp [hz]))
    exact this _ _ (fun y hy => (h y hy).1)
  unfold chooseR chooseF
  by_cases h8 : 8 ≤ x0.passed
  · rw [if_pos h8, if_pos h8]
  rw [if_neg h8, if_neg h8]
  by_cases hv : vol = -1
  · subst hv
    rw [em, em, if_neg (by omega), if_neg (by omega), if_neg (by simp), if_neg (by simp), e3]
  · rw [e1 hv]
    by_cases h1 : 0 ≤ lowF vol at_ true (x0 :: r) 0 (-1) 0
    · rw [if_pos h1, if_pos ⟨hv, h1⟩]
    · rw [if_neg h1, if_neg (fun hx : vol ≠ -1 ∧ 0 ≤ lowF vol at_ true (x0 :: r) 0 (-1) 0 => h1 hx.2)]
      have e2 : leastF vol 0 at_ (x0 :: r) = lowF vol 0 false (x0 :: r) 0 (-1) 0 := by
        unfold leastF
        rw [lowF_eq]
        refine lowG_congr _ _ _ _ fun y hy => ?_
        have hy2 := h y hy
        have hno : skipB vol at_ true y = true := by
          by_cases hs : skipB vol at_ true y = true
          · exact hs
          · exact absurd (lowF_some vol at_ true y (x0 :: r) 0 (-1) 0 hy (by simpa using hs) (by omega)) h1
        unfold skipB at hno
        unfold skipL skipB
        rw [Bool.eq_iff_iff]
        simp at hno ⊢
        omega
      rw [e2, e3]
      by_cases h2 : 0 ≤ lowF vol 0 false (x0 :: r) 0 (-1) 0
      · rw [if_pos h2, if_pos ⟨hv, h2⟩]
      · rw [if_neg h2, if_neg (fun hx : vol ≠ -1 ∧ 0 ≤ lowF vol 0 false (x0 :: r) 0 (-1) 0 => h2 hx.2)]
end Go.Proofs.Ytecdcainkemicaa
