/- The queue, in parts of the memory: Add, Next, Len. -/
import Derived.Test.YtekioplbfoonkaaGreatDoorMg5
import Derived.Test.YtekioplbfoonkaaGreatDoorMg4
import Derived.OwnWalk
namespace Go.Proofs.YtekioplbfoonkaaGreatDoor
open Go.RowKit
set_option linter.unusedVariables false
set_option maxRecDepth 100000
/-- block q is a queue; its requests are l. -/
def que (q : Nat) (l : List Wt) : HP := fun g => l.length ≤ 1048576 ∧ ∃ sv, (∀ k, sv.ownBlock = some k → q < k) ∧ sepL [blk q 29 [sv], row 107 5 sv l.length (l.flatMap wc)] g
section
variable {w0 w w' : World} {I : Part} {L : List HP} {q : Nat} {l : List Wt}
theorem Sat.isQue (h : Sat w0 I (que q l :: L) w) : ∃ sv, IsQ w q sv l ∧
    ∀ w' sv' l', IsQ w' q sv' l' → Mod (QFp q sv) w w' → Moved w sv sv' → Sat w0 I (que q l' :: L) w' := by
  obtain ⟨g, ⟨hl, sv, hlt, g1, h1, b1, g2, h2, b2, _⟩, hle, hI, H⟩ := h.domNe
  have e1 : g q = some (.cells #[sv] 29 (0, 0)) := h1 _ _ b1
  have hown : ∀ k, sv.ownBlock = some k → (g k).isSome = true := fun k hk => by
    rcases b2.2 with ⟨rfl, _⟩ | ⟨b, cap, cur, rfl, hb, _⟩
    · cases hk
    · simp only [Value.ownBlock, Option.some.injEq] at hk; subst hk
      rw [Part.minus_le _ _ _ _ (h2 _ _ hb)]; rfl
  refine ⟨sv, ⟨hle _ _ e1, ⟨b2.1, ?_⟩, hl⟩, fun w' sv' bs' E' M' V' => ?_⟩
  · rcases b2.2 with hb | ⟨b, cap, cur, hv, hb, r⟩
    · exact Or.inl hb
    · exact Or.inr ⟨b, cap, cur, hv, hlt b (by rw [hv]; rfl), hle _ _ (Part.minus_le _ _ _ _ (h2 _ _ hb)), r⟩
  · refine H.change fun g' hg' _ => ⟨QFp q sv, fun b hb _ => ?_, M', fun g3 h3 => ⟨E'.small, sv', fun k hk => E'.row.lt k hk |>.1, ?_⟩⟩
    · subst hg'
      rcases hb with rfl | hb
      · rw [e1]; rfl
      · exact hown b hb
    · subst hg'
      have e3 : g3 q = some (.cells #[sv'] 29 (0, 0)) := by rw [h3 q (Or.inl (by rw [e1]; rfl))]; exact E'.blk
      refine ⟨fun k => if k = q then some (.cells #[sv'] 29 (0, 0)) else none, fun k o hk => ?_, if_pos rfl, g3.minus _, Part.le_refl _, ⟨E'.row.1, ?_⟩, trivial⟩
      · replace hk : (if k = q then some (Obj.cells #[sv'] 29 (0, 0)) else none) = some o := hk
        split at hk
        · rename_i hke; subst hke; cases hk; exact e3
        · cases hk
      · rcases E'.row.2 with hb | ⟨b, cap, cur, hv, hbe, hh, r⟩
        · exact Or.inl hb
        · refine Or.inr ⟨b, cap, cur, hv, Part.minus_some ?_ (if_neg (by omega)), r⟩
          rw [h3 b ?_]
          · exact hh
          · rcases V' b (by rw [hv]; rfl) with h4 | h4
            · exact Or.inl (hown b h4)
            · exact Or.inr h4
theorem Sat.queNew (h : Sat w0 I L w) {b : Nat} (hb : b = w.heap.size) : Sat w0 I (que b [] :: L) (w.alloc (.cells #[.slice none 0 0] 29)) := by
  subst hb
  have h1 : Sat w0 I (row 107 5 (.slice none 0 0) 0 [] :: blk w.heap.size 29 [.slice none 0 0] :: L) (w.alloc (.cells #[.slice none 0 0] 29)) := (h.alloc rfl rfl).nilRow _ _
  exact Sat.of (M := [_, _]) h1.swap fun g s => ⟨by simp, .slice none 0 0, fun k hk => (by cases hk), s⟩
theorem qlen_sat (h : Sat w0 I (que q l :: L) w) : Calls Tryz.prog 17 #[.pointer (some ⟨q, 0, none⟩)] w fun r w' => r = .returned (.int .i64 l.length) ∧ Sat w0 I (que q l :: L) w' := by
  obtain ⟨sv, Q, _⟩ := h.isQue
  exact ret_sat (qlen_any w q sv l Q) h
theorem qadd_no (id blob vol at_ : Int) (h : Sat w0 I (que q l :: L) w) (hf : 0 ≤ findF id l 0) :
    Calls Tryz.prog 10 #[.pointer (some ⟨q, 0, none⟩), .agg #[.int .i64 id, .int .u64 blob, .int .i64 vol, .int .i64 at_]] w fun r w' => r = .returned (.bool false) ∧ Sat w0 I (que q l :: L) w' := by
  obtain ⟨sv, Q, _⟩ := h.isQue
  exact retB_sat (add_no w q sv l id blob vol at_ Q hf) h
theorem qadd_yes (id blob vol at_ : Int) (h : Sat w0 I (que q l :: L) w) (hf : findF id l 0 < 0) (hl : l.length < 1048576) :
    Calls Tryz.prog 10 #[.pointer (some ⟨q, 0, none⟩), .agg #[.int .i64 id, .int .u64 blob, .int .i64 vol, .int .i64 at_]] w fun r w' => r = .returned (.bool true) ∧ Sat w0 I (que q (l ++ [⟨id, blob, vol, at_, 0⟩]) :: L) w' := by
  obtain ⟨sv, Q, K⟩ := h.isQue
  refine (add_yes w q sv l id blob vol at_ Q hf hl).mono ?_; rintro r w' ⟨rfl, sv', Q', M, V⟩
  exact ⟨rfl, K _ _ _ Q' M V⟩
theorem qnext_some (x0 : Wt) (r : List Wt) (vol at_ : Int) (i : Nat) (x : Wt) (h : Sat w0 I (que q (x0 :: r) :: L) w) (hi : chooseF x0 (x0 :: r) vol at_ = i) (hx : (x0 :: r)[i]? = some x)
    (hp : ∀ y ∈ x0 :: r, 0 ≤ y.passed ∧ y.passed ≤ 4611686018427387903) :
    Calls Tryz.prog 13 #[.pointer (some ⟨q, 0, none⟩), .int .i64 vol, .int .i64 at_] w
      fun e w' => e = .returned (.tuple #[.agg #[.int .i64 x.id, .int .u64 x.blob, .int .i64 x.vol, .int .i64 x.at_], .bool true]) ∧ Sat w0 I (que q ((bump i (x0 :: r)).eraseIdx i) :: L) w' := by
  obtain ⟨sv, Q, K⟩ := h.isQue
  refine (next_one w q sv x0 r vol at_ i x Q hi hx hp).mono ?_; rintro r w' ⟨rfl, sv', Q', M, V⟩
  exact ⟨rfl, K _ _ _ Q' M V⟩
end
end Go.Proofs.YtekioplbfoonkaaGreatDoor
