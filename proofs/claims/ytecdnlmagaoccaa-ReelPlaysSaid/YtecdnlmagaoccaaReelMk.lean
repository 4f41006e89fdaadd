/- Where a volume's marks end, and what Skip finds: plain laws. -/
import Derived.Test.YtecdnlmagaoccaaReelPv
namespace Go.Proofs.Ytecdnlmagaoccaa
set_option linter.unusedVariables false
def mkE : List Bk → Nat → List Nat
  | [], _ => []
  | b :: l, o => if b.mark = true then (o + 1) :: mkE l (o + 1) else mkE l (o + 1)
theorem mkE_snoc (b : Bk) : ∀ (l : List Bk) (o : Nat), mkE (l ++ [b]) o = mkE l o ++ (if b.mark = true then [o + l.length + 1] else [])
  | [], o => by simp [mkE]
  | a :: l, o => by
    have h := mkE_snoc b l (o + 1)
    simp only [List.cons_append, mkE, h, List.length_cons]
    have e : o + 1 + l.length + 1 = o + (l.length + 1) + 1 := by omega
    rw [e]
    split <;> simp
theorem mk_none : ∀ (n : Nat) (l : List Bk) (a : Nat), l.length - a = n → mkE (l.drop a) a = [] → findMark l a = none
  | 0, l, a, h, _ => findMark_none l a (by omega)
  | n + 1, l, a, h, hm => by
    have hlt : a < l.length := by omega
    rw [List.drop_eq_getElem_cons hlt, mkE] at hm
    rw [findMark_at l a hlt]
    split at hm
    · cases hm
    · rename_i hn
      rw [if_neg hn]
      exact mk_none n l (a + 1) (by omega) hm
theorem mk_some : ∀ (n : Nat) (l : List Bk) (a e : Nat) (r : List Nat), l.length - a = n → mkE (l.drop a) a = e :: r → ∃ j, e = j + 1 ∧ findMark l a = some j ∧ mkE (l.drop e) e = r ∧ e ≤ l.length
  | 0, l, a, e, r, h, hm => by
    rw [List.drop_eq_nil_of_le (by omega)] at hm; cases hm
  | n + 1, l, a, e, r, h, hm => by
    have hlt : a < l.length := by omega
    rw [List.drop_eq_getElem_cons hlt, mkE] at hm
    rw [findMark_at l a hlt]
    split at hm
    · rename_i hy
      cases hm
      rw [if_pos hy]
      exact ⟨a, rfl, rfl, rfl, by omega⟩
    · rename_i hn
      rw [if_neg hn]
      exact mk_some n l (a + 1) e r (by omega) hm
theorem pv_skip {room : Int} {bl : List Bk} {sure a j : Nat} (h : findMark bl a = some j) : skipS (pv room bl sure a) = (0, pv room bl sure (j + 1)) := by
  simp [skipS, pv, tryV, tryE, tryA, h]
theorem pv_skipNo {room : Int} {bl : List Bk} {sure a : Nat} (h : findMark bl a = none) : skipS (pv room bl sure a) = (2, pv room bl sure a) := by
  simp [skipS, pv, tryV, tryE, tryA, h]
end Go.Proofs.Ytecdnlmagaoccaa
