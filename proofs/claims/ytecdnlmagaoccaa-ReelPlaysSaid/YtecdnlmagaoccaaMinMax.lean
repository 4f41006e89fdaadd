/- max and min of two integers, as one operation: the value is Lean's own. -/
import Derived.Test.YtecdnlmagaoccaaOpen
namespace Go.Proofs.Ytecdnlmagaoccaa
open Go.RowKit
set_option linter.unusedVariables false
theorem op_max {P : Program} {o : Oper} {ev : Operand → Value} {x y : Operand} {t u : TypeId} (ho : o.op = .call { callee := .builtin .max, args := #[x, y], argTypes := #[t, u] }) (w : World) {z c : Int} (hx : ev x = .int .i64 z) (hy : ev y = .int .i64 c) :
    (execOp ev o).run P w = .ok (.value (.int .i64 (max z c))) w := by
  by_cases h : z < c
  · have e : max z c = c := by omega
    rw [e]; simp [execOp, ho, resolve, invoke, builtin, hx, hy, go_sem]; omega
  · have e : max z c = z := by omega
    rw [e]; simp [execOp, ho, resolve, invoke, builtin, hx, hy, go_sem]; omega
theorem op_min {P : Program} {o : Oper} {ev : Operand → Value} {x y : Operand} {t u : TypeId} (ho : o.op = .call { callee := .builtin .min, args := #[x, y], argTypes := #[t, u] }) (w : World) {z c : Int} (hx : ev x = .int .i64 z) (hy : ev y = .int .i64 c) :
    (execOp ev o).run P w = .ok (.value (.int .i64 (min z c))) w := by
  by_cases h : z < c
  · have e : min z c = z := by omega
    rw [e]; simp [execOp, ho, resolve, invoke, builtin, hx, hy, go_sem]; omega
  · have e : min z c = c := by omega
    rw [e]; simp [execOp, ho, resolve, invoke, builtin, hx, hy, go_sem]; omega
section
variable {P : Program} {ops : Array Oper} {rest : List Oper} {o : Oper} {a : Act} {w : World} {Q : Exit → Act → World → Prop} {x y : Operand} {t u : TypeId} {z c m : Int}
theorem wpList_max (hgd : o.guard = none) (ho : o.op = .call { callee := .builtin .max, args := #[x, y], argTypes := #[t, u] }) (hx : a.eval x = .int .i64 z) (hy : a.eval y = .int .i64 c) (hm : max z c = m)
    (h : wpList P ops Q rest (a.put o.dst (.int .i64 m)) w) : wpList P ops Q (o :: rest) a w := by
  subst hm
  exact wpList_val hgd _ (op_max ho w hx hy) h
theorem wpList_min (hgd : o.guard = none) (ho : o.op = .call { callee := .builtin .min, args := #[x, y], argTypes := #[t, u] }) (hx : a.eval x = .int .i64 z) (hy : a.eval y = .int .i64 c) (hm : min z c = m)
    (h : wpList P ops Q rest (a.put o.dst (.int .i64 m)) w) : wpList P ops Q (o :: rest) a w := by
  subst hm
  exact wpList_val hgd _ (op_min ho w hx hy) h
end
end Go.Proofs.Ytecdnlmagaoccaa
