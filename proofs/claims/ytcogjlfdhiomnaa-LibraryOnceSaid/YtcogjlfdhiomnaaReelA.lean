/- Volumes: add, Write, Mark, Seek, Read, Skip. -/
import Derived.Test.YtcogjlfdhiomnaaReel
namespace Go.Proofs.Ytcogjlfdhiomnaa
open Go.RowKit
set_option linter.unusedVariables false
set_option maxHeartbeats 2000000
section
variable {w0 w : World} {I : Part} {L : List HP} {p : Nat} {v : Vst}
theorem vtake {cs : List Value} (r u n : Int) (h0 : cs[0]? = some (.int .i64 r)) (h1 : cs[1]? = some (.int .i64 u)) (hu : 0 ≤ u) (hur : u ≤ r) (hr : r ≤ 9223372036854775807) (H : Sat w0 I (blk p 54 cs :: L) w) :
    Calls Try.prog 25 #[.pointer (some ⟨p, 0, none⟩), .int .i64 n] w fun e w' => e = .returned (.int .i64 (takeE r u n)) ∧ Sat w0 I (blk p 54 (cs.set 1 (.int .i64 (takeU r u n))) :: L) w' := by
  refine (take_any w p 0 r u n (H.isBlk.cell 0 h0) (H.isBlk.cell 1 h1) (H.isBlk.frozen 1) hu hur hr).mono ?_
  rintro e w' ⟨rfl, m, rfl⟩
  exact ⟨rfl, Sat.drewN (H.set 1 _ rfl) m⟩
theorem vtake_vol {sv : Value} {n E U : Int} (hv : v.ok) (hE : takeE v.room (wsum v.bl) n = E) (hU : takeU v.room (wsum v.bl) n = U) (H : Sat w0 I (blk p 54 ((tryV v).cells sv) :: L) w) :
    Calls Try.prog 25 #[.pointer (some ⟨p, 0, none⟩), .int .i64 n] w fun e w' => e = .returned (.int .i64 E) ∧ Sat w0 I (blk p 54 [.int .i64 v.room, .int .i64 U, .bool v.lost, .int .i64 (tryV v).armed, .string v.label, sv, .int .i64 v.sure, .int .i64 v.at_, .int .i64 v.erased, .bool v.prot] :: L) w' := by
  subst hE hU
  exact vtake (cs := (tryV v).cells sv) v.room (wsum v.bl) n rfl rfl (by omega) hv.used hv.room H
theorem vtorn_eq {T : Bool} (hT : tornL v.bl = T) (H : Sat w0 I (volp p v :: L) w) :
    Calls Try.prog 28 #[.pointer (some ⟨p, 0, none⟩)] w fun e w' => e = .returned (.bool T) ∧ ∃ m, w' = w.drewN m := hT ▸ vtorn H
def addS (v : Vst) (b : Bk) : Int × Vst :=
  if tryE v.lost v.armed = 0 then
    if v.prot = true then (15, tryV v) else
    if v.at_ = v.bl.length then
      if tornL v.bl = true then (16, tryV v) else
      if (bwt b : Int) ≤ v.room - wsum v.bl then (0, {tryV v with bl := v.bl ++ [b], at_ := v.bl.length + 1}) else (7, tryV v)
    else (16, tryV v)
  else (tryE v.lost v.armed, tryV v)
end
end Go.Proofs.Ytcogjlfdhiomnaa
