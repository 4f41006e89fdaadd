/- Volumes: Write, Mark, Seek, Read, Skip. -/
import Derived.Test.YtekioplbfoonkaaDoorReelA
namespace Go.Proofs.YtekioplbfoonkaaDoor
open Go.RowKit
set_option linter.unusedVariables false
set_option maxRecDepth 100000
set_option maxHeartbeats 2000000
section
variable {w0 w : World} {I : Part} {L : List HP} {p : Nat} {v : Vst}
theorem vwrite (s : ByteArray) (hv : v.ok) (hb : (s.size : Int) + 4 ≤ 9223372036854775807) (hn : v.bl.length < 1048576) {E : Int} {V : Vst} (hA : addS v ⟨s, false, false⟩ = (E, V)) (H : Sat w0 I (volp p v :: L) w) :
    Calls Tryd.prog 10 #[.pointer (some ⟨p, 0, none⟩), .string s] w fun e w' => e = .returned (.int .i64 E) ∧ Sat w0 I (volp p V :: L) w' := by
  have HS := hid H
  clear H
  go_enter Tryd.func10, Tryd.ntmps10
  go_wp2_with fail
  refine (vadd ⟨s, false, false⟩ hv hb hn hA HS.out).mono ?_; rintro e w1 ⟨rfl, H1⟩
  have HS := hid H1
  clear H1
  go_wp2_with fail
  go_ret
  exact ⟨rfl, HS.out⟩
def seekS (v : Vst) (n : Int) : Int × Vst :=
  if tryE v.lost v.armed = 0 then
    if n < 0 then (1, tryV v) else
    if (v.bl.length : Int) < n then (1, tryV v) else (0, {tryV v with at_ := n.toNat})
  else (tryE v.lost v.armed, tryV v)
def readS (v : Vst) : (ByteArray × Bool × Int) × Vst :=
  if tryE v.lost v.armed = 0 then
    if h : v.at_ < v.bl.length then
      if v.bl[v.at_].torn = true then ((⟨#[]⟩, false, 4), tryV v) else ((v.bl[v.at_].s, v.bl[v.at_].mark, 0), {tryV v with at_ := v.at_ + 1})
    else ((⟨#[]⟩, false, 2), tryV v)
  else ((⟨#[]⟩, false, tryE v.lost v.armed), tryV v)
end
end Go.Proofs.YtekioplbfoonkaaDoor
