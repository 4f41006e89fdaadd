/- Volumes: Write, Mark, Seek, Read, Skip. -/
import Derived.Test.YtcogjlfdhiomnaaReelA
namespace Go.Proofs.Ytcogjlfdhiomnaa
open Go.RowKit
set_option linter.unusedVariables false
set_option maxHeartbeats 2000000
section
variable {w0 w : World} {I : Part} {L : List HP} {p : Nat} {v : Vst}
def seekS (v : Vst) (n : Int) : Int × Vst :=
  if tryE v.lost v.armed = 0 then
    if n < 0 then (1, tryV v) else
    if (v.bl.length : Int) < n then (1, tryV v) else (0, {tryV v with at_ := n.toNat})
  else (tryE v.lost v.armed, tryV v)
def readS (v : Vst) : (ByteArray × Bool × Int) × Vst :=
  if tryE v.lost v.armed = 0 then
    if h : v.at_ < v.bl.length then
      if v.bl[v.at_].torn = true then ((⟨#[]⟩, false, 4), tryV v) else ((v.bl[v.at_].s, v.bl[v.at_].mark, 0), {tryV v with at_ := v.at_ + 1})
    else ((⟨#[]⟩, false, 2), tryV v)
  else ((⟨#[]⟩, false, tryE v.lost v.armed), tryV v)
end
end Go.Proofs.Ytcogjlfdhiomnaa
