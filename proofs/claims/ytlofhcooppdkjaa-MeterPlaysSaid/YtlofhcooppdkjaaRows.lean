/-
  No cell of these rows narrows 'for every input' (looked for: loops, veiled, ifaces, maps, wideKeys, modest, calm, conditions, laid).
  DERIVED. THE GIVEN ROWS OF THIS SEAT. 6 by the template 'for every input the law returns true; each argument reads behind the call as it read before'; 0 by the template 'total and deterministic' (their statements: YtlofhcooppdkjaaTotals.lean).
  GIVEN WITH THE SEED: the statements are not yours to turn. If you find one false, say at which input.
  Laid BY PROGRAM, IN A SANDBOX (cutbox-rows.mjs): the forced cells as the released guide's own fill.sh prints them over the translation 9d853f55eb2eb84a… (all of the seat's roots in one cut). By AI agents, Wed Nov 11 2026. No macro, syntax, notation, axiom, sorry.
-/
import Derived.Test.YtlofhcooppdkjaaChecked
import GoSem.Claim
import GoSem.ClaimJoined
import GoSem.ClaimMapViews
import Derived.JoinedTies
import Derived.KernelRfl
namespace Go.Proofs.Ytlofhcooppdkjaa
/- THE CELL 'sum', in the pinned program and in every row, IS THE sha256 OF THE DUMP (.gsa) THAT YtlofhcooppdkjaaProg.lean LOADS. Nothing in Lean hashes anything: it is a label: what it is worth is what the hold of that sum in a sandbox is worth. -/
noncomputable def Try.pinned : Pinned := { name := "ytlofhcooppdkjaa", sum := "9d853f55eb2eb84aa7a4044c7fbb32ee8e72e92a7be71efa573b7308b0c75d26", checked := Try.checked }
namespace Rows
def none {H : Type} : Left H := { results := [], args := [] }

/-- 'glacierlaw03.MeterFail': WHATEVER THE INPUT: true; the input reads as it did. -/
def meterFailSpec : ChangeSpec := { name := "meterFail", fn := fun _ => fun
  | [d] => { results := [.lit (.bool true)], args := [d] }
  | _ => none }
def meterFailRow : OpenClaim := { program := "ytlofhcooppdkjaa", sum := "9d853f55eb2eb84aa7a4044c7fbb32ee8e72e92a7be71efa573b7308b0c75d26", func := "glacier/glacierlaw03.MeterFail", spec := "meterFail", apart := false }
def MeterFailSaid : Prop := meterFailRow.holds Try.pinned (OpenSpec.ofChange meterFailSpec)

/-- ITS FALSE NEIGHBOUR: 'it returns false'. Refute it at one input. -/
def meterFailWrong : ChangeSpec := { name := "meterFail", fn := fun _ => fun
  | [d] => { results := [.lit (.bool false)], args := [d] }
  | _ => none }
def MeterFailWrongFalsely : Prop := meterFailRow.holds Try.pinned (OpenSpec.ofChange meterFailWrong)

/-- 'glacierlaw03.MeterRoom': WHATEVER THE INPUT: true; the input reads as it did. -/
def meterRoomSpec : ChangeSpec := { name := "meterRoom", fn := fun _ => fun
  | [d1, d2] => { results := [.lit (.bool true)], args := [d1, d2] }
  | _ => none }
def meterRoomRow : OpenClaim := { program := "ytlofhcooppdkjaa", sum := "9d853f55eb2eb84aa7a4044c7fbb32ee8e72e92a7be71efa573b7308b0c75d26", func := "glacier/glacierlaw03.MeterRoom", spec := "meterRoom", apart := false }
def MeterRoomSaid : Prop := meterRoomRow.holds Try.pinned (OpenSpec.ofChange meterRoomSpec)

/-- ITS FALSE NEIGHBOUR: 'it returns false'. Refute it at one input. -/
def meterRoomWrong : ChangeSpec := { name := "meterRoom", fn := fun _ => fun
  | [d1, d2] => { results := [.lit (.bool false)], args := [d1, d2] }
  | _ => none }
def MeterRoomWrongFalsely : Prop := meterRoomRow.holds Try.pinned (OpenSpec.ofChange meterRoomWrong)

/-- 'glacierlaw03.MeterLost': WHATEVER THE INPUT: true; the input reads as it did. -/
def meterLostSpec : ChangeSpec := { name := "meterLost", fn := fun _ => fun
  | [d] => { results := [.lit (.bool true)], args := [d] }
  | _ => none }
def meterLostRow : OpenClaim := { program := "ytlofhcooppdkjaa", sum := "9d853f55eb2eb84aa7a4044c7fbb32ee8e72e92a7be71efa573b7308b0c75d26", func := "glacier/glacierlaw03.MeterLost", spec := "meterLost", apart := false }
def MeterLostSaid : Prop := meterLostRow.holds Try.pinned (OpenSpec.ofChange meterLostSpec)

/-- ITS FALSE NEIGHBOUR: 'it returns false'. Refute it at one input. -/
def meterLostWrong : ChangeSpec := { name := "meterLost", fn := fun _ => fun
  | [d] => { results := [.lit (.bool false)], args := [d] }
  | _ => none }
def MeterLostWrongFalsely : Prop := meterLostRow.holds Try.pinned (OpenSpec.ofChange meterLostWrong)

/-- 'glacierlaw03.MeterSum': WHATEVER THE INPUT: true; the input reads as it did. -/
def meterSumSpec : ChangeSpec := { name := "meterSum", fn := fun _ => fun
  | [d] => { results := [.lit (.bool true)], args := [d] }
  | _ => none }
def meterSumRow : OpenClaim := { program := "ytlofhcooppdkjaa", sum := "9d853f55eb2eb84aa7a4044c7fbb32ee8e72e92a7be71efa573b7308b0c75d26", func := "glacier/glacierlaw03.MeterSum", spec := "meterSum", apart := false }
def MeterSumSaid : Prop := meterSumRow.holds Try.pinned (OpenSpec.ofChange meterSumSpec)

/-- ITS FALSE NEIGHBOUR: 'it returns false'. Refute it at one input. -/
def meterSumWrong : ChangeSpec := { name := "meterSum", fn := fun _ => fun
  | [d] => { results := [.lit (.bool false)], args := [d] }
  | _ => none }
def MeterSumWrongFalsely : Prop := meterSumRow.holds Try.pinned (OpenSpec.ofChange meterSumWrong)

/-- 'glacierlaw03.MeterPlays': WHATEVER THE INPUT: true; the input reads as it did. -/
def meterPlaysSpec : ChangeSpec := { name := "meterPlays", fn := fun _ => fun
  | [d1, d2] => { results := [.lit (.bool true)], args := [d1, d2] }
  | _ => none }
def meterPlaysRow : OpenClaim := { program := "ytlofhcooppdkjaa", sum := "9d853f55eb2eb84aa7a4044c7fbb32ee8e72e92a7be71efa573b7308b0c75d26", func := "glacier/glacierlaw03.MeterPlays", spec := "meterPlays", apart := false }
def MeterPlaysSaid : Prop := meterPlaysRow.holds Try.pinned (OpenSpec.ofChange meterPlaysSpec)

/-- ITS FALSE NEIGHBOUR: 'it returns false'. Refute it at one input. -/
def meterPlaysWrong : ChangeSpec := { name := "meterPlays", fn := fun _ => fun
  | [d1, d2] => { results := [.lit (.bool false)], args := [d1, d2] }
  | _ => none }
def MeterPlaysWrongFalsely : Prop := meterPlaysRow.holds Try.pinned (OpenSpec.ofChange meterPlaysWrong)

/-- 'glacierlaw03.MeterPicks': WHATEVER THE INPUT: true; the input reads as it did. -/
def meterPicksSpec : ChangeSpec := { name := "meterPicks", fn := fun _ => fun
  | [d1, d2, d3] => { results := [.lit (.bool true)], args := [d1, d2, d3] }
  | _ => none }
def meterPicksRow : OpenClaim := { program := "ytlofhcooppdkjaa", sum := "9d853f55eb2eb84aa7a4044c7fbb32ee8e72e92a7be71efa573b7308b0c75d26", func := "glacier/glacierlaw03.MeterPicks", spec := "meterPicks", apart := false }
def MeterPicksSaid : Prop := meterPicksRow.holds Try.pinned (OpenSpec.ofChange meterPicksSpec)

/-- ITS FALSE NEIGHBOUR: 'it returns false'. Refute it at one input. -/
def meterPicksWrong : ChangeSpec := { name := "meterPicks", fn := fun _ => fun
  | [d1, d2, d3] => { results := [.lit (.bool false)], args := [d1, d2, d3] }
  | _ => none }
def MeterPicksWrongFalsely : Prop := meterPicksRow.holds Try.pinned (OpenSpec.ofChange meterPicksWrong)

/- THE SECOND FORM. 'bulk': how many values and letters a reading holds, each counted each time it is reached (what is shared counts as often as it is met; a slice's spare places count too). A statement '..UptoSaid' is the law's where the arguments, and the package variables that the reading takes, are together of bulk at most 1048576: NARROWER than '..Said'. Prove '..Said' where nothing that the law and all that it calls make is longer than what came in: it says more and counts as full. Else prove '..UptoSaid'. A law counts once. -/
mutual
def uptoBulk {H : Type} : DataW H → Nat
  | .lit (.string bytes) => bytes.length + 1
  | .lit _ => 1
  | .nil => 1
  | .ptr d => uptoBulk d + 1
  | .slice elems spare => uptoBulkAll elems + uptoBulkAll spare + 1
  | .agg parts => uptoBulkAll parts + 1
  | .iface _ d => uptoBulk d + 1
  | .map entries => uptoBulkEntries entries + 1
  | .held _ => 1
def uptoBulkAll {H : Type} : List (DataW H) → Nat
  | [] => 0
  | d :: r => uptoBulk d + uptoBulkAll r
def uptoBulkEntries {H : Type} : List (Lit × DataW H) → Nat
  | [] => 0
  | x :: r => uptoBulkEntry x + uptoBulkEntries r
def uptoBulkEntry {H : Type} : Lit × DataW H → Nat
  | (.string bytes, d) => bytes.length + uptoBulk d + 1
  | (_, d) => uptoBulk d + 1
 end
def uptoSmall : (H : Type) → List (DataW H) → Bool := fun _ ds => decide (uptoBulkAll ds ≤ 1048576)
def OpenSpec.upto (s : _root_.Go.ChangeSpec) : _root_.Go.OpenSpec := { _root_.Go.OpenSpec.ofChange s with cond := some uptoSmall }

/-- 'glacierlaw03.MeterFail', WHERE WHAT IT READS IS OF BULK AT MOST 1048576: true; the input reads as it did. -/
def meterFailUptoRow : OpenClaim := { program := "ytlofhcooppdkjaa", sum := "9d853f55eb2eb84aa7a4044c7fbb32ee8e72e92a7be71efa573b7308b0c75d26", func := "glacier/glacierlaw03.MeterFail", spec := "meterFail", apart := false, narrowed := true }
def MeterFailUptoSaid : Prop := meterFailUptoRow.holds Try.pinned (OpenSpec.upto meterFailSpec)

/-- 'glacierlaw03.MeterRoom', WHERE WHAT IT READS IS OF BULK AT MOST 1048576: true; the input reads as it did. -/
def meterRoomUptoRow : OpenClaim := { program := "ytlofhcooppdkjaa", sum := "9d853f55eb2eb84aa7a4044c7fbb32ee8e72e92a7be71efa573b7308b0c75d26", func := "glacier/glacierlaw03.MeterRoom", spec := "meterRoom", apart := false, narrowed := true }
def MeterRoomUptoSaid : Prop := meterRoomUptoRow.holds Try.pinned (OpenSpec.upto meterRoomSpec)

/-- 'glacierlaw03.MeterLost', WHERE WHAT IT READS IS OF BULK AT MOST 1048576: true; the input reads as it did. -/
def meterLostUptoRow : OpenClaim := { program := "ytlofhcooppdkjaa", sum := "9d853f55eb2eb84aa7a4044c7fbb32ee8e72e92a7be71efa573b7308b0c75d26", func := "glacier/glacierlaw03.MeterLost", spec := "meterLost", apart := false, narrowed := true }
def MeterLostUptoSaid : Prop := meterLostUptoRow.holds Try.pinned (OpenSpec.upto meterLostSpec)

/-- 'glacierlaw03.MeterSum', WHERE WHAT IT READS IS OF BULK AT MOST 1048576: true; the input reads as it did. -/
def meterSumUptoRow : OpenClaim := { program := "ytlofhcooppdkjaa", sum := "9d853f55eb2eb84aa7a4044c7fbb32ee8e72e92a7be71efa573b7308b0c75d26", func := "glacier/glacierlaw03.MeterSum", spec := "meterSum", apart := false, narrowed := true }
def MeterSumUptoSaid : Prop := meterSumUptoRow.holds Try.pinned (OpenSpec.upto meterSumSpec)

/-- 'glacierlaw03.MeterPlays', WHERE WHAT IT READS IS OF BULK AT MOST 1048576: true; the input reads as it did. -/
def meterPlaysUptoRow : OpenClaim := { program := "ytlofhcooppdkjaa", sum := "9d853f55eb2eb84aa7a4044c7fbb32ee8e72e92a7be71efa573b7308b0c75d26", func := "glacier/glacierlaw03.MeterPlays", spec := "meterPlays", apart := false, narrowed := true }
def MeterPlaysUptoSaid : Prop := meterPlaysUptoRow.holds Try.pinned (OpenSpec.upto meterPlaysSpec)

/-- 'glacierlaw03.MeterPicks', WHERE WHAT IT READS IS OF BULK AT MOST 1048576: true; the input reads as it did. -/
def meterPicksUptoRow : OpenClaim := { program := "ytlofhcooppdkjaa", sum := "9d853f55eb2eb84aa7a4044c7fbb32ee8e72e92a7be71efa573b7308b0c75d26", func := "glacier/glacierlaw03.MeterPicks", spec := "meterPicks", apart := false, narrowed := true }
def MeterPicksUptoSaid : Prop := meterPicksUptoRow.holds Try.pinned (OpenSpec.upto meterPicksSpec)

end Rows
end Go.Proofs.Ytlofhcooppdkjaa
