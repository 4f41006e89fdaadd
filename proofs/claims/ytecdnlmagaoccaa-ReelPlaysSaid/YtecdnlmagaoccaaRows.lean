/-
  No cell of these rows narrows 'for every input' (looked for: loops, veiled, ifaces, maps, wideKeys, modest, calm, conditions, laid).
  DERIVED. THE GIVEN ROWS OF THIS SEAT. 6 by the template 'for every input the law returns true; each argument reads behind the call as it read before'; 0 by the template 'total and deterministic' (their statements: YtecdnlmagaoccaaTotals.lean).
  GIVEN WITH THE SEED: the statements are not yours to turn. If you find one false, say at which input.
  Laid BY PROGRAM, IN A SANDBOX (cutbox-rows.mjs): the forced cells as the released guide's own fill.sh prints them over the translation df230226a9a55b30… (all of the seat's roots in one cut). By AI agents, Wed Nov 11 2026. No macro, syntax, notation, axiom, sorry.
-/
import Derived.Test.YtecdnlmagaoccaaChecked
import GoSem.Claim
import GoSem.ClaimJoined
import GoSem.ClaimMapViews
import Derived.JoinedTies
import Derived.KernelRfl
namespace Go.Proofs.Ytecdnlmagaoccaa
/- THE CELL 'sum', in the pinned program and in every row, IS THE sha256 OF THE DUMP (.gsa) THAT YtecdnlmagaoccaaProg.lean LOADS. Nothing in Lean hashes anything: it is a label: what it is worth is what the hold of that sum in a sandbox is worth. -/
noncomputable def Try.pinned : Pinned := { name := "ytecdnlmagaoccaa", sum := "df230226a9a55b307671c693a876bc740c57f3c40b3d102632317b84963cc126", checked := Try.checked }
namespace Rows
def none {H : Type} : Left H := { results := [], args := [] }

/-- 'glacierlaw05.ReelRoom': WHATEVER THE INPUT: true; the input reads as it did. -/
def reelRoomSpec : ChangeSpec := { name := "reelRoom", fn := fun _ => fun
  | [d1, d2] => { results := [.lit (.bool true)], args := [d1, d2] }
  | _ => none }
def reelRoomRow : OpenClaim := { program := "ytecdnlmagaoccaa", sum := "df230226a9a55b307671c693a876bc740c57f3c40b3d102632317b84963cc126", func := "glacier/glacierlaw05.ReelRoom", spec := "reelRoom", apart := false }
def ReelRoomSaid : Prop := reelRoomRow.holds Try.pinned (OpenSpec.ofChange reelRoomSpec)

/-- ITS FALSE NEIGHBOUR: 'it returns false'. Refute it at one input. -/
def reelRoomWrong : ChangeSpec := { name := "reelRoom", fn := fun _ => fun
  | [d1, d2] => { results := [.lit (.bool false)], args := [d1, d2] }
  | _ => none }
def ReelRoomWrongFalsely : Prop := reelRoomRow.holds Try.pinned (OpenSpec.ofChange reelRoomWrong)

/-- 'glacierlaw05.ReelEnd': WHATEVER THE INPUT: true; the input reads as it did. -/
def reelEndSpec : ChangeSpec := { name := "reelEnd", fn := fun _ => fun
  | [d1, d2, d3] => { results := [.lit (.bool true)], args := [d1, d2, d3] }
  | _ => none }
def reelEndRow : OpenClaim := { program := "ytecdnlmagaoccaa", sum := "df230226a9a55b307671c693a876bc740c57f3c40b3d102632317b84963cc126", func := "glacier/glacierlaw05.ReelEnd", spec := "reelEnd", apart := false }
def ReelEndSaid : Prop := reelEndRow.holds Try.pinned (OpenSpec.ofChange reelEndSpec)

/-- ITS FALSE NEIGHBOUR: 'it returns false'. Refute it at one input. -/
def reelEndWrong : ChangeSpec := { name := "reelEnd", fn := fun _ => fun
  | [d1, d2, d3] => { results := [.lit (.bool false)], args := [d1, d2, d3] }
  | _ => none }
def ReelEndWrongFalsely : Prop := reelEndRow.holds Try.pinned (OpenSpec.ofChange reelEndWrong)

/-- 'glacierlaw05.ReelTorn': WHATEVER THE INPUT: true; the input reads as it did. -/
def reelTornSpec : ChangeSpec := { name := "reelTorn", fn := fun _ => fun
  | [d1, d2, d3, d4] => { results := [.lit (.bool true)], args := [d1, d2, d3, d4] }
  | _ => none }
def reelTornRow : OpenClaim := { program := "ytecdnlmagaoccaa", sum := "df230226a9a55b307671c693a876bc740c57f3c40b3d102632317b84963cc126", func := "glacier/glacierlaw05.ReelTorn", spec := "reelTorn", apart := false }
def ReelTornSaid : Prop := reelTornRow.holds Try.pinned (OpenSpec.ofChange reelTornSpec)

/-- ITS FALSE NEIGHBOUR: 'it returns false'. Refute it at one input. -/
def reelTornWrong : ChangeSpec := { name := "reelTorn", fn := fun _ => fun
  | [d1, d2, d3, d4] => { results := [.lit (.bool false)], args := [d1, d2, d3, d4] }
  | _ => none }
def ReelTornWrongFalsely : Prop := reelTornRow.holds Try.pinned (OpenSpec.ofChange reelTornWrong)

/-- 'glacierlaw05.ReelMarks': WHATEVER THE INPUT: true; the input reads as it did. -/
def reelMarksSpec : ChangeSpec := { name := "reelMarks", fn := fun _ => fun
  | [d] => { results := [.lit (.bool true)], args := [d] }
  | _ => none }
def reelMarksRow : OpenClaim := { program := "ytecdnlmagaoccaa", sum := "df230226a9a55b307671c693a876bc740c57f3c40b3d102632317b84963cc126", func := "glacier/glacierlaw05.ReelMarks", spec := "reelMarks", apart := false }
def ReelMarksSaid : Prop := reelMarksRow.holds Try.pinned (OpenSpec.ofChange reelMarksSpec)

/-- ITS FALSE NEIGHBOUR: 'it returns false'. Refute it at one input. -/
def reelMarksWrong : ChangeSpec := { name := "reelMarks", fn := fun _ => fun
  | [d] => { results := [.lit (.bool false)], args := [d] }
  | _ => none }
def ReelMarksWrongFalsely : Prop := reelMarksRow.holds Try.pinned (OpenSpec.ofChange reelMarksWrong)

/-- 'glacierlaw05.ReelStays': WHATEVER THE INPUT: true; the input reads as it did. -/
def reelStaysSpec : ChangeSpec := { name := "reelStays", fn := fun _ => fun
  | [d1, d2] => { results := [.lit (.bool true)], args := [d1, d2] }
  | _ => none }
def reelStaysRow : OpenClaim := { program := "ytecdnlmagaoccaa", sum := "df230226a9a55b307671c693a876bc740c57f3c40b3d102632317b84963cc126", func := "glacier/glacierlaw05.ReelStays", spec := "reelStays", apart := false }
def ReelStaysSaid : Prop := reelStaysRow.holds Try.pinned (OpenSpec.ofChange reelStaysSpec)

/-- ITS FALSE NEIGHBOUR: 'it returns false'. Refute it at one input. -/
def reelStaysWrong : ChangeSpec := { name := "reelStays", fn := fun _ => fun
  | [d1, d2] => { results := [.lit (.bool false)], args := [d1, d2] }
  | _ => none }
def ReelStaysWrongFalsely : Prop := reelStaysRow.holds Try.pinned (OpenSpec.ofChange reelStaysWrong)

/-- 'glacierlaw05.ReelPlays': WHATEVER THE INPUT: true; the input reads as it did. -/
def reelPlaysSpec : ChangeSpec := { name := "reelPlays", fn := fun _ => fun
  | [d1, d2] => { results := [.lit (.bool true)], args := [d1, d2] }
  | _ => none }
def reelPlaysRow : OpenClaim := { program := "ytecdnlmagaoccaa", sum := "df230226a9a55b307671c693a876bc740c57f3c40b3d102632317b84963cc126", func := "glacier/glacierlaw05.ReelPlays", spec := "reelPlays", apart := false }
def ReelPlaysSaid : Prop := reelPlaysRow.holds Try.pinned (OpenSpec.ofChange reelPlaysSpec)

/-- ITS FALSE NEIGHBOUR: 'it returns false'. Refute it at one input. -/
def reelPlaysWrong : ChangeSpec := { name := "reelPlays", fn := fun _ => fun
  | [d1, d2] => { results := [.lit (.bool false)], args := [d1, d2] }
  | _ => none }
def ReelPlaysWrongFalsely : Prop := reelPlaysRow.holds Try.pinned (OpenSpec.ofChange reelPlaysWrong)

/- THE SECOND FORM. 'bulk': how many values and letters a reading holds, each counted each time it is reached (what is shared counts as often as it is met; a slice's spare places count too). A statement '..UptoSaid' is the law's where the arguments, and the package variables that the reading takes, are together of bulk at most 1048576: NARROWER than '..Said'. Prove '..Said' where nothing that the law and all that it calls make is longer than what came in: it says more and counts as full. Else prove '..UptoSaid'. A law counts once. -/
mutual
def uptoBulk {H : Type} : DataW H → Nat
  | .lit (.string bytes) => bytes.length + 1
  | .lit _ => 1
  | .nil => 1
  | .ptr d => uptoBulk d + 1
  | .slice elems spare => uptoBulkAll elems + uptoBulkAll spare + 1
  | .agg parts => uptoBulkAll parts + 1
  | .iface _ d => uptoBulk d + 1
  | .map entries => uptoBulkEntries entries + 1
  | .held _ => 1
def uptoBulkAll {H : Type} : List (DataW H) → Nat
  | [] => 0
  | d :: r => uptoBulk d + uptoBulkAll r
def uptoBulkEntries {H : Type} : List (Lit × DataW H) → Nat
  | [] => 0
  | x :: r => uptoBulkEntry x + uptoBulkEntries r
def uptoBulkEntry {H : Type} : Lit × DataW H → Nat
  | (.string bytes, d) => bytes.length + uptoBulk d + 1
  | (_, d) => uptoBulk d + 1
 end
def uptoSmall : (H : Type) → List (DataW H) → Bool := fun _ ds => decide (uptoBulkAll ds ≤ 1048576)
def OpenSpec.upto (s : _root_.Go.ChangeSpec) : _root_.Go.OpenSpec := { _root_.Go.OpenSpec.ofChange s with cond := some uptoSmall }

/-- 'glacierlaw05.ReelRoom', WHERE WHAT IT READS IS OF BULK AT MOST 1048576: true; the input reads as it did. -/
def reelRoomUptoRow : OpenClaim := { program := "ytecdnlmagaoccaa", sum := "df230226a9a55b307671c693a876bc740c57f3c40b3d102632317b84963cc126", func := "glacier/glacierlaw05.ReelRoom", spec := "reelRoom", apart := false, narrowed := true }
def ReelRoomUptoSaid : Prop := reelRoomUptoRow.holds Try.pinned (OpenSpec.upto reelRoomSpec)

/-- 'glacierlaw05.ReelEnd', WHERE WHAT IT READS IS OF BULK AT MOST 1048576: true; the input reads as it did. -/
def reelEndUptoRow : OpenClaim := { program := "ytecdnlmagaoccaa", sum := "df230226a9a55b307671c693a876bc740c57f3c40b3d102632317b84963cc126", func := "glacier/glacierlaw05.ReelEnd", spec := "reelEnd", apart := false, narrowed := true }
def ReelEndUptoSaid : Prop := reelEndUptoRow.holds Try.pinned (OpenSpec.upto reelEndSpec)

/-- 'glacierlaw05.ReelTorn', WHERE WHAT IT READS IS OF BULK AT MOST 1048576: true; the input reads as it did. -/
def reelTornUptoRow : OpenClaim := { program := "ytecdnlmagaoccaa", sum := "df230226a9a55b307671c693a876bc740c57f3c40b3d102632317b84963cc126", func := "glacier/glacierlaw05.ReelTorn", spec := "reelTorn", apart := false, narrowed := true }
def ReelTornUptoSaid : Prop := reelTornUptoRow.holds Try.pinned (OpenSpec.upto reelTornSpec)

/-- 'glacierlaw05.ReelMarks', WHERE WHAT IT READS IS OF BULK AT MOST 1048576: true; the input reads as it did. -/
def reelMarksUptoRow : OpenClaim := { program := "ytecdnlmagaoccaa", sum := "df230226a9a55b307671c693a876bc740c57f3c40b3d102632317b84963cc126", func := "glacier/glacierlaw05.ReelMarks", spec := "reelMarks", apart := false, narrowed := true }
def ReelMarksUptoSaid : Prop := reelMarksUptoRow.holds Try.pinned (OpenSpec.upto reelMarksSpec)

/-- 'glacierlaw05.ReelStays', WHERE WHAT IT READS IS OF BULK AT MOST 1048576: true; the input reads as it did. -/
def reelStaysUptoRow : OpenClaim := { program := "ytecdnlmagaoccaa", sum := "df230226a9a55b307671c693a876bc740c57f3c40b3d102632317b84963cc126", func := "glacier/glacierlaw05.ReelStays", spec := "reelStays", apart := false, narrowed := true }
def ReelStaysUptoSaid : Prop := reelStaysUptoRow.holds Try.pinned (OpenSpec.upto reelStaysSpec)

/-- 'glacierlaw05.ReelPlays', WHERE WHAT IT READS IS OF BULK AT MOST 1048576: true; the input reads as it did. -/
def reelPlaysUptoRow : OpenClaim := { program := "ytecdnlmagaoccaa", sum := "df230226a9a55b307671c693a876bc740c57f3c40b3d102632317b84963cc126", func := "glacier/glacierlaw05.ReelPlays", spec := "reelPlays", apart := false, narrowed := true }
def ReelPlaysUptoSaid : Prop := reelPlaysUptoRow.holds Try.pinned (OpenSpec.upto reelPlaysSpec)

end Rows
end Go.Proofs.Ytecdnlmagaoccaa
