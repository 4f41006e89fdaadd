/-
  NARROWER THAN 'FOR EVERY INPUT', by the rows' own cells (each row's printed sentence says how): TapefmtWeight: laid · TapefmtSpoilt: laid · TapefmtBack: laid · TapefmtOther: laid · TapefmtTorn: laid · LibraryErased: laid · LibraryBlobs: laid.
  DERIVED. THE GIVEN ROWS OF THIS SEAT. 7 by the template 'for every input the law returns true; each argument reads behind the call as it read before'; 0 by the template 'total and deterministic' (their statements: YtcogjlfdhiomnaaDoorTotals.lean).
  GIVEN WITH THE SEED: the statements are not yours to turn. If you find one false, say at which input.
  Laid BY PROGRAM, IN A SANDBOX (cutbox-rows.mjs): the forced cells as the released guide's own fill.sh prints them over the translation 95661d378c53f5fb… (all of the seat's roots in one cut). By AI agents, Wed Nov 11 2026. No macro, syntax, notation, axiom, sorry.
-/
import Derived.Test.YtcogjlfdhiomnaaDoorChecked
import GoSem.Claim
import GoSem.ClaimJoined
import GoSem.ClaimMapViews
import Derived.JoinedTies
import Derived.KernelRfl
namespace Go.Proofs.YtcogjlfdhiomnaaDoor
/- THE CELL 'sum', in the pinned program and in every row, IS THE sha256 OF THE DUMP (.gsa) THAT YtcogjlfdhiomnaaDoorProg.lean LOADS. Nothing in Lean hashes anything: it is a label: what it is worth is what the hold of that sum in a sandbox is worth. -/
noncomputable def Tryd.pinned : Pinned := { name := "ytcogjlfdhiomnaadoor", sum := "95661d378c53f5fb8344ce509f7c8b0cd88256904cbc27618bb7198bb684a24c", checked := Tryd.checked }
namespace Rows
def none {H : Type} : Left H := { results := [], args := [] }

/- WHAT THE LISTED PACKAGE-LEVEL VARIABLES READ AS WHEN THE CALL BEGINS. Each datum BY PROGRAM (the guide's laid-datum.mjs) off the statement by which the dump's own 'gosem.cut.vars' lays the variable. In a bare row this is a premise. The card (YtcogjlfdhiomnaaDoorCards.lean) ties it to the program's text. -/
def laid_glacier_seal_steps {H : Type} : DataW H := .agg [.lit (.int .u32 0), .lit (.int .u32 498536548), .lit (.int .u32 997073096), .lit (.int .u32 651767980), .lit (.int .u32 1994146192), .lit (.int .u32 1802195444), .lit (.int .u32 1303535960), .lit (.int .u32 1342533948), .lit (.int .u32 3988292384), .lit (.int .u32 4027552580), .lit (.int .u32 3604390888), .lit (.int .u32 3412177804), .lit (.int .u32 2607071920), .lit (.int .u32 2262029012), .lit (.int .u32 2685067896), .lit (.int .u32 3183342108)]

/-- 'glacierlaw07.TapefmtWeight': WHATEVER THE INPUT: true; the input reads as it did. -/
def tapefmtWeightSpec : ChangeSpec := { name := "tapefmtWeight", fn := fun _ => fun
  | [d1, d2] => { results := [.lit (.bool true)], args := [d1, d2] }
  | _ => none }
def tapefmtWeightRow : OpenClaim := { program := "ytcogjlfdhiomnaadoor", sum := "95661d378c53f5fb8344ce509f7c8b0cd88256904cbc27618bb7198bb684a24c", func := "glacier/glacierlaw07.TapefmtWeight", spec := "tapefmtWeight", inPlace := ["internal/abi.NoEscape", "internal/bytealg.MakeNoZero"], named := ["glacier/seal.steps"], apart := false, laid := [("glacier/seal.steps", laid_glacier_seal_steps)] }
def TapefmtWeightSaid : Prop := tapefmtWeightRow.holds Tryd.pinned (OpenSpec.ofChange tapefmtWeightSpec)

/-- ITS FALSE NEIGHBOUR: 'it returns false'. Refute it at one input. -/
def tapefmtWeightWrong : ChangeSpec := { name := "tapefmtWeight", fn := fun _ => fun
  | [d1, d2] => { results := [.lit (.bool false)], args := [d1, d2] }
  | _ => none }
def TapefmtWeightWrongFalsely : Prop := tapefmtWeightRow.holds Tryd.pinned (OpenSpec.ofChange tapefmtWeightWrong)

/-- 'glacierlaw07.TapefmtSpoilt': WHATEVER THE INPUT: true; the input reads as it did. -/
def tapefmtSpoiltSpec : ChangeSpec := { name := "tapefmtSpoilt", fn := fun _ => fun
  | [d1, d2, d3, d4] => { results := [.lit (.bool true)], args := [d1, d2, d3, d4] }
  | _ => none }
def tapefmtSpoiltRow : OpenClaim := { program := "ytcogjlfdhiomnaadoor", sum := "95661d378c53f5fb8344ce509f7c8b0cd88256904cbc27618bb7198bb684a24c", func := "glacier/glacierlaw07.TapefmtSpoilt", spec := "tapefmtSpoilt", inPlace := ["internal/abi.NoEscape", "internal/bytealg.MakeNoZero"], named := ["glacier/seal.steps"], apart := false, laid := [("glacier/seal.steps", laid_glacier_seal_steps)] }
def TapefmtSpoiltSaid : Prop := tapefmtSpoiltRow.holds Tryd.pinned (OpenSpec.ofChange tapefmtSpoiltSpec)

/-- ITS FALSE NEIGHBOUR: 'it returns false'. Refute it at one input. -/
def tapefmtSpoiltWrong : ChangeSpec := { name := "tapefmtSpoilt", fn := fun _ => fun
  | [d1, d2, d3, d4] => { results := [.lit (.bool false)], args := [d1, d2, d3, d4] }
  | _ => none }
def TapefmtSpoiltWrongFalsely : Prop := tapefmtSpoiltRow.holds Tryd.pinned (OpenSpec.ofChange tapefmtSpoiltWrong)

/-- 'glacierlaw07.TapefmtBack': WHATEVER THE INPUT: true; the input reads as it did. -/
def tapefmtBackSpec : ChangeSpec := { name := "tapefmtBack", fn := fun _ => fun
  | [d] => { results := [.lit (.bool true)], args := [d] }
  | _ => none }
def tapefmtBackRow : OpenClaim := { program := "ytcogjlfdhiomnaadoor", sum := "95661d378c53f5fb8344ce509f7c8b0cd88256904cbc27618bb7198bb684a24c", func := "glacier/glacierlaw07.TapefmtBack", spec := "tapefmtBack", inPlace := ["internal/abi.NoEscape", "internal/bytealg.MakeNoZero"], named := ["glacier/seal.steps"], apart := false, laid := [("glacier/seal.steps", laid_glacier_seal_steps)] }
def TapefmtBackSaid : Prop := tapefmtBackRow.holds Tryd.pinned (OpenSpec.ofChange tapefmtBackSpec)

/-- ITS FALSE NEIGHBOUR: 'it returns false'. Refute it at one input. -/
def tapefmtBackWrong : ChangeSpec := { name := "tapefmtBack", fn := fun _ => fun
  | [d] => { results := [.lit (.bool false)], args := [d] }
  | _ => none }
def TapefmtBackWrongFalsely : Prop := tapefmtBackRow.holds Tryd.pinned (OpenSpec.ofChange tapefmtBackWrong)

/-- 'glacierlaw07.TapefmtOther': WHATEVER THE INPUT: true; the input reads as it did. -/
def tapefmtOtherSpec : ChangeSpec := { name := "tapefmtOther", fn := fun _ => fun
  | [d1, d2, d3, d4] => { results := [.lit (.bool true)], args := [d1, d2, d3, d4] }
  | _ => none }
def tapefmtOtherRow : OpenClaim := { program := "ytcogjlfdhiomnaadoor", sum := "95661d378c53f5fb8344ce509f7c8b0cd88256904cbc27618bb7198bb684a24c", func := "glacier/glacierlaw07.TapefmtOther", spec := "tapefmtOther", inPlace := ["internal/abi.NoEscape", "internal/bytealg.MakeNoZero"], named := ["glacier/seal.steps"], apart := false, laid := [("glacier/seal.steps", laid_glacier_seal_steps)] }
def TapefmtOtherSaid : Prop := tapefmtOtherRow.holds Tryd.pinned (OpenSpec.ofChange tapefmtOtherSpec)

/-- ITS FALSE NEIGHBOUR: 'it returns false'. Refute it at one input. -/
def tapefmtOtherWrong : ChangeSpec := { name := "tapefmtOther", fn := fun _ => fun
  | [d1, d2, d3, d4] => { results := [.lit (.bool false)], args := [d1, d2, d3, d4] }
  | _ => none }
def TapefmtOtherWrongFalsely : Prop := tapefmtOtherRow.holds Tryd.pinned (OpenSpec.ofChange tapefmtOtherWrong)

/-- 'glacierlaw07.TapefmtTorn': WHATEVER THE INPUT: true; the input reads as it did. -/
def tapefmtTornSpec : ChangeSpec := { name := "tapefmtTorn", fn := fun _ => fun
  | [d1, d2, d3, d4] => { results := [.lit (.bool true)], args := [d1, d2, d3, d4] }
  | _ => none }
def tapefmtTornRow : OpenClaim := { program := "ytcogjlfdhiomnaadoor", sum := "95661d378c53f5fb8344ce509f7c8b0cd88256904cbc27618bb7198bb684a24c", func := "glacier/glacierlaw07.TapefmtTorn", spec := "tapefmtTorn", inPlace := ["internal/abi.NoEscape", "internal/bytealg.MakeNoZero"], named := ["glacier/seal.steps"], apart := false, laid := [("glacier/seal.steps", laid_glacier_seal_steps)] }
def TapefmtTornSaid : Prop := tapefmtTornRow.holds Tryd.pinned (OpenSpec.ofChange tapefmtTornSpec)

/-- ITS FALSE NEIGHBOUR: 'it returns false'. Refute it at one input. -/
def tapefmtTornWrong : ChangeSpec := { name := "tapefmtTorn", fn := fun _ => fun
  | [d1, d2, d3, d4] => { results := [.lit (.bool false)], args := [d1, d2, d3, d4] }
  | _ => none }
def TapefmtTornWrongFalsely : Prop := tapefmtTornRow.holds Tryd.pinned (OpenSpec.ofChange tapefmtTornWrong)

/-- 'glacierlaw08.LibraryErased': WHATEVER THE INPUT: true; the input reads as it did. -/
def libraryErasedSpec : ChangeSpec := { name := "libraryErased", fn := fun _ => fun
  | [d1, d2] => { results := [.lit (.bool true)], args := [d1, d2] }
  | _ => none }
def libraryErasedRow : OpenClaim := { program := "ytcogjlfdhiomnaadoor", sum := "95661d378c53f5fb8344ce509f7c8b0cd88256904cbc27618bb7198bb684a24c", func := "glacier/glacierlaw08.LibraryErased", spec := "libraryErased", inPlace := ["internal/abi.NoEscape", "internal/bytealg.MakeNoZero"], unfollowed := true, recurses := true, named := ["glacier/seal.steps"], apart := false, laid := [("glacier/seal.steps", laid_glacier_seal_steps)] }
def LibraryErasedSaid : Prop := libraryErasedRow.holds Tryd.pinned (OpenSpec.ofChange libraryErasedSpec)

/-- ITS FALSE NEIGHBOUR: 'it returns false'. Refute it at one input. -/
def libraryErasedWrong : ChangeSpec := { name := "libraryErased", fn := fun _ => fun
  | [d1, d2] => { results := [.lit (.bool false)], args := [d1, d2] }
  | _ => none }
def LibraryErasedWrongFalsely : Prop := libraryErasedRow.holds Tryd.pinned (OpenSpec.ofChange libraryErasedWrong)

/-- 'glacierlaw08.LibraryBlobs': WHATEVER THE INPUT: true; the input reads as it did. -/
def libraryBlobsSpec : ChangeSpec := { name := "libraryBlobs", fn := fun _ => fun
  | [d1, d2, d3] => { results := [.lit (.bool true)], args := [d1, d2, d3] }
  | _ => none }
def libraryBlobsRow : OpenClaim := { program := "ytcogjlfdhiomnaadoor", sum := "95661d378c53f5fb8344ce509f7c8b0cd88256904cbc27618bb7198bb684a24c", func := "glacier/glacierlaw08.LibraryBlobs", spec := "libraryBlobs", inPlace := ["internal/abi.NoEscape", "internal/bytealg.MakeNoZero"], unfollowed := true, recurses := true, named := ["glacier/seal.steps"], apart := false, laid := [("glacier/seal.steps", laid_glacier_seal_steps)] }
def LibraryBlobsSaid : Prop := libraryBlobsRow.holds Tryd.pinned (OpenSpec.ofChange libraryBlobsSpec)

/-- ITS FALSE NEIGHBOUR: 'it returns false'. Refute it at one input. -/
def libraryBlobsWrong : ChangeSpec := { name := "libraryBlobs", fn := fun _ => fun
  | [d1, d2, d3] => { results := [.lit (.bool false)], args := [d1, d2, d3] }
  | _ => none }
def LibraryBlobsWrongFalsely : Prop := libraryBlobsRow.holds Tryd.pinned (OpenSpec.ofChange libraryBlobsWrong)

/- THE SECOND FORM. 'bulk': how many values and letters a reading holds, each counted each time it is reached (what is shared counts as often as it is met; a slice's spare places count too). A statement '..UptoSaid' is the law's where the arguments, and the package variables that the reading takes, are together of bulk at most 1048576: NARROWER than '..Said'. Prove '..Said' where nothing that the law and all that it calls make is longer than what came in: it says more and counts as full. Else prove '..UptoSaid'. A law counts once. -/
mutual
def uptoBulk {H : Type} : DataW H → Nat
  | .lit (.string bytes) => bytes.length + 1
  | .lit _ => 1
  | .nil => 1
  | .ptr d => uptoBulk d + 1
  | .slice elems spare => uptoBulkAll elems + uptoBulkAll spare + 1
  | .agg parts => uptoBulkAll parts + 1
  | .iface _ d => uptoBulk d + 1
  | .map entries => uptoBulkEntries entries + 1
  | .held _ => 1
def uptoBulkAll {H : Type} : List (DataW H) → Nat
  | [] => 0
  | d :: r => uptoBulk d + uptoBulkAll r
def uptoBulkEntries {H : Type} : List (Lit × DataW H) → Nat
  | [] => 0
  | x :: r => uptoBulkEntry x + uptoBulkEntries r
def uptoBulkEntry {H : Type} : Lit × DataW H → Nat
  | (.string bytes, d) => bytes.length + uptoBulk d + 1
  | (_, d) => uptoBulk d + 1
 end
def uptoSmall : (H : Type) → List (DataW H) → Bool := fun _ ds => decide (uptoBulkAll ds ≤ 1048576)
def OpenSpec.upto (s : _root_.Go.ChangeSpec) : _root_.Go.OpenSpec := { _root_.Go.OpenSpec.ofChange s with cond := some uptoSmall }

/-- 'glacierlaw07.TapefmtWeight', WHERE WHAT IT READS IS OF BULK AT MOST 1048576: true; the input reads as it did. -/
def tapefmtWeightUptoRow : OpenClaim := { program := "ytcogjlfdhiomnaadoor", sum := "95661d378c53f5fb8344ce509f7c8b0cd88256904cbc27618bb7198bb684a24c", func := "glacier/glacierlaw07.TapefmtWeight", spec := "tapefmtWeight", inPlace := ["internal/abi.NoEscape", "internal/bytealg.MakeNoZero"], named := ["glacier/seal.steps"], apart := false, laid := [("glacier/seal.steps", laid_glacier_seal_steps)], narrowed := true }
def TapefmtWeightUptoSaid : Prop := tapefmtWeightUptoRow.holds Tryd.pinned (OpenSpec.upto tapefmtWeightSpec)

/-- 'glacierlaw07.TapefmtSpoilt', WHERE WHAT IT READS IS OF BULK AT MOST 1048576: true; the input reads as it did. -/
def tapefmtSpoiltUptoRow : OpenClaim := { program := "ytcogjlfdhiomnaadoor", sum := "95661d378c53f5fb8344ce509f7c8b0cd88256904cbc27618bb7198bb684a24c", func := "glacier/glacierlaw07.TapefmtSpoilt", spec := "tapefmtSpoilt", inPlace := ["internal/abi.NoEscape", "internal/bytealg.MakeNoZero"], named := ["glacier/seal.steps"], apart := false, laid := [("glacier/seal.steps", laid_glacier_seal_steps)], narrowed := true }
def TapefmtSpoiltUptoSaid : Prop := tapefmtSpoiltUptoRow.holds Tryd.pinned (OpenSpec.upto tapefmtSpoiltSpec)

/-- 'glacierlaw07.TapefmtBack', WHERE WHAT IT READS IS OF BULK AT MOST 1048576: true; the input reads as it did. -/
def tapefmtBackUptoRow : OpenClaim := { program := "ytcogjlfdhiomnaadoor", sum := "95661d378c53f5fb8344ce509f7c8b0cd88256904cbc27618bb7198bb684a24c", func := "glacier/glacierlaw07.TapefmtBack", spec := "tapefmtBack", inPlace := ["internal/abi.NoEscape", "internal/bytealg.MakeNoZero"], named := ["glacier/seal.steps"], apart := false, laid := [("glacier/seal.steps", laid_glacier_seal_steps)], narrowed := true }
def TapefmtBackUptoSaid : Prop := tapefmtBackUptoRow.holds Tryd.pinned (OpenSpec.upto tapefmtBackSpec)

/-- 'glacierlaw07.TapefmtOther', WHERE WHAT IT READS IS OF BULK AT MOST 1048576: true; the input reads as it did. -/
def tapefmtOtherUptoRow : OpenClaim := { program := "ytcogjlfdhiomnaadoor", sum := "95661d378c53f5fb8344ce509f7c8b0cd88256904cbc27618bb7198bb684a24c", func := "glacier/glacierlaw07.TapefmtOther", spec := "tapefmtOther", inPlace := ["internal/abi.NoEscape", "internal/bytealg.MakeNoZero"], named := ["glacier/seal.steps"], apart := false, laid := [("glacier/seal.steps", laid_glacier_seal_steps)], narrowed := true }
def TapefmtOtherUptoSaid : Prop := tapefmtOtherUptoRow.holds Tryd.pinned (OpenSpec.upto tapefmtOtherSpec)

/-- 'glacierlaw07.TapefmtTorn', WHERE WHAT IT READS IS OF BULK AT MOST 1048576: true; the input reads as it did. -/
def tapefmtTornUptoRow : OpenClaim := { program := "ytcogjlfdhiomnaadoor", sum := "95661d378c53f5fb8344ce509f7c8b0cd88256904cbc27618bb7198bb684a24c", func := "glacier/glacierlaw07.TapefmtTorn", spec := "tapefmtTorn", inPlace := ["internal/abi.NoEscape", "internal/bytealg.MakeNoZero"], named := ["glacier/seal.steps"], apart := false, laid := [("glacier/seal.steps", laid_glacier_seal_steps)], narrowed := true }
def TapefmtTornUptoSaid : Prop := tapefmtTornUptoRow.holds Tryd.pinned (OpenSpec.upto tapefmtTornSpec)

/-- 'glacierlaw08.LibraryErased', WHERE WHAT IT READS IS OF BULK AT MOST 1048576: true; the input reads as it did. -/
def libraryErasedUptoRow : OpenClaim := { program := "ytcogjlfdhiomnaadoor", sum := "95661d378c53f5fb8344ce509f7c8b0cd88256904cbc27618bb7198bb684a24c", func := "glacier/glacierlaw08.LibraryErased", spec := "libraryErased", inPlace := ["internal/abi.NoEscape", "internal/bytealg.MakeNoZero"], unfollowed := true, recurses := true, named := ["glacier/seal.steps"], apart := false, laid := [("glacier/seal.steps", laid_glacier_seal_steps)], narrowed := true }
def LibraryErasedUptoSaid : Prop := libraryErasedUptoRow.holds Tryd.pinned (OpenSpec.upto libraryErasedSpec)

/-- 'glacierlaw08.LibraryBlobs', WHERE WHAT IT READS IS OF BULK AT MOST 1048576: true; the input reads as it did. -/
def libraryBlobsUptoRow : OpenClaim := { program := "ytcogjlfdhiomnaadoor", sum := "95661d378c53f5fb8344ce509f7c8b0cd88256904cbc27618bb7198bb684a24c", func := "glacier/glacierlaw08.LibraryBlobs", spec := "libraryBlobs", inPlace := ["internal/abi.NoEscape", "internal/bytealg.MakeNoZero"], unfollowed := true, recurses := true, named := ["glacier/seal.steps"], apart := false, laid := [("glacier/seal.steps", laid_glacier_seal_steps)], narrowed := true }
def LibraryBlobsUptoSaid : Prop := libraryBlobsUptoRow.holds Tryd.pinned (OpenSpec.upto libraryBlobsSpec)

end Rows
end Go.Proofs.YtcogjlfdhiomnaaDoor
