/-
  NARROWER THAN 'FOR EVERY INPUT', by the rows' own cells (each row's printed sentence says how): SealParts: laid · SealOnly: laid · SealTorn: laid · SealBent: laid · SealJoined: laid · SealOpens: laid.
  DERIVED. THE GIVEN ROWS OF THIS SEAT. 6 by the template 'for every input the law returns true; each argument reads behind the call as it read before'; 0 by the template 'total and deterministic' (their statements: YtgnoojphbnfjbaaDoorTotals.lean).
  GIVEN WITH THE SEED: the statements are not yours to turn. If you find one false, say at which input.
  Laid BY PROGRAM, IN A SANDBOX (cutbox-rows.mjs): the forced cells as the released guide's own fill.sh prints them over the translation ed5ab980e7ac66ab… (all of the seat's roots in one cut). By AI agents, Wed Nov 11 2026. No macro, syntax, notation, axiom, sorry.
-/
import Derived.Test.YtgnoojphbnfjbaaDoorChecked
import GoSem.Claim
import GoSem.ClaimJoined
import GoSem.ClaimMapViews
import Derived.JoinedTies
import Derived.KernelRfl
namespace Go.Proofs.YtgnoojphbnfjbaaDoor
/- THE CELL 'sum', in the pinned program and in every row, IS THE sha256 OF THE DUMP (.gsa) THAT YtgnoojphbnfjbaaDoorProg.lean LOADS. Nothing in Lean hashes anything: it is a label: what it is worth is what the hold of that sum in a sandbox is worth. -/
noncomputable def Tryd.pinned : Pinned := { name := "ytgnoojphbnfjbaadoor", sum := "ed5ab980e7ac66abf5110ae26eef5aaab1f99adbc48831545fb7a6466bcc9369", checked := Tryd.checked }
namespace Rows
def none {H : Type} : Left H := { results := [], args := [] }

/- WHAT THE LISTED PACKAGE-LEVEL VARIABLES READ AS WHEN THE CALL BEGINS. Each datum BY PROGRAM (the guide's laid-datum.mjs) off the statement by which the dump's own 'gosem.cut.vars' lays the variable. In a bare row this is a premise. The card (YtgnoojphbnfjbaaDoorCards.lean) ties it to the program's text. -/
def laid_glacier_seal_steps {H : Type} : DataW H := .agg [.lit (.int .u32 0), .lit (.int .u32 498536548), .lit (.int .u32 997073096), .lit (.int .u32 651767980), .lit (.int .u32 1994146192), .lit (.int .u32 1802195444), .lit (.int .u32 1303535960), .lit (.int .u32 1342533948), .lit (.int .u32 3988292384), .lit (.int .u32 4027552580), .lit (.int .u32 3604390888), .lit (.int .u32 3412177804), .lit (.int .u32 2607071920), .lit (.int .u32 2262029012), .lit (.int .u32 2685067896), .lit (.int .u32 3183342108)]

/-- 'glacierlaw02.SealParts': WHATEVER THE INPUT: true; the input reads as it did. -/
def sealPartsSpec : ChangeSpec := { name := "sealParts", fn := fun _ => fun
  | [d1, d2, d3, d4] => { results := [.lit (.bool true)], args := [d1, d2, d3, d4] }
  | _ => none }
def sealPartsRow : OpenClaim := { program := "ytgnoojphbnfjbaadoor", sum := "ed5ab980e7ac66abf5110ae26eef5aaab1f99adbc48831545fb7a6466bcc9369", func := "glacier/glacierlaw02.SealParts", spec := "sealParts", inPlace := ["internal/abi.NoEscape", "internal/bytealg.MakeNoZero"], named := ["glacier/seal.steps"], apart := false, laid := [("glacier/seal.steps", laid_glacier_seal_steps)] }
def SealPartsSaid : Prop := sealPartsRow.holds Tryd.pinned (OpenSpec.ofChange sealPartsSpec)

/-- ITS FALSE NEIGHBOUR: 'it returns false'. Refute it at one input. -/
def sealPartsWrong : ChangeSpec := { name := "sealParts", fn := fun _ => fun
  | [d1, d2, d3, d4] => { results := [.lit (.bool false)], args := [d1, d2, d3, d4] }
  | _ => none }
def SealPartsWrongFalsely : Prop := sealPartsRow.holds Tryd.pinned (OpenSpec.ofChange sealPartsWrong)

/-- 'glacierlaw02.SealOnly': WHATEVER THE INPUT: true; the input reads as it did. -/
def sealOnlySpec : ChangeSpec := { name := "sealOnly", fn := fun _ => fun
  | [d1, d2] => { results := [.lit (.bool true)], args := [d1, d2] }
  | _ => none }
def sealOnlyRow : OpenClaim := { program := "ytgnoojphbnfjbaadoor", sum := "ed5ab980e7ac66abf5110ae26eef5aaab1f99adbc48831545fb7a6466bcc9369", func := "glacier/glacierlaw02.SealOnly", spec := "sealOnly", inPlace := ["internal/abi.NoEscape", "internal/bytealg.MakeNoZero"], named := ["glacier/seal.steps"], apart := false, laid := [("glacier/seal.steps", laid_glacier_seal_steps)] }
def SealOnlySaid : Prop := sealOnlyRow.holds Tryd.pinned (OpenSpec.ofChange sealOnlySpec)

/-- ITS FALSE NEIGHBOUR: 'it returns false'. Refute it at one input. -/
def sealOnlyWrong : ChangeSpec := { name := "sealOnly", fn := fun _ => fun
  | [d1, d2] => { results := [.lit (.bool false)], args := [d1, d2] }
  | _ => none }
def SealOnlyWrongFalsely : Prop := sealOnlyRow.holds Tryd.pinned (OpenSpec.ofChange sealOnlyWrong)

/-- 'glacierlaw02.SealTorn': WHATEVER THE INPUT: true; the input reads as it did. -/
def sealTornSpec : ChangeSpec := { name := "sealTorn", fn := fun _ => fun
  | [d1, d2] => { results := [.lit (.bool true)], args := [d1, d2] }
  | _ => none }
def sealTornRow : OpenClaim := { program := "ytgnoojphbnfjbaadoor", sum := "ed5ab980e7ac66abf5110ae26eef5aaab1f99adbc48831545fb7a6466bcc9369", func := "glacier/glacierlaw02.SealTorn", spec := "sealTorn", inPlace := ["internal/abi.NoEscape", "internal/bytealg.MakeNoZero"], named := ["glacier/seal.steps"], apart := false, laid := [("glacier/seal.steps", laid_glacier_seal_steps)] }
def SealTornSaid : Prop := sealTornRow.holds Tryd.pinned (OpenSpec.ofChange sealTornSpec)

/-- ITS FALSE NEIGHBOUR: 'it returns false'. Refute it at one input. -/
def sealTornWrong : ChangeSpec := { name := "sealTorn", fn := fun _ => fun
  | [d1, d2] => { results := [.lit (.bool false)], args := [d1, d2] }
  | _ => none }
def SealTornWrongFalsely : Prop := sealTornRow.holds Tryd.pinned (OpenSpec.ofChange sealTornWrong)

/-- 'glacierlaw02.SealBent': WHATEVER THE INPUT: true; the input reads as it did. -/
def sealBentSpec : ChangeSpec := { name := "sealBent", fn := fun _ => fun
  | [d1, d2, d3, d4, d5] => { results := [.lit (.bool true)], args := [d1, d2, d3, d4, d5] }
  | _ => none }
def sealBentRow : OpenClaim := { program := "ytgnoojphbnfjbaadoor", sum := "ed5ab980e7ac66abf5110ae26eef5aaab1f99adbc48831545fb7a6466bcc9369", func := "glacier/glacierlaw02.SealBent", spec := "sealBent", inPlace := ["internal/abi.NoEscape", "internal/bytealg.MakeNoZero"], named := ["glacier/seal.steps"], apart := false, laid := [("glacier/seal.steps", laid_glacier_seal_steps)] }
def SealBentSaid : Prop := sealBentRow.holds Tryd.pinned (OpenSpec.ofChange sealBentSpec)

/-- ITS FALSE NEIGHBOUR: 'it returns false'. Refute it at one input. -/
def sealBentWrong : ChangeSpec := { name := "sealBent", fn := fun _ => fun
  | [d1, d2, d3, d4, d5] => { results := [.lit (.bool false)], args := [d1, d2, d3, d4, d5] }
  | _ => none }
def SealBentWrongFalsely : Prop := sealBentRow.holds Tryd.pinned (OpenSpec.ofChange sealBentWrong)

/-- 'glacierlaw02.SealJoined': WHATEVER THE INPUT: true; the input reads as it did. -/
def sealJoinedSpec : ChangeSpec := { name := "sealJoined", fn := fun _ => fun
  | [d1, d2] => { results := [.lit (.bool true)], args := [d1, d2] }
  | _ => none }
def sealJoinedRow : OpenClaim := { program := "ytgnoojphbnfjbaadoor", sum := "ed5ab980e7ac66abf5110ae26eef5aaab1f99adbc48831545fb7a6466bcc9369", func := "glacier/glacierlaw02.SealJoined", spec := "sealJoined", inPlace := ["internal/abi.NoEscape", "internal/bytealg.MakeNoZero"], named := ["glacier/seal.steps"], apart := false, laid := [("glacier/seal.steps", laid_glacier_seal_steps)] }
def SealJoinedSaid : Prop := sealJoinedRow.holds Tryd.pinned (OpenSpec.ofChange sealJoinedSpec)

/-- ITS FALSE NEIGHBOUR: 'it returns false'. Refute it at one input. -/
def sealJoinedWrong : ChangeSpec := { name := "sealJoined", fn := fun _ => fun
  | [d1, d2] => { results := [.lit (.bool false)], args := [d1, d2] }
  | _ => none }
def SealJoinedWrongFalsely : Prop := sealJoinedRow.holds Tryd.pinned (OpenSpec.ofChange sealJoinedWrong)

/-- 'glacierlaw02.SealOpens': WHATEVER THE INPUT: true; the input reads as it did. -/
def sealOpensSpec : ChangeSpec := { name := "sealOpens", fn := fun _ => fun
  | [d1, d2, d3] => { results := [.lit (.bool true)], args := [d1, d2, d3] }
  | _ => none }
def sealOpensRow : OpenClaim := { program := "ytgnoojphbnfjbaadoor", sum := "ed5ab980e7ac66abf5110ae26eef5aaab1f99adbc48831545fb7a6466bcc9369", func := "glacier/glacierlaw02.SealOpens", spec := "sealOpens", inPlace := ["internal/abi.NoEscape", "internal/bytealg.MakeNoZero"], named := ["glacier/seal.steps"], apart := false, laid := [("glacier/seal.steps", laid_glacier_seal_steps)] }
def SealOpensSaid : Prop := sealOpensRow.holds Tryd.pinned (OpenSpec.ofChange sealOpensSpec)

/-- ITS FALSE NEIGHBOUR: 'it returns false'. Refute it at one input. -/
def sealOpensWrong : ChangeSpec := { name := "sealOpens", fn := fun _ => fun
  | [d1, d2, d3] => { results := [.lit (.bool false)], args := [d1, d2, d3] }
  | _ => none }
def SealOpensWrongFalsely : Prop := sealOpensRow.holds Tryd.pinned (OpenSpec.ofChange sealOpensWrong)

/- THE SECOND FORM. 'bulk': how many values and letters a reading holds, each counted each time it is reached (what is shared counts as often as it is met; a slice's spare places count too). A statement '..UptoSaid' is the law's where the arguments, and the package variables that the reading takes, are together of bulk at most 1048576: NARROWER than '..Said'. Prove '..Said' where nothing that the law and all that it calls make is longer than what came in: it says more and counts as full. Else prove '..UptoSaid'. A law counts once. -/
mutual
def uptoBulk {H : Type} : DataW H → Nat
  | .lit (.string bytes) => bytes.length + 1
  | .lit _ => 1
  | .nil => 1
  | .ptr d => uptoBulk d + 1
  | .slice elems spare => uptoBulkAll elems + uptoBulkAll spare + 1
  | .agg parts => uptoBulkAll parts + 1
  | .iface _ d => uptoBulk d + 1
  | .map entries => uptoBulkEntries entries + 1
  | .held _ => 1
def uptoBulkAll {H : Type} : List (DataW H) → Nat
  | [] => 0
  | d :: r => uptoBulk d + uptoBulkAll r
def uptoBulkEntries {H : Type} : List (Lit × DataW H) → Nat
  | [] => 0
  | x :: r => uptoBulkEntry x + uptoBulkEntries r
def uptoBulkEntry {H : Type} : Lit × DataW H → Nat
  | (.string bytes, d) => bytes.length + uptoBulk d + 1
  | (_, d) => uptoBulk d + 1
 end
def uptoSmall : (H : Type) → List (DataW H) → Bool := fun _ ds => decide (uptoBulkAll ds ≤ 1048576)
def OpenSpec.upto (s : _root_.Go.ChangeSpec) : _root_.Go.OpenSpec := { _root_.Go.OpenSpec.ofChange s with cond := some uptoSmall }

/-- 'glacierlaw02.SealParts', WHERE WHAT IT READS IS OF BULK AT MOST 1048576: true; the input reads as it did. -/
def sealPartsUptoRow : OpenClaim := { program := "ytgnoojphbnfjbaadoor", sum := "ed5ab980e7ac66abf5110ae26eef5aaab1f99adbc48831545fb7a6466bcc9369", func := "glacier/glacierlaw02.SealParts", spec := "sealParts", inPlace := ["internal/abi.NoEscape", "internal/bytealg.MakeNoZero"], named := ["glacier/seal.steps"], apart := false, laid := [("glacier/seal.steps", laid_glacier_seal_steps)], narrowed := true }
def SealPartsUptoSaid : Prop := sealPartsUptoRow.holds Tryd.pinned (OpenSpec.upto sealPartsSpec)

/-- 'glacierlaw02.SealOnly', WHERE WHAT IT READS IS OF BULK AT MOST 1048576: true; the input reads as it did. -/
def sealOnlyUptoRow : OpenClaim := { program := "ytgnoojphbnfjbaadoor", sum := "ed5ab980e7ac66abf5110ae26eef5aaab1f99adbc48831545fb7a6466bcc9369", func := "glacier/glacierlaw02.SealOnly", spec := "sealOnly", inPlace := ["internal/abi.NoEscape", "internal/bytealg.MakeNoZero"], named := ["glacier/seal.steps"], apart := false, laid := [("glacier/seal.steps", laid_glacier_seal_steps)], narrowed := true }
def SealOnlyUptoSaid : Prop := sealOnlyUptoRow.holds Tryd.pinned (OpenSpec.upto sealOnlySpec)

/-- 'glacierlaw02.SealTorn', WHERE WHAT IT READS IS OF BULK AT MOST 1048576: true; the input reads as it did. -/
def sealTornUptoRow : OpenClaim := { program := "ytgnoojphbnfjbaadoor", sum := "ed5ab980e7ac66abf5110ae26eef5aaab1f99adbc48831545fb7a6466bcc9369", func := "glacier/glacierlaw02.SealTorn", spec := "sealTorn", inPlace := ["internal/abi.NoEscape", "internal/bytealg.MakeNoZero"], named := ["glacier/seal.steps"], apart := false, laid := [("glacier/seal.steps", laid_glacier_seal_steps)], narrowed := true }
def SealTornUptoSaid : Prop := sealTornUptoRow.holds Tryd.pinned (OpenSpec.upto sealTornSpec)

/-- 'glacierlaw02.SealBent', WHERE WHAT IT READS IS OF BULK AT MOST 1048576: true; the input reads as it did. -/
def sealBentUptoRow : OpenClaim := { program := "ytgnoojphbnfjbaadoor", sum := "ed5ab980e7ac66abf5110ae26eef5aaab1f99adbc48831545fb7a6466bcc9369", func := "glacier/glacierlaw02.SealBent", spec := "sealBent", inPlace := ["internal/abi.NoEscape", "internal/bytealg.MakeNoZero"], named := ["glacier/seal.steps"], apart := false, laid := [("glacier/seal.steps", laid_glacier_seal_steps)], narrowed := true }
def SealBentUptoSaid : Prop := sealBentUptoRow.holds Tryd.pinned (OpenSpec.upto sealBentSpec)

/-- 'glacierlaw02.SealJoined', WHERE WHAT IT READS IS OF BULK AT MOST 1048576: true; the input reads as it did. -/
def sealJoinedUptoRow : OpenClaim := { program := "ytgnoojphbnfjbaadoor", sum := "ed5ab980e7ac66abf5110ae26eef5aaab1f99adbc48831545fb7a6466bcc9369", func := "glacier/glacierlaw02.SealJoined", spec := "sealJoined", inPlace := ["internal/abi.NoEscape", "internal/bytealg.MakeNoZero"], named := ["glacier/seal.steps"], apart := false, laid := [("glacier/seal.steps", laid_glacier_seal_steps)], narrowed := true }
def SealJoinedUptoSaid : Prop := sealJoinedUptoRow.holds Tryd.pinned (OpenSpec.upto sealJoinedSpec)

/-- 'glacierlaw02.SealOpens', WHERE WHAT IT READS IS OF BULK AT MOST 1048576: true; the input reads as it did. -/
def sealOpensUptoRow : OpenClaim := { program := "ytgnoojphbnfjbaadoor", sum := "ed5ab980e7ac66abf5110ae26eef5aaab1f99adbc48831545fb7a6466bcc9369", func := "glacier/glacierlaw02.SealOpens", spec := "sealOpens", inPlace := ["internal/abi.NoEscape", "internal/bytealg.MakeNoZero"], named := ["glacier/seal.steps"], apart := false, laid := [("glacier/seal.steps", laid_glacier_seal_steps)], narrowed := true }
def SealOpensUptoSaid : Prop := sealOpensUptoRow.holds Tryd.pinned (OpenSpec.upto sealOpensSpec)

end Rows
end Go.Proofs.YtgnoojphbnfjbaaDoor
