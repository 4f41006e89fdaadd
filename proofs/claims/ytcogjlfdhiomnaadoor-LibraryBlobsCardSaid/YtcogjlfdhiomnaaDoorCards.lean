/-
  DERIVED. GIVEN WITH THE SEED: THE CARDS: each row of YtcogjlfdhiomnaaDoorRows.lean that lists a variable, with what it lists TIED to the program's text (the seventh form; the later family's looks); each row that meets fmt, with fmt's text TOLD by the authors' own Lean function (tested against real Go, not proved from fmt's source: count such statements apart). THE CARD IS WHAT COUNTS. Prove the row's statement (the work); the ties are given (YtcogjlfdhiomnaaDoorTie.lean); close each card by the builder's one call (the guide's Derived/Test/ToyasCard.lean, 'card_holds'). Laid BY PROGRAM, IN A SANDBOX (cutbox-door.mjs). By AI agents, Wed Nov 11 2026. No macro, syntax, notation, axiom, sorry.
-/
import Derived.Test.YtcogjlfdhiomnaaDoorRows
import GoSem.ClaimSeven
namespace Go.Proofs.YtcogjlfdhiomnaaDoor
namespace Rows

/-- THE TIED CARD OF 'glacierlaw07.TapefmtWeight'. -/
def tapefmtWeightCard : Claim7 := { stood := { row := tapefmtWeightRow, standIns := [], harness := (true, "ff64b0b84571e7a6ae675bedc3863cb38b02b77ece48235d5185edd32fb8138b"), looks := false }, kinds := [], alts := [], laidByText := true, laidKinds := [.data], laidTests := true, laidLooks := .later }
def TapefmtWeightCardSaid : Prop := Claim7.holds Tryd.pinned (.plain (OpenSpec.ofChange tapefmtWeightSpec)) tapefmtWeightCard

/-- THE TIED CARD OF 'glacierlaw07.TapefmtSpoilt'. -/
def tapefmtSpoiltCard : Claim7 := { stood := { row := tapefmtSpoiltRow, standIns := [], harness := (true, "ff64b0b84571e7a6ae675bedc3863cb38b02b77ece48235d5185edd32fb8138b"), looks := false }, kinds := [], alts := [], laidByText := true, laidKinds := [.data], laidTests := true, laidLooks := .later }
def TapefmtSpoiltCardSaid : Prop := Claim7.holds Tryd.pinned (.plain (OpenSpec.ofChange tapefmtSpoiltSpec)) tapefmtSpoiltCard

/-- THE TIED CARD OF 'glacierlaw07.TapefmtBack'. -/
def tapefmtBackCard : Claim7 := { stood := { row := tapefmtBackRow, standIns := [], harness := (true, "ff64b0b84571e7a6ae675bedc3863cb38b02b77ece48235d5185edd32fb8138b"), looks := false }, kinds := [], alts := [], laidByText := true, laidKinds := [.data], laidTests := true, laidLooks := .later }
def TapefmtBackCardSaid : Prop := Claim7.holds Tryd.pinned (.plain (OpenSpec.ofChange tapefmtBackSpec)) tapefmtBackCard

/-- THE TIED CARD OF 'glacierlaw07.TapefmtOther'. -/
def tapefmtOtherCard : Claim7 := { stood := { row := tapefmtOtherRow, standIns := [], harness := (true, "ff64b0b84571e7a6ae675bedc3863cb38b02b77ece48235d5185edd32fb8138b"), looks := false }, kinds := [], alts := [], laidByText := true, laidKinds := [.data], laidTests := true, laidLooks := .later }
def TapefmtOtherCardSaid : Prop := Claim7.holds Tryd.pinned (.plain (OpenSpec.ofChange tapefmtOtherSpec)) tapefmtOtherCard

/-- THE TIED CARD OF 'glacierlaw07.TapefmtTorn'. -/
def tapefmtTornCard : Claim7 := { stood := { row := tapefmtTornRow, standIns := [], harness := (true, "ff64b0b84571e7a6ae675bedc3863cb38b02b77ece48235d5185edd32fb8138b"), looks := false }, kinds := [], alts := [], laidByText := true, laidKinds := [.data], laidTests := true, laidLooks := .later }
def TapefmtTornCardSaid : Prop := Claim7.holds Tryd.pinned (.plain (OpenSpec.ofChange tapefmtTornSpec)) tapefmtTornCard

/-- THE TIED CARD OF 'glacierlaw08.LibraryErased'. -/
def libraryErasedCard : Claim7 := { stood := { row := libraryErasedRow, standIns := [], harness := (true, "ff64b0b84571e7a6ae675bedc3863cb38b02b77ece48235d5185edd32fb8138b"), looks := false }, kinds := [], alts := [], laidByText := true, laidKinds := [.data], laidTests := true, laidLooks := .later }
def LibraryErasedCardSaid : Prop := Claim7.holds Tryd.pinned (.plain (OpenSpec.ofChange libraryErasedSpec)) libraryErasedCard

/-- THE TIED CARD OF 'glacierlaw08.LibraryBlobs'. -/
def libraryBlobsCard : Claim7 := { stood := { row := libraryBlobsRow, standIns := [], harness := (true, "ff64b0b84571e7a6ae675bedc3863cb38b02b77ece48235d5185edd32fb8138b"), looks := false }, kinds := [], alts := [], laidByText := true, laidKinds := [.data], laidTests := true, laidLooks := .later }
def LibraryBlobsCardSaid : Prop := Claim7.holds Tryd.pinned (.plain (OpenSpec.ofChange libraryBlobsSpec)) libraryBlobsCard

/-- THE SECOND FORM's CARD OF 'glacierlaw07.TapefmtWeight'. -/
def tapefmtWeightUptoCard : Claim7 := { stood := { row := tapefmtWeightUptoRow, standIns := [], harness := (true, "ff64b0b84571e7a6ae675bedc3863cb38b02b77ece48235d5185edd32fb8138b"), looks := false }, kinds := [], alts := [], laidByText := true, laidKinds := [.data], laidTests := true, laidLooks := .later }
def TapefmtWeightUptoCardSaid : Prop := Claim7.holds Tryd.pinned (.plain (OpenSpec.upto tapefmtWeightSpec)) tapefmtWeightUptoCard

/-- THE SECOND FORM's CARD OF 'glacierlaw07.TapefmtSpoilt'. -/
def tapefmtSpoiltUptoCard : Claim7 := { stood := { row := tapefmtSpoiltUptoRow, standIns := [], harness := (true, "ff64b0b84571e7a6ae675bedc3863cb38b02b77ece48235d5185edd32fb8138b"), looks := false }, kinds := [], alts := [], laidByText := true, laidKinds := [.data], laidTests := true, laidLooks := .later }
def TapefmtSpoiltUptoCardSaid : Prop := Claim7.holds Tryd.pinned (.plain (OpenSpec.upto tapefmtSpoiltSpec)) tapefmtSpoiltUptoCard

/-- THE SECOND FORM's CARD OF 'glacierlaw07.TapefmtBack'. -/
def tapefmtBackUptoCard : Claim7 := { stood := { row := tapefmtBackUptoRow, standIns := [], harness := (true, "ff64b0b84571e7a6ae675bedc3863cb38b02b77ece48235d5185edd32fb8138b"), looks := false }, kinds := [], alts := [], laidByText := true, laidKinds := [.data], laidTests := true, laidLooks := .later }
def TapefmtBackUptoCardSaid : Prop := Claim7.holds Tryd.pinned (.plain (OpenSpec.upto tapefmtBackSpec)) tapefmtBackUptoCard

/-- THE SECOND FORM's CARD OF 'glacierlaw07.TapefmtOther'. -/
def tapefmtOtherUptoCard : Claim7 := { stood := { row := tapefmtOtherUptoRow, standIns := [], harness := (true, "ff64b0b84571e7a6ae675bedc3863cb38b02b77ece48235d5185edd32fb8138b"), looks := false }, kinds := [], alts := [], laidByText := true, laidKinds := [.data], laidTests := true, laidLooks := .later }
def TapefmtOtherUptoCardSaid : Prop := Claim7.holds Tryd.pinned (.plain (OpenSpec.upto tapefmtOtherSpec)) tapefmtOtherUptoCard

/-- THE SECOND FORM's CARD OF 'glacierlaw07.TapefmtTorn'. -/
def tapefmtTornUptoCard : Claim7 := { stood := { row := tapefmtTornUptoRow, standIns := [], harness := (true, "ff64b0b84571e7a6ae675bedc3863cb38b02b77ece48235d5185edd32fb8138b"), looks := false }, kinds := [], alts := [], laidByText := true, laidKinds := [.data], laidTests := true, laidLooks := .later }
def TapefmtTornUptoCardSaid : Prop := Claim7.holds Tryd.pinned (.plain (OpenSpec.upto tapefmtTornSpec)) tapefmtTornUptoCard

/-- THE SECOND FORM's CARD OF 'glacierlaw08.LibraryErased'. -/
def libraryErasedUptoCard : Claim7 := { stood := { row := libraryErasedUptoRow, standIns := [], harness := (true, "ff64b0b84571e7a6ae675bedc3863cb38b02b77ece48235d5185edd32fb8138b"), looks := false }, kinds := [], alts := [], laidByText := true, laidKinds := [.data], laidTests := true, laidLooks := .later }
def LibraryErasedUptoCardSaid : Prop := Claim7.holds Tryd.pinned (.plain (OpenSpec.upto libraryErasedSpec)) libraryErasedUptoCard

/-- THE SECOND FORM's CARD OF 'glacierlaw08.LibraryBlobs'. -/
def libraryBlobsUptoCard : Claim7 := { stood := { row := libraryBlobsUptoRow, standIns := [], harness := (true, "ff64b0b84571e7a6ae675bedc3863cb38b02b77ece48235d5185edd32fb8138b"), looks := false }, kinds := [], alts := [], laidByText := true, laidKinds := [.data], laidTests := true, laidLooks := .later }
def LibraryBlobsUptoCardSaid : Prop := Claim7.holds Tryd.pinned (.plain (OpenSpec.upto libraryBlobsSpec)) libraryBlobsUptoCard
end Rows
end Go.Proofs.YtcogjlfdhiomnaaDoor
