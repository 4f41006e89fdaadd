/-
  DERIVED. GIVEN WITH THE SEED: THE CARDS: each row of YtgnoojphbnfjbaaDoorRows.lean that lists a variable, with what it lists TIED to the program's text (the seventh form; the later family's looks); each row that meets fmt, with fmt's text TOLD by the authors' own Lean function (tested against real Go, not proved from fmt's source: count such statements apart). THE CARD IS WHAT COUNTS. Prove the row's statement (the work); the ties are given (YtgnoojphbnfjbaaDoorTie.lean); close each card by the builder's one call (the guide's Derived/Test/ToyasCard.lean, 'card_holds'). Laid BY PROGRAM, IN A SANDBOX (cutbox-door.mjs). By AI agents, Wed Nov 11 2026. No macro, syntax, notation, axiom, sorry.
-/
import Derived.Test.YtgnoojphbnfjbaaDoorRows
import GoSem.ClaimSeven
namespace Go.Proofs.YtgnoojphbnfjbaaDoor
namespace Rows

/-- THE TIED CARD OF 'glacierlaw02.SealParts'. -/
def sealPartsCard : Claim7 := { stood := { row := sealPartsRow, standIns := [], harness := (true, "1f6a57807ac5e12b35ab3013c67cdc218a02705634ae6d79a1c05f69d86ab359"), looks := false }, kinds := [], alts := [], laidByText := true, laidKinds := [.data], laidTests := true, laidLooks := .later }
def SealPartsCardSaid : Prop := Claim7.holds Tryd.pinned (.plain (OpenSpec.ofChange sealPartsSpec)) sealPartsCard

/-- THE TIED CARD OF 'glacierlaw02.SealOnly'. -/
def sealOnlyCard : Claim7 := { stood := { row := sealOnlyRow, standIns := [], harness := (true, "1f6a57807ac5e12b35ab3013c67cdc218a02705634ae6d79a1c05f69d86ab359"), looks := false }, kinds := [], alts := [], laidByText := true, laidKinds := [.data], laidTests := true, laidLooks := .later }
def SealOnlyCardSaid : Prop := Claim7.holds Tryd.pinned (.plain (OpenSpec.ofChange sealOnlySpec)) sealOnlyCard

/-- THE TIED CARD OF 'glacierlaw02.SealTorn'. -/
def sealTornCard : Claim7 := { stood := { row := sealTornRow, standIns := [], harness := (true, "1f6a57807ac5e12b35ab3013c67cdc218a02705634ae6d79a1c05f69d86ab359"), looks := false }, kinds := [], alts := [], laidByText := true, laidKinds := [.data], laidTests := true, laidLooks := .later }
def SealTornCardSaid : Prop := Claim7.holds Tryd.pinned (.plain (OpenSpec.ofChange sealTornSpec)) sealTornCard

/-- THE TIED CARD OF 'glacierlaw02.SealBent'. -/
def sealBentCard : Claim7 := { stood := { row := sealBentRow, standIns := [], harness := (true, "1f6a57807ac5e12b35ab3013c67cdc218a02705634ae6d79a1c05f69d86ab359"), looks := false }, kinds := [], alts := [], laidByText := true, laidKinds := [.data], laidTests := true, laidLooks := .later }
def SealBentCardSaid : Prop := Claim7.holds Tryd.pinned (.plain (OpenSpec.ofChange sealBentSpec)) sealBentCard

/-- THE TIED CARD OF 'glacierlaw02.SealJoined'. -/
def sealJoinedCard : Claim7 := { stood := { row := sealJoinedRow, standIns := [], harness := (true, "1f6a57807ac5e12b35ab3013c67cdc218a02705634ae6d79a1c05f69d86ab359"), looks := false }, kinds := [], alts := [], laidByText := true, laidKinds := [.data], laidTests := true, laidLooks := .later }
def SealJoinedCardSaid : Prop := Claim7.holds Tryd.pinned (.plain (OpenSpec.ofChange sealJoinedSpec)) sealJoinedCard

/-- THE TIED CARD OF 'glacierlaw02.SealOpens'. -/
def sealOpensCard : Claim7 := { stood := { row := sealOpensRow, standIns := [], harness := (true, "1f6a57807ac5e12b35ab3013c67cdc218a02705634ae6d79a1c05f69d86ab359"), looks := false }, kinds := [], alts := [], laidByText := true, laidKinds := [.data], laidTests := true, laidLooks := .later }
def SealOpensCardSaid : Prop := Claim7.holds Tryd.pinned (.plain (OpenSpec.ofChange sealOpensSpec)) sealOpensCard

/-- THE SECOND FORM's CARD OF 'glacierlaw02.SealParts'. -/
def sealPartsUptoCard : Claim7 := { stood := { row := sealPartsUptoRow, standIns := [], harness := (true, "1f6a57807ac5e12b35ab3013c67cdc218a02705634ae6d79a1c05f69d86ab359"), looks := false }, kinds := [], alts := [], laidByText := true, laidKinds := [.data], laidTests := true, laidLooks := .later }
def SealPartsUptoCardSaid : Prop := Claim7.holds Tryd.pinned (.plain (OpenSpec.upto sealPartsSpec)) sealPartsUptoCard

/-- THE SECOND FORM's CARD OF 'glacierlaw02.SealOnly'. -/
def sealOnlyUptoCard : Claim7 := { stood := { row := sealOnlyUptoRow, standIns := [], harness := (true, "1f6a57807ac5e12b35ab3013c67cdc218a02705634ae6d79a1c05f69d86ab359"), looks := false }, kinds := [], alts := [], laidByText := true, laidKinds := [.data], laidTests := true, laidLooks := .later }
def SealOnlyUptoCardSaid : Prop := Claim7.holds Tryd.pinned (.plain (OpenSpec.upto sealOnlySpec)) sealOnlyUptoCard

/-- THE SECOND FORM's CARD OF 'glacierlaw02.SealTorn'. -/
def sealTornUptoCard : Claim7 := { stood := { row := sealTornUptoRow, standIns := [], harness := (true, "1f6a57807ac5e12b35ab3013c67cdc218a02705634ae6d79a1c05f69d86ab359"), looks := false }, kinds := [], alts := [], laidByText := true, laidKinds := [.data], laidTests := true, laidLooks := .later }
def SealTornUptoCardSaid : Prop := Claim7.holds Tryd.pinned (.plain (OpenSpec.upto sealTornSpec)) sealTornUptoCard

/-- THE SECOND FORM's CARD OF 'glacierlaw02.SealBent'. -/
def sealBentUptoCard : Claim7 := { stood := { row := sealBentUptoRow, standIns := [], harness := (true, "1f6a57807ac5e12b35ab3013c67cdc218a02705634ae6d79a1c05f69d86ab359"), looks := false }, kinds := [], alts := [], laidByText := true, laidKinds := [.data], laidTests := true, laidLooks := .later }
def SealBentUptoCardSaid : Prop := Claim7.holds Tryd.pinned (.plain (OpenSpec.upto sealBentSpec)) sealBentUptoCard

/-- THE SECOND FORM's CARD OF 'glacierlaw02.SealJoined'. -/
def sealJoinedUptoCard : Claim7 := { stood := { row := sealJoinedUptoRow, standIns := [], harness := (true, "1f6a57807ac5e12b35ab3013c67cdc218a02705634ae6d79a1c05f69d86ab359"), looks := false }, kinds := [], alts := [], laidByText := true, laidKinds := [.data], laidTests := true, laidLooks := .later }
def SealJoinedUptoCardSaid : Prop := Claim7.holds Tryd.pinned (.plain (OpenSpec.upto sealJoinedSpec)) sealJoinedUptoCard

/-- THE SECOND FORM's CARD OF 'glacierlaw02.SealOpens'. -/
def sealOpensUptoCard : Claim7 := { stood := { row := sealOpensUptoRow, standIns := [], harness := (true, "1f6a57807ac5e12b35ab3013c67cdc218a02705634ae6d79a1c05f69d86ab359"), looks := false }, kinds := [], alts := [], laidByText := true, laidKinds := [.data], laidTests := true, laidLooks := .later }
def SealOpensUptoCardSaid : Prop := Claim7.holds Tryd.pinned (.plain (OpenSpec.upto sealOpensSpec)) sealOpensUptoCard
end Rows
end Go.Proofs.YtgnoojphbnfjbaaDoor
