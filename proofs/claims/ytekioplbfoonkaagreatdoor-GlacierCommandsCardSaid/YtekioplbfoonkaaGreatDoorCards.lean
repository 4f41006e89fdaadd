/-
  DERIVED. GIVEN WITH THE SEED: THE CARDS: each row of YtekioplbfoonkaaGreatDoorRows.lean that lists a variable, with what it lists TIED to the program's text (the seventh form; the later family's looks); each row that meets fmt, with fmt's text TOLD by the authors' own Lean function (tested against real Go, not proved from fmt's source: count such statements apart). THE CARD IS WHAT COUNTS. Prove the row's statement (the work); the ties are given (YtekioplbfoonkaaGreatDoorTie.lean); close each card by the builder's one call (the guide's Derived/Test/ToyasCard.lean, 'card_holds'). Laid BY PROGRAM, IN A SANDBOX (cutbox-door.mjs). By AI agents, Wed Nov 11 2026. No macro, syntax, notation, axiom, sorry.
-/
import Derived.Test.YtekioplbfoonkaaGreatDoorRows
import GoSem.ClaimSeven
namespace Go.Proofs.YtekioplbfoonkaaGreatDoor
namespace Rows

/-- THE TIED CARD OF 'glaciertop.GlacierRecalled'. -/
def glacierRecalledCard : Claim7 := { stood := { row := glacierRecalledRow, standIns := [], harness := (true, "f2e0ca93f8e717a730dadf6726b07af4cf284ff896d8a127be7e8e95bd75cf80"), looks := false }, kinds := [], alts := [], laidByText := true, laidKinds := [.data, .data, .data, .data], laidTests := true, laidLooks := .later }
def GlacierRecalledCardSaid : Prop := Claim7.holds Tryz.pinned (.plain (OpenSpec.ofChange glacierRecalledSpec)) glacierRecalledCard

/-- THE TIED CARD OF 'glaciertop.GlacierCommands'. -/
def glacierCommandsCard : Claim7 := { stood := { row := glacierCommandsRow, standIns := [], harness := (true, "f2e0ca93f8e717a730dadf6726b07af4cf284ff896d8a127be7e8e95bd75cf80"), looks := false }, kinds := [], alts := [], laidByText := true, laidKinds := [.data, .data, .data, .data], laidTests := true, laidLooks := .later }
def GlacierCommandsCardSaid : Prop := Claim7.holds Tryz.pinned (.plain (OpenSpec.ofChange glacierCommandsSpec)) glacierCommandsCard

/-- THE TIED CARD OF 'glaciertop.GlacierMoved'. -/
def glacierMovedCard : Claim7 := { stood := { row := glacierMovedRow, standIns := [], harness := (true, "f2e0ca93f8e717a730dadf6726b07af4cf284ff896d8a127be7e8e95bd75cf80"), looks := false }, kinds := [], alts := [], laidByText := true, laidKinds := [.data, .data, .data, .data], laidTests := true, laidLooks := .later }
def GlacierMovedCardSaid : Prop := Claim7.holds Tryz.pinned (.plain (OpenSpec.ofChange glacierMovedSpec)) glacierMovedCard

/-- THE SECOND FORM's CARD OF 'glaciertop.GlacierRecalled'. -/
def glacierRecalledUptoCard : Claim7 := { stood := { row := glacierRecalledUptoRow, standIns := [], harness := (true, "f2e0ca93f8e717a730dadf6726b07af4cf284ff896d8a127be7e8e95bd75cf80"), looks := false }, kinds := [], alts := [], laidByText := true, laidKinds := [.data, .data, .data, .data], laidTests := true, laidLooks := .later }
def GlacierRecalledUptoCardSaid : Prop := Claim7.holds Tryz.pinned (.plain (OpenSpec.upto glacierRecalledSpec)) glacierRecalledUptoCard

/-- THE SECOND FORM's CARD OF 'glaciertop.GlacierCommands'. -/
def glacierCommandsUptoCard : Claim7 := { stood := { row := glacierCommandsUptoRow, standIns := [], harness := (true, "f2e0ca93f8e717a730dadf6726b07af4cf284ff896d8a127be7e8e95bd75cf80"), looks := false }, kinds := [], alts := [], laidByText := true, laidKinds := [.data, .data, .data, .data], laidTests := true, laidLooks := .later }
def GlacierCommandsUptoCardSaid : Prop := Claim7.holds Tryz.pinned (.plain (OpenSpec.upto glacierCommandsSpec)) glacierCommandsUptoCard

/-- THE SECOND FORM's CARD OF 'glaciertop.GlacierMoved'. -/
def glacierMovedUptoCard : Claim7 := { stood := { row := glacierMovedUptoRow, standIns := [], harness := (true, "f2e0ca93f8e717a730dadf6726b07af4cf284ff896d8a127be7e8e95bd75cf80"), looks := false }, kinds := [], alts := [], laidByText := true, laidKinds := [.data, .data, .data, .data], laidTests := true, laidLooks := .later }
def GlacierMovedUptoCardSaid : Prop := Claim7.holds Tryz.pinned (.plain (OpenSpec.upto glacierMovedSpec)) glacierMovedUptoCard
end Rows
end Go.Proofs.YtekioplbfoonkaaGreatDoor
