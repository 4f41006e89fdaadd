/-
  DERIVED. GIVEN WITH THE SEED: THE CARDS: each row of YtekioplbfoonkaaDoorRows.lean that lists a variable, with what it lists TIED to the program's text (the seventh form; the later family's looks); each row that meets fmt, with fmt's text TOLD by the authors' own Lean function (tested against real Go, not proved from fmt's source: count such statements apart). THE CARD IS WHAT COUNTS. Prove the row's statement (the work); the ties are given (YtekioplbfoonkaaDoorTie.lean); close each card by the builder's one call (the guide's Derived/Test/ToyasCard.lean, 'card_holds'). Laid BY PROGRAM, IN A SANDBOX (cutbox-door.mjs). By AI agents, Wed Nov 11 2026. No macro, syntax, notation, axiom, sorry.
-/
import Derived.Test.YtekioplbfoonkaaDoorRows
import GoSem.ClaimSeven
namespace Go.Proofs.YtekioplbfoonkaaDoor
namespace Rows

/-- THE TIED CARD OF 'glaciertop.GlacierRoom'. -/
def glacierRoomCard : Claim7 := { stood := { row := glacierRoomRow, standIns := [], harness := (true, "60786a32b95ebfefdf63b74c5fd004979798630d9e32b935b90b4cd99a7024dd"), looks := false }, kinds := [], alts := [], laidByText := true, laidKinds := [.data, .data, .data, .data], laidTests := true, laidLooks := .later }
def GlacierRoomCardSaid : Prop := Claim7.holds Tryd.pinned (.plain (OpenSpec.ofChange glacierRoomSpec)) glacierRoomCard

/-- THE SECOND FORM's CARD OF 'glaciertop.GlacierRoom'. -/
def glacierRoomUptoCard : Claim7 := { stood := { row := glacierRoomUptoRow, standIns := [], harness := (true, "60786a32b95ebfefdf63b74c5fd004979798630d9e32b935b90b4cd99a7024dd"), looks := false }, kinds := [], alts := [], laidByText := true, laidKinds := [.data, .data, .data, .data], laidTests := true, laidLooks := .later }
def GlacierRoomUptoCardSaid : Prop := Claim7.holds Tryd.pinned (.plain (OpenSpec.upto glacierRoomSpec)) glacierRoomUptoCard
end Rows
end Go.Proofs.YtekioplbfoonkaaDoor
