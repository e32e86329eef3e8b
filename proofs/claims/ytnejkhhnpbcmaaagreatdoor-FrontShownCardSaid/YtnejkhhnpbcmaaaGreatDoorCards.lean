/-
  DERIVED. GIVEN WITH THE SEED: THE CARDS: each row of YtnejkhhnpbcmaaaGreatDoorRows.lean that lists a variable, with what it lists TIED to the program's text (the seventh form; the later family's looks); each row that meets fmt, with fmt's text TOLD by the authors' own Lean function (tested against real Go, not proved from fmt's source: count such statements apart). THE CARD IS WHAT COUNTS. Prove the row's statement (the work); the ties are given (YtnejkhhnpbcmaaaGreatDoorTie.lean); close each card by the builder's one call (the guide's Derived/Test/ToyasCard.lean, 'card_holds'). Laid BY PROGRAM, IN A SANDBOX (cutbox-door.mjs). By AI agents, Wed Nov 11 2026. No macro, syntax, notation, axiom, sorry.
-/
import Derived.Test.YtnejkhhnpbcmaaaGreatDoorRows
import GoSem.ClaimSeven
namespace Go.Proofs.YtnejkhhnpbcmaaaGreatDoor
namespace Rows

/-- THE TIED CARD OF 'escapementlaw11.FrontShown'. -/
def frontShownCard : Claim7 := { stood := { row := frontShownRow, standIns := [], harness := (true, "3d847ee9052c26aab3d9b88841e85aeb5547ddcb6a263b072b1d0f8d03d085f8"), looks := true }, kinds := [], alts := [], laidByText := true, laidKinds := [.data, .data, .data, .data, .sentinel, .sentinel, .pinned], laidTests := true, laidLooks := .later }
def FrontShownCardSaid : Prop := Claim7.holds Tryz.pinned (.plain (OpenSpec.ofChange frontShownSpec)) frontShownCard

/-- THE TIED CARD OF 'escapementlaw11.FrontTurned'. -/
def frontTurnedCard : Claim7 := { stood := { row := frontTurnedRow, standIns := [], harness := (true, "3d847ee9052c26aab3d9b88841e85aeb5547ddcb6a263b072b1d0f8d03d085f8"), looks := true }, kinds := [], alts := [], laidByText := true, laidKinds := [.data, .data, .data, .data, .sentinel, .sentinel, .pinned], laidTests := true, laidLooks := .later }
def FrontTurnedCardSaid : Prop := Claim7.holds Tryz.pinned (.plain (OpenSpec.ofChange frontTurnedSpec)) frontTurnedCard

/-- THE SECOND FORM's CARD OF 'escapementlaw11.FrontShown'. -/
def frontShownUptoCard : Claim7 := { stood := { row := frontShownUptoRow, standIns := [], harness := (true, "3d847ee9052c26aab3d9b88841e85aeb5547ddcb6a263b072b1d0f8d03d085f8"), looks := true }, kinds := [], alts := [], laidByText := true, laidKinds := [.data, .data, .data, .data, .sentinel, .sentinel, .pinned], laidTests := true, laidLooks := .later }
def FrontShownUptoCardSaid : Prop := Claim7.holds Tryz.pinned (.plain (OpenSpec.upto frontShownSpec)) frontShownUptoCard

/-- THE SECOND FORM's CARD OF 'escapementlaw11.FrontTurned'. -/
def frontTurnedUptoCard : Claim7 := { stood := { row := frontTurnedUptoRow, standIns := [], harness := (true, "3d847ee9052c26aab3d9b88841e85aeb5547ddcb6a263b072b1d0f8d03d085f8"), looks := true }, kinds := [], alts := [], laidByText := true, laidKinds := [.data, .data, .data, .data, .sentinel, .sentinel, .pinned], laidTests := true, laidLooks := .later }
def FrontTurnedUptoCardSaid : Prop := Claim7.holds Tryz.pinned (.plain (OpenSpec.upto frontTurnedSpec)) frontTurnedUptoCard
end Rows
end Go.Proofs.YtnejkhhnpbcmaaaGreatDoor
