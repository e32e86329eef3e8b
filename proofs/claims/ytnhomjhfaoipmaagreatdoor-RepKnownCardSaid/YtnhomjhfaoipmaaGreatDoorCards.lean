/-
  DERIVED. GIVEN WITH THE SEED: THE CARDS: each row of YtnhomjhfaoipmaaGreatDoorRows.lean that lists a variable, with what it lists TIED to the program's text (the seventh form; the later family's looks); each row that meets fmt, with fmt's text TOLD by the authors' own Lean function (tested against real Go, not proved from fmt's source: count such statements apart). THE CARD IS WHAT COUNTS. Prove the row's statement (the work); the ties are given (YtnhomjhfaoipmaaGreatDoorTie.lean); close each card by the builder's one call (the guide's Derived/Test/ToyasCard.lean, 'card_holds'). Laid BY PROGRAM, IN A SANDBOX (cutbox-door.mjs). By AI agents, Wed Nov 11 2026. No macro, syntax, notation, axiom, sorry.
-/
import Derived.Test.YtnhomjhfaoipmaaGreatDoorRows
import GoSem.ClaimSeven
namespace Go.Proofs.YtnhomjhfaoipmaaGreatDoor
namespace Rows

/-- THE TIED CARD OF 'escapementlaw26.RepKnown'. -/
def repKnownCard : Claim7 := { stood := { row := repKnownRow, standIns := [], harness := (true, "8b55b9114315388311dbac99c46c548bf02a823216e6ff642fc715ec6a24bd2e"), looks := true }, kinds := [], alts := [], laidByText := true, laidKinds := [.data, .data, .data, .data, .sentinel, .sentinel, .pinned], laidTests := true, laidLooks := .later }
def RepKnownCardSaid : Prop := Claim7.holds Tryz.pinned (.plain (OpenSpec.ofChange repKnownSpec)) repKnownCard

/-- THE SECOND FORM's CARD OF 'escapementlaw26.RepKnown'. -/
def repKnownUptoCard : Claim7 := { stood := { row := repKnownUptoRow, standIns := [], harness := (true, "8b55b9114315388311dbac99c46c548bf02a823216e6ff642fc715ec6a24bd2e"), looks := true }, kinds := [], alts := [], laidByText := true, laidKinds := [.data, .data, .data, .data, .sentinel, .sentinel, .pinned], laidTests := true, laidLooks := .later }
def RepKnownUptoCardSaid : Prop := Claim7.holds Tryz.pinned (.plain (OpenSpec.upto repKnownSpec)) repKnownUptoCard
end Rows
end Go.Proofs.YtnhomjhfaoipmaaGreatDoor
