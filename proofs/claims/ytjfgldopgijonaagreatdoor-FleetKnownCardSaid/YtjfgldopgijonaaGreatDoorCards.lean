/-
  DERIVED. GIVEN WITH THE SEED: THE CARDS: each row of YtjfgldopgijonaaGreatDoorRows.lean that lists a variable, with what it lists TIED to the program's text (the seventh form; the later family's looks); each row that meets fmt, with fmt's text TOLD by the authors' own Lean function (tested against real Go, not proved from fmt's source: count such statements apart). THE CARD IS WHAT COUNTS. Prove the row's statement (the work); the ties are given (YtjfgldopgijonaaGreatDoorTie.lean); close each card by the builder's one call (the guide's Derived/Test/ToyasCard.lean, 'card_holds'). Laid BY PROGRAM, IN A SANDBOX (cutbox-door.mjs). By AI agents, Wed Nov 11 2026. No macro, syntax, notation, axiom, sorry.
-/
import Derived.Test.YtjfgldopgijonaaGreatDoorRows
import GoSem.ClaimSeven
namespace Go.Proofs.YtjfgldopgijonaaGreatDoor
namespace Rows

/-- THE TIED CARD OF 'escapementlaw27.FleetKnown'. -/
def fleetKnownCard : Claim7 := { stood := { row := fleetKnownRow, standIns := [], harness := (true, "02aa526207f7923670ccafc083d154b90199447efec9849a3ad3c3d61beebe8b"), looks := true }, kinds := [], alts := [], laidByText := true, laidKinds := [.data, .data, .data, .data, .sentinel, .sentinel, .pinned], laidTests := true, laidLooks := .later }
def FleetKnownCardSaid : Prop := Claim7.holds Tryz.pinned (.plain (OpenSpec.ofChange fleetKnownSpec)) fleetKnownCard

/-- THE SECOND FORM's CARD OF 'escapementlaw27.FleetKnown'. -/
def fleetKnownUptoCard : Claim7 := { stood := { row := fleetKnownUptoRow, standIns := [], harness := (true, "02aa526207f7923670ccafc083d154b90199447efec9849a3ad3c3d61beebe8b"), looks := true }, kinds := [], alts := [], laidByText := true, laidKinds := [.data, .data, .data, .data, .sentinel, .sentinel, .pinned], laidTests := true, laidLooks := .later }
def FleetKnownUptoCardSaid : Prop := Claim7.holds Tryz.pinned (.plain (OpenSpec.upto fleetKnownSpec)) fleetKnownUptoCard
end Rows
end Go.Proofs.YtjfgldopgijonaaGreatDoor
