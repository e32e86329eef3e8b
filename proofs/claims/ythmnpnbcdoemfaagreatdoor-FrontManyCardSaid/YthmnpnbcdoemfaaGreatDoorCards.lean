/-
  DERIVED. GIVEN WITH THE SEED: THE CARDS: each row of YthmnpnbcdoemfaaGreatDoorRows.lean that lists a variable, with what it lists TIED to the program's text (the seventh form; the later family's looks); each row that meets fmt, with fmt's text TOLD by the authors' own Lean function (tested against real Go, not proved from fmt's source: count such statements apart). THE CARD IS WHAT COUNTS. Prove the row's statement (the work); the ties are given (YthmnpnbcdoemfaaGreatDoorTie.lean); close each card by the builder's one call (the guide's Derived/Test/ToyasCard.lean, 'card_holds'). Laid BY PROGRAM, IN A SANDBOX (cutbox-door.mjs). By AI agents, Wed Nov 11 2026. No macro, syntax, notation, axiom, sorry.
-/
import Derived.Test.YthmnpnbcdoemfaaGreatDoorRows
import GoSem.ClaimSeven
namespace Go.Proofs.YthmnpnbcdoemfaaGreatDoor
namespace Rows

/-- THE TIED CARD OF 'escapementlaw11.FrontMany'. -/
def frontManyCard : Claim7 := { stood := { row := frontManyRow, standIns := [], harness := (true, "b03af56cf00e69269a9a99e0009e3f76e0c387d26113b82c7409c57b2d62c8ec"), looks := true }, kinds := [], alts := [], laidByText := true, laidKinds := [.data, .data, .data, .data, .sentinel, .sentinel, .pinned], laidTests := true, laidLooks := .later }
def FrontManyCardSaid : Prop := Claim7.holds Tryz.pinned (.plain (OpenSpec.ofChange frontManySpec)) frontManyCard

/-- THE TIED CARD OF 'escapementlaw18.CompKnown'. -/
def compKnownCard : Claim7 := { stood := { row := compKnownRow, standIns := [], harness := (true, "b03af56cf00e69269a9a99e0009e3f76e0c387d26113b82c7409c57b2d62c8ec"), looks := true }, kinds := [], alts := [], laidByText := true, laidKinds := [.data, .data, .data, .data, .sentinel, .sentinel, .pinned], laidTests := true, laidLooks := .later }
def CompKnownCardSaid : Prop := Claim7.holds Tryz.pinned (.plain (OpenSpec.ofChange compKnownSpec)) compKnownCard

/-- THE SECOND FORM's CARD OF 'escapementlaw11.FrontMany'. -/
def frontManyUptoCard : Claim7 := { stood := { row := frontManyUptoRow, standIns := [], harness := (true, "b03af56cf00e69269a9a99e0009e3f76e0c387d26113b82c7409c57b2d62c8ec"), looks := true }, kinds := [], alts := [], laidByText := true, laidKinds := [.data, .data, .data, .data, .sentinel, .sentinel, .pinned], laidTests := true, laidLooks := .later }
def FrontManyUptoCardSaid : Prop := Claim7.holds Tryz.pinned (.plain (OpenSpec.upto frontManySpec)) frontManyUptoCard

/-- THE SECOND FORM's CARD OF 'escapementlaw18.CompKnown'. -/
def compKnownUptoCard : Claim7 := { stood := { row := compKnownUptoRow, standIns := [], harness := (true, "b03af56cf00e69269a9a99e0009e3f76e0c387d26113b82c7409c57b2d62c8ec"), looks := true }, kinds := [], alts := [], laidByText := true, laidKinds := [.data, .data, .data, .data, .sentinel, .sentinel, .pinned], laidTests := true, laidLooks := .later }
def CompKnownUptoCardSaid : Prop := Claim7.holds Tryz.pinned (.plain (OpenSpec.upto compKnownSpec)) compKnownUptoCard
end Rows
end Go.Proofs.YthmnpnbcdoemfaaGreatDoor
