/-
  DERIVED. GIVEN WITH THE SEED: THE CARDS: each row of YtbakbednenfofaaGreatDoorRows.lean that lists a variable, with what it lists TIED to the program's text (the seventh form; the later family's looks); each row that meets fmt, with fmt's text TOLD by the authors' own Lean function (tested against real Go, not proved from fmt's source: count such statements apart). THE CARD IS WHAT COUNTS. Prove the row's statement (the work); the ties are given (YtbakbednenfofaaGreatDoorTie.lean); close each card by the builder's one call (the guide's Derived/Test/ToyasCard.lean, 'card_holds'). Laid BY PROGRAM, IN A SANDBOX (cutbox-door.mjs). By AI agents, Wed Nov 11 2026. No macro, syntax, notation, axiom, sorry.
-/
import Derived.Test.YtbakbednenfofaaGreatDoorRows
import GoSem.ClaimSeven
namespace Go.Proofs.YtbakbednenfofaaGreatDoor
namespace Rows

/-- THE TIED CARD OF 'escapementlaw5.SynBack'. -/
def synBackCard : Claim7 := { stood := { row := synBackRow, standIns := [], harness := (true, "a3a4b5312b8b90161197b0dd4b0e2cf09fc93d0d682f2f9ec30521ec495a1e0b"), looks := true }, kinds := [], alts := [], laidByText := true, laidKinds := [.data, .data, .data, .data, .sentinel, .sentinel, .pinned], laidTests := true, laidLooks := .later }
def SynBackCardSaid : Prop := Claim7.holds Tryz.pinned (.plain (OpenSpec.ofChange synBackSpec)) synBackCard

/-- THE TIED CARD OF 'escapementlaw5.SynSame'. -/
def synSameCard : Claim7 := { stood := { row := synSameRow, standIns := [], harness := (true, "a3a4b5312b8b90161197b0dd4b0e2cf09fc93d0d682f2f9ec30521ec495a1e0b"), looks := true }, kinds := [], alts := [], laidByText := true, laidKinds := [.data, .data, .data, .data, .sentinel, .sentinel, .pinned], laidTests := true, laidLooks := .later }
def SynSameCardSaid : Prop := Claim7.holds Tryz.pinned (.plain (OpenSpec.ofChange synSameSpec)) synSameCard

/-- THE SECOND FORM's CARD OF 'escapementlaw5.SynBack'. -/
def synBackUptoCard : Claim7 := { stood := { row := synBackUptoRow, standIns := [], harness := (true, "a3a4b5312b8b90161197b0dd4b0e2cf09fc93d0d682f2f9ec30521ec495a1e0b"), looks := true }, kinds := [], alts := [], laidByText := true, laidKinds := [.data, .data, .data, .data, .sentinel, .sentinel, .pinned], laidTests := true, laidLooks := .later }
def SynBackUptoCardSaid : Prop := Claim7.holds Tryz.pinned (.plain (OpenSpec.upto synBackSpec)) synBackUptoCard

/-- THE SECOND FORM's CARD OF 'escapementlaw5.SynSame'. -/
def synSameUptoCard : Claim7 := { stood := { row := synSameUptoRow, standIns := [], harness := (true, "a3a4b5312b8b90161197b0dd4b0e2cf09fc93d0d682f2f9ec30521ec495a1e0b"), looks := true }, kinds := [], alts := [], laidByText := true, laidKinds := [.data, .data, .data, .data, .sentinel, .sentinel, .pinned], laidTests := true, laidLooks := .later }
def SynSameUptoCardSaid : Prop := Claim7.holds Tryz.pinned (.plain (OpenSpec.upto synSameSpec)) synSameUptoCard
end Rows
end Go.Proofs.YtbakbednenfofaaGreatDoor
