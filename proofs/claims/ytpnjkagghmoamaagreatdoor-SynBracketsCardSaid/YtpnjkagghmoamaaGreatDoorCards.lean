/-
  DERIVED. GIVEN WITH THE SEED: THE CARDS: each row of YtpnjkagghmoamaaGreatDoorRows.lean that lists a variable, with what it lists TIED to the program's text (the seventh form; the later family's looks); each row that meets fmt, with fmt's text TOLD by the authors' own Lean function (tested against real Go, not proved from fmt's source: count such statements apart). THE CARD IS WHAT COUNTS. Prove the row's statement (the work); the ties are given (YtpnjkagghmoamaaGreatDoorTie.lean); close each card by the builder's one call (the guide's Derived/Test/ToyasCard.lean, 'card_holds'). Laid BY PROGRAM, IN A SANDBOX (cutbox-door.mjs). By AI agents, Wed Nov 11 2026. No macro, syntax, notation, axiom, sorry.
-/
import Derived.Test.YtpnjkagghmoamaaGreatDoorRows
import GoSem.ClaimSeven
namespace Go.Proofs.YtpnjkagghmoamaaGreatDoor
namespace Rows

/-- THE TIED CARD OF 'escapementlaw5.SynBack'. -/
def synBackCard : Claim7 := { stood := { row := synBackRow, standIns := [], harness := (true, "ebfe3474fcea87b155ea40792df6bc43437d9111e2b16ffc2816cc943f7d4da6"), looks := true }, kinds := [], alts := [], laidByText := true, laidKinds := [.data, .data, .data, .data, .sentinel, .sentinel, .pinned], laidTests := true, laidLooks := .later }
def SynBackCardSaid : Prop := Claim7.holds Tryz.pinned (.plain (OpenSpec.ofChange synBackSpec)) synBackCard

/-- THE TIED CARD OF 'escapementlaw5.SynSame'. -/
def synSameCard : Claim7 := { stood := { row := synSameRow, standIns := [], harness := (true, "ebfe3474fcea87b155ea40792df6bc43437d9111e2b16ffc2816cc943f7d4da6"), looks := true }, kinds := [], alts := [], laidByText := true, laidKinds := [.data, .data, .data, .data, .sentinel, .sentinel, .pinned], laidTests := true, laidLooks := .later }
def SynSameCardSaid : Prop := Claim7.holds Tryz.pinned (.plain (OpenSpec.ofChange synSameSpec)) synSameCard

/-- THE TIED CARD OF 'escapementlaw5.SynBrackets'. -/
def synBracketsCard : Claim7 := { stood := { row := synBracketsRow, standIns := [], harness := (true, "ebfe3474fcea87b155ea40792df6bc43437d9111e2b16ffc2816cc943f7d4da6"), looks := true }, kinds := [], alts := [], laidByText := true, laidKinds := [.data, .data, .data, .data, .sentinel, .sentinel, .pinned], laidTests := true, laidLooks := .later }
def SynBracketsCardSaid : Prop := Claim7.holds Tryz.pinned (.plain (OpenSpec.ofChange synBracketsSpec)) synBracketsCard

/-- THE TIED CARD OF 'escapementlaw11.FrontMany'. -/
def frontManyCard : Claim7 := { stood := { row := frontManyRow, standIns := [], harness := (true, "ebfe3474fcea87b155ea40792df6bc43437d9111e2b16ffc2816cc943f7d4da6"), looks := true }, kinds := [], alts := [], laidByText := true, laidKinds := [.data, .data, .data, .data, .sentinel, .sentinel, .pinned], laidTests := true, laidLooks := .later }
def FrontManyCardSaid : Prop := Claim7.holds Tryz.pinned (.plain (OpenSpec.ofChange frontManySpec)) frontManyCard

/-- THE TIED CARD OF 'escapementlaw18.CompKnown'. -/
def compKnownCard : Claim7 := { stood := { row := compKnownRow, standIns := [], harness := (true, "ebfe3474fcea87b155ea40792df6bc43437d9111e2b16ffc2816cc943f7d4da6"), looks := true }, kinds := [], alts := [], laidByText := true, laidKinds := [.data, .data, .data, .data, .sentinel, .sentinel, .pinned], laidTests := true, laidLooks := .later }
def CompKnownCardSaid : Prop := Claim7.holds Tryz.pinned (.plain (OpenSpec.ofChange compKnownSpec)) compKnownCard

/-- THE SECOND FORM's CARD OF 'escapementlaw5.SynBack'. -/
def synBackUptoCard : Claim7 := { stood := { row := synBackUptoRow, standIns := [], harness := (true, "ebfe3474fcea87b155ea40792df6bc43437d9111e2b16ffc2816cc943f7d4da6"), looks := true }, kinds := [], alts := [], laidByText := true, laidKinds := [.data, .data, .data, .data, .sentinel, .sentinel, .pinned], laidTests := true, laidLooks := .later }
def SynBackUptoCardSaid : Prop := Claim7.holds Tryz.pinned (.plain (OpenSpec.upto synBackSpec)) synBackUptoCard

/-- THE SECOND FORM's CARD OF 'escapementlaw5.SynSame'. -/
def synSameUptoCard : Claim7 := { stood := { row := synSameUptoRow, standIns := [], harness := (true, "ebfe3474fcea87b155ea40792df6bc43437d9111e2b16ffc2816cc943f7d4da6"), looks := true }, kinds := [], alts := [], laidByText := true, laidKinds := [.data, .data, .data, .data, .sentinel, .sentinel, .pinned], laidTests := true, laidLooks := .later }
def SynSameUptoCardSaid : Prop := Claim7.holds Tryz.pinned (.plain (OpenSpec.upto synSameSpec)) synSameUptoCard

/-- THE SECOND FORM's CARD OF 'escapementlaw5.SynBrackets'. -/
def synBracketsUptoCard : Claim7 := { stood := { row := synBracketsUptoRow, standIns := [], harness := (true, "ebfe3474fcea87b155ea40792df6bc43437d9111e2b16ffc2816cc943f7d4da6"), looks := true }, kinds := [], alts := [], laidByText := true, laidKinds := [.data, .data, .data, .data, .sentinel, .sentinel, .pinned], laidTests := true, laidLooks := .later }
def SynBracketsUptoCardSaid : Prop := Claim7.holds Tryz.pinned (.plain (OpenSpec.upto synBracketsSpec)) synBracketsUptoCard

/-- THE SECOND FORM's CARD OF 'escapementlaw11.FrontMany'. -/
def frontManyUptoCard : Claim7 := { stood := { row := frontManyUptoRow, standIns := [], harness := (true, "ebfe3474fcea87b155ea40792df6bc43437d9111e2b16ffc2816cc943f7d4da6"), looks := true }, kinds := [], alts := [], laidByText := true, laidKinds := [.data, .data, .data, .data, .sentinel, .sentinel, .pinned], laidTests := true, laidLooks := .later }
def FrontManyUptoCardSaid : Prop := Claim7.holds Tryz.pinned (.plain (OpenSpec.upto frontManySpec)) frontManyUptoCard

/-- THE SECOND FORM's CARD OF 'escapementlaw18.CompKnown'. -/
def compKnownUptoCard : Claim7 := { stood := { row := compKnownUptoRow, standIns := [], harness := (true, "ebfe3474fcea87b155ea40792df6bc43437d9111e2b16ffc2816cc943f7d4da6"), looks := true }, kinds := [], alts := [], laidByText := true, laidKinds := [.data, .data, .data, .data, .sentinel, .sentinel, .pinned], laidTests := true, laidLooks := .later }
def CompKnownUptoCardSaid : Prop := Claim7.holds Tryz.pinned (.plain (OpenSpec.upto compKnownSpec)) compKnownUptoCard
end Rows
end Go.Proofs.YtpnjkagghmoamaaGreatDoor
