/-
  DERIVED. GIVEN WITH THE SEED: THE CARDS: each row of YtcenkfhkbbbepaaGreatDoorRows.lean that lists a variable, with what it lists TIED to the program's text (the seventh form; the later family's looks); each row that meets fmt, with fmt's text TOLD by the authors' own Lean function (tested against real Go, not proved from fmt's source: count such statements apart). THE CARD IS WHAT COUNTS. Prove the row's statement (the work); the ties are given (YtcenkfhkbbbepaaGreatDoorTie.lean); close each card by the builder's one call (the guide's Derived/Test/ToyasCard.lean, 'card_holds'). Laid BY PROGRAM, IN A SANDBOX (cutbox-door.mjs). By AI agents, Wed Nov 11 2026. No macro, syntax, notation, axiom, sorry.
-/
import Derived.Test.YtcenkfhkbbbepaaGreatDoorRows
import GoSem.ClaimSeven
namespace Go.Proofs.YtcenkfhkbbbepaaGreatDoor
namespace Rows

/-- THE TIED CARD OF 'escapementlaw5.SynKnown'. -/
def synKnownCard : Claim7 := { stood := { row := synKnownRow, standIns := [], harness := (true, "bacff47afa35893aed81779ff9c346e3c9591f961080affa529d30be4351046d"), looks := true }, kinds := [], alts := [], laidByText := true, laidKinds := [.data, .data, .data, .data, .sentinel, .sentinel, .pinned], laidTests := true, laidLooks := .later }
def SynKnownCardSaid : Prop := Claim7.holds Tryz.pinned (.plain (OpenSpec.ofChange synKnownSpec)) synKnownCard

/-- THE TIED CARD OF 'escapementlaw5.SynRanks'. -/
def synRanksCard : Claim7 := { stood := { row := synRanksRow, standIns := [], harness := (true, "bacff47afa35893aed81779ff9c346e3c9591f961080affa529d30be4351046d"), looks := true }, kinds := [], alts := [], laidByText := true, laidKinds := [.data, .data, .data, .data, .sentinel, .sentinel, .pinned], laidTests := true, laidLooks := .later }
def SynRanksCardSaid : Prop := Claim7.holds Tryz.pinned (.plain (OpenSpec.ofChange synRanksSpec)) synRanksCard

/-- THE TIED CARD OF 'escapementlaw5.SynNests'. -/
def synNestsCard : Claim7 := { stood := { row := synNestsRow, standIns := [], harness := (true, "bacff47afa35893aed81779ff9c346e3c9591f961080affa529d30be4351046d"), looks := true }, kinds := [], alts := [], laidByText := true, laidKinds := [.data, .data, .data, .data, .sentinel, .sentinel, .pinned], laidTests := true, laidLooks := .later }
def SynNestsCardSaid : Prop := Claim7.holds Tryz.pinned (.plain (OpenSpec.ofChange synNestsSpec)) synNestsCard

/-- THE TIED CARD OF 'escapementlaw5.SynMany'. -/
def synManyCard : Claim7 := { stood := { row := synManyRow, standIns := [], harness := (true, "bacff47afa35893aed81779ff9c346e3c9591f961080affa529d30be4351046d"), looks := true }, kinds := [], alts := [], laidByText := true, laidKinds := [.data, .data, .data, .data, .sentinel, .sentinel, .pinned], laidTests := true, laidLooks := .later }
def SynManyCardSaid : Prop := Claim7.holds Tryz.pinned (.plain (OpenSpec.ofChange synManySpec)) synManyCard

/-- THE TIED CARD OF 'escapementlaw11.FrontKnown'. -/
def frontKnownCard : Claim7 := { stood := { row := frontKnownRow, standIns := [], harness := (true, "bacff47afa35893aed81779ff9c346e3c9591f961080affa529d30be4351046d"), looks := true }, kinds := [], alts := [], laidByText := true, laidKinds := [.data, .data, .data, .data, .sentinel, .sentinel, .pinned], laidTests := true, laidLooks := .later }
def FrontKnownCardSaid : Prop := Claim7.holds Tryz.pinned (.plain (OpenSpec.ofChange frontKnownSpec)) frontKnownCard

/-- THE TIED CARD OF 'escapementlaw11.FrontMany'. -/
def frontManyCard : Claim7 := { stood := { row := frontManyRow, standIns := [], harness := (true, "bacff47afa35893aed81779ff9c346e3c9591f961080affa529d30be4351046d"), looks := true }, kinds := [], alts := [], laidByText := true, laidKinds := [.data, .data, .data, .data, .sentinel, .sentinel, .pinned], laidTests := true, laidLooks := .later }
def FrontManyCardSaid : Prop := Claim7.holds Tryz.pinned (.plain (OpenSpec.ofChange frontManySpec)) frontManyCard

/-- THE TIED CARD OF 'escapementlaw12.MeanKnown'. -/
def meanKnownCard : Claim7 := { stood := { row := meanKnownRow, standIns := [], harness := (true, "bacff47afa35893aed81779ff9c346e3c9591f961080affa529d30be4351046d"), looks := true }, kinds := [], alts := [], laidByText := true, laidKinds := [.data, .data, .data, .data, .sentinel, .sentinel, .pinned], laidTests := true, laidLooks := .later }
def MeanKnownCardSaid : Prop := Claim7.holds Tryz.pinned (.plain (OpenSpec.ofChange meanKnownSpec)) meanKnownCard

/-- THE TIED CARD OF 'escapementlaw12.MeanOps'. -/
def meanOpsCard : Claim7 := { stood := { row := meanOpsRow, standIns := [], harness := (true, "bacff47afa35893aed81779ff9c346e3c9591f961080affa529d30be4351046d"), looks := true }, kinds := [], alts := [], laidByText := true, laidKinds := [.data, .data, .data, .data, .sentinel, .sentinel, .pinned], laidTests := true, laidLooks := .later }
def MeanOpsCardSaid : Prop := Claim7.holds Tryz.pinned (.plain (OpenSpec.ofChange meanOpsSpec)) meanOpsCard

/-- THE SECOND FORM's CARD OF 'escapementlaw5.SynKnown'. -/
def synKnownUptoCard : Claim7 := { stood := { row := synKnownUptoRow, standIns := [], harness := (true, "bacff47afa35893aed81779ff9c346e3c9591f961080affa529d30be4351046d"), looks := true }, kinds := [], alts := [], laidByText := true, laidKinds := [.data, .data, .data, .data, .sentinel, .sentinel, .pinned], laidTests := true, laidLooks := .later }
def SynKnownUptoCardSaid : Prop := Claim7.holds Tryz.pinned (.plain (OpenSpec.upto synKnownSpec)) synKnownUptoCard

/-- THE SECOND FORM's CARD OF 'escapementlaw5.SynRanks'. -/
def synRanksUptoCard : Claim7 := { stood := { row := synRanksUptoRow, standIns := [], harness := (true, "bacff47afa35893aed81779ff9c346e3c9591f961080affa529d30be4351046d"), looks := true }, kinds := [], alts := [], laidByText := true, laidKinds := [.data, .data, .data, .data, .sentinel, .sentinel, .pinned], laidTests := true, laidLooks := .later }
def SynRanksUptoCardSaid : Prop := Claim7.holds Tryz.pinned (.plain (OpenSpec.upto synRanksSpec)) synRanksUptoCard

/-- THE SECOND FORM's CARD OF 'escapementlaw5.SynNests'. -/
def synNestsUptoCard : Claim7 := { stood := { row := synNestsUptoRow, standIns := [], harness := (true, "bacff47afa35893aed81779ff9c346e3c9591f961080affa529d30be4351046d"), looks := true }, kinds := [], alts := [], laidByText := true, laidKinds := [.data, .data, .data, .data, .sentinel, .sentinel, .pinned], laidTests := true, laidLooks := .later }
def SynNestsUptoCardSaid : Prop := Claim7.holds Tryz.pinned (.plain (OpenSpec.upto synNestsSpec)) synNestsUptoCard

/-- THE SECOND FORM's CARD OF 'escapementlaw5.SynMany'. -/
def synManyUptoCard : Claim7 := { stood := { row := synManyUptoRow, standIns := [], harness := (true, "bacff47afa35893aed81779ff9c346e3c9591f961080affa529d30be4351046d"), looks := true }, kinds := [], alts := [], laidByText := true, laidKinds := [.data, .data, .data, .data, .sentinel, .sentinel, .pinned], laidTests := true, laidLooks := .later }
def SynManyUptoCardSaid : Prop := Claim7.holds Tryz.pinned (.plain (OpenSpec.upto synManySpec)) synManyUptoCard

/-- THE SECOND FORM's CARD OF 'escapementlaw11.FrontKnown'. -/
def frontKnownUptoCard : Claim7 := { stood := { row := frontKnownUptoRow, standIns := [], harness := (true, "bacff47afa35893aed81779ff9c346e3c9591f961080affa529d30be4351046d"), looks := true }, kinds := [], alts := [], laidByText := true, laidKinds := [.data, .data, .data, .data, .sentinel, .sentinel, .pinned], laidTests := true, laidLooks := .later }
def FrontKnownUptoCardSaid : Prop := Claim7.holds Tryz.pinned (.plain (OpenSpec.upto frontKnownSpec)) frontKnownUptoCard

/-- THE SECOND FORM's CARD OF 'escapementlaw11.FrontMany'. -/
def frontManyUptoCard : Claim7 := { stood := { row := frontManyUptoRow, standIns := [], harness := (true, "bacff47afa35893aed81779ff9c346e3c9591f961080affa529d30be4351046d"), looks := true }, kinds := [], alts := [], laidByText := true, laidKinds := [.data, .data, .data, .data, .sentinel, .sentinel, .pinned], laidTests := true, laidLooks := .later }
def FrontManyUptoCardSaid : Prop := Claim7.holds Tryz.pinned (.plain (OpenSpec.upto frontManySpec)) frontManyUptoCard

/-- THE SECOND FORM's CARD OF 'escapementlaw12.MeanKnown'. -/
def meanKnownUptoCard : Claim7 := { stood := { row := meanKnownUptoRow, standIns := [], harness := (true, "bacff47afa35893aed81779ff9c346e3c9591f961080affa529d30be4351046d"), looks := true }, kinds := [], alts := [], laidByText := true, laidKinds := [.data, .data, .data, .data, .sentinel, .sentinel, .pinned], laidTests := true, laidLooks := .later }
def MeanKnownUptoCardSaid : Prop := Claim7.holds Tryz.pinned (.plain (OpenSpec.upto meanKnownSpec)) meanKnownUptoCard

/-- THE SECOND FORM's CARD OF 'escapementlaw12.MeanOps'. -/
def meanOpsUptoCard : Claim7 := { stood := { row := meanOpsUptoRow, standIns := [], harness := (true, "bacff47afa35893aed81779ff9c346e3c9591f961080affa529d30be4351046d"), looks := true }, kinds := [], alts := [], laidByText := true, laidKinds := [.data, .data, .data, .data, .sentinel, .sentinel, .pinned], laidTests := true, laidLooks := .later }
def MeanOpsUptoCardSaid : Prop := Claim7.holds Tryz.pinned (.plain (OpenSpec.upto meanOpsSpec)) meanOpsUptoCard
end Rows
end Go.Proofs.YtcenkfhkbbbepaaGreatDoor
