/-
  DERIVED. GIVEN WITH THE SEED: THE CARDS: each row of YtnnlgafmpobdhaaGreatDoorRows.lean that lists a variable, with what it lists TIED to the program's text (the seventh form; the later family's looks); each row that meets fmt, with fmt's text TOLD by the authors' own Lean function (tested against real Go, not proved from fmt's source: count such statements apart). THE CARD IS WHAT COUNTS. Prove the row's statement (the work); the ties are given (YtnnlgafmpobdhaaGreatDoorTie.lean); close each card by the builder's one call (the guide's Derived/Test/ToyasCard.lean, 'card_holds'). Laid BY PROGRAM, IN A SANDBOX (cutbox-door.mjs). By AI agents, Wed Nov 11 2026. No macro, syntax, notation, axiom, sorry.
-/
import Derived.Test.YtnnlgafmpobdhaaGreatDoorRows
import GoSem.ClaimSeven
namespace Go.Proofs.YtnnlgafmpobdhaaGreatDoor
namespace Rows

/-- THE TIED CARD OF 'escapementlaw12.MeanOps'. -/
def meanOpsCard : Claim7 := { stood := { row := meanOpsRow, standIns := [], harness := (true, "cafb24869e3bfb8967f0d6337ab7ea74fbea57189c1e3b61cb3ecf6addf916be"), looks := true }, kinds := [], alts := [], laidByText := true, laidKinds := [.data, .data, .data, .data, .sentinel, .sentinel, .pinned], laidTests := true, laidLooks := .later }
def MeanOpsCardSaid : Prop := Claim7.holds Tryz.pinned (.plain (OpenSpec.ofChange meanOpsSpec)) meanOpsCard

/-- THE TIED CARD OF 'escapementlaw12.MeanDelays'. -/
def meanDelaysCard : Claim7 := { stood := { row := meanDelaysRow, standIns := [], harness := (true, "cafb24869e3bfb8967f0d6337ab7ea74fbea57189c1e3b61cb3ecf6addf916be"), looks := true }, kinds := [], alts := [], laidByText := true, laidKinds := [.data, .data, .data, .data, .sentinel, .sentinel, .pinned], laidTests := true, laidLooks := .later }
def MeanDelaysCardSaid : Prop := Claim7.holds Tryz.pinned (.plain (OpenSpec.ofChange meanDelaysSpec)) meanDelaysCard

/-- THE TIED CARD OF 'escapementlaw12.MeanSums'. -/
def meanSumsCard : Claim7 := { stood := { row := meanSumsRow, standIns := [], harness := (true, "cafb24869e3bfb8967f0d6337ab7ea74fbea57189c1e3b61cb3ecf6addf916be"), looks := true }, kinds := [], alts := [], laidByText := true, laidKinds := [.data, .data, .data, .data, .sentinel, .sentinel, .pinned], laidTests := true, laidLooks := .later }
def MeanSumsCardSaid : Prop := Claim7.holds Tryz.pinned (.plain (OpenSpec.ofChange meanSumsSpec)) meanSumsCard

/-- THE TIED CARD OF 'escapementlaw12.MeanHolds'. -/
def meanHoldsCard : Claim7 := { stood := { row := meanHoldsRow, standIns := [], harness := (true, "cafb24869e3bfb8967f0d6337ab7ea74fbea57189c1e3b61cb3ecf6addf916be"), looks := true }, kinds := [], alts := [], laidByText := true, laidKinds := [.data, .data, .data, .data, .sentinel, .sentinel, .pinned], laidTests := true, laidLooks := .later }
def MeanHoldsCardSaid : Prop := Claim7.holds Tryz.pinned (.plain (OpenSpec.ofChange meanHoldsSpec)) meanHoldsCard

/-- THE TIED CARD OF 'escapementlaw12.MeanApart'. -/
def meanApartCard : Claim7 := { stood := { row := meanApartRow, standIns := [], harness := (true, "cafb24869e3bfb8967f0d6337ab7ea74fbea57189c1e3b61cb3ecf6addf916be"), looks := true }, kinds := [], alts := [], laidByText := true, laidKinds := [.data, .data, .data, .data, .sentinel, .sentinel, .pinned], laidTests := true, laidLooks := .later }
def MeanApartCardSaid : Prop := Claim7.holds Tryz.pinned (.plain (OpenSpec.ofChange meanApartSpec)) meanApartCard

/-- THE TIED CARD OF 'escapementlaw12.MeanBeneath'. -/
def meanBeneathCard : Claim7 := { stood := { row := meanBeneathRow, standIns := [], harness := (true, "cafb24869e3bfb8967f0d6337ab7ea74fbea57189c1e3b61cb3ecf6addf916be"), looks := true }, kinds := [], alts := [], laidByText := true, laidKinds := [.data, .data, .data, .data, .sentinel, .sentinel, .pinned], laidTests := true, laidLooks := .later }
def MeanBeneathCardSaid : Prop := Claim7.holds Tryz.pinned (.plain (OpenSpec.ofChange meanBeneathSpec)) meanBeneathCard

/-- THE TIED CARD OF 'escapementlaw12.MeanFirst'. -/
def meanFirstCard : Claim7 := { stood := { row := meanFirstRow, standIns := [], harness := (true, "cafb24869e3bfb8967f0d6337ab7ea74fbea57189c1e3b61cb3ecf6addf916be"), looks := true }, kinds := [], alts := [], laidByText := true, laidKinds := [.data, .data, .data, .data, .sentinel, .sentinel, .pinned], laidTests := true, laidLooks := .later }
def MeanFirstCardSaid : Prop := Claim7.holds Tryz.pinned (.plain (OpenSpec.ofChange meanFirstSpec)) meanFirstCard

/-- THE SECOND FORM's CARD OF 'escapementlaw12.MeanOps'. -/
def meanOpsUptoCard : Claim7 := { stood := { row := meanOpsUptoRow, standIns := [], harness := (true, "cafb24869e3bfb8967f0d6337ab7ea74fbea57189c1e3b61cb3ecf6addf916be"), looks := true }, kinds := [], alts := [], laidByText := true, laidKinds := [.data, .data, .data, .data, .sentinel, .sentinel, .pinned], laidTests := true, laidLooks := .later }
def MeanOpsUptoCardSaid : Prop := Claim7.holds Tryz.pinned (.plain (OpenSpec.upto meanOpsSpec)) meanOpsUptoCard

/-- THE SECOND FORM's CARD OF 'escapementlaw12.MeanDelays'. -/
def meanDelaysUptoCard : Claim7 := { stood := { row := meanDelaysUptoRow, standIns := [], harness := (true, "cafb24869e3bfb8967f0d6337ab7ea74fbea57189c1e3b61cb3ecf6addf916be"), looks := true }, kinds := [], alts := [], laidByText := true, laidKinds := [.data, .data, .data, .data, .sentinel, .sentinel, .pinned], laidTests := true, laidLooks := .later }
def MeanDelaysUptoCardSaid : Prop := Claim7.holds Tryz.pinned (.plain (OpenSpec.upto meanDelaysSpec)) meanDelaysUptoCard

/-- THE SECOND FORM's CARD OF 'escapementlaw12.MeanSums'. -/
def meanSumsUptoCard : Claim7 := { stood := { row := meanSumsUptoRow, standIns := [], harness := (true, "cafb24869e3bfb8967f0d6337ab7ea74fbea57189c1e3b61cb3ecf6addf916be"), looks := true }, kinds := [], alts := [], laidByText := true, laidKinds := [.data, .data, .data, .data, .sentinel, .sentinel, .pinned], laidTests := true, laidLooks := .later }
def MeanSumsUptoCardSaid : Prop := Claim7.holds Tryz.pinned (.plain (OpenSpec.upto meanSumsSpec)) meanSumsUptoCard

/-- THE SECOND FORM's CARD OF 'escapementlaw12.MeanHolds'. -/
def meanHoldsUptoCard : Claim7 := { stood := { row := meanHoldsUptoRow, standIns := [], harness := (true, "cafb24869e3bfb8967f0d6337ab7ea74fbea57189c1e3b61cb3ecf6addf916be"), looks := true }, kinds := [], alts := [], laidByText := true, laidKinds := [.data, .data, .data, .data, .sentinel, .sentinel, .pinned], laidTests := true, laidLooks := .later }
def MeanHoldsUptoCardSaid : Prop := Claim7.holds Tryz.pinned (.plain (OpenSpec.upto meanHoldsSpec)) meanHoldsUptoCard

/-- THE SECOND FORM's CARD OF 'escapementlaw12.MeanApart'. -/
def meanApartUptoCard : Claim7 := { stood := { row := meanApartUptoRow, standIns := [], harness := (true, "cafb24869e3bfb8967f0d6337ab7ea74fbea57189c1e3b61cb3ecf6addf916be"), looks := true }, kinds := [], alts := [], laidByText := true, laidKinds := [.data, .data, .data, .data, .sentinel, .sentinel, .pinned], laidTests := true, laidLooks := .later }
def MeanApartUptoCardSaid : Prop := Claim7.holds Tryz.pinned (.plain (OpenSpec.upto meanApartSpec)) meanApartUptoCard

/-- THE SECOND FORM's CARD OF 'escapementlaw12.MeanBeneath'. -/
def meanBeneathUptoCard : Claim7 := { stood := { row := meanBeneathUptoRow, standIns := [], harness := (true, "cafb24869e3bfb8967f0d6337ab7ea74fbea57189c1e3b61cb3ecf6addf916be"), looks := true }, kinds := [], alts := [], laidByText := true, laidKinds := [.data, .data, .data, .data, .sentinel, .sentinel, .pinned], laidTests := true, laidLooks := .later }
def MeanBeneathUptoCardSaid : Prop := Claim7.holds Tryz.pinned (.plain (OpenSpec.upto meanBeneathSpec)) meanBeneathUptoCard

/-- THE SECOND FORM's CARD OF 'escapementlaw12.MeanFirst'. -/
def meanFirstUptoCard : Claim7 := { stood := { row := meanFirstUptoRow, standIns := [], harness := (true, "cafb24869e3bfb8967f0d6337ab7ea74fbea57189c1e3b61cb3ecf6addf916be"), looks := true }, kinds := [], alts := [], laidByText := true, laidKinds := [.data, .data, .data, .data, .sentinel, .sentinel, .pinned], laidTests := true, laidLooks := .later }
def MeanFirstUptoCardSaid : Prop := Claim7.holds Tryz.pinned (.plain (OpenSpec.upto meanFirstSpec)) meanFirstUptoCard
end Rows
end Go.Proofs.YtnnlgafmpobdhaaGreatDoor
