/-
  DERIVED. GIVEN WITH THE SEED: THE CARDS: each row of YtekbjlihciedjaaGreatDoorRows.lean that lists a variable, with what it lists TIED to the program's text (the seventh form; the later family's looks); each row that meets fmt, with fmt's text TOLD by the authors' own Lean function (tested against real Go, not proved from fmt's source: count such statements apart). THE CARD IS WHAT COUNTS. Prove the row's statement (the work); the ties are given (YtekbjlihciedjaaGreatDoorTie.lean); close each card by the builder's one call (the guide's Derived/Test/ToyasCard.lean, 'card_holds'). Laid BY PROGRAM, IN A SANDBOX (cutbox-door.mjs). By AI agents, Wed Nov 11 2026. No macro, syntax, notation, axiom, sorry.
-/
import Derived.Test.YtekbjlihciedjaaGreatDoorRows
import GoSem.ClaimSeven
namespace Go.Proofs.YtekbjlihciedjaaGreatDoor
namespace Rows

/-- THE TIED CARD OF 'escapementlaw26.RepRaw'. -/
def repRawCard : Claim7 := { stood := { row := repRawRow, standIns := [], harness := (true, "bc57e41f13c67136db8ffee20bd3d9e64fd37f09e361d63bfb1478388933ba2d"), looks := true }, kinds := [], alts := [], laidByText := true, laidKinds := [.data, .data, .data, .data, .sentinel, .sentinel, .pinned], laidTests := true, laidLooks := .later }
def RepRawCardSaid : Prop := Claim7.holds Tryz.pinned (.plain (OpenSpec.ofChange repRawSpec)) repRawCard

/-- THE TIED CARD OF 'escapementlaw26.RepLives'. -/
def repLivesCard : Claim7 := { stood := { row := repLivesRow, standIns := [], harness := (true, "bc57e41f13c67136db8ffee20bd3d9e64fd37f09e361d63bfb1478388933ba2d"), looks := true }, kinds := [], alts := [], laidByText := true, laidKinds := [.data, .data, .data, .data, .sentinel, .sentinel, .pinned], laidTests := true, laidLooks := .later }
def RepLivesCardSaid : Prop := Claim7.holds Tryz.pinned (.plain (OpenSpec.ofChange repLivesSpec)) repLivesCard

/-- THE TIED CARD OF 'escapementlaw26.RepRefuses'. -/
def repRefusesCard : Claim7 := { stood := { row := repRefusesRow, standIns := [], harness := (true, "bc57e41f13c67136db8ffee20bd3d9e64fd37f09e361d63bfb1478388933ba2d"), looks := true }, kinds := [], alts := [], laidByText := true, laidKinds := [.data, .data, .data, .data, .sentinel, .sentinel, .pinned], laidTests := true, laidLooks := .later }
def RepRefusesCardSaid : Prop := Claim7.holds Tryz.pinned (.plain (OpenSpec.ofChange repRefusesSpec)) repRefusesCard

/-- THE SECOND FORM's CARD OF 'escapementlaw26.RepRaw'. -/
def repRawUptoCard : Claim7 := { stood := { row := repRawUptoRow, standIns := [], harness := (true, "bc57e41f13c67136db8ffee20bd3d9e64fd37f09e361d63bfb1478388933ba2d"), looks := true }, kinds := [], alts := [], laidByText := true, laidKinds := [.data, .data, .data, .data, .sentinel, .sentinel, .pinned], laidTests := true, laidLooks := .later }
def RepRawUptoCardSaid : Prop := Claim7.holds Tryz.pinned (.plain (OpenSpec.upto repRawSpec)) repRawUptoCard

/-- THE SECOND FORM's CARD OF 'escapementlaw26.RepLives'. -/
def repLivesUptoCard : Claim7 := { stood := { row := repLivesUptoRow, standIns := [], harness := (true, "bc57e41f13c67136db8ffee20bd3d9e64fd37f09e361d63bfb1478388933ba2d"), looks := true }, kinds := [], alts := [], laidByText := true, laidKinds := [.data, .data, .data, .data, .sentinel, .sentinel, .pinned], laidTests := true, laidLooks := .later }
def RepLivesUptoCardSaid : Prop := Claim7.holds Tryz.pinned (.plain (OpenSpec.upto repLivesSpec)) repLivesUptoCard

/-- THE SECOND FORM's CARD OF 'escapementlaw26.RepRefuses'. -/
def repRefusesUptoCard : Claim7 := { stood := { row := repRefusesUptoRow, standIns := [], harness := (true, "bc57e41f13c67136db8ffee20bd3d9e64fd37f09e361d63bfb1478388933ba2d"), looks := true }, kinds := [], alts := [], laidByText := true, laidKinds := [.data, .data, .data, .data, .sentinel, .sentinel, .pinned], laidTests := true, laidLooks := .later }
def RepRefusesUptoCardSaid : Prop := Claim7.holds Tryz.pinned (.plain (OpenSpec.upto repRefusesSpec)) repRefusesUptoCard
end Rows
end Go.Proofs.YtekbjlihciedjaaGreatDoor
