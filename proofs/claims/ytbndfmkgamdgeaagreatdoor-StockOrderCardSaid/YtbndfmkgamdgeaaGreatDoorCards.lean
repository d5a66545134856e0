/-
  DERIVED. GIVEN WITH THE SEED: THE CARDS: each row of YtbndfmkgamdgeaaGreatDoorRows.lean that lists a variable, with what it lists TIED to the program's text (the seventh form; the later family's looks); each row that meets fmt, with fmt's text TOLD by the authors' own Lean function (tested against real Go, not proved from fmt's source: count such statements apart). THE CARD IS WHAT COUNTS. Prove the row's statement (the work); the ties are given (YtbndfmkgamdgeaaGreatDoorTie.lean); close each card by the builder's one call (the guide's Derived/Test/ToyasCard.lean, 'card_holds'). Laid BY PROGRAM, IN A SANDBOX (cutbox-door.mjs). By AI agents, Wed Nov 11 2026. No macro, syntax, notation, axiom, sorry.
-/
import Derived.Test.YtbndfmkgamdgeaaGreatDoorRows
import GoSem.ClaimSeven
namespace Go.Proofs.YtbndfmkgamdgeaaGreatDoor
namespace Rows

/-- THE TIED CARD OF 'ragpickerlaw34.StockOrder'. -/
def stockOrderCard : Claim7 := { stood := { row := stockOrderRow, standIns := [], harness := (true, "cce05ccda58d2078d3f50540a40d3d630597c42d0e0a7682518c7f63ee91892b"), looks := false }, kinds := [], alts := [], laidByText := true, laidKinds := [.data, .pinned], laidTests := true, laidLooks := .later }
def StockOrderCardSaid : Prop := Claim7.holds Tryz.pinned (.plain (OpenSpec.ofChange stockOrderSpec)) stockOrderCard

/-- THE TIED CARD OF 'ragpickerlaw34.StockSizes'. -/
def stockSizesCard : Claim7 := { stood := { row := stockSizesRow, standIns := [], harness := (true, "cce05ccda58d2078d3f50540a40d3d630597c42d0e0a7682518c7f63ee91892b"), looks := false }, kinds := [], alts := [], laidByText := true, laidKinds := [.data, .pinned], laidTests := true, laidLooks := .later }
def StockSizesCardSaid : Prop := Claim7.holds Tryz.pinned (.plain (OpenSpec.ofChange stockSizesSpec)) stockSizesCard

/-- THE SECOND FORM's CARD OF 'ragpickerlaw34.StockOrder'. -/
def stockOrderUptoCard : Claim7 := { stood := { row := stockOrderUptoRow, standIns := [], harness := (true, "cce05ccda58d2078d3f50540a40d3d630597c42d0e0a7682518c7f63ee91892b"), looks := false }, kinds := [], alts := [], laidByText := true, laidKinds := [.data, .pinned], laidTests := true, laidLooks := .later }
def StockOrderUptoCardSaid : Prop := Claim7.holds Tryz.pinned (.plain (OpenSpec.upto stockOrderSpec)) stockOrderUptoCard

/-- THE SECOND FORM's CARD OF 'ragpickerlaw34.StockSizes'. -/
def stockSizesUptoCard : Claim7 := { stood := { row := stockSizesUptoRow, standIns := [], harness := (true, "cce05ccda58d2078d3f50540a40d3d630597c42d0e0a7682518c7f63ee91892b"), looks := false }, kinds := [], alts := [], laidByText := true, laidKinds := [.data, .pinned], laidTests := true, laidLooks := .later }
def StockSizesUptoCardSaid : Prop := Claim7.holds Tryz.pinned (.plain (OpenSpec.upto stockSizesSpec)) stockSizesUptoCard
end Rows
end Go.Proofs.YtbndfmkgamdgeaaGreatDoor
