/-
  DERIVED. GIVEN WITH THE SEED: THE CARDS: each row of YtkkiglagdojnlaaGreatDoorRows.lean that lists a variable, with what it lists TIED to the program's text (the seventh form; the later family's looks); each row that meets fmt, with fmt's text TOLD by the authors' own Lean function (tested against real Go, not proved from fmt's source: count such statements apart). THE CARD IS WHAT COUNTS. Prove the row's statement (the work); the ties are given (YtkkiglagdojnlaaGreatDoorTie.lean); close each card by the builder's one call (the guide's Derived/Test/ToyasCard.lean, 'card_holds'). Laid BY PROGRAM, IN A SANDBOX (cutbox-door.mjs). By AI agents, Wed Nov 11 2026. No macro, syntax, notation, axiom, sorry.
-/
import Derived.Test.YtkkiglagdojnlaaGreatDoorRows
import GoSem.ClaimSeven
namespace Go.Proofs.YtkkiglagdojnlaaGreatDoor
namespace Rows

/-- THE TIED CARD OF 'ragpickerlaw34.StockOrder'. -/
def stockOrderCard : Claim7 := { stood := { row := stockOrderRow, standIns := [], harness := (true, "38b2a04164ed37673c7c3d6ab5ba41d43a8a931a6aab2b8a11f8b688a58f2592"), looks := false }, kinds := [], alts := [], laidByText := true, laidKinds := [.data, .pinned], laidTests := true, laidLooks := .later }
def StockOrderCardSaid : Prop := Claim7.holds Tryz.pinned (.plain (OpenSpec.ofChange stockOrderSpec)) stockOrderCard

/-- THE TIED CARD OF 'ragpickerlaw34.StockSizes'. -/
def stockSizesCard : Claim7 := { stood := { row := stockSizesRow, standIns := [], harness := (true, "38b2a04164ed37673c7c3d6ab5ba41d43a8a931a6aab2b8a11f8b688a58f2592"), looks := false }, kinds := [], alts := [], laidByText := true, laidKinds := [.data, .pinned], laidTests := true, laidLooks := .later }
def StockSizesCardSaid : Prop := Claim7.holds Tryz.pinned (.plain (OpenSpec.ofChange stockSizesSpec)) stockSizesCard

/-- THE TIED CARD OF 'ragpickerlaw38.ExpirePicks'. -/
def expirePicksCard : Claim7 := { stood := { row := expirePicksRow, standIns := [], harness := (true, "38b2a04164ed37673c7c3d6ab5ba41d43a8a931a6aab2b8a11f8b688a58f2592"), looks := false }, kinds := [], alts := [], laidByText := true, laidKinds := [.data, .pinned], laidTests := true, laidLooks := .later }
def ExpirePicksCardSaid : Prop := Claim7.holds Tryz.pinned (.plain (OpenSpec.ofChange expirePicksSpec)) expirePicksCard

/-- THE TIED CARD OF 'ragpickerlaw38.ExpireLeft'. -/
def expireLeftCard : Claim7 := { stood := { row := expireLeftRow, standIns := [], harness := (true, "38b2a04164ed37673c7c3d6ab5ba41d43a8a931a6aab2b8a11f8b688a58f2592"), looks := false }, kinds := [], alts := [], laidByText := true, laidKinds := [.data, .pinned], laidTests := true, laidLooks := .later }
def ExpireLeftCardSaid : Prop := Claim7.holds Tryz.pinned (.plain (OpenSpec.ofChange expireLeftSpec)) expireLeftCard

/-- THE SECOND FORM's CARD OF 'ragpickerlaw34.StockOrder'. -/
def stockOrderUptoCard : Claim7 := { stood := { row := stockOrderUptoRow, standIns := [], harness := (true, "38b2a04164ed37673c7c3d6ab5ba41d43a8a931a6aab2b8a11f8b688a58f2592"), looks := false }, kinds := [], alts := [], laidByText := true, laidKinds := [.data, .pinned], laidTests := true, laidLooks := .later }
def StockOrderUptoCardSaid : Prop := Claim7.holds Tryz.pinned (.plain (OpenSpec.upto stockOrderSpec)) stockOrderUptoCard

/-- THE SECOND FORM's CARD OF 'ragpickerlaw34.StockSizes'. -/
def stockSizesUptoCard : Claim7 := { stood := { row := stockSizesUptoRow, standIns := [], harness := (true, "38b2a04164ed37673c7c3d6ab5ba41d43a8a931a6aab2b8a11f8b688a58f2592"), looks := false }, kinds := [], alts := [], laidByText := true, laidKinds := [.data, .pinned], laidTests := true, laidLooks := .later }
def StockSizesUptoCardSaid : Prop := Claim7.holds Tryz.pinned (.plain (OpenSpec.upto stockSizesSpec)) stockSizesUptoCard

/-- THE SECOND FORM's CARD OF 'ragpickerlaw38.ExpirePicks'. -/
def expirePicksUptoCard : Claim7 := { stood := { row := expirePicksUptoRow, standIns := [], harness := (true, "38b2a04164ed37673c7c3d6ab5ba41d43a8a931a6aab2b8a11f8b688a58f2592"), looks := false }, kinds := [], alts := [], laidByText := true, laidKinds := [.data, .pinned], laidTests := true, laidLooks := .later }
def ExpirePicksUptoCardSaid : Prop := Claim7.holds Tryz.pinned (.plain (OpenSpec.upto expirePicksSpec)) expirePicksUptoCard

/-- THE SECOND FORM's CARD OF 'ragpickerlaw38.ExpireLeft'. -/
def expireLeftUptoCard : Claim7 := { stood := { row := expireLeftUptoRow, standIns := [], harness := (true, "38b2a04164ed37673c7c3d6ab5ba41d43a8a931a6aab2b8a11f8b688a58f2592"), looks := false }, kinds := [], alts := [], laidByText := true, laidKinds := [.data, .pinned], laidTests := true, laidLooks := .later }
def ExpireLeftUptoCardSaid : Prop := Claim7.holds Tryz.pinned (.plain (OpenSpec.upto expireLeftSpec)) expireLeftUptoCard
end Rows
end Go.Proofs.YtkkiglagdojnlaaGreatDoor
