/-
  DERIVED. GIVEN WITH THE SEED: THE CARDS: each row of YtihdbncoijhihaaGreatDoorRows.lean that lists a variable, with what it lists TIED to the program's text (the seventh form; the later family's looks); each row that meets fmt, with fmt's text TOLD by the authors' own Lean function (tested against real Go, not proved from fmt's source: count such statements apart). THE CARD IS WHAT COUNTS. Prove the row's statement (the work); the ties are given (YtihdbncoijhihaaGreatDoorTie.lean); close each card by the builder's one call (the guide's Derived/Test/ToyasCard.lean, 'card_holds'). Laid BY PROGRAM, IN A SANDBOX (cutbox-door.mjs). By AI agents, Wed Nov 11 2026. No macro, syntax, notation, axiom, sorry.
-/
import Derived.Test.YtihdbncoijhihaaGreatDoorRows
import GoSem.ClaimSeven
namespace Go.Proofs.YtihdbncoijhihaaGreatDoor
namespace Rows

/-- THE TIED CARD OF 'ragpickerlaw29.TopdirTells'. -/
def topdirTellsCard : Claim7 := { stood := { row := topdirTellsRow, standIns := [], harness := (true, "73db9455b887fc48ae0d62ba4b238afabef29eb7ca37873f1f2c93e9447848e7"), looks := false }, kinds := [], alts := [], laidByText := true, laidKinds := [.data, .pinned], laidTests := true, laidLooks := .later }
def TopdirTellsCardSaid : Prop := Claim7.holds Tryz.pinned (.plain (OpenSpec.ofChange topdirTellsSpec)) topdirTellsCard

/-- THE TIED CARD OF 'ragpickerlaw29.TopdirRows'. -/
def topdirRowsCard : Claim7 := { stood := { row := topdirRowsRow, standIns := [], harness := (true, "73db9455b887fc48ae0d62ba4b238afabef29eb7ca37873f1f2c93e9447848e7"), looks := false }, kinds := [], alts := [], laidByText := true, laidKinds := [.data, .pinned], laidTests := true, laidLooks := .later }
def TopdirRowsCardSaid : Prop := Claim7.holds Tryz.pinned (.plain (OpenSpec.ofChange topdirRowsSpec)) topdirRowsCard

/-- THE TIED CARD OF 'ragpickerlaw30.CanTells'. -/
def canTellsCard : Claim7 := { stood := { row := canTellsRow, standIns := [], harness := (true, "73db9455b887fc48ae0d62ba4b238afabef29eb7ca37873f1f2c93e9447848e7"), looks := false }, kinds := [], alts := [], laidByText := true, laidKinds := [.data, .pinned], laidTests := true, laidLooks := .later }
def CanTellsCardSaid : Prop := Claim7.holds Tryz.pinned (.plain (OpenSpec.ofChange canTellsSpec)) canTellsCard

/-- THE TIED CARD OF 'ragpickerlaw40.SpareNext'. -/
def spareNextCard : Claim7 := { stood := { row := spareNextRow, standIns := [], harness := (true, "73db9455b887fc48ae0d62ba4b238afabef29eb7ca37873f1f2c93e9447848e7"), looks := false }, kinds := [], alts := [], laidByText := true, laidKinds := [.data, .pinned], laidTests := true, laidLooks := .later }
def SpareNextCardSaid : Prop := Claim7.holds Tryz.pinned (.plain (OpenSpec.ofChange spareNextSpec)) spareNextCard

/-- THE TIED CARD OF 'ragpickerlaw40.SpareTells'. -/
def spareTellsCard : Claim7 := { stood := { row := spareTellsRow, standIns := [], harness := (true, "73db9455b887fc48ae0d62ba4b238afabef29eb7ca37873f1f2c93e9447848e7"), looks := false }, kinds := [], alts := [], laidByText := true, laidKinds := [.data, .pinned], laidTests := true, laidLooks := .later }
def SpareTellsCardSaid : Prop := Claim7.holds Tryz.pinned (.plain (OpenSpec.ofChange spareTellsSpec)) spareTellsCard

/-- THE TIED CARD OF 'ragpickerlaw39.DiaryPlays'. -/
def diaryPlaysCard : Claim7 := { stood := { row := diaryPlaysRow, standIns := [], harness := (true, "73db9455b887fc48ae0d62ba4b238afabef29eb7ca37873f1f2c93e9447848e7"), looks := false }, kinds := [], alts := [], laidByText := true, laidKinds := [.data, .pinned], laidTests := true, laidLooks := .later }
def DiaryPlaysCardSaid : Prop := Claim7.holds Tryz.pinned (.plain (OpenSpec.ofChange diaryPlaysSpec)) diaryPlaysCard

/-- THE SECOND FORM's CARD OF 'ragpickerlaw29.TopdirTells'. -/
def topdirTellsUptoCard : Claim7 := { stood := { row := topdirTellsUptoRow, standIns := [], harness := (true, "73db9455b887fc48ae0d62ba4b238afabef29eb7ca37873f1f2c93e9447848e7"), looks := false }, kinds := [], alts := [], laidByText := true, laidKinds := [.data, .pinned], laidTests := true, laidLooks := .later }
def TopdirTellsUptoCardSaid : Prop := Claim7.holds Tryz.pinned (.plain (OpenSpec.upto topdirTellsSpec)) topdirTellsUptoCard

/-- THE SECOND FORM's CARD OF 'ragpickerlaw29.TopdirRows'. -/
def topdirRowsUptoCard : Claim7 := { stood := { row := topdirRowsUptoRow, standIns := [], harness := (true, "73db9455b887fc48ae0d62ba4b238afabef29eb7ca37873f1f2c93e9447848e7"), looks := false }, kinds := [], alts := [], laidByText := true, laidKinds := [.data, .pinned], laidTests := true, laidLooks := .later }
def TopdirRowsUptoCardSaid : Prop := Claim7.holds Tryz.pinned (.plain (OpenSpec.upto topdirRowsSpec)) topdirRowsUptoCard

/-- THE SECOND FORM's CARD OF 'ragpickerlaw30.CanTells'. -/
def canTellsUptoCard : Claim7 := { stood := { row := canTellsUptoRow, standIns := [], harness := (true, "73db9455b887fc48ae0d62ba4b238afabef29eb7ca37873f1f2c93e9447848e7"), looks := false }, kinds := [], alts := [], laidByText := true, laidKinds := [.data, .pinned], laidTests := true, laidLooks := .later }
def CanTellsUptoCardSaid : Prop := Claim7.holds Tryz.pinned (.plain (OpenSpec.upto canTellsSpec)) canTellsUptoCard

/-- THE SECOND FORM's CARD OF 'ragpickerlaw40.SpareNext'. -/
def spareNextUptoCard : Claim7 := { stood := { row := spareNextUptoRow, standIns := [], harness := (true, "73db9455b887fc48ae0d62ba4b238afabef29eb7ca37873f1f2c93e9447848e7"), looks := false }, kinds := [], alts := [], laidByText := true, laidKinds := [.data, .pinned], laidTests := true, laidLooks := .later }
def SpareNextUptoCardSaid : Prop := Claim7.holds Tryz.pinned (.plain (OpenSpec.upto spareNextSpec)) spareNextUptoCard

/-- THE SECOND FORM's CARD OF 'ragpickerlaw40.SpareTells'. -/
def spareTellsUptoCard : Claim7 := { stood := { row := spareTellsUptoRow, standIns := [], harness := (true, "73db9455b887fc48ae0d62ba4b238afabef29eb7ca37873f1f2c93e9447848e7"), looks := false }, kinds := [], alts := [], laidByText := true, laidKinds := [.data, .pinned], laidTests := true, laidLooks := .later }
def SpareTellsUptoCardSaid : Prop := Claim7.holds Tryz.pinned (.plain (OpenSpec.upto spareTellsSpec)) spareTellsUptoCard

/-- THE SECOND FORM's CARD OF 'ragpickerlaw39.DiaryPlays'. -/
def diaryPlaysUptoCard : Claim7 := { stood := { row := diaryPlaysUptoRow, standIns := [], harness := (true, "73db9455b887fc48ae0d62ba4b238afabef29eb7ca37873f1f2c93e9447848e7"), looks := false }, kinds := [], alts := [], laidByText := true, laidKinds := [.data, .pinned], laidTests := true, laidLooks := .later }
def DiaryPlaysUptoCardSaid : Prop := Claim7.holds Tryz.pinned (.plain (OpenSpec.upto diaryPlaysSpec)) diaryPlaysUptoCard
end Rows
end Go.Proofs.YtihdbncoijhihaaGreatDoor
