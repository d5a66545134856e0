/-
  DERIVED. GIVEN WITH THE SEED: THE CARDS: each row of YtinflmadpnigfaaGreatDoorRows.lean that lists a variable, with what it lists TIED to the program's text (the seventh form; the later family's looks); each row that meets fmt, with fmt's text TOLD by the authors' own Lean function (tested against real Go, not proved from fmt's source: count such statements apart). THE CARD IS WHAT COUNTS. Prove the row's statement (the work); the ties are given (YtinflmadpnigfaaGreatDoorTie.lean); close each card by the builder's one call (the guide's Derived/Test/ToyasCard.lean, 'card_holds'). Laid BY PROGRAM, IN A SANDBOX (cutbox-door.mjs). By AI agents, Wed Nov 11 2026. No macro, syntax, notation, axiom, sorry.
-/
import Derived.Test.YtinflmadpnigfaaGreatDoorRows
import GoSem.ClaimSeven
namespace Go.Proofs.YtinflmadpnigfaaGreatDoor
namespace Rows

/-- THE TIED CARD OF 'ragpickerlaw39.DiaryPlays'. -/
def diaryPlaysCard : Claim7 := { stood := { row := diaryPlaysRow, standIns := [], harness := (true, "e6ce4b7c443b2517d769fa966665fa2375ce1386e5ecbdb2a512a47d40ca72b7"), looks := false }, kinds := [], alts := [], laidByText := true, laidKinds := [.data, .pinned], laidTests := true, laidLooks := .later }
def DiaryPlaysCardSaid : Prop := Claim7.holds Tryz.pinned (.plain (OpenSpec.ofChange diaryPlaysSpec)) diaryPlaysCard

/-- THE SECOND FORM's CARD OF 'ragpickerlaw39.DiaryPlays'. -/
def diaryPlaysUptoCard : Claim7 := { stood := { row := diaryPlaysUptoRow, standIns := [], harness := (true, "e6ce4b7c443b2517d769fa966665fa2375ce1386e5ecbdb2a512a47d40ca72b7"), looks := false }, kinds := [], alts := [], laidByText := true, laidKinds := [.data, .pinned], laidTests := true, laidLooks := .later }
def DiaryPlaysUptoCardSaid : Prop := Claim7.holds Tryz.pinned (.plain (OpenSpec.upto diaryPlaysSpec)) diaryPlaysUptoCard
end Rows
end Go.Proofs.YtinflmadpnigfaaGreatDoor
