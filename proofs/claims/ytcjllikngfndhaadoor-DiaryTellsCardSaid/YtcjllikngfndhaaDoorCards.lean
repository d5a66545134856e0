/-
  DERIVED. GIVEN WITH THE SEED: THE CARDS: each row of YtcjllikngfndhaaDoorRows.lean that lists a variable, with what it lists TIED to the program's text (the seventh form; the later family's looks); each row that meets fmt, with fmt's text TOLD by the authors' own Lean function (tested against real Go, not proved from fmt's source: count such statements apart). THE CARD IS WHAT COUNTS. Prove the row's statement (the work); the ties are given (YtcjllikngfndhaaDoorTie.lean); close each card by the builder's one call (the guide's Derived/Test/ToyasCard.lean, 'card_holds'). Laid BY PROGRAM, IN A SANDBOX (cutbox-door.mjs). By AI agents, Wed Nov 11 2026. No macro, syntax, notation, axiom, sorry.
-/
import Derived.Test.YtcjllikngfndhaaDoorRows
import GoSem.ClaimSeven
namespace Go.Proofs.YtcjllikngfndhaaDoor
namespace Rows

/-- THE TIED CARD OF 'ragpickerlaw39.DiaryTells'. -/
def diaryTellsCard : Claim7 := { stood := { row := diaryTellsRow, standIns := [], harness := (true, "1ea6a6cf6f143e91ede8b82b39164fb7a44484171c0d21ea49b5fbe378ecb3f4"), looks := false }, kinds := [], alts := [], laidByText := true, laidKinds := [.data, .pinned], laidTests := true, laidLooks := .later }
def DiaryTellsCardSaid : Prop := Claim7.holds Tryd.pinned (.plain (OpenSpec.ofChange diaryTellsSpec)) diaryTellsCard

/-- THE TIED CARD OF 'ragpickerlaw39.DiaryBack'. -/
def diaryBackCard : Claim7 := { stood := { row := diaryBackRow, standIns := [], harness := (true, "1ea6a6cf6f143e91ede8b82b39164fb7a44484171c0d21ea49b5fbe378ecb3f4"), looks := false }, kinds := [], alts := [], laidByText := true, laidKinds := [.data, .pinned], laidTests := true, laidLooks := .later }
def DiaryBackCardSaid : Prop := Claim7.holds Tryd.pinned (.plain (OpenSpec.ofChange diaryBackSpec)) diaryBackCard

/-- THE SECOND FORM's CARD OF 'ragpickerlaw39.DiaryTells'. -/
def diaryTellsUptoCard : Claim7 := { stood := { row := diaryTellsUptoRow, standIns := [], harness := (true, "1ea6a6cf6f143e91ede8b82b39164fb7a44484171c0d21ea49b5fbe378ecb3f4"), looks := false }, kinds := [], alts := [], laidByText := true, laidKinds := [.data, .pinned], laidTests := true, laidLooks := .later }
def DiaryTellsUptoCardSaid : Prop := Claim7.holds Tryd.pinned (.plain (OpenSpec.upto diaryTellsSpec)) diaryTellsUptoCard

/-- THE SECOND FORM's CARD OF 'ragpickerlaw39.DiaryBack'. -/
def diaryBackUptoCard : Claim7 := { stood := { row := diaryBackUptoRow, standIns := [], harness := (true, "1ea6a6cf6f143e91ede8b82b39164fb7a44484171c0d21ea49b5fbe378ecb3f4"), looks := false }, kinds := [], alts := [], laidByText := true, laidKinds := [.data, .pinned], laidTests := true, laidLooks := .later }
def DiaryBackUptoCardSaid : Prop := Claim7.holds Tryd.pinned (.plain (OpenSpec.upto diaryBackSpec)) diaryBackUptoCard
end Rows
end Go.Proofs.YtcjllikngfndhaaDoor
