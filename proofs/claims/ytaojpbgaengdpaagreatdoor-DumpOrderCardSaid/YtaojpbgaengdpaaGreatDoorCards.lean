/-
  DERIVED. GIVEN WITH THE SEED: THE CARDS: each row of YtaojpbgaengdpaaGreatDoorRows.lean that lists a variable, with what it lists TIED to the program's text (the seventh form; the later family's looks); each row that meets fmt, with fmt's text TOLD by the authors' own Lean function (tested against real Go, not proved from fmt's source: count such statements apart). THE CARD IS WHAT COUNTS. Prove the row's statement (the work); the ties are given (YtaojpbgaengdpaaGreatDoorTie.lean); close each card by the builder's one call (the guide's Derived/Test/ToyasCard.lean, 'card_holds'). Laid BY PROGRAM, IN A SANDBOX (cutbox-door.mjs). By AI agents, Wed Nov 11 2026. No macro, syntax, notation, axiom, sorry.
-/
import Derived.Test.YtaojpbgaengdpaaGreatDoorRows
import GoSem.ClaimSeven
namespace Go.Proofs.YtaojpbgaengdpaaGreatDoor
namespace Rows

/-- THE TIED CARD OF 'ragpickerlaw23.DumpTells'. -/
def dumpTellsCard : Claim7 := { stood := { row := dumpTellsRow, standIns := [], harness := (true, "2e44896e69d6fcc7a3bdbb6300d01690913d9c410c5cd28ad69372d25e5283e5"), looks := false }, kinds := [], alts := [], laidByText := true, laidKinds := [.data, .pinned], laidTests := true, laidLooks := .later }
def DumpTellsCardSaid : Prop := Claim7.holds Tryz.pinned (.plain (OpenSpec.ofChange dumpTellsSpec)) dumpTellsCard

/-- THE TIED CARD OF 'ragpickerlaw23.DumpOrder'. -/
def dumpOrderCard : Claim7 := { stood := { row := dumpOrderRow, standIns := [], harness := (true, "2e44896e69d6fcc7a3bdbb6300d01690913d9c410c5cd28ad69372d25e5283e5"), looks := false }, kinds := [], alts := [], laidByText := true, laidKinds := [.data, .pinned], laidTests := true, laidLooks := .later }
def DumpOrderCardSaid : Prop := Claim7.holds Tryz.pinned (.plain (OpenSpec.ofChange dumpOrderSpec)) dumpOrderCard

/-- THE TIED CARD OF 'ragpickerlaw23.DumpPicks'. -/
def dumpPicksCard : Claim7 := { stood := { row := dumpPicksRow, standIns := [], harness := (true, "2e44896e69d6fcc7a3bdbb6300d01690913d9c410c5cd28ad69372d25e5283e5"), looks := false }, kinds := [], alts := [], laidByText := true, laidKinds := [.data, .pinned], laidTests := true, laidLooks := .later }
def DumpPicksCardSaid : Prop := Claim7.holds Tryz.pinned (.plain (OpenSpec.ofChange dumpPicksSpec)) dumpPicksCard

/-- THE SECOND FORM's CARD OF 'ragpickerlaw23.DumpTells'. -/
def dumpTellsUptoCard : Claim7 := { stood := { row := dumpTellsUptoRow, standIns := [], harness := (true, "2e44896e69d6fcc7a3bdbb6300d01690913d9c410c5cd28ad69372d25e5283e5"), looks := false }, kinds := [], alts := [], laidByText := true, laidKinds := [.data, .pinned], laidTests := true, laidLooks := .later }
def DumpTellsUptoCardSaid : Prop := Claim7.holds Tryz.pinned (.plain (OpenSpec.upto dumpTellsSpec)) dumpTellsUptoCard

/-- THE SECOND FORM's CARD OF 'ragpickerlaw23.DumpOrder'. -/
def dumpOrderUptoCard : Claim7 := { stood := { row := dumpOrderUptoRow, standIns := [], harness := (true, "2e44896e69d6fcc7a3bdbb6300d01690913d9c410c5cd28ad69372d25e5283e5"), looks := false }, kinds := [], alts := [], laidByText := true, laidKinds := [.data, .pinned], laidTests := true, laidLooks := .later }
def DumpOrderUptoCardSaid : Prop := Claim7.holds Tryz.pinned (.plain (OpenSpec.upto dumpOrderSpec)) dumpOrderUptoCard

/-- THE SECOND FORM's CARD OF 'ragpickerlaw23.DumpPicks'. -/
def dumpPicksUptoCard : Claim7 := { stood := { row := dumpPicksUptoRow, standIns := [], harness := (true, "2e44896e69d6fcc7a3bdbb6300d01690913d9c410c5cd28ad69372d25e5283e5"), looks := false }, kinds := [], alts := [], laidByText := true, laidKinds := [.data, .pinned], laidTests := true, laidLooks := .later }
def DumpPicksUptoCardSaid : Prop := Claim7.holds Tryz.pinned (.plain (OpenSpec.upto dumpPicksSpec)) dumpPicksUptoCard
end Rows
end Go.Proofs.YtaojpbgaengdpaaGreatDoor
