/-
  DERIVED. GIVEN WITH THE SEED: THE CARDS: each row of YtefkpedhbijhkaaGreatDoorRows.lean that lists a variable, with what it lists TIED to the program's text (the seventh form; the later family's looks); each row that meets fmt, with fmt's text TOLD by the authors' own Lean function (tested against real Go, not proved from fmt's source: count such statements apart). THE CARD IS WHAT COUNTS. Prove the row's statement (the work); the ties are given (YtefkpedhbijhkaaGreatDoorTie.lean); close each card by the builder's one call (the guide's Derived/Test/ToyasCard.lean, 'card_holds'). Laid BY PROGRAM, IN A SANDBOX (cutbox-door.mjs). By AI agents, Wed Nov 11 2026. No macro, syntax, notation, axiom, sorry.
-/
import Derived.Test.YtefkpedhbijhkaaGreatDoorRows
import GoSem.ClaimSeven
namespace Go.Proofs.YtefkpedhbijhkaaGreatDoor
namespace Rows

/-- THE TIED CARD OF 'doubletlaw27.BrzoRev'. -/
def brzoRevCard : Claim7 := { stood := { row := brzoRevRow, standIns := [], harness := (true, "76de4c6fcc80391456024df8ba2a8f14b707937d5c7b3da9c7073a9c26eb1fa7"), looks := false }, kinds := [], alts := [], laidByText := true, laidKinds := [.data], laidTests := true, laidLooks := .later }
def BrzoRevCardSaid : Prop := Claim7.holds Tryz.pinned (.plain (OpenSpec.ofChange brzoRevSpec)) brzoRevCard

/-- THE TIED CARD OF 'doubletlaw27.BrzoOf'. -/
def brzoOfCard : Claim7 := { stood := { row := brzoOfRow, standIns := [], harness := (true, "76de4c6fcc80391456024df8ba2a8f14b707937d5c7b3da9c7073a9c26eb1fa7"), looks := false }, kinds := [], alts := [], laidByText := true, laidKinds := [.data], laidTests := true, laidLooks := .later }
def BrzoOfCardSaid : Prop := Claim7.holds Tryz.pinned (.plain (OpenSpec.ofChange brzoOfSpec)) brzoOfCard

/-- THE TIED CARD OF 'doubletlaw27.BrzoTwice'. -/
def brzoTwiceCard : Claim7 := { stood := { row := brzoTwiceRow, standIns := [], harness := (true, "76de4c6fcc80391456024df8ba2a8f14b707937d5c7b3da9c7073a9c26eb1fa7"), looks := false }, kinds := [], alts := [], laidByText := true, laidKinds := [.data], laidTests := true, laidLooks := .later }
def BrzoTwiceCardSaid : Prop := Claim7.holds Tryz.pinned (.plain (OpenSpec.ofChange brzoTwiceSpec)) brzoTwiceCard

/-- THE SECOND FORM's CARD OF 'doubletlaw27.BrzoRev'. -/
def brzoRevUptoCard : Claim7 := { stood := { row := brzoRevUptoRow, standIns := [], harness := (true, "76de4c6fcc80391456024df8ba2a8f14b707937d5c7b3da9c7073a9c26eb1fa7"), looks := false }, kinds := [], alts := [], laidByText := true, laidKinds := [.data], laidTests := true, laidLooks := .later }
def BrzoRevUptoCardSaid : Prop := Claim7.holds Tryz.pinned (.plain (OpenSpec.upto brzoRevSpec)) brzoRevUptoCard

/-- THE SECOND FORM's CARD OF 'doubletlaw27.BrzoOf'. -/
def brzoOfUptoCard : Claim7 := { stood := { row := brzoOfUptoRow, standIns := [], harness := (true, "76de4c6fcc80391456024df8ba2a8f14b707937d5c7b3da9c7073a9c26eb1fa7"), looks := false }, kinds := [], alts := [], laidByText := true, laidKinds := [.data], laidTests := true, laidLooks := .later }
def BrzoOfUptoCardSaid : Prop := Claim7.holds Tryz.pinned (.plain (OpenSpec.upto brzoOfSpec)) brzoOfUptoCard

/-- THE SECOND FORM's CARD OF 'doubletlaw27.BrzoTwice'. -/
def brzoTwiceUptoCard : Claim7 := { stood := { row := brzoTwiceUptoRow, standIns := [], harness := (true, "76de4c6fcc80391456024df8ba2a8f14b707937d5c7b3da9c7073a9c26eb1fa7"), looks := false }, kinds := [], alts := [], laidByText := true, laidKinds := [.data], laidTests := true, laidLooks := .later }
def BrzoTwiceUptoCardSaid : Prop := Claim7.holds Tryz.pinned (.plain (OpenSpec.upto brzoTwiceSpec)) brzoTwiceUptoCard
end Rows
end Go.Proofs.YtefkpedhbijhkaaGreatDoor
