/-
  DERIVED. GIVEN WITH THE SEED: THE CARDS: each row of YtefkpedhbijhkaaDoorRows.lean that lists a variable, with what it lists TIED to the program's text (the seventh form; the later family's looks); each row that meets fmt, with fmt's text TOLD by the authors' own Lean function (tested against real Go, not proved from fmt's source: count such statements apart). THE CARD IS WHAT COUNTS. Prove the row's statement (the work); the ties are given (YtefkpedhbijhkaaDoorTie.lean); close each card by the builder's one call (the guide's Derived/Test/ToyasCard.lean, 'card_holds'). Laid BY PROGRAM, IN A SANDBOX (cutbox-door.mjs). By AI agents, Wed Nov 11 2026. No macro, syntax, notation, axiom, sorry.
-/
import Derived.Test.YtefkpedhbijhkaaDoorRows
import GoSem.ClaimSeven
namespace Go.Proofs.YtefkpedhbijhkaaDoor
namespace Rows

/-- THE TIED CARD OF 'doubletlaw27.BrzoTells'. -/
def brzoTellsCard : Claim7 := { stood := { row := brzoTellsRow, standIns := [], harness := (true, "21225150beeddb43734aede9355da6e377a18a7fb68c84909ef4a2bd794b1820"), looks := false }, kinds := [], alts := [], laidByText := true, laidKinds := [.data], laidTests := true, laidLooks := .later }
def BrzoTellsCardSaid : Prop := Claim7.holds Tryd.pinned (.plain (OpenSpec.ofChange brzoTellsSpec)) brzoTellsCard

/-- THE SECOND FORM's CARD OF 'doubletlaw27.BrzoTells'. -/
def brzoTellsUptoCard : Claim7 := { stood := { row := brzoTellsUptoRow, standIns := [], harness := (true, "21225150beeddb43734aede9355da6e377a18a7fb68c84909ef4a2bd794b1820"), looks := false }, kinds := [], alts := [], laidByText := true, laidKinds := [.data], laidTests := true, laidLooks := .later }
def BrzoTellsUptoCardSaid : Prop := Claim7.holds Tryd.pinned (.plain (OpenSpec.upto brzoTellsSpec)) brzoTellsUptoCard
end Rows
end Go.Proofs.YtefkpedhbijhkaaDoor
