/-
  DERIVED. GIVEN WITH THE SEED: THE CARDS: each row of YtmnmihfinmcljaaDoorRows.lean that lists a variable, with what it lists TIED to the program's text (the seventh form; the later family's looks); each row that meets fmt, with fmt's text TOLD by the authors' own Lean function (tested against real Go, not proved from fmt's source: count such statements apart). THE CARD IS WHAT COUNTS. Prove the row's statement (the work); the ties are given (YtmnmihfinmcljaaDoorTie.lean); close each card by the builder's one call (the guide's Derived/Test/ToyasCard.lean, 'card_holds'). Laid BY PROGRAM, IN A SANDBOX (cutbox-door.mjs). By AI agents, Wed Nov 11 2026. No macro, syntax, notation, axiom, sorry.
-/
import Derived.Test.YtmnmihfinmcljaaDoorRows
import GoSem.ClaimSeven
namespace Go.Proofs.YtmnmihfinmcljaaDoor
namespace Rows

/-- THE TIED CARD OF 'doubletlaw23.QuotientMerges'. -/
def quotientMergesCard : Claim7 := { stood := { row := quotientMergesRow, standIns := [], harness := (true, "a54c318bb401a631d1cfc85815ff24669a624e195b3bd54cb4f7655fc7768e71"), looks := false }, kinds := [], alts := [], laidByText := true, laidKinds := [.data], laidTests := true, laidLooks := .later }
def QuotientMergesCardSaid : Prop := Claim7.holds Tryd.pinned (.plain (OpenSpec.ofChange quotientMergesSpec)) quotientMergesCard

/-- THE TIED CARD OF 'doubletlaw23.QuotientTells'. -/
def quotientTellsCard : Claim7 := { stood := { row := quotientTellsRow, standIns := [], harness := (true, "a54c318bb401a631d1cfc85815ff24669a624e195b3bd54cb4f7655fc7768e71"), looks := false }, kinds := [], alts := [], laidByText := true, laidKinds := [.data], laidTests := true, laidLooks := .later }
def QuotientTellsCardSaid : Prop := Claim7.holds Tryd.pinned (.plain (OpenSpec.ofChange quotientTellsSpec)) quotientTellsCard

/-- THE SECOND FORM's CARD OF 'doubletlaw23.QuotientMerges'. -/
def quotientMergesUptoCard : Claim7 := { stood := { row := quotientMergesUptoRow, standIns := [], harness := (true, "a54c318bb401a631d1cfc85815ff24669a624e195b3bd54cb4f7655fc7768e71"), looks := false }, kinds := [], alts := [], laidByText := true, laidKinds := [.data], laidTests := true, laidLooks := .later }
def QuotientMergesUptoCardSaid : Prop := Claim7.holds Tryd.pinned (.plain (OpenSpec.upto quotientMergesSpec)) quotientMergesUptoCard

/-- THE SECOND FORM's CARD OF 'doubletlaw23.QuotientTells'. -/
def quotientTellsUptoCard : Claim7 := { stood := { row := quotientTellsUptoRow, standIns := [], harness := (true, "a54c318bb401a631d1cfc85815ff24669a624e195b3bd54cb4f7655fc7768e71"), looks := false }, kinds := [], alts := [], laidByText := true, laidKinds := [.data], laidTests := true, laidLooks := .later }
def QuotientTellsUptoCardSaid : Prop := Claim7.holds Tryd.pinned (.plain (OpenSpec.upto quotientTellsSpec)) quotientTellsUptoCard
end Rows
end Go.Proofs.YtmnmihfinmcljaaDoor
