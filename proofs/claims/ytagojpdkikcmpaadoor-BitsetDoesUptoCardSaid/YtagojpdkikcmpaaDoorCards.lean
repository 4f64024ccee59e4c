/-
  DERIVED. GIVEN WITH THE SEED: THE CARDS: each row of YtagojpdkikcmpaaDoorRows.lean that lists a variable, with what it lists TIED to the program's text (the seventh form; the later family's looks); each row that meets fmt, with fmt's text TOLD by the authors' own Lean function (tested against real Go, not proved from fmt's source: count such statements apart). THE CARD IS WHAT COUNTS. Prove the row's statement (the work); the ties are given (YtagojpdkikcmpaaDoorTie.lean); close each card by the builder's one call (the guide's Derived/Test/ToyasCard.lean, 'card_holds'). Laid BY PROGRAM, IN A SANDBOX (cutbox-door.mjs). By AI agents, Wed Nov 11 2026. No macro, syntax, notation, axiom, sorry.
-/
import Derived.Test.YtagojpdkikcmpaaDoorRows
import GoSem.ClaimSeven
namespace Go.Proofs.YtagojpdkikcmpaaDoor
namespace Rows

/-- THE TIED CARD OF 'doubletlaw14.BitsetKeys'. -/
def bitsetKeysCard : Claim7 := { stood := { row := bitsetKeysRow, standIns := [], harness := (true, "64304c7220dd9bb7f5c3bc3d7c18c1309dcd361a911d5ef33501acaf13f9e4d6"), looks := false }, kinds := [], alts := [], laidByText := true, laidKinds := [.data], laidTests := true, laidLooks := .later }
def BitsetKeysCardSaid : Prop := Claim7.holds Tryd.pinned (.plain (OpenSpec.ofChange bitsetKeysSpec)) bitsetKeysCard

/-- THE TIED CARD OF 'doubletlaw14.BitsetDoes'. -/
def bitsetDoesCard : Claim7 := { stood := { row := bitsetDoesRow, standIns := [], harness := (true, "64304c7220dd9bb7f5c3bc3d7c18c1309dcd361a911d5ef33501acaf13f9e4d6"), looks := false }, kinds := [], alts := [], laidByText := true, laidKinds := [.data], laidTests := true, laidLooks := .later }
def BitsetDoesCardSaid : Prop := Claim7.holds Tryd.pinned (.plain (OpenSpec.ofChange bitsetDoesSpec)) bitsetDoesCard

/-- THE TIED CARD OF 'doubletlaw14.BitsetNil'. -/
def bitsetNilCard : Claim7 := { stood := { row := bitsetNilRow, standIns := [], harness := (true, "64304c7220dd9bb7f5c3bc3d7c18c1309dcd361a911d5ef33501acaf13f9e4d6"), looks := false }, kinds := [], alts := [], laidByText := true, laidKinds := [.data], laidTests := true, laidLooks := .later }
def BitsetNilCardSaid : Prop := Claim7.holds Tryd.pinned (.plain (OpenSpec.ofChange bitsetNilSpec)) bitsetNilCard

/-- THE SECOND FORM's CARD OF 'doubletlaw14.BitsetKeys'. -/
def bitsetKeysUptoCard : Claim7 := { stood := { row := bitsetKeysUptoRow, standIns := [], harness := (true, "64304c7220dd9bb7f5c3bc3d7c18c1309dcd361a911d5ef33501acaf13f9e4d6"), looks := false }, kinds := [], alts := [], laidByText := true, laidKinds := [.data], laidTests := true, laidLooks := .later }
def BitsetKeysUptoCardSaid : Prop := Claim7.holds Tryd.pinned (.plain (OpenSpec.upto bitsetKeysSpec)) bitsetKeysUptoCard

/-- THE SECOND FORM's CARD OF 'doubletlaw14.BitsetDoes'. -/
def bitsetDoesUptoCard : Claim7 := { stood := { row := bitsetDoesUptoRow, standIns := [], harness := (true, "64304c7220dd9bb7f5c3bc3d7c18c1309dcd361a911d5ef33501acaf13f9e4d6"), looks := false }, kinds := [], alts := [], laidByText := true, laidKinds := [.data], laidTests := true, laidLooks := .later }
def BitsetDoesUptoCardSaid : Prop := Claim7.holds Tryd.pinned (.plain (OpenSpec.upto bitsetDoesSpec)) bitsetDoesUptoCard

/-- THE SECOND FORM's CARD OF 'doubletlaw14.BitsetNil'. -/
def bitsetNilUptoCard : Claim7 := { stood := { row := bitsetNilUptoRow, standIns := [], harness := (true, "64304c7220dd9bb7f5c3bc3d7c18c1309dcd361a911d5ef33501acaf13f9e4d6"), looks := false }, kinds := [], alts := [], laidByText := true, laidKinds := [.data], laidTests := true, laidLooks := .later }
def BitsetNilUptoCardSaid : Prop := Claim7.holds Tryd.pinned (.plain (OpenSpec.upto bitsetNilSpec)) bitsetNilUptoCard
end Rows
end Go.Proofs.YtagojpdkikcmpaaDoor
