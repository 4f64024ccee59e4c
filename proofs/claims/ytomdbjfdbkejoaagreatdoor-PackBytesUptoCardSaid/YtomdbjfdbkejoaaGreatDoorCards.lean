/-
  DERIVED. GIVEN WITH THE SEED: THE CARDS: each row of YtomdbjfdbkejoaaGreatDoorRows.lean that lists a variable, with what it lists TIED to the program's text (the seventh form; the later family's looks); each row that meets fmt, with fmt's text TOLD by the authors' own Lean function (tested against real Go, not proved from fmt's source: count such statements apart). THE CARD IS WHAT COUNTS. Prove the row's statement (the work); the ties are given (YtomdbjfdbkejoaaGreatDoorTie.lean); close each card by the builder's one call (the guide's Derived/Test/ToyasCard.lean, 'card_holds'). Laid BY PROGRAM, IN A SANDBOX (cutbox-door.mjs). By AI agents, Wed Nov 11 2026. No macro, syntax, notation, axiom, sorry.
-/
import Derived.Test.YtomdbjfdbkejoaaGreatDoorRows
import GoSem.ClaimSeven
namespace Go.Proofs.YtomdbjfdbkejoaaGreatDoor
namespace Rows

/-- THE TIED CARD OF 'doubletlaw35.PackBytes'. -/
def packBytesCard : Claim7 := { stood := { row := packBytesRow, standIns := [], harness := (true, "2db717d6afbd5fc025b3c882969a5cd6bbf8aa91abdd69b395c835c06278b097"), looks := false }, kinds := [], alts := [], laidByText := true, laidKinds := [.data], laidTests := true, laidLooks := .later }
def PackBytesCardSaid : Prop := Claim7.holds Tryz.pinned (.plain (OpenSpec.ofChange packBytesSpec)) packBytesCard

/-- THE TIED CARD OF 'doubletlaw35.PackKeys'. -/
def packKeysCard : Claim7 := { stood := { row := packKeysRow, standIns := [], harness := (true, "2db717d6afbd5fc025b3c882969a5cd6bbf8aa91abdd69b395c835c06278b097"), looks := false }, kinds := [], alts := [], laidByText := true, laidKinds := [.data], laidTests := true, laidLooks := .later }
def PackKeysCardSaid : Prop := Claim7.holds Tryz.pinned (.plain (OpenSpec.ofChange packKeysSpec)) packKeysCard

/-- THE SECOND FORM's CARD OF 'doubletlaw35.PackBytes'. -/
def packBytesUptoCard : Claim7 := { stood := { row := packBytesUptoRow, standIns := [], harness := (true, "2db717d6afbd5fc025b3c882969a5cd6bbf8aa91abdd69b395c835c06278b097"), looks := false }, kinds := [], alts := [], laidByText := true, laidKinds := [.data], laidTests := true, laidLooks := .later }
def PackBytesUptoCardSaid : Prop := Claim7.holds Tryz.pinned (.plain (OpenSpec.upto packBytesSpec)) packBytesUptoCard

/-- THE SECOND FORM's CARD OF 'doubletlaw35.PackKeys'. -/
def packKeysUptoCard : Claim7 := { stood := { row := packKeysUptoRow, standIns := [], harness := (true, "2db717d6afbd5fc025b3c882969a5cd6bbf8aa91abdd69b395c835c06278b097"), looks := false }, kinds := [], alts := [], laidByText := true, laidKinds := [.data], laidTests := true, laidLooks := .later }
def PackKeysUptoCardSaid : Prop := Claim7.holds Tryz.pinned (.plain (OpenSpec.upto packKeysSpec)) packKeysUptoCard
end Rows
end Go.Proofs.YtomdbjfdbkejoaaGreatDoor
