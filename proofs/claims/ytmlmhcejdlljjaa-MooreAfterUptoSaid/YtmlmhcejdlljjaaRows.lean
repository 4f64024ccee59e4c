/-
  No cell of these rows narrows 'for every input' (looked for: loops, veiled, ifaces, maps, wideKeys, modest, calm, conditions, laid).
  DERIVED. THE GIVEN ROWS OF THIS SEAT. 4 by the template 'for every input the law returns true; each argument reads behind the call as it read before'; 0 by the template 'total and deterministic' (their statements: YtmlmhcejdlljjaaTotals.lean).
  GIVEN WITH THE SEED: the statements are not yours to turn. If you find one false, say at which input.
  Laid BY PROGRAM, IN A SANDBOX (cutbox-rows.mjs): the forced cells as the released guide's own fill.sh prints them over the translation 58d701c7a1236375… (all of the seat's roots in one cut). By AI agents, Wed Nov 11 2026. No macro, syntax, notation, axiom, sorry.
-/
import Derived.Test.YtmlmhcejdlljjaaChecked
import GoSem.Claim
import GoSem.ClaimJoined
import GoSem.ClaimMapViews
import Derived.JoinedTies
import Derived.KernelRfl
namespace Go.Proofs.Ytmlmhcejdlljjaa
/- THE CELL 'sum', in the pinned program and in every row, IS THE sha256 OF THE DUMP (.gsa) THAT YtmlmhcejdlljjaaProg.lean LOADS. Nothing in Lean hashes anything: it is a label: what it is worth is what the hold of that sum in a sandbox is worth. -/
noncomputable def Try.pinned : Pinned := { name := "ytmlmhcejdlljjaa", sum := "58d701c7a12363759641a888530dadf404e4512c597104f3cf8608b81e7ae456", checked := Try.checked }
namespace Rows
def none {H : Type} : Left H := { results := [], args := [] }

/-- 'doubletlaw24.MooreBlocks': WHATEVER THE INPUT: true; the input reads as it did. -/
def mooreBlocksSpec : ChangeSpec := { name := "mooreBlocks", fn := fun _ => fun
  | [d] => { results := [.lit (.bool true)], args := [d] }
  | _ => none }
def mooreBlocksRow : OpenClaim := { program := "ytmlmhcejdlljjaa", sum := "58d701c7a12363759641a888530dadf404e4512c597104f3cf8608b81e7ae456", func := "doublet/doubletlaw24.MooreBlocks", spec := "mooreBlocks", unfollowed := true, recurses := true, plainKeys := false, apart := false }
def MooreBlocksSaid : Prop := mooreBlocksRow.holds Try.pinned (OpenSpec.ofChange mooreBlocksSpec)

/-- ITS FALSE NEIGHBOUR: 'it returns false'. Refute it at one input. -/
def mooreBlocksWrong : ChangeSpec := { name := "mooreBlocks", fn := fun _ => fun
  | [d] => { results := [.lit (.bool false)], args := [d] }
  | _ => none }
def MooreBlocksWrongFalsely : Prop := mooreBlocksRow.holds Try.pinned (OpenSpec.ofChange mooreBlocksWrong)

/-- 'doubletlaw24.MooreAfter': WHATEVER THE INPUT: true; the input reads as it did. -/
def mooreAfterSpec : ChangeSpec := { name := "mooreAfter", fn := fun _ => fun
  | [d1, d2] => { results := [.lit (.bool true)], args := [d1, d2] }
  | _ => none }
def mooreAfterRow : OpenClaim := { program := "ytmlmhcejdlljjaa", sum := "58d701c7a12363759641a888530dadf404e4512c597104f3cf8608b81e7ae456", func := "doublet/doubletlaw24.MooreAfter", spec := "mooreAfter", unfollowed := true, recurses := true, plainKeys := false, apart := false }
def MooreAfterSaid : Prop := mooreAfterRow.holds Try.pinned (OpenSpec.ofChange mooreAfterSpec)

/-- ITS FALSE NEIGHBOUR: 'it returns false'. Refute it at one input. -/
def mooreAfterWrong : ChangeSpec := { name := "mooreAfter", fn := fun _ => fun
  | [d1, d2] => { results := [.lit (.bool false)], args := [d1, d2] }
  | _ => none }
def MooreAfterWrongFalsely : Prop := mooreAfterRow.holds Try.pinned (OpenSpec.ofChange mooreAfterWrong)

/-- 'doubletlaw24.MooreRounds': WHATEVER THE INPUT: true; the input reads as it did. -/
def mooreRoundsSpec : ChangeSpec := { name := "mooreRounds", fn := fun _ => fun
  | [d1, d2] => { results := [.lit (.bool true)], args := [d1, d2] }
  | _ => none }
def mooreRoundsRow : OpenClaim := { program := "ytmlmhcejdlljjaa", sum := "58d701c7a12363759641a888530dadf404e4512c597104f3cf8608b81e7ae456", func := "doublet/doubletlaw24.MooreRounds", spec := "mooreRounds", unfollowed := true, recurses := true, plainKeys := false, apart := false }
def MooreRoundsSaid : Prop := mooreRoundsRow.holds Try.pinned (OpenSpec.ofChange mooreRoundsSpec)

/-- ITS FALSE NEIGHBOUR: 'it returns false'. Refute it at one input. -/
def mooreRoundsWrong : ChangeSpec := { name := "mooreRounds", fn := fun _ => fun
  | [d1, d2] => { results := [.lit (.bool false)], args := [d1, d2] }
  | _ => none }
def MooreRoundsWrongFalsely : Prop := mooreRoundsRow.holds Try.pinned (OpenSpec.ofChange mooreRoundsWrong)

/-- 'doubletlaw24.MooreCoarsest': WHATEVER THE INPUT: true; the input reads as it did. -/
def mooreCoarsestSpec : ChangeSpec := { name := "mooreCoarsest", fn := fun _ => fun
  | [d1, d2, d3, d4, d5] => { results := [.lit (.bool true)], args := [d1, d2, d3, d4, d5] }
  | _ => none }
def mooreCoarsestRow : OpenClaim := { program := "ytmlmhcejdlljjaa", sum := "58d701c7a12363759641a888530dadf404e4512c597104f3cf8608b81e7ae456", func := "doublet/doubletlaw24.MooreCoarsest", spec := "mooreCoarsest", unfollowed := true, recurses := true, plainKeys := false, apart := false }
def MooreCoarsestSaid : Prop := mooreCoarsestRow.holds Try.pinned (OpenSpec.ofChange mooreCoarsestSpec)

/-- ITS FALSE NEIGHBOUR: 'it returns false'. Refute it at one input. -/
def mooreCoarsestWrong : ChangeSpec := { name := "mooreCoarsest", fn := fun _ => fun
  | [d1, d2, d3, d4, d5] => { results := [.lit (.bool false)], args := [d1, d2, d3, d4, d5] }
  | _ => none }
def MooreCoarsestWrongFalsely : Prop := mooreCoarsestRow.holds Try.pinned (OpenSpec.ofChange mooreCoarsestWrong)

/- THE SECOND FORM. 'bulk': how many values and letters a reading holds, each counted each time it is reached (what is shared counts as often as it is met; a slice's spare places count too). A statement '..UptoSaid' is the law's where the arguments, and the package variables that the reading takes, are together of bulk at most 1048576: NARROWER than '..Said'. Prove '..Said' where nothing that the law and all that it calls make is longer than what came in: it says more and counts as full. Else prove '..UptoSaid'. A law counts once. -/
mutual
def uptoBulk {H : Type} : DataW H → Nat
  | .lit (.string bytes) => bytes.length + 1
  | .lit _ => 1
  | .nil => 1
  | .ptr d => uptoBulk d + 1
  | .slice elems spare => uptoBulkAll elems + uptoBulkAll spare + 1
  | .agg parts => uptoBulkAll parts + 1
  | .iface _ d => uptoBulk d + 1
  | .map entries => uptoBulkEntries entries + 1
  | .held _ => 1
def uptoBulkAll {H : Type} : List (DataW H) → Nat
  | [] => 0
  | d :: r => uptoBulk d + uptoBulkAll r
def uptoBulkEntries {H : Type} : List (Lit × DataW H) → Nat
  | [] => 0
  | x :: r => uptoBulkEntry x + uptoBulkEntries r
def uptoBulkEntry {H : Type} : Lit × DataW H → Nat
  | (.string bytes, d) => bytes.length + uptoBulk d + 1
  | (_, d) => uptoBulk d + 1
 end
def uptoSmall : (H : Type) → List (DataW H) → Bool := fun _ ds => decide (uptoBulkAll ds ≤ 1048576)
def OpenSpec.upto (s : _root_.Go.ChangeSpec) : _root_.Go.OpenSpec := { _root_.Go.OpenSpec.ofChange s with cond := some uptoSmall }

/-- 'doubletlaw24.MooreBlocks', WHERE WHAT IT READS IS OF BULK AT MOST 1048576: true; the input reads as it did. -/
def mooreBlocksUptoRow : OpenClaim := { program := "ytmlmhcejdlljjaa", sum := "58d701c7a12363759641a888530dadf404e4512c597104f3cf8608b81e7ae456", func := "doublet/doubletlaw24.MooreBlocks", spec := "mooreBlocks", unfollowed := true, recurses := true, plainKeys := false, apart := false, narrowed := true }
def MooreBlocksUptoSaid : Prop := mooreBlocksUptoRow.holds Try.pinned (OpenSpec.upto mooreBlocksSpec)

/-- 'doubletlaw24.MooreAfter', WHERE WHAT IT READS IS OF BULK AT MOST 1048576: true; the input reads as it did. -/
def mooreAfterUptoRow : OpenClaim := { program := "ytmlmhcejdlljjaa", sum := "58d701c7a12363759641a888530dadf404e4512c597104f3cf8608b81e7ae456", func := "doublet/doubletlaw24.MooreAfter", spec := "mooreAfter", unfollowed := true, recurses := true, plainKeys := false, apart := false, narrowed := true }
def MooreAfterUptoSaid : Prop := mooreAfterUptoRow.holds Try.pinned (OpenSpec.upto mooreAfterSpec)

/-- 'doubletlaw24.MooreRounds', WHERE WHAT IT READS IS OF BULK AT MOST 1048576: true; the input reads as it did. -/
def mooreRoundsUptoRow : OpenClaim := { program := "ytmlmhcejdlljjaa", sum := "58d701c7a12363759641a888530dadf404e4512c597104f3cf8608b81e7ae456", func := "doublet/doubletlaw24.MooreRounds", spec := "mooreRounds", unfollowed := true, recurses := true, plainKeys := false, apart := false, narrowed := true }
def MooreRoundsUptoSaid : Prop := mooreRoundsUptoRow.holds Try.pinned (OpenSpec.upto mooreRoundsSpec)

/-- 'doubletlaw24.MooreCoarsest', WHERE WHAT IT READS IS OF BULK AT MOST 1048576: true; the input reads as it did. -/
def mooreCoarsestUptoRow : OpenClaim := { program := "ytmlmhcejdlljjaa", sum := "58d701c7a12363759641a888530dadf404e4512c597104f3cf8608b81e7ae456", func := "doublet/doubletlaw24.MooreCoarsest", spec := "mooreCoarsest", unfollowed := true, recurses := true, plainKeys := false, apart := false, narrowed := true }
def MooreCoarsestUptoSaid : Prop := mooreCoarsestUptoRow.holds Try.pinned (OpenSpec.upto mooreCoarsestSpec)

end Rows
end Go.Proofs.Ytmlmhcejdlljjaa
