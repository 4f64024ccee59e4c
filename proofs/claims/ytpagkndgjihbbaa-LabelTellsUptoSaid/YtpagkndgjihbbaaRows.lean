/-
  No cell of these rows narrows 'for every input' (looked for: loops, veiled, ifaces, maps, wideKeys, modest, calm, conditions, laid).
  DERIVED. THE GIVEN ROWS OF THIS SEAT. 4 by the template 'for every input the law returns true; each argument reads behind the call as it read before'; 0 by the template 'total and deterministic' (their statements: YtpagkndgjihbbaaTotals.lean).
  GIVEN WITH THE SEED: the statements are not yours to turn. If you find one false, say at which input.
  Laid BY PROGRAM, IN A SANDBOX (cutbox-rows.mjs): the forced cells as the released guide's own fill.sh prints them over the translation 6330f7ef12c41f67… (all of the seat's roots in one cut). By AI agents, Wed Nov 11 2026. No macro, syntax, notation, axiom, sorry.
-/
import Derived.Test.YtpagkndgjihbbaaChecked
import GoSem.Claim
import GoSem.ClaimJoined
import GoSem.ClaimMapViews
import Derived.JoinedTies
import Derived.KernelRfl
namespace Go.Proofs.Ytpagkndgjihbbaa
/- THE CELL 'sum', in the pinned program and in every row, IS THE sha256 OF THE DUMP (.gsa) THAT YtpagkndgjihbbaaProg.lean LOADS. Nothing in Lean hashes anything: it is a label: what it is worth is what the hold of that sum in a sandbox is worth. -/
noncomputable def Try.pinned : Pinned := { name := "ytpagkndgjihbbaa", sum := "6330f7ef12c41f6752681214c3e1e32dd00f0b3ee228f34bd315fd226e3d04a5", checked := Try.checked }
namespace Rows
def none {H : Type} : Left H := { results := [], args := [] }

/-- 'doubletlaw22.LabelUsed': WHATEVER THE INPUT: true; the input reads as it did. -/
def labelUsedSpec : ChangeSpec := { name := "labelUsed", fn := fun _ => fun
  | [d1, d2, d3] => { results := [.lit (.bool true)], args := [d1, d2, d3] }
  | _ => none }
def labelUsedRow : OpenClaim := { program := "ytpagkndgjihbbaa", sum := "6330f7ef12c41f6752681214c3e1e32dd00f0b3ee228f34bd315fd226e3d04a5", func := "doublet/doubletlaw22.LabelUsed", spec := "labelUsed", unfollowed := true, recurses := true, apart := false }
def LabelUsedSaid : Prop := labelUsedRow.holds Try.pinned (OpenSpec.ofChange labelUsedSpec)

/-- ITS FALSE NEIGHBOUR: 'it returns false'. Refute it at one input. -/
def labelUsedWrong : ChangeSpec := { name := "labelUsed", fn := fun _ => fun
  | [d1, d2, d3] => { results := [.lit (.bool false)], args := [d1, d2, d3] }
  | _ => none }
def LabelUsedWrongFalsely : Prop := labelUsedRow.holds Try.pinned (OpenSpec.ofChange labelUsedWrong)

/-- 'doubletlaw22.LabelNames': WHATEVER THE INPUT: true; the input reads as it did. -/
def labelNamesSpec : ChangeSpec := { name := "labelNames", fn := fun _ => fun
  | [d1, d2, d3] => { results := [.lit (.bool true)], args := [d1, d2, d3] }
  | _ => none }
def labelNamesRow : OpenClaim := { program := "ytpagkndgjihbbaa", sum := "6330f7ef12c41f6752681214c3e1e32dd00f0b3ee228f34bd315fd226e3d04a5", func := "doublet/doubletlaw22.LabelNames", spec := "labelNames", unfollowed := true, recurses := true, apart := false }
def LabelNamesSaid : Prop := labelNamesRow.holds Try.pinned (OpenSpec.ofChange labelNamesSpec)

/-- ITS FALSE NEIGHBOUR: 'it returns false'. Refute it at one input. -/
def labelNamesWrong : ChangeSpec := { name := "labelNames", fn := fun _ => fun
  | [d1, d2, d3] => { results := [.lit (.bool false)], args := [d1, d2, d3] }
  | _ => none }
def LabelNamesWrongFalsely : Prop := labelNamesRow.holds Try.pinned (OpenSpec.ofChange labelNamesWrong)

/-- 'doubletlaw22.LabelPlus': WHATEVER THE INPUT: true; the input reads as it did. -/
def labelPlusSpec : ChangeSpec := { name := "labelPlus", fn := fun _ => fun
  | [d] => { results := [.lit (.bool true)], args := [d] }
  | _ => none }
def labelPlusRow : OpenClaim := { program := "ytpagkndgjihbbaa", sum := "6330f7ef12c41f6752681214c3e1e32dd00f0b3ee228f34bd315fd226e3d04a5", func := "doublet/doubletlaw22.LabelPlus", spec := "labelPlus", inPlace := ["slices.overlaps[[]int]", "slices.overlaps[int]"], unfollowed := true, recurses := true, apart := false }
def LabelPlusSaid : Prop := labelPlusRow.holds Try.pinned (OpenSpec.ofChange labelPlusSpec)

/-- ITS FALSE NEIGHBOUR: 'it returns false'. Refute it at one input. -/
def labelPlusWrong : ChangeSpec := { name := "labelPlus", fn := fun _ => fun
  | [d] => { results := [.lit (.bool false)], args := [d] }
  | _ => none }
def LabelPlusWrongFalsely : Prop := labelPlusRow.holds Try.pinned (OpenSpec.ofChange labelPlusWrong)

/-- 'doubletlaw22.LabelTells': WHATEVER THE INPUT: true; the input reads as it did. -/
def labelTellsSpec : ChangeSpec := { name := "labelTells", fn := fun _ => fun
  | [d1, d2, d3] => { results := [.lit (.bool true)], args := [d1, d2, d3] }
  | _ => none }
def labelTellsRow : OpenClaim := { program := "ytpagkndgjihbbaa", sum := "6330f7ef12c41f6752681214c3e1e32dd00f0b3ee228f34bd315fd226e3d04a5", func := "doublet/doubletlaw22.LabelTells", spec := "labelTells", inPlace := ["slices.overlaps[[]int]", "slices.overlaps[int]"], unfollowed := true, recurses := true, apart := false }
def LabelTellsSaid : Prop := labelTellsRow.holds Try.pinned (OpenSpec.ofChange labelTellsSpec)

/-- ITS FALSE NEIGHBOUR: 'it returns false'. Refute it at one input. -/
def labelTellsWrong : ChangeSpec := { name := "labelTells", fn := fun _ => fun
  | [d1, d2, d3] => { results := [.lit (.bool false)], args := [d1, d2, d3] }
  | _ => none }
def LabelTellsWrongFalsely : Prop := labelTellsRow.holds Try.pinned (OpenSpec.ofChange labelTellsWrong)

/- THE SECOND FORM. 'bulk': how many values and letters a reading holds, each counted each time it is reached (what is shared counts as often as it is met; a slice's spare places count too). A statement '..UptoSaid' is the law's where the arguments, and the package variables that the reading takes, are together of bulk at most 1048576: NARROWER than '..Said'. Prove '..Said' where nothing that the law and all that it calls make is longer than what came in: it says more and counts as full. Else prove '..UptoSaid'. A law counts once. -/
mutual
def uptoBulk {H : Type} : DataW H → Nat
  | .lit (.string bytes) => bytes.length + 1
  | .lit _ => 1
  | .nil => 1
  | .ptr d => uptoBulk d + 1
  | .slice elems spare => uptoBulkAll elems + uptoBulkAll spare + 1
  | .agg parts => uptoBulkAll parts + 1
  | .iface _ d => uptoBulk d + 1
  | .map entries => uptoBulkEntries entries + 1
  | .held _ => 1
def uptoBulkAll {H : Type} : List (DataW H) → Nat
  | [] => 0
  | d :: r => uptoBulk d + uptoBulkAll r
def uptoBulkEntries {H : Type} : List (Lit × DataW H) → Nat
  | [] => 0
  | x :: r => uptoBulkEntry x + uptoBulkEntries r
def uptoBulkEntry {H : Type} : Lit × DataW H → Nat
  | (.string bytes, d) => bytes.length + uptoBulk d + 1
  | (_, d) => uptoBulk d + 1
 end
def uptoSmall : (H : Type) → List (DataW H) → Bool := fun _ ds => decide (uptoBulkAll ds ≤ 1048576)
def OpenSpec.upto (s : _root_.Go.ChangeSpec) : _root_.Go.OpenSpec := { _root_.Go.OpenSpec.ofChange s with cond := some uptoSmall }

/-- 'doubletlaw22.LabelUsed', WHERE WHAT IT READS IS OF BULK AT MOST 1048576: true; the input reads as it did. -/
def labelUsedUptoRow : OpenClaim := { program := "ytpagkndgjihbbaa", sum := "6330f7ef12c41f6752681214c3e1e32dd00f0b3ee228f34bd315fd226e3d04a5", func := "doublet/doubletlaw22.LabelUsed", spec := "labelUsed", unfollowed := true, recurses := true, apart := false, narrowed := true }
def LabelUsedUptoSaid : Prop := labelUsedUptoRow.holds Try.pinned (OpenSpec.upto labelUsedSpec)

/-- 'doubletlaw22.LabelNames', WHERE WHAT IT READS IS OF BULK AT MOST 1048576: true; the input reads as it did. -/
def labelNamesUptoRow : OpenClaim := { program := "ytpagkndgjihbbaa", sum := "6330f7ef12c41f6752681214c3e1e32dd00f0b3ee228f34bd315fd226e3d04a5", func := "doublet/doubletlaw22.LabelNames", spec := "labelNames", unfollowed := true, recurses := true, apart := false, narrowed := true }
def LabelNamesUptoSaid : Prop := labelNamesUptoRow.holds Try.pinned (OpenSpec.upto labelNamesSpec)

/-- 'doubletlaw22.LabelPlus', WHERE WHAT IT READS IS OF BULK AT MOST 1048576: true; the input reads as it did. -/
def labelPlusUptoRow : OpenClaim := { program := "ytpagkndgjihbbaa", sum := "6330f7ef12c41f6752681214c3e1e32dd00f0b3ee228f34bd315fd226e3d04a5", func := "doublet/doubletlaw22.LabelPlus", spec := "labelPlus", inPlace := ["slices.overlaps[[]int]", "slices.overlaps[int]"], unfollowed := true, recurses := true, apart := false, narrowed := true }
def LabelPlusUptoSaid : Prop := labelPlusUptoRow.holds Try.pinned (OpenSpec.upto labelPlusSpec)

/-- 'doubletlaw22.LabelTells', WHERE WHAT IT READS IS OF BULK AT MOST 1048576: true; the input reads as it did. -/
def labelTellsUptoRow : OpenClaim := { program := "ytpagkndgjihbbaa", sum := "6330f7ef12c41f6752681214c3e1e32dd00f0b3ee228f34bd315fd226e3d04a5", func := "doublet/doubletlaw22.LabelTells", spec := "labelTells", inPlace := ["slices.overlaps[[]int]", "slices.overlaps[int]"], unfollowed := true, recurses := true, apart := false, narrowed := true }
def LabelTellsUptoSaid : Prop := labelTellsUptoRow.holds Try.pinned (OpenSpec.upto labelTellsSpec)

end Rows
end Go.Proofs.Ytpagkndgjihbbaa
