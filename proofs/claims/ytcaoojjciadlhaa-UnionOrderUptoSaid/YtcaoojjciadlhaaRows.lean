/-
  No cell of these rows narrows 'for every input' (looked for: loops, veiled, ifaces, maps, wideKeys, modest, calm, conditions, laid).
  DERIVED. THE GIVEN ROWS OF THIS SEAT. 3 by the template 'for every input the law returns true; each argument reads behind the call as it read before'; 0 by the template 'total and deterministic' (their statements: YtcaoojjciadlhaaTotals.lean).
  GIVEN WITH THE SEED: the statements are not yours to turn. If you find one false, say at which input.
  Laid BY PROGRAM, IN A SANDBOX (cutbox-rows.mjs): the forced cells as the released guide's own fill.sh prints them over the translation 9c3ca539451ca56e… (all of the seat's roots in one cut). By AI agents, Wed Nov 11 2026. No macro, syntax, notation, axiom, sorry.
-/
import Derived.Test.YtcaoojjciadlhaaChecked
import GoSem.Claim
import GoSem.ClaimJoined
import GoSem.ClaimMapViews
import Derived.JoinedTies
import Derived.KernelRfl
namespace Go.Proofs.Ytcaoojjciadlhaa
/- THE CELL 'sum', in the pinned program and in every row, IS THE sha256 OF THE DUMP (.gsa) THAT YtcaoojjciadlhaaProg.lean LOADS. Nothing in Lean hashes anything: it is a label: what it is worth is what the hold of that sum in a sandbox is worth. -/
noncomputable def Try.pinned : Pinned := { name := "ytcaoojjciadlhaa", sum := "9c3ca539451ca56ea59cbdd783da7ec1175e29e75b297e98cc7fd7ccef981649", checked := Try.checked }
namespace Rows
def none {H : Type} : Left H := { results := [], args := [] }

/-- 'doubletlaw29.UnionDoes': WHATEVER THE INPUT: true; the input reads as it did. -/
def unionDoesSpec : ChangeSpec := { name := "unionDoes", fn := fun _ => fun
  | [d1, d2] => { results := [.lit (.bool true)], args := [d1, d2] }
  | _ => none }
def unionDoesRow : OpenClaim := { program := "ytcaoojjciadlhaa", sum := "9c3ca539451ca56ea59cbdd783da7ec1175e29e75b297e98cc7fd7ccef981649", func := "doublet/doubletlaw29.UnionDoes", spec := "unionDoes", unfollowed := true, recurses := true, apart := false }
def UnionDoesSaid : Prop := unionDoesRow.holds Try.pinned (OpenSpec.ofChange unionDoesSpec)

/-- ITS FALSE NEIGHBOUR: 'it returns false'. Refute it at one input. -/
def unionDoesWrong : ChangeSpec := { name := "unionDoes", fn := fun _ => fun
  | [d1, d2] => { results := [.lit (.bool false)], args := [d1, d2] }
  | _ => none }
def UnionDoesWrongFalsely : Prop := unionDoesRow.holds Try.pinned (OpenSpec.ofChange unionDoesWrong)

/-- 'doubletlaw29.UnionOrder': WHATEVER THE INPUT: true; the input reads as it did. -/
def unionOrderSpec : ChangeSpec := { name := "unionOrder", fn := fun _ => fun
  | [d1, d2] => { results := [.lit (.bool true)], args := [d1, d2] }
  | _ => none }
def unionOrderRow : OpenClaim := { program := "ytcaoojjciadlhaa", sum := "9c3ca539451ca56ea59cbdd783da7ec1175e29e75b297e98cc7fd7ccef981649", func := "doublet/doubletlaw29.UnionOrder", spec := "unionOrder", unfollowed := true, recurses := true, apart := false }
def UnionOrderSaid : Prop := unionOrderRow.holds Try.pinned (OpenSpec.ofChange unionOrderSpec)

/-- ITS FALSE NEIGHBOUR: 'it returns false'. Refute it at one input. -/
def unionOrderWrong : ChangeSpec := { name := "unionOrder", fn := fun _ => fun
  | [d1, d2] => { results := [.lit (.bool false)], args := [d1, d2] }
  | _ => none }
def UnionOrderWrongFalsely : Prop := unionOrderRow.holds Try.pinned (OpenSpec.ofChange unionOrderWrong)

/-- 'doubletlaw29.UnionNil': WHATEVER THE INPUT: true; the input reads as it did. -/
def unionNilSpec : ChangeSpec := { name := "unionNil", fn := fun _ => fun
  | [d1, d2] => { results := [.lit (.bool true)], args := [d1, d2] }
  | _ => none }
def unionNilRow : OpenClaim := { program := "ytcaoojjciadlhaa", sum := "9c3ca539451ca56ea59cbdd783da7ec1175e29e75b297e98cc7fd7ccef981649", func := "doublet/doubletlaw29.UnionNil", spec := "unionNil", unfollowed := true, recurses := true, apart := false }
def UnionNilSaid : Prop := unionNilRow.holds Try.pinned (OpenSpec.ofChange unionNilSpec)

/-- ITS FALSE NEIGHBOUR: 'it returns false'. Refute it at one input. -/
def unionNilWrong : ChangeSpec := { name := "unionNil", fn := fun _ => fun
  | [d1, d2] => { results := [.lit (.bool false)], args := [d1, d2] }
  | _ => none }
def UnionNilWrongFalsely : Prop := unionNilRow.holds Try.pinned (OpenSpec.ofChange unionNilWrong)

/- THE SECOND FORM. 'bulk': how many values and letters a reading holds, each counted each time it is reached (what is shared counts as often as it is met; a slice's spare places count too). A statement '..UptoSaid' is the law's where the arguments, and the package variables that the reading takes, are together of bulk at most 1048576: NARROWER than '..Said'. Prove '..Said' where nothing that the law and all that it calls make is longer than what came in: it says more and counts as full. Else prove '..UptoSaid'. A law counts once. -/
mutual
def uptoBulk {H : Type} : DataW H → Nat
  | .lit (.string bytes) => bytes.length + 1
  | .lit _ => 1
  | .nil => 1
  | .ptr d => uptoBulk d + 1
  | .slice elems spare => uptoBulkAll elems + uptoBulkAll spare + 1
  | .agg parts => uptoBulkAll parts + 1
  | .iface _ d => uptoBulk d + 1
  | .map entries => uptoBulkEntries entries + 1
  | .held _ => 1
def uptoBulkAll {H : Type} : List (DataW H) → Nat
  | [] => 0
  | d :: r => uptoBulk d + uptoBulkAll r
def uptoBulkEntries {H : Type} : List (Lit × DataW H) → Nat
  | [] => 0
  | x :: r => uptoBulkEntry x + uptoBulkEntries r
def uptoBulkEntry {H : Type} : Lit × DataW H → Nat
  | (.string bytes, d) => bytes.length + uptoBulk d + 1
  | (_, d) => uptoBulk d + 1
 end
def uptoSmall : (H : Type) → List (DataW H) → Bool := fun _ ds => decide (uptoBulkAll ds ≤ 1048576)
def OpenSpec.upto (s : _root_.Go.ChangeSpec) : _root_.Go.OpenSpec := { _root_.Go.OpenSpec.ofChange s with cond := some uptoSmall }

/-- 'doubletlaw29.UnionDoes', WHERE WHAT IT READS IS OF BULK AT MOST 1048576: true; the input reads as it did. -/
def unionDoesUptoRow : OpenClaim := { program := "ytcaoojjciadlhaa", sum := "9c3ca539451ca56ea59cbdd783da7ec1175e29e75b297e98cc7fd7ccef981649", func := "doublet/doubletlaw29.UnionDoes", spec := "unionDoes", unfollowed := true, recurses := true, apart := false, narrowed := true }
def UnionDoesUptoSaid : Prop := unionDoesUptoRow.holds Try.pinned (OpenSpec.upto unionDoesSpec)

/-- 'doubletlaw29.UnionOrder', WHERE WHAT IT READS IS OF BULK AT MOST 1048576: true; the input reads as it did. -/
def unionOrderUptoRow : OpenClaim := { program := "ytcaoojjciadlhaa", sum := "9c3ca539451ca56ea59cbdd783da7ec1175e29e75b297e98cc7fd7ccef981649", func := "doublet/doubletlaw29.UnionOrder", spec := "unionOrder", unfollowed := true, recurses := true, apart := false, narrowed := true }
def UnionOrderUptoSaid : Prop := unionOrderUptoRow.holds Try.pinned (OpenSpec.upto unionOrderSpec)

/-- 'doubletlaw29.UnionNil', WHERE WHAT IT READS IS OF BULK AT MOST 1048576: true; the input reads as it did. -/
def unionNilUptoRow : OpenClaim := { program := "ytcaoojjciadlhaa", sum := "9c3ca539451ca56ea59cbdd783da7ec1175e29e75b297e98cc7fd7ccef981649", func := "doublet/doubletlaw29.UnionNil", spec := "unionNil", unfollowed := true, recurses := true, apart := false, narrowed := true }
def UnionNilUptoSaid : Prop := unionNilUptoRow.holds Try.pinned (OpenSpec.upto unionNilSpec)

end Rows
end Go.Proofs.Ytcaoojjciadlhaa
