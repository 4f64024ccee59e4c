/-
  No cell of these rows narrows 'for every input' (looked for: loops, veiled, ifaces, maps, wideKeys, modest, calm, conditions, laid).
  DERIVED. THE GIVEN ROWS OF THIS SEAT. 3 by the template 'for every input the law returns true; each argument reads behind the call as it read before'; 0 by the template 'total and deterministic' (their statements: YtkojnphddaccfaaTotals.lean).
  GIVEN WITH THE SEED: the statements are not yours to turn. If you find one false, say at which input.
  Laid BY PROGRAM, IN A SANDBOX (cutbox-rows.mjs): the forced cells as the released guide's own fill.sh prints them over the translation a564323f4bad9a48… (all of the seat's roots in one cut). By AI agents, Wed Nov 11 2026. No macro, syntax, notation, axiom, sorry.
-/
import Derived.Test.YtkojnphddaccfaaChecked
import GoSem.Claim
import GoSem.ClaimJoined
import GoSem.ClaimMapViews
import Derived.JoinedTies
import Derived.KernelRfl
namespace Go.Proofs.Ytkojnphddaccfaa
/- THE CELL 'sum', in the pinned program and in every row, IS THE sha256 OF THE DUMP (.gsa) THAT YtkojnphddaccfaaProg.lean LOADS. Nothing in Lean hashes anything: it is a label: what it is worth is what the hold of that sum in a sandbox is worth. -/
noncomputable def Try.pinned : Pinned := { name := "ytkojnphddaccfaa", sum := "a564323f4bad9a482ef9b7a33ef5ec80000a7c524c39e6dc7812586762313191", checked := Try.checked }
namespace Rows
def none {H : Type} : Left H := { results := [], args := [] }

/-- 'doubletlaw15.InternNumbers': WHATEVER THE INPUT: true; the input reads as it did. -/
def internNumbersSpec : ChangeSpec := { name := "internNumbers", fn := fun _ => fun
  | [d] => { results := [.lit (.bool true)], args := [d] }
  | _ => none }
def internNumbersRow : OpenClaim := { program := "ytkojnphddaccfaa", sum := "a564323f4bad9a482ef9b7a33ef5ec80000a7c524c39e6dc7812586762313191", func := "doublet/doubletlaw15.InternNumbers", spec := "internNumbers", plainKeys := false, apart := false }
def InternNumbersSaid : Prop := internNumbersRow.holds Try.pinned (OpenSpec.ofChange internNumbersSpec)

/-- ITS FALSE NEIGHBOUR: 'it returns false'. Refute it at one input. -/
def internNumbersWrong : ChangeSpec := { name := "internNumbers", fn := fun _ => fun
  | [d] => { results := [.lit (.bool false)], args := [d] }
  | _ => none }
def InternNumbersWrongFalsely : Prop := internNumbersRow.holds Try.pinned (OpenSpec.ofChange internNumbersWrong)

/-- 'doubletlaw15.InternDoes': WHATEVER THE INPUT: true; the input reads as it did. -/
def internDoesSpec : ChangeSpec := { name := "internDoes", fn := fun _ => fun
  | [d] => { results := [.lit (.bool true)], args := [d] }
  | _ => none }
def internDoesRow : OpenClaim := { program := "ytkojnphddaccfaa", sum := "a564323f4bad9a482ef9b7a33ef5ec80000a7c524c39e6dc7812586762313191", func := "doublet/doubletlaw15.InternDoes", spec := "internDoes", plainKeys := false, apart := false }
def InternDoesSaid : Prop := internDoesRow.holds Try.pinned (OpenSpec.ofChange internDoesSpec)

/-- ITS FALSE NEIGHBOUR: 'it returns false'. Refute it at one input. -/
def internDoesWrong : ChangeSpec := { name := "internDoes", fn := fun _ => fun
  | [d] => { results := [.lit (.bool false)], args := [d] }
  | _ => none }
def InternDoesWrongFalsely : Prop := internDoesRow.holds Try.pinned (OpenSpec.ofChange internDoesWrong)

/-- 'doubletlaw15.InternNil': WHATEVER THE INPUT: true; the input reads as it did. -/
def internNilSpec : ChangeSpec := { name := "internNil", fn := fun _ => fun
  | [d1, d2] => { results := [.lit (.bool true)], args := [d1, d2] }
  | _ => none }
def internNilRow : OpenClaim := { program := "ytkojnphddaccfaa", sum := "a564323f4bad9a482ef9b7a33ef5ec80000a7c524c39e6dc7812586762313191", func := "doublet/doubletlaw15.InternNil", spec := "internNil", plainKeys := false, apart := false }
def InternNilSaid : Prop := internNilRow.holds Try.pinned (OpenSpec.ofChange internNilSpec)

/-- ITS FALSE NEIGHBOUR: 'it returns false'. Refute it at one input. -/
def internNilWrong : ChangeSpec := { name := "internNil", fn := fun _ => fun
  | [d1, d2] => { results := [.lit (.bool false)], args := [d1, d2] }
  | _ => none }
def InternNilWrongFalsely : Prop := internNilRow.holds Try.pinned (OpenSpec.ofChange internNilWrong)

/- THE SECOND FORM. 'bulk': how many values and letters a reading holds, each counted each time it is reached (what is shared counts as often as it is met; a slice's spare places count too). A statement '..UptoSaid' is the law's where the arguments, and the package variables that the reading takes, are together of bulk at most 1048576: NARROWER than '..Said'. Prove '..Said' where nothing that the law and all that it calls make is longer than what came in: it says more and counts as full. Else prove '..UptoSaid'. A law counts once. -/
mutual
def uptoBulk {H : Type} : DataW H → Nat
  | .lit (.string bytes) => bytes.length + 1
  | .lit _ => 1
  | .nil => 1
  | .ptr d => uptoBulk d + 1
  | .slice elems spare => uptoBulkAll elems + uptoBulkAll spare + 1
  | .agg parts => uptoBulkAll parts + 1
  | .iface _ d => uptoBulk d + 1
  | .map entries => uptoBulkEntries entries + 1
  | .held _ => 1
def uptoBulkAll {H : Type} : List (DataW H) → Nat
  | [] => 0
  | d :: r => uptoBulk d + uptoBulkAll r
def uptoBulkEntries {H : Type} : List (Lit × DataW H) → Nat
  | [] => 0
  | x :: r => uptoBulkEntry x + uptoBulkEntries r
def uptoBulkEntry {H : Type} : Lit × DataW H → Nat
  | (.string bytes, d) => bytes.length + uptoBulk d + 1
  | (_, d) => uptoBulk d + 1
 end
def uptoSmall : (H : Type) → List (DataW H) → Bool := fun _ ds => decide (uptoBulkAll ds ≤ 1048576)
def OpenSpec.upto (s : _root_.Go.ChangeSpec) : _root_.Go.OpenSpec := { _root_.Go.OpenSpec.ofChange s with cond := some uptoSmall }

/-- 'doubletlaw15.InternNumbers', WHERE WHAT IT READS IS OF BULK AT MOST 1048576: true; the input reads as it did. -/
def internNumbersUptoRow : OpenClaim := { program := "ytkojnphddaccfaa", sum := "a564323f4bad9a482ef9b7a33ef5ec80000a7c524c39e6dc7812586762313191", func := "doublet/doubletlaw15.InternNumbers", spec := "internNumbers", plainKeys := false, apart := false, narrowed := true }
def InternNumbersUptoSaid : Prop := internNumbersUptoRow.holds Try.pinned (OpenSpec.upto internNumbersSpec)

/-- 'doubletlaw15.InternDoes', WHERE WHAT IT READS IS OF BULK AT MOST 1048576: true; the input reads as it did. -/
def internDoesUptoRow : OpenClaim := { program := "ytkojnphddaccfaa", sum := "a564323f4bad9a482ef9b7a33ef5ec80000a7c524c39e6dc7812586762313191", func := "doublet/doubletlaw15.InternDoes", spec := "internDoes", plainKeys := false, apart := false, narrowed := true }
def InternDoesUptoSaid : Prop := internDoesUptoRow.holds Try.pinned (OpenSpec.upto internDoesSpec)

/-- 'doubletlaw15.InternNil', WHERE WHAT IT READS IS OF BULK AT MOST 1048576: true; the input reads as it did. -/
def internNilUptoRow : OpenClaim := { program := "ytkojnphddaccfaa", sum := "a564323f4bad9a482ef9b7a33ef5ec80000a7c524c39e6dc7812586762313191", func := "doublet/doubletlaw15.InternNil", spec := "internNil", plainKeys := false, apart := false, narrowed := true }
def InternNilUptoSaid : Prop := internNilUptoRow.holds Try.pinned (OpenSpec.upto internNilSpec)

end Rows
end Go.Proofs.Ytkojnphddaccfaa
