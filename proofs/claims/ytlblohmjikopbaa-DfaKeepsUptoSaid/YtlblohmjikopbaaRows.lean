/-
  No cell of these rows narrows 'for every input' (looked for: loops, veiled, ifaces, maps, wideKeys, modest, calm, conditions, laid).
  DERIVED. THE GIVEN ROWS OF THIS SEAT. 5 by the template 'for every input the law returns true; each argument reads behind the call as it read before'; 0 by the template 'total and deterministic' (their statements: YtlblohmjikopbaaTotals.lean).
  GIVEN WITH THE SEED: the statements are not yours to turn. If you find one false, say at which input.
  Laid BY PROGRAM, IN A SANDBOX (cutbox-rows.mjs): the forced cells as the released guide's own fill.sh prints them over the translation 6c51511dc8185248… (all of the seat's roots in one cut). By AI agents, Wed Nov 11 2026. No macro, syntax, notation, axiom, sorry.
-/
import Derived.Test.YtlblohmjikopbaaChecked
import GoSem.Claim
import GoSem.ClaimJoined
import GoSem.ClaimMapViews
import Derived.JoinedTies
import Derived.KernelRfl
namespace Go.Proofs.Ytlblohmjikopbaa
/- THE CELL 'sum', in the pinned program and in every row, IS THE sha256 OF THE DUMP (.gsa) THAT YtlblohmjikopbaaProg.lean LOADS. Nothing in Lean hashes anything: it is a label: what it is worth is what the hold of that sum in a sandbox is worth. -/
noncomputable def Try.pinned : Pinned := { name := "ytlblohmjikopbaa", sum := "6c51511dc8185248344bb2449c06a00430cc4eeaf620415251ea6978f0aa7eec", checked := Try.checked }
namespace Rows
def none {H : Type} : Left H := { results := [], args := [] }

/-- 'doubletlaw20.DfaMeets': WHATEVER THE INPUT: true; the input reads as it did. -/
def dfaMeetsSpec : ChangeSpec := { name := "dfaMeets", fn := fun _ => fun
  | [d] => { results := [.lit (.bool true)], args := [d] }
  | _ => none }
def dfaMeetsRow : OpenClaim := { program := "ytlblohmjikopbaa", sum := "6c51511dc8185248344bb2449c06a00430cc4eeaf620415251ea6978f0aa7eec", func := "doublet/doubletlaw20.DfaMeets", spec := "dfaMeets", unfollowed := true, recurses := true, apart := false }
def DfaMeetsSaid : Prop := dfaMeetsRow.holds Try.pinned (OpenSpec.ofChange dfaMeetsSpec)

/-- ITS FALSE NEIGHBOUR: 'it returns false'. Refute it at one input. -/
def dfaMeetsWrong : ChangeSpec := { name := "dfaMeets", fn := fun _ => fun
  | [d] => { results := [.lit (.bool false)], args := [d] }
  | _ => none }
def DfaMeetsWrongFalsely : Prop := dfaMeetsRow.holds Try.pinned (OpenSpec.ofChange dfaMeetsWrong)

/-- 'doubletlaw20.DfaRuns': WHATEVER THE INPUT: true; the input reads as it did. -/
def dfaRunsSpec : ChangeSpec := { name := "dfaRuns", fn := fun _ => fun
  | [d1, d2, d3, d4] => { results := [.lit (.bool true)], args := [d1, d2, d3, d4] }
  | _ => none }
def dfaRunsRow : OpenClaim := { program := "ytlblohmjikopbaa", sum := "6c51511dc8185248344bb2449c06a00430cc4eeaf620415251ea6978f0aa7eec", func := "doublet/doubletlaw20.DfaRuns", spec := "dfaRuns", unfollowed := true, recurses := true, apart := false }
def DfaRunsSaid : Prop := dfaRunsRow.holds Try.pinned (OpenSpec.ofChange dfaRunsSpec)

/-- ITS FALSE NEIGHBOUR: 'it returns false'. Refute it at one input. -/
def dfaRunsWrong : ChangeSpec := { name := "dfaRuns", fn := fun _ => fun
  | [d1, d2, d3, d4] => { results := [.lit (.bool false)], args := [d1, d2, d3, d4] }
  | _ => none }
def DfaRunsWrongFalsely : Prop := dfaRunsRow.holds Try.pinned (OpenSpec.ofChange dfaRunsWrong)

/-- 'doubletlaw20.DfaAsks': WHATEVER THE INPUT: true; the input reads as it did. -/
def dfaAsksSpec : ChangeSpec := { name := "dfaAsks", fn := fun _ => fun
  | [d1, d2] => { results := [.lit (.bool true)], args := [d1, d2] }
  | _ => none }
def dfaAsksRow : OpenClaim := { program := "ytlblohmjikopbaa", sum := "6c51511dc8185248344bb2449c06a00430cc4eeaf620415251ea6978f0aa7eec", func := "doublet/doubletlaw20.DfaAsks", spec := "dfaAsks", unfollowed := true, recurses := true, apart := false }
def DfaAsksSaid : Prop := dfaAsksRow.holds Try.pinned (OpenSpec.ofChange dfaAsksSpec)

/-- ITS FALSE NEIGHBOUR: 'it returns false'. Refute it at one input. -/
def dfaAsksWrong : ChangeSpec := { name := "dfaAsks", fn := fun _ => fun
  | [d1, d2] => { results := [.lit (.bool false)], args := [d1, d2] }
  | _ => none }
def DfaAsksWrongFalsely : Prop := dfaAsksRow.holds Try.pinned (OpenSpec.ofChange dfaAsksWrong)

/-- 'doubletlaw20.DfaKeeps': WHATEVER THE INPUT: true; the input reads as it did. -/
def dfaKeepsSpec : ChangeSpec := { name := "dfaKeeps", fn := fun _ => fun
  | [d1, d2] => { results := [.lit (.bool true)], args := [d1, d2] }
  | _ => none }
def dfaKeepsRow : OpenClaim := { program := "ytlblohmjikopbaa", sum := "6c51511dc8185248344bb2449c06a00430cc4eeaf620415251ea6978f0aa7eec", func := "doublet/doubletlaw20.DfaKeeps", spec := "dfaKeeps", unfollowed := true, recurses := true, apart := false }
def DfaKeepsSaid : Prop := dfaKeepsRow.holds Try.pinned (OpenSpec.ofChange dfaKeepsSpec)

/-- ITS FALSE NEIGHBOUR: 'it returns false'. Refute it at one input. -/
def dfaKeepsWrong : ChangeSpec := { name := "dfaKeeps", fn := fun _ => fun
  | [d1, d2] => { results := [.lit (.bool false)], args := [d1, d2] }
  | _ => none }
def DfaKeepsWrongFalsely : Prop := dfaKeepsRow.holds Try.pinned (OpenSpec.ofChange dfaKeepsWrong)

/-- 'doubletlaw20.DfaTrims': WHATEVER THE INPUT: true; the input reads as it did. -/
def dfaTrimsSpec : ChangeSpec := { name := "dfaTrims", fn := fun _ => fun
  | [d1, d2] => { results := [.lit (.bool true)], args := [d1, d2] }
  | _ => none }
def dfaTrimsRow : OpenClaim := { program := "ytlblohmjikopbaa", sum := "6c51511dc8185248344bb2449c06a00430cc4eeaf620415251ea6978f0aa7eec", func := "doublet/doubletlaw20.DfaTrims", spec := "dfaTrims", unfollowed := true, recurses := true, apart := false }
def DfaTrimsSaid : Prop := dfaTrimsRow.holds Try.pinned (OpenSpec.ofChange dfaTrimsSpec)

/-- ITS FALSE NEIGHBOUR: 'it returns false'. Refute it at one input. -/
def dfaTrimsWrong : ChangeSpec := { name := "dfaTrims", fn := fun _ => fun
  | [d1, d2] => { results := [.lit (.bool false)], args := [d1, d2] }
  | _ => none }
def DfaTrimsWrongFalsely : Prop := dfaTrimsRow.holds Try.pinned (OpenSpec.ofChange dfaTrimsWrong)

/- THE SECOND FORM. 'bulk': how many values and letters a reading holds, each counted each time it is reached (what is shared counts as often as it is met; a slice's spare places count too). A statement '..UptoSaid' is the law's where the arguments, and the package variables that the reading takes, are together of bulk at most 1048576: NARROWER than '..Said'. Prove '..Said' where nothing that the law and all that it calls make is longer than what came in: it says more and counts as full. Else prove '..UptoSaid'. A law counts once. -/
mutual
def uptoBulk {H : Type} : DataW H → Nat
  | .lit (.string bytes) => bytes.length + 1
  | .lit _ => 1
  | .nil => 1
  | .ptr d => uptoBulk d + 1
  | .slice elems spare => uptoBulkAll elems + uptoBulkAll spare + 1
  | .agg parts => uptoBulkAll parts + 1
  | .iface _ d => uptoBulk d + 1
  | .map entries => uptoBulkEntries entries + 1
  | .held _ => 1
def uptoBulkAll {H : Type} : List (DataW H) → Nat
  | [] => 0
  | d :: r => uptoBulk d + uptoBulkAll r
def uptoBulkEntries {H : Type} : List (Lit × DataW H) → Nat
  | [] => 0
  | x :: r => uptoBulkEntry x + uptoBulkEntries r
def uptoBulkEntry {H : Type} : Lit × DataW H → Nat
  | (.string bytes, d) => bytes.length + uptoBulk d + 1
  | (_, d) => uptoBulk d + 1
 end
def uptoSmall : (H : Type) → List (DataW H) → Bool := fun _ ds => decide (uptoBulkAll ds ≤ 1048576)
def OpenSpec.upto (s : _root_.Go.ChangeSpec) : _root_.Go.OpenSpec := { _root_.Go.OpenSpec.ofChange s with cond := some uptoSmall }

/-- 'doubletlaw20.DfaMeets', WHERE WHAT IT READS IS OF BULK AT MOST 1048576: true; the input reads as it did. -/
def dfaMeetsUptoRow : OpenClaim := { program := "ytlblohmjikopbaa", sum := "6c51511dc8185248344bb2449c06a00430cc4eeaf620415251ea6978f0aa7eec", func := "doublet/doubletlaw20.DfaMeets", spec := "dfaMeets", unfollowed := true, recurses := true, apart := false, narrowed := true }
def DfaMeetsUptoSaid : Prop := dfaMeetsUptoRow.holds Try.pinned (OpenSpec.upto dfaMeetsSpec)

/-- 'doubletlaw20.DfaRuns', WHERE WHAT IT READS IS OF BULK AT MOST 1048576: true; the input reads as it did. -/
def dfaRunsUptoRow : OpenClaim := { program := "ytlblohmjikopbaa", sum := "6c51511dc8185248344bb2449c06a00430cc4eeaf620415251ea6978f0aa7eec", func := "doublet/doubletlaw20.DfaRuns", spec := "dfaRuns", unfollowed := true, recurses := true, apart := false, narrowed := true }
def DfaRunsUptoSaid : Prop := dfaRunsUptoRow.holds Try.pinned (OpenSpec.upto dfaRunsSpec)

/-- 'doubletlaw20.DfaAsks', WHERE WHAT IT READS IS OF BULK AT MOST 1048576: true; the input reads as it did. -/
def dfaAsksUptoRow : OpenClaim := { program := "ytlblohmjikopbaa", sum := "6c51511dc8185248344bb2449c06a00430cc4eeaf620415251ea6978f0aa7eec", func := "doublet/doubletlaw20.DfaAsks", spec := "dfaAsks", unfollowed := true, recurses := true, apart := false, narrowed := true }
def DfaAsksUptoSaid : Prop := dfaAsksUptoRow.holds Try.pinned (OpenSpec.upto dfaAsksSpec)

/-- 'doubletlaw20.DfaKeeps', WHERE WHAT IT READS IS OF BULK AT MOST 1048576: true; the input reads as it did. -/
def dfaKeepsUptoRow : OpenClaim := { program := "ytlblohmjikopbaa", sum := "6c51511dc8185248344bb2449c06a00430cc4eeaf620415251ea6978f0aa7eec", func := "doublet/doubletlaw20.DfaKeeps", spec := "dfaKeeps", unfollowed := true, recurses := true, apart := false, narrowed := true }
def DfaKeepsUptoSaid : Prop := dfaKeepsUptoRow.holds Try.pinned (OpenSpec.upto dfaKeepsSpec)

/-- 'doubletlaw20.DfaTrims', WHERE WHAT IT READS IS OF BULK AT MOST 1048576: true; the input reads as it did. -/
def dfaTrimsUptoRow : OpenClaim := { program := "ytlblohmjikopbaa", sum := "6c51511dc8185248344bb2449c06a00430cc4eeaf620415251ea6978f0aa7eec", func := "doublet/doubletlaw20.DfaTrims", spec := "dfaTrims", unfollowed := true, recurses := true, apart := false, narrowed := true }
def DfaTrimsUptoSaid : Prop := dfaTrimsUptoRow.holds Try.pinned (OpenSpec.upto dfaTrimsSpec)

end Rows
end Go.Proofs.Ytlblohmjikopbaa
