/- Can states be put together: quotient.Stable; the machine of blocks. -/
import Derived.Test.YtomdbjfdbkejoaaSm
set_option linter.unusedSimpArgs false
set_option linter.unusedVariables false
namespace Go.Proofs.Ytomdbjfdbkejoaa
open Go Go.V Go.Proofs

def StableP (d : DfaT) (l : List Int) : Prop := RightP d ∧ l.length = d.label.length ∧ stableP d l
end Go.Proofs.Ytomdbjfdbkejoaa
