/- Can states be put together: quotient.Stable; the machine of blocks. -/
import Derived.Test.YtpagkndgjihbbaaSm
set_option linter.unusedSimpArgs false
set_option linter.unusedVariables false
namespace Go.Proofs.Ytpagkndgjihbbaa
open Go Go.V Go.Proofs

def StableP (d : DfaT) (l : List Int) : Prop := RightP d ∧ l.length = d.label.length ∧ stableP d l
end Go.Proofs.Ytpagkndgjihbbaa
