/- Can states be put together: quotient.Stable. -/
import Derived.Test.YtpagkndgjihbbaaSl
set_option linter.unusedSimpArgs false
set_option linter.unusedVariables false
namespace Go.Proofs.Ytpagkndgjihbbaa
open Go Go.V Go.Proofs

def stableP (d : DfaT) (m : List Int) : Prop := ∀ s t (hs : s < m.length) (h1 : s < d.label.length) (h2 : t < d.label.length) (h3 : s < d.next.length) (h4 : t < d.next.length), place m m[s] = some t → d.label[s] = d.label[t] ∧ sameRows (nums m) d.next[s] d.next[t]
end Go.Proofs.Ytpagkndgjihbbaa
