/- The numbers of blocks, and of what two have together: contracts. -/
import Derived.Test.YtpagkndgjihbbaaSb
set_option linter.unusedSimpArgs false
set_option linter.unusedVariables false
namespace Go.Proofs.Ytpagkndgjihbbaa
open Go Go.V Go.Proofs

end Go.Proofs.Ytpagkndgjihbbaa
