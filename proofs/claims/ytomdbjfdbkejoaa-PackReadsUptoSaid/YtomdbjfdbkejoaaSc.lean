/- The numbers of blocks, and of what two have together: contracts. -/
import Derived.Test.YtomdbjfdbkejoaaSb
set_option linter.unusedSimpArgs false
set_option linter.unusedVariables false
namespace Go.Proofs.Ytomdbjfdbkejoaa
open Go Go.V Go.Proofs

end Go.Proofs.Ytomdbjfdbkejoaa
