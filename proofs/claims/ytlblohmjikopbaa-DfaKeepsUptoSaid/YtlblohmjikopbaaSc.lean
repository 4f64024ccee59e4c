/- The numbers of blocks, and of what two have together: contracts. -/
import Derived.Test.YtlblohmjikopbaaSb
set_option linter.unusedSimpArgs false
set_option linter.unusedVariables false
namespace Go.Proofs.Ytlblohmjikopbaa
open Go Go.V Go.Proofs

end Go.Proofs.Ytlblohmjikopbaa
