/- Numbers given to keys: contracts. -/
import Derived.Test.YtpagkndgjihbbaaSa
set_option linter.unusedSimpArgs false
set_option linter.unusedVariables false
namespace Go.Proofs.Ytpagkndgjihbbaa
open Go Go.V Go.Proofs

theorem hei : KeyEnc T 3 (Value.int .i64) := keyEnc_int (T := T) (t := 3) rfl
end Go.Proofs.Ytpagkndgjihbbaa
