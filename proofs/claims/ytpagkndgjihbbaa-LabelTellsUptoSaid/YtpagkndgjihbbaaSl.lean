/- Can states be put together: contracts. -/
import Derived.Test.YtpagkndgjihbbaaSk
set_option linter.unusedSimpArgs false
set_option linter.unusedVariables false
namespace Go.Proofs.Ytpagkndgjihbbaa
open Go Go.V Go.Proofs

def atL (l : List Int) (x : Int) : Int := l.getD x.toNat 0
theorem atL_get {l : List Int} {x : Int} (h : x.toNat < l.length) : atL l x = l[x.toNat] := by unfold atL; rw [List.getD_eq_getElem?_getD, List.getElem?_eq_getElem h]; rfl
def sameRows (L xs ys : List Int) : Prop := ∃ h : xs.length = ys.length, ∀ k (hk : k < xs.length), atL L xs[k] = atL L (ys[k]'(h ▸ hk))
end Go.Proofs.Ytpagkndgjihbbaa
