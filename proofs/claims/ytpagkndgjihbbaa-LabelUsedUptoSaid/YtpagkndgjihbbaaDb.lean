/- Texts, as a law is handed them. -/
import Derived.Test.YtpagkndgjihbbaaDa
set_option linter.unusedSimpArgs false
set_option linter.unusedVariables false
namespace Go.Proofs.Ytpagkndgjihbbaa
open Go Go.V Go.Proofs Go.ChangeShapes Go.WideShapes Go.RowKit

section
variable {H : Type} {enc : TypeId × Value → H} {W : World} {held : Bool} {sp : Nat → Bool}
set_option maxRecDepth 8000 in
theorem rd_strs {r : Reach} {b0 : Nat} {v : Value} {dt : DataW H} {ps : List MemPlace}
    (hval : Value.okWide Try.prog W r b0 25 v) (h : DataW.Trod enc Try.prog W 0 sp held 25 v dt ps) : ∃ xs : List (List UInt8), Sl (fun b => W.heap[b]?) str v xs ∧ (bulkV dt ≤ 1048576 → xs.length ≤ 1048576 ∧ ∀ s ∈ xs, s.length ≤ 1048576) := by
  obtain ⟨d1, hd1, hf1⟩ := tok.und (t := 25) (k := .slice 9) rfl (by simp)
  simp only [TK.fits] at hf1; subst hf1
  obtain ⟨a, len, cap, rfl⟩ := okWide_slice hd1 hval
  obtain ⟨fuel, hf⟩ := h
  obtain ⟨a', cap', xs, h1, h2, h3, h4, h5⟩ := rd_fstrs hf
  have e : Value.slice a len cap = .slice a' xs.length cap' := by simpa [Value.cells] using h1
  refine ⟨xs, ⟨a', cap', e, h2, h3⟩, fun hb => ⟨by have : xs.length + 1 ≤ bulkV dt := h4; omega, fun s hs => ?_⟩⟩
  have : s.length ≤ bulkV dt := h5 s hs
  omega
end
end Go.Proofs.Ytpagkndgjihbbaa
