/- Blocks of two, and finer ones: contracts. -/
import Derived.Test.YtpagkndgjihbbaaSd
set_option linter.unusedSimpArgs false
set_option linter.unusedVariables false
namespace Go.Proofs.Ytpagkndgjihbbaa
open Go Go.V Go.Proofs

section plain
variable {α : Type} [DecidableEq α]
def firsts (l : List α) : List Int := l.map (findF l)
theorem firsts_len (l : List α) : (firsts l).length = l.length := by simp [firsts]
theorem nums_firsts (l : List α) : nums (firsts l) = nums l :=
  nums_same (firsts_len l) fun i j hi hj => by
    simp only [firsts, List.getElem_map]
    constructor
    · exact findF_inj (List.getElem_mem _) (List.getElem_mem _)
    · intro h; rw [h]
theorem place_at {l : List α} {i p : Nat} (hi : i < l.length) (h1 : ∃ h : p < l.length, l[p] = l[i]) (h2 : ∀ j (h : j < l.length), j < p → l[j] ≠ l[i]) : place l l[i] = some p := by
  obtain ⟨hp, e⟩ := h1
  unfold place
  rw [List.findIdx?_eq_some_iff_getElem]
  exact ⟨hp, by simp [e], fun j hj => by have := h2 j (by omega) hj; simp; exact fun e => this e.symm⟩
end plain
theorem map_snoc {α β : Type} (f : α → β) {l : List α} {i : Nat} (h : i < l.length) : (l.take (i + 1)).map f = (l.take i).map f ++ [f l[i]] := by
  rw [List.take_succ_eq_append_getElem h, List.map_append]; rfl
def finerB (a b : List Int) : Bool := decide (a.length = b.length) && decide (nums (a.zip b) = nums a)
theorem finer_iff {a b : List Int} (h : a.length = b.length) : nums (a.zip b) = nums a ↔ ∀ i j (hi : i < a.length) (hj : j < a.length), a[i] = a[j] → b[i]'(h ▸ hi) = b[j]'(h ▸ hj) := by
  have hz : (a.zip b).length = a.length := by rw [List.length_zip]; omega
  constructor
  · intro e i j hi hj hij
    obtain ⟨_, hc⟩ := nums_conv e
    have := (hc i j (by omega) (by omega)).2 hij
    simp only [List.getElem_zip, Prod.mk.injEq] at this
    exact this.2
  · intro hc
    refine nums_same hz fun i j hi hj => ?_
    simp only [List.getElem_zip, Prod.mk.injEq]
    exact ⟨fun e => e.1, fun e => ⟨e, hc i j (by omega) (by omega) e⟩⟩
theorem finer_norm (a : List Int) : finerB a (nums a) = true := by
  unfold finerB
  rw [decide_eq_true (nums_len a).symm, Bool.true_and, decide_eq_true_eq, finer_iff (nums_len a).symm]
  exact fun i j hi hj e => (nums_iff hi hj).2 e
end Go.Proofs.Ytpagkndgjihbbaa
