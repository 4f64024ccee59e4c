/- Can states be put together: contracts. -/
import Derived.Test.YtpagkndgjihbbaaSj
set_option linter.unusedSimpArgs false
set_option linter.unusedVariables false
namespace Go.Proofs.Ytpagkndgjihbbaa
open Go Go.V Go.Proofs

/-- the first place of each thing, in the order of first places -/
def headsM (m : List Int) : List Int := (tabO m).map (findF m)
theorem mem_take_of {m : List Int} {i k : Nat} (h3 : i < k) (hk : k ≤ m.length) : m[i]'(by omega) ∈ m.take k := by
  rw [List.mem_iff_getElem]
  exact ⟨i, by rw [List.length_take]; omega, by rw [List.getElem_take]⟩
theorem nums_take_get {m : List Int} {i : Nat} (h : i < m.length) : (nums m)[i]'(by rw [nums_len]; exact h) = findF (tabO (m.take (i + 1))) m[i] := by
  have key : ∀ k, i < k → k ≤ m.length → findF (tabO (m.take k)) m[i] = findF (tabO (m.take (i + 1))) m[i] := fun k => by
    induction k with
    | zero => intro h1; omega
    | succ k ih =>
      intro h1 h2
      rcases Nat.lt_or_ge i k with h3 | h3
      · rw [← ih h3 (by omega), List.take_succ_eq_append_getElem (by omega), tabO_snoc]
        split
        · rfl
        · exact findF_app ((mem_tabO _).2 (mem_take_of h3 (by omega))) _
      · obtain rfl : k = i := by omega
        rfl
  rw [nums_get h, ← key m.length h (Nat.le_refl _), List.take_length]
theorem new_iff {m : List Int} {i : Nat} (h : i < m.length) : (nums m)[i]'(by rw [nums_len]; exact h) = ((tabO (m.take i)).length : Int) ↔ m[i] ∉ m.take i := by
  rw [nums_take_get h, List.take_succ_eq_append_getElem h]
  constructor
  · intro e hm
    obtain ⟨n, hn⟩ := place_mem ((mem_tabO _).2 hm)
    rw [(nums_old hn).1, findF_some hn] at e
    have := (place_some hn).1
    omega
  · intro hm
    have hp := place_no fun h => hm ((mem_tabO _).1 h)
    rw [(nums_new hp).1, findF_some (place_end (place_none hp))]
end Go.Proofs.Ytpagkndgjihbbaa
