/- Alike up to so many bytes: the plain law of rounds. -/
import Derived.Test.YtmlmhcejdlljjaaSn
set_option linter.unusedSimpArgs false
set_option linter.unusedVariables false
namespace Go.Proofs.Ytmlmhcejdlljjaa
open Go Go.V Go.Proofs

section
variable {α : Type} [DecidableEq α] {β : Type} [DecidableEq β]
theorem nums_nums (l : List α) : nums (nums l) = nums l :=
  nums_same (nums_len l) fun i j hi hj => by
    rw [nums_len] at hi hj
    exact nums_iff hi hj
theorem tabO_snoc_len (l : List α) {i : Nat} (h : i < l.length) : (tabO (l.take (i + 1))).length = (tabO (l.take i)).length + if l[i] ∈ l.take i then 0 else 1 := by
  rw [List.take_succ_eq_append_getElem h, tabO_snoc]
  simp only [mem_tabO]
  split
  · rfl
  · rw [List.length_append]; rfl
/-- finer rows have more numbers -/
theorem more_blocks {a : List α} {b : List β} (hlen : b.length = a.length) (hf : ∀ i j (hi : i < b.length) (hj : j < b.length), b[i] = b[j] → a[i]'(hlen ▸ hi) = a[j]'(hlen ▸ hj)) :
    ∀ k, k ≤ a.length → (tabO (a.take k)).length ≤ (tabO (b.take k)).length ∧ ((tabO (a.take k)).length = (tabO (b.take k)).length → ∀ i (hi : i < k) (h1 : i < a.length) (h2 : i < b.length), a[i] ∈ a.take i → b[i] ∈ b.take i)
  | 0, _ => ⟨Nat.le_refl _, fun _ i hi => by omega⟩
  | k + 1, hk => by
    obtain ⟨h1, h2⟩ := more_blocks hlen hf k (by omega)
    have hka : k < a.length := hk
    have hkb : k < b.length := by omega
    rw [tabO_snoc_len a hka, tabO_snoc_len b hkb]
    have hin : b[k] ∈ b.take k → a[k] ∈ a.take k := fun h => by
      rw [mem_take_iff] at h ⊢
      obtain ⟨j, hj, e⟩ := h
      exact ⟨j, hj, hf j k (by omega) hkb e⟩
    by_cases hb : b[k] ∈ b.take k
    · rw [if_pos (hin hb), if_pos hb]
      refine ⟨by omega, fun e i hi g1 g2 g3 => ?_⟩
      rcases Nat.lt_or_ge i k with h | h
      · exact h2 (by omega) i h g1 g2 g3
      · obtain rfl : i = k := by omega
        exact hb
    · rw [if_neg hb]
      by_cases ha : a[k] ∈ a.take k
      · rw [if_pos ha]
        exact ⟨by omega, fun e => by omega⟩
      · rw [if_neg ha]
        refine ⟨by omega, fun e i hi g1 g2 g3 => ?_⟩
        rcases Nat.lt_or_ge i k with h | h
        · exact h2 (by omega) i h g1 g2 g3
        · obtain rfl : i = k := by omega
          exact (ha g3).elim
theorem more_eq {a : List α} {b : List β} (hlen : b.length = a.length) (hf : ∀ i j (hi : i < b.length) (hj : j < b.length), b[i] = b[j] → a[i]'(hlen ▸ hi) = a[j]'(hlen ▸ hj)) (he : (tabO a).length = (tabO b).length) : nums b = nums a := by
  have hm := (more_blocks hlen hf a.length (Nat.le_refl _)).2
  have hbt : b.take a.length = b := by rw [← hlen, List.take_length]
  rw [List.take_length, hbt] at hm
  have hm := hm he
  have key : ∀ i, ∀ (hi : i < a.length) (p : Nat) (hp : p < a.length), p ≤ i → a[p] ∉ a.take p → a[p] = a[i] → b[i]'(hlen ▸ hi) = b[p]'(hlen ▸ hp) := by
    intro i hi p hp hpi hnew hap
    obtain ⟨q, hq1, hq2, ⟨hq3, hq4⟩, hq5⟩ := place_first (l := b) (i := i) (hlen ▸ hi)
    have hqn : b[q] ∉ b.take q := by
      obtain ⟨q', g1, g2, ⟨g3, g4⟩, g5⟩ := place_first (l := b) (i := q) hq3
      rw [← hq4] at hq1
      rw [hq1] at g1
      cases g1
      exact g5.1 rfl
    have hqa : q < a.length := by omega
    have haq : a[q] ∉ a.take q := fun h => hqn (hm q hqa hqa hq3 h)
    have hab : a[q] = a[i] := hf q i hq3 (hlen ▸ hi) hq4
    have : q = p := by
      rcases Nat.lt_trichotomy q p with h | h | h
      · exact (hnew ((mem_take_iff hp).2 ⟨q, h, by rw [hab, hap]⟩)).elim
      · exact h
      · exact (haq ((mem_take_iff hqa).2 ⟨p, h, by rw [hab, hap]⟩)).elim
    subst this
    exact hq4.symm
  refine nums_same hlen fun i j hi hj => ⟨hf i j hi hj, fun e => ?_⟩
  have hia : i < a.length := hlen ▸ hi
  have hja : j < a.length := hlen ▸ hj
  obtain ⟨p, h1, h2, ⟨h3, h4⟩, h5⟩ := place_first hia
  obtain ⟨p', g1, g2, ⟨g3, g4⟩, g5⟩ := place_first hja
  have : p' = p := by
    rw [← e, h1] at g1
    exact (Option.some.inj g1).symm
  subst this
  have hnew : a[p'] ∉ a.take p' := by
    obtain ⟨q', k1, k2, ⟨k3, k4⟩, k5⟩ := place_first h3
    rw [← h4] at h1
    rw [h1] at k1
    cases k1
    exact k5.1 rfl
  rw [key i hia p' h3 h2 hnew h4, key j hja p' h3 g2 hnew g4]
end

/-- what is behind a class -/
def behL (d : DfaT) (l : List Int) (k : Nat) : List Int := d.next.map fun r => atL l (atL r k)
theorem behL_len (d : DfaT) (l : List Int) (k : Nat) : (behL d l k).length = d.next.length := by simp [behL]
def rdk (d : DfaT) (l : List Int) : Nat → List Int
  | 0 => l
  | k + 1 => nums ((rdk d l k).zip (behL d l k))
def rdD (d : DfaT) (l : List Int) : List Int := rdk d l d.width.toNat
/-- the blocks behind so many rounds -/
def lvl (d : DfaT) : Nat → List Int
  | 0 => nums d.label
  | i + 1 => rdD d (lvl d i)
theorem rdk_len {d : DfaT} {l : List Int} (h : l.length = d.next.length) : ∀ k, (rdk d l k).length = d.next.length
  | 0 => h
  | k + 1 => by
    show (nums _).length = _
    rw [nums_len, List.length_zip, rdk_len h k, behL_len]; omega
theorem rdk_norm {d : DfaT} {l : List Int} (h : nums l = l) : ∀ k, nums (rdk d l k) = rdk d l k
  | 0 => h
  | k + 1 => nums_nums _
theorem rdk_iff {d : DfaT} {l : List Int} (h : l.length = d.next.length) : ∀ k, ∀ i j (hi : i < d.next.length) (hj : j < d.next.length),
    ((rdk d l k)[i]'(by rw [rdk_len h]; exact hi) = (rdk d l k)[j]'(by rw [rdk_len h]; exact hj) ↔ l[i]'(h ▸ hi) = l[j]'(h ▸ hj) ∧ ∀ c, c < k → atL l (atL d.next[i] c) = atL l (atL d.next[j] c))
  | 0, i, j, hi, hj => ⟨fun e => ⟨e, fun c hc => by omega⟩, fun e => e.1⟩
  | k + 1, i, j, hi, hj => by
    have hz : ((rdk d l k).zip (behL d l k)).length = d.next.length := by rw [List.length_zip, rdk_len h k, behL_len]; omega
    have h1 := nums_iff (l := (rdk d l k).zip (behL d l k)) (i := i) (j := j) (by omega) (by omega)
    refine Iff.trans h1 ?_
    rw [List.getElem_zip, List.getElem_zip, Prod.mk.injEq, rdk_iff h k i j hi hj]
    simp only [behL, List.getElem_map]
    constructor
    · rintro ⟨⟨e1, e2⟩, e3⟩
      refine ⟨e1, fun c hc => ?_⟩
      rcases Nat.lt_or_ge c k with g | g
      · exact e2 c g
      · obtain rfl : c = k := by omega
        exact e3
    · rintro ⟨e1, e2⟩
      exact ⟨⟨e1, fun c hc => e2 c (by omega)⟩, e2 k (by omega)⟩
theorem lvl_len {d : DfaT} (h : d.next.length = d.label.length) : ∀ i, (lvl d i).length = d.next.length
  | 0 => by rw [h]; exact nums_len _
  | i + 1 => rdk_len (lvl_len h i) _
theorem lvl_norm (d : DfaT) : ∀ i, nums (lvl d i) = lvl d i
  | 0 => nums_nums _
  | i + 1 => rdk_norm (lvl_norm d i) _
/-- alike up to i bytes -/
theorem lvl_zero {d : DfaT} (h : d.next.length = d.label.length) {s t : Nat} (hs : s < d.label.length) (ht : t < d.label.length) : ((lvl d 0)[s]'(by rw [lvl_len h]; omega) = (lvl d 0)[t]'(by rw [lvl_len h]; omega)) ↔ d.label[s] = d.label[t] := nums_iff hs ht
theorem lvl_succ {d : DfaT} (h : d.next.length = d.label.length) (i : Nat) {s t : Nat} (hs : s < d.next.length) (ht : t < d.next.length) : ((lvl d (i + 1))[s]'(by rw [lvl_len h]; omega) = (lvl d (i + 1))[t]'(by rw [lvl_len h]; omega)) ↔
    (lvl d i)[s]'(by rw [lvl_len h]; omega) = (lvl d i)[t]'(by rw [lvl_len h]; omega) ∧ ∀ c, c < d.width.toNat → atL (lvl d i) (atL d.next[s] c) = atL (lvl d i) (atL d.next[t] c) := rdk_iff (lvl_len h i) _ s t hs ht
theorem lvl_stop {d : DfaT} {i : Nat} (h : lvl d (i + 1) = lvl d i) : ∀ j, lvl d (i + j) = lvl d i
  | 0 => rfl
  | j + 1 => by
    show rdD d (lvl d (i + j)) = _
    rw [lvl_stop h j]; exact h
theorem lvl_stop' {d : DfaT} {i j : Nat} (h : lvl d (i + 1) = lvl d i) (hj : i ≤ j) : lvl d j = lvl d i := by
  obtain ⟨c, rfl⟩ := Nat.exists_eq_add_of_le hj
  exact lvl_stop h c
theorem lvl_more {d : DfaT} (h : d.next.length = d.label.length) {i : Nat} (hn : lvl d (i + 1) ≠ lvl d i) : (tabO (lvl d i)).length < (tabO (lvl d (i + 1))).length := by
  have hlen : (lvl d (i + 1)).length = (lvl d i).length := by rw [lvl_len h, lvl_len h]
  have hf : ∀ x y (hx : x < (lvl d (i + 1)).length) (hy : y < (lvl d (i + 1)).length), (lvl d (i + 1))[x] = (lvl d (i + 1))[y] → (lvl d i)[x]'(hlen ▸ hx) = (lvl d i)[y]'(hlen ▸ hy) := fun x y hx hy e => by
    rw [lvl_len h] at hx hy
    exact ((lvl_succ h i hx hy).1 e).1
  have h1 := (more_blocks hlen hf _ (Nat.le_refl _)).1
  rw [List.take_length, ← hlen, List.take_length] at h1
  rcases Nat.lt_or_ge (tabO (lvl d i)).length (tabO (lvl d (i + 1))).length with g | g
  · exact g
  · have := more_eq hlen hf (by omega)
    rw [lvl_norm, lvl_norm] at this
    exact (hn this).elim
/-- the last round -/
def LastR (d : DfaT) (n : Nat) : Prop := n < d.label.length ∧ lvl d (n + 1) = lvl d n ∧ ∀ i, i < n → lvl d (i + 1) ≠ lvl d i
theorem last_ex {d : DfaT} (h : d.next.length = d.label.length) (h1 : 1 ≤ d.label.length) : ∃ n, LastR d n := by
  have key : ∀ m, (∃ n, n < m ∧ lvl d (n + 1) = lvl d n ∧ ∀ i, i < n → lvl d (i + 1) ≠ lvl d i) ∨ ((∀ i, i < m → lvl d (i + 1) ≠ lvl d i) ∧ m + 1 ≤ (tabO (lvl d m)).length) := by
    intro m
    induction m with
    | zero =>
      refine .inr ⟨fun i hi => by omega, ?_⟩
      have : 0 < (lvl d 0).length := by rw [lvl_len h]; omega
      have hm := (mem_tabO (lvl d 0)).2 (List.getElem_mem this)
      exact List.length_pos_of_mem hm
    | succ m ih =>
      rcases ih with ⟨n, h1, h2, h3⟩ | ⟨h1, h2⟩
      · exact .inl ⟨n, by omega, h2, h3⟩
      · by_cases he : lvl d (m + 1) = lvl d m
        · exact .inl ⟨m, by omega, he, h1⟩
        · refine .inr ⟨fun i hi => ?_, ?_⟩
          · rcases Nat.lt_or_ge i m with g | g
            · exact h1 i g
            · obtain rfl : i = m := by omega
              exact he
          · have := lvl_more h he; omega
  rcases key d.label.length with ⟨n, h1, h2, h3⟩ | ⟨_, h2⟩
  · exact ⟨n, h1, h2, h3⟩
  · have := tabO_len (lvl d d.label.length)
    rw [lvl_len h] at this
    omega
theorem last_min {d : DfaT} {n : Nat} (hn : LastR d n) (k : Nat) : lvl d (min k n) = lvl d k := by
  rcases Nat.le_total k n with h | h
  · rw [Nat.min_eq_left h]
  · rw [Nat.min_eq_right h]; exact (lvl_stop' hn.2.1 h).symm
theorem lvl_fine {d : DfaT} (h : d.next.length = d.label.length) {i : Nat} {s t : Nat} (hs : s < d.next.length) (ht : t < d.next.length) : ∀ j, i ≤ j → (lvl d j)[s]'(by rw [lvl_len h]; omega) = (lvl d j)[t]'(by rw [lvl_len h]; omega) → (lvl d i)[s]'(by rw [lvl_len h]; omega) = (lvl d i)[t]'(by rw [lvl_len h]; omega)
  | 0, hj, e => by obtain rfl : i = 0 := by omega
                   exact e
  | j + 1, hj, e => by
    rcases Nat.lt_or_ge i (j + 1) with g | g
    · exact lvl_fine h hs ht j (by omega) ((lvl_succ h j hs ht).1 e).1
    · obtain rfl : i = j + 1 := by omega
      exact e
end Go.Proofs.Ytmlmhcejdlljjaa
