/- Numbers in the order of first places: plain law. -/
import Derived.Test.YtpagkndgjihbbaaTy
set_option linter.unusedSimpArgs false
set_option linter.unusedVariables false
set_option linter.unusedSectionVars false
namespace Go.Proofs.Ytpagkndgjihbbaa
open Go Go.V Go.Proofs

section bare
variable {α : Type}
/-- keys with their numbers -/
def numb : Nat → List α → List (α × Int)
  | _, [] => []
  | i, k :: ks => (k, (i : Int)) :: numb (i + 1) ks
theorem numb_len (i : Nat) (ks : List α) : (numb i ks).length = ks.length := by
  induction ks generalizing i with
  | nil => rfl
  | cons k ks ih => simp [numb, ih]
theorem numb_nil : numb 0 ([] : List α) = [] := rfl
end bare
section plain
variable {α : Type} [DecidableEq α]
/-- a key's number -/
def place (ks : List α) (k : α) : Option Nat := ks.findIdx? (fun x => decide (k = x))

theorem aget_numb (k : α) : ∀ (ks : List α) (i : Nat), aget k (numb i ks) = Option.map (fun n : Nat => ((i + n : Nat) : Int)) (place ks k)
  | [], i => rfl
  | x :: ks, i => by
    simp only [numb, aget, place, List.findIdx?_cons]
    by_cases h : k = x
    · simp [h]
    · have ih := aget_numb k ks (i + 1)
      unfold place at ih
      rw [if_neg h, ih]
      simp only [h, decide_false, Bool.false_eq_true, if_false, Option.map_map]
      congr 1; funext n; simp; omega
theorem aget_numb0 (k : α) (ks : List α) : aget k (numb 0 ks) = Option.map (fun n : Nat => (n : Int)) (place ks k) := by
  rw [aget_numb]; cases place ks k <;> simp
theorem place_none {k : α} {ks : List α} (h : place ks k = none) : k ∉ ks := fun hk => by
  unfold place at h
  rw [List.findIdx?_eq_none_iff] at h
  have := h k hk
  simp at this
theorem place_some {k : α} {ks : List α} {n : Nat} (h : place ks k = some n) : n < ks.length ∧ ks[n]? = some k := by
  unfold place at h
  rw [List.findIdx?_eq_some_iff_getElem] at h
  obtain ⟨h1, h2, _⟩ := h
  exact ⟨h1, by rw [List.getElem?_eq_getElem h1]; simpa using (of_decide_eq_true h2).symm⟩
theorem place_mem {k : α} {ks : List α} (h : k ∈ ks) : ∃ n, place ks k = some n := by
  cases hp : place ks k with
  | none => exact absurd h (place_none hp)
  | some n => exact ⟨n, rfl⟩
theorem place_no {k : α} {ks : List α} (h : k ∉ ks) : place ks k = none := by
  cases hp : place ks k with
  | none => rfl
  | some n =>
    obtain ⟨h1, h2⟩ := place_some hp
    rw [List.getElem?_eq_getElem h1, Option.some.injEq] at h2
    exact absurd (h2 ▸ List.getElem_mem h1) h
theorem place_get {ks : List α} (hnd : ks.Nodup) {n : Nat} (h : n < ks.length) : place ks ks[n] = some n := by
  obtain ⟨m, hm⟩ := place_mem (List.getElem_mem h)
  obtain ⟨h1, h2⟩ := place_some hm
  rw [List.getElem?_eq_getElem h1, Option.some.injEq] at h2
  rw [hm, (List.getElem_inj hnd).1 h2]
theorem place_app {k : α} {ks : List α} (h : k ∈ ks) (ls : List α) : place (ks ++ ls) k = place ks k := by
  obtain ⟨n, hn⟩ := place_mem h
  rw [hn]
  unfold place at hn ⊢
  rw [List.findIdx?_append, hn]; rfl
theorem place_end {k : α} {ks : List α} (h : k ∉ ks) : place (ks ++ [k]) k = some ks.length := by
  have hn := place_no h
  unfold place at hn ⊢
  rw [List.findIdx?_append, hn]
  simp
theorem aput_numb (k : α) : ∀ (ks : List α) (i : Nat), k ∉ ks → aput k ((i + ks.length : Nat) : Int) (numb i ks) = numb i (ks ++ [k])
  | [], i, _ => by simp [numb, aput]
  | x :: ks, i, h => by
    simp only [List.mem_cons, not_or] at h
    have ih := aput_numb k ks (i + 1) h.2
    simp only [numb, aput, List.cons_append, if_neg h.1, List.length_cons]
    rw [show i + (ks.length + 1) = i + 1 + ks.length by omega, ih]
theorem aput_numb0 (k : α) (ks : List α) (h : k ∉ ks) : aput k (ks.length : Int) (numb 0 ks) = numb 0 (ks ++ [k]) := by
  have := aput_numb k ks 0 h
  rwa [Nat.zero_add] at this
theorem aput_new {k : α} {ks : List α} (h : place ks k = none) : aput k (ks.length : Int) (numb 0 ks) = numb 0 (ks ++ [k]) := aput_numb0 k ks (place_none h)
theorem place_nil (k : α) : place [] k = none := rfl

def findF (ks : List α) (k : α) : Int := match place ks k with | some n => (n : Int) | none => -1
theorem findF_some {ks : List α} {k : α} {n : Nat} (h : place ks k = some n) : findF ks k = n := by unfold findF; rw [h]
theorem findF_none {ks : List α} {k : α} (h : place ks k = none) : findF ks k = -1 := by unfold findF; rw [h]
theorem findF_app {k : α} {ks : List α} (h : k ∈ ks) (ls : List α) : findF (ks ++ ls) k = findF ks k := by unfold findF; rw [place_app h]
theorem findF_inj {ks : List α} {x y : α} (hx : x ∈ ks) (hy : y ∈ ks) (h : findF ks x = findF ks y) : x = y := by
  obtain ⟨a, ha⟩ := place_mem hx
  obtain ⟨b, hb⟩ := place_mem hy
  rw [findF_some ha, findF_some hb] at h
  obtain rfl : a = b := by omega
  have := (place_some ha).2.symm.trans (place_some hb).2
  exact Option.some.inj this

/-- each thing once, where it stands first -/
def tabO (l : List α) : List α := l.foldl (fun t k => if k ∈ t then t else t ++ [k]) []
theorem tabO_nil : tabO ([] : List α) = [] := rfl
theorem tabO_snoc (l : List α) (k : α) : tabO (l ++ [k]) = if k ∈ tabO l then tabO l else tabO l ++ [k] := by unfold tabO; rw [List.foldl_append]; rfl
theorem snocI {P : List α → Prop} (h0 : P []) (h1 : ∀ l k, P l → P (l ++ [k])) (l : List α) : P l := by
  have : ∀ n, ∀ l : List α, l.length = n → P l := fun n => by
    induction n with
    | zero => intro l hl; rw [List.eq_nil_of_length_eq_zero hl]; exact h0
    | succ n ih =>
      intro l hl
      have hne : l ≠ [] := fun e => by rw [e] at hl; cases hl
      rw [← List.dropLast_concat_getLast hne]
      exact h1 _ _ (ih _ (by simp [hl]))
  exact this _ l rfl
theorem mem_tabO {x : α} (l : List α) : x ∈ tabO l ↔ x ∈ l := by
  induction l using snocI with
  | h0 => simp [tabO_nil]
  | h1 l k ih =>
    rw [tabO_snoc, List.mem_append, List.mem_singleton]
    split
    · rename_i hk
      rw [ih]
      constructor
      · exact .inl
      · rintro (h | h)
        · exact h
        · subst h; exact ih.1 hk
    · rw [List.mem_append, ih, List.mem_singleton]
theorem tabO_nodup (l : List α) : (tabO l).Nodup := by
  induction l using snocI with
  | h0 => exact List.nodup_nil
  | h1 l k ih =>
    rw [tabO_snoc]
    split
    · exact ih
    · rename_i hk
      exact List.nodup_append.2 ⟨ih, by simp, fun a ha b hb => by
        obtain rfl : b = k := by simpa using hb
        intro e; subst e; exact hk ha⟩
theorem tabO_len (l : List α) : (tabO l).length ≤ l.length := by
  induction l using snocI with
  | h0 => exact Nat.le_refl _
  | h1 l k ih =>
    rw [tabO_snoc]
    split <;> simp <;> omega
/-- numbers in the order of first places -/
def nums (l : List α) : List Int := l.map fun k => findF (tabO l) k
theorem nums_len (l : List α) : (nums l).length = l.length := by simp [nums]
theorem nums_nil : nums ([] : List α) = [] := rfl
theorem nums_snoc (l : List α) (k : α) : nums (l ++ [k]) = nums l ++ [findF (tabO (l ++ [k])) k] := by
  unfold nums
  rw [List.map_append, List.map_singleton]
  congr 1
  refine List.map_congr_left fun x hx => ?_
  rw [tabO_snoc]
  split
  · rfl
  · exact findF_app ((mem_tabO l).2 hx) _
theorem nums_old {l : List α} {k : α} {n : Nat} (h : place (tabO l) k = some n) : tabO (l ++ [k]) = tabO l ∧ nums (l ++ [k]) = nums l ++ [(n : Int)] := by
  obtain ⟨h1, h2⟩ := place_some h
  rw [List.getElem?_eq_getElem h1, Option.some.injEq] at h2
  have hm : k ∈ tabO l := h2 ▸ List.getElem_mem h1
  have : tabO (l ++ [k]) = tabO l := by rw [tabO_snoc, if_pos hm]
  exact ⟨this, by rw [nums_snoc, this, findF_some h]⟩
theorem nums_new {l : List α} {k : α} (h : place (tabO l) k = none) : tabO (l ++ [k]) = tabO l ++ [k] ∧ nums (l ++ [k]) = nums l ++ [((tabO l).length : Int)] := by
  have hm := place_none h
  have : tabO (l ++ [k]) = tabO l ++ [k] := by rw [tabO_snoc, if_neg hm]
  exact ⟨this, by rw [nums_snoc, this, findF_some (place_end hm)]⟩
theorem nums_get {l : List α} {i : Nat} (h : i < l.length) : (nums l)[i]'(by rw [nums_len]; exact h) = findF (tabO l) l[i] := by simp [nums]
theorem nums_iff {l : List α} {i j : Nat} (hi : i < l.length) (hj : j < l.length) : (nums l)[i]'(by rw [nums_len]; exact hi) = (nums l)[j]'(by rw [nums_len]; exact hj) ↔ l[i] = l[j] := by
  rw [nums_get hi, nums_get hj]
  constructor
  · exact findF_inj ((mem_tabO l).2 (List.getElem_mem hi)) ((mem_tabO l).2 (List.getElem_mem hj))
  · intro h; rw [h]
theorem nums_bound {l : List α} {n : Int} (h : n ∈ nums l) : 0 ≤ n ∧ n < (tabO l).length := by
  unfold nums at h
  rw [List.mem_map] at h
  obtain ⟨x, hx, rfl⟩ := h
  obtain ⟨m, hm⟩ := place_mem ((mem_tabO l).2 hx)
  rw [findF_some hm]
  have := (place_some hm).1
  omega
end plain

section two
variable {α β : Type} [DecidableEq α] [DecidableEq β]
theorem mem_take_iff {l : List α} {k : Nat} (hk : k < l.length) : l[k] ∈ l.take k ↔ ∃ j : Nat, ∃ h : j < k, l[j]'(Nat.lt_trans h hk) = l[k] := by
  rw [List.mem_iff_getElem]
  constructor
  · rintro ⟨j, hj, e⟩
    rw [List.length_take] at hj
    rw [List.getElem_take] at e
    exact ⟨j, by omega, e⟩
  · rintro ⟨j, hj, e⟩
    exact ⟨j, by rw [List.length_take]; omega, by rw [List.getElem_take]; exact e⟩
/-- numbers depend on who is with whom alone -/
theorem nums_same {l : List α} {m : List β} (hlen : l.length = m.length) (h : ∀ i j (hi : i < l.length) (hj : j < l.length), l[i] = l[j] ↔ m[i]'(hlen ▸ hi) = m[j]'(hlen ▸ hj)) : nums l = nums m := by
  have key : ∀ k, k ≤ l.length → nums (l.take k) = nums (m.take k) ∧ (tabO (l.take k)).length = (tabO (m.take k)).length := fun k => by
    induction k with
    | zero => intro _; simp [nums_nil, tabO_nil]
    | succ k ih =>
      intro hk
      have hk' : k < l.length := by omega
      have hkm : k < m.length := by omega
      obtain ⟨h1, h2⟩ := ih (by omega)
      rw [List.take_succ_eq_append_getElem hk', List.take_succ_eq_append_getElem hkm]
      by_cases hmem : l[k] ∈ l.take k
      · obtain ⟨j, hj, e⟩ := (mem_take_iff hk').1 hmem
        have e2 := (h j k (by omega) hk').1 e
        have hmem2 : m[k] ∈ m.take k := (mem_take_iff hkm).2 ⟨j, hj, e2⟩
        obtain ⟨n, hn⟩ := place_mem ((mem_tabO _).2 hmem)
        obtain ⟨n', hn'⟩ := place_mem ((mem_tabO _).2 hmem2)
        rw [(nums_old hn).1, (nums_old hn).2, (nums_old hn').1, (nums_old hn').2, h1, h2]
        refine ⟨?_, rfl⟩
        have g1 := nums_get (l := l.take k) (i := j) (by rw [List.length_take]; omega)
        have g2 := nums_get (l := m.take k) (i := j) (by rw [List.length_take]; omega)
        rw [List.getElem_take, e, findF_some hn] at g1
        rw [List.getElem_take, e2, findF_some hn'] at g2
        have g3 : (nums (l.take k))[j]'(by rw [nums_len, List.length_take]; omega) = (nums (m.take k))[j]'(by rw [nums_len, List.length_take]; omega) := by simp only [h1]
        rw [g1, g2] at g3
        rw [g3]
      · have hmem2 : m[k] ∉ m.take k := fun hm => by
          obtain ⟨j, hj, e⟩ := (mem_take_iff hkm).1 hm
          exact hmem ((mem_take_iff hk').2 ⟨j, hj, (h j k (by omega) hk').2 e⟩)
        have p1 := place_no fun hm => hmem ((mem_tabO _).1 hm)
        have p2 := place_no fun hm => hmem2 ((mem_tabO _).1 hm)
        rw [(nums_new p1).1, (nums_new p1).2, (nums_new p2).1, (nums_new p2).2, h1, h2]
        exact ⟨rfl, by simp [h2]⟩
  have := (key l.length (Nat.le_refl _)).1
  rwa [List.take_length, hlen, List.take_length] at this
theorem nums_conv {l : List α} {m : List β} (h : nums l = nums m) : ∃ hlen : l.length = m.length, ∀ i j (hi : i < l.length) (hj : j < l.length), l[i] = l[j] ↔ m[i]'(hlen ▸ hi) = m[j]'(hlen ▸ hj) := by
  have hlen : l.length = m.length := by rw [← nums_len l, h, nums_len]
  refine ⟨hlen, fun i j hi hj => ?_⟩
  rw [← nums_iff (l := l) hi hj, ← nums_iff (l := m) (i := i) (j := j) (by omega) (by omega)]
  simp only [h]
end two
end Go.Proofs.Ytpagkndgjihbbaa
