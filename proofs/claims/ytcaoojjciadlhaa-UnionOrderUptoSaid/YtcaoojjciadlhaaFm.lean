/- Things that are joined in any order: the plain law, and the walk. -/
import Derived.Test.YtcaoojjciadlhaaFl
set_option linter.unusedSimpArgs false
set_option linter.unusedVariables false
namespace Go.Proofs.Ytcaoojjciadlhaa
open Go Go.V Go.Proofs

/-- the classes are those that some pairs make -/
structure Rep (k : Nat) (P : List (Nat × Nat)) (m : Nat → Nat) : Prop where
  resp : ∀ p ∈ P, m p.1 = m p.2
  free : ∀ f : Nat → Nat, (∀ p ∈ P, f p.1 = f p.2) → ∀ i, i < k → f (m i) = f i

theorem Rep.new (k : Nat) : Rep k [] id where
  resp p h := by cases h
  free f _ i _ := rfl

theorem joinM_hit (m : Nat → Nat) (a b : Nat) : joinM m a b a = joinM m a b b := by unfold joinM; split <;> split <;> omega
theorem Rep.joinM {k : Nat} {P : List (Nat × Nat)} {m : Nat → Nat} (h : Rep k P m) {a b : Nat} (ha : a < k) (hb : b < k) {P' : List (Nat × Nat)} (hP : ∀ p, p ∈ P' ↔ p ∈ P ∨ p = (a, b) ∨ p = (b, a)) (hab : (a, b) ∈ P' ∨ (b, a) ∈ P') : Rep k P' (joinM m a b) where
  resp p hp := by
    rcases (hP p).1 hp with hp | rfl | rfl
    · have := h.resp p hp
      unfold Proofs.Ytcaoojjciadlhaa.joinM; rw [this]
    · exact joinM_hit m a b
    · exact (joinM_hit m a b).symm
  free f hf i hi := by
    have h1 := h.free f (fun p hp => hf p ((hP p).2 (.inl hp)))
    have hfab : f a = f b := by
      rcases hab with hab | hab
      · exact hf _ hab
      · exact (hf _ hab).symm
    have e1 := h1 i hi
    have e2 := h1 a ha
    have e3 := h1 b hb
    unfold Proofs.Ytcaoojjciadlhaa.joinM
    split
    · rename_i he
      rcases Nat.le_total (m a) (m b) with hl | hl
      · rw [Nat.min_eq_left hl]
        rw [Nat.max_eq_right hl] at he
        rw [he] at e1
        rw [e2, hfab, ← e3, e1]
      · rw [Nat.min_eq_right hl]
        rw [Nat.max_eq_left hl] at he
        rw [he] at e1
        rw [e3, ← hfab, ← e2, e1]
    · exact e1
theorem Rep.more {k : Nat} {P : List (Nat × Nat)} {m : Nat → Nat} (h : Rep k P m) {a b : Nat} (hab : m a = m b) {P' : List (Nat × Nat)} (hP : ∀ p, p ∈ P' ↔ p ∈ P ∨ p = (a, b)) : Rep k P' m where
  resp p hp := by
    rcases (hP p).1 hp with hp | rfl
    · exact h.resp p hp
    · exact hab
  free f hf i hi := h.free f (fun p hp => hf p ((hP p).2 (.inl hp))) i hi

/-- joined at the end -/
theorem Rep.joinS {k : Nat} {P : List (Nat × Nat)} {m : Nat → Nat} (h : Rep k P m) {a b : Nat} (ha : a < k) (hb : b < k) : Rep k (P ++ [(a, b)]) (joinS k m a b).1 := by
  unfold Proofs.Ytcaoojjciadlhaa.joinS
  split
  · rename_i hc
    have h2 := h.joinM ha hb (P' := P ++ [(a, b), (b, a)]) (fun p => by simp) (.inl (by simp))
    show Rep k (P ++ [(a, b)]) (Proofs.Ytcaoojjciadlhaa.joinM m a b)
    exact ⟨fun p hp => h2.resp p (by
      have hp' : p ∈ P ∨ p = (a, b) := by simpa using hp
      rcases hp' with hp | rfl <;> simp [*]), fun f hf i hi => h2.free f (fun p hp => by
      have h0 := hf (a, b) (by simp)
      have hp' : p ∈ P ∨ p = (a, b) ∨ p = (b, a) := by simpa using hp
      rcases hp' with hp | rfl | rfl
      · exact hf p (by simp [hp])
      · exact h0
      · exact h0.symm) i hi⟩
  · rename_i hc
    simp only [Int.toNat_natCast] at hc
    exact h.more (a := a) (b := b) (by omega) (fun p => by simp)
theorem Rep.joinR {k : Nat} {P : List (Nat × Nat)} {m : Nat → Nat} (h : Rep k P m) {a b : Nat} (ha : a < k) (hb : b < k) : Rep k ((a, b) :: P) (Proofs.Ytcaoojjciadlhaa.joinS k m b a).1 := by
  have := h.joinS hb ha
  exact ⟨fun p hp => by
    rcases List.mem_cons.1 hp with rfl | hp
    · exact (this.resp (b, a) (by simp)).symm
    · exact this.resp p (by simp [hp]), fun f hf i hi => this.free f (fun p hp => by
      have hp' : p ∈ P ∨ p = (b, a) := by simpa using hp
      rcases hp' with hp | rfl
      · exact hf p (by simp [hp])
      · exact (hf (a, b) (by simp)).symm) i hi⟩

theorem Rep.le {k : Nat} {P : List (Nat × Nat)} {m m' : Nat → Nat} (h : Rep k P m) (h' : Rep k P m') (lt : ∀ i, i < k → m i ≤ i) (lt' : ∀ i, i < k → m' i ≤ i) : ∀ i, i < k → m' i ≤ m i := fun i hi => by
  have e := h.free m' h'.resp i hi
  have := lt' (m i) (by have := lt i hi; omega)
  omega
theorem Rep.one {k : Nat} {P : List (Nat × Nat)} {m m' : Nat → Nat} (h : Rep k P m) (h' : Rep k P m') (lt : ∀ i, i < k → m i ≤ i) (lt' : ∀ i, i < k → m' i ≤ i) : ∀ i, i < k → m i = m' i := fun i hi => by
  have h1 := h.le h' lt lt' i hi
  have h2 := h'.le h lt' lt i hi
  omega

theorem TabU.cnt {hb : Heap} {pt : Value} {n : Nat} {m : Nat → Nat} (h : TabU hb pt n m) (i j : Int) : (cntM n (Proofs.Ytcaoojjciadlhaa.joinS n m i j).1 : Int) = cntM n m - if (Proofs.Ytcaoojjciadlhaa.joinS n m i j).2 then 1 else 0 := by
  obtain ⟨hn, bu, bt, cap, up, least, rank, B, many, sp, rfl, rfl, hu⟩ := h
  unfold Proofs.Ytcaoojjciadlhaa.joinS
  split
  · rename_i hc
    have := cnt_join hu (a := i.toNat) (b := j.toNat) (by omega) (by omega) hc.2.2.2.2
    simp only [if_true]
    omega
  · simp
theorem cntM_congr {n : Nat} {m m' : Nat → Nat} (h : ∀ i, i < n → m i = m' i) : cntM n m = cntM n m' := by
  unfold cntM
  refine List.countP_congr fun x hx => ?_
  rw [h x (List.mem_range.1 hx)]
theorem labs_congr {n : Nat} {m m' : Nat → Nat} (h : ∀ i, i < n → m i = m' i) : labs n m = labs n m' := by
  unfold labs
  exact List.map_congr_left fun x hx => by rw [h x (List.mem_range.1 hx)]
theorem blkM_congr {n : Nat} {m m' : Nat → Nat} (h : ∀ i, i < n → m i = m' i) (lt : ∀ i, i < n → m i ≤ i) : ∀ i, i < n → blkM m i = blkM m' i := fun i hi => by
  unfold blkM
  rw [← h i hi]
  have := lt i hi
  exact cntM_congr fun x hx => h x (by omega)
end Go.Proofs.Ytcaoojjciadlhaa
