/- Law 24: MooreCoarsest, the plain law and the walk. -/
import Derived.Test.YtmlmhcejdlljjaaFb
set_option linter.unusedSimpArgs false
set_option linter.unusedVariables false
namespace Go.Proofs.Ytmlmhcejdlljjaa
open Go Go.V Go.Proofs

theorem atL_at {l : List Int} {x : Nat} (h : x < l.length) : atL l (x : Int) = l[x] := by
  rw [atL_get (by simpa using h)]; simp only [Int.toNat_natCast]
theorem row_to {d : DfaT} (hok : RightP d) {s : Nat} (hs : s < d.label.length) {c : Nat} (hc : (c : Int) < d.width) : ∃ y : Nat, atL (d.next.getD s []) c = (y : Int) ∧ y < d.label.length := by
  obtain ⟨hk1, hk2, hk3, hk4, hk5, hk6, hk7⟩ := hok
  have hn : s < d.next.length := by omega
  obtain ⟨hw, _, _, hr⟩ := hk7 s hn hs
  have hcl : c < (d.next[s]).length := by omega
  rw [List.getD_eq_getElem?_getD, List.getElem?_eq_getElem hn]
  show ∃ y : Nat, atL d.next[s] c = _ ∧ _
  rw [atL_at hcl]
  have h1 := hr _ (List.getElem_mem hcl)
  obtain ⟨y, hy⟩ := Int.eq_ofNat_of_zero_le h1.1
  exact ⟨y, hy, by omega⟩
theorem stable_last {d : DfaT} (hok : RightP d) {n : Nat} (hn : LastR d n) : StableP d (lvl d n) := by
  obtain ⟨hk1, hk2, hk3, hk4, hk5, hk6, hk7⟩ := id hok
  have hlv := lvl_len hk3
  refine ⟨hok, by rw [hlv, hk3], fun s t hs h1 h2 h3 h4 hp => ?_⟩
  obtain ⟨ht, he⟩ := place_some hp
  rw [List.getElem?_eq_getElem ht, Option.some.injEq] at he
  refine ⟨(lvl_zero hk3 h1 h2).1 (lvl_fine hk3 h3 h4 n (Nat.zero_le n) he.symm), ?_⟩
  obtain ⟨hw1, _⟩ := hk7 s h3 h1
  obtain ⟨hw2, _⟩ := hk7 t h4 h2
  refine ⟨by omega, fun k hk => ?_⟩
  rw [lvl_norm]
  have hs2 := (lvl_succ hk3 n h3 h4).1 (by simp only [hn.2.1]; exact he.symm)
  have := hs2.2 k (by omega)
  rwa [atL_at hk, atL_at (l := d.next[t]) (show k < (d.next[t]).length by omega)] at this
theorem coarse {d : DfaT} {l : List Int} (hst : StableP d l) : ∀ k, ∀ i j (hi : i < d.next.length) (hj : j < d.next.length), l[i]'(by rw [hst.2.1, ← hst.1.2.2.1]; exact hi) = l[j]'(by rw [hst.2.1, ← hst.1.2.2.1]; exact hj) → (lvl d k)[i]'(by rw [lvl_len hst.1.2.2.1]; exact hi) = (lvl d k)[j]'(by rw [lvl_len hst.1.2.2.1]; exact hj) := by
  obtain ⟨hok, hll, hsp⟩ := id hst
  obtain ⟨hk1, hk2, hk3, hk4, hk5, hk6, hk7⟩ := id hok
  have both : ∀ i j (hi : i < d.next.length) (hj : j < d.next.length), l[i]'(by omega) = l[j]'(by omega) → d.label[i]'(by omega) = d.label[j]'(by omega) ∧ sameRows (nums l) d.next[i] d.next[j] := by
    intro i j hi hj e
    obtain ⟨p, h1, h2, ⟨h3, h4⟩, _⟩ := place_first (l := l) (i := i) (by omega)
    have g1 : place l (l[j]'(by omega)) = some p := by rw [← e]; exact h1
    obtain ⟨a1, a2⟩ := hsp i p (by omega) (by omega) (by omega) hi (by omega) h1
    obtain ⟨b1, b2⟩ := hsp j p (by omega) (by omega) (by omega) hj (by omega) g1
    refine ⟨a1.trans b1.symm, ?_⟩
    obtain ⟨c1, c2⟩ := a2
    obtain ⟨e1, e2⟩ := b2
    exact ⟨c1.trans e1.symm, fun k hk => (c2 k hk).trans (e2 k (by omega)).symm⟩
  intro k
  induction k with
  | zero => exact fun i j hi hj e => (lvl_zero hk3 (by omega) (by omega)).2 (both i j hi hj e).1
  | succ k ih =>
    intro i j hi hj e
    refine (lvl_succ hk3 k hi hj).2 ⟨ih i j hi hj e, fun c hc => ?_⟩
    obtain ⟨s1, s2⟩ := (both i j hi hj e).2
    obtain ⟨x, hx, hxl⟩ := row_to hok (s := i) (c := c) (by omega) (by omega)
    obtain ⟨y, hy, hyl⟩ := row_to hok (s := j) (c := c) (by omega) (by omega)
    rw [List.getD_eq_getElem?_getD, List.getElem?_eq_getElem hi] at hx
    rw [List.getD_eq_getElem?_getD, List.getElem?_eq_getElem hj] at hy
    have hx : atL d.next[i] c = x := hx
    have hy : atL d.next[j] c = y := hy
    rw [hx, hy]
    obtain ⟨hw1, _⟩ := hk7 i hi (by omega)
    obtain ⟨hw2, _⟩ := hk7 j hj (by omega)
    have hci : c < (d.next[i]).length := by omega
    have hcj : c < (d.next[j]).length := by omega
    have h2 := s2 c hci
    rw [atL_at hci] at hx
    rw [atL_at hcj] at hy
    rw [hx, hy, atL_at (by rw [nums_len]; omega), atL_at (by rw [nums_len]; omega)] at h2
    rw [atL_at (by rw [lvl_len hk3]; omega), atL_at (by rw [lvl_len hk3]; omega)]
    exact ih x y (by omega) (by omega) ((nums_iff (by omega) (by omega)).1 h2)
theorem coarse_finer {d : DfaT} {l : List Int} (hst : StableP d l) (k : Nat) : finerB l (lvl d k) = true := by
  have hk3 := hst.1.2.2.1
  have hl : l.length = (lvl d k).length := by rw [lvl_len hk3, hk3]; exact hst.2.1
  unfold finerB
  rw [Bool.and_eq_true, decide_eq_true_eq, decide_eq_true_eq]
  refine ⟨hl, (finer_iff hl).2 fun x y hx hy e => ?_⟩
  have hll := hst.2.1
  exact coarse hst k x y (by omega) (by omega) e
theorem to_ok {d : DfaT} (hok : RightP d) (hof : d.of.length = 256) {x : Nat} (hx : x < d.label.length) {c : Nat} (hc : c < 256) : ∃ x' : Nat, toD d x c = (x' : Int) ∧ x' < d.label.length := by
  have hco : c < d.of.length := by omega
  have hb := of_bound hok (List.getElem_mem hco)
  obtain ⟨k, hk⟩ := Int.eq_ofNat_of_zero_le hb.1
  unfold toD
  rw [Int.toNat_natCast, List.getD_eq_getElem?_getD (l := d.of), List.getElem?_eq_getElem hco]
  show ∃ x' : Nat, atL (d.next.getD x []) d.of[c] = _ ∧ _
  rw [hk]
  exact row_to hok hx (by omega)
theorem to_alike {d : DfaT} (hok : RightP d) (hof : d.of.length = 256) {n : Nat} (hn : LastR d n) {x y : Nat} (hx : x < d.label.length) (hy : y < d.label.length) {c : Nat} (hc : c < 256) (h : atL (lvl d n) x = atL (lvl d n) y) : atL (lvl d n) (toD d x c) = atL (lvl d n) (toD d y c) := by
  obtain ⟨hk1, hk2, hk3, hk4, hk5, hk6, hk7⟩ := id hok
  have hlv := lvl_len hk3 n
  have hco : c < d.of.length := by omega
  have hb := of_bound hok (List.getElem_mem hco)
  obtain ⟨k, hk⟩ := Int.eq_ofNat_of_zero_le hb.1
  rw [atL_at (by omega), atL_at (by omega)] at h
  have h2 := ((lvl_succ hk3 n (s := x) (t := y) (by omega) (by omega)).1 (by simp only [hn.2.1]; exact h)).2 k (by omega)
  unfold toD
  rw [Int.toNat_natCast, Int.toNat_natCast, List.getD_eq_getElem?_getD (l := d.of), List.getElem?_eq_getElem hco, List.getD_eq_getElem?_getD (l := d.next), List.getElem?_eq_getElem (show x < d.next.length by omega), List.getD_eq_getElem?_getD (l := d.next), List.getElem?_eq_getElem (show y < d.next.length by omega)]
  show atL (lvl d n) (atL d.next[x] d.of[c]) = atL (lvl d n) (atL d.next[y] d.of[c])
  rw [hk]
  exact h2
end Go.Proofs.Ytmlmhcejdlljjaa
