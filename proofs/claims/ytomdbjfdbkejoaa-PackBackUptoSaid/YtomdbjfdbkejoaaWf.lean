/- Where a machine is behind a word, and what it tells there. -/
import Derived.Test.YtomdbjfdbkejoaaTb
set_option linter.unusedSimpArgs false
set_option linter.unusedVariables false
namespace Go.Proofs.Ytomdbjfdbkejoaa
open Go Go.V Go.Proofs

theorem DfaT.ext2 {d e : DfaT} (h1 : d.of = e.of) (h2 : d.width = e.width) (h3 : d.next = e.next) (h4 : d.label = e.label) (h5 : d.names = e.names) : d = e := by
  cases d; cases e; simp only at h1 h2 h3 h4 h5; subst h1 h2 h3 h4 h5; rfl
/-- where a machine is behind a word -/
def runD (d : DfaT) (w : List UInt8) : Int := w.foldl (fun s b => toD d s b.toNat) 0
theorem runD_take (d : DfaT) (w : List UInt8) {i : Nat} (h : i < w.length) : runD d (w.take (i + 1)) = toD d (runD d (w.take i)) w[i].toNat := by
  unfold runD; rw [List.take_succ_eq_append_getElem h, List.foldl_append]; rfl
theorem toD_ok {d : DfaT} (hok : RightP d) (hof : d.of.length = 256) {s : Int} (hs : 0 ≤ s ∧ s < d.label.length) {c : Nat} (hc : c < 256) : 0 ≤ toD d s c ∧ toD d s c < d.label.length := by
  obtain ⟨t, rfl⟩ := Int.eq_ofNat_of_zero_le hs.1
  obtain ⟨hk1, hk2, hk3, hk4, hk5, hk6, hk7⟩ := id hok
  have htn : t < d.next.length := by omega
  have hco : c < d.of.length := by omega
  have hox := of_bound hok (List.getElem_mem hco)
  obtain ⟨y, hy⟩ := Int.eq_ofNat_of_zero_le hox.1
  obtain ⟨hw0, _, _, hrng⟩ := hk7 t htn (by omega)
  have hyk : y < (d.next[t]).length := by omega
  have hval : toD d (t : Nat) c = (d.next[t])[y] := by
    unfold toD
    rw [Int.toNat_natCast, List.getD_eq_getElem?_getD, List.getElem?_eq_getElem htn, List.getD_eq_getElem?_getD, List.getElem?_eq_getElem hco]
    show atL d.next[t] d.of[c] = _
    rw [hy, atL_get (by simpa using hyk)]
    simp only [Int.toNat_natCast]
  rw [hval]
  exact hrng _ (List.getElem_mem hyk)
theorem runD_ok {d : DfaT} (hok : RightP d) (hof : d.of.length = 256) (w : List UInt8) : 0 ≤ runD d w ∧ runD d w < d.label.length := by
  have key : ∀ i, i ≤ w.length → 0 ≤ runD d (w.take i) ∧ runD d (w.take i) < d.label.length := by
    intro i
    induction i with
    | zero => intro _; rw [List.take_zero]; have := hok.1; exact ⟨Int.le_refl 0, by show (0 : Int) < _; omega⟩
    | succ i ih =>
      intro h
      rw [runD_take d w h]
      exact toD_ok hok hof (ih (by omega)) w[i].toNat_lt
  have := key w.length (Nat.le_refl _)
  rwa [List.take_length] at this
noncomputable def runB (d : DfaT) (w : List UInt8) : Int := if boolOf (RightP d) = true then runD d w else -1
/-- what a machine tells behind a word -/
def tellD (d : DfaT) (w : List UInt8) : Int := atL d.label (runD d w)
noncomputable def tellB (d : DfaT) (w : List UInt8) : Int := if boolOf (RightP d) = true then tellD d w else 0
/-- the name of a label -/
def nameD (d : DfaT) (k : Int) : List UInt8 := if 0 < k then d.names.getD (k - 1).toNat [] else []
theorem tellD_ok {d : DfaT} (hok : RightP d) (hof : d.of.length = 256) (w : List UInt8) : 0 ≤ tellD d w ∧ tellD d w ≤ d.names.length := by
  obtain ⟨h1, h2⟩ := runD_ok hok hof w
  unfold tellD
  obtain ⟨i, hi⟩ := Int.eq_ofNat_of_zero_le h1
  rw [hi] at h2 ⊢
  obtain ⟨hk1, hk2, hk3, hk4, hk5, hk6, hk7⟩ := id hok
  obtain ⟨_, g1, g2, _⟩ := hk7 i (by omega) (by omega)
  rw [atL_get (by simpa using h2)]
  simp only [Int.toNat_natCast]
  exact ⟨g1, g2⟩
end Go.Proofs.Ytomdbjfdbkejoaa
