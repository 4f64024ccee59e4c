/- Plain laws: what a machine tells when its bytes, or its states, are put together. -/
import Derived.Test.YtmnmihfinmcljaaDoorXh
import Derived.Test.YtmnmihfinmcljaaDoorWf
import Derived.Test.YtmnmihfinmcljaaDoorSe
set_option linter.unusedSimpArgs false
set_option linter.unusedVariables false
namespace Go.Proofs.YtmnmihfinmcljaaDoor
open Go Go.V Go.Proofs

section
variable {α β : Type} [DecidableEq α] [DecidableEq β]
theorem tab_at {l : List α} {c : Nat} (hc : c < l.length) : ∃ (n : Nat) (h : n < (tabO l).length), (nums l)[c]'(by rw [nums_len]; exact hc) = (n : Nat) ∧ (tabO l)[n] = l[c] := by
  obtain ⟨n, hn⟩ := place_mem ((mem_tabO l).2 (List.getElem_mem hc))
  obtain ⟨h1, h2⟩ := place_some hn
  rw [List.getElem?_eq_getElem h1, Option.some.injEq] at h2
  exact ⟨n, h1, by rw [nums_get hc, findF_some hn], h2⟩
theorem tab_map_le (f : α → β) (l : List α) : (tabO (l.map f)).length ≤ (tabO l).length := by
  refine snocI (P := fun l => (tabO (l.map f)).length ≤ (tabO l).length) (Nat.le_refl _) (fun l k ih => ?_) l
  rw [List.map_append, List.map_cons, List.map_nil, tabO_snoc, tabO_snoc]
  by_cases h : k ∈ tabO l
  · rw [if_pos h, if_pos ((mem_tabO _).2 (List.mem_map_of_mem ((mem_tabO _).1 h)))]; exact ih
  · rw [if_neg h]
    split
    · rw [List.length_append]; omega
    · rw [List.length_append, List.length_append]; simp only [List.length_singleton]; omega
end
theorem toD_at {d : DfaT} {s c : Nat} (hs : s < d.next.length) (hc : c < d.of.length) : toD d (s : Nat) c = atL d.next[s] d.of[c] := by
  unfold toD
  rw [Int.toNat_natCast, List.getD_eq_getElem?_getD, List.getElem?_eq_getElem hs, List.getD_eq_getElem?_getD, List.getElem?_eq_getElem hc]; rfl
/-! bytes put together -/
theorem merge_step {d : DfaT} (hok : RightP d) (hl : d.of.length = 256) {s c : Nat} (hs : s < d.next.length) (hc : c < 256) : toD (mergeD d) (s : Nat) c = toD d (s : Nat) c := by
  obtain ⟨hk1, hk2, hk3, hk4, hk5, hk6, hk7⟩ := id hok
  have hcl := clL_len hl
  obtain ⟨l, hld⟩ : ∃ l, l = nums (clL d) := ⟨_, rfl⟩
  have hll : l.length = 256 := by rw [hld, nums_len, hcl]
  obtain ⟨k, hk, e1, e2⟩ := tab_at (l := l) (c := c) (by omega)
  have hnn : nums l = l := by rw [hld]; exact nums_nums _
  have e1' : l[c]'(by omega) = (k : Nat) := by
    have : (nums l)[c]'(by rw [hnn]; omega) = l[c]'(by omega) := by simp only [hnn]
    rw [← this]; exact e1
  obtain ⟨x, hx⟩ := place_mem (List.getElem_mem (l := l) (n := c) (by omega))
  obtain ⟨hx1, hx2⟩ := place_some hx
  rw [List.getElem?_eq_getElem hx1, Option.some.injEq] at hx2
  have hkl : k < (leastL l).length := by rw [leastL_len]; exact hk
  have hlk : (leastL l)[k] = (x : Nat) := by simp only [leastL, List.getElem_map]; rw [e2]; exact findF_some hx
  have hsr : s < (mergeD d).next.length := by show s < (rowsM d).length; unfold rowsM; rw [List.length_map]; exact hs
  have hco : c < (mergeD d).of.length := by show c < (nums (clL d)).length; rw [← hld]; omega
  have hcd : c < d.of.length := by omega
  have hxd : x < d.of.length := by omega
  rw [toD_at hsr hco, toD_at hs hcd]
  have g1 : (mergeD d).of[c] = (k : Nat) := by rw [← e1']; simp only [hld]; rfl
  have g2 : (mergeD d).next[s] = rowM d d.next[s] := by simp only [mergeD, rowsM, List.getElem_map]
  rw [g1, g2]
  have g3 : atL (rowM d d.next[s]) ((k : Nat) : Int) = atL d.next[s] d.of[x] := by
    have hkr : k < (rowM d d.next[s]).length := by unfold rowM; rw [List.length_map, ← hld]; exact hkl
    rw [atL_get (by simpa using hkr)]
    simp only [Int.toNat_natCast, rowM, List.getElem_map, ← hld, hlk]
    rw [atL_get (x := ((x : Nat) : Int)) (by simpa using hxd)]
    simp only [Int.toNat_natCast]
  rw [g3]
  have q1 : (clL d)[x]'(by omega) = (clL d)[c]'(by omega) := (nums_iff (by omega) (by omega)).1 (by simp only [← hld]; exact hx2)
  obtain ⟨a1, a2, a3, _⟩ := clL_at hok hxd
  obtain ⟨b1, b2, b3', _⟩ := clL_at hok hcd
  rw [a3, b3'] at q1
  have a1' : (d.of[x]).toNat < (colL d).length := by rw [nums_len] at a1; exact a1
  have b1' : (d.of[c]).toNat < (colL d).length := by rw [nums_len] at b1; exact b1
  have q2 := (nums_iff a1' b1').1 q1
  rw [colL_at a1', colL_at b1'] at q2
  have hox := of_bound hok (List.getElem_mem hxd)
  have hoc := of_bound hok (List.getElem_mem hcd)
  obtain ⟨y, hy⟩ := Int.eq_ofNat_of_zero_le hox.1
  obtain ⟨z, hz⟩ := Int.eq_ofNat_of_zero_le hoc.1
  rw [hy, hz] at q2 ⊢
  simp only [Int.toNat_natCast] at q2
  have hpos : ∀ s' (h : s' < d.next.length), (0 ≤ atL d.next[s'] y ∧ 0 ≤ atL d.next[s'] z) ∧ (atL d.next[s'] y).toNat < 16777216 ∧ (atL d.next[s'] z).toNat < 16777216 := fun s' h => by
    obtain ⟨hw1, hw2, hw3, hw4⟩ := hk7 s' h (by omega)
    have f1 : ((y : Int)).toNat < (d.next[s']).length := by omega
    have f2 : ((z : Int)).toNat < (d.next[s']).length := by omega
    rw [atL_get f1, atL_get f2]
    have x1 := hw4 _ (List.getElem_mem f1)
    have x2 := hw4 _ (List.getElem_mem f2)
    omega
  have := (colT_inj (fun s' h => (hpos s' h).2) d.next.length (Nat.le_refl _)).1 q2 s hs hs
  have h0 := (hpos s hs).1
  omega
theorem merge_run {d : DfaT} (hok : RightP d) (hl : d.of.length = 256) (w : List UInt8) : runD (mergeD d) w = runD d w := by
  have key : ∀ i, i ≤ w.length → runD (mergeD d) (w.take i) = runD d (w.take i) := by
    intro i
    induction i with
    | zero => intro _; rw [List.take_zero]; rfl
    | succ i ih =>
      intro h
      rw [runD_take (mergeD d) w h, runD_take d w h, ih (by omega)]
      obtain ⟨h1, h2⟩ := runD_ok hok hl (w.take i)
      obtain ⟨t, ht⟩ := Int.eq_ofNat_of_zero_le h1
      rw [ht] at h2 ⊢
      exact merge_step hok hl (by have := hok.2.2.1; omega) w[i].toNat_lt
  have := key w.length (Nat.le_refl _)
  rwa [List.take_length] at this
theorem merge_tell {d : DfaT} (hok : RightP d) (hl : d.of.length = 256) (w : List UInt8) : tellD (mergeD d) w = tellD d w := by
  unfold tellD; rw [merge_run hok hl]; rfl
theorem merge_width {d : DfaT} (hok : RightP d) : (mergeD d).width ≤ d.width := by
  have h1 := tab_map_le (fun o => atL (nums (colL d)) o) d.of
  have h2 := hok.2.2.2.2.1
  show ((tabO (clL d)).length : Int) ≤ _
  unfold clL
  omega
theorem merge_right {d : DfaT} (hok : RightP d) (hl : d.of.length = 256) : RightP (mergeD d) := by
  obtain ⟨hk1, hk2, hk3, hk4, hk5, hk6, hk7⟩ := id hok
  have hcl := clL_len hl
  have hnl : (rowsM d).length = d.next.length := by unfold rowsM; rw [List.length_map]
  refine ⟨hk1, hk2, hnl.trans hk3, nums_nums _, by show ((tabO (nums (clL d))).length : Int) = _; rw [tab_same (nums_nums (clL d))]; rfl, hk6, fun s h h2 => ?_⟩
  have hs : s < d.next.length := by have : s < (rowsM d).length := h; omega
  obtain ⟨hw1, hw2, hw3, hw4⟩ := hk7 s hs h2
  have g2 : (mergeD d).next[s] = rowM d d.next[s] := by simp only [mergeD, rowsM, List.getElem_map]
  rw [g2]
  refine ⟨by rw [rowM_len]; rfl, hw2, hw3, fun t ht => ?_⟩
  unfold rowM at ht
  obtain ⟨b, hb, rfl⟩ := List.mem_map.1 ht
  obtain ⟨i, hi, e⟩ := List.getElem_of_mem hb
  obtain ⟨x, e2, hx⟩ := least_bound hl hi
  rw [← e, e2]
  have hxd : x < d.of.length := by omega
  have hox := of_bound hok (List.getElem_mem hxd)
  rw [atL_get (x := ((x : Nat) : Int)) (by simpa using hxd)]
  simp only [Int.toNat_natCast]
  have f1 : (d.of[x]).toNat < (d.next[s]).length := by omega
  rw [atL_get f1]
  exact hw4 _ (List.getElem_mem f1)
/-! states put together -/
theorem heads_at {m : List Int} {j : Nat} (hj : j < (headsM m).length) : ∃ (x : Nat) (h : j < (tabO m).length) (hx : x < m.length), (headsM m)[j] = (x : Nat) ∧ place m m[x] = some x ∧ m[x] = (tabO m)[j] := by
  have h : j < (tabO m).length := by unfold headsM at hj; rwa [List.length_map] at hj
  obtain ⟨x, hx⟩ := place_mem ((mem_tabO m).1 (List.getElem_mem h))
  obtain ⟨h1, h2⟩ := place_some hx
  rw [List.getElem?_eq_getElem h1, Option.some.injEq] at h2
  exact ⟨x, h, h1, by simp only [headsM, List.getElem_map]; exact findF_some hx, by rw [h2]; exact hx, h2⟩
theorem of_at {d : DfaT} {m : List Int} (hst : StableP d m) {s : Nat} (hs : s < m.length) : ∃ (j x : Nat) (hj : j < (headsM m).length) (hx : x < d.next.length) (hx2 : x < d.label.length) (hs1 : s < d.next.length) (hs2 : s < d.label.length), (nums m)[s]'(by rw [nums_len]; exact hs) = (j : Nat) ∧ (headsM m)[j] = (x : Nat) ∧ d.label[s] = d.label[x] ∧ sameRows (nums m) d.next[s] d.next[x] := by
  obtain ⟨hok, hml, hsp⟩ := hst
  have hnl := hok.2.2.1
  obtain ⟨j, hj, e1, e2⟩ := tab_at hs
  have hjh : j < (headsM m).length := by unfold headsM; rwa [List.length_map]
  obtain ⟨x, h, hx, e3, e4, e5⟩ := heads_at hjh
  have hpl : place m m[s] = some x := by rw [← e2, ← e5]; exact e4
  obtain ⟨f1, f2⟩ := hsp s x hs (by omega) (by omega) (by omega) (by omega) hpl
  exact ⟨j, x, hjh, by omega, by omega, by omega, by omega, e1, e3, f1, f2⟩
theorem of_step {d : DfaT} {m : List Int} (hst : StableP d m) (hl : d.of.length = 256) {s c : Nat} (hs : s < m.length) (hc : c < 256) : toD (ofD d m) (atL (nums m) (s : Nat)) c = atL (nums m) (toD d (s : Nat) c) := by
  obtain ⟨j, x, hj, hx, hx2, hs1, hs2, e1, e2, e3, ⟨e4, e5⟩⟩ := of_at hst hs
  obtain ⟨hk1, hk2, hk3, hk4, hk5, hk6, hk7⟩ := id hst.1
  have hnm : s < (nums m).length := by rw [nums_len]; exact hs
  have hcd : c < d.of.length := by omega
  have hjn : j < (ofD d m).next.length := by simp only [ofD, List.length_map]; exact hj
  have g1 : atL (nums m) ((s : Nat) : Int) = (j : Nat) := by rw [atL_get (by simpa using hnm)]; simp only [Int.toNat_natCast]; exact e1
  rw [g1, toD_at hjn (show c < (ofD d m).of.length from hcd), toD_at hs1 hcd]
  have g2 : (ofD d m).next[j] = (d.next[x]).map (atL (nums m)) := by
    simp only [ofD, List.getElem_map, rowB]
    rw [e2, Int.toNat_natCast, List.getD_eq_getElem?_getD, List.getElem?_eq_getElem hx]; rfl
  rw [g2]
  show atL _ d.of[c] = _
  have hoc := of_bound hst.1 (List.getElem_mem hcd)
  obtain ⟨y, hy⟩ := Int.eq_ofNat_of_zero_le hoc.1
  rw [hy] at hoc ⊢
  have w1 := (hk7 s hs1 hs2).1
  have hys : y < (d.next[s]).length := by omega
  have hyx : y < (d.next[x]).length := by omega
  rw [atL_get (l := (d.next[x]).map (atL (nums m))) (by simpa using hyx), atL_get (l := d.next[s]) (by simpa using hys)]
  simp only [Int.toNat_natCast, List.getElem_map]
  exact (e5 y hys).symm
theorem of_label {d : DfaT} {m : List Int} (hst : StableP d m) {s : Nat} (hs : s < m.length) : atL (ofD d m).label (atL (nums m) (s : Nat)) = atL d.label (s : Nat) := by
  obtain ⟨j, x, hj, hx, hx2, hs1, hs2, e1, e2, e3, _⟩ := of_at hst hs
  have hnm : s < (nums m).length := by rw [nums_len]; exact hs
  have g1 : atL (nums m) ((s : Nat) : Int) = (j : Nat) := by rw [atL_get (by simpa using hnm)]; simp only [Int.toNat_natCast]; exact e1
  have hjn : j < (ofD d m).label.length := by simp only [ofD, List.length_map]; exact hj
  rw [g1, atL_get (by simpa using hjn), atL_get (by simpa using hs2)]
  simp only [Int.toNat_natCast, ofD, List.getElem_map]
  rw [e2, Int.toNat_natCast, List.getD_eq_getElem?_getD, List.getElem?_eq_getElem hx2, e3]; rfl
theorem nums_zero {m : List Int} (h : 0 < m.length) : atL (nums m) 0 = 0 := by
  have hnm : 0 < (nums m).length := by rw [nums_len]; exact h
  rw [atL_get (by simpa using hnm)]
  show (nums m)[0] = 0
  rw [nums_take_get h, List.take_succ_eq_append_getElem h, List.take_zero, List.nil_append]
  have h1 : tabO [m[0]] = [m[0]] := by rw [show [m[0]] = ([] : List Int) ++ [m[0]] from rfl, tabO_snoc, tabO_nil, if_neg (List.not_mem_nil)]
  rw [h1]
  have h2 : place [m[0]] m[0] = some 0 := place_end (ks := []) (List.not_mem_nil)
  rw [findF_some h2]; rfl
theorem of_run {d : DfaT} {m : List Int} (hst : StableP d m) (hl : d.of.length = 256) (w : List UInt8) : runD (ofD d m) w = atL (nums m) (runD d w) := by
  have hml : m.length = d.label.length := hst.2.1
  have hk1 := hst.1.1
  have key : ∀ i, i ≤ w.length → runD (ofD d m) (w.take i) = atL (nums m) (runD d (w.take i)) := by
    intro i
    induction i with
    | zero => intro _; rw [List.take_zero]; exact (nums_zero (by omega)).symm
    | succ i ih =>
      intro h
      rw [runD_take (ofD d m) w h, runD_take d w h, ih (by omega)]
      obtain ⟨h1, h2⟩ := runD_ok hst.1 hl (w.take i)
      obtain ⟨t, ht⟩ := Int.eq_ofNat_of_zero_le h1
      rw [ht] at h2 ⊢
      exact of_step hst hl (by omega) w[i].toNat_lt
  have := key w.length (Nat.le_refl _)
  rwa [List.take_length] at this
theorem of_tell {d : DfaT} {m : List Int} (hst : StableP d m) (hl : d.of.length = 256) (w : List UInt8) : tellD (ofD d m) w = tellD d w := by
  unfold tellD
  rw [of_run hst hl]
  obtain ⟨h1, h2⟩ := runD_ok hst.1 hl w
  obtain ⟨t, ht⟩ := Int.eq_ofNat_of_zero_le h1
  rw [ht] at h2 ⊢
  exact of_label hst (by have := hst.2.1; omega)
theorem of_len (d : DfaT) (m : List Int) : (ofD d m).label.length = (tabO m).length := by simp only [ofD, List.length_map, headsM]
theorem of_right {d : DfaT} {m : List Int} (hst : StableP d m) : RightP (ofD d m) := by
  obtain ⟨hk1, hk2, hk3, hk4, hk5, hk6, hk7⟩ := id hst.1
  have hml : m.length = d.label.length := hst.2.1
  have htl := tabO_len m
  have hpos : 0 < (tabO m).length := by
    have := (mem_tabO m).2 (List.getElem_mem (l := m) (n := 0) (by omega))
    exact List.length_pos_of_mem this
  have hll := of_len d m
  refine ⟨by omega, by omega, by simp only [ofD, List.length_map], hk4, hk5, hk6, fun j h h2 => ?_⟩
  have hj : j < (headsM m).length := by simp only [ofD, List.length_map] at h; exact h
  obtain ⟨x, hjt, hx, e1, e2, e3⟩ := heads_at hj
  have hxn : x < d.next.length := by omega
  have hxl : x < d.label.length := by omega
  obtain ⟨hw1, hw2, hw3, hw4⟩ := hk7 x hxn hxl
  have g2 : (ofD d m).next[j] = (d.next[x]).map (atL (nums m)) := by
    simp only [ofD, List.getElem_map, rowB]
    rw [e1, Int.toNat_natCast, List.getD_eq_getElem?_getD, List.getElem?_eq_getElem hxn]; rfl
  have g3 : (ofD d m).label[j] = d.label[x] := by
    simp only [ofD, List.getElem_map]
    rw [e1, Int.toNat_natCast, List.getD_eq_getElem?_getD, List.getElem?_eq_getElem hxl]; rfl
  rw [g2, g3]
  refine ⟨by rw [List.length_map]; exact hw1, hw2, hw3, fun t ht => ?_⟩
  obtain ⟨y, hy, rfl⟩ := List.mem_map.1 ht
  have hyb := hw4 y hy
  have hyn : y.toNat < (nums m).length := by rw [nums_len]; omega
  rw [atL_get hyn]
  have := nums_bound (List.getElem_mem hyn)
  omega
/-! blocks that two have together -/
theorem stable_all {d : DfaT} {m : List Int} (hst : StableP d m) {s t : Nat} (hs : s < m.length) (ht : t < m.length) (h1 : s < d.label.length) (h2 : t < d.label.length) (h3 : s < d.next.length) (h4 : t < d.next.length) (e : m[s] = m[t]) : d.label[s] = d.label[t] ∧ sameRows (nums m) d.next[s] d.next[t] := by
  obtain ⟨x, hx⟩ := place_mem (List.getElem_mem hs)
  obtain ⟨hx1, _⟩ := place_some hx
  have hx' : place m m[t] = some x := by rw [← e]; exact hx
  have hml : m.length = d.label.length := hst.2.1
  have hnl := hst.1.2.2.1
  obtain ⟨a1, a2, a3⟩ := hst.2.2 s x hs h1 (by omega) h3 (by omega) hx
  obtain ⟨b1, b2, b3'⟩ := hst.2.2 t x ht h2 (by omega) h4 (by omega) hx'
  refine ⟨a1.trans b1.symm, a2.trans b2.symm, fun k hk => ?_⟩
  rw [a3 k hk, b3' k (by omega)]
theorem join_at {a b : List Int} {i j : Nat} (hi : i < (a.zip b).length) (hj : j < (a.zip b).length) : (nums (a.zip b))[i]'(by rw [nums_len]; exact hi) = (nums (a.zip b))[j]'(by rw [nums_len]; exact hj) ↔ a[i]'(by rw [List.length_zip] at hi; omega) = a[j]'(by rw [List.length_zip] at hj; omega) ∧ b[i]'(by rw [List.length_zip] at hi; omega) = b[j]'(by rw [List.length_zip] at hj; omega) := by
  rw [nums_iff hi hj, List.getElem_zip, List.getElem_zip, Prod.mk.injEq]
theorem join_stable {d : DfaT} {a b : List Int} (ha : StableP d a) (hb : StableP d b) : StableP d (nums (a.zip b)) := by
  have hla : a.length = d.label.length := ha.2.1
  have hlb : b.length = d.label.length := hb.2.1
  have hz : (a.zip b).length = d.label.length := by rw [List.length_zip]; omega
  refine ⟨ha.1, by rw [nums_len, hz], fun s t hs h1 h2 h3 h4 hp => ?_⟩
  obtain ⟨p1, p2⟩ := place_some hp
  rw [List.getElem?_eq_getElem p1, Option.some.injEq] at p2
  obtain ⟨e1, e2⟩ := (join_at (by omega) (by omega)).1 p2
  obtain ⟨a1, a2, a3⟩ := stable_all ha (by omega) (by omega) h1 h2 h3 h4 e1.symm
  obtain ⟨b1, b2, b3'⟩ := stable_all hb (by omega) (by omega) h1 h2 h3 h4 e2.symm
  refine ⟨a1, a2, fun k hk => ?_⟩
  have r1 := ha.1.2.2.2.2.2.2 s h3 h1
  have r2 := ha.1.2.2.2.2.2.2 t h4 h2
  have hx := r1.2.2.2 _ (List.getElem_mem hk)
  have hkt : k < (d.next[t]).length := by omega
  have hy := r2.2.2.2 _ (List.getElem_mem hkt)
  have ea := a3 k hk
  have eb := b3' k hk
  generalize (d.next[s])[k] = x at *
  generalize (d.next[t])[k] = y at *
  obtain ⟨x, rfl⟩ := Int.eq_ofNat_of_zero_le hx.1
  obtain ⟨y, rfl⟩ := Int.eq_ofNat_of_zero_le hy.1
  have hxl : x < d.label.length := by omega
  have hyl : y < d.label.length := by omega
  rw [atL_get (by rw [nums_len]; simp only [Int.toNat_natCast]; omega), atL_get (by rw [nums_len]; simp only [Int.toNat_natCast]; omega)] at ea eb
  simp only [Int.toNat_natCast] at ea eb
  rw [nums_iff (by omega) (by omega)] at ea eb
  rw [atL_get (by rw [nums_len, nums_len]; simp only [Int.toNat_natCast]; omega), atL_get (by rw [nums_len, nums_len]; simp only [Int.toNat_natCast]; omega)]
  simp only [Int.toNat_natCast]
  rw [nums_iff (by rw [nums_len]; omega) (by rw [nums_len]; omega)]
  exact (join_at (by omega) (by omega)).2 ⟨ea, eb⟩
theorem finer_left {a b : List Int} (h : a.length = b.length) : finerB (nums (a.zip b)) a = true := by
  have hz : (a.zip b).length = a.length := by rw [List.length_zip]; omega
  have hl : (nums (a.zip b)).length = a.length := by rw [nums_len, hz]
  unfold finerB
  rw [decide_eq_true hl, Bool.true_and]
  refine decide_eq_true ((finer_iff hl).2 fun i j hi hj e => ?_)
  exact ((join_at (by omega) (by omega)).1 e).1
theorem finer_right {a b : List Int} (h : a.length = b.length) : finerB (nums (a.zip b)) b = true := by
  have hz : (a.zip b).length = b.length := by rw [List.length_zip]; omega
  have hl : (nums (a.zip b)).length = b.length := by rw [nums_len, hz]
  unfold finerB
  rw [decide_eq_true hl, Bool.true_and]
  refine decide_eq_true ((finer_iff hl).2 fun i j hi hj e => ?_)
  exact ((join_at (by omega) (by omega)).1 e).2
end Go.Proofs.YtmnmihfinmcljaaDoor
