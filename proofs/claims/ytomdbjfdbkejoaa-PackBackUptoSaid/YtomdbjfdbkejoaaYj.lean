/- Machines as bytes: a machine is read from its bytes: plain law. -/
import Derived.Test.YtomdbjfdbkejoaaYf
import Derived.Test.YtomdbjfdbkejoaaYi
import Derived.Test.YtomdbjfdbkejoaaWf
set_option linter.unusedSimpArgs false
set_option linter.unusedVariables false
namespace Go.Proofs.Ytomdbjfdbkejoaa
open Go Go.V Go.Proofs

theorem takeP_app {x Y : List UInt8} {n : Nat} (h : x.length = n) : takeP n (false, x ++ Y) = (x, (false, Y)) := by
  unfold takeP
  rw [if_neg (by simp only [Bool.false_eq_true, false_or, List.length_append]; omega)]
  simp only []
  rw [List.take_append_of_le_length (by omega), List.take_of_length_le (by omega), List.drop_append, List.drop_of_length_le (by omega), h, Nat.sub_self, List.drop_zero, List.nil_append]
theorem beV_one {n : Nat} (h : n < 256) : beV (beB 1 n) = n := by
  rw [beB_one]
  simp only [beV, List.foldl_cons, List.foldl_nil, UInt8.toNat_ofNat']
  omega
theorem beV_two {n : Nat} (h : n < 65536) : beV (beB 2 n) = n := by
  rw [beB_two]
  simp only [beV, List.foldl_cons, List.foldl_nil, UInt8.toNat_ofNat']
  omega
theorem beV_four {n : Nat} (h : n < 4294967296) : beV (beB 4 n) = n := by
  rw [beB_four]
  simp only [beV, List.foldl_cons, List.foldl_nil, UInt8.toNat_ofNat']
  omega
theorem numP_one {n : Nat} (h : n < 256) (Y : List UInt8) : numP 1 (false, beB 1 n ++ Y) = (n, (false, Y)) := by
  unfold numP; rw [takeP_app (beB_len 1 n), beV_one h]
theorem numP_two {n : Nat} (h : n < 65536) (Y : List UInt8) : numP 2 (false, beB 2 n ++ Y) = (n, (false, Y)) := by
  unfold numP; rw [takeP_app (beB_len 2 n), beV_two h]
theorem namesR_dec : ∀ (l acc : List (List UInt8)) (Y : List UInt8), (∀ s ∈ l, s.length ≤ 32) → namesR l.length (acc, (false, namesE l ++ Y)) = (acc ++ l, (false, Y))
  | [], acc, Y, _ => by show (acc, (false, Y)) = _; rw [List.append_nil]
  | s :: l, acc, Y, h => by
    have hs := h s List.mem_cons_self
    show namesR l.length (nameStep (acc, (false, namesE (s :: l) ++ Y))) = _
    have e : nameStep (acc, (false, namesE (s :: l) ++ Y)) = (acc ++ [s], (false, namesE l ++ Y)) := by
      unfold nameStep namesE
      rw [List.flatMap_cons, List.append_assoc]
      unfold nameE
      rw [List.append_assoc, numP_one (by omega), takeP_app rfl]
    rw [e, namesR_dec l _ Y fun x hx => h x (List.mem_cons_of_mem _ hx), List.append_assoc]; rfl
theorem namesP_dec {l : List (List UInt8)} (hl : l.length ≤ 64) (h : ∀ s ∈ l, s.length ≤ 32) (Y : List UInt8) : namesP (false, beB 1 l.length ++ (namesE l ++ Y)) = (l, (false, Y)) := by
  unfold namesP
  rw [numP_one (by omega), namesR_dec l [] Y h, List.nil_append]
theorem rowR_dec : ∀ (r acc : List Int) (Y : List UInt8), (∀ t ∈ r, 0 ≤ t ∧ t < 65536) → rowR r.length (acc, (false, rowE r ++ Y)) = (acc ++ r, (false, Y))
  | [], acc, Y, _ => by rw [List.length_nil, rowR_zero, List.append_nil]; rfl
  | t :: r, acc, Y, h => by
    have ht := h t List.mem_cons_self
    rw [List.length_cons, rowR_succ]
    have e : rowStep (acc, (false, rowE (t :: r) ++ Y)) = (acc ++ [t], (false, rowE r ++ Y)) := by
      unfold rowStep rowE
      rw [List.flatMap_cons, List.append_assoc]
      obtain ⟨n, hn⟩ := Int.eq_ofNat_of_zero_le ht.1
      simp only [hn, Int.toNat_natCast]
      rw [numP_two (by omega)]
    rw [e, rowR_dec r _ Y fun x hx => h x (List.mem_cons_of_mem _ hx), List.append_assoc]; rfl
def encS (p : Int × List Int) : List UInt8 := beB 1 p.1.toNat ++ rowE p.2
theorem macR_dec {w : Nat} : ∀ (ps : List (Int × List Int)) (lab : List Int) (nxt : List (List Int)) (Y : List UInt8), (∀ p ∈ ps, 0 ≤ p.1 ∧ p.1 < 256 ∧ p.2.length = w ∧ ∀ t ∈ p.2, 0 ≤ t ∧ t < 65536) →
    macR w ps.length ⟨lab, nxt, (false, ps.flatMap encS ++ Y)⟩ = ⟨lab ++ ps.map (·.1), nxt ++ ps.map (·.2), (false, Y)⟩
  | [], lab, nxt, Y, _ => by rw [List.length_nil, macR_zero]; simp
  | p :: ps, lab, nxt, Y, h => by
    obtain ⟨h1, h2, h3, h4⟩ := h p List.mem_cons_self
    rw [List.length_cons, macR_succ]
    have e : macStep w ⟨lab, nxt, (false, (p :: ps).flatMap encS ++ Y)⟩ = ⟨lab ++ [p.1], nxt ++ [p.2], (false, ps.flatMap encS ++ Y)⟩ := by
      unfold macStep
      rw [if_neg (by simp)]
      obtain ⟨n, hn⟩ := Int.eq_ofNat_of_zero_le h1
      simp only [List.flatMap_cons, encS, List.append_assoc]
      rw [hn, Int.toNat_natCast, numP_one (by omega), ← h3, rowR_dec _ _ _ h4, List.nil_append]
    rw [e, macR_dec ps _ _ Y fun x hx => h x (List.mem_cons_of_mem _ hx)]
    simp
theorem statesT_enc {d : DfaT} (hok : RightP d) : statesT d d.label.length = (d.label.zip d.next).flatMap encS ∧ (d.label.zip d.next).map (·.1) = d.label ∧ (d.label.zip d.next).map (·.2) = d.next := by
  have hn := hok.2.2.1
  have hz : (d.label.zip d.next).length = d.label.length := by rw [List.length_zip]; omega
  refine ⟨?_, ?_, ?_⟩
  · have e : d.label.zip d.next = (List.range d.label.length).map fun s => (atL d.label (s : Nat), d.next.getD s []) := by
      apply List.ext_getElem (by rw [hz, List.length_map, List.length_range])
      intro i h1 h2
      have hi : i < d.label.length := by omega
      rw [List.getElem_zip, List.getElem_map, List.getElem_range, atL_get (by simpa using hi), List.getD_eq_getElem?_getD, List.getElem?_eq_getElem (by omega)]
      simp only [Int.toNat_natCast]; rfl
    rw [e, List.flatMap_map]
    rfl
  · apply List.ext_getElem (by rw [List.length_map, hz])
    intro i h1 h2
    rw [List.getElem_map, List.getElem_zip]
  · apply List.ext_getElem (by rw [List.length_map, hz, hn])
    intro i h1 h2
    rw [List.getElem_map, List.getElem_zip]
/-! classes -/
theorem runsT_app (l : List Int) (c : Nat) : ∀ k, ∃ D, runsT l (c + k) = runsT l c ++ D
  | 0 => ⟨[], by rw [Nat.add_zero, List.append_nil]⟩
  | k + 1 => by
    obtain ⟨D, h⟩ := runsT_app l c k
    exact ⟨D ++ emL l (c + k), by rw [← Nat.add_assoc, runsT_succ, h, List.append_assoc]⟩
def fromT (l : List Int) (c : Nat) : List UInt8 := (runsT l 256).drop (runsT l c).length
theorem fromT_eq (l : List Int) {c : Nat} (h : c ≤ 256) : runsT l 256 = runsT l c ++ fromT l c := by
  obtain ⟨D, e⟩ := runsT_app l c (256 - c)
  rw [show c + (256 - c) = 256 by omega] at e
  unfold fromT
  rw [e, List.drop_append, List.drop_length, Nat.sub_self, List.drop_zero, List.nil_append]
theorem run_ex {l : List Int} {c : Nat} : ∀ k n, n + k = 256 → c < n → (∀ i, c ≤ i → i < n → l.getD i 0 = l.getD c 0) → ∃ m, n ≤ m ∧ m ≤ 256 ∧ (∀ i, c ≤ i → i < m → l.getD i 0 = l.getD c 0) ∧ (m = 256 ∨ l.getD m 0 ≠ l.getD c 0)
  | 0, n, hn, hc, h => ⟨n, Nat.le_refl _, by omega, h, Or.inl (by omega)⟩
  | k + 1, n, hn, hc, h => by
    by_cases e : l.getD n 0 = l.getD c 0
    · have hstep : ∀ i, c ≤ i → i < n + 1 → l.getD i 0 = l.getD c 0 := fun i a b => by
        by_cases e2 : i = n
        · subst e2; exact e
        · exact h i a (by omega)
      obtain ⟨m, h1, h2, h3, h4⟩ := run_ex (c := c) k (n + 1) (by omega) (by omega) hstep
      exact ⟨m, by omega, h2, h3, h4⟩
    · exact ⟨n, Nat.le_refl _, by omega, h, Or.inr e⟩
def wT (l : List Int) (c : Nat) : Nat := (tabO (l.take c)).length
theorem wT_succ {l : List Int} (hn : nums l = l) {c : Nat} (hc : c < l.length) : wT l (c + 1) = max (wT l c) ((l[c]).toNat + 1) := by
  unfold wT
  have e1 : l[c] = (nums l)[c]'(by rw [nums_len]; exact hc) := by simp only [hn]
  have htk : l.take (c + 1) = l.take c ++ [l[c]] := List.take_succ_eq_append_getElem hc
  by_cases h : l[c] ∈ l.take c
  · have e2 : tabO (l.take (c + 1)) = tabO (l.take c) := by rw [htk, tabO_snoc, if_pos ((mem_tabO _).2 h)]
    have e3 : (nums l)[c]'(by rw [nums_len]; exact hc) = findF (tabO (l.take c)) l[c] := by rw [nums_take_get hc, e2]
    obtain ⟨n, hn2⟩ := place_mem ((mem_tabO _).2 h)
    have := (place_some hn2).1
    rw [findF_some hn2] at e3
    rw [e2]
    rw [e3] at e1
    omega
  · have e2 : (tabO (l.take (c + 1))).length = (tabO (l.take c)).length + 1 := by rw [htk, tabO_snoc, if_neg fun h2 => h ((mem_tabO _).1 h2), List.length_append]; rfl
    have e3 := (new_iff hc).2 h
    rw [e2]
    rw [e3] at e1
    omega
theorem wT_run {l : List Int} (hn : nums l = l) (hl : l.length = 256) {c : Nat} (hc : c < 256) : ∀ k, c + k + 1 ≤ 256 → (∀ i, c ≤ i → i < c + k + 1 → l.getD i 0 = l.getD c 0) → wT l (c + k + 1) = max (wT l c) ((l.getD c 0).toNat + 1)
  | 0, _, _ => by
    rw [Nat.add_zero, wT_succ hn (by omega), List.getD_eq_getElem?_getD, List.getElem?_eq_getElem (by omega)]; rfl
  | k + 1, h, heq => by
    have ih := wT_run hn hl hc k (by omega) fun i a b => heq i a (by omega)
    have e := heq (c + k + 1) (by omega) (by omega)
    have hlt : c + k + 1 < l.length := by omega
    rw [List.getD_eq_getElem?_getD, List.getElem?_eq_getElem hlt] at e
    have e : l[c + k + 1] = l.getD c 0 := e
    rw [show c + (k + 1) + 1 = (c + k + 1) + 1 by omega, wT_succ hn hlt, ih, e]; omega
def preF (l : List Int) (c : Nat) : Nat → Int := fun i => if i < c then l.getD i 0 else 0
theorem clsR_dec {l : List Int} (hn : nums l = l) (hl : l.length = 256) (hb : ∀ x ∈ l, 0 ≤ x ∧ x ≤ 255) (Y : List UInt8) : ∀ (m k c : Nat), 256 - c ≤ m → c ≤ 256 → 256 - c ≤ k → (c < 256 → startL l c = c) →
    clsR k ⟨c, wT l c, preF l c, (false, fromT l c ++ Y)⟩ = ⟨256, wT l 256, preF l 256, (false, Y)⟩
  | m, k, c, hm, hc, hk, hst => by
    by_cases h256 : c = 256
    · subst h256
      rw [clsR_id (Or.inl (Nat.le_refl _))]
      have : fromT l 256 = [] := by unfold fromT; rw [List.drop_length]
      rw [this]; rfl
    · obtain ⟨m, rfl⟩ : ∃ j, m = j + 1 := ⟨m - 1, by omega⟩
      obtain ⟨k, rfl⟩ : ∃ j, k = j + 1 := ⟨k - 1, by omega⟩
      obtain ⟨n, h1, h2, h3, h4⟩ := run_ex (l := l) (c := c) (256 - (c + 1)) (c + 1) (by omega) (by omega) fun i a b => by
        obtain rfl : i = c := by omega
        rfl
      obtain ⟨r1, r2⟩ := run_end (hst (by omega)) (by omega) h2 h3 h4
      obtain ⟨j, rfl⟩ : ∃ j, n = c + j + 1 := ⟨n - c - 1, by omega⟩
      have hcl : c < l.length := by omega
      have hgd : l.getD c 0 = l[c] := by rw [List.getD_eq_getElem?_getD, List.getElem?_eq_getElem hcl]; rfl
      have hcb := hb _ (List.getElem_mem hcl)
      obtain ⟨y, hy⟩ := Int.eq_ofNat_of_zero_le hcb.1
      have hfrom : fromT l c = beB 1 y ++ (beB 1 j ++ fromT l (c + j + 1)) := by
        have e1 := fromT_eq l (c := c) (by omega)
        rw [fromT_eq l (c := c + j + 1) h2, r1, hgd, hy, Int.toNat_natCast, show c + j + 1 - c - 1 = j by omega, List.append_assoc] at e1
        have := List.append_cancel_left e1
        rw [← this, List.append_assoc]
      rw [clsR_succ, hfrom]
      have e : clsStep ⟨c, wT l c, preF l c, (false, beB 1 y ++ (beB 1 j ++ fromT l (c + j + 1)) ++ Y)⟩ = ⟨c + j + 1, wT l (c + j + 1), preF l (c + j + 1), (false, fromT l (c + j + 1) ++ Y)⟩ := by
        unfold clsStep
        rw [if_neg (by simp; omega)]
        simp only [List.append_assoc]
        rw [numP_one (by omega), numP_one (by omega), if_neg (by omega)]
        have ew := wT_run hn hl (by omega) j h2 h3
        rw [hgd, hy, Int.toNat_natCast] at ew
        have ef : fillF (preF l c) c (j + 1) ((y : Nat) : Int) = preF l (c + j + 1) := by
          funext i
          unfold fillF preF
          by_cases hi : c ≤ i ∧ i < c + (j + 1)
          · rw [if_pos hi, if_pos (by omega), h3 i hi.1 (by omega), hgd, hy]
          · rw [if_neg hi]
            by_cases hi2 : i < c
            · rw [if_pos hi2, if_pos (by omega)]
            · rw [if_neg hi2, if_neg (by omega)]
        simp only [ew, ef]
        rfl
      rw [e]
      exact clsR_dec hn hl hb Y m k (c + j + 1) (by omega) h2 (by omega) r2
theorem clsP_dec {l : List Int} (hn : nums l = l) (hl : l.length = 256) (hb : ∀ x ∈ l, 0 ≤ x ∧ x ≤ 255) (Y : List UInt8) : clsP (false, runsT l 256 ++ Y) = ⟨256, wT l 256, preF l 256, (false, Y)⟩ := by
  have h := clsR_dec hn hl hb Y 256 256 0 (by omega) (by omega) (by omega) fun _ => rfl
  have e1 : fromT l 0 = runsT l 256 := rfl
  have e2 : preF l 0 = fun _ => 0 := by funext i; unfold preF; rw [if_neg (by omega)]
  have e3 : wT l 0 = 0 := rfl
  rw [e1, e2, e3, clsP_eq] at h
  exact h
/-- a machine is read from its bytes -/
theorem mach_dec {d : DfaT} (hok : RightP d) (hl : d.of.length = 256) (hb : ∀ x ∈ d.of, 0 ≤ x ∧ x ≤ 255) (Y : List UInt8) : machD (false, (bodyL d).drop 4 ++ Y) = d ∧ (machRest (false, (bodyL d).drop 4 ++ Y)).s = (false, Y) := by
  have hnm := right_names hok
  obtain ⟨hk1, hk2, hk3, hk4, hk5, hk6, hk7⟩ := id hok
  obtain ⟨s1, s2, s3⟩ := statesT_enc hok
  have hbody : (bodyL d).drop 4 ++ Y = beB 1 d.names.length ++ (namesE d.names ++ (runsT d.of 256 ++ (beB 2 (d.label.length - 1) ++ ((d.label.zip d.next).flatMap encS ++ Y)))) := by
    unfold bodyL
    rw [s1]
    simp only [List.append_assoc]
    rw [show (4 : Nat) = frontL.length from rfl, List.drop_left]
    simp only [List.append_assoc]
  have hps : ∀ p ∈ d.label.zip d.next, 0 ≤ p.1 ∧ p.1 < 256 ∧ p.2.length = d.width.toNat ∧ ∀ t ∈ p.2, 0 ≤ t ∧ t < 65536 := fun p hp => by
    obtain ⟨i, hi, rfl⟩ := List.getElem_of_mem hp
    rw [List.length_zip] at hi
    rw [List.getElem_zip]
    obtain ⟨hw1, hw2, hw3, hw4⟩ := hk7 i (by omega) (by omega)
    refine ⟨hw2, by show d.label[i] < 256; omega, by show (d.next[i]).length = _; omega, fun t ht => ?_⟩
    have := hw4 t ht
    omega
  have hz : (d.label.zip d.next).length = d.label.length := by rw [List.length_zip]; omega
  have hwt : wT d.of 256 = d.width.toNat := by unfold wT; rw [List.take_of_length_le (by omega)]; omega
  have hof : ofF (preF d.of 256) = d.of := by
    apply List.ext_getElem (by rw [ofF_len, hl])
    intro i h1 h2
    have : i < 256 := by omega
    simp only [ofF, List.getElem_map, List.getElem_range]
    unfold preF
    rw [if_pos this, List.getD_eq_getElem?_getD, List.getElem?_eq_getElem h2]; rfl
  have hm := macR_dec (w := d.width.toNat) (d.label.zip d.next) [] [] Y hps
  rw [hz, s2, s3, List.nil_append, List.nil_append] at hm
  have hrest : machRest (false, (bodyL d).drop 4 ++ Y) = ⟨d.label, d.next, (false, Y)⟩ := by
    unfold machRest
    rw [hbody, namesP_dec hnm.1 hnm.2]
    simp only []
    rw [clsP_dec hk4 hl hb]
    simp only []
    rw [numP_two (by omega), hwt, show d.label.length - 1 + 1 = d.label.length by omega]
    exact hm
  refine ⟨?_, by rw [hrest]⟩
  apply DfaT.ext2
  · show ofF (clsP (namesP (false, (bodyL d).drop 4 ++ Y)).2).f = _
    rw [hbody, namesP_dec hnm.1 hnm.2]
    simp only []
    rw [clsP_dec hk4 hl hb]
    exact hof
  · show (((clsP (namesP (false, (bodyL d).drop 4 ++ Y)).2).w : Nat) : Int) = _
    rw [hbody, namesP_dec hnm.1 hnm.2]
    simp only []
    rw [clsP_dec hk4 hl hb]
    show ((wT d.of 256 : Nat) : Int) = _
    omega
  · show (machRest _).nxt = _; rw [hrest]
  · show (machRest _).lab = _; rw [hrest]
  · show (namesP (false, (bodyL d).drop 4 ++ Y)).1 = _
    rw [hbody, namesP_dec hnm.1 hnm.2]
end Go.Proofs.Ytomdbjfdbkejoaa
