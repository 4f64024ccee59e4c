/- Machines as bytes: the document's guess where the bytes are some machine's: plain law. -/
import Derived.Test.YtomdbjfdbkejoaaYl
set_option linter.unusedSimpArgs false
set_option linter.unusedVariables false
namespace Go.Proofs.Ytomdbjfdbkejoaa
open Go Go.V Go.Proofs

def tail4 (d : DfaT) (s : Nat) : List UInt8 := ((d.label.zip d.next).drop s).flatMap encS ++ beB 4 (sumL (bodyL d))
def tail2 (d : DfaT) : List UInt8 := beB 2 (d.label.length - 1) ++ tail4 d 0
def tail1 (d : DfaT) (n : Nat) : List UInt8 := namesE (d.names.drop n) ++ (runsT d.of 256 ++ tail2 d)
theorem at_cons {b : List UInt8} {i : Nat} {x : UInt8} {Y : List UInt8} (h : b.drop i = x :: Y) : atB b i = x.toNat ∧ b.drop (i + 1) = Y ∧ i < b.length := by
  have hl : i < b.length := by
    by_cases h2 : i < b.length
    · exact h2
    · rw [List.drop_of_length_le (by omega)] at h; cases h
  rw [List.drop_eq_getElem_cons hl] at h
  injection h with h1 h2
  refine ⟨?_, h2, hl⟩
  unfold atB
  rw [List.getD_eq_getElem?_getD, List.getElem?_eq_getElem hl, h1]; rfl
theorem at_one {b : List UInt8} {i x : Nat} {Y : List UInt8} (hx : x < 256) (h : b.drop i = beB 1 x ++ Y) : atB b i = x ∧ b.drop (i + 1) = Y ∧ i < b.length := by
  rw [beB_one] at h
  obtain ⟨h1, h2, h3⟩ := at_cons h
  refine ⟨?_, h2, h3⟩
  rw [h1, UInt8.toNat_ofNat']; omega
theorem at_two {b : List UInt8} {i x : Nat} {Y : List UInt8} (hx : x < 65536) (h : b.drop i = beB 2 x ++ Y) : 256 * atB b i + atB b (i + 1) = x ∧ b.drop (i + 2) = Y ∧ i + 2 ≤ b.length := by
  rw [beB_two] at h
  obtain ⟨h1, h2, h3⟩ := at_cons (Y := UInt8.ofNat x :: Y) h
  obtain ⟨g1, g2, g3⟩ := at_cons h2
  refine ⟨?_, g2, by omega⟩
  rw [h1, g1, UInt8.toNat_ofNat', UInt8.toNat_ofNat']; omega
theorem lay_four {d : DfaT} (hd : Fit d) {b : List UInt8} (e : layL d = b) : b.drop 4 = beB 1 d.names.length ++ tail1 d 0 := by
  subst e
  obtain ⟨s1, s2, s3⟩ := statesT_enc hd.1
  unfold layL bodyL
  rw [s1]
  unfold tail1 tail2 tail4
  simp only [List.append_assoc]
  rw [show (4 : Nat) = frontL.length from rfl, List.drop_left]
  simp only [List.drop_zero, bodyL, s1, List.append_assoc]
theorem tail4_ne (d : DfaT) (s : Nat) : tail4 d s ≠ [] := by
  intro h
  have := congrArg List.length h
  unfold tail4 at this
  rw [List.length_append, beB_len] at this
  simp at this
theorem tail2_ne (d : DfaT) : tail2 d ≠ [] := by
  intro h
  unfold tail2 at h
  exact tail4_ne d 0 (List.append_eq_nil_iff.1 h).2
/-! names -/
def LinkN (b : List UInt8) (i : Nat) (l : List (List UInt8)) : Prop := ∀ d, Fit d → layL d = b → l = d.names.take l.length ∧ l.length ≤ d.names.length ∧ b.drop i = tail1 d l.length
theorem linkN_at {b : List UInt8} {d : DfaT} (hd : Fit d) (e : layL d = b) : atB b 4 = d.names.length := by
  have := right_names hd.1
  exact (at_one (by omega) (lay_four hd e)).1
theorem linkN_zero (b : List UInt8) : LinkN b 5 [] := fun d hd e => by
  have := right_names hd.1
  exact ⟨rfl, Nat.zero_le _, (at_one (by omega) (lay_four hd e)).2.1⟩
theorem tail1_succ {d : DfaT} {n : Nat} (h : n < d.names.length) : tail1 d n = beB 1 (d.names[n]).length ++ (d.names[n] ++ tail1 d (n + 1)) := by
  unfold tail1
  rw [List.drop_eq_getElem_cons h]
  unfold namesE
  rw [List.flatMap_cons]
  unfold nameE
  simp only [List.append_assoc]
theorem linkN_next {b : List UInt8} {i : Nat} {l : List (List UInt8)} (h : LinkN b i l) (h4 : l.length < atB b 4) {d : DfaT} (hd : Fit d) (e : layL d = b) :
    ∃ (hn : l.length < d.names.length), i + 1 + atB b i ≤ b.length ∧ (b.take (i + 1 + atB b i)).drop (i + 1) = d.names[l.length] ∧ b.drop (i + 1 + atB b i) = tail1 d (l.length + 1) := by
  obtain ⟨h1, h2, h3⟩ := h d hd e
  rw [linkN_at hd e] at h4
  have hnm := right_names hd.1
  have hs := hnm.2 _ (List.getElem_mem h4)
  rw [tail1_succ h4] at h3
  obtain ⟨g1, g2, g3⟩ := at_one (by omega) h3
  have hlen := congrArg List.length g2
  rw [List.length_drop, List.length_append] at hlen
  refine ⟨h4, by omega, ?_, ?_⟩
  · rw [List.drop_take, g2, g1, show i + 1 + (d.names[l.length]).length - (i + 1) = (d.names[l.length]).length by omega, List.take_left]
  · rw [g1, ← List.drop_drop, g2, List.drop_left]
theorem linkN_snoc {b : List UInt8} {i : Nat} {l : List (List UInt8)} (h : LinkN b i l) (h4 : l.length < atB b 4) : LinkN b (i + 1 + atB b i) (l ++ [(b.take (i + 1 + atB b i)).drop (i + 1)]) := fun d hd e => by
  obtain ⟨hn, h1, h2, h3⟩ := linkN_next h h4 hd e
  obtain ⟨g1, g2, g3⟩ := h d hd e
  rw [List.length_append, List.length_singleton]
  refine ⟨?_, by omega, h3⟩
  rw [h2, List.take_succ_eq_append_getElem hn, ← g1]
theorem linkN_end {b : List UInt8} {i : Nat} {l : List (List UInt8)} (h : LinkN b i l) (hno : ¬ (l.length < atB b 4 ∧ i < b.length)) {d : DfaT} (hd : Fit d) (e : layL d = b) : l = d.names ∧ b.drop i = runsT d.of 256 ++ tail2 d := by
  obtain ⟨h1, h2, h3⟩ := h d hd e
  have hil : i < b.length := by
    by_cases hil : i < b.length
    · exact hil
    · rw [List.drop_of_length_le (by omega)] at h3
      unfold tail1 at h3
      exact absurd (List.append_eq_nil_iff.1 (List.append_eq_nil_iff.1 h3.symm).2).2 (tail2_ne d)
  have h4 := linkN_at hd e
  have hl : l.length = d.names.length := by
    by_cases h5 : l.length < atB b 4
    · exact absurd ⟨h5, hil⟩ hno
    · omega
  rw [hl] at h1 h3
  rw [List.take_length] at h1
  refine ⟨h1, ?_⟩
  rw [h3]; unfold tail1
  rw [List.drop_length]; rfl
/-! classes -/
def LinkC (b : List UInt8) (l : List (List UInt8)) (i c w : Nat) (f : Nat → Int) : Prop := ∀ d, Fit d → layL d = b → l = d.names ∧ (c < 256 → startL d.of c = c) ∧ w = wT d.of c ∧ f = preF d.of c ∧ b.drop i = fromT d.of c ++ tail2 d
theorem linkC_zero {b : List UInt8} {i : Nat} {l : List (List UInt8)} (h : LinkN b i l) (hno : ¬ (l.length < atB b 4 ∧ i < b.length)) : LinkC b l i 0 0 (fun _ => 0) := fun d hd e => by
  obtain ⟨h1, h2⟩ := linkN_end h hno hd e
  exact ⟨h1, fun _ => rfl, rfl, by funext k; unfold preF; rw [if_neg (by omega)], by rw [h2]; rfl⟩
theorem linkC_run {b : List UInt8} {l : List (List UInt8)} {i c w : Nat} {f : Nat → Int} (h : LinkC b l i c w f) (hc : c < 256) {d : DfaT} (hd : Fit d) (e : layL d = b) :
    ∃ j : Nat, atB b (i + 1) = j ∧ c + j + 1 ≤ 256 ∧ max w (atB b i + 1) = wT d.of (c + j + 1) ∧ fillF f c (j + 1) (atB b i : Nat) = preF d.of (c + j + 1) ∧ (c + j + 1 < 256 → startL d.of (c + j + 1) = c + j + 1) ∧ b.drop (i + 2) = fromT d.of (c + j + 1) ++ tail2 d := by
  obtain ⟨h1, h2, h3, h4, h5⟩ := h d hd e
  have hl := hd.2.1
  have hn := hd.1.2.2.2.1
  have hst := h2 hc
  obtain ⟨n, r1, r2, r3, r4⟩ := run_ex (l := d.of) (c := c) (256 - (c + 1)) (c + 1) (by omega) (by omega) fun i a b => by
    obtain rfl : i = c := by omega
    rfl
  obtain ⟨q1, q2⟩ := run_end hst (by omega) r2 r3 r4
  obtain ⟨j, rfl⟩ : ∃ j, n = c + j + 1 := ⟨n - c - 1, by omega⟩
  have hcl : c < d.of.length := by omega
  have hgd : d.of.getD c 0 = d.of[c] := by rw [List.getD_eq_getElem?_getD, List.getElem?_eq_getElem hcl]; rfl
  have hcb := hd.2.2 _ (List.getElem_mem hcl)
  obtain ⟨y, hy⟩ := Int.eq_ofNat_of_zero_le hcb.1
  have hfrom : fromT d.of c = beB 1 y ++ (beB 1 j ++ fromT d.of (c + j + 1)) := by
    have e1 := fromT_eq d.of (c := c) (by omega)
    rw [fromT_eq d.of (c := c + j + 1) r2, q1, hgd, hy, Int.toNat_natCast, show c + j + 1 - c - 1 = j by omega, List.append_assoc] at e1
    have := List.append_cancel_left e1
    rw [← this, List.append_assoc]
  rw [hfrom, List.append_assoc, List.append_assoc] at h5
  obtain ⟨g1, g2, g3⟩ := at_one (by omega) h5
  obtain ⟨k1, k2, k3⟩ := at_one (by omega) g2
  refine ⟨j, k1, r2, ?_, ?_, q2, k2⟩
  · have ew := wT_run hn hl (by omega) j r2 r3
    rw [hgd, hy, Int.toNat_natCast] at ew
    rw [g1, h3, ew]
  · rw [g1, h4]
    funext x
    unfold fillF preF
    by_cases hi : c ≤ x ∧ x < c + (j + 1)
    · rw [if_pos hi, if_pos (by omega), r3 x hi.1 (by omega), hgd, hy]
    · rw [if_neg hi]
      by_cases hi2 : x < c
      · rw [if_pos hi2, if_pos (by omega)]
      · rw [if_neg hi2, if_neg (by omega)]
theorem linkC_next {b : List UInt8} {l : List (List UInt8)} {i c w : Nat} {f : Nat → Int} (h : LinkC b l i c w f) (hc : c < 256) {m : Nat} (hm : m ≤ atB b (i + 1) + 1) (hm2 : m = atB b (i + 1) + 1 ∨ c + m = 256) (hm3 : c + m ≤ 256) :
    LinkC b l (i + 2) (c + m) (max w (atB b i + 1)) (fillF f c m (atB b i : Nat)) := fun d hd e => by
  obtain ⟨j, h1, h2, h3, h4, h5, h6⟩ := linkC_run h hc hd e
  obtain rfl : m = j + 1 := by omega
  exact ⟨(h d hd e).1, h5, h3, h4, h6⟩
theorem linkC_end {b : List UInt8} {l : List (List UInt8)} {i c w : Nat} {f : Nat → Int} (h : LinkC b l i c w f) (hc : c ≤ 256) (hno : ¬ (c < 256 ∧ i < b.length)) {d : DfaT} (hd : Fit d) (e : layL d = b) :
    l = d.names ∧ (w : Int) = d.width ∧ ofF f = d.of ∧ b.drop i = tail2 d := by
  obtain ⟨h1, h2, h3, h4, h5⟩ := h d hd e
  have hil : i < b.length := by
    by_cases hil : i < b.length
    · exact hil
    · rw [List.drop_of_length_le (by omega)] at h5
      exact absurd (List.append_eq_nil_iff.1 h5.symm).2 (tail2_ne d)
  have hc : c = 256 := by
    by_cases h6 : c < 256
    · exact absurd ⟨h6, hil⟩ hno
    · omega
  subst hc
  have hl := hd.2.1
  have hw := hd.1.2.2.2.2.1
  refine ⟨h1, ?_, ?_, ?_⟩
  · rw [h3]; unfold wT; rw [List.take_of_length_le (by omega)]; exact hw
  · rw [h4]
    apply List.ext_getElem (by rw [ofF_len, hl])
    intro i h1 h2
    have : i < 256 := by omega
    simp only [ofF, List.getElem_map, List.getElem_range]
    unfold preF
    rw [if_pos this, List.getD_eq_getElem?_getD, List.getElem?_eq_getElem h2]; rfl
  · rw [h5]; unfold fromT; rw [List.drop_length]; rfl
/-! states -/
def LinkS (b : List UInt8) (l : List (List UInt8)) (w : Nat) (f : Nat → Int) (N i : Nat) (lab : List Int) (rows : List (List Int)) : Prop := ∀ d, Fit d → layL d = b → l = d.names ∧ (w : Int) = d.width ∧ ofF f = d.of ∧ N = d.label.length ∧ lab = d.label.take lab.length ∧ rows = d.next.take lab.length ∧ lab.length ≤ d.label.length ∧ b.drop i = tail4 d lab.length
theorem linkS_zero {b : List UInt8} {l : List (List UInt8)} {i c w : Nat} {f : Nat → Int} (h : LinkC b l i c w f) (hc : c ≤ 256) (hno : ¬ (c < 256 ∧ i < b.length)) : LinkS b l w f (256 * atB b i + atB b (i + 1) + 1) (i + 2) [] [] := fun d hd e => by
  obtain ⟨h1, h2, h3, h4⟩ := linkC_end h hc hno hd e
  have hk := hd.1
  obtain ⟨g1, g2, g3⟩ := at_two (by have := hk.2.1; omega) h4
  exact ⟨h1, h2, h3, by have := hk.1; omega, rfl, rfl, Nat.zero_le _, g2⟩
def LinkR (b : List UInt8) (l : List (List UInt8)) (w : Nat) (f : Nat → Int) (N i : Nat) (lab : List Int) (rows : List (List Int)) (row : List Int) : Prop := ∀ d, Fit d → layL d = b → l = d.names ∧ (w : Int) = d.width ∧ ofF f = d.of ∧ N = d.label.length ∧ lab = d.label.take (rows.length + 1) ∧ rows = d.next.take rows.length ∧ rows.length < d.label.length ∧ (d.next.getD rows.length []).length = w ∧ row = (d.next.getD rows.length []).take row.length ∧ b.drop i = rowE ((d.next.getD rows.length []).drop row.length) ++ tail4 d (rows.length + 1)
theorem tail4_succ {d : DfaT} {s : Nat} (h : s < d.label.length) (h2 : s < d.next.length) : tail4 d s = beB 1 d.label[s].toNat ++ (rowE d.next[s] ++ tail4 d (s + 1)) := by
  unfold tail4
  rw [List.drop_eq_getElem_cons (by rw [List.length_zip]; omega), List.flatMap_cons, List.getElem_zip]
  unfold encS
  simp only [List.append_assoc]
theorem linkR_zero {b : List UInt8} {l : List (List UInt8)} {w : Nat} {f : Nat → Int} {N i : Nat} {lab : List Int} {rows : List (List Int)} (h : LinkS b l w f N i lab rows) (hlr : rows.length = lab.length) (hs : lab.length < N) :
    LinkR b l w f N (i + 1) (lab ++ [((atB b i : Nat) : Int)]) rows [] := fun d hd e => by
  obtain ⟨h1, h2, h3, h4, h5, h6, h7, h8⟩ := h d hd e
  have hk := hd.1
  have hn := hk.2.2.1
  have hsl : lab.length < d.label.length := by omega
  have hsn : lab.length < d.next.length := by omega
  obtain ⟨w1, w2, w3, w4⟩ := hk.2.2.2.2.2.2 lab.length hsn hsl
  obtain ⟨z, hz⟩ := Int.eq_ofNat_of_zero_le w2
  have hnm := right_names hk
  rw [tail4_succ hsl hsn, hz, Int.toNat_natCast] at h8
  obtain ⟨g1, g2, g3⟩ := at_one (by omega) h8
  have hgd : d.next.getD rows.length [] = d.next[lab.length] := by rw [hlr, List.getD_eq_getElem?_getD, List.getElem?_eq_getElem hsn]; rfl
  refine ⟨h1, h2, h3, h4, ?_, by rw [hlr]; exact h6, by omega, by rw [hgd]; omega, rfl, ?_⟩
  · rw [hlr, List.take_succ_eq_append_getElem hsl, hz, g1, ← h5]
  · rw [hgd, g2, hlr]; rfl
theorem linkR_next {b : List UInt8} {l : List (List UInt8)} {w : Nat} {f : Nat → Int} {N i : Nat} {lab : List Int} {rows : List (List Int)} {row : List Int} (h : LinkR b l w f N i lab rows row) (hr : row.length < w) :
    LinkR b l w f N (i + 2) lab rows (row ++ [((256 * atB b i + atB b (i + 1) : Nat) : Int)]) := fun d hd e => by
  obtain ⟨h1, h2, h3, h4, h5, h6, h7, h8, h9, h10⟩ := h d hd e
  have hk := hd.1
  have hn := hk.2.2.1
  have hsn : rows.length < d.next.length := by omega
  have hgd : d.next.getD rows.length [] = d.next[rows.length] := by rw [List.getD_eq_getElem?_getD, List.getElem?_eq_getElem hsn]; rfl
  rw [hgd] at h8 h9 h10
  obtain ⟨w1, w2, w3, w4⟩ := hk.2.2.2.2.2.2 rows.length hsn h7
  have hrl : row.length < (d.next[rows.length]).length := by omega
  have ht := w4 _ (List.getElem_mem hrl)
  obtain ⟨t, ht2⟩ := Int.eq_ofNat_of_zero_le ht.1
  have hk2 := hk.2.1
  have e1 : rowE ((d.next[rows.length]).drop row.length) = beB 2 t ++ rowE ((d.next[rows.length]).drop (row.length + 1)) := by
    rw [List.drop_eq_getElem_cons hrl]
    unfold rowE
    rw [List.flatMap_cons, ht2, Int.toNat_natCast]
  rw [e1, List.append_assoc] at h10
  obtain ⟨g1, g2, g3⟩ := at_two (by omega) h10
  refine ⟨h1, h2, h3, h4, h5, h6, h7, by rw [hgd]; exact h8, ?_, ?_⟩
  · rw [hgd, List.length_append, List.length_singleton, List.take_succ_eq_append_getElem hrl, ← h9, ht2, g1]
  · rw [hgd, List.length_append, List.length_singleton, g2]
theorem linkR_end {b : List UInt8} {l : List (List UInt8)} {w : Nat} {f : Nat → Int} {N i : Nat} {lab : List Int} {rows : List (List Int)} {row : List Int} (h : LinkR b l w f N i lab rows row) (hlr : lab.length = rows.length + 1) (hr : row.length = w) :
    LinkS b l w f N i lab (rows ++ [row]) := fun d hd e => by
  obtain ⟨h1, h2, h3, h4, h5, h6, h7, h8, h9, h10⟩ := h d hd e
  have hk := hd.1
  have hn := hk.2.2.1
  have hsn : rows.length < d.next.length := by omega
  have hgd : d.next.getD rows.length [] = d.next[rows.length] := by rw [List.getD_eq_getElem?_getD, List.getElem?_eq_getElem hsn]; rfl
  rw [hgd] at h8 h9 h10
  have hrow : row = d.next[rows.length] := by rw [hr, ← h8, List.take_length] at h9; exact h9
  refine ⟨h1, h2, h3, h4, by rw [hlr]; exact h5, ?_, by omega, ?_⟩
  · rw [hlr, List.take_succ_eq_append_getElem hsn, ← h6, ← hrow]
  · rw [h10, hlr, hr, ← h8, List.drop_length]; rfl
theorem linkS_end {b : List UInt8} {l : List (List UInt8)} {w : Nat} {f : Nat → Int} {N i : Nat} {lab : List Int} {rows : List (List Int)} (h : LinkS b l w f N i lab rows) (hno : ¬ (lab.length < N ∧ i < b.length)) {d : DfaT} (hd : Fit d) (e : layL d = b) :
    (⟨ofF f, w, rows, lab, l⟩ : DfaT) = d := by
  obtain ⟨h1, h2, h3, h4, h5, h6, h7, h8⟩ := h d hd e
  have hil : i < b.length := by
    by_cases hil : i < b.length
    · exact hil
    · rw [List.drop_of_length_le (by omega)] at h8
      exact absurd h8.symm (tail4_ne d _)
  have hl : lab.length = d.label.length := by
    by_cases h9 : lab.length < N
    · exact absurd ⟨h9, hil⟩ hno
    · omega
  have hn := hd.1.2.2.1
  rw [hl] at h5 h6
  rw [List.take_length] at h5
  rw [← hn, List.take_length] at h6
  exact DfaT.ext2 h3 h2 h6 h5 h1
end Go.Proofs.Ytomdbjfdbkejoaa
