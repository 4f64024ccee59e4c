/- A machine, as a law is handed it. -/
import Derived.Test.YtpagkndgjihbbaaSh
import Derived.Test.YtpagkndgjihbbaaVeM
set_option linter.unusedSimpArgs false
set_option linter.unusedVariables false
namespace Go.Proofs.Ytpagkndgjihbbaa
open Go Go.V Go.Proofs Go.ChangeShapes Go.WideShapes Go.RowKit

section
variable {H : Type} {enc : TypeId × Value → H} {W : World} {held : Bool} {sp : Nat → Bool}
theorem bulk_at {l : List (DataW H)} {i : Nat} (h : i < l.length) : bulkV l[i] ≤ bulkVs l := by
  induction l generalizing i with
  | nil => cases h
  | cons d l ih =>
    cases i with
    | zero => simp only [List.getElem_cons_zero, bulkVs]; omega
    | succ i =>
      have := ih (i := i) (by simpa using h)
      simp only [List.getElem_cons_succ, bulkVs]; omega
theorem rd_fints {n : Nat} {cs : List Value} {x : DataW H × List MemPlace} (h : DataW.trod enc Try.prog W 0 sp held n 24 cs = some x) :
    ∃ (a : Option Addr) (cap : Nat) (xs : List Int), cs = [.slice a xs.length cap] ∧ Row (fun b => W.heap[b]?) a (xs.map (Value.int .i64)) ∧ xs.length ≤ cap ∧ xs.length + 1 ≤ bulkV x.1 := by
  obtain ⟨d1, hd1, hf1⟩ := tok.und (t := 24) (k := .slice 3) rfl (by simp)
  simp only [TK.fits] at hf1; subst hf1
  obtain ⟨a, cap, ds, xs, h1, h2, h3, h4, h5, h6⟩ := rd_slice_enc hd1 (m := 1) (by kernel_rfl) (by omega) (fun n : Int => [Value.int .i64 n]) (fun d _ => 1 ≤ bulkV d) (fun n cs y hl hy => by
    obtain ⟨z, e, _, _, hb⟩ := rd_fint tok (t := 3) (k := .i64) rfl hy
    exact ⟨z, e, by omega⟩) h
  refine ⟨a, cap, xs, h1, by rw [List.map_eq_flatMap]; exact h3, h2, ?_⟩
  have := bulkVs_len ds fun d hd => by
    obtain ⟨i, hi, rfl⟩ := List.getElem_of_mem hd
    exact h5 i hi (by omega)
  omega
theorem rd_fstrs {n : Nat} {cs : List Value} {x : DataW H × List MemPlace} (h : DataW.trod enc Try.prog W 0 sp held n 25 cs = some x) :
    ∃ (a : Option Addr) (cap : Nat) (xs : List (List UInt8)), cs = [.slice a xs.length cap] ∧ Row (fun b => W.heap[b]?) a (xs.map str) ∧ xs.length ≤ cap ∧ xs.length + 1 ≤ bulkV x.1 ∧ ∀ s ∈ xs, s.length ≤ bulkV x.1 := by
  obtain ⟨d1, hd1, hf1⟩ := tok.und (t := 25) (k := .slice 9) rfl (by simp)
  simp only [TK.fits] at hf1; subst hf1
  obtain ⟨a, cap, ds, xs, h1, h2, h3, h4, h5, h6⟩ := rd_slice_enc hd1 (m := 1) (by kernel_rfl) (by omega) (fun s : List UInt8 => [str s]) (fun d s => s.length + 1 ≤ bulkV d) (fun n cs y hl hy => by
    obtain ⟨s, e, hb⟩ := rd_fstr tok (t := 9) rfl hy
    exact ⟨s, e, by omega⟩) h
  refine ⟨a, cap, xs, h1, by rw [List.map_eq_flatMap]; exact h3, h2, ?_, fun s hs => ?_⟩
  · have := bulkVs_len ds fun d hd => by
      obtain ⟨i, hi, rfl⟩ := List.getElem_of_mem hd
      have := h5 i hi (by omega)
      omega
    omega
  · obtain ⟨i, hi, rfl⟩ := List.getElem_of_mem hs
    have h7 := h5 i (by omega) hi
    have h8 := bulk_at (l := ds) (i := i) (by omega)
    omega
theorem rd_frows {n : Nat} {cs : List Value} {x : DataW H × List MemPlace} (h : DataW.trod enc Try.prog W 0 sp held n 23 cs = some x) :
    ∃ (v : Value) (xss : List (List Int)), cs = [v] ∧ SlS (fun b => W.heap[b]?) v xss ∧ xss.length + 1 ≤ bulkV x.1 ∧ ∀ r ∈ xss, r.length ≤ bulkV x.1 := by
  obtain ⟨d1, hd1, hf1⟩ := tok.und (t := 23) (k := .slice 24) rfl (by simp)
  simp only [TK.fits] at hf1; subst hf1
  obtain ⟨a, cap, rows, ds, spare, xs, h1, h2, h3, h4, h5, h6, h7⟩ := rd_slice hd1 (m := 1) (by kernel_rfl) (by omega) (fun cs d (r : List Int) => ∃ b c, cs = [.slice b r.length c] ∧ Row (fun b => W.heap[b]?) b (r.map (Value.int .i64)) ∧ r.length ≤ c ∧ r.length + 1 ≤ bulkV d) (fun n cs y hl hy => by
    obtain ⟨b, c, r, e, g1, g2, g3⟩ := rd_fints hy
    exact ⟨r, b, c, e, g1, g2, g3⟩) h
  have hfl : rows.flatten.length = rows.length := by
    have : ∀ l : List (List Value), (∀ i (h : i < l.length), l[i].length = 1) → l.flatten.length = l.length := fun l => by
      induction l with
      | nil => intro _; rfl
      | cons r l ih =>
        intro hh
        have h0 := hh 0 (by simp)
        have := ih fun i hi => by have := hh (i + 1) (by simp; omega); simpa using this
        simp only [List.flatten_cons, List.length_append, List.length_cons, List.getElem_cons_zero] at h0 ⊢
        omega
    exact this rows fun i hi => (h6 i hi (by omega) (by omega)).1
  have hfg : ∀ i (h : i < rows.length), rows[i] = [rows.flatten[i]'(by omega)] := by
    have : ∀ l : List (List Value), (∀ i (h : i < l.length), l[i].length = 1) → ∀ i (h : i < l.length) (h2 : i < l.flatten.length), l[i] = [l.flatten[i]] := fun l => by
      induction l with
      | nil => intro _ i h; cases h
      | cons r l ih =>
        intro hh i hi h2
        have h0 := hh 0 (by simp)
        simp only [List.getElem_cons_zero] at h0
        match r, h0 with
        | [v], _ =>
          cases i with
          | zero => simp
          | succ i =>
            have := ih (fun i hi => by have := hh (i + 1) (by simp; omega); simpa using this) i (by simpa using hi) (by simpa using h2)
            simpa using this
    exact fun i h => this rows (fun i hi => (h6 i hi (by omega) (by omega)).1) i h _
  refine ⟨_, xs, h1, ⟨a, cap, rows.flatten, rfl, h3, by omega, h2, fun i hi hi2 => ?_⟩, ?_, fun r hr => ?_⟩
  · obtain ⟨_, b, c, e, g1, g2, _⟩ := h6 i (by omega) (by omega) hi
    rw [hfg i (by omega)] at e
    exact ⟨b, c, by simpa using e, g1, g2⟩
  · have := bulkVs_len ds fun d hd => by
      obtain ⟨i, hi, rfl⟩ := List.getElem_of_mem hd
      obtain ⟨_, b, c, e, g1, g2, g3⟩ := h6 i (by omega) hi (by omega)
      omega
    omega
  · obtain ⟨i, hi, rfl⟩ := List.getElem_of_mem hr
    obtain ⟨_, b, c, e, g1, g2, g3⟩ := h6 i (by omega) (by omega) hi
    have := bulk_at (l := ds) (i := i) (by omega)
    omega
theorem rd_fu8s {n : Nat} {cs : List Value} (hl : cs.length = 256) {x : DataW H × List MemPlace} (h : DataW.trod enc Try.prog W 0 sp held n 22 cs = some x) :
    ∃ xs : List Int, cs = xs.map (Value.int .u8) ∧ ∀ x ∈ xs, 0 ≤ x ∧ x ≤ 255 := by
  have key : ∀ k, k ≤ 256 → ∃ xs : List Int, cs.take k = xs.map (Value.int .u8) ∧ ∀ x ∈ xs, 0 ≤ x ∧ x ≤ 255 := fun k => by
    induction k with
    | zero => intro _; exact ⟨[], by simp, fun x hx => by cases hx⟩
    | succ k ih =>
      intro hk
      obtain ⟨xs, h1, h2⟩ := ih (by omega)
      obtain ⟨q, y, hy, _⟩ := rd_elem tok (t := 22) (e := 5) (m := 256) rfl h (i := k) (by omega)
      rw [show Try.prog.cellsOf 5 = 1 by kernel_rfl] at hy
      obtain ⟨z, e, w0, w1, _⟩ := rd_fint tok (t := 5) (k := .u8) rfl hy
      have hk2 : k < cs.length := by omega
      rw [Nat.mul_one, List.drop_eq_getElem_cons hk2] at e
      simp only [List.take_succ_cons, List.take_zero, List.cons.injEq, and_true] at e
      refine ⟨xs ++ [z], by rw [List.take_succ_eq_append_getElem hk2, h1, List.map_append, e]; rfl, fun x hx => ?_⟩
      rcases List.mem_append.1 hx with hx | hx
      · exact h2 x hx
      · rw [List.mem_singleton.1 hx]
        exact ⟨w0, w1⟩
  obtain ⟨xs, h1, h2⟩ := key 256 (Nat.le_refl _)
  rw [List.take_of_length_le (by omega)] at h1
  exact ⟨xs, h1, h2⟩
set_option maxRecDepth 8000 in
theorem rd_dfa {r : Reach} {b0 : Nat} {v : Value} {dt : DataW H} {ps : List MemPlace}
    (hval : Value.okWide Try.prog W r b0 27 v) (h : DataW.Trod enc Try.prog W 0 sp held 27 v dt ps) : ∃ d : DfaT, IsD (fun b => W.heap[b]?) d v ∧ (bulkV dt ≤ 1048576 → SmallD d) := by
  obtain ⟨d1, hd1, f, rfl, hf1⟩ := tok.und (t := 27) (k := .struct [(0, 22), (256, 3), (257, 23), (258, 24), (259, 25)]) rfl (by simp)
  obtain ⟨C, rfl, hC⟩ := okWide_struct hd1 hval
  rw [show Try.prog.cellsOf 27 = 260 by kernel_rfl] at hC
  obtain ⟨fuel, hf⟩ := h
  have hC2 : C.toList.length = 260 := by simpa using hC
  have hf' : DataW.trod enc Try.prog W 0 sp held fuel 27 C.toList = some (dt, ps) := hf
  obtain ⟨m0, y0, g0, w0⟩ := rd_field tok (t := 27) (fs := [(0, 22), (256, 3), (257, 23), (258, 24), (259, 25)]) rfl (i := 0) rfl hf'
  obtain ⟨m1, y1, g1, w1⟩ := rd_field tok (t := 27) (fs := [(0, 22), (256, 3), (257, 23), (258, 24), (259, 25)]) rfl (i := 1) rfl hf'
  obtain ⟨m2, y2, g2, w2⟩ := rd_field tok (t := 27) (fs := [(0, 22), (256, 3), (257, 23), (258, 24), (259, 25)]) rfl (i := 2) rfl hf'
  obtain ⟨m3, y3, g3, w3⟩ := rd_field tok (t := 27) (fs := [(0, 22), (256, 3), (257, 23), (258, 24), (259, 25)]) rfl (i := 3) rfl hf'
  obtain ⟨m4, y4, g4, w4⟩ := rd_field tok (t := 27) (fs := [(0, 22), (256, 3), (257, 23), (258, 24), (259, 25)]) rfl (i := 4) rfl hf'
  rw [show Try.prog.cellsOf 22 = 256 by kernel_rfl] at g0
  rw [show Try.prog.cellsOf 3 = 1 by kernel_rfl] at g1
  rw [show Try.prog.cellsOf 23 = 1 by kernel_rfl] at g2
  rw [show Try.prog.cellsOf 24 = 1 by kernel_rfl] at g3
  rw [show Try.prog.cellsOf 25 = 1 by kernel_rfl] at g4
  obtain ⟨of, e0, hb0⟩ := rd_fu8s (by rw [List.length_take, List.length_drop, hC2]; omega) g0
  obtain ⟨w, e1, _⟩ := rd_fint tok (t := 3) (k := .i64) rfl g1
  obtain ⟨vn, next, e2, hn, hn1, hn2⟩ := rd_frows g2
  obtain ⟨al, cl, label, e3, hl, hl1, hl2⟩ := rd_fints g3
  obtain ⟨ay, cy, names, e4, hy, hy1, hy2, hy3⟩ := rd_fstrs g4
  rw [List.drop_zero] at e0
  have hofl : of.length = 256 := by
    have := congrArg List.length e0
    rw [List.length_take, hC2, List.length_map] at this
    omega
  have split1 : ∀ {k : Nat} {z : Value}, k < 260 → (C.toList.drop k).take 1 = [z] → C.toList.drop k = z :: C.toList.drop (k + 1) := fun {k z} hk e => by
    rw [List.drop_eq_getElem_cons (by omega)] at e ⊢
    simp only [List.take_succ_cons, List.take_zero, List.cons.injEq, and_true] at e
    rw [e]
  have hCe : C.toList = cellsD ⟨of, w, next, label, names⟩ vn (.slice al label.length cl) (.slice ay names.length cy) := by
    rw [← List.take_append_drop 256 C.toList, e0, split1 (by omega) e1, split1 (by omega) e2, split1 (by omega) e3, split1 (by omega) e4, List.drop_of_length_le (by omega)]
    rfl
  refine ⟨⟨of, w, next, label, names⟩, ⟨hofl, hb0, vn, _, _, ?_, hn, ⟨al, cl, rfl, hl, hl1⟩, ⟨ay, cy, rfl, hy, hy1⟩⟩, fun hbk => ?_⟩
  · rw [← hCe]
  · simp only [] at w0 w1 w2 w3 w4
    refine ⟨by show next.length ≤ _; omega, fun r hr => by have := hn2 r hr; omega, by show label.length ≤ _; omega, by show names.length ≤ _; omega, fun s hs => by have := hy3 s hs; omega⟩
end
end Go.Proofs.Ytpagkndgjihbbaa
