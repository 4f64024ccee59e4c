/- A machine's names and rows: contracts. -/
import Derived.Test.YtpagkndgjihbbaaSg
set_option linter.unusedSimpArgs false
set_option linter.unusedVariables false
namespace Go.Proofs.Ytpagkndgjihbbaa
open Go Go.V Go.Proofs

def namesOk (l : List (List UInt8)) : Prop := l.length ≤ 64 ∧ ∀ i (h : i < l.length), nameB l[i] = true ∧ l[i] ∉ l.take i
noncomputable def boolOf (p : Prop) : Bool := @decide p (Classical.propDecidable p)
theorem boolOf_iff {p : Prop} : boolOf p = true ↔ p := by unfold boolOf; exact @decide_eq_true_iff p (Classical.propDecidable p)
theorem boolOf_yes {p : Prop} (h : p) : boolOf p = true := boolOf_iff.2 h
theorem boolOf_no {p : Prop} (h : ¬ p) : boolOf p = false := by
  cases hb : boolOf p with
  | false => rfl
  | true => exact absurd (boolOf_iff.1 hb) h
set_option maxHeartbeats 4000000 in
theorem names_t (l : List (List UInt8)) (hlen : l.length ≤ 2000000) (hstr : ∀ s ∈ l, s.length ≤ 2000000) {G : PHeap} {H : Heap} {R : Value → PHeap → Heap → Prop} {v : Value} (hv : Sl G str v l) (hR : R (.bool (boolOf (namesOk l))) G H) : FnT Try.prog 44 [v] G H R := by
  obtain ⟨a, cap, rfl, hrow, hcap⟩ := hv
  by_cases h64 : l.length ≤ 64
  · refine FnT.body tok [0, 2, 3, 4, 7, 8, 9, 10, 11, 24] Try.func44 rfl (by kernel_rfl) (by kernel_rfl) (by show _ ≤ 26; simp) fun hsep => ?_
    rw [Try.results44]
    have hsE := hsep
    try simp only [keys_cons, keys_app, keys_nil, Sep_cons, Sep_nil, NotIn_cons, NotIn_app, NotIn_nil, List.cons_append, List.nil_append, List.append_assoc, and_assoc, and_true, true_and] at hsE
    repeat (obtain ⟨hsx, hsE⟩ := hsE)
    repeat' first
      | with_reducible refine Br.yes ?_
      | with_reducible refine Br.no ?_
      | with_reducible refine Br.dec (fun _ => ?_) (fun _ => ?_)
      | with_reducible refine Br.beqB (fun _ => ?_) (fun _ => ?_)
      | with_reducible refine Br.beqb (fun _ => ?_) (fun _ => ?_)
      | with_reducible refine Br.mk (fun _ => ?_) (fun _ => ?_)
      | with_reducible refine foundO.mk (fun _ _ => ?_) (fun _ => ?_)
      | with_reducible refine appV.zero ?_
      | with_reducible refine appV.own ?_
      | ((with_reducible refine NewB.mk fun nb hnb => ?_); have hnb1 := hnb.1.1; have hnb2 := hnb.1.2; try simp only [keys_cons, keys_app, keys_nil, NotIn_cons, NotIn_app, NotIn_nil, and_true] at hnb2)
      | ((with_reducible refine NewRow.mk fun nb nsp ncap hnb hncap => ?_); have hnb1 := hnb.1.1; have hnb2 := hnb.1.2; try simp only [keys_cons, keys_app, keys_nil, NotIn_cons, NotIn_app, NotIn_nil, and_true] at hnb2)
      | simp (dsimp := false) (implicitDefEqProofs := false) (disch := first | assumption | (simp only [List.mem_cons, List.mem_append, true_or, or_true, eq_self]; done) | omega | (with_reducible refine Row.adr (by assumption) ?_; simp only [List.length_map, List.length_take, List.length_drop]; omega) | (simp only [List.length_cons, List.length_nil, List.length_map, List.length_append, List.length_replicate, Nat.reduceAdd, true_and, and_true, and_self]; first | done | omega)) only [go_sem, ↓reduceIte, Nat.reduceEqDiff, Nat.reduceAdd, Nat.reduceSub, Nat.reduceMul, Nat.reduceBEq, Nat.reduceLT, Nat.reduceLeDiff, Nat.reduceMod, Nat.reducePow, List.reduceReplicate, UInt8.reduceOfNat, Int.reducePow, Int.reduceDiv, Int.reduceMod, Nat.reduceDiv, Int.reduceNeg, Int.reduceAdd, Int.reduceSub, Int.reduceMul, Int.reduceLE, Int.reduceLT, Int.reduceEq, Int.reduceToNat, reduceCtorEq]
    refine Tri.loopU tok [0, 2, 3, 4, 7, 8, 9, 10, 11, 24] (by kernel_rfl) [0, 2, 8, 9, 10] (fun n G' fr H' => ∃ i : Nat, i + n = l.length ∧ (∀ j (h : j < l.length), j < i → nameB l[j] = true ∧ l[j] ∉ l.take j) ∧ G' = G ∧ H' = H ∧ fr = [(0, .slice a l.length cap), (2, .bool false), (8, .slice a l.length cap), (9, .int .i64 l.length), (10, .int .i64 i)]) (l.length) (Upd.now ?_) ?_
    · exact ⟨0, by omega, fun j _ h => by omega, rfl, rfl, rfl⟩
    · rintro n G' fr H' hle hs ⟨i, hi, hno, rfl, rfl, rfl⟩
      by_cases hil : i < l.length
      · have had : Adr a := hrow.adr (by rw [List.length_map]; omega)
        have hsub : Sl G' str (.slice (subOb a 0 cap 0) (i - 0) (cap - 0)) (l.take i) := ⟨_, _, by rw [List.length_take, Nat.min_eq_left (by omega)]; rfl, by
          have h1 := (Row.drop hrow (l := 0) (m := cap) (s := 1) (fun e => by rw [List.length_map]; omega)).take i
          rw [List.map_take]
          exact h1, by rw [List.length_take]; omega⟩
        have hsi := hstr l[i] (List.getElem_mem hil)
        repeat' first
          | with_reducible refine Br.yes ?_
          | with_reducible refine Br.no ?_
          | with_reducible refine Br.dec (fun _ => ?_) (fun _ => ?_)
          | with_reducible refine Br.beqB (fun _ => ?_) (fun _ => ?_)
          | with_reducible refine Br.beqb (fun _ => ?_) (fun _ => ?_)
          | with_reducible refine Br.mk (fun _ => ?_) (fun _ => ?_)
          | with_reducible refine foundO.mk (fun _ _ => ?_) (fun _ => ?_)
          | with_reducible refine appV.zero ?_
          | with_reducible refine appV.own ?_
          | ((with_reducible refine NewB.mk fun nb hnb => ?_); have hnb1 := hnb.1.1; have hnb2 := hnb.1.2; try simp only [keys_cons, keys_app, keys_nil, NotIn_cons, NotIn_app, NotIn_nil, and_true] at hnb2)
          | ((with_reducible refine NewRow.mk fun nb nsp ncap hnb hncap => ?_); have hnb1 := hnb.1.1; have hnb2 := hnb.1.2; try simp only [keys_cons, keys_app, keys_nil, NotIn_cons, NotIn_app, NotIn_nil, and_true] at hnb2)
          | simp (dsimp := false) (implicitDefEqProofs := false) (disch := first | assumption | (simp only [List.mem_cons, List.mem_append, true_or, or_true, eq_self]; done) | omega | (with_reducible refine Row.adr (by assumption) ?_; simp only [List.length_map, List.length_take, List.length_drop]; omega) | (simp only [List.length_cons, List.length_nil, List.length_map, List.length_append, List.length_replicate, Nat.reduceAdd, true_and, and_true, and_self]; first | done | omega)) only [go_sem, ↓reduceIte, Nat.reduceEqDiff, Nat.reduceAdd, Nat.reduceSub, Nat.reduceMul, Nat.reduceBEq, Nat.reduceLT, Nat.reduceLeDiff, Nat.reduceMod, Nat.reducePow, List.reduceReplicate, UInt8.reduceOfNat, Int.reducePow, Int.reduceDiv, Int.reduceMod, Nat.reduceDiv, Int.reduceNeg, Int.reduceAdd, Int.reduceSub, Int.reduceMul, Int.reduceLE, Int.reduceLT, Int.reduceEq, Int.reduceToNat, reduceCtorEq, Row.obj hrow, List.getElem_map]
          | with_reducible refine name_t l[i] hsi ?_
          | with_reducible refine contains_t (l.take i) l[i] (by rw [List.length_take]; omega) hsub ?_
        · rename_i hct
          rw [boolOf_no fun h => (h.2 i hil).2 hct] at hR
          all_goals refine Upd.finL ?_ hR ?_
          any_goals (intro fsum; first | exact Nat.le_refl _ | (simp only [List.map_append, List.map_cons, List.map_nil, List.sum_append, List.sum_cons, List.sum_nil, List.cons_append, List.nil_append]; omega))
          rfl
        · rename_i hnm hct
          exact Upd.now ⟨n - 1, by omega, i + 1, by omega, fun j h hj => by
            by_cases e : j = i
            · subst e; exact ⟨hnm, hct⟩
            · exact hno j h (by omega), rfl, rfl, rfl⟩
        · rename_i hnm
          rw [boolOf_no fun h => by have := (h.2 i hil).1; rw [hnm] at this; cases this] at hR
          all_goals refine Upd.finL ?_ hR ?_
          any_goals (intro fsum; first | exact Nat.le_refl _ | (simp only [List.map_append, List.map_cons, List.map_nil, List.sum_append, List.sum_cons, List.sum_nil, List.cons_append, List.nil_append]; omega))
          rfl
      · obtain rfl : i = l.length := by omega
        rw [boolOf_yes ⟨h64, fun i h => hno i h h⟩] at hR
        repeat' first
          | with_reducible refine Br.yes ?_
          | with_reducible refine Br.no ?_
          | with_reducible refine Br.dec (fun _ => ?_) (fun _ => ?_)
          | with_reducible refine Br.beqB (fun _ => ?_) (fun _ => ?_)
          | with_reducible refine Br.beqb (fun _ => ?_) (fun _ => ?_)
          | with_reducible refine Br.mk (fun _ => ?_) (fun _ => ?_)
          | with_reducible refine foundO.mk (fun _ _ => ?_) (fun _ => ?_)
          | with_reducible refine appV.zero ?_
          | with_reducible refine appV.own ?_
          | ((with_reducible refine NewB.mk fun nb hnb => ?_); have hnb1 := hnb.1.1; have hnb2 := hnb.1.2; try simp only [keys_cons, keys_app, keys_nil, NotIn_cons, NotIn_app, NotIn_nil, and_true] at hnb2)
          | ((with_reducible refine NewRow.mk fun nb nsp ncap hnb hncap => ?_); have hnb1 := hnb.1.1; have hnb2 := hnb.1.2; try simp only [keys_cons, keys_app, keys_nil, NotIn_cons, NotIn_app, NotIn_nil, and_true] at hnb2)
          | simp (dsimp := false) (implicitDefEqProofs := false) (disch := first | assumption | (simp only [List.mem_cons, List.mem_append, true_or, or_true, eq_self]; done) | omega | (with_reducible refine Row.adr (by assumption) ?_; simp only [List.length_map, List.length_take, List.length_drop]; omega) | (simp only [List.length_cons, List.length_nil, List.length_map, List.length_append, List.length_replicate, Nat.reduceAdd, true_and, and_true, and_self]; first | done | omega)) only [go_sem, ↓reduceIte, Nat.reduceEqDiff, Nat.reduceAdd, Nat.reduceSub, Nat.reduceMul, Nat.reduceBEq, Nat.reduceLT, Nat.reduceLeDiff, Nat.reduceMod, Nat.reducePow, List.reduceReplicate, UInt8.reduceOfNat, Int.reducePow, Int.reduceDiv, Int.reduceMod, Nat.reduceDiv, Int.reduceNeg, Int.reduceAdd, Int.reduceSub, Int.reduceMul, Int.reduceLE, Int.reduceLT, Int.reduceEq, Int.reduceToNat, reduceCtorEq]
        all_goals refine Upd.finL ?_ hR ?_
        any_goals (intro fsum; first | exact Nat.le_refl _ | (simp only [List.map_append, List.map_cons, List.map_nil, List.sum_append, List.sum_cons, List.sum_nil, List.cons_append, List.nil_append]; omega))
        rfl
  · rw [boolOf_no fun h => h64 h.1] at hR
    refine FnT.body tok [0, 2, 3, 4, 7, 8, 9, 10, 11, 24] Try.func44 rfl (by kernel_rfl) (by kernel_rfl) (by show _ ≤ 26; simp) fun hsep => ?_
    rw [Try.results44]
    have hsE := hsep
    try simp only [keys_cons, keys_app, keys_nil, Sep_cons, Sep_nil, NotIn_cons, NotIn_app, NotIn_nil, List.cons_append, List.nil_append, List.append_assoc, and_assoc, and_true, true_and] at hsE
    repeat (obtain ⟨hsx, hsE⟩ := hsE)
    repeat' first
      | with_reducible refine Br.yes ?_
      | with_reducible refine Br.no ?_
      | with_reducible refine Br.dec (fun _ => ?_) (fun _ => ?_)
      | with_reducible refine Br.beqB (fun _ => ?_) (fun _ => ?_)
      | with_reducible refine Br.beqb (fun _ => ?_) (fun _ => ?_)
      | with_reducible refine Br.mk (fun _ => ?_) (fun _ => ?_)
      | with_reducible refine foundO.mk (fun _ _ => ?_) (fun _ => ?_)
      | with_reducible refine appV.zero ?_
      | with_reducible refine appV.own ?_
      | ((with_reducible refine NewB.mk fun nb hnb => ?_); have hnb1 := hnb.1.1; have hnb2 := hnb.1.2; try simp only [keys_cons, keys_app, keys_nil, NotIn_cons, NotIn_app, NotIn_nil, and_true] at hnb2)
      | ((with_reducible refine NewRow.mk fun nb nsp ncap hnb hncap => ?_); have hnb1 := hnb.1.1; have hnb2 := hnb.1.2; try simp only [keys_cons, keys_app, keys_nil, NotIn_cons, NotIn_app, NotIn_nil, and_true] at hnb2)
      | simp (dsimp := false) (implicitDefEqProofs := false) (disch := first | assumption | (simp only [List.mem_cons, List.mem_append, true_or, or_true, eq_self]; done) | omega | (with_reducible refine Row.adr (by assumption) ?_; simp only [List.length_map, List.length_take, List.length_drop]; omega) | (simp only [List.length_cons, List.length_nil, List.length_map, List.length_append, List.length_replicate, Nat.reduceAdd, true_and, and_true, and_self]; first | done | omega)) only [go_sem, ↓reduceIte, Nat.reduceEqDiff, Nat.reduceAdd, Nat.reduceSub, Nat.reduceMul, Nat.reduceBEq, Nat.reduceLT, Nat.reduceLeDiff, Nat.reduceMod, Nat.reducePow, List.reduceReplicate, UInt8.reduceOfNat, Int.reducePow, Int.reduceDiv, Int.reduceMod, Nat.reduceDiv, Int.reduceNeg, Int.reduceAdd, Int.reduceSub, Int.reduceMul, Int.reduceLE, Int.reduceLT, Int.reduceEq, Int.reduceToNat, reduceCtorEq]
    all_goals try (exfalso; omega)
    all_goals refine Upd.finL ?_ hR ?_
    any_goals (intro fsum; first | exact Nat.le_refl _ | (simp only [List.map_append, List.map_cons, List.map_nil, List.sum_append, List.sum_cons, List.sum_nil, List.cons_append, List.nil_append]; omega))
    rfl

structure DfaT where
  of : List Int
  width : Int
  next : List (List Int)
  label : List Int
  names : List (List UInt8)
/-- a list of lists of numbers -/
def SlS (G : PHeap) (v : Value) (xss : List (List Int)) : Prop := ∃ a cap vs, v = .slice a xss.length cap ∧ Row G a vs ∧ vs.length = xss.length ∧ xss.length ≤ cap ∧ ∀ i (h : i < xss.length) (h2 : i < vs.length), ∃ b c, vs[i] = .slice b xss[i].length c ∧ Row G b (xss[i].map (Value.int .i64)) ∧ xss[i].length ≤ c
theorem SlS.mono {G G' : PHeap} (hle : PLe G G') {v : Value} {xss : List (List Int)} (h : SlS G v xss) : SlS G' v xss := by
  obtain ⟨a, cap, vs, h1, h2, h3, h4, h5⟩ := h
  refine ⟨a, cap, vs, h1, h2.mono hle, h3, h4, fun i h h' => ?_⟩
  obtain ⟨b, c, e1, e2, e3⟩ := h5 i h h'
  exact ⟨b, c, e1, e2.mono hle, e3⟩
def cellsD (d : DfaT) (vn vl vs : Value) : List Value := u8L d.of ++ [.int .i64 d.width, vn, vl, vs]
/-- a machine, as a value -/
def IsD (G : PHeap) (d : DfaT) (v : Value) : Prop := d.of.length = 256 ∧ (∀ x ∈ d.of, 0 ≤ x ∧ x ≤ 255) ∧ ∃ vn vl vs, v = .agg (cellsD d vn vl vs).toArray ∧ SlS G vn d.next ∧ Sl G (Value.int .i64) vl d.label ∧ Sl G str vs d.names
theorem IsD.mono {G G' : PHeap} (hle : PLe G G') {d : DfaT} {v : Value} (h : IsD G d v) : IsD G' d v := by
  obtain ⟨h1, h2, vn, vl, vs, h3, h4, h5, h6⟩ := h
  exact ⟨h1, h2, vn, vl, vs, h3, h4.mono hle, h5.mono hle, h6.mono hle⟩
/-- no machine that a law is handed is greater -/
def SmallD (d : DfaT) : Prop := d.next.length ≤ 2000000 ∧ (∀ r ∈ d.next, r.length ≤ 2000000) ∧ d.label.length ≤ 2000000 ∧ d.names.length ≤ 2000000 ∧ ∀ s ∈ d.names, s.length ≤ 2000000
theorem cellsD_len {d : DfaT} (h : d.of.length = 256) (vn vl vs : Value) : (cellsD d vn vl vs).length = 260 := by unfold cellsD; rw [List.length_append, List.length_map, h]; rfl
theorem cellsD_w {d : DfaT} (h : d.of.length = 256) (vn vl vs : Value) : (cellsD d vn vl vs)[256]? = some (.int .i64 d.width) := by unfold cellsD; rw [List.getElem?_append_right (by rw [List.length_map, h]; omega), List.length_map, h]; rfl
theorem cellsD_n {d : DfaT} (h : d.of.length = 256) (vn vl vs : Value) : (cellsD d vn vl vs)[257]? = some vn := by unfold cellsD; rw [List.getElem?_append_right (by rw [List.length_map, h]; omega), List.length_map, h]; rfl
theorem cellsD_l {d : DfaT} (h : d.of.length = 256) (vn vl vs : Value) : (cellsD d vn vl vs)[258]? = some vl := by unfold cellsD; rw [List.getElem?_append_right (by rw [List.length_map, h]; omega), List.length_map, h]; rfl
theorem cellsD_s {d : DfaT} (h : d.of.length = 256) (vn vl vs : Value) : (cellsD d vn vl vs)[259]? = some vs := by unfold cellsD; rw [List.getElem?_append_right (by rw [List.length_map, h]; omega), List.length_map, h]; rfl
theorem cellsD_of {d : DfaT} (h : d.of.length = 256) (vn vl vs : Value) : (cellsD d vn vl vs).take 256 = u8L d.of := by unfold cellsD; rw [List.take_append_of_le_length (by rw [List.length_map, h]; omega), List.take_of_length_le (by rw [List.length_map, h]; omega)]
theorem cellsD_all {d : DfaT} (h : d.of.length = 256) (vn vl vs : Value) : (cellsD d vn vl vs).take 260 = cellsD d vn vl vs := List.take_of_length_le (by rw [cellsD_len h]; omega)
end Go.Proofs.Ytpagkndgjihbbaa
