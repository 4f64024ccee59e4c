/- Sets of bits: all numbers of another set, too. -/
import Derived.Test.YtagojpdkikcmpaaDoorFf
set_option linter.unusedSimpArgs false
set_option linter.unusedVariables false
namespace Go.Proofs.YtagojpdkikcmpaaDoor
open Go Go.V Go.Proofs

theorem neach1_t (lr bx : Nat) {G : PHeap} {HC : Heap} {R : Value → PHeap → Heap → Prop} (hR : R (.tuple #[]) G ((bx, .cells [.pointer none] [] 24) :: HC)) :
    FnT Tryd.prog 30 [.func (.yield lr) #[] #[], .pointer (some ⟨bx, 0, none⟩)] G ((bx, .cells [.pointer none] [] 24) :: HC) R := by
  refine FnT.body tok [0, 1, 3, 4, 6, 10, 11, 12, 13, 18, 30] Tryd.func30 rfl (by kernel_rfl) (by kernel_rfl) (by show _ ≤ 32; simp) fun hsep => ?_
  rw [Tryd.results30]
  have hsE := hsep
  try simp only [keys_cons, keys_app, keys_nil, Sep_cons, Sep_nil, NotIn_cons, NotIn_app, NotIn_nil, List.cons_append, List.nil_append, List.append_assoc, and_assoc, and_true, true_and] at hsE
  repeat (obtain ⟨hsx, hsE⟩ := hsE)
  repeat' first
    | with_reducible refine Br.yes ?_
    | with_reducible refine Br.no ?_
    | with_reducible refine Br.dec (fun _ => ?_) (fun _ => ?_)
    | with_reducible refine Br.beqB (fun _ => ?_) (fun _ => ?_)
    | with_reducible refine Br.beqb (fun _ => ?_) (fun _ => ?_)
    | with_reducible refine Br.mk (fun _ => ?_) (fun _ => ?_)
    | with_reducible refine foundO.mk (fun _ _ => ?_) (fun _ => ?_)
    | with_reducible refine appV.zero ?_
    | with_reducible refine appV.own ?_
    | ((with_reducible refine NewB.mk fun nb hnb => ?_); have hnb1 := hnb.1.1; have hnb2 := hnb.1.2; try simp only [keys_cons, keys_app, keys_nil, NotIn_cons, NotIn_app, NotIn_nil, and_true] at hnb2)
    | ((with_reducible refine NewRow.mk fun nb nsp ncap hnb hncap => ?_); have hnb1 := hnb.1.1; have hnb2 := hnb.1.2; try simp only [keys_cons, keys_app, keys_nil, NotIn_cons, NotIn_app, NotIn_nil, and_true] at hnb2)
    | simp (dsimp := false) (implicitDefEqProofs := false) (disch := first | assumption | (simp only [List.mem_cons, List.mem_append, true_or, or_true, eq_self]; done) | omega | (with_reducible refine Row.adr (by assumption) ?_; simp only [List.length_map, List.length_take, List.length_drop]; omega) | (simp only [List.length_cons, List.length_nil, List.length_map, List.length_append, List.length_replicate, Nat.reduceAdd, true_and, and_true, and_self]; first | done | omega)) only [go_sem, ↓reduceIte, Nat.reduceEqDiff, Nat.reduceAdd, Nat.reduceSub, Nat.reduceMul, Nat.reduceBEq, Nat.reduceLT, Nat.reduceLeDiff, Nat.reduceMod, Nat.reducePow, List.reduceReplicate, UInt8.reduceOfNat, Int.reducePow, Int.reduceDiv, Int.reduceMod, Nat.reduceDiv, Int.reduceNeg, Int.reduceAdd, Int.reduceSub, Int.reduceMul, Int.reduceLE, Int.reduceLT, Int.reduceEq, Int.reduceToNat, decide_true, decide_false, reduceCtorEq, ne_eq, not_false_eq_true, not_true_eq_false, and_true, true_and, and_self, or_true, true_or, or_false, false_or, or_self, eq_self, Option.isNone_some, Option.isNone_none, Nat.zero_add, Nat.add_zero, Nat.mul_one, Nat.one_mul, Nat.zero_mul, List.length_cons, List.length_nil, List.getElem?_cons_zero, List.getElem?_cons_succ, List.map_cons, List.map_nil, List.append_nil]
  all_goals refine Upd.finL ?_ hR ?_
  any_goals (intro fsum; first | exact Nat.le_refl _ | (simp only [List.map_append, List.map_cons, List.map_nil, List.sum_append, List.sum_cons, List.sum_nil, List.cons_append, List.nil_append]; omega))
  rfl
theorem ncount_t {G : PHeap} {H : Heap} {R : Value → PHeap → Heap → Prop} (hR : R (.int .i64 0) G H) : FnT Tryd.prog 13 [.pointer none] G H R := by
  refine FnT.body tok [0, 2, 3, 5, 6] Tryd.func13 rfl (by kernel_rfl) (by kernel_rfl) (by show _ ≤ 10; simp) fun hsep => ?_
  rw [Tryd.results13]
  have hsE := hsep
  try simp only [keys_cons, keys_app, keys_nil, Sep_cons, Sep_nil, NotIn_cons, NotIn_app, NotIn_nil, List.cons_append, List.nil_append, List.append_assoc, and_assoc, and_true, true_and] at hsE
  repeat (obtain ⟨hsx, hsE⟩ := hsE)
  repeat' first
    | with_reducible refine Br.yes ?_
    | with_reducible refine Br.no ?_
    | with_reducible refine Br.dec (fun _ => ?_) (fun _ => ?_)
    | with_reducible refine Br.beqB (fun _ => ?_) (fun _ => ?_)
    | with_reducible refine Br.beqb (fun _ => ?_) (fun _ => ?_)
    | with_reducible refine Br.mk (fun _ => ?_) (fun _ => ?_)
    | with_reducible refine foundO.mk (fun _ _ => ?_) (fun _ => ?_)
    | with_reducible refine appV.zero ?_
    | with_reducible refine appV.own ?_
    | ((with_reducible refine NewB.mk fun nb hnb => ?_); have hnb1 := hnb.1.1; have hnb2 := hnb.1.2; try simp only [keys_cons, keys_app, keys_nil, NotIn_cons, NotIn_app, NotIn_nil, and_true] at hnb2)
    | ((with_reducible refine NewRow.mk fun nb nsp ncap hnb hncap => ?_); have hnb1 := hnb.1.1; have hnb2 := hnb.1.2; try simp only [keys_cons, keys_app, keys_nil, NotIn_cons, NotIn_app, NotIn_nil, and_true] at hnb2)
    | simp (dsimp := false) (implicitDefEqProofs := false) (disch := first | assumption | (simp only [List.mem_cons, List.mem_append, true_or, or_true, eq_self]; done) | omega | (with_reducible refine Row.adr (by assumption) ?_; simp only [List.length_map, List.length_take, List.length_drop]; omega) | (simp only [List.length_cons, List.length_nil, List.length_map, List.length_append, List.length_replicate, Nat.reduceAdd, true_and, and_true, and_self]; first | done | omega)) only [go_sem, ↓reduceIte, Nat.reduceEqDiff, Nat.reduceAdd, Nat.reduceSub, Nat.reduceMul, Nat.reduceBEq, Nat.reduceLT, Nat.reduceLeDiff, Nat.reduceMod, Nat.reducePow, List.reduceReplicate, UInt8.reduceOfNat, Int.reducePow, Int.reduceDiv, Int.reduceMod, Nat.reduceDiv, Int.reduceNeg, Int.reduceAdd, Int.reduceSub, Int.reduceMul, Int.reduceLE, Int.reduceLT, Int.reduceEq, Int.reduceToNat, decide_true, decide_false, reduceCtorEq, ne_eq, not_false_eq_true, not_true_eq_false, and_true, true_and, and_self, or_true, true_or, or_false, false_or, or_self, eq_self, Option.isNone_some, Option.isNone_none, Nat.zero_add, Nat.add_zero, Nat.mul_one, Nat.one_mul, Nat.zero_mul, List.length_cons, List.length_nil, List.getElem?_cons_zero, List.getElem?_cons_succ, List.map_cons, List.map_nil, List.append_nil]
    | with_reducible refine each_t fun bx hbx => ?_
  refine Tri.rangeF2 tok [0, 2, 3, 5, 6] rfl callee30 (by kernel_rfl) fun lr Rr Rb hlr yl => ?_
  have hsE := hlr
  try simp only [keys_cons, keys_app, keys_nil, Sep_cons, Sep_nil, NotIn_cons, NotIn_app, NotIn_nil, List.cons_append, List.nil_append, List.append_assoc, and_assoc, and_true, true_and] at hsE
  repeat (obtain ⟨hsx, hsE⟩ := hsE)
  refine FnT.leave (H' := (bx, .cells [.pointer none] [] 24) :: (lr, Rr .normal) :: (nb, .cells [.int .i64 0] [] 3) :: H) (neach1_t lr bx ⟨.normal, ?_, ?_⟩) (by intro fsum; first | exact Nat.le_refl _ | (simp only [List.map_append, List.map_cons, List.map_nil, List.sum_append, List.sum_cons, List.sum_nil, List.cons_append, List.nil_append]; omega))
  · simp (dsimp := false) (implicitDefEqProofs := false) (disch := first | assumption | (simp only [List.mem_cons, List.mem_append, true_or, or_true, eq_self]; done) | omega | (with_reducible refine Row.adr (by assumption) ?_; simp only [List.length_map, List.length_take, List.length_drop]; omega) | (simp only [List.length_cons, List.length_nil, List.length_map, List.length_append, List.length_replicate, Nat.reduceAdd, true_and, and_true, and_self]; first | done | omega)) only [go_sem, ↓reduceIte, Nat.reduceEqDiff, Nat.reduceAdd, Nat.reduceSub, Nat.reduceMul, Nat.reduceBEq, Nat.reduceLT, Nat.reduceLeDiff, Nat.reduceMod, Nat.reducePow, List.reduceReplicate, UInt8.reduceOfNat, Int.reducePow, Int.reduceDiv, Int.reduceMod, Nat.reduceDiv, Int.reduceNeg, Int.reduceAdd, Int.reduceSub, Int.reduceMul, Int.reduceLE, Int.reduceLT, Int.reduceEq, Int.reduceToNat, decide_true, decide_false, reduceCtorEq, ne_eq, not_false_eq_true, not_true_eq_false, and_true, true_and, and_self, or_true, true_or, or_false, false_or, or_self, eq_self, Option.isNone_some, Option.isNone_none, Nat.zero_add, Nat.add_zero, Nat.mul_one, Nat.one_mul, Nat.zero_mul, List.length_cons, List.length_nil, List.getElem?_cons_zero, List.getElem?_cons_succ, List.map_cons, List.map_nil, List.append_nil]
  · repeat' first
      | with_reducible refine Br.yes ?_
      | with_reducible refine Br.no ?_
      | with_reducible refine Br.dec (fun _ => ?_) (fun _ => ?_)
      | with_reducible refine Br.beqB (fun _ => ?_) (fun _ => ?_)
      | with_reducible refine Br.beqb (fun _ => ?_) (fun _ => ?_)
      | with_reducible refine Br.mk (fun _ => ?_) (fun _ => ?_)
      | with_reducible refine foundO.mk (fun _ _ => ?_) (fun _ => ?_)
      | with_reducible refine appV.zero ?_
      | with_reducible refine appV.own ?_
      | ((with_reducible refine NewB.mk fun nb hnb => ?_); have hnb1 := hnb.1.1; have hnb2 := hnb.1.2; try simp only [keys_cons, keys_app, keys_nil, NotIn_cons, NotIn_app, NotIn_nil, and_true] at hnb2)
      | ((with_reducible refine NewRow.mk fun nb nsp ncap hnb hncap => ?_); have hnb1 := hnb.1.1; have hnb2 := hnb.1.2; try simp only [keys_cons, keys_app, keys_nil, NotIn_cons, NotIn_app, NotIn_nil, and_true] at hnb2)
      | simp (dsimp := false) (implicitDefEqProofs := false) (disch := first | assumption | (simp only [List.mem_cons, List.mem_append, true_or, or_true, eq_self]; done) | omega | (with_reducible refine Row.adr (by assumption) ?_; simp only [List.length_map, List.length_take, List.length_drop]; omega) | (simp only [List.length_cons, List.length_nil, List.length_map, List.length_append, List.length_replicate, Nat.reduceAdd, true_and, and_true, and_self]; first | done | omega)) only [go_sem, ↓reduceIte, Nat.reduceEqDiff, Nat.reduceAdd, Nat.reduceSub, Nat.reduceMul, Nat.reduceBEq, Nat.reduceLT, Nat.reduceLeDiff, Nat.reduceMod, Nat.reducePow, List.reduceReplicate, UInt8.reduceOfNat, Int.reducePow, Int.reduceDiv, Int.reduceMod, Nat.reduceDiv, Int.reduceNeg, Int.reduceAdd, Int.reduceSub, Int.reduceMul, Int.reduceLE, Int.reduceLT, Int.reduceEq, Int.reduceToNat, decide_true, decide_false, reduceCtorEq, ne_eq, not_false_eq_true, not_true_eq_false, and_true, true_and, and_self, or_true, true_or, or_false, false_or, or_self, eq_self, Option.isNone_some, Option.isNone_none, Nat.zero_add, Nat.add_zero, Nat.mul_one, Nat.one_mul, Nat.zero_mul, List.length_cons, List.length_nil, List.getElem?_cons_zero, List.getElem?_cons_succ, List.map_cons, List.map_nil, List.append_nil]
    all_goals refine Upd.finL ?_ hR ?_
    any_goals (intro fsum; first | exact Nat.le_refl _ | (simp only [List.map_append, List.map_cons, List.map_nil, List.sum_append, List.sum_cons, List.sum_nil, List.cons_append, List.nil_append]; omega))
    rfl
theorem nmeets_t (c : Option Addr) {G : PHeap} {H : Heap} {R : Value → PHeap → Heap → Prop} (hR : R (.bool false) G H) : FnT Tryd.prog 22 [.pointer none, .pointer c] G H R := by
  refine FnT.body tok [0, 1, 3, 4, 5, 7, 8, 11] Tryd.func22 rfl (by kernel_rfl) (by kernel_rfl) (by show _ ≤ 12; simp) fun hsep => ?_
  rw [Tryd.results22]
  have hsE := hsep
  try simp only [keys_cons, keys_app, keys_nil, Sep_cons, Sep_nil, NotIn_cons, NotIn_app, NotIn_nil, List.cons_append, List.nil_append, List.append_assoc, and_assoc, and_true, true_and] at hsE
  repeat (obtain ⟨hsx, hsE⟩ := hsE)
  repeat' first
    | with_reducible refine Br.yes ?_
    | with_reducible refine Br.no ?_
    | with_reducible refine Br.dec (fun _ => ?_) (fun _ => ?_)
    | with_reducible refine Br.beqB (fun _ => ?_) (fun _ => ?_)
    | with_reducible refine Br.beqb (fun _ => ?_) (fun _ => ?_)
    | with_reducible refine Br.mk (fun _ => ?_) (fun _ => ?_)
    | with_reducible refine foundO.mk (fun _ _ => ?_) (fun _ => ?_)
    | with_reducible refine appV.zero ?_
    | with_reducible refine appV.own ?_
    | ((with_reducible refine NewB.mk fun nb hnb => ?_); have hnb1 := hnb.1.1; have hnb2 := hnb.1.2; try simp only [keys_cons, keys_app, keys_nil, NotIn_cons, NotIn_app, NotIn_nil, and_true] at hnb2)
    | ((with_reducible refine NewRow.mk fun nb nsp ncap hnb hncap => ?_); have hnb1 := hnb.1.1; have hnb2 := hnb.1.2; try simp only [keys_cons, keys_app, keys_nil, NotIn_cons, NotIn_app, NotIn_nil, and_true] at hnb2)
    | simp (dsimp := false) (implicitDefEqProofs := false) (disch := first | assumption | (simp only [List.mem_cons, List.mem_append, true_or, or_true, eq_self]; done) | omega | (with_reducible refine Row.adr (by assumption) ?_; simp only [List.length_map, List.length_take, List.length_drop]; omega) | (simp only [List.length_cons, List.length_nil, List.length_map, List.length_append, List.length_replicate, Nat.reduceAdd, true_and, and_true, and_self]; first | done | omega)) only [go_sem, ↓reduceIte, Nat.reduceEqDiff, Nat.reduceAdd, Nat.reduceSub, Nat.reduceMul, Nat.reduceBEq, Nat.reduceLT, Nat.reduceLeDiff, Nat.reduceMod, Nat.reducePow, List.reduceReplicate, UInt8.reduceOfNat, Int.reducePow, Int.reduceDiv, Int.reduceMod, Nat.reduceDiv, Int.reduceNeg, Int.reduceAdd, Int.reduceSub, Int.reduceMul, Int.reduceLE, Int.reduceLT, Int.reduceEq, Int.reduceToNat, decide_true, decide_false, reduceCtorEq, ne_eq, not_false_eq_true, not_true_eq_false, and_true, true_and, and_self, or_true, true_or, or_false, false_or, or_self, eq_self, Option.isNone_some, Option.isNone_none, Nat.zero_add, Nat.add_zero, Nat.mul_one, Nat.one_mul, Nat.zero_mul, List.length_cons, List.length_nil, List.getElem?_cons_zero, List.getElem?_cons_succ, List.map_cons, List.map_nil, List.append_nil]
    | with_reducible refine each_t fun bx hbx => ?_
  rename_i bb hbb hbb1 hbb2
  refine Tri.rangeF2 tok [0, 1, 3, 4, 5, 7, 8, 11] rfl callee30 (by kernel_rfl) fun lr Rr Rb hlr yl => ?_
  have hsE := hlr
  try simp only [keys_cons, keys_app, keys_nil, Sep_cons, Sep_nil, NotIn_cons, NotIn_app, NotIn_nil, List.cons_append, List.nil_append, List.append_assoc, and_assoc, and_true, true_and] at hsE
  repeat (obtain ⟨hsx, hsE⟩ := hsE)
  refine FnT.leave (H' := (bx, .cells [.pointer none] [] 24) :: (lr, Rr .normal) :: (nb, .cells [.bool false] [] 4) :: (bb, .cells [.pointer c] [] 24) :: H) (neach1_t lr bx ⟨.normal, ?_, ?_⟩) (by intro fsum; first | exact Nat.le_refl _ | (simp only [List.map_append, List.map_cons, List.map_nil, List.sum_append, List.sum_cons, List.sum_nil, List.cons_append, List.nil_append]; omega))
  · simp (dsimp := false) (implicitDefEqProofs := false) (disch := first | assumption | (simp only [List.mem_cons, List.mem_append, true_or, or_true, eq_self]; done) | omega | (with_reducible refine Row.adr (by assumption) ?_; simp only [List.length_map, List.length_take, List.length_drop]; omega) | (simp only [List.length_cons, List.length_nil, List.length_map, List.length_append, List.length_replicate, Nat.reduceAdd, true_and, and_true, and_self]; first | done | omega)) only [go_sem, ↓reduceIte, Nat.reduceEqDiff, Nat.reduceAdd, Nat.reduceSub, Nat.reduceMul, Nat.reduceBEq, Nat.reduceLT, Nat.reduceLeDiff, Nat.reduceMod, Nat.reducePow, List.reduceReplicate, UInt8.reduceOfNat, Int.reducePow, Int.reduceDiv, Int.reduceMod, Nat.reduceDiv, Int.reduceNeg, Int.reduceAdd, Int.reduceSub, Int.reduceMul, Int.reduceLE, Int.reduceLT, Int.reduceEq, Int.reduceToNat, decide_true, decide_false, reduceCtorEq, ne_eq, not_false_eq_true, not_true_eq_false, and_true, true_and, and_self, or_true, true_or, or_false, false_or, or_self, eq_self, Option.isNone_some, Option.isNone_none, Nat.zero_add, Nat.add_zero, Nat.mul_one, Nat.one_mul, Nat.zero_mul, List.length_cons, List.length_nil, List.getElem?_cons_zero, List.getElem?_cons_succ, List.map_cons, List.map_nil, List.append_nil]
  · repeat' first
      | with_reducible refine Br.yes ?_
      | with_reducible refine Br.no ?_
      | with_reducible refine Br.dec (fun _ => ?_) (fun _ => ?_)
      | with_reducible refine Br.beqB (fun _ => ?_) (fun _ => ?_)
      | with_reducible refine Br.beqb (fun _ => ?_) (fun _ => ?_)
      | with_reducible refine Br.mk (fun _ => ?_) (fun _ => ?_)
      | with_reducible refine foundO.mk (fun _ _ => ?_) (fun _ => ?_)
      | with_reducible refine appV.zero ?_
      | with_reducible refine appV.own ?_
      | ((with_reducible refine NewB.mk fun nb hnb => ?_); have hnb1 := hnb.1.1; have hnb2 := hnb.1.2; try simp only [keys_cons, keys_app, keys_nil, NotIn_cons, NotIn_app, NotIn_nil, and_true] at hnb2)
      | ((with_reducible refine NewRow.mk fun nb nsp ncap hnb hncap => ?_); have hnb1 := hnb.1.1; have hnb2 := hnb.1.2; try simp only [keys_cons, keys_app, keys_nil, NotIn_cons, NotIn_app, NotIn_nil, and_true] at hnb2)
      | simp (dsimp := false) (implicitDefEqProofs := false) (disch := first | assumption | (simp only [List.mem_cons, List.mem_append, true_or, or_true, eq_self]; done) | omega | (with_reducible refine Row.adr (by assumption) ?_; simp only [List.length_map, List.length_take, List.length_drop]; omega) | (simp only [List.length_cons, List.length_nil, List.length_map, List.length_append, List.length_replicate, Nat.reduceAdd, true_and, and_true, and_self]; first | done | omega)) only [go_sem, ↓reduceIte, Nat.reduceEqDiff, Nat.reduceAdd, Nat.reduceSub, Nat.reduceMul, Nat.reduceBEq, Nat.reduceLT, Nat.reduceLeDiff, Nat.reduceMod, Nat.reducePow, List.reduceReplicate, UInt8.reduceOfNat, Int.reducePow, Int.reduceDiv, Int.reduceMod, Nat.reduceDiv, Int.reduceNeg, Int.reduceAdd, Int.reduceSub, Int.reduceMul, Int.reduceLE, Int.reduceLT, Int.reduceEq, Int.reduceToNat, decide_true, decide_false, reduceCtorEq, ne_eq, not_false_eq_true, not_true_eq_false, and_true, true_and, and_self, or_true, true_or, or_false, false_or, or_self, eq_self, Option.isNone_some, Option.isNone_none, Nat.zero_add, Nat.add_zero, Nat.mul_one, Nat.one_mul, Nat.zero_mul, List.length_cons, List.length_nil, List.getElem?_cons_zero, List.getElem?_cons_succ, List.map_cons, List.map_nil, List.append_nil]
    all_goals refine Upd.finL ?_ hR ?_
    any_goals (intro fsum; first | exact Nat.le_refl _ | (simp only [List.map_append, List.map_cons, List.map_nil, List.sum_append, List.sum_cons, List.sum_nil, List.cons_append, List.nil_append]; omega))
    rfl
theorem nappend_t (bx : Nat) {G : PHeap} {H : Heap} {R : Value → PHeap → Heap → Prop} (hR : R (.slice none 0 0) G H) :
    FnT Tryd.prog 29 [.slice none 0 0, .func (.func 30) #[] #[.pointer (some ⟨bx, 0, none⟩)]] G ((bx, .cells [.pointer none] [] 24) :: H) R := by
  refine FnT.body tok [0, 1, 2, 4, 5, 6, 7] Tryd.func29 rfl (by kernel_rfl) (by kernel_rfl) (by show _ ≤ 13; simp) fun hsep => ?_
  rw [Tryd.results29]
  have hsE := hsep
  try simp only [keys_cons, keys_app, keys_nil, Sep_cons, Sep_nil, NotIn_cons, NotIn_app, NotIn_nil, List.cons_append, List.nil_append, List.append_assoc, and_assoc, and_true, true_and] at hsE
  repeat (obtain ⟨hsx, hsE⟩ := hsE)
  repeat' first
    | with_reducible refine Br.yes ?_
    | with_reducible refine Br.no ?_
    | with_reducible refine Br.dec (fun _ => ?_) (fun _ => ?_)
    | with_reducible refine Br.beqB (fun _ => ?_) (fun _ => ?_)
    | with_reducible refine Br.beqb (fun _ => ?_) (fun _ => ?_)
    | with_reducible refine Br.mk (fun _ => ?_) (fun _ => ?_)
    | with_reducible refine foundO.mk (fun _ _ => ?_) (fun _ => ?_)
    | with_reducible refine appV.zero ?_
    | with_reducible refine appV.own ?_
    | ((with_reducible refine NewB.mk fun nb hnb => ?_); have hnb1 := hnb.1.1; have hnb2 := hnb.1.2; try simp only [keys_cons, keys_app, keys_nil, NotIn_cons, NotIn_app, NotIn_nil, and_true] at hnb2)
    | ((with_reducible refine NewRow.mk fun nb nsp ncap hnb hncap => ?_); have hnb1 := hnb.1.1; have hnb2 := hnb.1.2; try simp only [keys_cons, keys_app, keys_nil, NotIn_cons, NotIn_app, NotIn_nil, and_true] at hnb2)
    | simp (dsimp := false) (implicitDefEqProofs := false) (disch := first | assumption | (simp only [List.mem_cons, List.mem_append, true_or, or_true, eq_self]; done) | omega | (with_reducible refine Row.adr (by assumption) ?_; simp only [List.length_map, List.length_take, List.length_drop]; omega) | (simp only [List.length_cons, List.length_nil, List.length_map, List.length_append, List.length_replicate, Nat.reduceAdd, true_and, and_true, and_self]; first | done | omega)) only [go_sem, ↓reduceIte, Nat.reduceEqDiff, Nat.reduceAdd, Nat.reduceSub, Nat.reduceMul, Nat.reduceBEq, Nat.reduceLT, Nat.reduceLeDiff, Nat.reduceMod, Nat.reducePow, List.reduceReplicate, UInt8.reduceOfNat, Int.reducePow, Int.reduceDiv, Int.reduceMod, Nat.reduceDiv, Int.reduceNeg, Int.reduceAdd, Int.reduceSub, Int.reduceMul, Int.reduceLE, Int.reduceLT, Int.reduceEq, Int.reduceToNat, decide_true, decide_false, reduceCtorEq, ne_eq, not_false_eq_true, not_true_eq_false, and_true, true_and, and_self, or_true, true_or, or_false, false_or, or_self, eq_self, Option.isNone_some, Option.isNone_none, Nat.zero_add, Nat.add_zero, Nat.mul_one, Nat.one_mul, Nat.zero_mul, List.length_cons, List.length_nil, List.getElem?_cons_zero, List.getElem?_cons_succ, List.map_cons, List.map_nil, List.append_nil]
  refine Tri.rangeF2 tok [0, 1, 2, 4, 5, 6, 7] rfl callee30 (by kernel_rfl) fun lr Rr Rb hlr yl => ?_
  have hsE := hlr
  try simp only [keys_cons, keys_app, keys_nil, Sep_cons, Sep_nil, NotIn_cons, NotIn_app, NotIn_nil, List.cons_append, List.nil_append, List.append_assoc, and_assoc, and_true, true_and] at hsE
  repeat (obtain ⟨hsx, hsE⟩ := hsE)
  refine FnT.leave (H' := (bx, .cells [.pointer none] [] 24) :: (lr, Rr .normal) :: (nb, .cells [.slice none 0 0] [] 32) :: H) (neach1_t lr bx ⟨.normal, ?_, ?_⟩) (by intro fsum; first | exact Nat.le_refl _ | (simp only [List.map_append, List.map_cons, List.map_nil, List.sum_append, List.sum_cons, List.sum_nil, List.cons_append, List.nil_append]; omega))
  · simp (dsimp := false) (implicitDefEqProofs := false) (disch := first | assumption | (simp only [List.mem_cons, List.mem_append, true_or, or_true, eq_self]; done) | omega | (with_reducible refine Row.adr (by assumption) ?_; simp only [List.length_map, List.length_take, List.length_drop]; omega) | (simp only [List.length_cons, List.length_nil, List.length_map, List.length_append, List.length_replicate, Nat.reduceAdd, true_and, and_true, and_self]; first | done | omega)) only [go_sem, ↓reduceIte, Nat.reduceEqDiff, Nat.reduceAdd, Nat.reduceSub, Nat.reduceMul, Nat.reduceBEq, Nat.reduceLT, Nat.reduceLeDiff, Nat.reduceMod, Nat.reducePow, List.reduceReplicate, UInt8.reduceOfNat, Int.reducePow, Int.reduceDiv, Int.reduceMod, Nat.reduceDiv, Int.reduceNeg, Int.reduceAdd, Int.reduceSub, Int.reduceMul, Int.reduceLE, Int.reduceLT, Int.reduceEq, Int.reduceToNat, decide_true, decide_false, reduceCtorEq, ne_eq, not_false_eq_true, not_true_eq_false, and_true, true_and, and_self, or_true, true_or, or_false, false_or, or_self, eq_self, Option.isNone_some, Option.isNone_none, Nat.zero_add, Nat.add_zero, Nat.mul_one, Nat.one_mul, Nat.zero_mul, List.length_cons, List.length_nil, List.getElem?_cons_zero, List.getElem?_cons_succ, List.map_cons, List.map_nil, List.append_nil]
  · repeat' first
      | with_reducible refine Br.yes ?_
      | with_reducible refine Br.no ?_
      | with_reducible refine Br.dec (fun _ => ?_) (fun _ => ?_)
      | with_reducible refine Br.beqB (fun _ => ?_) (fun _ => ?_)
      | with_reducible refine Br.beqb (fun _ => ?_) (fun _ => ?_)
      | with_reducible refine Br.mk (fun _ => ?_) (fun _ => ?_)
      | with_reducible refine foundO.mk (fun _ _ => ?_) (fun _ => ?_)
      | with_reducible refine appV.zero ?_
      | with_reducible refine appV.own ?_
      | ((with_reducible refine NewB.mk fun nb hnb => ?_); have hnb1 := hnb.1.1; have hnb2 := hnb.1.2; try simp only [keys_cons, keys_app, keys_nil, NotIn_cons, NotIn_app, NotIn_nil, and_true] at hnb2)
      | ((with_reducible refine NewRow.mk fun nb nsp ncap hnb hncap => ?_); have hnb1 := hnb.1.1; have hnb2 := hnb.1.2; try simp only [keys_cons, keys_app, keys_nil, NotIn_cons, NotIn_app, NotIn_nil, and_true] at hnb2)
      | simp (dsimp := false) (implicitDefEqProofs := false) (disch := first | assumption | (simp only [List.mem_cons, List.mem_append, true_or, or_true, eq_self]; done) | omega | (with_reducible refine Row.adr (by assumption) ?_; simp only [List.length_map, List.length_take, List.length_drop]; omega) | (simp only [List.length_cons, List.length_nil, List.length_map, List.length_append, List.length_replicate, Nat.reduceAdd, true_and, and_true, and_self]; first | done | omega)) only [go_sem, ↓reduceIte, Nat.reduceEqDiff, Nat.reduceAdd, Nat.reduceSub, Nat.reduceMul, Nat.reduceBEq, Nat.reduceLT, Nat.reduceLeDiff, Nat.reduceMod, Nat.reducePow, List.reduceReplicate, UInt8.reduceOfNat, Int.reducePow, Int.reduceDiv, Int.reduceMod, Nat.reduceDiv, Int.reduceNeg, Int.reduceAdd, Int.reduceSub, Int.reduceMul, Int.reduceLE, Int.reduceLT, Int.reduceEq, Int.reduceToNat, decide_true, decide_false, reduceCtorEq, ne_eq, not_false_eq_true, not_true_eq_false, and_true, true_and, and_self, or_true, true_or, or_false, false_or, or_self, eq_self, Option.isNone_some, Option.isNone_none, Nat.zero_add, Nat.add_zero, Nat.mul_one, Nat.one_mul, Nat.zero_mul, List.length_cons, List.length_nil, List.getElem?_cons_zero, List.getElem?_cons_succ, List.map_cons, List.map_nil, List.append_nil]
    all_goals refine Upd.finL ?_ hR ?_
    any_goals (intro fsum; first | exact Nat.le_refl _ | (simp only [List.map_append, List.map_cons, List.map_nil, List.sum_append, List.sum_cons, List.sum_nil, List.cons_append, List.nil_append]; omega))
    rfl
theorem ncollect_t (bx : Nat) {G : PHeap} {H : Heap} {R : Value → PHeap → Heap → Prop} (hR : R (.slice none 0 0) G H) :
    FnT Tryd.prog 26 [.func (.func 30) #[] #[.pointer (some ⟨bx, 0, none⟩)]] G ((bx, .cells [.pointer none] [] 24) :: H) R := by
  refine FnT.body tok [0, 2] Tryd.func26 rfl (by kernel_rfl) (by kernel_rfl) (by show _ ≤ 5; simp) fun hsep => ?_
  rw [Tryd.results26]
  have hsE := hsep
  try simp only [keys_cons, keys_app, keys_nil, Sep_cons, Sep_nil, NotIn_cons, NotIn_app, NotIn_nil, List.cons_append, List.nil_append, List.append_assoc, and_assoc, and_true, true_and] at hsE
  repeat (obtain ⟨hsx, hsE⟩ := hsE)
  repeat' first
    | with_reducible refine Br.yes ?_
    | with_reducible refine Br.no ?_
    | with_reducible refine Br.dec (fun _ => ?_) (fun _ => ?_)
    | with_reducible refine Br.beqB (fun _ => ?_) (fun _ => ?_)
    | with_reducible refine Br.beqb (fun _ => ?_) (fun _ => ?_)
    | with_reducible refine Br.mk (fun _ => ?_) (fun _ => ?_)
    | with_reducible refine foundO.mk (fun _ _ => ?_) (fun _ => ?_)
    | with_reducible refine appV.zero ?_
    | with_reducible refine appV.own ?_
    | ((with_reducible refine NewB.mk fun nb hnb => ?_); have hnb1 := hnb.1.1; have hnb2 := hnb.1.2; try simp only [keys_cons, keys_app, keys_nil, NotIn_cons, NotIn_app, NotIn_nil, and_true] at hnb2)
    | ((with_reducible refine NewRow.mk fun nb nsp ncap hnb hncap => ?_); have hnb1 := hnb.1.1; have hnb2 := hnb.1.2; try simp only [keys_cons, keys_app, keys_nil, NotIn_cons, NotIn_app, NotIn_nil, and_true] at hnb2)
    | simp (dsimp := false) (implicitDefEqProofs := false) (disch := first | assumption | (simp only [List.mem_cons, List.mem_append, true_or, or_true, eq_self]; done) | omega | (with_reducible refine Row.adr (by assumption) ?_; simp only [List.length_map, List.length_take, List.length_drop]; omega) | (simp only [List.length_cons, List.length_nil, List.length_map, List.length_append, List.length_replicate, Nat.reduceAdd, true_and, and_true, and_self]; first | done | omega)) only [go_sem, ↓reduceIte, Nat.reduceEqDiff, Nat.reduceAdd, Nat.reduceSub, Nat.reduceMul, Nat.reduceBEq, Nat.reduceLT, Nat.reduceLeDiff, Nat.reduceMod, Nat.reducePow, List.reduceReplicate, UInt8.reduceOfNat, Int.reducePow, Int.reduceDiv, Int.reduceMod, Nat.reduceDiv, Int.reduceNeg, Int.reduceAdd, Int.reduceSub, Int.reduceMul, Int.reduceLE, Int.reduceLT, Int.reduceEq, Int.reduceToNat, decide_true, decide_false, reduceCtorEq, ne_eq, not_false_eq_true, not_true_eq_false, and_true, true_and, and_self, or_true, true_or, or_false, false_or, or_self, eq_self, Option.isNone_some, Option.isNone_none, Nat.zero_add, Nat.add_zero, Nat.mul_one, Nat.one_mul, Nat.zero_mul, List.length_cons, List.length_nil, List.getElem?_cons_zero, List.getElem?_cons_succ, List.map_cons, List.map_nil, List.append_nil]
    | with_reducible refine nappend_t bx ?_
  all_goals refine Upd.finL ?_ hR ?_
  any_goals (intro fsum; first | exact Nat.le_refl _ | (simp only [List.map_append, List.map_cons, List.map_nil, List.sum_append, List.sum_cons, List.sum_nil, List.cons_append, List.nil_append]; omega))
  rfl
theorem nall_t {G : PHeap} {H : Heap} {R : Value → PHeap → Heap → Prop} (hR : R (.slice none 0 0) G H) : FnT Tryd.prog 11 [.pointer none] G H R := by
  refine FnT.body tok [0, 2] Tryd.func11 rfl (by kernel_rfl) (by kernel_rfl) (by show _ ≤ 6; simp) fun hsep => ?_
  rw [Tryd.results11]
  have hsE := hsep
  try simp only [keys_cons, keys_app, keys_nil, Sep_cons, Sep_nil, NotIn_cons, NotIn_app, NotIn_nil, List.cons_append, List.nil_append, List.append_assoc, and_assoc, and_true, true_and] at hsE
  repeat (obtain ⟨hsx, hsE⟩ := hsE)
  repeat' first
    | with_reducible refine Br.yes ?_
    | with_reducible refine Br.no ?_
    | with_reducible refine Br.dec (fun _ => ?_) (fun _ => ?_)
    | with_reducible refine Br.beqB (fun _ => ?_) (fun _ => ?_)
    | with_reducible refine Br.beqb (fun _ => ?_) (fun _ => ?_)
    | with_reducible refine Br.mk (fun _ => ?_) (fun _ => ?_)
    | with_reducible refine foundO.mk (fun _ _ => ?_) (fun _ => ?_)
    | with_reducible refine appV.zero ?_
    | with_reducible refine appV.own ?_
    | ((with_reducible refine NewB.mk fun nb hnb => ?_); have hnb1 := hnb.1.1; have hnb2 := hnb.1.2; try simp only [keys_cons, keys_app, keys_nil, NotIn_cons, NotIn_app, NotIn_nil, and_true] at hnb2)
    | ((with_reducible refine NewRow.mk fun nb nsp ncap hnb hncap => ?_); have hnb1 := hnb.1.1; have hnb2 := hnb.1.2; try simp only [keys_cons, keys_app, keys_nil, NotIn_cons, NotIn_app, NotIn_nil, and_true] at hnb2)
    | simp (dsimp := false) (implicitDefEqProofs := false) (disch := first | assumption | (simp only [List.mem_cons, List.mem_append, true_or, or_true, eq_self]; done) | omega | (with_reducible refine Row.adr (by assumption) ?_; simp only [List.length_map, List.length_take, List.length_drop]; omega) | (simp only [List.length_cons, List.length_nil, List.length_map, List.length_append, List.length_replicate, Nat.reduceAdd, true_and, and_true, and_self]; first | done | omega)) only [go_sem, ↓reduceIte, Nat.reduceEqDiff, Nat.reduceAdd, Nat.reduceSub, Nat.reduceMul, Nat.reduceBEq, Nat.reduceLT, Nat.reduceLeDiff, Nat.reduceMod, Nat.reducePow, List.reduceReplicate, UInt8.reduceOfNat, Int.reducePow, Int.reduceDiv, Int.reduceMod, Nat.reduceDiv, Int.reduceNeg, Int.reduceAdd, Int.reduceSub, Int.reduceMul, Int.reduceLE, Int.reduceLT, Int.reduceEq, Int.reduceToNat, decide_true, decide_false, reduceCtorEq, ne_eq, not_false_eq_true, not_true_eq_false, and_true, true_and, and_self, or_true, true_or, or_false, false_or, or_self, eq_self, Option.isNone_some, Option.isNone_none, Nat.zero_add, Nat.add_zero, Nat.mul_one, Nat.one_mul, Nat.zero_mul, List.length_cons, List.length_nil, List.getElem?_cons_zero, List.getElem?_cons_succ, List.map_cons, List.map_nil, List.append_nil]
    | with_reducible refine each_t fun bx hbx => ?_
    | with_reducible refine ncollect_t bx ?_
  all_goals refine Upd.finL ?_ hR ?_
  any_goals (intro fsum; first | exact Nat.le_refl _ | (simp only [List.map_append, List.map_cons, List.map_nil, List.sum_append, List.sum_cons, List.sum_nil, List.cons_append, List.nil_append]; omega))
  rfl

theorem mem_elems {n : Nat} {ws : Nat → Nat} (hz : ∀ i, n ≤ i → mem ws i = false) (x : Nat) : decide (x ∈ elems n ws) = mem ws x := by
  unfold elems
  cases h : mem ws x with
  | true =>
    refine decide_eq_true (List.mem_filter.2 ⟨List.mem_range.2 ?_, h⟩)
    rcases Nat.lt_or_ge x n with h1 | h1
    · exact h1
    · rw [hz x h1] at h; cases h
  | false => exact decide_eq_false fun hm => by have := (List.mem_filter.1 hm).2; rw [h] at this; cases this
theorem elems_lt {n x : Nat} {ws : Nat → Nat} (h : x ∈ elems n ws) : x < n := List.mem_range.1 (List.mem_filter.1 h).1
theorem clr_zero {x y : Nat} (hx : x < 18446744073709551616) (hy : y < 18446744073709551616) : (clr x y != 0) = true ↔ ∃ j, j < 64 ∧ x.testBit j = true ∧ y.testBit j = false := by
  rw [bne_iff_ne]
  constructor
  · intro h
    obtain ⟨t, h1, _⟩ := low_bit (clr x y) (by omega)
    have ht := bit_lt (clr_lt x y) h1
    rw [clr_bit hx hy] at h1
    simp only [Bool.and_eq_true, Bool.not_eq_true'] at h1
    exact ⟨t, ht, h1.1, h1.2⟩
  · rintro ⟨j, _, h1, h2⟩ h
    have := clr_bit (j := j) hx hy
    rw [h, h1, h2, Nat.zero_testBit] at this
    cases this
def orUpto (ws vs : Nat → Nat) (k : Nat) : Nat → Nat := fun j => if j < k then ws j ||| vs j else ws j
theorem orUpto_step (ws vs : Nat → Nat) (k : Nat) : upd (orUpto ws vs k) k (ws k ||| vs k) = orUpto ws vs (k + 1) := by
  funext j
  unfold upd orUpto
  by_cases h : j = k
  · subst h; simp
  · rw [if_neg h]
    by_cases h2 : j < k
    · rw [if_pos h2, if_pos (by omega)]
    · rw [if_neg h2, if_neg (by omega)]
theorem orUpto_at (ws vs : Nat → Nat) (k : Nat) : orUpto ws vs k k = ws k := if_neg (Nat.lt_irrefl _)

set_option maxRecDepth 20000 in
set_option maxHeartbeats 8000000 in
theorem or_t {hb hc : Heap} {bs cs : Nat} {n m : Nat} {ws vs : Nat → Nat} (ht : TabB hb (.pointer (some ⟨bs, 0, none⟩)) n ws) (hu : TabB hc (.pointer (some ⟨cs, 0, none⟩)) m vs) {G : PHeap} {H : Heap} {R : Value → PHeap → Heap → Prop} (hg : HasTab G)
    (hR : ∀ hb' ws', TabB hb' (.pointer (some ⟨bs, 0, none⟩)) n ws' → keys hb' = keys hb → (∀ x, mem ws' x = (mem ws x || (mem vs x && decide (x < n)))) → R (.bool ((elems m vs).any fun x => decide (x < n) && !mem ws x)) G (hb' ++ (hc ++ H))) : FnT Tryd.prog 18 [.pointer (some ⟨bs, 0, none⟩), .pointer (some ⟨cs, 0, none⟩)] G (hb ++ (hc ++ H)) R := by
  have ht0 := ht
  have hu0 := hu
  obtain ⟨hn, hw, hz, bs', bw, cap, sp, e, rfl, hcp⟩ := ht
  cases e
  obtain ⟨hm, hv, hy, cs', cw, cap2, sp2, e, rfl, hcp2⟩ := hu
  cases e
  have hnw : nw n ≤ 16384 := by unfold nw; omega
  have hnm : nw m ≤ 16384 := by unfold nw; omega
  refine FnT.body tok [0, 1, 2, 4, 5, 6, 7, 8, 14, 19, 21, 22, 33, 34, 35, 36] Tryd.func18 rfl (by kernel_rfl) (by kernel_rfl) (by show _ ≤ 65; simp) fun hsep => ?_
  rw [Tryd.results18]
  have hsE := hsep
  try simp only [keys_cons, keys_app, keys_nil, Sep_cons, Sep_nil, NotIn_cons, NotIn_app, NotIn_nil, List.cons_append, List.nil_append, List.append_assoc, and_assoc, and_true, true_and] at hsE
  repeat (obtain ⟨hsx, hsE⟩ := hsE)
  repeat' first
    | with_reducible refine Br.yes ?_
    | with_reducible refine Br.no ?_
    | with_reducible refine Br.dec (fun _ => ?_) (fun _ => ?_)
    | with_reducible refine Br.beqB (fun _ => ?_) (fun _ => ?_)
    | with_reducible refine Br.beqb (fun _ => ?_) (fun _ => ?_)
    | with_reducible refine Br.mk (fun _ => ?_) (fun _ => ?_)
    | with_reducible refine foundO.mk (fun _ _ => ?_) (fun _ => ?_)
    | with_reducible refine appV.zero ?_
    | with_reducible refine appV.own ?_
    | ((with_reducible refine NewB.mk fun nb hnb => ?_); have hnb1 := hnb.1.1; have hnb2 := hnb.1.2; try simp only [keys_cons, keys_app, keys_nil, NotIn_cons, NotIn_app, NotIn_nil, and_true] at hnb2)
    | ((with_reducible refine NewRow.mk fun nb nsp ncap hnb hncap => ?_); have hnb1 := hnb.1.1; have hnb2 := hnb.1.2; try simp only [keys_cons, keys_app, keys_nil, NotIn_cons, NotIn_app, NotIn_nil, and_true] at hnb2)
    | with_reducible refine Tri.drawH tok mixed [0, 1, 2, 4, 5, 6, 7, 8, 14, 19, 21, 22, 33, 34, 35, 36] 4 [2] (.op 0 .plain (.op 2 .held (.op 1 .keeps (.op 3 .plain (.op 4 .plain .nil))))) (by kernel_rfl) [2] ?_
    | simp (dsimp := false) (implicitDefEqProofs := false) (disch := first | assumption | (simp only [List.mem_cons, List.mem_append, true_or, or_true, eq_self]; done) | omega | (with_reducible refine Row.adr (by assumption) ?_; simp only [List.length_map, List.length_take, List.length_drop]; omega) | (simp only [List.length_cons, List.length_nil, List.length_map, List.length_append, List.length_replicate, Nat.reduceAdd, true_and, and_true, and_self]; first | done | omega)) only [go_sem, ↓reduceIte, Nat.reduceEqDiff, Nat.reduceAdd, Nat.reduceSub, Nat.reduceMul, Nat.reduceBEq, Nat.reduceLT, Nat.reduceLeDiff, Nat.reduceMod, Nat.reducePow, List.reduceReplicate, UInt8.reduceOfNat, Int.reducePow, Int.reduceDiv, Int.reduceMod, Nat.reduceDiv, Int.reduceNeg, Int.reduceAdd, Int.reduceSub, Int.reduceMul, Int.reduceLE, Int.reduceLT, Int.reduceEq, Int.reduceToNat, decide_true, decide_false, reduceCtorEq, ne_eq, not_false_eq_true, not_true_eq_false, and_true, true_and, and_self, or_true, true_or, or_false, false_or, or_self, eq_self, Option.isNone_some, Option.isNone_none, Nat.zero_add, Nat.add_zero, Nat.mul_one, Nat.one_mul, Nat.zero_mul, List.length_cons, List.length_nil, List.getElem?_cons_zero, List.getElem?_cons_succ, List.map_cons, List.map_nil, List.append_nil]
  rename_i b2 hb20 hb21 hb22
  revert nb
  intro bo hbo hbo1 hbo2
  refine FnT.upd (FnT.leave (H' := (cs, .cells [.int .i64 m, .slice (some ⟨cw, 0, none⟩) (nw m) cap2] [] 53) :: (cw, .cells (numsU (nw m) vs) sp2 54) :: (bo, .cells [.bool false] [] 4) :: (b2, .cells [.pointer (some ⟨bs, 0, none⟩)] [] 24) :: (bs, .cells [.int .i64 n, .slice (some ⟨bw, 0, none⟩) (nw n) cap] [] 53) :: (bw, .cells (numsU (nw n) ws) sp 54) :: H) (room_t hu0 (H := (bo, .cells [.bool false] [] 4) :: (b2, .cells [.pointer (some ⟨bs, 0, none⟩)] [] 24) :: (bs, .cells [.int .i64 n, .slice (some ⟨bw, 0, none⟩) (nw n) cap] [] 53) :: (bw, .cells (numsU (nw n) ws) sp 54) :: H) (Upd.go (H' := (bo, .cells [.bool false] [] 4) :: (b2, .cells [.pointer (some ⟨bs, 0, none⟩)] [] 24) :: (bs, .cells [.int .i64 n, .slice (some ⟨bw, 0, none⟩) (nw n) cap] [] 53) :: (bw, .cells (numsU (nw n) ws) sp 54) :: (cs, .cells [.int .i64 m, .slice (some ⟨cw, 0, none⟩) (nw m) cap2] [] 53) :: (cw, .cells (numsU (nw m) vs) sp2 54) :: H) (by intro fsum; first | exact Nat.le_refl _ | (simp only [List.map_append, List.map_cons, List.map_nil, List.sum_append, List.sum_cons, List.sum_nil, List.cons_append, List.nil_append]; omega)) (Upd.now ?_))) (by intro fsum; first | exact Nat.le_refl _ | (simp only [List.map_append, List.map_cons, List.map_nil, List.sum_append, List.sum_cons, List.sum_nil, List.cons_append, List.nil_append]; omega)))
  repeat' first
    | with_reducible refine Br.yes ?_
    | with_reducible refine Br.no ?_
    | with_reducible refine Br.dec (fun _ => ?_) (fun _ => ?_)
    | with_reducible refine Br.beqB (fun _ => ?_) (fun _ => ?_)
    | with_reducible refine Br.beqb (fun _ => ?_) (fun _ => ?_)
    | with_reducible refine Br.mk (fun _ => ?_) (fun _ => ?_)
    | with_reducible refine foundO.mk (fun _ _ => ?_) (fun _ => ?_)
    | with_reducible refine appV.zero ?_
    | with_reducible refine appV.own ?_
    | ((with_reducible refine NewB.mk fun nb hnb => ?_); have hnb1 := hnb.1.1; have hnb2 := hnb.1.2; try simp only [keys_cons, keys_app, keys_nil, NotIn_cons, NotIn_app, NotIn_nil, and_true] at hnb2)
    | ((with_reducible refine NewRow.mk fun nb nsp ncap hnb hncap => ?_); have hnb1 := hnb.1.1; have hnb2 := hnb.1.2; try simp only [keys_cons, keys_app, keys_nil, NotIn_cons, NotIn_app, NotIn_nil, and_true] at hnb2)
    | with_reducible refine Tri.drawH tok mixed [0, 1, 2, 4, 5, 6, 7, 8, 14, 19, 21, 22, 33, 34, 35, 36] 4 [2] (.op 0 .plain (.op 2 .held (.op 1 .keeps (.op 3 .plain (.op 4 .plain .nil))))) (by kernel_rfl) [2] ?_
    | simp (dsimp := false) (implicitDefEqProofs := false) (disch := first | assumption | (simp only [List.mem_cons, List.mem_append, true_or, or_true, eq_self]; done) | omega | (with_reducible refine Row.adr (by assumption) ?_; simp only [List.length_map, List.length_take, List.length_drop]; omega) | (simp only [List.length_cons, List.length_nil, List.length_map, List.length_append, List.length_replicate, Nat.reduceAdd, true_and, and_true, and_self]; first | done | omega)) only [go_sem, ↓reduceIte, Nat.reduceEqDiff, Nat.reduceAdd, Nat.reduceSub, Nat.reduceMul, Nat.reduceBEq, Nat.reduceLT, Nat.reduceLeDiff, Nat.reduceMod, Nat.reducePow, List.reduceReplicate, UInt8.reduceOfNat, Int.reducePow, Int.reduceDiv, Int.reduceMod, Nat.reduceDiv, Int.reduceNeg, Int.reduceAdd, Int.reduceSub, Int.reduceMul, Int.reduceLE, Int.reduceLT, Int.reduceEq, Int.reduceToNat, decide_true, decide_false, reduceCtorEq, ne_eq, not_false_eq_true, not_true_eq_false, and_true, true_and, and_self, or_true, true_or, or_false, false_or, or_self, eq_self, Option.isNone_some, Option.isNone_none, Nat.zero_add, Nat.add_zero, Nat.mul_one, Nat.one_mul, Nat.zero_mul, List.length_cons, List.length_nil, List.getElem?_cons_zero, List.getElem?_cons_succ, List.map_cons, List.map_nil, List.append_nil]
  refine FnT.upd (FnT.leave (H' := (bs, .cells [.int .i64 n, .slice (some ⟨bw, 0, none⟩) (nw n) cap] [] 53) :: (bw, .cells (numsU (nw n) ws) sp 54) :: (bo, .cells [.bool false] [] 4) :: (b2, .cells [.pointer (some ⟨bs, 0, none⟩)] [] 24) :: (cs, .cells [.int .i64 m, .slice (some ⟨cw, 0, none⟩) (nw m) cap2] [] 53) :: (cw, .cells (numsU (nw m) vs) sp2 54) :: H) (room_t ht0 (H := (bo, .cells [.bool false] [] 4) :: (b2, .cells [.pointer (some ⟨bs, 0, none⟩)] [] 24) :: (cs, .cells [.int .i64 m, .slice (some ⟨cw, 0, none⟩) (nw m) cap2] [] 53) :: (cw, .cells (numsU (nw m) vs) sp2 54) :: H) (Upd.go (H' := (bo, .cells [.bool false] [] 4) :: (b2, .cells [.pointer (some ⟨bs, 0, none⟩)] [] 24) :: (bs, .cells [.int .i64 n, .slice (some ⟨bw, 0, none⟩) (nw n) cap] [] 53) :: (bw, .cells (numsU (nw n) ws) sp 54) :: (cs, .cells [.int .i64 m, .slice (some ⟨cw, 0, none⟩) (nw m) cap2] [] 53) :: (cw, .cells (numsU (nw m) vs) sp2 54) :: H) (by intro fsum; first | exact Nat.le_refl _ | (simp only [List.map_append, List.map_cons, List.map_nil, List.sum_append, List.sum_cons, List.sum_nil, List.cons_append, List.nil_append]; omega)) (Upd.now ?_))) (by intro fsum; first | exact Nat.le_refl _ | (simp only [List.map_append, List.map_cons, List.map_nil, List.sum_append, List.sum_cons, List.sum_nil, List.cons_append, List.nil_append]; omega)))
  repeat' first
    | with_reducible refine Br.yes ?_
    | with_reducible refine Br.no ?_
    | with_reducible refine Br.dec (fun _ => ?_) (fun _ => ?_)
    | with_reducible refine Br.beqB (fun _ => ?_) (fun _ => ?_)
    | with_reducible refine Br.beqb (fun _ => ?_) (fun _ => ?_)
    | with_reducible refine Br.mk (fun _ => ?_) (fun _ => ?_)
    | with_reducible refine foundO.mk (fun _ _ => ?_) (fun _ => ?_)
    | with_reducible refine appV.zero ?_
    | with_reducible refine appV.own ?_
    | ((with_reducible refine NewB.mk fun nb hnb => ?_); have hnb1 := hnb.1.1; have hnb2 := hnb.1.2; try simp only [keys_cons, keys_app, keys_nil, NotIn_cons, NotIn_app, NotIn_nil, and_true] at hnb2)
    | ((with_reducible refine NewRow.mk fun nb nsp ncap hnb hncap => ?_); have hnb1 := hnb.1.1; have hnb2 := hnb.1.2; try simp only [keys_cons, keys_app, keys_nil, NotIn_cons, NotIn_app, NotIn_nil, and_true] at hnb2)
    | with_reducible refine Tri.drawH tok mixed [0, 1, 2, 4, 5, 6, 7, 8, 14, 19, 21, 22, 33, 34, 35, 36] 4 [2] (.op 0 .plain (.op 2 .held (.op 1 .keeps (.op 3 .plain (.op 4 .plain .nil))))) (by kernel_rfl) [2] ?_
    | simp (dsimp := false) (implicitDefEqProofs := false) (disch := first | assumption | (simp only [List.mem_cons, List.mem_append, true_or, or_true, eq_self]; done) | omega | (with_reducible refine Row.adr (by assumption) ?_; simp only [List.length_map, List.length_take, List.length_drop]; omega) | (simp only [List.length_cons, List.length_nil, List.length_map, List.length_append, List.length_replicate, Nat.reduceAdd, true_and, and_true, and_self]; first | done | omega)) only [go_sem, ↓reduceIte, Nat.reduceEqDiff, Nat.reduceAdd, Nat.reduceSub, Nat.reduceMul, Nat.reduceBEq, Nat.reduceLT, Nat.reduceLeDiff, Nat.reduceMod, Nat.reducePow, List.reduceReplicate, UInt8.reduceOfNat, Int.reducePow, Int.reduceDiv, Int.reduceMod, Nat.reduceDiv, Int.reduceNeg, Int.reduceAdd, Int.reduceSub, Int.reduceMul, Int.reduceLE, Int.reduceLT, Int.reduceEq, Int.reduceToNat, decide_true, decide_false, reduceCtorEq, ne_eq, not_false_eq_true, not_true_eq_false, and_true, true_and, and_self, or_true, true_or, or_false, false_or, or_self, eq_self, Option.isNone_some, Option.isNone_none, Nat.zero_add, Nat.add_zero, Nat.mul_one, Nat.one_mul, Nat.zero_mul, List.length_cons, List.length_nil, List.getElem?_cons_zero, List.getElem?_cons_succ, List.map_cons, List.map_nil, List.append_nil]
    | with_reducible refine each_t fun bx hbx => ?_
  · rename_i hgt
    refine Tri.rangeF2 tok [0, 1, 2, 4, 5, 6, 7, 8, 14, 19, 21, 22, 33, 34, 35, 36] rfl callee30 (by kernel_rfl) fun lr Rr Rb hlr yl => ?_
    have hsE := hlr
    try simp only [keys_cons, keys_app, keys_nil, Sep_cons, Sep_nil, NotIn_cons, NotIn_app, NotIn_nil, List.cons_append, List.nil_append, List.append_assoc, and_assoc, and_true, true_and] at hsE
    repeat (obtain ⟨hsx, hsE⟩ := hsE)
    refine FnT.leave (H' := (bx, .cells [.pointer (some ⟨cs, 0, none⟩)] [] 24) :: ([(cs, .cells [.int .i64 m, .slice (some ⟨cw, 0, none⟩) (nw m) cap2] [] 53), (cw, .cells (numsU (nw m) vs) sp2 54)] ++ ((lr, Rr .normal) :: (bo, .cells [.bool false] [] 4) :: (b2, .cells [.pointer (some ⟨bs, 0, none⟩)] [] 24) :: ([(bs, .cells [.int .i64 n, .slice (some ⟨bw, 0, none⟩) (nw n) cap] [] 53), (bw, .cells (numsU (nw n) ws) sp 54)] ++ H)))) ?_ (by intro fsum; first | exact Nat.le_refl _ | (simp only [List.map_append, List.map_cons, List.map_nil, List.sum_append, List.sum_cons, List.sum_nil, List.cons_append, List.nil_append]; omega))
    refine each1_t lr bx hu0 hg (fun pre G' H' => G' = G ∧ ∃ hb1 ws1, TabB hb1 (.pointer (some ⟨bs, 0, none⟩)) n ws1 ∧ keys hb1 = [bs, bw] ∧ (∀ x, mem ws1 x = (mem ws x || (decide (x ∈ pre) && decide (x < n)))) ∧ H' = (lr, Rr .normal) :: (bo, .cells [.bool (pre.any fun x => decide (x < n) && !mem ws x)] [] 4) :: (b2, .cells [.pointer (some ⟨bs, 0, none⟩)] [] 24) :: (hb1 ++ H)) (fun _ _ _ => False) ?_ ⟨rfl, _, ws, ht0, rfl, fun x => by simp, rfl⟩ ?_
    · rintro x _ _ hle1 hs1 ⟨rfl, hb1, ws1, ht1, hk1, hm1, rfl⟩ hx hmx
      have hsE := hs1
      try simp only [keys_cons, keys_app, keys_nil, Sep_cons, Sep_nil, NotIn_cons, NotIn_app, NotIn_nil, List.cons_append, List.nil_append, List.append_assoc, and_assoc, and_true, true_and] at hsE
      repeat (obtain ⟨hsx, hsE⟩ := hsE)
      have hnin : mem ws1 x = mem ws x := by
        rw [hm1, decide_eq_false (fun h => Nat.lt_irrefl _ (elems_lt h))]; simp
      have hsn := any_snoc (fun x => decide (x < n) && !mem ws x) (elems x vs) x
      refine yl rfl ?_ ?_
      · simp (dsimp := false) (implicitDefEqProofs := false) (disch := first | assumption | (simp only [List.mem_cons, List.mem_append, true_or, or_true, eq_self]; done) | omega | (with_reducible refine Row.adr (by assumption) ?_; simp only [List.length_map, List.length_take, List.length_drop]; omega) | (simp only [List.length_cons, List.length_nil, List.length_map, List.length_append, List.length_replicate, Nat.reduceAdd, true_and, and_true, and_self]; first | done | omega)) only [go_sem, ↓reduceIte, Nat.reduceEqDiff, Nat.reduceAdd, Nat.reduceSub, Nat.reduceMul, Nat.reduceBEq, Nat.reduceLT, Nat.reduceLeDiff, Nat.reduceMod, Nat.reducePow, List.reduceReplicate, UInt8.reduceOfNat, Int.reducePow, Int.reduceDiv, Int.reduceMod, Nat.reduceDiv, Int.reduceNeg, Int.reduceAdd, Int.reduceSub, Int.reduceMul, Int.reduceLE, Int.reduceLT, Int.reduceEq, Int.reduceToNat, decide_true, decide_false, reduceCtorEq, ne_eq, not_false_eq_true, not_true_eq_false, and_true, true_and, and_self, or_true, true_or, or_false, false_or, or_self, eq_self, Option.isNone_some, Option.isNone_none, Nat.zero_add, Nat.add_zero, Nat.mul_one, Nat.one_mul, Nat.zero_mul, List.length_cons, List.length_nil, List.getElem?_cons_zero, List.getElem?_cons_succ, List.map_cons, List.map_nil, List.append_nil]
      · repeat' first
          | with_reducible refine Br.yes ?_
          | with_reducible refine Br.no ?_
          | with_reducible refine Br.dec (fun _ => ?_) (fun _ => ?_)
          | with_reducible refine Br.beqB (fun _ => ?_) (fun _ => ?_)
          | with_reducible refine Br.beqb (fun _ => ?_) (fun _ => ?_)
          | with_reducible refine Br.mk (fun _ => ?_) (fun _ => ?_)
          | with_reducible refine foundO.mk (fun _ _ => ?_) (fun _ => ?_)
          | with_reducible refine appV.zero ?_
          | with_reducible refine appV.own ?_
          | ((with_reducible refine NewB.mk fun nb hnb => ?_); have hnb1 := hnb.1.1; have hnb2 := hnb.1.2; try simp only [keys_cons, keys_app, keys_nil, NotIn_cons, NotIn_app, NotIn_nil, and_true] at hnb2)
          | ((with_reducible refine NewRow.mk fun nb nsp ncap hnb hncap => ?_); have hnb1 := hnb.1.1; have hnb2 := hnb.1.2; try simp only [keys_cons, keys_app, keys_nil, NotIn_cons, NotIn_app, NotIn_nil, and_true] at hnb2)
          | with_reducible refine Tri.drawH tok mixed [0, 1, 2, 4, 5, 6, 7, 8, 14, 19, 21, 22, 33, 34, 35, 36] 4 [2] (.op 0 .plain (.op 2 .held (.op 1 .keeps (.op 3 .plain (.op 4 .plain .nil))))) (by kernel_rfl) [2] ?_
          | simp (dsimp := false) (implicitDefEqProofs := false) (disch := first | assumption | (simp only [List.mem_cons, List.mem_append, true_or, or_true, eq_self]; done) | omega | (with_reducible refine Row.adr (by assumption) ?_; simp only [List.length_map, List.length_take, List.length_drop]; omega) | (simp only [List.length_cons, List.length_nil, List.length_map, List.length_append, List.length_replicate, Nat.reduceAdd, true_and, and_true, and_self]; first | done | omega)) only [go_sem, ↓reduceIte, Nat.reduceEqDiff, Nat.reduceAdd, Nat.reduceSub, Nat.reduceMul, Nat.reduceBEq, Nat.reduceLT, Nat.reduceLeDiff, Nat.reduceMod, Nat.reducePow, List.reduceReplicate, UInt8.reduceOfNat, Int.reducePow, Int.reduceDiv, Int.reduceMod, Nat.reduceDiv, Int.reduceNeg, Int.reduceAdd, Int.reduceSub, Int.reduceMul, Int.reduceLE, Int.reduceLT, Int.reduceEq, Int.reduceToNat, decide_true, decide_false, reduceCtorEq, ne_eq, not_false_eq_true, not_true_eq_false, and_true, true_and, and_self, or_true, true_or, or_false, false_or, or_self, eq_self, Option.isNone_some, Option.isNone_none, Nat.zero_add, Nat.add_zero, Nat.mul_one, Nat.one_mul, Nat.zero_mul, List.length_cons, List.length_nil, List.getElem?_cons_zero, List.getElem?_cons_succ, List.map_cons, List.map_nil, List.append_nil]
        refine FnT.upd (FnT.leave (H' := hb1 ++ ((bx, .cells [.pointer (some ⟨cs, 0, none⟩)] [] 24) :: (cs, .cells [.int .i64 m, .slice (some ⟨cw, 0, none⟩) (nw m) cap2] [] 53) :: (cw, .cells (numsU (nw m) vs) sp2 54) :: (lr, Rb) :: (bo, .cells [.bool ((elems x vs).any fun x => decide (x < n) && !mem ws x)] [] 4) :: (b2, .cells [.pointer (some ⟨bs, 0, none⟩)] [] 24) :: H)) (put_t (x : Nat) ht1 (fun hno => Upd.go (H' := (bx, .cells [.pointer (some ⟨cs, 0, none⟩)] [] 24) :: (cs, .cells [.int .i64 m, .slice (some ⟨cw, 0, none⟩) (nw m) cap2] [] 53) :: (cw, .cells (numsU (nw m) vs) sp2 54) :: (lr, Rb) :: (bo, .cells [.bool ((elems x vs).any fun x => decide (x < n) && !mem ws x)] [] 4) :: (b2, .cells [.pointer (some ⟨bs, 0, none⟩)] [] 24) :: (hb1 ++ H)) (by intro fsum; first | exact Nat.le_refl _ | (simp only [List.map_append, List.map_cons, List.map_nil, List.sum_append, List.sum_cons, List.sum_nil, List.cons_append, List.nil_append]; omega)) (Upd.now ?_)) (fun hb2 ws2 h0 h1 h2 ht2 hk2 hm2 => Upd.go (H' := (bx, .cells [.pointer (some ⟨cs, 0, none⟩)] [] 24) :: (cs, .cells [.int .i64 m, .slice (some ⟨cw, 0, none⟩) (nw m) cap2] [] 53) :: (cw, .cells (numsU (nw m) vs) sp2 54) :: (lr, Rb) :: (bo, .cells [.bool ((elems x vs).any fun x => decide (x < n) && !mem ws x)] [] 4) :: (b2, .cells [.pointer (some ⟨bs, 0, none⟩)] [] 24) :: (hb2 ++ H)) (by intro fsum; first | exact Nat.le_refl _ | (simp only [List.map_append, List.map_cons, List.map_nil, List.sum_append, List.sum_cons, List.sum_nil, List.cons_append, List.nil_append]; omega)) (Upd.now ?_))) (by intro fsum; first | exact Nat.le_refl _ | (simp only [List.map_append, List.map_cons, List.map_nil, List.sum_append, List.sum_cons, List.sum_nil, List.cons_append, List.nil_append]; omega)))
        · repeat' first
            | with_reducible refine Br.yes ?_
            | with_reducible refine Br.no ?_
            | with_reducible refine Br.dec (fun _ => ?_) (fun _ => ?_)
            | with_reducible refine Br.beqB (fun _ => ?_) (fun _ => ?_)
            | with_reducible refine Br.beqb (fun _ => ?_) (fun _ => ?_)
            | with_reducible refine Br.mk (fun _ => ?_) (fun _ => ?_)
            | with_reducible refine foundO.mk (fun _ _ => ?_) (fun _ => ?_)
            | with_reducible refine appV.zero ?_
            | with_reducible refine appV.own ?_
            | ((with_reducible refine NewB.mk fun nb hnb => ?_); have hnb1 := hnb.1.1; have hnb2 := hnb.1.2; try simp only [keys_cons, keys_app, keys_nil, NotIn_cons, NotIn_app, NotIn_nil, and_true] at hnb2)
            | ((with_reducible refine NewRow.mk fun nb nsp ncap hnb hncap => ?_); have hnb1 := hnb.1.1; have hnb2 := hnb.1.2; try simp only [keys_cons, keys_app, keys_nil, NotIn_cons, NotIn_app, NotIn_nil, and_true] at hnb2)
            | with_reducible refine Tri.drawH tok mixed [0, 1, 2, 4, 5, 6, 7, 8, 14, 19, 21, 22, 33, 34, 35, 36] 4 [2] (.op 0 .plain (.op 2 .held (.op 1 .keeps (.op 3 .plain (.op 4 .plain .nil))))) (by kernel_rfl) [2] ?_
            | simp (dsimp := false) (implicitDefEqProofs := false) (disch := first | assumption | (simp only [List.mem_cons, List.mem_append, true_or, or_true, eq_self]; done) | omega | (with_reducible refine Row.adr (by assumption) ?_; simp only [List.length_map, List.length_take, List.length_drop]; omega) | (simp only [List.length_cons, List.length_nil, List.length_map, List.length_append, List.length_replicate, Nat.reduceAdd, true_and, and_true, and_self]; first | done | omega)) only [go_sem, ↓reduceIte, Nat.reduceEqDiff, Nat.reduceAdd, Nat.reduceSub, Nat.reduceMul, Nat.reduceBEq, Nat.reduceLT, Nat.reduceLeDiff, Nat.reduceMod, Nat.reducePow, List.reduceReplicate, UInt8.reduceOfNat, Int.reducePow, Int.reduceDiv, Int.reduceMod, Nat.reduceDiv, Int.reduceNeg, Int.reduceAdd, Int.reduceSub, Int.reduceMul, Int.reduceLE, Int.reduceLT, Int.reduceEq, Int.reduceToNat, decide_true, decide_false, reduceCtorEq, ne_eq, not_false_eq_true, not_true_eq_false, and_true, true_and, and_self, or_true, true_or, or_false, false_or, or_self, eq_self, Option.isNone_some, Option.isNone_none, Nat.zero_add, Nat.add_zero, Nat.mul_one, Nat.one_mul, Nat.zero_mul, List.length_cons, List.length_nil, List.getElem?_cons_zero, List.getElem?_cons_succ, List.map_cons, List.map_nil, List.append_nil]
          have key : (decide (x < n) && !mem ws x) = false := by
            rcases hno with h | h | h
            · omega
            · rw [decide_eq_false (by omega)]; rfl
            · rw [Int.toNat_natCast, hnin] at h; rw [h]; simp
          refine ⟨_, rfl, .inl ⟨hb1, ws1, ht1, hk1, fun y => ?_, by rw [hsn, key, Bool.or_false]⟩⟩
          by_cases hyx : y = x
          · subst hyx
            rw [hnin]
            cases hmw : mem ws y with
            | true => rfl
            | false => rw [hmw] at key; simp at key; simp [key]
          · rw [hm1]
            congr 2
            rw [decide_eq_decide]; simp [hyx]
        · repeat' first
            | with_reducible refine Br.yes ?_
            | with_reducible refine Br.no ?_
            | with_reducible refine Br.dec (fun _ => ?_) (fun _ => ?_)
            | with_reducible refine Br.beqB (fun _ => ?_) (fun _ => ?_)
            | with_reducible refine Br.beqb (fun _ => ?_) (fun _ => ?_)
            | with_reducible refine Br.mk (fun _ => ?_) (fun _ => ?_)
            | with_reducible refine foundO.mk (fun _ _ => ?_) (fun _ => ?_)
            | with_reducible refine appV.zero ?_
            | with_reducible refine appV.own ?_
            | ((with_reducible refine NewB.mk fun nb hnb => ?_); have hnb1 := hnb.1.1; have hnb2 := hnb.1.2; try simp only [keys_cons, keys_app, keys_nil, NotIn_cons, NotIn_app, NotIn_nil, and_true] at hnb2)
            | ((with_reducible refine NewRow.mk fun nb nsp ncap hnb hncap => ?_); have hnb1 := hnb.1.1; have hnb2 := hnb.1.2; try simp only [keys_cons, keys_app, keys_nil, NotIn_cons, NotIn_app, NotIn_nil, and_true] at hnb2)
            | with_reducible refine Tri.drawH tok mixed [0, 1, 2, 4, 5, 6, 7, 8, 14, 19, 21, 22, 33, 34, 35, 36] 4 [2] (.op 0 .plain (.op 2 .held (.op 1 .keeps (.op 3 .plain (.op 4 .plain .nil))))) (by kernel_rfl) [2] ?_
            | simp (dsimp := false) (implicitDefEqProofs := false) (disch := first | assumption | (simp only [List.mem_cons, List.mem_append, true_or, or_true, eq_self]; done) | omega | (with_reducible refine Row.adr (by assumption) ?_; simp only [List.length_map, List.length_take, List.length_drop]; omega) | (simp only [List.length_cons, List.length_nil, List.length_map, List.length_append, List.length_replicate, Nat.reduceAdd, true_and, and_true, and_self]; first | done | omega)) only [go_sem, ↓reduceIte, Nat.reduceEqDiff, Nat.reduceAdd, Nat.reduceSub, Nat.reduceMul, Nat.reduceBEq, Nat.reduceLT, Nat.reduceLeDiff, Nat.reduceMod, Nat.reducePow, List.reduceReplicate, UInt8.reduceOfNat, Int.reducePow, Int.reduceDiv, Int.reduceMod, Nat.reduceDiv, Int.reduceNeg, Int.reduceAdd, Int.reduceSub, Int.reduceMul, Int.reduceLE, Int.reduceLT, Int.reduceEq, Int.reduceToNat, decide_true, decide_false, reduceCtorEq, ne_eq, not_false_eq_true, not_true_eq_false, and_true, true_and, and_self, or_true, true_or, or_false, false_or, or_self, eq_self, Option.isNone_some, Option.isNone_none, Nat.zero_add, Nat.add_zero, Nat.mul_one, Nat.one_mul, Nat.zero_mul, List.length_cons, List.length_nil, List.getElem?_cons_zero, List.getElem?_cons_succ, List.map_cons, List.map_nil, List.append_nil]
          rw [Int.toNat_natCast, hnin] at h2
          refine ⟨_, rfl, .inl ⟨hb2, ws2, ht2, hk2.trans hk1, fun y => ?_, by rw [hsn, h2, decide_eq_true (show x < n by omega)]; simp⟩⟩
          rw [hm2, Int.toNat_natCast]
          by_cases hyx : y = x
          · subst hyx
            rw [decide_eq_true (show y < n by omega)]; simp
          · rw [hm1, decide_eq_false hyx, Bool.or_false]
            congr 2
            rw [decide_eq_decide]; simp [hyx]
    · rintro _ _ hle1 hs1 (⟨rfl, hb1, ws1, ht1, hk1, hm1, rfl⟩ | ⟨_, h⟩)
      · have hsE := hs1
        try simp only [keys_cons, keys_app, keys_nil, Sep_cons, Sep_nil, NotIn_cons, NotIn_app, NotIn_nil, List.cons_append, List.nil_append, List.append_assoc, and_assoc, and_true, true_and] at hsE
        repeat (obtain ⟨hsx, hsE⟩ := hsE)
        refine ⟨.normal, ?_, ?_⟩
        · simp (dsimp := false) (implicitDefEqProofs := false) (disch := first | assumption | (simp only [List.mem_cons, List.mem_append, true_or, or_true, eq_self]; done) | omega | (with_reducible refine Row.adr (by assumption) ?_; simp only [List.length_map, List.length_take, List.length_drop]; omega) | (simp only [List.length_cons, List.length_nil, List.length_map, List.length_append, List.length_replicate, Nat.reduceAdd, true_and, and_true, and_self]; first | done | omega)) only [go_sem, ↓reduceIte, Nat.reduceEqDiff, Nat.reduceAdd, Nat.reduceSub, Nat.reduceMul, Nat.reduceBEq, Nat.reduceLT, Nat.reduceLeDiff, Nat.reduceMod, Nat.reducePow, List.reduceReplicate, UInt8.reduceOfNat, Int.reducePow, Int.reduceDiv, Int.reduceMod, Nat.reduceDiv, Int.reduceNeg, Int.reduceAdd, Int.reduceSub, Int.reduceMul, Int.reduceLE, Int.reduceLT, Int.reduceEq, Int.reduceToNat, decide_true, decide_false, reduceCtorEq, ne_eq, not_false_eq_true, not_true_eq_false, and_true, true_and, and_self, or_true, true_or, or_false, false_or, or_self, eq_self, Option.isNone_some, Option.isNone_none, Nat.zero_add, Nat.add_zero, Nat.mul_one, Nat.one_mul, Nat.zero_mul, List.length_cons, List.length_nil, List.getElem?_cons_zero, List.getElem?_cons_succ, List.map_cons, List.map_nil, List.append_nil]
        · repeat' first
            | with_reducible refine Br.yes ?_
            | with_reducible refine Br.no ?_
            | with_reducible refine Br.dec (fun _ => ?_) (fun _ => ?_)
            | with_reducible refine Br.beqB (fun _ => ?_) (fun _ => ?_)
            | with_reducible refine Br.beqb (fun _ => ?_) (fun _ => ?_)
            | with_reducible refine Br.mk (fun _ => ?_) (fun _ => ?_)
            | with_reducible refine foundO.mk (fun _ _ => ?_) (fun _ => ?_)
            | with_reducible refine appV.zero ?_
            | with_reducible refine appV.own ?_
            | ((with_reducible refine NewB.mk fun nb hnb => ?_); have hnb1 := hnb.1.1; have hnb2 := hnb.1.2; try simp only [keys_cons, keys_app, keys_nil, NotIn_cons, NotIn_app, NotIn_nil, and_true] at hnb2)
            | ((with_reducible refine NewRow.mk fun nb nsp ncap hnb hncap => ?_); have hnb1 := hnb.1.1; have hnb2 := hnb.1.2; try simp only [keys_cons, keys_app, keys_nil, NotIn_cons, NotIn_app, NotIn_nil, and_true] at hnb2)
            | with_reducible refine Tri.drawH tok mixed [0, 1, 2, 4, 5, 6, 7, 8, 14, 19, 21, 22, 33, 34, 35, 36] 4 [2] (.op 0 .plain (.op 2 .held (.op 1 .keeps (.op 3 .plain (.op 4 .plain .nil))))) (by kernel_rfl) [2] ?_
            | simp (dsimp := false) (implicitDefEqProofs := false) (disch := first | assumption | (simp only [List.mem_cons, List.mem_append, true_or, or_true, eq_self]; done) | omega | (with_reducible refine Row.adr (by assumption) ?_; simp only [List.length_map, List.length_take, List.length_drop]; omega) | (simp only [List.length_cons, List.length_nil, List.length_map, List.length_append, List.length_replicate, Nat.reduceAdd, true_and, and_true, and_self]; first | done | omega)) only [go_sem, ↓reduceIte, Nat.reduceEqDiff, Nat.reduceAdd, Nat.reduceSub, Nat.reduceMul, Nat.reduceBEq, Nat.reduceLT, Nat.reduceLeDiff, Nat.reduceMod, Nat.reducePow, List.reduceReplicate, UInt8.reduceOfNat, Int.reducePow, Int.reduceDiv, Int.reduceMod, Nat.reduceDiv, Int.reduceNeg, Int.reduceAdd, Int.reduceSub, Int.reduceMul, Int.reduceLE, Int.reduceLT, Int.reduceEq, Int.reduceToNat, decide_true, decide_false, reduceCtorEq, ne_eq, not_false_eq_true, not_true_eq_false, and_true, true_and, and_self, or_true, true_or, or_false, false_or, or_self, eq_self, Option.isNone_some, Option.isNone_none, Nat.zero_add, Nat.add_zero, Nat.mul_one, Nat.one_mul, Nat.zero_mul, List.length_cons, List.length_nil, List.getElem?_cons_zero, List.getElem?_cons_succ, List.map_cons, List.map_nil, List.append_nil]
          all_goals refine Upd.finL ?_ (hR hb1 ws1 ht1 hk1 fun x => by rw [hm1, mem_elems hy]) ?_
          any_goals (intro fsum; first | exact Nat.le_refl _ | (simp only [List.map_append, List.map_cons, List.map_nil, List.sum_append, List.sum_cons, List.sum_nil, List.cons_append, List.nil_append]; omega))
          rfl
      · exact h.elim
  · rename_i hgt
    have hmn : nw m ≤ nw n := by unfold nw; omega
    have hlm := numsU_len (nw m) vs
    refine Tri.loopU tok [0, 1, 2, 4, 5, 6, 7, 8, 14, 19, 21, 22, 33, 34, 35, 36] (by kernel_rfl) [0, 1, 2, 4, 5, 33, 34, 35] (fun q G' fr H' => ∃ k : Nat, k + q = nw m ∧ G' = G ∧ H' = (bo, .cells [.bool ((List.range k).any fun j => clr (vs j) (ws j) != 0)] [] 4) :: (b2, .cells [.pointer (some ⟨bs, 0, none⟩)] [] 24) :: (bs, .cells [.int .i64 n, .slice (some ⟨bw, 0, none⟩) (nw n) cap] [] 53) :: (bw, .cells (numsU (nw n) (orUpto ws vs k)) sp 54) :: (cs, .cells [.int .i64 m, .slice (some ⟨cw, 0, none⟩) (nw m) cap2] [] 53) :: (cw, .cells (numsU (nw m) vs) sp2 54) :: H ∧ fr = [(0, .pointer (some ⟨bs, 0, none⟩)), (1, .pointer (some ⟨cs, 0, none⟩)), (2, .pointer (some ⟨b2, 0, none⟩)), (4, .bool false), (5, .pointer (some ⟨bo, 0, none⟩)), (33, .slice (some ⟨cw, 0, none⟩) (nw m) cap2), (34, .int .i64 (nw m)), (35, .int .i64 k)]) ((nw m)) ?_ ?_
    · exact Upd.now ⟨0, by omega, rfl, rfl, rfl⟩
    · rintro q _ fr H' hle hs ⟨k, hk, rfl, rfl, rfl⟩
      have hsE := hs
      try simp only [keys_cons, keys_app, keys_nil, Sep_cons, Sep_nil, NotIn_cons, NotIn_app, NotIn_nil, List.cons_append, List.nil_append, List.append_assoc, and_assoc, and_true, true_and] at hsE
      repeat (obtain ⟨hsx, hsE⟩ := hsE)
      by_cases hkm : k < nw m
      · have hkn : k < nw n := by omega
        have hsn : (List.range (k + 1)).any (fun j => clr (vs j) (ws j) != 0) = ((List.range k).any (fun j => clr (vs j) (ws j) != 0) || (clr (vs k) (ws k) != 0)) := by
          rw [List.range_succ]; simp
        have hat := orUpto_at ws vs k
        have hst := orUpto_step ws vs k
        have hln := numsU_len (nw n) (orUpto ws vs k)
        cases hsb : (List.range k).any (fun j => clr (vs j) (ws j) != 0) with
        | true =>
          repeat' first
            | with_reducible refine Br.yes ?_
            | with_reducible refine Br.no ?_
            | with_reducible refine Br.dec (fun _ => ?_) (fun _ => ?_)
            | with_reducible refine Br.beqB (fun _ => ?_) (fun _ => ?_)
            | with_reducible refine Br.beqb (fun _ => ?_) (fun _ => ?_)
            | with_reducible refine Br.mk (fun _ => ?_) (fun _ => ?_)
            | with_reducible refine foundO.mk (fun _ _ => ?_) (fun _ => ?_)
            | with_reducible refine appV.zero ?_
            | with_reducible refine appV.own ?_
            | ((with_reducible refine NewB.mk fun nb hnb => ?_); have hnb1 := hnb.1.1; have hnb2 := hnb.1.2; try simp only [keys_cons, keys_app, keys_nil, NotIn_cons, NotIn_app, NotIn_nil, and_true] at hnb2)
            | ((with_reducible refine NewRow.mk fun nb nsp ncap hnb hncap => ?_); have hnb1 := hnb.1.1; have hnb2 := hnb.1.2; try simp only [keys_cons, keys_app, keys_nil, NotIn_cons, NotIn_app, NotIn_nil, and_true] at hnb2)
            | with_reducible refine Tri.drawH tok mixed [0, 1, 2, 4, 5, 6, 7, 8, 14, 19, 21, 22, 33, 34, 35, 36] 4 [2] (.op 0 .plain (.op 2 .held (.op 1 .keeps (.op 3 .plain (.op 4 .plain .nil))))) (by kernel_rfl) [2] ?_
            | simp (dsimp := false) (implicitDefEqProofs := false) (disch := first | assumption | (simp only [List.mem_cons, List.mem_append, true_or, or_true, eq_self]; done) | omega | (with_reducible refine Row.adr (by assumption) ?_; simp only [List.length_map, List.length_take, List.length_drop]; omega) | (simp only [List.length_cons, List.length_nil, List.length_map, List.length_append, List.length_replicate, Nat.reduceAdd, true_and, and_true, and_self]; first | done | omega)) only [go_sem, ↓reduceIte, Nat.reduceEqDiff, Nat.reduceAdd, Nat.reduceSub, Nat.reduceMul, Nat.reduceBEq, Nat.reduceLT, Nat.reduceLeDiff, Nat.reduceMod, Nat.reducePow, List.reduceReplicate, UInt8.reduceOfNat, Int.reducePow, Int.reduceDiv, Int.reduceMod, Nat.reduceDiv, Int.reduceNeg, Int.reduceAdd, Int.reduceSub, Int.reduceMul, Int.reduceLE, Int.reduceLT, Int.reduceEq, Int.reduceToNat, decide_true, decide_false, reduceCtorEq, ne_eq, not_false_eq_true, not_true_eq_false, and_true, true_and, and_self, or_true, true_or, or_false, false_or, or_self, eq_self, Option.isNone_some, Option.isNone_none, Nat.zero_add, Nat.add_zero, Nat.mul_one, Nat.one_mul, Nat.zero_mul, List.length_cons, List.length_nil, List.getElem?_cons_zero, List.getElem?_cons_succ, List.map_cons, List.map_nil, List.append_nil, numsU_get, hat, or_word (hw k) (hv k), numsU_putS, hst, hln, hlm]
          exact Upd.now ⟨q - 1, by omega, k + 1, by omega, rfl, by rw [hsn, hsb]; rfl, rfl⟩
        | false =>
          repeat' first
            | with_reducible refine Br.yes ?_
            | with_reducible refine Br.no ?_
            | with_reducible refine Br.dec (fun _ => ?_) (fun _ => ?_)
            | with_reducible refine Br.beqB (fun _ => ?_) (fun _ => ?_)
            | with_reducible refine Br.beqb (fun _ => ?_) (fun _ => ?_)
            | with_reducible refine Br.mk (fun _ => ?_) (fun _ => ?_)
            | with_reducible refine foundO.mk (fun _ _ => ?_) (fun _ => ?_)
            | with_reducible refine appV.zero ?_
            | with_reducible refine appV.own ?_
            | ((with_reducible refine NewB.mk fun nb hnb => ?_); have hnb1 := hnb.1.1; have hnb2 := hnb.1.2; try simp only [keys_cons, keys_app, keys_nil, NotIn_cons, NotIn_app, NotIn_nil, and_true] at hnb2)
            | ((with_reducible refine NewRow.mk fun nb nsp ncap hnb hncap => ?_); have hnb1 := hnb.1.1; have hnb2 := hnb.1.2; try simp only [keys_cons, keys_app, keys_nil, NotIn_cons, NotIn_app, NotIn_nil, and_true] at hnb2)
            | with_reducible refine Tri.drawH tok mixed [0, 1, 2, 4, 5, 6, 7, 8, 14, 19, 21, 22, 33, 34, 35, 36] 4 [2] (.op 0 .plain (.op 2 .held (.op 1 .keeps (.op 3 .plain (.op 4 .plain .nil))))) (by kernel_rfl) [2] ?_
            | simp (dsimp := false) (implicitDefEqProofs := false) (disch := first | assumption | (simp only [List.mem_cons, List.mem_append, true_or, or_true, eq_self]; done) | omega | (with_reducible refine Row.adr (by assumption) ?_; simp only [List.length_map, List.length_take, List.length_drop]; omega) | (simp only [List.length_cons, List.length_nil, List.length_map, List.length_append, List.length_replicate, Nat.reduceAdd, true_and, and_true, and_self]; first | done | omega)) only [go_sem, ↓reduceIte, Nat.reduceEqDiff, Nat.reduceAdd, Nat.reduceSub, Nat.reduceMul, Nat.reduceBEq, Nat.reduceLT, Nat.reduceLeDiff, Nat.reduceMod, Nat.reducePow, List.reduceReplicate, UInt8.reduceOfNat, Int.reducePow, Int.reduceDiv, Int.reduceMod, Nat.reduceDiv, Int.reduceNeg, Int.reduceAdd, Int.reduceSub, Int.reduceMul, Int.reduceLE, Int.reduceLT, Int.reduceEq, Int.reduceToNat, decide_true, decide_false, reduceCtorEq, ne_eq, not_false_eq_true, not_true_eq_false, and_true, true_and, and_self, or_true, true_or, or_false, false_or, or_self, eq_self, Option.isNone_some, Option.isNone_none, Nat.zero_add, Nat.add_zero, Nat.mul_one, Nat.one_mul, Nat.zero_mul, List.length_cons, List.length_nil, List.getElem?_cons_zero, List.getElem?_cons_succ, List.map_cons, List.map_nil, List.append_nil, numsU_get, hat, andNot_u64 (hv k) (hw k), or_word (hw k) (hv k), numsU_putS, hst, hln, hlm]
          have hdec : (clr (vs k) (ws k) != 0) = !decide (((clr (vs k) (ws k) : Nat) : Int) = 0) := by
            generalize clr (vs k) (ws k) = z
            rw [Bool.eq_iff_iff]; simp
          exact Upd.now ⟨q - 1, by omega, k + 1, by omega, rfl, by rw [hsn, hsb, hdec]; rfl, rfl⟩
      · obtain rfl : k = nw m := by omega
        have hws' : ∀ j, orUpto ws vs (nw m) j < 18446744073709551616 := fun j => by
          unfold orUpto; split
          · exact Nat.or_lt_two_pow (n := 64) (hw j) (hv j)
          · exact hw j
        have hmem : ∀ x, mem (orUpto ws vs (nw m)) x = (mem ws x || (mem vs x && decide (x < n))) := fun x => by
          have e1 : mem (orUpto ws vs (nw m)) x = (mem ws x || mem vs x) := by
            unfold mem orUpto
            split
            · rw [Nat.testBit_or]
            · rename_i hx
              have : mem vs x = false := hy x (by unfold nw at hx; omega)
              unfold mem at this
              rw [this, Bool.or_false]
          rw [e1]
          cases hvx : mem vs x with
          | false => rfl
          | true =>
            have : x < m := by
              rcases Nat.lt_or_ge x m with h | h
              · exact h
              · rw [hy x h] at hvx; cases hvx
            rw [decide_eq_true (show x < n by omega)]; rfl
        have hany : ((List.range (nw m)).any fun j => clr (vs j) (ws j) != 0) = ((elems m vs).any fun x => decide (x < n) && !mem ws x) := by
          rw [Bool.eq_iff_iff, List.any_eq_true, List.any_eq_true]
          constructor
          · rintro ⟨j, hj, h⟩
            obtain ⟨i, hi, h1, h2⟩ := (clr_zero (hv j) (hw j)).1 h
            have hmv : mem vs (j * 64 + i) = true := by rw [mem_at _ _ _ hi]; exact h1
            have hmw : mem ws (j * 64 + i) = false := by rw [mem_at _ _ _ hi]; exact h2
            have hlt : j * 64 + i < m := by
              rcases Nat.lt_or_ge (j * 64 + i) m with h | h
              · exact h
              · rw [hy _ h] at hmv; cases hmv
            exact ⟨j * 64 + i, List.mem_filter.2 ⟨List.mem_range.2 hlt, hmv⟩, by rw [hmw, decide_eq_true (show j * 64 + i < n by omega)]; rfl⟩
          · rintro ⟨x, hx, h⟩
            have hxm := elems_lt hx
            have hmv := (List.mem_filter.1 hx).2
            simp only [Bool.and_eq_true, decide_eq_true_eq, Bool.not_eq_true'] at h
            exact ⟨x / 64, List.mem_range.2 (by unfold nw; omega), (clr_zero (hv _) (hw _)).2 ⟨x % 64, by omega, hmv, h.2⟩⟩
        rw [← hany] at hR
        repeat' first
          | with_reducible refine Br.yes ?_
          | with_reducible refine Br.no ?_
          | with_reducible refine Br.dec (fun _ => ?_) (fun _ => ?_)
          | with_reducible refine Br.beqB (fun _ => ?_) (fun _ => ?_)
          | with_reducible refine Br.beqb (fun _ => ?_) (fun _ => ?_)
          | with_reducible refine Br.mk (fun _ => ?_) (fun _ => ?_)
          | with_reducible refine foundO.mk (fun _ _ => ?_) (fun _ => ?_)
          | with_reducible refine appV.zero ?_
          | with_reducible refine appV.own ?_
          | ((with_reducible refine NewB.mk fun nb hnb => ?_); have hnb1 := hnb.1.1; have hnb2 := hnb.1.2; try simp only [keys_cons, keys_app, keys_nil, NotIn_cons, NotIn_app, NotIn_nil, and_true] at hnb2)
          | ((with_reducible refine NewRow.mk fun nb nsp ncap hnb hncap => ?_); have hnb1 := hnb.1.1; have hnb2 := hnb.1.2; try simp only [keys_cons, keys_app, keys_nil, NotIn_cons, NotIn_app, NotIn_nil, and_true] at hnb2)
          | with_reducible refine Tri.drawH tok mixed [0, 1, 2, 4, 5, 6, 7, 8, 14, 19, 21, 22, 33, 34, 35, 36] 4 [2] (.op 0 .plain (.op 2 .held (.op 1 .keeps (.op 3 .plain (.op 4 .plain .nil))))) (by kernel_rfl) [2] ?_
          | simp (dsimp := false) (implicitDefEqProofs := false) (disch := first | assumption | (simp only [List.mem_cons, List.mem_append, true_or, or_true, eq_self]; done) | omega | (with_reducible refine Row.adr (by assumption) ?_; simp only [List.length_map, List.length_take, List.length_drop]; omega) | (simp only [List.length_cons, List.length_nil, List.length_map, List.length_append, List.length_replicate, Nat.reduceAdd, true_and, and_true, and_self]; first | done | omega)) only [go_sem, ↓reduceIte, Nat.reduceEqDiff, Nat.reduceAdd, Nat.reduceSub, Nat.reduceMul, Nat.reduceBEq, Nat.reduceLT, Nat.reduceLeDiff, Nat.reduceMod, Nat.reducePow, List.reduceReplicate, UInt8.reduceOfNat, Int.reducePow, Int.reduceDiv, Int.reduceMod, Nat.reduceDiv, Int.reduceNeg, Int.reduceAdd, Int.reduceSub, Int.reduceMul, Int.reduceLE, Int.reduceLT, Int.reduceEq, Int.reduceToNat, decide_true, decide_false, reduceCtorEq, ne_eq, not_false_eq_true, not_true_eq_false, and_true, true_and, and_self, or_true, true_or, or_false, false_or, or_self, eq_self, Option.isNone_some, Option.isNone_none, Nat.zero_add, Nat.add_zero, Nat.mul_one, Nat.one_mul, Nat.zero_mul, List.length_cons, List.length_nil, List.getElem?_cons_zero, List.getElem?_cons_succ, List.map_cons, List.map_nil, List.append_nil]
        all_goals refine Upd.finL ?_ (hR [_, _] _ ⟨hn, hws', fun i hi => by rw [hmem, hz i hi, decide_eq_false (show ¬ i < n by omega)]; simp, bs, bw, cap, sp, rfl, rfl, hcp⟩ rfl hmem) ?_
        any_goals (intro fsum; first | exact Nat.le_refl _ | (simp only [List.map_append, List.map_cons, List.map_nil, List.sum_append, List.sum_cons, List.sum_nil, List.cons_append, List.nil_append]; omega))
        rfl
end Go.Proofs.YtagojpdkikcmpaaDoor
