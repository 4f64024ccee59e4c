/- Law 20: DfaAsks' walk. -/
import Derived.Test.YtlblohmjikopbaaFa
import Derived.Test.YtlblohmjikopbaaUf
set_option linter.unusedSimpArgs false
set_option linter.unusedVariables false
namespace Go.Proofs.Ytlblohmjikopbaa
open Go Go.V Go.Proofs

set_option maxHeartbeats 32000000 in
theorem asks_t {d e : DfaT} (hsm : SmallD d) {G : PHeap} {H : Heap} {R : Value → PHeap → Heap → Prop} {v w : Value} (hv : IsD G d v) (hw : IsD G e w)
    (hR : ∀ G', PLe G G' → R (.bool true) G' H) : FnT Try.prog 5 [v, w] G H R := by
  obtain ⟨C, an, al, ay, cn, cl, cs, rs, rfl, O⟩ := hv.opened
  obtain ⟨C', an', al', ay', cn', cl', cs', rs', rfl, O'⟩ := hw.opened
  have hCl := O.len
  have hCa := O.all
  have hDl := O'.len
  have hDa := O'.all
  refine FnT.body tok [0, 1, 2, 3, 4] Try.func5 rfl (by kernel_rfl) (by kernel_rfl) (by show _ ≤ 27; simp) fun hsep => ?_
  rw [Try.results5]
  have hsE := hsep
  try simp only [keys_cons, keys_app, keys_nil, Sep_cons, Sep_nil, NotIn_cons, NotIn_app, NotIn_nil, List.cons_append, List.nil_append, List.append_assoc, and_assoc, and_true, true_and] at hsE
  repeat (obtain ⟨hsx, hsE⟩ := hsE)
  repeat' first
    | with_reducible refine Br.yes ?_
    | with_reducible refine Br.no ?_
    | with_reducible refine Br.dec (fun _ => ?_) (fun _ => ?_)
    | with_reducible refine Br.beqB (fun _ => ?_) (fun _ => ?_)
    | with_reducible refine Br.beqb (fun _ => ?_) (fun _ => ?_)
    | with_reducible refine Br.mk (fun _ => ?_) (fun _ => ?_)
    | with_reducible refine foundO.mk (fun _ _ => ?_) (fun _ => ?_)
    | with_reducible refine appV.zero ?_
    | with_reducible refine appV.own ?_
    | ((with_reducible refine NewB.mk fun nb hnb => ?_); have hnb1 := hnb.1.1; have hnb2 := hnb.1.2; try simp only [keys_cons, keys_app, keys_nil, NotIn_cons, NotIn_app, NotIn_nil, and_true] at hnb2)
    | ((with_reducible refine NewRow.mk fun nb nsp ncap hnb hncap => ?_); have hnb1 := hnb.1.1; have hnb2 := hnb.1.2; try simp only [keys_cons, keys_app, keys_nil, NotIn_cons, NotIn_app, NotIn_nil, and_true] at hnb2)
    | simp (dsimp := false) (implicitDefEqProofs := false) (disch := first | assumption | (simp only [List.mem_cons, List.mem_append, true_or, or_true, eq_self]; done) | omega | (with_reducible refine Row.adr (by assumption) ?_; simp only [List.length_map, List.length_take, List.length_drop]; omega) | (simp only [List.length_cons, List.length_nil, List.length_map, List.length_append, List.length_replicate, Nat.reduceAdd, true_and, and_true, and_self]; first | done | omega)) only [go_sem, ↓reduceIte, Nat.reduceEqDiff, Nat.reduceAdd, Nat.reduceSub, Nat.reduceMul, Nat.reduceBEq, Nat.reduceLT, Nat.reduceLeDiff, Nat.reduceMod, Nat.reducePow, List.reduceReplicate, UInt8.reduceOfNat, Int.reducePow, Int.reduceDiv, Int.reduceMod, Nat.reduceDiv, Int.reduceNeg, Int.reduceAdd, Int.reduceSub, Int.reduceMul, Int.reduceLE, Int.reduceLT, Int.reduceEq, Int.reduceToNat, decide_true, decide_false, reduceCtorEq, ne_eq, not_false_eq_true, not_true_eq_false, and_true, true_and, and_self, or_true, true_or, or_false, false_or, or_self, eq_self, Option.isNone_some, Option.isNone_none, Nat.zero_add, Nat.add_zero, Nat.mul_one, Nat.one_mul, Nat.zero_mul, List.length_cons, List.length_nil, List.getElem?_cons_zero, List.getElem?_cons_succ, List.map_cons, List.map_nil, List.append_nil, -List.reduceReplicate, List.toList_toArray, hCl, hCa, hDl, hDa]
    | with_reducible refine Tri.drawH tok mixed [0, 1, 2, 3, 4] 1 [0, 2, 6, 7, 9, 10, 15, 16] (.op 0 .held (.op 2 .held (.op 1 .keeps (.op 3 .keeps (.op 4 .plain (.op 5 .plain (.op 6 .held (.op 7 .held (.op 9 .held (.op 10 .held (.op 8 .keeps (.op 11 .keeps (.op 12 .plain (.op 13 .plain (.op 14 .plain (.op 15 .held (.op 16 .held (.op 17 .keeps (.op 18 .plain (.op 19 .plain (.op 20 .keeps (.op 21 .plain (.op 22 .plain .nil))))))))))))))))))))))) (by kernel_rfl) [2, 3] ?_
  refine right_t hsm O.is ?_
  repeat' first
    | with_reducible refine Br.yes ?_
    | with_reducible refine Br.no ?_
    | with_reducible refine Br.dec (fun _ => ?_) (fun _ => ?_)
    | with_reducible refine Br.beqB (fun _ => ?_) (fun _ => ?_)
    | with_reducible refine Br.beqb (fun _ => ?_) (fun _ => ?_)
    | with_reducible refine Br.mk (fun _ => ?_) (fun _ => ?_)
    | with_reducible refine foundO.mk (fun _ _ => ?_) (fun _ => ?_)
    | with_reducible refine appV.zero ?_
    | with_reducible refine appV.own ?_
    | ((with_reducible refine NewB.mk fun nb hnb => ?_); have hnb1 := hnb.1.1; have hnb2 := hnb.1.2; try simp only [keys_cons, keys_app, keys_nil, NotIn_cons, NotIn_app, NotIn_nil, and_true] at hnb2)
    | ((with_reducible refine NewRow.mk fun nb nsp ncap hnb hncap => ?_); have hnb1 := hnb.1.1; have hnb2 := hnb.1.2; try simp only [keys_cons, keys_app, keys_nil, NotIn_cons, NotIn_app, NotIn_nil, and_true] at hnb2)
    | simp (dsimp := false) (implicitDefEqProofs := false) (disch := first | assumption | (simp only [List.mem_cons, List.mem_append, true_or, or_true, eq_self]; done) | omega | (with_reducible refine Row.adr (by assumption) ?_; simp only [List.length_map, List.length_take, List.length_drop]; omega) | (simp only [List.length_cons, List.length_nil, List.length_map, List.length_append, List.length_replicate, Nat.reduceAdd, true_and, and_true, and_self]; first | done | omega)) only [go_sem, ↓reduceIte, Nat.reduceEqDiff, Nat.reduceAdd, Nat.reduceSub, Nat.reduceMul, Nat.reduceBEq, Nat.reduceLT, Nat.reduceLeDiff, Nat.reduceMod, Nat.reducePow, List.reduceReplicate, UInt8.reduceOfNat, Int.reducePow, Int.reduceDiv, Int.reduceMod, Nat.reduceDiv, Int.reduceNeg, Int.reduceAdd, Int.reduceSub, Int.reduceMul, Int.reduceLE, Int.reduceLT, Int.reduceEq, Int.reduceToNat, decide_true, decide_false, reduceCtorEq, ne_eq, not_false_eq_true, not_true_eq_false, and_true, true_and, and_self, or_true, true_or, or_false, false_or, or_self, eq_self, Option.isNone_some, Option.isNone_none, Nat.zero_add, Nat.add_zero, Nat.mul_one, Nat.one_mul, Nat.zero_mul, List.length_cons, List.length_nil, List.getElem?_cons_zero, List.getElem?_cons_succ, List.map_cons, List.map_nil, List.append_nil, -List.reduceReplicate, List.toList_toArray, hCl, hCa, hDl, hDa]
  refine rright_t hsm O.is fun G2 hle2 hs2 => ?_
  have hsE := hs2
  try simp only [keys_cons, keys_app, keys_nil, Sep_cons, Sep_nil, NotIn_cons, NotIn_app, NotIn_nil, List.cons_append, List.nil_append, List.append_assoc, and_assoc, and_true, true_and] at hsE
  repeat (obtain ⟨hsx, hsE⟩ := hsE)
  have hbb : (boolOf (RightP d) == boolOf (RightP d)) = true := by simp
  repeat' first
    | with_reducible refine Br.yes ?_
    | with_reducible refine Br.no ?_
    | with_reducible refine Br.dec (fun _ => ?_) (fun _ => ?_)
    | with_reducible refine Br.beqB (fun _ => ?_) (fun _ => ?_)
    | with_reducible refine Br.beqb (fun _ => ?_) (fun _ => ?_)
    | with_reducible refine Br.mk (fun _ => ?_) (fun _ => ?_)
    | with_reducible refine foundO.mk (fun _ _ => ?_) (fun _ => ?_)
    | with_reducible refine appV.zero ?_
    | with_reducible refine appV.own ?_
    | ((with_reducible refine NewB.mk fun nb hnb => ?_); have hnb1 := hnb.1.1; have hnb2 := hnb.1.2; try simp only [keys_cons, keys_app, keys_nil, NotIn_cons, NotIn_app, NotIn_nil, and_true] at hnb2)
    | ((with_reducible refine NewRow.mk fun nb nsp ncap hnb hncap => ?_); have hnb1 := hnb.1.1; have hnb2 := hnb.1.2; try simp only [keys_cons, keys_app, keys_nil, NotIn_cons, NotIn_app, NotIn_nil, and_true] at hnb2)
    | simp (dsimp := false) (implicitDefEqProofs := false) (disch := first | assumption | (simp only [List.mem_cons, List.mem_append, true_or, or_true, eq_self]; done) | omega | (with_reducible refine Row.adr (by assumption) ?_; simp only [List.length_map, List.length_take, List.length_drop]; omega) | (simp only [List.length_cons, List.length_nil, List.length_map, List.length_append, List.length_replicate, Nat.reduceAdd, true_and, and_true, and_self]; first | done | omega)) only [go_sem, ↓reduceIte, Nat.reduceEqDiff, Nat.reduceAdd, Nat.reduceSub, Nat.reduceMul, Nat.reduceBEq, Nat.reduceLT, Nat.reduceLeDiff, Nat.reduceMod, Nat.reducePow, List.reduceReplicate, UInt8.reduceOfNat, Int.reducePow, Int.reduceDiv, Int.reduceMod, Nat.reduceDiv, Int.reduceNeg, Int.reduceAdd, Int.reduceSub, Int.reduceMul, Int.reduceLE, Int.reduceLT, Int.reduceEq, Int.reduceToNat, decide_true, decide_false, reduceCtorEq, ne_eq, not_false_eq_true, not_true_eq_false, and_true, true_and, and_self, or_true, true_or, or_false, false_or, or_self, eq_self, Option.isNone_some, Option.isNone_none, Nat.zero_add, Nat.add_zero, Nat.mul_one, Nat.one_mul, Nat.zero_mul, List.length_cons, List.length_nil, List.getElem?_cons_zero, List.getElem?_cons_succ, List.map_cons, List.map_nil, List.append_nil, -List.reduceReplicate, List.toList_toArray, hCl, hCa, hDl, hDa, hbb]
  refine dsame_t hsm (O.is.mono hle2) (O'.is.mono hle2) ?_
  repeat' first
    | with_reducible refine Br.yes ?_
    | with_reducible refine Br.no ?_
    | with_reducible refine Br.dec (fun _ => ?_) (fun _ => ?_)
    | with_reducible refine Br.beqB (fun _ => ?_) (fun _ => ?_)
    | with_reducible refine Br.beqb (fun _ => ?_) (fun _ => ?_)
    | with_reducible refine Br.mk (fun _ => ?_) (fun _ => ?_)
    | with_reducible refine foundO.mk (fun _ _ => ?_) (fun _ => ?_)
    | with_reducible refine appV.zero ?_
    | with_reducible refine appV.own ?_
    | ((with_reducible refine NewB.mk fun nb hnb => ?_); have hnb1 := hnb.1.1; have hnb2 := hnb.1.2; try simp only [keys_cons, keys_app, keys_nil, NotIn_cons, NotIn_app, NotIn_nil, and_true] at hnb2)
    | ((with_reducible refine NewRow.mk fun nb nsp ncap hnb hncap => ?_); have hnb1 := hnb.1.1; have hnb2 := hnb.1.2; try simp only [keys_cons, keys_app, keys_nil, NotIn_cons, NotIn_app, NotIn_nil, and_true] at hnb2)
    | simp (dsimp := false) (implicitDefEqProofs := false) (disch := first | assumption | (simp only [List.mem_cons, List.mem_append, true_or, or_true, eq_self]; done) | omega | (with_reducible refine Row.adr (by assumption) ?_; simp only [List.length_map, List.length_take, List.length_drop]; omega) | (simp only [List.length_cons, List.length_nil, List.length_map, List.length_append, List.length_replicate, Nat.reduceAdd, true_and, and_true, and_self]; first | done | omega)) only [go_sem, ↓reduceIte, Nat.reduceEqDiff, Nat.reduceAdd, Nat.reduceSub, Nat.reduceMul, Nat.reduceBEq, Nat.reduceLT, Nat.reduceLeDiff, Nat.reduceMod, Nat.reducePow, List.reduceReplicate, UInt8.reduceOfNat, Int.reducePow, Int.reduceDiv, Int.reduceMod, Nat.reduceDiv, Int.reduceNeg, Int.reduceAdd, Int.reduceSub, Int.reduceMul, Int.reduceLE, Int.reduceLT, Int.reduceEq, Int.reduceToNat, decide_true, decide_false, reduceCtorEq, ne_eq, not_false_eq_true, not_true_eq_false, and_true, true_and, and_self, or_true, true_or, or_false, false_or, or_self, eq_self, Option.isNone_some, Option.isNone_none, Nat.zero_add, Nat.add_zero, Nat.mul_one, Nat.one_mul, Nat.zero_mul, List.length_cons, List.length_nil, List.getElem?_cons_zero, List.getElem?_cons_succ, List.map_cons, List.map_nil, List.append_nil, -List.reduceReplicate, List.toList_toArray, hCl, hCa, hDl, hDa]
  refine same20_t hsm (O.is.mono hle2) (O'.is.mono hle2) ?_
  have hb2 : (boolOf (d = e) == boolOf (d = e)) = true := by simp
  repeat' first
    | with_reducible refine Br.yes ?_
    | with_reducible refine Br.no ?_
    | with_reducible refine Br.dec (fun _ => ?_) (fun _ => ?_)
    | with_reducible refine Br.beqB (fun _ => ?_) (fun _ => ?_)
    | with_reducible refine Br.beqb (fun _ => ?_) (fun _ => ?_)
    | with_reducible refine Br.mk (fun _ => ?_) (fun _ => ?_)
    | with_reducible refine foundO.mk (fun _ _ => ?_) (fun _ => ?_)
    | with_reducible refine appV.zero ?_
    | with_reducible refine appV.own ?_
    | ((with_reducible refine NewB.mk fun nb hnb => ?_); have hnb1 := hnb.1.1; have hnb2 := hnb.1.2; try simp only [keys_cons, keys_app, keys_nil, NotIn_cons, NotIn_app, NotIn_nil, and_true] at hnb2)
    | ((with_reducible refine NewRow.mk fun nb nsp ncap hnb hncap => ?_); have hnb1 := hnb.1.1; have hnb2 := hnb.1.2; try simp only [keys_cons, keys_app, keys_nil, NotIn_cons, NotIn_app, NotIn_nil, and_true] at hnb2)
    | simp (dsimp := false) (implicitDefEqProofs := false) (disch := first | assumption | (simp only [List.mem_cons, List.mem_append, true_or, or_true, eq_self]; done) | omega | (with_reducible refine Row.adr (by assumption) ?_; simp only [List.length_map, List.length_take, List.length_drop]; omega) | (simp only [List.length_cons, List.length_nil, List.length_map, List.length_append, List.length_replicate, Nat.reduceAdd, true_and, and_true, and_self]; first | done | omega)) only [go_sem, ↓reduceIte, Nat.reduceEqDiff, Nat.reduceAdd, Nat.reduceSub, Nat.reduceMul, Nat.reduceBEq, Nat.reduceLT, Nat.reduceLeDiff, Nat.reduceMod, Nat.reducePow, List.reduceReplicate, UInt8.reduceOfNat, Int.reducePow, Int.reduceDiv, Int.reduceMod, Nat.reduceDiv, Int.reduceNeg, Int.reduceAdd, Int.reduceSub, Int.reduceMul, Int.reduceLE, Int.reduceLT, Int.reduceEq, Int.reduceToNat, decide_true, decide_false, reduceCtorEq, ne_eq, not_false_eq_true, not_true_eq_false, and_true, true_and, and_self, or_true, true_or, or_false, false_or, or_self, eq_self, Option.isNone_some, Option.isNone_none, Nat.zero_add, Nat.add_zero, Nat.mul_one, Nat.one_mul, Nat.zero_mul, List.length_cons, List.length_nil, List.getElem?_cons_zero, List.getElem?_cons_succ, List.map_cons, List.map_nil, List.append_nil, -List.reduceReplicate, List.toList_toArray, hCl, hCa, hDl, hDa, hb2]
  refine dsame_t hsm (O.is.mono hle2) (O.is.mono hle2) ?_
  rw [boolOf_yes (p := d = d) rfl]
  repeat' first
    | with_reducible refine Br.yes ?_
    | with_reducible refine Br.no ?_
    | with_reducible refine Br.dec (fun _ => ?_) (fun _ => ?_)
    | with_reducible refine Br.beqB (fun _ => ?_) (fun _ => ?_)
    | with_reducible refine Br.beqb (fun _ => ?_) (fun _ => ?_)
    | with_reducible refine Br.mk (fun _ => ?_) (fun _ => ?_)
    | with_reducible refine foundO.mk (fun _ _ => ?_) (fun _ => ?_)
    | with_reducible refine appV.zero ?_
    | with_reducible refine appV.own ?_
    | ((with_reducible refine NewB.mk fun nb hnb => ?_); have hnb1 := hnb.1.1; have hnb2 := hnb.1.2; try simp only [keys_cons, keys_app, keys_nil, NotIn_cons, NotIn_app, NotIn_nil, and_true] at hnb2)
    | ((with_reducible refine NewRow.mk fun nb nsp ncap hnb hncap => ?_); have hnb1 := hnb.1.1; have hnb2 := hnb.1.2; try simp only [keys_cons, keys_app, keys_nil, NotIn_cons, NotIn_app, NotIn_nil, and_true] at hnb2)
    | simp (dsimp := false) (implicitDefEqProofs := false) (disch := first | assumption | (simp only [List.mem_cons, List.mem_append, true_or, or_true, eq_self]; done) | omega | (with_reducible refine Row.adr (by assumption) ?_; simp only [List.length_map, List.length_take, List.length_drop]; omega) | (simp only [List.length_cons, List.length_nil, List.length_map, List.length_append, List.length_replicate, Nat.reduceAdd, true_and, and_true, and_self]; first | done | omega)) only [go_sem, ↓reduceIte, Nat.reduceEqDiff, Nat.reduceAdd, Nat.reduceSub, Nat.reduceMul, Nat.reduceBEq, Nat.reduceLT, Nat.reduceLeDiff, Nat.reduceMod, Nat.reducePow, List.reduceReplicate, UInt8.reduceOfNat, Int.reducePow, Int.reduceDiv, Int.reduceMod, Nat.reduceDiv, Int.reduceNeg, Int.reduceAdd, Int.reduceSub, Int.reduceMul, Int.reduceLE, Int.reduceLT, Int.reduceEq, Int.reduceToNat, decide_true, decide_false, reduceCtorEq, ne_eq, not_false_eq_true, not_true_eq_false, and_true, true_and, and_self, or_true, true_or, or_false, false_or, or_self, eq_self, Option.isNone_some, Option.isNone_none, Nat.zero_add, Nat.add_zero, Nat.mul_one, Nat.one_mul, Nat.zero_mul, List.length_cons, List.length_nil, List.getElem?_cons_zero, List.getElem?_cons_succ, List.map_cons, List.map_nil, List.append_nil, -List.reduceReplicate, List.toList_toArray, hCl, hCa, hDl, hDa]
  refine knows_t fun G3 hle3 => ?_
  repeat' first
    | with_reducible refine Br.yes ?_
    | with_reducible refine Br.no ?_
    | with_reducible refine Br.dec (fun _ => ?_) (fun _ => ?_)
    | with_reducible refine Br.beqB (fun _ => ?_) (fun _ => ?_)
    | with_reducible refine Br.beqb (fun _ => ?_) (fun _ => ?_)
    | with_reducible refine Br.mk (fun _ => ?_) (fun _ => ?_)
    | with_reducible refine foundO.mk (fun _ _ => ?_) (fun _ => ?_)
    | with_reducible refine appV.zero ?_
    | with_reducible refine appV.own ?_
    | ((with_reducible refine NewB.mk fun nb hnb => ?_); have hnb1 := hnb.1.1; have hnb2 := hnb.1.2; try simp only [keys_cons, keys_app, keys_nil, NotIn_cons, NotIn_app, NotIn_nil, and_true] at hnb2)
    | ((with_reducible refine NewRow.mk fun nb nsp ncap hnb hncap => ?_); have hnb1 := hnb.1.1; have hnb2 := hnb.1.2; try simp only [keys_cons, keys_app, keys_nil, NotIn_cons, NotIn_app, NotIn_nil, and_true] at hnb2)
    | simp (dsimp := false) (implicitDefEqProofs := false) (disch := first | assumption | (simp only [List.mem_cons, List.mem_append, true_or, or_true, eq_self]; done) | omega | (with_reducible refine Row.adr (by assumption) ?_; simp only [List.length_map, List.length_take, List.length_drop]; omega) | (simp only [List.length_cons, List.length_nil, List.length_map, List.length_append, List.length_replicate, Nat.reduceAdd, true_and, and_true, and_self]; first | done | omega)) only [go_sem, ↓reduceIte, Nat.reduceEqDiff, Nat.reduceAdd, Nat.reduceSub, Nat.reduceMul, Nat.reduceBEq, Nat.reduceLT, Nat.reduceLeDiff, Nat.reduceMod, Nat.reducePow, List.reduceReplicate, UInt8.reduceOfNat, Int.reducePow, Int.reduceDiv, Int.reduceMod, Nat.reduceDiv, Int.reduceNeg, Int.reduceAdd, Int.reduceSub, Int.reduceMul, Int.reduceLE, Int.reduceLT, Int.reduceEq, Int.reduceToNat, decide_true, decide_false, reduceCtorEq, ne_eq, not_false_eq_true, not_true_eq_false, and_true, true_and, and_self, or_true, true_or, or_false, false_or, or_self, eq_self, Option.isNone_some, Option.isNone_none, Nat.zero_add, Nat.add_zero, Nat.mul_one, Nat.one_mul, Nat.zero_mul, List.length_cons, List.length_nil, List.getElem?_cons_zero, List.getElem?_cons_succ, List.map_cons, List.map_nil, List.append_nil, -List.reduceReplicate, List.toList_toArray, hCl, hCa, hDl, hDa]
  all_goals refine Upd.finL ?_ (hR G3 (hle2.trans hle3)) ?_
  any_goals (intro fsum; first | exact Nat.le_refl _ | (simp only [List.map_append, List.map_cons, List.map_nil, List.sum_append, List.sum_cons, List.sum_nil, List.cons_append, List.nil_append]; omega))
  all_goals rfl
end Go.Proofs.Ytlblohmjikopbaa
