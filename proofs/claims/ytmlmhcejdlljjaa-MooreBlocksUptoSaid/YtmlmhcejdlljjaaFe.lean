/- Law 24: MooreAfter's and MooreBlocks' walks. -/
import Derived.Test.YtmlmhcejdlljjaaFb
import Derived.Test.YtmlmhcejdlljjaaNf
set_option linter.unusedSimpArgs false
set_option linter.unusedVariables false
namespace Go.Proofs.Ytmlmhcejdlljjaa
open Go Go.V Go.Proofs

theorem right24_no {d : DfaT} (h : ¬ RightP d) (n : Int) : right24 d n = false := by
  unfold right24; rw [boolOf_no h, Bool.false_and]
set_option maxHeartbeats 32000000 in
theorem mafter_t {d : DfaT} (hsm : SmallD d) {k : Int} (hk : k < 9223372036854775808) {G : PHeap} {H : Heap} {R : Value → PHeap → Heap → Prop} {v : Value} (hv : IsD G d v)
    (hR : ∀ G', PLe G G' → R (.bool true) G' H) : FnT Try.prog 4 [v, .int .i64 k] G H R := by
  obtain ⟨C, an, al, ay, cn, cl, cs, rs, rfl, O⟩ := hv.opened
  have hCl := O.len
  have hCx := O.l
  have hCa := O.all
  by_cases hb : right24 d 40 = true ∧ k ≤ 100
  · obtain ⟨hb, hk100⟩ := hb
    obtain ⟨hok, hlen⟩ := right24_iff.1 hb
    have hlv := lvl_len hok.2.2.1
    refine FnT.body tok [0, 1, 2, 4, 11] Try.func4 rfl (by kernel_rfl) (by kernel_rfl) (by show _ ≤ 23; simp) fun hsep => ?_
    rw [Try.results4]
    have hsE := hsep
    try simp only [keys_cons, keys_app, keys_nil, Sep_cons, Sep_nil, NotIn_cons, NotIn_app, NotIn_nil, List.cons_append, List.nil_append, List.append_assoc, and_assoc, and_true, true_and] at hsE
    repeat (obtain ⟨hsx, hsE⟩ := hsE)
    repeat' first
      | with_reducible refine Br.yes ?_
      | with_reducible refine Br.no ?_
      | with_reducible refine Br.dec (fun _ => ?_) (fun _ => ?_)
      | with_reducible refine Br.beqB (fun _ => ?_) (fun _ => ?_)
      | with_reducible refine Br.beqb (fun _ => ?_) (fun _ => ?_)
      | with_reducible refine Br.mk (fun _ => ?_) (fun _ => ?_)
      | with_reducible refine foundO.mk (fun _ _ => ?_) (fun _ => ?_)
      | with_reducible refine appV.zero ?_
      | with_reducible refine appV.own ?_
      | ((with_reducible refine NewB.mk fun nb hnb => ?_); have hnb1 := hnb.1.1; have hnb2 := hnb.1.2; try simp only [keys_cons, keys_app, keys_nil, NotIn_cons, NotIn_app, NotIn_nil, and_true] at hnb2)
      | ((with_reducible refine NewRow.mk fun nb nsp ncap hnb hncap => ?_); have hnb1 := hnb.1.1; have hnb2 := hnb.1.2; try simp only [keys_cons, keys_app, keys_nil, NotIn_cons, NotIn_app, NotIn_nil, and_true] at hnb2)
      | simp (dsimp := false) (implicitDefEqProofs := false) (disch := first | assumption | (simp only [List.mem_cons, List.mem_append, true_or, or_true, eq_self]; done) | omega | (with_reducible refine Row.adr (by assumption) ?_; simp only [List.length_map, List.length_take, List.length_drop]; omega) | (simp only [List.length_cons, List.length_nil, List.length_map, List.length_append, List.length_replicate, Nat.reduceAdd, true_and, and_true, and_self]; first | done | omega)) only [go_sem, ↓reduceIte, Nat.reduceEqDiff, Nat.reduceAdd, Nat.reduceSub, Nat.reduceMul, Nat.reduceBEq, Nat.reduceLT, Nat.reduceLeDiff, Nat.reduceMod, Nat.reducePow, List.reduceReplicate, UInt8.reduceOfNat, Int.reducePow, Int.reduceDiv, Int.reduceMod, Nat.reduceDiv, Int.reduceNeg, Int.reduceAdd, Int.reduceSub, Int.reduceMul, Int.reduceLE, Int.reduceLT, Int.reduceEq, Int.reduceToNat, decide_true, decide_false, reduceCtorEq, ne_eq, not_false_eq_true, not_true_eq_false, and_true, true_and, and_self, or_true, true_or, or_false, false_or, or_self, eq_self, Option.isNone_some, Option.isNone_none, Nat.zero_add, Nat.add_zero, Nat.mul_one, Nat.one_mul, Nat.zero_mul, List.length_cons, List.length_nil, List.getElem?_cons_zero, List.getElem?_cons_succ, List.map_cons, List.map_nil, List.append_nil, -List.reduceReplicate, List.toList_toArray, hCl, hCa]
    obtain ⟨b2, e0⟩ : ∃ x, x = nb := ⟨_, rfl⟩
    subst e0
    refine right24_t hsm O.is fun G2 hle2 hs2 => ?_
    rw [hb]
    have hsE := hs2
    try simp only [keys_cons, keys_app, keys_nil, Sep_cons, Sep_nil, NotIn_cons, NotIn_app, NotIn_nil, List.cons_append, List.nil_append, List.append_assoc, and_assoc, and_true, true_and] at hsE
    repeat (obtain ⟨hsx, hsE⟩ := hsE)
    repeat' first
      | with_reducible refine Br.yes ?_
      | with_reducible refine Br.no ?_
      | with_reducible refine Br.dec (fun _ => ?_) (fun _ => ?_)
      | with_reducible refine Br.beqB (fun _ => ?_) (fun _ => ?_)
      | with_reducible refine Br.beqb (fun _ => ?_) (fun _ => ?_)
      | with_reducible refine Br.mk (fun _ => ?_) (fun _ => ?_)
      | with_reducible refine foundO.mk (fun _ _ => ?_) (fun _ => ?_)
      | with_reducible refine appV.zero ?_
      | with_reducible refine appV.own ?_
      | ((with_reducible refine NewB.mk fun nb hnb => ?_); have hnb1 := hnb.1.1; have hnb2 := hnb.1.2; try simp only [keys_cons, keys_app, keys_nil, NotIn_cons, NotIn_app, NotIn_nil, and_true] at hnb2)
      | ((with_reducible refine NewRow.mk fun nb nsp ncap hnb hncap => ?_); have hnb1 := hnb.1.1; have hnb2 := hnb.1.2; try simp only [keys_cons, keys_app, keys_nil, NotIn_cons, NotIn_app, NotIn_nil, and_true] at hnb2)
      | simp (dsimp := false) (implicitDefEqProofs := false) (disch := first | assumption | (simp only [List.mem_cons, List.mem_append, true_or, or_true, eq_self]; done) | omega | (with_reducible refine Row.adr (by assumption) ?_; simp only [List.length_map, List.length_take, List.length_drop]; omega) | (simp only [List.length_cons, List.length_nil, List.length_map, List.length_append, List.length_replicate, Nat.reduceAdd, true_and, and_true, and_self]; first | done | omega)) only [go_sem, ↓reduceIte, Nat.reduceEqDiff, Nat.reduceAdd, Nat.reduceSub, Nat.reduceMul, Nat.reduceBEq, Nat.reduceLT, Nat.reduceLeDiff, Nat.reduceMod, Nat.reducePow, List.reduceReplicate, UInt8.reduceOfNat, Int.reducePow, Int.reduceDiv, Int.reduceMod, Nat.reduceDiv, Int.reduceNeg, Int.reduceAdd, Int.reduceSub, Int.reduceMul, Int.reduceLE, Int.reduceLT, Int.reduceEq, Int.reduceToNat, decide_true, decide_false, reduceCtorEq, ne_eq, not_false_eq_true, not_true_eq_false, and_true, true_and, and_self, or_true, true_or, or_false, false_or, or_self, eq_self, Option.isNone_some, Option.isNone_none, Nat.zero_add, Nat.add_zero, Nat.mul_one, Nat.one_mul, Nat.zero_mul, List.length_cons, List.length_nil, List.getElem?_cons_zero, List.getElem?_cons_succ, List.map_cons, List.map_nil, List.append_nil, -List.reduceReplicate, List.toList_toArray, hCl, hCa]
      | with_reducible refine Tri.drawH tok mixed [0, 1, 2, 4, 11] 3 [0, 3] (.op 0 .held (.op 1 .plain (.op 3 .held (.op 4 .plain (.op 2 .keeps (.op 5 .keeps (.op 6 .keeps (.op 7 .plain (.op 8 .keeps (.op 9 .plain (.op 10 .plain .nil))))))))))) (by kernel_rfl) [2] ?_
    refine after_t hsm (O.is.mono hle2) fun G3 v3 hle3 hs3 hsl3 => ?_
    rw [aftD_ok hok] at hsl3
    have k3 := hle2.trans hle3
    have hsE := hs3
    try simp only [keys_cons, keys_app, keys_nil, Sep_cons, Sep_nil, NotIn_cons, NotIn_app, NotIn_nil, List.cons_append, List.nil_append, List.append_assoc, and_assoc, and_true, true_and] at hsE
    repeat (obtain ⟨hsx, hsE⟩ := hsE)
    repeat' first
      | with_reducible refine Br.yes ?_
      | with_reducible refine Br.no ?_
      | with_reducible refine Br.dec (fun _ => ?_) (fun _ => ?_)
      | with_reducible refine Br.beqB (fun _ => ?_) (fun _ => ?_)
      | with_reducible refine Br.beqb (fun _ => ?_) (fun _ => ?_)
      | with_reducible refine Br.mk (fun _ => ?_) (fun _ => ?_)
      | with_reducible refine foundO.mk (fun _ _ => ?_) (fun _ => ?_)
      | with_reducible refine appV.zero ?_
      | with_reducible refine appV.own ?_
      | ((with_reducible refine NewB.mk fun nb hnb => ?_); have hnb1 := hnb.1.1; have hnb2 := hnb.1.2; try simp only [keys_cons, keys_app, keys_nil, NotIn_cons, NotIn_app, NotIn_nil, and_true] at hnb2)
      | ((with_reducible refine NewRow.mk fun nb nsp ncap hnb hncap => ?_); have hnb1 := hnb.1.1; have hnb2 := hnb.1.2; try simp only [keys_cons, keys_app, keys_nil, NotIn_cons, NotIn_app, NotIn_nil, and_true] at hnb2)
      | simp (dsimp := false) (implicitDefEqProofs := false) (disch := first | assumption | (simp only [List.mem_cons, List.mem_append, true_or, or_true, eq_self]; done) | omega | (with_reducible refine Row.adr (by assumption) ?_; simp only [List.length_map, List.length_take, List.length_drop]; omega) | (simp only [List.length_cons, List.length_nil, List.length_map, List.length_append, List.length_replicate, Nat.reduceAdd, true_and, and_true, and_self]; first | done | omega)) only [go_sem, ↓reduceIte, Nat.reduceEqDiff, Nat.reduceAdd, Nat.reduceSub, Nat.reduceMul, Nat.reduceBEq, Nat.reduceLT, Nat.reduceLeDiff, Nat.reduceMod, Nat.reducePow, List.reduceReplicate, UInt8.reduceOfNat, Int.reducePow, Int.reduceDiv, Int.reduceMod, Nat.reduceDiv, Int.reduceNeg, Int.reduceAdd, Int.reduceSub, Int.reduceMul, Int.reduceLE, Int.reduceLT, Int.reduceEq, Int.reduceToNat, decide_true, decide_false, reduceCtorEq, ne_eq, not_false_eq_true, not_true_eq_false, and_true, true_and, and_self, or_true, true_or, or_false, false_or, or_self, eq_self, Option.isNone_some, Option.isNone_none, Nat.zero_add, Nat.add_zero, Nat.mul_one, Nat.one_mul, Nat.zero_mul, List.length_cons, List.length_nil, List.getElem?_cons_zero, List.getElem?_cons_succ, List.map_cons, List.map_nil, List.append_nil, -List.reduceReplicate, List.toList_toArray, hCl, hCa]
    refine rafter_t hsm hok hk (O.is.mono k3) fun G4 v4 hle4 hs4 hsl4 => ?_
    have k4 := k3.trans hle4
    have hsE := hs4
    try simp only [keys_cons, keys_app, keys_nil, Sep_cons, Sep_nil, NotIn_cons, NotIn_app, NotIn_nil, List.cons_append, List.nil_append, List.append_assoc, and_assoc, and_true, true_and] at hsE
    repeat (obtain ⟨hsx, hsE⟩ := hsE)
    repeat' first
      | with_reducible refine Br.yes ?_
      | with_reducible refine Br.no ?_
      | with_reducible refine Br.dec (fun _ => ?_) (fun _ => ?_)
      | with_reducible refine Br.beqB (fun _ => ?_) (fun _ => ?_)
      | with_reducible refine Br.beqb (fun _ => ?_) (fun _ => ?_)
      | with_reducible refine Br.mk (fun _ => ?_) (fun _ => ?_)
      | with_reducible refine foundO.mk (fun _ _ => ?_) (fun _ => ?_)
      | with_reducible refine appV.zero ?_
      | with_reducible refine appV.own ?_
      | ((with_reducible refine NewB.mk fun nb hnb => ?_); have hnb1 := hnb.1.1; have hnb2 := hnb.1.2; try simp only [keys_cons, keys_app, keys_nil, NotIn_cons, NotIn_app, NotIn_nil, and_true] at hnb2)
      | ((with_reducible refine NewRow.mk fun nb nsp ncap hnb hncap => ?_); have hnb1 := hnb.1.1; have hnb2 := hnb.1.2; try simp only [keys_cons, keys_app, keys_nil, NotIn_cons, NotIn_app, NotIn_nil, and_true] at hnb2)
      | simp (dsimp := false) (implicitDefEqProofs := false) (disch := first | assumption | (simp only [List.mem_cons, List.mem_append, true_or, or_true, eq_self]; done) | omega | (with_reducible refine Row.adr (by assumption) ?_; simp only [List.length_map, List.length_take, List.length_drop]; omega) | (simp only [List.length_cons, List.length_nil, List.length_map, List.length_append, List.length_replicate, Nat.reduceAdd, true_and, and_true, and_self]; first | done | omega)) only [go_sem, ↓reduceIte, Nat.reduceEqDiff, Nat.reduceAdd, Nat.reduceSub, Nat.reduceMul, Nat.reduceBEq, Nat.reduceLT, Nat.reduceLeDiff, Nat.reduceMod, Nat.reducePow, List.reduceReplicate, UInt8.reduceOfNat, Int.reducePow, Int.reduceDiv, Int.reduceMod, Nat.reduceDiv, Int.reduceNeg, Int.reduceAdd, Int.reduceSub, Int.reduceMul, Int.reduceLE, Int.reduceLT, Int.reduceEq, Int.reduceToNat, decide_true, decide_false, reduceCtorEq, ne_eq, not_false_eq_true, not_true_eq_false, and_true, true_and, and_self, or_true, true_or, or_false, false_or, or_self, eq_self, Option.isNone_some, Option.isNone_none, Nat.zero_add, Nat.add_zero, Nat.mul_one, Nat.one_mul, Nat.zero_mul, List.length_cons, List.length_nil, List.getElem?_cons_zero, List.getElem?_cons_succ, List.map_cons, List.map_nil, List.append_nil, -List.reduceReplicate, List.toList_toArray, hCl, hCa]
    refine same17_t (lvl d k.toNat) (lvl d k.toNat) (by rw [hlv, hok.2.2.1]; omega) (hsl3.mono hle4) hsl4 ?_
    rw [decide_eq_true rfl]
    repeat' first
      | with_reducible refine Br.yes ?_
      | with_reducible refine Br.no ?_
      | with_reducible refine Br.dec (fun _ => ?_) (fun _ => ?_)
      | with_reducible refine Br.beqB (fun _ => ?_) (fun _ => ?_)
      | with_reducible refine Br.beqb (fun _ => ?_) (fun _ => ?_)
      | with_reducible refine Br.mk (fun _ => ?_) (fun _ => ?_)
      | with_reducible refine foundO.mk (fun _ _ => ?_) (fun _ => ?_)
      | with_reducible refine appV.zero ?_
      | with_reducible refine appV.own ?_
      | ((with_reducible refine NewB.mk fun nb hnb => ?_); have hnb1 := hnb.1.1; have hnb2 := hnb.1.2; try simp only [keys_cons, keys_app, keys_nil, NotIn_cons, NotIn_app, NotIn_nil, and_true] at hnb2)
      | ((with_reducible refine NewRow.mk fun nb nsp ncap hnb hncap => ?_); have hnb1 := hnb.1.1; have hnb2 := hnb.1.2; try simp only [keys_cons, keys_app, keys_nil, NotIn_cons, NotIn_app, NotIn_nil, and_true] at hnb2)
      | simp (dsimp := false) (implicitDefEqProofs := false) (disch := first | assumption | (simp only [List.mem_cons, List.mem_append, true_or, or_true, eq_self]; done) | omega | (with_reducible refine Row.adr (by assumption) ?_; simp only [List.length_map, List.length_take, List.length_drop]; omega) | (simp only [List.length_cons, List.length_nil, List.length_map, List.length_append, List.length_replicate, Nat.reduceAdd, true_and, and_true, and_self]; first | done | omega)) only [go_sem, ↓reduceIte, Nat.reduceEqDiff, Nat.reduceAdd, Nat.reduceSub, Nat.reduceMul, Nat.reduceBEq, Nat.reduceLT, Nat.reduceLeDiff, Nat.reduceMod, Nat.reducePow, List.reduceReplicate, UInt8.reduceOfNat, Int.reducePow, Int.reduceDiv, Int.reduceMod, Nat.reduceDiv, Int.reduceNeg, Int.reduceAdd, Int.reduceSub, Int.reduceMul, Int.reduceLE, Int.reduceLT, Int.reduceEq, Int.reduceToNat, decide_true, decide_false, reduceCtorEq, ne_eq, not_false_eq_true, not_true_eq_false, and_true, true_and, and_self, or_true, true_or, or_false, false_or, or_self, eq_self, Option.isNone_some, Option.isNone_none, Nat.zero_add, Nat.add_zero, Nat.mul_one, Nat.one_mul, Nat.zero_mul, List.length_cons, List.length_nil, List.getElem?_cons_zero, List.getElem?_cons_succ, List.map_cons, List.map_nil, List.append_nil, -List.reduceReplicate, List.toList_toArray, hCl, hCa]
    refine knows_t fun G5 hle5 => ?_
    repeat' first
      | with_reducible refine Br.yes ?_
      | with_reducible refine Br.no ?_
      | with_reducible refine Br.dec (fun _ => ?_) (fun _ => ?_)
      | with_reducible refine Br.beqB (fun _ => ?_) (fun _ => ?_)
      | with_reducible refine Br.beqb (fun _ => ?_) (fun _ => ?_)
      | with_reducible refine Br.mk (fun _ => ?_) (fun _ => ?_)
      | with_reducible refine foundO.mk (fun _ _ => ?_) (fun _ => ?_)
      | with_reducible refine appV.zero ?_
      | with_reducible refine appV.own ?_
      | ((with_reducible refine NewB.mk fun nb hnb => ?_); have hnb1 := hnb.1.1; have hnb2 := hnb.1.2; try simp only [keys_cons, keys_app, keys_nil, NotIn_cons, NotIn_app, NotIn_nil, and_true] at hnb2)
      | ((with_reducible refine NewRow.mk fun nb nsp ncap hnb hncap => ?_); have hnb1 := hnb.1.1; have hnb2 := hnb.1.2; try simp only [keys_cons, keys_app, keys_nil, NotIn_cons, NotIn_app, NotIn_nil, and_true] at hnb2)
      | simp (dsimp := false) (implicitDefEqProofs := false) (disch := first | assumption | (simp only [List.mem_cons, List.mem_append, true_or, or_true, eq_self]; done) | omega | (with_reducible refine Row.adr (by assumption) ?_; simp only [List.length_map, List.length_take, List.length_drop]; omega) | (simp only [List.length_cons, List.length_nil, List.length_map, List.length_append, List.length_replicate, Nat.reduceAdd, true_and, and_true, and_self]; first | done | omega)) only [go_sem, ↓reduceIte, Nat.reduceEqDiff, Nat.reduceAdd, Nat.reduceSub, Nat.reduceMul, Nat.reduceBEq, Nat.reduceLT, Nat.reduceLeDiff, Nat.reduceMod, Nat.reducePow, List.reduceReplicate, UInt8.reduceOfNat, Int.reducePow, Int.reduceDiv, Int.reduceMod, Nat.reduceDiv, Int.reduceNeg, Int.reduceAdd, Int.reduceSub, Int.reduceMul, Int.reduceLE, Int.reduceLT, Int.reduceEq, Int.reduceToNat, decide_true, decide_false, reduceCtorEq, ne_eq, not_false_eq_true, not_true_eq_false, and_true, true_and, and_self, or_true, true_or, or_false, false_or, or_self, eq_self, Option.isNone_some, Option.isNone_none, Nat.zero_add, Nat.add_zero, Nat.mul_one, Nat.one_mul, Nat.zero_mul, List.length_cons, List.length_nil, List.getElem?_cons_zero, List.getElem?_cons_succ, List.map_cons, List.map_nil, List.append_nil, -List.reduceReplicate, List.toList_toArray, hCl, hCa]
    all_goals refine Upd.finL ?_ (hR G5 (k4.trans hle5)) ?_
    any_goals (intro fsum; first | exact Nat.le_refl _ | (simp only [List.map_append, List.map_cons, List.map_nil, List.sum_append, List.sum_cons, List.sum_nil, List.cons_append, List.nil_append]; omega))
    all_goals rfl
  · refine FnT.body tok [0, 1, 2, 4, 11] Try.func4 rfl (by kernel_rfl) (by kernel_rfl) (by show _ ≤ 23; simp) fun hsep => ?_
    rw [Try.results4]
    have hsE := hsep
    try simp only [keys_cons, keys_app, keys_nil, Sep_cons, Sep_nil, NotIn_cons, NotIn_app, NotIn_nil, List.cons_append, List.nil_append, List.append_assoc, and_assoc, and_true, true_and] at hsE
    repeat (obtain ⟨hsx, hsE⟩ := hsE)
    repeat' first
      | with_reducible refine Br.yes ?_
      | with_reducible refine Br.no ?_
      | with_reducible refine Br.dec (fun _ => ?_) (fun _ => ?_)
      | with_reducible refine Br.beqB (fun _ => ?_) (fun _ => ?_)
      | with_reducible refine Br.beqb (fun _ => ?_) (fun _ => ?_)
      | with_reducible refine Br.mk (fun _ => ?_) (fun _ => ?_)
      | with_reducible refine foundO.mk (fun _ _ => ?_) (fun _ => ?_)
      | with_reducible refine appV.zero ?_
      | with_reducible refine appV.own ?_
      | ((with_reducible refine NewB.mk fun nb hnb => ?_); have hnb1 := hnb.1.1; have hnb2 := hnb.1.2; try simp only [keys_cons, keys_app, keys_nil, NotIn_cons, NotIn_app, NotIn_nil, and_true] at hnb2)
      | ((with_reducible refine NewRow.mk fun nb nsp ncap hnb hncap => ?_); have hnb1 := hnb.1.1; have hnb2 := hnb.1.2; try simp only [keys_cons, keys_app, keys_nil, NotIn_cons, NotIn_app, NotIn_nil, and_true] at hnb2)
      | simp (dsimp := false) (implicitDefEqProofs := false) (disch := first | assumption | (simp only [List.mem_cons, List.mem_append, true_or, or_true, eq_self]; done) | omega | (with_reducible refine Row.adr (by assumption) ?_; simp only [List.length_map, List.length_take, List.length_drop]; omega) | (simp only [List.length_cons, List.length_nil, List.length_map, List.length_append, List.length_replicate, Nat.reduceAdd, true_and, and_true, and_self]; first | done | omega)) only [go_sem, ↓reduceIte, Nat.reduceEqDiff, Nat.reduceAdd, Nat.reduceSub, Nat.reduceMul, Nat.reduceBEq, Nat.reduceLT, Nat.reduceLeDiff, Nat.reduceMod, Nat.reducePow, List.reduceReplicate, UInt8.reduceOfNat, Int.reducePow, Int.reduceDiv, Int.reduceMod, Nat.reduceDiv, Int.reduceNeg, Int.reduceAdd, Int.reduceSub, Int.reduceMul, Int.reduceLE, Int.reduceLT, Int.reduceEq, Int.reduceToNat, decide_true, decide_false, reduceCtorEq, ne_eq, not_false_eq_true, not_true_eq_false, and_true, true_and, and_self, or_true, true_or, or_false, false_or, or_self, eq_self, Option.isNone_some, Option.isNone_none, Nat.zero_add, Nat.add_zero, Nat.mul_one, Nat.one_mul, Nat.zero_mul, List.length_cons, List.length_nil, List.getElem?_cons_zero, List.getElem?_cons_succ, List.map_cons, List.map_nil, List.append_nil, -List.reduceReplicate, List.toList_toArray, hCl, hCa]
    obtain ⟨b2, e0⟩ : ∃ x, x = nb := ⟨_, rfl⟩
    subst e0
    refine right24_t hsm O.is fun G2 hle2 hs2 => ?_
    have hsE := hs2
    try simp only [keys_cons, keys_app, keys_nil, Sep_cons, Sep_nil, NotIn_cons, NotIn_app, NotIn_nil, List.cons_append, List.nil_append, List.append_assoc, and_assoc, and_true, true_and] at hsE
    repeat (obtain ⟨hsx, hsE⟩ := hsE)
    cases hbb : right24 d 40 with
    | false =>
      repeat' first
        | with_reducible refine Br.yes ?_
        | with_reducible refine Br.no ?_
        | with_reducible refine Br.dec (fun _ => ?_) (fun _ => ?_)
        | with_reducible refine Br.beqB (fun _ => ?_) (fun _ => ?_)
        | with_reducible refine Br.beqb (fun _ => ?_) (fun _ => ?_)
        | with_reducible refine Br.mk (fun _ => ?_) (fun _ => ?_)
        | with_reducible refine foundO.mk (fun _ _ => ?_) (fun _ => ?_)
        | with_reducible refine appV.zero ?_
        | with_reducible refine appV.own ?_
        | ((with_reducible refine NewB.mk fun nb hnb => ?_); have hnb1 := hnb.1.1; have hnb2 := hnb.1.2; try simp only [keys_cons, keys_app, keys_nil, NotIn_cons, NotIn_app, NotIn_nil, and_true] at hnb2)
        | ((with_reducible refine NewRow.mk fun nb nsp ncap hnb hncap => ?_); have hnb1 := hnb.1.1; have hnb2 := hnb.1.2; try simp only [keys_cons, keys_app, keys_nil, NotIn_cons, NotIn_app, NotIn_nil, and_true] at hnb2)
        | simp (dsimp := false) (implicitDefEqProofs := false) (disch := first | assumption | (simp only [List.mem_cons, List.mem_append, true_or, or_true, eq_self]; done) | omega | (with_reducible refine Row.adr (by assumption) ?_; simp only [List.length_map, List.length_take, List.length_drop]; omega) | (simp only [List.length_cons, List.length_nil, List.length_map, List.length_append, List.length_replicate, Nat.reduceAdd, true_and, and_true, and_self]; first | done | omega)) only [go_sem, ↓reduceIte, Nat.reduceEqDiff, Nat.reduceAdd, Nat.reduceSub, Nat.reduceMul, Nat.reduceBEq, Nat.reduceLT, Nat.reduceLeDiff, Nat.reduceMod, Nat.reducePow, List.reduceReplicate, UInt8.reduceOfNat, Int.reducePow, Int.reduceDiv, Int.reduceMod, Nat.reduceDiv, Int.reduceNeg, Int.reduceAdd, Int.reduceSub, Int.reduceMul, Int.reduceLE, Int.reduceLT, Int.reduceEq, Int.reduceToNat, decide_true, decide_false, reduceCtorEq, ne_eq, not_false_eq_true, not_true_eq_false, and_true, true_and, and_self, or_true, true_or, or_false, false_or, or_self, eq_self, Option.isNone_some, Option.isNone_none, Nat.zero_add, Nat.add_zero, Nat.mul_one, Nat.one_mul, Nat.zero_mul, List.length_cons, List.length_nil, List.getElem?_cons_zero, List.getElem?_cons_succ, List.map_cons, List.map_nil, List.append_nil, -List.reduceReplicate, List.toList_toArray, hCl, hCa]
      refine knows_t fun G5 hle5 => ?_
      repeat' first
        | with_reducible refine Br.yes ?_
        | with_reducible refine Br.no ?_
        | with_reducible refine Br.dec (fun _ => ?_) (fun _ => ?_)
        | with_reducible refine Br.beqB (fun _ => ?_) (fun _ => ?_)
        | with_reducible refine Br.beqb (fun _ => ?_) (fun _ => ?_)
        | with_reducible refine Br.mk (fun _ => ?_) (fun _ => ?_)
        | with_reducible refine foundO.mk (fun _ _ => ?_) (fun _ => ?_)
        | with_reducible refine appV.zero ?_
        | with_reducible refine appV.own ?_
        | ((with_reducible refine NewB.mk fun nb hnb => ?_); have hnb1 := hnb.1.1; have hnb2 := hnb.1.2; try simp only [keys_cons, keys_app, keys_nil, NotIn_cons, NotIn_app, NotIn_nil, and_true] at hnb2)
        | ((with_reducible refine NewRow.mk fun nb nsp ncap hnb hncap => ?_); have hnb1 := hnb.1.1; have hnb2 := hnb.1.2; try simp only [keys_cons, keys_app, keys_nil, NotIn_cons, NotIn_app, NotIn_nil, and_true] at hnb2)
        | simp (dsimp := false) (implicitDefEqProofs := false) (disch := first | assumption | (simp only [List.mem_cons, List.mem_append, true_or, or_true, eq_self]; done) | omega | (with_reducible refine Row.adr (by assumption) ?_; simp only [List.length_map, List.length_take, List.length_drop]; omega) | (simp only [List.length_cons, List.length_nil, List.length_map, List.length_append, List.length_replicate, Nat.reduceAdd, true_and, and_true, and_self]; first | done | omega)) only [go_sem, ↓reduceIte, Nat.reduceEqDiff, Nat.reduceAdd, Nat.reduceSub, Nat.reduceMul, Nat.reduceBEq, Nat.reduceLT, Nat.reduceLeDiff, Nat.reduceMod, Nat.reducePow, List.reduceReplicate, UInt8.reduceOfNat, Int.reducePow, Int.reduceDiv, Int.reduceMod, Nat.reduceDiv, Int.reduceNeg, Int.reduceAdd, Int.reduceSub, Int.reduceMul, Int.reduceLE, Int.reduceLT, Int.reduceEq, Int.reduceToNat, decide_true, decide_false, reduceCtorEq, ne_eq, not_false_eq_true, not_true_eq_false, and_true, true_and, and_self, or_true, true_or, or_false, false_or, or_self, eq_self, Option.isNone_some, Option.isNone_none, Nat.zero_add, Nat.add_zero, Nat.mul_one, Nat.one_mul, Nat.zero_mul, List.length_cons, List.length_nil, List.getElem?_cons_zero, List.getElem?_cons_succ, List.map_cons, List.map_nil, List.append_nil, -List.reduceReplicate, List.toList_toArray, hCl, hCa]
      all_goals refine Upd.finL ?_ (hR G5 (hle2.trans hle5)) ?_
      any_goals (intro fsum; first | exact Nat.le_refl _ | (simp only [List.map_append, List.map_cons, List.map_nil, List.sum_append, List.sum_cons, List.sum_nil, List.cons_append, List.nil_append]; omega))
      all_goals rfl
    | true =>
      have hk2 : ¬ k ≤ 100 := fun h => hb ⟨hbb, h⟩
      repeat' first
        | with_reducible refine Br.yes ?_
        | with_reducible refine Br.no ?_
        | with_reducible refine Br.dec (fun _ => ?_) (fun _ => ?_)
        | with_reducible refine Br.beqB (fun _ => ?_) (fun _ => ?_)
        | with_reducible refine Br.beqb (fun _ => ?_) (fun _ => ?_)
        | with_reducible refine Br.mk (fun _ => ?_) (fun _ => ?_)
        | with_reducible refine foundO.mk (fun _ _ => ?_) (fun _ => ?_)
        | with_reducible refine appV.zero ?_
        | with_reducible refine appV.own ?_
        | ((with_reducible refine NewB.mk fun nb hnb => ?_); have hnb1 := hnb.1.1; have hnb2 := hnb.1.2; try simp only [keys_cons, keys_app, keys_nil, NotIn_cons, NotIn_app, NotIn_nil, and_true] at hnb2)
        | ((with_reducible refine NewRow.mk fun nb nsp ncap hnb hncap => ?_); have hnb1 := hnb.1.1; have hnb2 := hnb.1.2; try simp only [keys_cons, keys_app, keys_nil, NotIn_cons, NotIn_app, NotIn_nil, and_true] at hnb2)
        | simp (dsimp := false) (implicitDefEqProofs := false) (disch := first | assumption | (simp only [List.mem_cons, List.mem_append, true_or, or_true, eq_self]; done) | omega | (with_reducible refine Row.adr (by assumption) ?_; simp only [List.length_map, List.length_take, List.length_drop]; omega) | (simp only [List.length_cons, List.length_nil, List.length_map, List.length_append, List.length_replicate, Nat.reduceAdd, true_and, and_true, and_self]; first | done | omega)) only [go_sem, ↓reduceIte, Nat.reduceEqDiff, Nat.reduceAdd, Nat.reduceSub, Nat.reduceMul, Nat.reduceBEq, Nat.reduceLT, Nat.reduceLeDiff, Nat.reduceMod, Nat.reducePow, List.reduceReplicate, UInt8.reduceOfNat, Int.reducePow, Int.reduceDiv, Int.reduceMod, Nat.reduceDiv, Int.reduceNeg, Int.reduceAdd, Int.reduceSub, Int.reduceMul, Int.reduceLE, Int.reduceLT, Int.reduceEq, Int.reduceToNat, decide_true, decide_false, reduceCtorEq, ne_eq, not_false_eq_true, not_true_eq_false, and_true, true_and, and_self, or_true, true_or, or_false, false_or, or_self, eq_self, Option.isNone_some, Option.isNone_none, Nat.zero_add, Nat.add_zero, Nat.mul_one, Nat.one_mul, Nat.zero_mul, List.length_cons, List.length_nil, List.getElem?_cons_zero, List.getElem?_cons_succ, List.map_cons, List.map_nil, List.append_nil, -List.reduceReplicate, List.toList_toArray, hCl, hCa]
      refine knows_t fun G5 hle5 => ?_
      repeat' first
        | with_reducible refine Br.yes ?_
        | with_reducible refine Br.no ?_
        | with_reducible refine Br.dec (fun _ => ?_) (fun _ => ?_)
        | with_reducible refine Br.beqB (fun _ => ?_) (fun _ => ?_)
        | with_reducible refine Br.beqb (fun _ => ?_) (fun _ => ?_)
        | with_reducible refine Br.mk (fun _ => ?_) (fun _ => ?_)
        | with_reducible refine foundO.mk (fun _ _ => ?_) (fun _ => ?_)
        | with_reducible refine appV.zero ?_
        | with_reducible refine appV.own ?_
        | ((with_reducible refine NewB.mk fun nb hnb => ?_); have hnb1 := hnb.1.1; have hnb2 := hnb.1.2; try simp only [keys_cons, keys_app, keys_nil, NotIn_cons, NotIn_app, NotIn_nil, and_true] at hnb2)
        | ((with_reducible refine NewRow.mk fun nb nsp ncap hnb hncap => ?_); have hnb1 := hnb.1.1; have hnb2 := hnb.1.2; try simp only [keys_cons, keys_app, keys_nil, NotIn_cons, NotIn_app, NotIn_nil, and_true] at hnb2)
        | simp (dsimp := false) (implicitDefEqProofs := false) (disch := first | assumption | (simp only [List.mem_cons, List.mem_append, true_or, or_true, eq_self]; done) | omega | (with_reducible refine Row.adr (by assumption) ?_; simp only [List.length_map, List.length_take, List.length_drop]; omega) | (simp only [List.length_cons, List.length_nil, List.length_map, List.length_append, List.length_replicate, Nat.reduceAdd, true_and, and_true, and_self]; first | done | omega)) only [go_sem, ↓reduceIte, Nat.reduceEqDiff, Nat.reduceAdd, Nat.reduceSub, Nat.reduceMul, Nat.reduceBEq, Nat.reduceLT, Nat.reduceLeDiff, Nat.reduceMod, Nat.reducePow, List.reduceReplicate, UInt8.reduceOfNat, Int.reducePow, Int.reduceDiv, Int.reduceMod, Nat.reduceDiv, Int.reduceNeg, Int.reduceAdd, Int.reduceSub, Int.reduceMul, Int.reduceLE, Int.reduceLT, Int.reduceEq, Int.reduceToNat, decide_true, decide_false, reduceCtorEq, ne_eq, not_false_eq_true, not_true_eq_false, and_true, true_and, and_self, or_true, true_or, or_false, false_or, or_self, eq_self, Option.isNone_some, Option.isNone_none, Nat.zero_add, Nat.add_zero, Nat.mul_one, Nat.one_mul, Nat.zero_mul, List.length_cons, List.length_nil, List.getElem?_cons_zero, List.getElem?_cons_succ, List.map_cons, List.map_nil, List.append_nil, -List.reduceReplicate, List.toList_toArray, hCl, hCa]
      all_goals refine Upd.finL ?_ (hR G5 (hle2.trans hle5)) ?_
      any_goals (intro fsum; first | exact Nat.le_refl _ | (simp only [List.map_append, List.map_cons, List.map_nil, List.sum_append, List.sum_cons, List.sum_nil, List.cons_append, List.nil_append]; omega))
      all_goals rfl
set_option maxHeartbeats 32000000 in
theorem mblocks_t {d : DfaT} (hsm : SmallD d) {G : PHeap} {H : Heap} {R : Value → PHeap → Heap → Prop} {v : Value} (hv : IsD G d v)
    (hR : ∀ G', PLe G G' → R (.bool true) G' H) : FnT Try.prog 3 [v] G H R := by
  obtain ⟨C, an, al, ay, cn, cl, cs, rs, rfl, O⟩ := hv.opened
  have hCl := O.len
  have hCx := O.l
  have hCa := O.all
  by_cases hok : RightP d
  · have hbo := boolOf_yes hok
    have hlv := lvl_len hok.2.2.1
    obtain ⟨n, hn⟩ := last_ex hok.2.2.1 hok.1
    have hk2 := hok.2.1
    have hnl := hn.1
    refine FnT.body tok [0, 1, 2, 5] Try.func3 rfl (by kernel_rfl) (by kernel_rfl) (by show _ ≤ 44; simp) fun hsep => ?_
    rw [Try.results3]
    have hsE := hsep
    try simp only [keys_cons, keys_app, keys_nil, Sep_cons, Sep_nil, NotIn_cons, NotIn_app, NotIn_nil, List.cons_append, List.nil_append, List.append_assoc, and_assoc, and_true, true_and] at hsE
    repeat (obtain ⟨hsx, hsE⟩ := hsE)
    repeat' first
      | with_reducible refine Br.yes ?_
      | with_reducible refine Br.no ?_
      | with_reducible refine Br.dec (fun _ => ?_) (fun _ => ?_)
      | with_reducible refine Br.beqB (fun _ => ?_) (fun _ => ?_)
      | with_reducible refine Br.beqb (fun _ => ?_) (fun _ => ?_)
      | with_reducible refine Br.mk (fun _ => ?_) (fun _ => ?_)
      | with_reducible refine foundO.mk (fun _ _ => ?_) (fun _ => ?_)
      | with_reducible refine appV.zero ?_
      | with_reducible refine appV.own ?_
      | ((with_reducible refine NewB.mk fun nb hnb => ?_); have hnb1 := hnb.1.1; have hnb2 := hnb.1.2; try simp only [keys_cons, keys_app, keys_nil, NotIn_cons, NotIn_app, NotIn_nil, and_true] at hnb2)
      | ((with_reducible refine NewRow.mk fun nb nsp ncap hnb hncap => ?_); have hnb1 := hnb.1.1; have hnb2 := hnb.1.2; try simp only [keys_cons, keys_app, keys_nil, NotIn_cons, NotIn_app, NotIn_nil, and_true] at hnb2)
      | simp (dsimp := false) (implicitDefEqProofs := false) (disch := first | assumption | (simp only [List.mem_cons, List.mem_append, true_or, or_true, eq_self]; done) | omega | (with_reducible refine Row.adr (by assumption) ?_; simp only [List.length_map, List.length_take, List.length_drop]; omega) | (simp only [List.length_cons, List.length_nil, List.length_map, List.length_append, List.length_replicate, Nat.reduceAdd, true_and, and_true, and_self]; first | done | omega)) only [go_sem, ↓reduceIte, Nat.reduceEqDiff, Nat.reduceAdd, Nat.reduceSub, Nat.reduceMul, Nat.reduceBEq, Nat.reduceLT, Nat.reduceLeDiff, Nat.reduceMod, Nat.reducePow, List.reduceReplicate, UInt8.reduceOfNat, Int.reducePow, Int.reduceDiv, Int.reduceMod, Nat.reduceDiv, Int.reduceNeg, Int.reduceAdd, Int.reduceSub, Int.reduceMul, Int.reduceLE, Int.reduceLT, Int.reduceEq, Int.reduceToNat, decide_true, decide_false, reduceCtorEq, ne_eq, not_false_eq_true, not_true_eq_false, and_true, true_and, and_self, or_true, true_or, or_false, false_or, or_self, eq_self, Option.isNone_some, Option.isNone_none, Nat.zero_add, Nat.add_zero, Nat.mul_one, Nat.one_mul, Nat.zero_mul, List.length_cons, List.length_nil, List.getElem?_cons_zero, List.getElem?_cons_succ, List.map_cons, List.map_nil, List.append_nil, -List.reduceReplicate, List.toList_toArray, hCl, hCa, hbo]
      | with_reducible refine right_t hsm O.is ?_
    obtain ⟨b2, e0⟩ : ∃ x, x = nb := ⟨_, rfl⟩
    subst e0
    cases hb : right24 d 40 with
    | false =>
      repeat' first
        | with_reducible refine Br.yes ?_
        | with_reducible refine Br.no ?_
        | with_reducible refine Br.dec (fun _ => ?_) (fun _ => ?_)
        | with_reducible refine Br.beqB (fun _ => ?_) (fun _ => ?_)
        | with_reducible refine Br.beqb (fun _ => ?_) (fun _ => ?_)
        | with_reducible refine Br.mk (fun _ => ?_) (fun _ => ?_)
        | with_reducible refine foundO.mk (fun _ _ => ?_) (fun _ => ?_)
        | with_reducible refine appV.zero ?_
        | with_reducible refine appV.own ?_
        | ((with_reducible refine NewB.mk fun nb hnb => ?_); have hnb1 := hnb.1.1; have hnb2 := hnb.1.2; try simp only [keys_cons, keys_app, keys_nil, NotIn_cons, NotIn_app, NotIn_nil, and_true] at hnb2)
        | ((with_reducible refine NewRow.mk fun nb nsp ncap hnb hncap => ?_); have hnb1 := hnb.1.1; have hnb2 := hnb.1.2; try simp only [keys_cons, keys_app, keys_nil, NotIn_cons, NotIn_app, NotIn_nil, and_true] at hnb2)
        | simp (dsimp := false) (implicitDefEqProofs := false) (disch := first | assumption | (simp only [List.mem_cons, List.mem_append, true_or, or_true, eq_self]; done) | omega | (with_reducible refine Row.adr (by assumption) ?_; simp only [List.length_map, List.length_take, List.length_drop]; omega) | (simp only [List.length_cons, List.length_nil, List.length_map, List.length_append, List.length_replicate, Nat.reduceAdd, true_and, and_true, and_self]; first | done | omega)) only [go_sem, ↓reduceIte, Nat.reduceEqDiff, Nat.reduceAdd, Nat.reduceSub, Nat.reduceMul, Nat.reduceBEq, Nat.reduceLT, Nat.reduceLeDiff, Nat.reduceMod, Nat.reducePow, List.reduceReplicate, UInt8.reduceOfNat, Int.reducePow, Int.reduceDiv, Int.reduceMod, Nat.reduceDiv, Int.reduceNeg, Int.reduceAdd, Int.reduceSub, Int.reduceMul, Int.reduceLE, Int.reduceLT, Int.reduceEq, Int.reduceToNat, decide_true, decide_false, reduceCtorEq, ne_eq, not_false_eq_true, not_true_eq_false, and_true, true_and, and_self, or_true, true_or, or_false, false_or, or_self, eq_self, Option.isNone_some, Option.isNone_none, Nat.zero_add, Nat.add_zero, Nat.mul_one, Nat.one_mul, Nat.zero_mul, List.length_cons, List.length_nil, List.getElem?_cons_zero, List.getElem?_cons_succ, List.map_cons, List.map_nil, List.append_nil, -List.reduceReplicate, List.toList_toArray, hCl, hCa]
        | with_reducible refine Tri.drawH tok mixed [0, 1, 2, 5] 3 [0, 4, 6, 10, 12] (.op 0 .held (.op 1 .keeps (.op 2 .plain (.op 3 .plain (.op 4 .held (.op 6 .held (.op 5 .keeps (.op 7 .keeps (.op 8 .keeps (.op 9 .plain (.op 10 .held (.op 12 .held (.op 11 .keeps (.op 13 .keeps (.op 14 .plain (.op 15 .plain (.op 16 .plain (.op 17 .keeps (.op 18 .plain (.op 19 .plain (.op 20 .plain .nil))))))))))))))))))))) (by kernel_rfl) [1] ?_
      refine right24_t hsm O.is fun G2 hle2 hs2 => ?_
      rw [hb]
      have hsE := hs2
      try simp only [keys_cons, keys_app, keys_nil, Sep_cons, Sep_nil, NotIn_cons, NotIn_app, NotIn_nil, List.cons_append, List.nil_append, List.append_assoc, and_assoc, and_true, true_and] at hsE
      repeat (obtain ⟨hsx, hsE⟩ := hsE)
      repeat' first
        | with_reducible refine Br.yes ?_
        | with_reducible refine Br.no ?_
        | with_reducible refine Br.dec (fun _ => ?_) (fun _ => ?_)
        | with_reducible refine Br.beqB (fun _ => ?_) (fun _ => ?_)
        | with_reducible refine Br.beqb (fun _ => ?_) (fun _ => ?_)
        | with_reducible refine Br.mk (fun _ => ?_) (fun _ => ?_)
        | with_reducible refine foundO.mk (fun _ _ => ?_) (fun _ => ?_)
        | with_reducible refine appV.zero ?_
        | with_reducible refine appV.own ?_
        | ((with_reducible refine NewB.mk fun nb hnb => ?_); have hnb1 := hnb.1.1; have hnb2 := hnb.1.2; try simp only [keys_cons, keys_app, keys_nil, NotIn_cons, NotIn_app, NotIn_nil, and_true] at hnb2)
        | ((with_reducible refine NewRow.mk fun nb nsp ncap hnb hncap => ?_); have hnb1 := hnb.1.1; have hnb2 := hnb.1.2; try simp only [keys_cons, keys_app, keys_nil, NotIn_cons, NotIn_app, NotIn_nil, and_true] at hnb2)
        | simp (dsimp := false) (implicitDefEqProofs := false) (disch := first | assumption | (simp only [List.mem_cons, List.mem_append, true_or, or_true, eq_self]; done) | omega | (with_reducible refine Row.adr (by assumption) ?_; simp only [List.length_map, List.length_take, List.length_drop]; omega) | (simp only [List.length_cons, List.length_nil, List.length_map, List.length_append, List.length_replicate, Nat.reduceAdd, true_and, and_true, and_self]; first | done | omega)) only [go_sem, ↓reduceIte, Nat.reduceEqDiff, Nat.reduceAdd, Nat.reduceSub, Nat.reduceMul, Nat.reduceBEq, Nat.reduceLT, Nat.reduceLeDiff, Nat.reduceMod, Nat.reducePow, List.reduceReplicate, UInt8.reduceOfNat, Int.reducePow, Int.reduceDiv, Int.reduceMod, Nat.reduceDiv, Int.reduceNeg, Int.reduceAdd, Int.reduceSub, Int.reduceMul, Int.reduceLE, Int.reduceLT, Int.reduceEq, Int.reduceToNat, decide_true, decide_false, reduceCtorEq, ne_eq, not_false_eq_true, not_true_eq_false, and_true, true_and, and_self, or_true, true_or, or_false, false_or, or_self, eq_self, Option.isNone_some, Option.isNone_none, Nat.zero_add, Nat.add_zero, Nat.mul_one, Nat.one_mul, Nat.zero_mul, List.length_cons, List.length_nil, List.getElem?_cons_zero, List.getElem?_cons_succ, List.map_cons, List.map_nil, List.append_nil, -List.reduceReplicate, List.toList_toArray, hCl, hCa]
      all_goals refine Upd.finL ?_ (hR G2 hle2) ?_
      any_goals (intro fsum; first | exact Nat.le_refl _ | (simp only [List.map_append, List.map_cons, List.map_nil, List.sum_append, List.sum_cons, List.sum_nil, List.cons_append, List.nil_append]; omega))
      all_goals rfl
    | true =>
      repeat' first
        | with_reducible refine Br.yes ?_
        | with_reducible refine Br.no ?_
        | with_reducible refine Br.dec (fun _ => ?_) (fun _ => ?_)
        | with_reducible refine Br.beqB (fun _ => ?_) (fun _ => ?_)
        | with_reducible refine Br.beqb (fun _ => ?_) (fun _ => ?_)
        | with_reducible refine Br.mk (fun _ => ?_) (fun _ => ?_)
        | with_reducible refine foundO.mk (fun _ _ => ?_) (fun _ => ?_)
        | with_reducible refine appV.zero ?_
        | with_reducible refine appV.own ?_
        | ((with_reducible refine NewB.mk fun nb hnb => ?_); have hnb1 := hnb.1.1; have hnb2 := hnb.1.2; try simp only [keys_cons, keys_app, keys_nil, NotIn_cons, NotIn_app, NotIn_nil, and_true] at hnb2)
        | ((with_reducible refine NewRow.mk fun nb nsp ncap hnb hncap => ?_); have hnb1 := hnb.1.1; have hnb2 := hnb.1.2; try simp only [keys_cons, keys_app, keys_nil, NotIn_cons, NotIn_app, NotIn_nil, and_true] at hnb2)
        | simp (dsimp := false) (implicitDefEqProofs := false) (disch := first | assumption | (simp only [List.mem_cons, List.mem_append, true_or, or_true, eq_self]; done) | omega | (with_reducible refine Row.adr (by assumption) ?_; simp only [List.length_map, List.length_take, List.length_drop]; omega) | (simp only [List.length_cons, List.length_nil, List.length_map, List.length_append, List.length_replicate, Nat.reduceAdd, true_and, and_true, and_self]; first | done | omega)) only [go_sem, ↓reduceIte, Nat.reduceEqDiff, Nat.reduceAdd, Nat.reduceSub, Nat.reduceMul, Nat.reduceBEq, Nat.reduceLT, Nat.reduceLeDiff, Nat.reduceMod, Nat.reducePow, List.reduceReplicate, UInt8.reduceOfNat, Int.reducePow, Int.reduceDiv, Int.reduceMod, Nat.reduceDiv, Int.reduceNeg, Int.reduceAdd, Int.reduceSub, Int.reduceMul, Int.reduceLE, Int.reduceLT, Int.reduceEq, Int.reduceToNat, decide_true, decide_false, reduceCtorEq, ne_eq, not_false_eq_true, not_true_eq_false, and_true, true_and, and_self, or_true, true_or, or_false, false_or, or_self, eq_self, Option.isNone_some, Option.isNone_none, Nat.zero_add, Nat.add_zero, Nat.mul_one, Nat.one_mul, Nat.zero_mul, List.length_cons, List.length_nil, List.getElem?_cons_zero, List.getElem?_cons_succ, List.map_cons, List.map_nil, List.append_nil, -List.reduceReplicate, List.toList_toArray, hCl, hCa]
        | with_reducible refine Tri.drawH tok mixed [0, 1, 2, 5] 3 [0, 4, 6, 10, 12] (.op 0 .held (.op 1 .keeps (.op 2 .plain (.op 3 .plain (.op 4 .held (.op 6 .held (.op 5 .keeps (.op 7 .keeps (.op 8 .keeps (.op 9 .plain (.op 10 .held (.op 12 .held (.op 11 .keeps (.op 13 .keeps (.op 14 .plain (.op 15 .plain (.op 16 .plain (.op 17 .keeps (.op 18 .plain (.op 19 .plain (.op 20 .plain .nil))))))))))))))))))))) (by kernel_rfl) [1] ?_
      refine right24_t hsm O.is fun G2 hle2 hs2 => ?_
      rw [hb]
      have hsE := hs2
      try simp only [keys_cons, keys_app, keys_nil, Sep_cons, Sep_nil, NotIn_cons, NotIn_app, NotIn_nil, List.cons_append, List.nil_append, List.append_assoc, and_assoc, and_true, true_and] at hsE
      repeat (obtain ⟨hsx, hsE⟩ := hsE)
      repeat' first
        | with_reducible refine Br.yes ?_
        | with_reducible refine Br.no ?_
        | with_reducible refine Br.dec (fun _ => ?_) (fun _ => ?_)
        | with_reducible refine Br.beqB (fun _ => ?_) (fun _ => ?_)
        | with_reducible refine Br.beqb (fun _ => ?_) (fun _ => ?_)
        | with_reducible refine Br.mk (fun _ => ?_) (fun _ => ?_)
        | with_reducible refine foundO.mk (fun _ _ => ?_) (fun _ => ?_)
        | with_reducible refine appV.zero ?_
        | with_reducible refine appV.own ?_
        | ((with_reducible refine NewB.mk fun nb hnb => ?_); have hnb1 := hnb.1.1; have hnb2 := hnb.1.2; try simp only [keys_cons, keys_app, keys_nil, NotIn_cons, NotIn_app, NotIn_nil, and_true] at hnb2)
        | ((with_reducible refine NewRow.mk fun nb nsp ncap hnb hncap => ?_); have hnb1 := hnb.1.1; have hnb2 := hnb.1.2; try simp only [keys_cons, keys_app, keys_nil, NotIn_cons, NotIn_app, NotIn_nil, and_true] at hnb2)
        | simp (dsimp := false) (implicitDefEqProofs := false) (disch := first | assumption | (simp only [List.mem_cons, List.mem_append, true_or, or_true, eq_self]; done) | omega | (with_reducible refine Row.adr (by assumption) ?_; simp only [List.length_map, List.length_take, List.length_drop]; omega) | (simp only [List.length_cons, List.length_nil, List.length_map, List.length_append, List.length_replicate, Nat.reduceAdd, true_and, and_true, and_self]; first | done | omega)) only [go_sem, ↓reduceIte, Nat.reduceEqDiff, Nat.reduceAdd, Nat.reduceSub, Nat.reduceMul, Nat.reduceBEq, Nat.reduceLT, Nat.reduceLeDiff, Nat.reduceMod, Nat.reducePow, List.reduceReplicate, UInt8.reduceOfNat, Int.reducePow, Int.reduceDiv, Int.reduceMod, Nat.reduceDiv, Int.reduceNeg, Int.reduceAdd, Int.reduceSub, Int.reduceMul, Int.reduceLE, Int.reduceLT, Int.reduceEq, Int.reduceToNat, decide_true, decide_false, reduceCtorEq, ne_eq, not_false_eq_true, not_true_eq_false, and_true, true_and, and_self, or_true, true_or, or_false, false_or, or_self, eq_self, Option.isNone_some, Option.isNone_none, Nat.zero_add, Nat.add_zero, Nat.mul_one, Nat.one_mul, Nat.zero_mul, List.length_cons, List.length_nil, List.getElem?_cons_zero, List.getElem?_cons_succ, List.map_cons, List.map_nil, List.append_nil, -List.reduceReplicate, List.toList_toArray, hCl, hCa]
      refine blocks_t hsm (O.is.mono hle2) fun G3 v3 hle3 hs3 hsl3 => ?_
      rw [aftD_ok hok, lvl_last hn (show n ≤ 65536 by omega)] at hsl3
      have k3 := hle2.trans hle3
      have hsE := hs3
      try simp only [keys_cons, keys_app, keys_nil, Sep_cons, Sep_nil, NotIn_cons, NotIn_app, NotIn_nil, List.cons_append, List.nil_append, List.append_assoc, and_assoc, and_true, true_and] at hsE
      repeat (obtain ⟨hsx, hsE⟩ := hsE)
      repeat' first
        | with_reducible refine Br.yes ?_
        | with_reducible refine Br.no ?_
        | with_reducible refine Br.dec (fun _ => ?_) (fun _ => ?_)
        | with_reducible refine Br.beqB (fun _ => ?_) (fun _ => ?_)
        | with_reducible refine Br.beqb (fun _ => ?_) (fun _ => ?_)
        | with_reducible refine Br.mk (fun _ => ?_) (fun _ => ?_)
        | with_reducible refine foundO.mk (fun _ _ => ?_) (fun _ => ?_)
        | with_reducible refine appV.zero ?_
        | with_reducible refine appV.own ?_
        | ((with_reducible refine NewB.mk fun nb hnb => ?_); have hnb1 := hnb.1.1; have hnb2 := hnb.1.2; try simp only [keys_cons, keys_app, keys_nil, NotIn_cons, NotIn_app, NotIn_nil, and_true] at hnb2)
        | ((with_reducible refine NewRow.mk fun nb nsp ncap hnb hncap => ?_); have hnb1 := hnb.1.1; have hnb2 := hnb.1.2; try simp only [keys_cons, keys_app, keys_nil, NotIn_cons, NotIn_app, NotIn_nil, and_true] at hnb2)
        | simp (dsimp := false) (implicitDefEqProofs := false) (disch := first | assumption | (simp only [List.mem_cons, List.mem_append, true_or, or_true, eq_self]; done) | omega | (with_reducible refine Row.adr (by assumption) ?_; simp only [List.length_map, List.length_take, List.length_drop]; omega) | (simp only [List.length_cons, List.length_nil, List.length_map, List.length_append, List.length_replicate, Nat.reduceAdd, true_and, and_true, and_self]; first | done | omega)) only [go_sem, ↓reduceIte, Nat.reduceEqDiff, Nat.reduceAdd, Nat.reduceSub, Nat.reduceMul, Nat.reduceBEq, Nat.reduceLT, Nat.reduceLeDiff, Nat.reduceMod, Nat.reducePow, List.reduceReplicate, UInt8.reduceOfNat, Int.reducePow, Int.reduceDiv, Int.reduceMod, Nat.reduceDiv, Int.reduceNeg, Int.reduceAdd, Int.reduceSub, Int.reduceMul, Int.reduceLE, Int.reduceLT, Int.reduceEq, Int.reduceToNat, decide_true, decide_false, reduceCtorEq, ne_eq, not_false_eq_true, not_true_eq_false, and_true, true_and, and_self, or_true, true_or, or_false, false_or, or_self, eq_self, Option.isNone_some, Option.isNone_none, Nat.zero_add, Nat.add_zero, Nat.mul_one, Nat.one_mul, Nat.zero_mul, List.length_cons, List.length_nil, List.getElem?_cons_zero, List.getElem?_cons_succ, List.map_cons, List.map_nil, List.append_nil, -List.reduceReplicate, List.toList_toArray, hCl, hCa]
      refine rblocks_t hsm hok (O.is.mono k3) fun G4 v4 hle4 hs4 hsl4 => ?_
      rw [last_len hn] at hsl4
      have k4 := k3.trans hle4
      have hsE := hs4
      try simp only [keys_cons, keys_app, keys_nil, Sep_cons, Sep_nil, NotIn_cons, NotIn_app, NotIn_nil, List.cons_append, List.nil_append, List.append_assoc, and_assoc, and_true, true_and] at hsE
      repeat (obtain ⟨hsx, hsE⟩ := hsE)
      repeat' first
        | with_reducible refine Br.yes ?_
        | with_reducible refine Br.no ?_
        | with_reducible refine Br.dec (fun _ => ?_) (fun _ => ?_)
        | with_reducible refine Br.beqB (fun _ => ?_) (fun _ => ?_)
        | with_reducible refine Br.beqb (fun _ => ?_) (fun _ => ?_)
        | with_reducible refine Br.mk (fun _ => ?_) (fun _ => ?_)
        | with_reducible refine foundO.mk (fun _ _ => ?_) (fun _ => ?_)
        | with_reducible refine appV.zero ?_
        | with_reducible refine appV.own ?_
        | ((with_reducible refine NewB.mk fun nb hnb => ?_); have hnb1 := hnb.1.1; have hnb2 := hnb.1.2; try simp only [keys_cons, keys_app, keys_nil, NotIn_cons, NotIn_app, NotIn_nil, and_true] at hnb2)
        | ((with_reducible refine NewRow.mk fun nb nsp ncap hnb hncap => ?_); have hnb1 := hnb.1.1; have hnb2 := hnb.1.2; try simp only [keys_cons, keys_app, keys_nil, NotIn_cons, NotIn_app, NotIn_nil, and_true] at hnb2)
        | simp (dsimp := false) (implicitDefEqProofs := false) (disch := first | assumption | (simp only [List.mem_cons, List.mem_append, true_or, or_true, eq_self]; done) | omega | (with_reducible refine Row.adr (by assumption) ?_; simp only [List.length_map, List.length_take, List.length_drop]; omega) | (simp only [List.length_cons, List.length_nil, List.length_map, List.length_append, List.length_replicate, Nat.reduceAdd, true_and, and_true, and_self]; first | done | omega)) only [go_sem, ↓reduceIte, Nat.reduceEqDiff, Nat.reduceAdd, Nat.reduceSub, Nat.reduceMul, Nat.reduceBEq, Nat.reduceLT, Nat.reduceLeDiff, Nat.reduceMod, Nat.reducePow, List.reduceReplicate, UInt8.reduceOfNat, Int.reducePow, Int.reduceDiv, Int.reduceMod, Nat.reduceDiv, Int.reduceNeg, Int.reduceAdd, Int.reduceSub, Int.reduceMul, Int.reduceLE, Int.reduceLT, Int.reduceEq, Int.reduceToNat, decide_true, decide_false, reduceCtorEq, ne_eq, not_false_eq_true, not_true_eq_false, and_true, true_and, and_self, or_true, true_or, or_false, false_or, or_self, eq_self, Option.isNone_some, Option.isNone_none, Nat.zero_add, Nat.add_zero, Nat.mul_one, Nat.one_mul, Nat.zero_mul, List.length_cons, List.length_nil, List.getElem?_cons_zero, List.getElem?_cons_succ, List.map_cons, List.map_nil, List.append_nil, -List.reduceReplicate, List.toList_toArray, hCl, hCa]
      refine same17_t (lvl d n) (lvl d n) (by rw [hlv, hok.2.2.1]; omega) (hsl3.mono hle4) hsl4 ?_
      rw [decide_eq_true rfl]
      repeat' first
        | with_reducible refine Br.yes ?_
        | with_reducible refine Br.no ?_
        | with_reducible refine Br.dec (fun _ => ?_) (fun _ => ?_)
        | with_reducible refine Br.beqB (fun _ => ?_) (fun _ => ?_)
        | with_reducible refine Br.beqb (fun _ => ?_) (fun _ => ?_)
        | with_reducible refine Br.mk (fun _ => ?_) (fun _ => ?_)
        | with_reducible refine foundO.mk (fun _ _ => ?_) (fun _ => ?_)
        | with_reducible refine appV.zero ?_
        | with_reducible refine appV.own ?_
        | ((with_reducible refine NewB.mk fun nb hnb => ?_); have hnb1 := hnb.1.1; have hnb2 := hnb.1.2; try simp only [keys_cons, keys_app, keys_nil, NotIn_cons, NotIn_app, NotIn_nil, and_true] at hnb2)
        | ((with_reducible refine NewRow.mk fun nb nsp ncap hnb hncap => ?_); have hnb1 := hnb.1.1; have hnb2 := hnb.1.2; try simp only [keys_cons, keys_app, keys_nil, NotIn_cons, NotIn_app, NotIn_nil, and_true] at hnb2)
        | simp (dsimp := false) (implicitDefEqProofs := false) (disch := first | assumption | (simp only [List.mem_cons, List.mem_append, true_or, or_true, eq_self]; done) | omega | (with_reducible refine Row.adr (by assumption) ?_; simp only [List.length_map, List.length_take, List.length_drop]; omega) | (simp only [List.length_cons, List.length_nil, List.length_map, List.length_append, List.length_replicate, Nat.reduceAdd, true_and, and_true, and_self]; first | done | omega)) only [go_sem, ↓reduceIte, Nat.reduceEqDiff, Nat.reduceAdd, Nat.reduceSub, Nat.reduceMul, Nat.reduceBEq, Nat.reduceLT, Nat.reduceLeDiff, Nat.reduceMod, Nat.reducePow, List.reduceReplicate, UInt8.reduceOfNat, Int.reducePow, Int.reduceDiv, Int.reduceMod, Nat.reduceDiv, Int.reduceNeg, Int.reduceAdd, Int.reduceSub, Int.reduceMul, Int.reduceLE, Int.reduceLT, Int.reduceEq, Int.reduceToNat, decide_true, decide_false, reduceCtorEq, ne_eq, not_false_eq_true, not_true_eq_false, and_true, true_and, and_self, or_true, true_or, or_false, false_or, or_self, eq_self, Option.isNone_some, Option.isNone_none, Nat.zero_add, Nat.add_zero, Nat.mul_one, Nat.one_mul, Nat.zero_mul, List.length_cons, List.length_nil, List.getElem?_cons_zero, List.getElem?_cons_succ, List.map_cons, List.map_nil, List.append_nil, -List.reduceReplicate, List.toList_toArray, hCl, hCa]
      refine nrounds_t hsm hok hn (O.is.mono k4) fun G5 hle5 hs5 => ?_
      have k5 := k4.trans hle5
      have hsE := hs5
      try simp only [keys_cons, keys_app, keys_nil, Sep_cons, Sep_nil, NotIn_cons, NotIn_app, NotIn_nil, List.cons_append, List.nil_append, List.append_assoc, and_assoc, and_true, true_and] at hsE
      repeat (obtain ⟨hsx, hsE⟩ := hsE)
      repeat' first
        | with_reducible refine Br.yes ?_
        | with_reducible refine Br.no ?_
        | with_reducible refine Br.dec (fun _ => ?_) (fun _ => ?_)
        | with_reducible refine Br.beqB (fun _ => ?_) (fun _ => ?_)
        | with_reducible refine Br.beqb (fun _ => ?_) (fun _ => ?_)
        | with_reducible refine Br.mk (fun _ => ?_) (fun _ => ?_)
        | with_reducible refine foundO.mk (fun _ _ => ?_) (fun _ => ?_)
        | with_reducible refine appV.zero ?_
        | with_reducible refine appV.own ?_
        | ((with_reducible refine NewB.mk fun nb hnb => ?_); have hnb1 := hnb.1.1; have hnb2 := hnb.1.2; try simp only [keys_cons, keys_app, keys_nil, NotIn_cons, NotIn_app, NotIn_nil, and_true] at hnb2)
        | ((with_reducible refine NewRow.mk fun nb nsp ncap hnb hncap => ?_); have hnb1 := hnb.1.1; have hnb2 := hnb.1.2; try simp only [keys_cons, keys_app, keys_nil, NotIn_cons, NotIn_app, NotIn_nil, and_true] at hnb2)
        | simp (dsimp := false) (implicitDefEqProofs := false) (disch := first | assumption | (simp only [List.mem_cons, List.mem_append, true_or, or_true, eq_self]; done) | omega | (with_reducible refine Row.adr (by assumption) ?_; simp only [List.length_map, List.length_take, List.length_drop]; omega) | (simp only [List.length_cons, List.length_nil, List.length_map, List.length_append, List.length_replicate, Nat.reduceAdd, true_and, and_true, and_self]; first | done | omega)) only [go_sem, ↓reduceIte, Nat.reduceEqDiff, Nat.reduceAdd, Nat.reduceSub, Nat.reduceMul, Nat.reduceBEq, Nat.reduceLT, Nat.reduceLeDiff, Nat.reduceMod, Nat.reducePow, List.reduceReplicate, UInt8.reduceOfNat, Int.reducePow, Int.reduceDiv, Int.reduceMod, Nat.reduceDiv, Int.reduceNeg, Int.reduceAdd, Int.reduceSub, Int.reduceMul, Int.reduceLE, Int.reduceLT, Int.reduceEq, Int.reduceToNat, decide_true, decide_false, reduceCtorEq, ne_eq, not_false_eq_true, not_true_eq_false, and_true, true_and, and_self, or_true, true_or, or_false, false_or, or_self, eq_self, Option.isNone_some, Option.isNone_none, Nat.zero_add, Nat.add_zero, Nat.mul_one, Nat.one_mul, Nat.zero_mul, List.length_cons, List.length_nil, List.getElem?_cons_zero, List.getElem?_cons_succ, List.map_cons, List.map_nil, List.append_nil, -List.reduceReplicate, List.toList_toArray, hCl, hCa]
      refine rrounds_t hsm hok hn (O.is.mono k5) fun G6 hle6 hs6 => ?_
      have k6 := k5.trans hle6
      have hsE := hs6
      try simp only [keys_cons, keys_app, keys_nil, Sep_cons, Sep_nil, NotIn_cons, NotIn_app, NotIn_nil, List.cons_append, List.nil_append, List.append_assoc, and_assoc, and_true, true_and] at hsE
      repeat (obtain ⟨hsx, hsE⟩ := hsE)
      repeat' first
        | with_reducible refine Br.yes ?_
        | with_reducible refine Br.no ?_
        | with_reducible refine Br.dec (fun _ => ?_) (fun _ => ?_)
        | with_reducible refine Br.beqB (fun _ => ?_) (fun _ => ?_)
        | with_reducible refine Br.beqb (fun _ => ?_) (fun _ => ?_)
        | with_reducible refine Br.mk (fun _ => ?_) (fun _ => ?_)
        | with_reducible refine foundO.mk (fun _ _ => ?_) (fun _ => ?_)
        | with_reducible refine appV.zero ?_
        | with_reducible refine appV.own ?_
        | ((with_reducible refine NewB.mk fun nb hnb => ?_); have hnb1 := hnb.1.1; have hnb2 := hnb.1.2; try simp only [keys_cons, keys_app, keys_nil, NotIn_cons, NotIn_app, NotIn_nil, and_true] at hnb2)
        | ((with_reducible refine NewRow.mk fun nb nsp ncap hnb hncap => ?_); have hnb1 := hnb.1.1; have hnb2 := hnb.1.2; try simp only [keys_cons, keys_app, keys_nil, NotIn_cons, NotIn_app, NotIn_nil, and_true] at hnb2)
        | simp (dsimp := false) (implicitDefEqProofs := false) (disch := first | assumption | (simp only [List.mem_cons, List.mem_append, true_or, or_true, eq_self]; done) | omega | (with_reducible refine Row.adr (by assumption) ?_; simp only [List.length_map, List.length_take, List.length_drop]; omega) | (simp only [List.length_cons, List.length_nil, List.length_map, List.length_append, List.length_replicate, Nat.reduceAdd, true_and, and_true, and_self]; first | done | omega)) only [go_sem, ↓reduceIte, Nat.reduceEqDiff, Nat.reduceAdd, Nat.reduceSub, Nat.reduceMul, Nat.reduceBEq, Nat.reduceLT, Nat.reduceLeDiff, Nat.reduceMod, Nat.reducePow, List.reduceReplicate, UInt8.reduceOfNat, Int.reducePow, Int.reduceDiv, Int.reduceMod, Nat.reduceDiv, Int.reduceNeg, Int.reduceAdd, Int.reduceSub, Int.reduceMul, Int.reduceLE, Int.reduceLT, Int.reduceEq, Int.reduceToNat, decide_true, decide_false, reduceCtorEq, ne_eq, not_false_eq_true, not_true_eq_false, and_true, true_and, and_self, or_true, true_or, or_false, false_or, or_self, eq_self, Option.isNone_some, Option.isNone_none, Nat.zero_add, Nat.add_zero, Nat.mul_one, Nat.one_mul, Nat.zero_mul, List.length_cons, List.length_nil, List.getElem?_cons_zero, List.getElem?_cons_succ, List.map_cons, List.map_nil, List.append_nil, -List.reduceReplicate, List.toList_toArray, hCl, hCa]
      refine knows_t fun G7 hle7 => ?_
      repeat' first
        | with_reducible refine Br.yes ?_
        | with_reducible refine Br.no ?_
        | with_reducible refine Br.dec (fun _ => ?_) (fun _ => ?_)
        | with_reducible refine Br.beqB (fun _ => ?_) (fun _ => ?_)
        | with_reducible refine Br.beqb (fun _ => ?_) (fun _ => ?_)
        | with_reducible refine Br.mk (fun _ => ?_) (fun _ => ?_)
        | with_reducible refine foundO.mk (fun _ _ => ?_) (fun _ => ?_)
        | with_reducible refine appV.zero ?_
        | with_reducible refine appV.own ?_
        | ((with_reducible refine NewB.mk fun nb hnb => ?_); have hnb1 := hnb.1.1; have hnb2 := hnb.1.2; try simp only [keys_cons, keys_app, keys_nil, NotIn_cons, NotIn_app, NotIn_nil, and_true] at hnb2)
        | ((with_reducible refine NewRow.mk fun nb nsp ncap hnb hncap => ?_); have hnb1 := hnb.1.1; have hnb2 := hnb.1.2; try simp only [keys_cons, keys_app, keys_nil, NotIn_cons, NotIn_app, NotIn_nil, and_true] at hnb2)
        | simp (dsimp := false) (implicitDefEqProofs := false) (disch := first | assumption | (simp only [List.mem_cons, List.mem_append, true_or, or_true, eq_self]; done) | omega | (with_reducible refine Row.adr (by assumption) ?_; simp only [List.length_map, List.length_take, List.length_drop]; omega) | (simp only [List.length_cons, List.length_nil, List.length_map, List.length_append, List.length_replicate, Nat.reduceAdd, true_and, and_true, and_self]; first | done | omega)) only [go_sem, ↓reduceIte, Nat.reduceEqDiff, Nat.reduceAdd, Nat.reduceSub, Nat.reduceMul, Nat.reduceBEq, Nat.reduceLT, Nat.reduceLeDiff, Nat.reduceMod, Nat.reducePow, List.reduceReplicate, UInt8.reduceOfNat, Int.reducePow, Int.reduceDiv, Int.reduceMod, Nat.reduceDiv, Int.reduceNeg, Int.reduceAdd, Int.reduceSub, Int.reduceMul, Int.reduceLE, Int.reduceLT, Int.reduceEq, Int.reduceToNat, decide_true, decide_false, reduceCtorEq, ne_eq, not_false_eq_true, not_true_eq_false, and_true, true_and, and_self, or_true, true_or, or_false, false_or, or_self, eq_self, Option.isNone_some, Option.isNone_none, Nat.zero_add, Nat.add_zero, Nat.mul_one, Nat.one_mul, Nat.zero_mul, List.length_cons, List.length_nil, List.getElem?_cons_zero, List.getElem?_cons_succ, List.map_cons, List.map_nil, List.append_nil, -List.reduceReplicate, List.toList_toArray, hCl, hCa]
      all_goals refine Upd.finL ?_ (hR G7 (k6.trans hle7)) ?_
      any_goals (intro fsum; first | exact Nat.le_refl _ | (simp only [List.map_append, List.map_cons, List.map_nil, List.sum_append, List.sum_cons, List.sum_nil, List.cons_append, List.nil_append]; omega))
      all_goals rfl
  · have hbo := boolOf_no hok
    refine FnT.body tok [0, 1, 2, 5] Try.func3 rfl (by kernel_rfl) (by kernel_rfl) (by show _ ≤ 44; simp) fun hsep => ?_
    rw [Try.results3]
    have hsE := hsep
    try simp only [keys_cons, keys_app, keys_nil, Sep_cons, Sep_nil, NotIn_cons, NotIn_app, NotIn_nil, List.cons_append, List.nil_append, List.append_assoc, and_assoc, and_true, true_and] at hsE
    repeat (obtain ⟨hsx, hsE⟩ := hsE)
    repeat' first
      | with_reducible refine Br.yes ?_
      | with_reducible refine Br.no ?_
      | with_reducible refine Br.dec (fun _ => ?_) (fun _ => ?_)
      | with_reducible refine Br.beqB (fun _ => ?_) (fun _ => ?_)
      | with_reducible refine Br.beqb (fun _ => ?_) (fun _ => ?_)
      | with_reducible refine Br.mk (fun _ => ?_) (fun _ => ?_)
      | with_reducible refine foundO.mk (fun _ _ => ?_) (fun _ => ?_)
      | with_reducible refine appV.zero ?_
      | with_reducible refine appV.own ?_
      | ((with_reducible refine NewB.mk fun nb hnb => ?_); have hnb1 := hnb.1.1; have hnb2 := hnb.1.2; try simp only [keys_cons, keys_app, keys_nil, NotIn_cons, NotIn_app, NotIn_nil, and_true] at hnb2)
      | ((with_reducible refine NewRow.mk fun nb nsp ncap hnb hncap => ?_); have hnb1 := hnb.1.1; have hnb2 := hnb.1.2; try simp only [keys_cons, keys_app, keys_nil, NotIn_cons, NotIn_app, NotIn_nil, and_true] at hnb2)
      | simp (dsimp := false) (implicitDefEqProofs := false) (disch := first | assumption | (simp only [List.mem_cons, List.mem_append, true_or, or_true, eq_self]; done) | omega | (with_reducible refine Row.adr (by assumption) ?_; simp only [List.length_map, List.length_take, List.length_drop]; omega) | (simp only [List.length_cons, List.length_nil, List.length_map, List.length_append, List.length_replicate, Nat.reduceAdd, true_and, and_true, and_self]; first | done | omega)) only [go_sem, ↓reduceIte, Nat.reduceEqDiff, Nat.reduceAdd, Nat.reduceSub, Nat.reduceMul, Nat.reduceBEq, Nat.reduceLT, Nat.reduceLeDiff, Nat.reduceMod, Nat.reducePow, List.reduceReplicate, UInt8.reduceOfNat, Int.reducePow, Int.reduceDiv, Int.reduceMod, Nat.reduceDiv, Int.reduceNeg, Int.reduceAdd, Int.reduceSub, Int.reduceMul, Int.reduceLE, Int.reduceLT, Int.reduceEq, Int.reduceToNat, decide_true, decide_false, reduceCtorEq, ne_eq, not_false_eq_true, not_true_eq_false, and_true, true_and, and_self, or_true, true_or, or_false, false_or, or_self, eq_self, Option.isNone_some, Option.isNone_none, Nat.zero_add, Nat.add_zero, Nat.mul_one, Nat.one_mul, Nat.zero_mul, List.length_cons, List.length_nil, List.getElem?_cons_zero, List.getElem?_cons_succ, List.map_cons, List.map_nil, List.append_nil, -List.reduceReplicate, List.toList_toArray, hCl, hCa, hbo]
      | with_reducible refine right_t hsm O.is ?_
    obtain ⟨b2, e0⟩ : ∃ x, x = nb := ⟨_, rfl⟩
    subst e0
    refine blocks_t hsm O.is fun G2 v2 hle2 hs2 hsl2 => ?_
    rw [aftD_no hok] at hsl2
    obtain ⟨a2, c2, rfl, hr2, hc2⟩ := hsl2
    have hsE := hs2
    try simp only [keys_cons, keys_app, keys_nil, Sep_cons, Sep_nil, NotIn_cons, NotIn_app, NotIn_nil, List.cons_append, List.nil_append, List.append_assoc, and_assoc, and_true, true_and] at hsE
    repeat (obtain ⟨hsx, hsE⟩ := hsE)
    repeat' first
      | with_reducible refine Br.yes ?_
      | with_reducible refine Br.no ?_
      | with_reducible refine Br.dec (fun _ => ?_) (fun _ => ?_)
      | with_reducible refine Br.beqB (fun _ => ?_) (fun _ => ?_)
      | with_reducible refine Br.beqb (fun _ => ?_) (fun _ => ?_)
      | with_reducible refine Br.mk (fun _ => ?_) (fun _ => ?_)
      | with_reducible refine foundO.mk (fun _ _ => ?_) (fun _ => ?_)
      | with_reducible refine appV.zero ?_
      | with_reducible refine appV.own ?_
      | ((with_reducible refine NewB.mk fun nb hnb => ?_); have hnb1 := hnb.1.1; have hnb2 := hnb.1.2; try simp only [keys_cons, keys_app, keys_nil, NotIn_cons, NotIn_app, NotIn_nil, and_true] at hnb2)
      | ((with_reducible refine NewRow.mk fun nb nsp ncap hnb hncap => ?_); have hnb1 := hnb.1.1; have hnb2 := hnb.1.2; try simp only [keys_cons, keys_app, keys_nil, NotIn_cons, NotIn_app, NotIn_nil, and_true] at hnb2)
      | simp (dsimp := false) (implicitDefEqProofs := false) (disch := first | assumption | (simp only [List.mem_cons, List.mem_append, true_or, or_true, eq_self]; done) | omega | (with_reducible refine Row.adr (by assumption) ?_; simp only [List.length_map, List.length_take, List.length_drop]; omega) | (simp only [List.length_cons, List.length_nil, List.length_map, List.length_append, List.length_replicate, Nat.reduceAdd, true_and, and_true, and_self]; first | done | omega)) only [go_sem, ↓reduceIte, Nat.reduceEqDiff, Nat.reduceAdd, Nat.reduceSub, Nat.reduceMul, Nat.reduceBEq, Nat.reduceLT, Nat.reduceLeDiff, Nat.reduceMod, Nat.reducePow, List.reduceReplicate, UInt8.reduceOfNat, Int.reducePow, Int.reduceDiv, Int.reduceMod, Nat.reduceDiv, Int.reduceNeg, Int.reduceAdd, Int.reduceSub, Int.reduceMul, Int.reduceLE, Int.reduceLT, Int.reduceEq, Int.reduceToNat, decide_true, decide_false, reduceCtorEq, ne_eq, not_false_eq_true, not_true_eq_false, and_true, true_and, and_self, or_true, true_or, or_false, false_or, or_self, eq_self, Option.isNone_some, Option.isNone_none, Nat.zero_add, Nat.add_zero, Nat.mul_one, Nat.one_mul, Nat.zero_mul, List.length_cons, List.length_nil, List.getElem?_cons_zero, List.getElem?_cons_succ, List.map_cons, List.map_nil, List.append_nil, -List.reduceReplicate, List.toList_toArray, hCl, hCa]
    refine after_t hsm (O.is.mono hle2) fun G3 v3 hle3 hs3 hsl3 => ?_
    rw [aftD_no hok] at hsl3
    obtain ⟨a3, c3, rfl, hr3, hc3⟩ := hsl3
    have k3 := hle2.trans hle3
    have hsE := hs3
    try simp only [keys_cons, keys_app, keys_nil, Sep_cons, Sep_nil, NotIn_cons, NotIn_app, NotIn_nil, List.cons_append, List.nil_append, List.append_assoc, and_assoc, and_true, true_and] at hsE
    repeat (obtain ⟨hsx, hsE⟩ := hsE)
    repeat' first
      | with_reducible refine Br.yes ?_
      | with_reducible refine Br.no ?_
      | with_reducible refine Br.dec (fun _ => ?_) (fun _ => ?_)
      | with_reducible refine Br.beqB (fun _ => ?_) (fun _ => ?_)
      | with_reducible refine Br.beqb (fun _ => ?_) (fun _ => ?_)
      | with_reducible refine Br.mk (fun _ => ?_) (fun _ => ?_)
      | with_reducible refine foundO.mk (fun _ _ => ?_) (fun _ => ?_)
      | with_reducible refine appV.zero ?_
      | with_reducible refine appV.own ?_
      | ((with_reducible refine NewB.mk fun nb hnb => ?_); have hnb1 := hnb.1.1; have hnb2 := hnb.1.2; try simp only [keys_cons, keys_app, keys_nil, NotIn_cons, NotIn_app, NotIn_nil, and_true] at hnb2)
      | ((with_reducible refine NewRow.mk fun nb nsp ncap hnb hncap => ?_); have hnb1 := hnb.1.1; have hnb2 := hnb.1.2; try simp only [keys_cons, keys_app, keys_nil, NotIn_cons, NotIn_app, NotIn_nil, and_true] at hnb2)
      | simp (dsimp := false) (implicitDefEqProofs := false) (disch := first | assumption | (simp only [List.mem_cons, List.mem_append, true_or, or_true, eq_self]; done) | omega | (with_reducible refine Row.adr (by assumption) ?_; simp only [List.length_map, List.length_take, List.length_drop]; omega) | (simp only [List.length_cons, List.length_nil, List.length_map, List.length_append, List.length_replicate, Nat.reduceAdd, true_and, and_true, and_self]; first | done | omega)) only [go_sem, ↓reduceIte, Nat.reduceEqDiff, Nat.reduceAdd, Nat.reduceSub, Nat.reduceMul, Nat.reduceBEq, Nat.reduceLT, Nat.reduceLeDiff, Nat.reduceMod, Nat.reducePow, List.reduceReplicate, UInt8.reduceOfNat, Int.reducePow, Int.reduceDiv, Int.reduceMod, Nat.reduceDiv, Int.reduceNeg, Int.reduceAdd, Int.reduceSub, Int.reduceMul, Int.reduceLE, Int.reduceLT, Int.reduceEq, Int.reduceToNat, decide_true, decide_false, reduceCtorEq, ne_eq, not_false_eq_true, not_true_eq_false, and_true, true_and, and_self, or_true, true_or, or_false, false_or, or_self, eq_self, Option.isNone_some, Option.isNone_none, Nat.zero_add, Nat.add_zero, Nat.mul_one, Nat.one_mul, Nat.zero_mul, List.length_cons, List.length_nil, List.getElem?_cons_zero, List.getElem?_cons_succ, List.map_cons, List.map_nil, List.append_nil, -List.reduceReplicate, List.toList_toArray, hCl, hCa]
    refine nrounds_bad_t hsm hok (O.is.mono k3) ?_
    repeat' first
      | with_reducible refine Br.yes ?_
      | with_reducible refine Br.no ?_
      | with_reducible refine Br.dec (fun _ => ?_) (fun _ => ?_)
      | with_reducible refine Br.beqB (fun _ => ?_) (fun _ => ?_)
      | with_reducible refine Br.beqb (fun _ => ?_) (fun _ => ?_)
      | with_reducible refine Br.mk (fun _ => ?_) (fun _ => ?_)
      | with_reducible refine foundO.mk (fun _ _ => ?_) (fun _ => ?_)
      | with_reducible refine appV.zero ?_
      | with_reducible refine appV.own ?_
      | ((with_reducible refine NewB.mk fun nb hnb => ?_); have hnb1 := hnb.1.1; have hnb2 := hnb.1.2; try simp only [keys_cons, keys_app, keys_nil, NotIn_cons, NotIn_app, NotIn_nil, and_true] at hnb2)
      | ((with_reducible refine NewRow.mk fun nb nsp ncap hnb hncap => ?_); have hnb1 := hnb.1.1; have hnb2 := hnb.1.2; try simp only [keys_cons, keys_app, keys_nil, NotIn_cons, NotIn_app, NotIn_nil, and_true] at hnb2)
      | simp (dsimp := false) (implicitDefEqProofs := false) (disch := first | assumption | (simp only [List.mem_cons, List.mem_append, true_or, or_true, eq_self]; done) | omega | (with_reducible refine Row.adr (by assumption) ?_; simp only [List.length_map, List.length_take, List.length_drop]; omega) | (simp only [List.length_cons, List.length_nil, List.length_map, List.length_append, List.length_replicate, Nat.reduceAdd, true_and, and_true, and_self]; first | done | omega)) only [go_sem, ↓reduceIte, Nat.reduceEqDiff, Nat.reduceAdd, Nat.reduceSub, Nat.reduceMul, Nat.reduceBEq, Nat.reduceLT, Nat.reduceLeDiff, Nat.reduceMod, Nat.reducePow, List.reduceReplicate, UInt8.reduceOfNat, Int.reducePow, Int.reduceDiv, Int.reduceMod, Nat.reduceDiv, Int.reduceNeg, Int.reduceAdd, Int.reduceSub, Int.reduceMul, Int.reduceLE, Int.reduceLT, Int.reduceEq, Int.reduceToNat, decide_true, decide_false, reduceCtorEq, ne_eq, not_false_eq_true, not_true_eq_false, and_true, true_and, and_self, or_true, true_or, or_false, false_or, or_self, eq_self, Option.isNone_some, Option.isNone_none, Nat.zero_add, Nat.add_zero, Nat.mul_one, Nat.one_mul, Nat.zero_mul, List.length_cons, List.length_nil, List.getElem?_cons_zero, List.getElem?_cons_succ, List.map_cons, List.map_nil, List.append_nil, -List.reduceReplicate, List.toList_toArray, hCl, hCa]
    refine knows_t fun G7 hle7 => ?_
    repeat' first
      | with_reducible refine Br.yes ?_
      | with_reducible refine Br.no ?_
      | with_reducible refine Br.dec (fun _ => ?_) (fun _ => ?_)
      | with_reducible refine Br.beqB (fun _ => ?_) (fun _ => ?_)
      | with_reducible refine Br.beqb (fun _ => ?_) (fun _ => ?_)
      | with_reducible refine Br.mk (fun _ => ?_) (fun _ => ?_)
      | with_reducible refine foundO.mk (fun _ _ => ?_) (fun _ => ?_)
      | with_reducible refine appV.zero ?_
      | with_reducible refine appV.own ?_
      | ((with_reducible refine NewB.mk fun nb hnb => ?_); have hnb1 := hnb.1.1; have hnb2 := hnb.1.2; try simp only [keys_cons, keys_app, keys_nil, NotIn_cons, NotIn_app, NotIn_nil, and_true] at hnb2)
      | ((with_reducible refine NewRow.mk fun nb nsp ncap hnb hncap => ?_); have hnb1 := hnb.1.1; have hnb2 := hnb.1.2; try simp only [keys_cons, keys_app, keys_nil, NotIn_cons, NotIn_app, NotIn_nil, and_true] at hnb2)
      | simp (dsimp := false) (implicitDefEqProofs := false) (disch := first | assumption | (simp only [List.mem_cons, List.mem_append, true_or, or_true, eq_self]; done) | omega | (with_reducible refine Row.adr (by assumption) ?_; simp only [List.length_map, List.length_take, List.length_drop]; omega) | (simp only [List.length_cons, List.length_nil, List.length_map, List.length_append, List.length_replicate, Nat.reduceAdd, true_and, and_true, and_self]; first | done | omega)) only [go_sem, ↓reduceIte, Nat.reduceEqDiff, Nat.reduceAdd, Nat.reduceSub, Nat.reduceMul, Nat.reduceBEq, Nat.reduceLT, Nat.reduceLeDiff, Nat.reduceMod, Nat.reducePow, List.reduceReplicate, UInt8.reduceOfNat, Int.reducePow, Int.reduceDiv, Int.reduceMod, Nat.reduceDiv, Int.reduceNeg, Int.reduceAdd, Int.reduceSub, Int.reduceMul, Int.reduceLE, Int.reduceLT, Int.reduceEq, Int.reduceToNat, decide_true, decide_false, reduceCtorEq, ne_eq, not_false_eq_true, not_true_eq_false, and_true, true_and, and_self, or_true, true_or, or_false, false_or, or_self, eq_self, Option.isNone_some, Option.isNone_none, Nat.zero_add, Nat.add_zero, Nat.mul_one, Nat.one_mul, Nat.zero_mul, List.length_cons, List.length_nil, List.getElem?_cons_zero, List.getElem?_cons_succ, List.map_cons, List.map_nil, List.append_nil, -List.reduceReplicate, List.toList_toArray, hCl, hCa]
    all_goals refine Upd.finL ?_ (hR G7 (k3.trans hle7)) ?_
    any_goals (intro fsum; first | exact Nat.le_refl _ | (simp only [List.map_append, List.map_cons, List.map_nil, List.sum_append, List.sum_cons, List.sum_nil, List.cons_append, List.nil_append]; omega))
    all_goals rfl
end Go.Proofs.Ytmlmhcejdlljjaa
