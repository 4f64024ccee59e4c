/- The law of what is done to a table: contract. -/
import Derived.Test.YtkojnphddaccfaaFc
set_option linter.unusedSimpArgs false
set_option linter.unusedVariables false
namespace Go.Proofs.Ytkojnphddaccfaa
open Go Go.V Go.Proofs

structure OpT where
  kind : Int
  k : List UInt8
  i : Int
def encOp (o : OpT) : List Value := [.int .i64 o.kind, str o.k, .int .i64 o.i]
theorem encOp_len (o : OpT) : (encOp o).length = 3 := rfl
theorem callee19 : V.Callee Try.prog 19 := ⟨_, _, Try.func19, rfl, by kernel_rfl⟩
theorem findF_of {ks : List (List UInt8)} {k : List UInt8} {n : Nat} (h : place ks k = some n) : findF ks k = n := by unfold findF; rw [h]
theorem findF_no {ks : List (List UInt8)} {k : List UInt8} (h : place ks k = none) : findF ks k = -1 := by unfold findF; rw [h]
theorem findF_end {ks : List (List UInt8)} {k : List UInt8} (h : place ks k = none) : findF (ks ++ [k]) k = ks.length := by
  unfold findF place
  unfold place at h
  rw [List.findIdx?_append, h]
  simp

set_option maxHeartbeats 16000000 in
theorem does_t (l : List OpT) (hlen : l.length ≤ 1048576) {G : PHeap} {H : Heap} {R : Value → PHeap → Heap → Prop} {v : Value} (hv : SlM G encOp v l) (hR : ∀ G', PLe G G' → R (.bool true) G' H) : FnT Try.prog 4 [v] G H R := by
  obtain ⟨a, cap, rfl, hrow, hcap⟩ := hv
  refine FnT.body tok [0, 2, 3, 4, 5, 6, 7, 8, 9, 10, 11, 19, 29, 37, 46, 62, 81, 82, 92, 93, 133, 145] Try.func4 rfl (by kernel_rfl) (by kernel_rfl) (by show _ ≤ 147; simp) fun hsep => ?_
  rw [Try.results4]
  have hsE := hsep
  try simp only [keys_cons, keys_app, keys_nil, Sep_cons, Sep_nil, NotIn_cons, NotIn_app, NotIn_nil, List.cons_append, List.nil_append, List.append_assoc, and_assoc, and_true, true_and] at hsE
  repeat (obtain ⟨hsx, hsE⟩ := hsE)
  repeat' first
    | with_reducible refine Br.yes ?_
    | with_reducible refine Br.no ?_
    | with_reducible refine Br.dec (fun _ => ?_) (fun _ => ?_)
    | with_reducible refine Br.beqB (fun _ => ?_) (fun _ => ?_)
    | with_reducible refine Br.beqb (fun _ => ?_) (fun _ => ?_)
    | with_reducible refine Br.mk (fun _ => ?_) (fun _ => ?_)
    | with_reducible refine foundO.mk (fun _ _ => ?_) (fun _ => ?_)
    | with_reducible refine appV.zero ?_
    | with_reducible refine appV.own ?_
    | ((with_reducible refine NewB.mk fun nb hnb => ?_); have hnb1 := hnb.1.1; have hnb2 := hnb.1.2; try simp only [keys_cons, keys_app, keys_nil, NotIn_cons, NotIn_app, NotIn_nil, and_true] at hnb2)
    | ((with_reducible refine NewRow.mk fun nb nsp ncap hnb hncap => ?_); have hnb1 := hnb.1.1; have hnb2 := hnb.1.2; try simp only [keys_cons, keys_app, keys_nil, NotIn_cons, NotIn_app, NotIn_nil, and_true] at hnb2)
    | with_reducible refine Tri.drawH tok mixed [0, 2, 3, 4, 5, 6, 7, 8, 9, 10, 11, 19, 29, 37, 46, 62, 81, 82, 92, 93, 133, 145] 18 [4] (.op 1 .plain (.op 3 .plain (.op 4 .held (.both (.op 0 .keeps (.both (.op 2 .keeps (.op 5 .plain (.op 6 .keeps (.op 7 .plain .nil)))) (.op 5 .plain (.op 2 .keeps (.op 6 .keeps (.op 7 .plain .nil)))))) (.op 5 .plain (.op 0 .keeps (.op 2 .keeps (.op 6 .keeps (.op 7 .plain .nil))))))))) (by kernel_rfl) [6] ?_
    | with_reducible refine Tri.drawH tok mixed [0, 2, 3, 4, 5, 6, 7, 8, 9, 10, 11, 19, 29, 37, 46, 62, 81, 82, 92, 93, 133, 145] 22 [2, 6] (.op 0 .plain (.op 1 .plain (.op 2 .held (.op 4 .plain (.op 5 .plain (.op 6 .held (.op 3 .keeps (.op 7 .keeps (.op 8 .plain .nil))))))))) (by kernel_rfl) [6] ?_
    | simp (dsimp := false) (implicitDefEqProofs := false) (disch := first | assumption | (simp only [List.mem_cons, List.mem_append, true_or, or_true, eq_self]; done) | omega | (with_reducible refine Row.adr (by assumption) ?_; simp only [List.length_map, List.length_take, List.length_drop]; omega) | (simp only [List.length_cons, List.length_nil, List.length_map, List.length_append, List.length_replicate, Nat.reduceAdd, true_and, and_true, and_self]; first | done | omega)) only [go_sem, ↓reduceIte, Nat.reduceEqDiff, Nat.reduceAdd, Nat.reduceSub, Nat.reduceMul, Nat.reduceBEq, Nat.reduceLT, Nat.reduceLeDiff, Nat.reduceMod, Nat.reducePow, List.reduceReplicate, UInt8.reduceOfNat, Int.reducePow, Int.reduceDiv, Int.reduceMod, Nat.reduceDiv, Int.reduceNeg, Int.reduceAdd, Int.reduceSub, Int.reduceMul, Int.reduceLE, Int.reduceLT, Int.reduceEq, Int.reduceToNat, decide_true, decide_false, reduceCtorEq, ne_eq, not_false_eq_true, not_true_eq_false, and_true, true_and, and_self, or_true, true_or, or_false, false_or, or_self, eq_self, Option.isNone_some, Option.isNone_none, Nat.zero_add, Nat.add_zero, Nat.mul_one, Nat.one_mul, Nat.zero_mul, List.length_cons, List.length_nil, List.getElem?_cons_zero, List.getElem?_cons_succ, List.map_cons, List.map_nil, List.append_nil]
  refine news_t fun tb pt hs ht => ?_
  obtain ⟨bt, rfl⟩ := ht.ptr
  repeat' first
    | with_reducible refine Br.yes ?_
    | with_reducible refine Br.no ?_
    | with_reducible refine Br.dec (fun _ => ?_) (fun _ => ?_)
    | with_reducible refine Br.beqB (fun _ => ?_) (fun _ => ?_)
    | with_reducible refine Br.beqb (fun _ => ?_) (fun _ => ?_)
    | with_reducible refine Br.mk (fun _ => ?_) (fun _ => ?_)
    | with_reducible refine foundO.mk (fun _ _ => ?_) (fun _ => ?_)
    | with_reducible refine appV.zero ?_
    | with_reducible refine appV.own ?_
    | ((with_reducible refine NewB.mk fun nb hnb => ?_); have hnb1 := hnb.1.1; have hnb2 := hnb.1.2; try simp only [keys_cons, keys_app, keys_nil, NotIn_cons, NotIn_app, NotIn_nil, and_true] at hnb2)
    | ((with_reducible refine NewRow.mk fun nb nsp ncap hnb hncap => ?_); have hnb1 := hnb.1.1; have hnb2 := hnb.1.2; try simp only [keys_cons, keys_app, keys_nil, NotIn_cons, NotIn_app, NotIn_nil, and_true] at hnb2)
    | with_reducible refine Tri.drawH tok mixed [0, 2, 3, 4, 5, 6, 7, 8, 9, 10, 11, 19, 29, 37, 46, 62, 81, 82, 92, 93, 133, 145] 18 [4] (.op 1 .plain (.op 3 .plain (.op 4 .held (.both (.op 0 .keeps (.both (.op 2 .keeps (.op 5 .plain (.op 6 .keeps (.op 7 .plain .nil)))) (.op 5 .plain (.op 2 .keeps (.op 6 .keeps (.op 7 .plain .nil)))))) (.op 5 .plain (.op 0 .keeps (.op 2 .keeps (.op 6 .keeps (.op 7 .plain .nil))))))))) (by kernel_rfl) [6] ?_
    | with_reducible refine Tri.drawH tok mixed [0, 2, 3, 4, 5, 6, 7, 8, 9, 10, 11, 19, 29, 37, 46, 62, 81, 82, 92, 93, 133, 145] 22 [2, 6] (.op 0 .plain (.op 1 .plain (.op 2 .held (.op 4 .plain (.op 5 .plain (.op 6 .held (.op 3 .keeps (.op 7 .keeps (.op 8 .plain .nil))))))))) (by kernel_rfl) [6] ?_
    | simp (dsimp := false) (implicitDefEqProofs := false) (disch := first | assumption | (simp only [List.mem_cons, List.mem_append, true_or, or_true, eq_self]; done) | omega | (with_reducible refine Row.adr (by assumption) ?_; simp only [List.length_map, List.length_take, List.length_drop]; omega) | (simp only [List.length_cons, List.length_nil, List.length_map, List.length_append, List.length_replicate, Nat.reduceAdd, true_and, and_true, and_self]; first | done | omega)) only [go_sem, ↓reduceIte, Nat.reduceEqDiff, Nat.reduceAdd, Nat.reduceSub, Nat.reduceMul, Nat.reduceBEq, Nat.reduceLT, Nat.reduceLeDiff, Nat.reduceMod, Nat.reducePow, List.reduceReplicate, UInt8.reduceOfNat, Int.reducePow, Int.reduceDiv, Int.reduceMod, Nat.reduceDiv, Int.reduceNeg, Int.reduceAdd, Int.reduceSub, Int.reduceMul, Int.reduceLE, Int.reduceLT, Int.reduceEq, Int.reduceToNat, decide_true, decide_false, reduceCtorEq, ne_eq, not_false_eq_true, not_true_eq_false, and_true, true_and, and_self, or_true, true_or, or_false, false_or, or_self, eq_self, Option.isNone_some, Option.isNone_none, Nat.zero_add, Nat.add_zero, Nat.mul_one, Nat.one_mul, Nat.zero_mul, List.length_cons, List.length_nil, List.getElem?_cons_zero, List.getElem?_cons_succ, List.map_cons, List.map_nil, List.append_nil]
    | refine knows_t ?_
  · all_goals refine Upd.finL ?_ (hR G (PLe.refl _)) ?_
    any_goals (intro fsum; first | exact Nat.le_refl _ | (simp only [List.map_append, List.map_cons, List.map_nil, List.sum_append, List.sum_cons, List.sum_nil, List.cons_append, List.nil_append]; omega))
    rfl
  · rename_i h80
    refine Tri.loopU tok [0, 2, 3, 4, 5, 6, 7, 8, 9, 10, 11, 19, 29, 37, 46, 62, 81, 82, 92, 93, 133, 145] (by kernel_rfl) [0, 2, 3, 4, 5] (fun n G' fr H' => ∃ (i : Nat) (tb' : Heap) (ks : List (List UInt8)) (mv : Value), i + n = l.length ∧ ks.length ≤ i ∧ Tabs tb' (.pointer (some ⟨bt, 0, none⟩)) ks ∧ Sl G' str mv ks ∧ H' = tb' ++ H ∧ fr = [(0, .slice a l.length cap), (2, .bool false), (3, .pointer (some ⟨bt, 0, none⟩)), (4, mv), (5, .int .i64 i)]) (l.length) ?_ ?_
    · exact Upd.go (H' := tb ++ H) (by intro fsum; first | exact Nat.le_refl _ | (simp only [List.map_append, List.map_cons, List.map_nil, List.sum_append, List.sum_cons, List.sum_nil, List.cons_append, List.nil_append]; omega)) (Upd.now ⟨0, tb, [], _, by omega, by simp, ht, ⟨some ⟨nb, 0, none⟩, 0, rfl, Row.nil _ _, Nat.le_refl _⟩, rfl, rfl⟩)
    · clear ht hs
      rintro n G' fr H' hle hs ⟨i, tb, ks, mv, hi, hk, ht, hm, rfl, rfl⟩
      have hrow' := hrow.mono hle
      obtain ⟨ma, mcap, rfl, hmrow, hmcap⟩ := hm
      by_cases hil : i < l.length
      · have had : Adr a := hrow'.adr (by rw [flatMap_len encOp_len]; omega)
        have hm : Sl G' str (.slice ma ks.length mcap) ks := ⟨ma, mcap, rfl, hmrow, hmcap⟩
        have hnow := ht.nodup
        by_cases hk1 : l[i].kind = 0 ∨ l[i].kind = 1 ∨ l[i].kind = 2
        · repeat' first
            | with_reducible refine Br.yes ?_
            | with_reducible refine Br.no ?_
            | with_reducible refine Br.dec (fun _ => ?_) (fun _ => ?_)
            | with_reducible refine Br.beqB (fun _ => ?_) (fun _ => ?_)
            | with_reducible refine Br.beqb (fun _ => ?_) (fun _ => ?_)
            | with_reducible refine Br.mk (fun _ => ?_) (fun _ => ?_)
            | with_reducible refine foundO.mk (fun _ _ => ?_) (fun _ => ?_)
            | with_reducible refine appV.zero ?_
            | with_reducible refine appV.own ?_
            | ((with_reducible refine NewB.mk fun nb hnb => ?_); have hnb1 := hnb.1.1; have hnb2 := hnb.1.2; try simp only [keys_cons, keys_app, keys_nil, NotIn_cons, NotIn_app, NotIn_nil, and_true] at hnb2)
            | ((with_reducible refine NewRow.mk fun nb nsp ncap hnb hncap => ?_); have hnb1 := hnb.1.1; have hnb2 := hnb.1.2; try simp only [keys_cons, keys_app, keys_nil, NotIn_cons, NotIn_app, NotIn_nil, and_true] at hnb2)
            | with_reducible refine Tri.drawH tok mixed [0, 2, 3, 4, 5, 6, 7, 8, 9, 10, 11, 19, 29, 37, 46, 62, 81, 82, 92, 93, 133, 145] 18 [4] (.op 1 .plain (.op 3 .plain (.op 4 .held (.both (.op 0 .keeps (.both (.op 2 .keeps (.op 5 .plain (.op 6 .keeps (.op 7 .plain .nil)))) (.op 5 .plain (.op 2 .keeps (.op 6 .keeps (.op 7 .plain .nil)))))) (.op 5 .plain (.op 0 .keeps (.op 2 .keeps (.op 6 .keeps (.op 7 .plain .nil))))))))) (by kernel_rfl) [6] ?_
            | with_reducible refine Tri.drawH tok mixed [0, 2, 3, 4, 5, 6, 7, 8, 9, 10, 11, 19, 29, 37, 46, 62, 81, 82, 92, 93, 133, 145] 22 [2, 6] (.op 0 .plain (.op 1 .plain (.op 2 .held (.op 4 .plain (.op 5 .plain (.op 6 .held (.op 3 .keeps (.op 7 .keeps (.op 8 .plain .nil))))))))) (by kernel_rfl) [6] ?_
            | simp (dsimp := false) (implicitDefEqProofs := false) (disch := first | assumption | (simp only [List.mem_cons, List.mem_append, true_or, or_true, eq_self]; done) | omega | (with_reducible refine Row.adr (by assumption) ?_; simp only [List.length_map, List.length_take, List.length_drop]; omega) | (simp only [List.length_cons, List.length_nil, List.length_map, List.length_append, List.length_replicate, Nat.reduceAdd, true_and, and_true, and_self]; first | done | omega)) only [go_sem, ↓reduceIte, Nat.reduceEqDiff, Nat.reduceAdd, Nat.reduceSub, Nat.reduceMul, Nat.reduceBEq, Nat.reduceLT, Nat.reduceLeDiff, Nat.reduceMod, Nat.reducePow, List.reduceReplicate, UInt8.reduceOfNat, Int.reducePow, Int.reduceDiv, Int.reduceMod, Nat.reduceDiv, Int.reduceNeg, Int.reduceAdd, Int.reduceSub, Int.reduceMul, Int.reduceLE, Int.reduceLT, Int.reduceEq, Int.reduceToNat, decide_true, decide_false, reduceCtorEq, ne_eq, not_false_eq_true, not_true_eq_false, and_true, true_and, and_self, or_true, true_or, or_false, false_or, or_self, eq_self, Option.isNone_some, Option.isNone_none, Nat.zero_add, Nat.add_zero, Nat.mul_one, Nat.one_mul, Nat.zero_mul, List.length_cons, List.length_nil, List.getElem?_cons_zero, List.getElem?_cons_succ, List.map_cons, List.map_nil, List.append_nil, Row.objsM hrow' encOp_len (by decide) hil, encOp]
          all_goals try omega
          all_goals (revert nb; intro ob hnb hnb1 hnb2)
          · refine FnT.leave (H' := tb ++ ((ob, .cells [.int .i64 l[i].kind, str l[i].k, .int .i64 l[i].i] [] 42) :: H)) (puts_t l[i].k ht (by omega) fun tb1 hs1 ht1 => ?_) (by intro fsum; first | exact Nat.le_refl _ | (simp only [List.map_append, List.map_cons, List.map_nil, List.sum_append, List.sum_cons, List.sum_nil, List.cons_append, List.nil_append]; omega))
            have hn1 := hs1.mid
            rcases hp : place ks l[i].k with _ | n0
            · rw [putF_new hp] at ht1 ⊢
              have hfk := findF_no hp
              have hfe := findF_end hp
              repeat' first
                | with_reducible refine Br.yes ?_
                | with_reducible refine Br.no ?_
                | with_reducible refine Br.dec (fun _ => ?_) (fun _ => ?_)
                | with_reducible refine Br.beqB (fun _ => ?_) (fun _ => ?_)
                | with_reducible refine Br.beqb (fun _ => ?_) (fun _ => ?_)
                | with_reducible refine Br.mk (fun _ => ?_) (fun _ => ?_)
                | with_reducible refine foundO.mk (fun _ _ => ?_) (fun _ => ?_)
                | with_reducible refine appV.zero ?_
                | with_reducible refine appV.own ?_
                | ((with_reducible refine NewB.mk fun nb hnb => ?_); have hnb1 := hnb.1.1; have hnb2 := hnb.1.2; try simp only [keys_cons, keys_app, keys_nil, NotIn_cons, NotIn_app, NotIn_nil, and_true] at hnb2)
                | ((with_reducible refine NewRow.mk fun nb nsp ncap hnb hncap => ?_); have hnb1 := hnb.1.1; have hnb2 := hnb.1.2; try simp only [keys_cons, keys_app, keys_nil, NotIn_cons, NotIn_app, NotIn_nil, and_true] at hnb2)
                | with_reducible refine Tri.drawH tok mixed [0, 2, 3, 4, 5, 6, 7, 8, 9, 10, 11, 19, 29, 37, 46, 62, 81, 82, 92, 93, 133, 145] 18 [4] (.op 1 .plain (.op 3 .plain (.op 4 .held (.both (.op 0 .keeps (.both (.op 2 .keeps (.op 5 .plain (.op 6 .keeps (.op 7 .plain .nil)))) (.op 5 .plain (.op 2 .keeps (.op 6 .keeps (.op 7 .plain .nil)))))) (.op 5 .plain (.op 0 .keeps (.op 2 .keeps (.op 6 .keeps (.op 7 .plain .nil))))))))) (by kernel_rfl) [6] ?_
                | with_reducible refine Tri.drawH tok mixed [0, 2, 3, 4, 5, 6, 7, 8, 9, 10, 11, 19, 29, 37, 46, 62, 81, 82, 92, 93, 133, 145] 22 [2, 6] (.op 0 .plain (.op 1 .plain (.op 2 .held (.op 4 .plain (.op 5 .plain (.op 6 .held (.op 3 .keeps (.op 7 .keeps (.op 8 .plain .nil))))))))) (by kernel_rfl) [6] ?_
                | simp (dsimp := false) (implicitDefEqProofs := false) (disch := first | assumption | (simp only [List.mem_cons, List.mem_append, true_or, or_true, eq_self]; done) | omega | (with_reducible refine Row.adr (by assumption) ?_; simp only [List.length_map, List.length_take, List.length_drop]; omega) | (simp only [List.length_cons, List.length_nil, List.length_map, List.length_append, List.length_replicate, Nat.reduceAdd, true_and, and_true, and_self]; first | done | omega)) only [go_sem, ↓reduceIte, Nat.reduceEqDiff, Nat.reduceAdd, Nat.reduceSub, Nat.reduceMul, Nat.reduceBEq, Nat.reduceLT, Nat.reduceLeDiff, Nat.reduceMod, Nat.reducePow, List.reduceReplicate, UInt8.reduceOfNat, Int.reducePow, Int.reduceDiv, Int.reduceMod, Nat.reduceDiv, Int.reduceNeg, Int.reduceAdd, Int.reduceSub, Int.reduceMul, Int.reduceLE, Int.reduceLT, Int.reduceEq, Int.reduceToNat, decide_true, decide_false, reduceCtorEq, ne_eq, not_false_eq_true, not_true_eq_false, and_true, true_and, and_self, or_true, true_or, or_false, false_or, or_self, eq_self, Option.isNone_some, Option.isNone_none, Nat.zero_add, Nat.add_zero, Nat.mul_one, Nat.one_mul, Nat.zero_mul, List.length_cons, List.length_nil, List.getElem?_cons_zero, List.getElem?_cons_succ, List.map_cons, List.map_nil, List.append_nil, hfk, hfe, Row.rdSlAll hmrow]
                | refine rfind_t ks l[i].k (by omega) hm ?_
                | (with_reducible refine And.intro ?_ ?_)
                | (refine FnT.pre callee19 ?_; refine Upd.go (H' := (nb, .cells (ks.map str ++ [str l[i].k]) nsp 9) :: (tb1 ++ ((ob, .cells [.int .i64 l[i].kind, str l[i].k, .int .i64 l[i].i] [] 42) :: H))) (by intro fsum; first | exact Nat.le_refl _ | (simp only [List.map_append, List.map_cons, List.map_nil, List.sum_append, List.sum_cons, List.sum_nil, List.cons_append, List.nil_append]; omega)) ?_; refine Upd.shareRow (by assumption) fun G2 hle2 hs2 hr2 => ?_; have hm2 : Sl G2 str (.slice (some ⟨nb, 0, none⟩) (ks.length + 1) ncap) (ks ++ [l[i].k]) := ⟨some ⟨nb, 0, none⟩, ncap, by simp, by simpa using hr2, by simp at *; omega⟩; refine rfind_t (ks ++ [l[i].k]) l[i].k (by simp; omega) hm2 ?_)
                | (have hks0 : ks = [] := List.eq_nil_of_length_eq_zero (by omega); refine FnT.pre callee19 ?_; refine Upd.go (H' := (nb, .cells [str l[i].k] nsp 9) :: (tb1 ++ ((ob, .cells [.int .i64 l[i].kind, str l[i].k, .int .i64 l[i].i] [] 42) :: H))) (by intro fsum; first | exact Nat.le_refl _ | (simp only [List.map_append, List.map_cons, List.map_nil, List.sum_append, List.sum_cons, List.sum_nil, List.cons_append, List.nil_append]; omega)) ?_; refine Upd.shareRow (by assumption) fun G2 hle2 hs2 hr2 => ?_; have hm2 : Sl G2 str (.slice (some ⟨nb, 0, none⟩) 1 ncap) (ks ++ [l[i].k]) := ⟨some ⟨nb, 0, none⟩, ncap, by rw [hks0]; rfl, by rw [hks0]; exact hr2, by rw [hks0]; simp; omega⟩; refine rfind_t (ks ++ [l[i].k]) l[i].k (by simp; omega) hm2 ?_)
                | refine lens_t ht1 ?_
                | refine keyss_t ht1 (by first | omega | (simp; omega)) fun G3 v3 hle3 hs3 hsl => ?_
                | refine rsame_t _ _ (by first | omega | (simp; omega)) hsl (hm2.mono hle3) ?_
              all_goals first
                | refine Upd.leave (H' := tb1 ++ H) (by intro fsum; first | exact Nat.le_refl _ | (simp only [List.map_append, List.map_cons, List.map_nil, List.sum_append, List.sum_cons, List.sum_nil, List.cons_append, List.nil_append]; omega)) ⟨n - 1, by omega, i + 1, tb1, (ks ++ [l[i].k]), _, by omega, by (simp; omega), ht1, hm2.mono hle3, rfl, rfl⟩
                | (exfalso; omega)
                | (rename_i h; exact absurd rfl h)
                | (exfalso; rename_i h; refine h ?_; first | exact (decide_eq_true (by omega)).symm | exact (decide_eq_false (by omega)).symm)
                | trace_state
            · rw [putF_old hp] at ht1 ⊢
              have hfk := findF_of hp
              repeat' first
                | with_reducible refine Br.yes ?_
                | with_reducible refine Br.no ?_
                | with_reducible refine Br.dec (fun _ => ?_) (fun _ => ?_)
                | with_reducible refine Br.beqB (fun _ => ?_) (fun _ => ?_)
                | with_reducible refine Br.beqb (fun _ => ?_) (fun _ => ?_)
                | with_reducible refine Br.mk (fun _ => ?_) (fun _ => ?_)
                | with_reducible refine foundO.mk (fun _ _ => ?_) (fun _ => ?_)
                | with_reducible refine appV.zero ?_
                | with_reducible refine appV.own ?_
                | ((with_reducible refine NewB.mk fun nb hnb => ?_); have hnb1 := hnb.1.1; have hnb2 := hnb.1.2; try simp only [keys_cons, keys_app, keys_nil, NotIn_cons, NotIn_app, NotIn_nil, and_true] at hnb2)
                | ((with_reducible refine NewRow.mk fun nb nsp ncap hnb hncap => ?_); have hnb1 := hnb.1.1; have hnb2 := hnb.1.2; try simp only [keys_cons, keys_app, keys_nil, NotIn_cons, NotIn_app, NotIn_nil, and_true] at hnb2)
                | with_reducible refine Tri.drawH tok mixed [0, 2, 3, 4, 5, 6, 7, 8, 9, 10, 11, 19, 29, 37, 46, 62, 81, 82, 92, 93, 133, 145] 18 [4] (.op 1 .plain (.op 3 .plain (.op 4 .held (.both (.op 0 .keeps (.both (.op 2 .keeps (.op 5 .plain (.op 6 .keeps (.op 7 .plain .nil)))) (.op 5 .plain (.op 2 .keeps (.op 6 .keeps (.op 7 .plain .nil)))))) (.op 5 .plain (.op 0 .keeps (.op 2 .keeps (.op 6 .keeps (.op 7 .plain .nil))))))))) (by kernel_rfl) [6] ?_
                | with_reducible refine Tri.drawH tok mixed [0, 2, 3, 4, 5, 6, 7, 8, 9, 10, 11, 19, 29, 37, 46, 62, 81, 82, 92, 93, 133, 145] 22 [2, 6] (.op 0 .plain (.op 1 .plain (.op 2 .held (.op 4 .plain (.op 5 .plain (.op 6 .held (.op 3 .keeps (.op 7 .keeps (.op 8 .plain .nil))))))))) (by kernel_rfl) [6] ?_
                | simp (dsimp := false) (implicitDefEqProofs := false) (disch := first | assumption | (simp only [List.mem_cons, List.mem_append, true_or, or_true, eq_self]; done) | omega | (with_reducible refine Row.adr (by assumption) ?_; simp only [List.length_map, List.length_take, List.length_drop]; omega) | (simp only [List.length_cons, List.length_nil, List.length_map, List.length_append, List.length_replicate, Nat.reduceAdd, true_and, and_true, and_self]; first | done | omega)) only [go_sem, ↓reduceIte, Nat.reduceEqDiff, Nat.reduceAdd, Nat.reduceSub, Nat.reduceMul, Nat.reduceBEq, Nat.reduceLT, Nat.reduceLeDiff, Nat.reduceMod, Nat.reducePow, List.reduceReplicate, UInt8.reduceOfNat, Int.reducePow, Int.reduceDiv, Int.reduceMod, Nat.reduceDiv, Int.reduceNeg, Int.reduceAdd, Int.reduceSub, Int.reduceMul, Int.reduceLE, Int.reduceLT, Int.reduceEq, Int.reduceToNat, decide_true, decide_false, reduceCtorEq, ne_eq, not_false_eq_true, not_true_eq_false, and_true, true_and, and_self, or_true, true_or, or_false, false_or, or_self, eq_self, Option.isNone_some, Option.isNone_none, Nat.zero_add, Nat.add_zero, Nat.mul_one, Nat.one_mul, Nat.zero_mul, List.length_cons, List.length_nil, List.getElem?_cons_zero, List.getElem?_cons_succ, List.map_cons, List.map_nil, List.append_nil, hfk]
                | refine rfind_t ks l[i].k (by omega) hm ?_
                | refine lens_t ht1 ?_
                | refine keyss_t ht1 (by first | omega | (simp; omega)) fun G3 v3 hle3 hs3 hsl => ?_
                | refine rsame_t _ _ (by first | omega | (simp; omega)) hsl (hm.mono hle3) ?_
              all_goals first
                | refine Upd.leave (H' := tb1 ++ H) (by intro fsum; first | exact Nat.le_refl _ | (simp only [List.map_append, List.map_cons, List.map_nil, List.sum_append, List.sum_cons, List.sum_nil, List.cons_append, List.nil_append]; omega)) ⟨n - 1, by omega, i + 1, tb1, ks, _, by omega, by omega, ht1, hm.mono hle3, rfl, rfl⟩
                | (exfalso; omega)
                | (rename_i h; exact absurd rfl h)
                | (exfalso; rename_i h; refine h ?_; first | exact (decide_eq_true (by omega)).symm | exact (decide_eq_false (by omega)).symm)
                | trace_state
          · refine FnT.leave (H' := tb ++ ((ob, .cells [.int .i64 l[i].kind, str l[i].k, .int .i64 l[i].i] [] 42) :: H)) (puts_t l[i].k ht (by omega) fun tb1 hs1 ht1 => ?_) (by intro fsum; first | exact Nat.le_refl _ | (simp only [List.map_append, List.map_cons, List.map_nil, List.sum_append, List.sum_cons, List.sum_nil, List.cons_append, List.nil_append]; omega))
            have hn1 := hs1.mid
            rcases hp : place ks l[i].k with _ | n0
            · rw [putF_new hp] at ht1 ⊢
              have hfk := findF_no hp
              have hfe := findF_end hp
              repeat' first
                | with_reducible refine Br.yes ?_
                | with_reducible refine Br.no ?_
                | with_reducible refine Br.dec (fun _ => ?_) (fun _ => ?_)
                | with_reducible refine Br.beqB (fun _ => ?_) (fun _ => ?_)
                | with_reducible refine Br.beqb (fun _ => ?_) (fun _ => ?_)
                | with_reducible refine Br.mk (fun _ => ?_) (fun _ => ?_)
                | with_reducible refine foundO.mk (fun _ _ => ?_) (fun _ => ?_)
                | with_reducible refine appV.zero ?_
                | with_reducible refine appV.own ?_
                | ((with_reducible refine NewB.mk fun nb hnb => ?_); have hnb1 := hnb.1.1; have hnb2 := hnb.1.2; try simp only [keys_cons, keys_app, keys_nil, NotIn_cons, NotIn_app, NotIn_nil, and_true] at hnb2)
                | ((with_reducible refine NewRow.mk fun nb nsp ncap hnb hncap => ?_); have hnb1 := hnb.1.1; have hnb2 := hnb.1.2; try simp only [keys_cons, keys_app, keys_nil, NotIn_cons, NotIn_app, NotIn_nil, and_true] at hnb2)
                | with_reducible refine Tri.drawH tok mixed [0, 2, 3, 4, 5, 6, 7, 8, 9, 10, 11, 19, 29, 37, 46, 62, 81, 82, 92, 93, 133, 145] 18 [4] (.op 1 .plain (.op 3 .plain (.op 4 .held (.both (.op 0 .keeps (.both (.op 2 .keeps (.op 5 .plain (.op 6 .keeps (.op 7 .plain .nil)))) (.op 5 .plain (.op 2 .keeps (.op 6 .keeps (.op 7 .plain .nil)))))) (.op 5 .plain (.op 0 .keeps (.op 2 .keeps (.op 6 .keeps (.op 7 .plain .nil))))))))) (by kernel_rfl) [6] ?_
                | with_reducible refine Tri.drawH tok mixed [0, 2, 3, 4, 5, 6, 7, 8, 9, 10, 11, 19, 29, 37, 46, 62, 81, 82, 92, 93, 133, 145] 22 [2, 6] (.op 0 .plain (.op 1 .plain (.op 2 .held (.op 4 .plain (.op 5 .plain (.op 6 .held (.op 3 .keeps (.op 7 .keeps (.op 8 .plain .nil))))))))) (by kernel_rfl) [6] ?_
                | simp (dsimp := false) (implicitDefEqProofs := false) (disch := first | assumption | (simp only [List.mem_cons, List.mem_append, true_or, or_true, eq_self]; done) | omega | (with_reducible refine Row.adr (by assumption) ?_; simp only [List.length_map, List.length_take, List.length_drop]; omega) | (simp only [List.length_cons, List.length_nil, List.length_map, List.length_append, List.length_replicate, Nat.reduceAdd, true_and, and_true, and_self]; first | done | omega)) only [go_sem, ↓reduceIte, Nat.reduceEqDiff, Nat.reduceAdd, Nat.reduceSub, Nat.reduceMul, Nat.reduceBEq, Nat.reduceLT, Nat.reduceLeDiff, Nat.reduceMod, Nat.reducePow, List.reduceReplicate, UInt8.reduceOfNat, Int.reducePow, Int.reduceDiv, Int.reduceMod, Nat.reduceDiv, Int.reduceNeg, Int.reduceAdd, Int.reduceSub, Int.reduceMul, Int.reduceLE, Int.reduceLT, Int.reduceEq, Int.reduceToNat, decide_true, decide_false, reduceCtorEq, ne_eq, not_false_eq_true, not_true_eq_false, and_true, true_and, and_self, or_true, true_or, or_false, false_or, or_self, eq_self, Option.isNone_some, Option.isNone_none, Nat.zero_add, Nat.add_zero, Nat.mul_one, Nat.one_mul, Nat.zero_mul, List.length_cons, List.length_nil, List.getElem?_cons_zero, List.getElem?_cons_succ, List.map_cons, List.map_nil, List.append_nil, hfk, hfe, Row.rdSlAll hmrow]
                | refine rfind_t ks l[i].k (by omega) hm ?_
                | (with_reducible refine And.intro ?_ ?_)
                | (refine FnT.pre callee19 ?_; refine Upd.go (H' := (nb, .cells (ks.map str ++ [str l[i].k]) nsp 9) :: (tb1 ++ ((ob, .cells [.int .i64 l[i].kind, str l[i].k, .int .i64 l[i].i] [] 42) :: H))) (by intro fsum; first | exact Nat.le_refl _ | (simp only [List.map_append, List.map_cons, List.map_nil, List.sum_append, List.sum_cons, List.sum_nil, List.cons_append, List.nil_append]; omega)) ?_; refine Upd.shareRow (by assumption) fun G2 hle2 hs2 hr2 => ?_; have hm2 : Sl G2 str (.slice (some ⟨nb, 0, none⟩) (ks.length + 1) ncap) (ks ++ [l[i].k]) := ⟨some ⟨nb, 0, none⟩, ncap, by simp, by simpa using hr2, by simp at *; omega⟩; refine rfind_t (ks ++ [l[i].k]) l[i].k (by simp; omega) hm2 ?_)
                | (have hks0 : ks = [] := List.eq_nil_of_length_eq_zero (by omega); refine FnT.pre callee19 ?_; refine Upd.go (H' := (nb, .cells [str l[i].k] nsp 9) :: (tb1 ++ ((ob, .cells [.int .i64 l[i].kind, str l[i].k, .int .i64 l[i].i] [] 42) :: H))) (by intro fsum; first | exact Nat.le_refl _ | (simp only [List.map_append, List.map_cons, List.map_nil, List.sum_append, List.sum_cons, List.sum_nil, List.cons_append, List.nil_append]; omega)) ?_; refine Upd.shareRow (by assumption) fun G2 hle2 hs2 hr2 => ?_; have hm2 : Sl G2 str (.slice (some ⟨nb, 0, none⟩) 1 ncap) (ks ++ [l[i].k]) := ⟨some ⟨nb, 0, none⟩, ncap, by rw [hks0]; rfl, by rw [hks0]; exact hr2, by rw [hks0]; simp; omega⟩; refine rfind_t (ks ++ [l[i].k]) l[i].k (by simp; omega) hm2 ?_)
                | refine lens_t ht1 ?_
                | refine keyss_t ht1 (by first | omega | (simp; omega)) fun G3 v3 hle3 hs3 hsl => ?_
                | refine rsame_t _ _ (by first | omega | (simp; omega)) hsl (hm2.mono hle3) ?_
              all_goals first
                | refine Upd.leave (H' := tb1 ++ H) (by intro fsum; first | exact Nat.le_refl _ | (simp only [List.map_append, List.map_cons, List.map_nil, List.sum_append, List.sum_cons, List.sum_nil, List.cons_append, List.nil_append]; omega)) ⟨n - 1, by omega, i + 1, tb1, (ks ++ [l[i].k]), _, by omega, by (simp; omega), ht1, hm2.mono hle3, rfl, rfl⟩
                | (exfalso; omega)
                | (rename_i h; exact absurd rfl h)
                | (exfalso; rename_i h; refine h ?_; first | exact (decide_eq_true (by omega)).symm | exact (decide_eq_false (by omega)).symm)
                | trace_state
            · rw [putF_old hp] at ht1 ⊢
              have hfk := findF_of hp
              repeat' first
                | with_reducible refine Br.yes ?_
                | with_reducible refine Br.no ?_
                | with_reducible refine Br.dec (fun _ => ?_) (fun _ => ?_)
                | with_reducible refine Br.beqB (fun _ => ?_) (fun _ => ?_)
                | with_reducible refine Br.beqb (fun _ => ?_) (fun _ => ?_)
                | with_reducible refine Br.mk (fun _ => ?_) (fun _ => ?_)
                | with_reducible refine foundO.mk (fun _ _ => ?_) (fun _ => ?_)
                | with_reducible refine appV.zero ?_
                | with_reducible refine appV.own ?_
                | ((with_reducible refine NewB.mk fun nb hnb => ?_); have hnb1 := hnb.1.1; have hnb2 := hnb.1.2; try simp only [keys_cons, keys_app, keys_nil, NotIn_cons, NotIn_app, NotIn_nil, and_true] at hnb2)
                | ((with_reducible refine NewRow.mk fun nb nsp ncap hnb hncap => ?_); have hnb1 := hnb.1.1; have hnb2 := hnb.1.2; try simp only [keys_cons, keys_app, keys_nil, NotIn_cons, NotIn_app, NotIn_nil, and_true] at hnb2)
                | with_reducible refine Tri.drawH tok mixed [0, 2, 3, 4, 5, 6, 7, 8, 9, 10, 11, 19, 29, 37, 46, 62, 81, 82, 92, 93, 133, 145] 18 [4] (.op 1 .plain (.op 3 .plain (.op 4 .held (.both (.op 0 .keeps (.both (.op 2 .keeps (.op 5 .plain (.op 6 .keeps (.op 7 .plain .nil)))) (.op 5 .plain (.op 2 .keeps (.op 6 .keeps (.op 7 .plain .nil)))))) (.op 5 .plain (.op 0 .keeps (.op 2 .keeps (.op 6 .keeps (.op 7 .plain .nil))))))))) (by kernel_rfl) [6] ?_
                | with_reducible refine Tri.drawH tok mixed [0, 2, 3, 4, 5, 6, 7, 8, 9, 10, 11, 19, 29, 37, 46, 62, 81, 82, 92, 93, 133, 145] 22 [2, 6] (.op 0 .plain (.op 1 .plain (.op 2 .held (.op 4 .plain (.op 5 .plain (.op 6 .held (.op 3 .keeps (.op 7 .keeps (.op 8 .plain .nil))))))))) (by kernel_rfl) [6] ?_
                | simp (dsimp := false) (implicitDefEqProofs := false) (disch := first | assumption | (simp only [List.mem_cons, List.mem_append, true_or, or_true, eq_self]; done) | omega | (with_reducible refine Row.adr (by assumption) ?_; simp only [List.length_map, List.length_take, List.length_drop]; omega) | (simp only [List.length_cons, List.length_nil, List.length_map, List.length_append, List.length_replicate, Nat.reduceAdd, true_and, and_true, and_self]; first | done | omega)) only [go_sem, ↓reduceIte, Nat.reduceEqDiff, Nat.reduceAdd, Nat.reduceSub, Nat.reduceMul, Nat.reduceBEq, Nat.reduceLT, Nat.reduceLeDiff, Nat.reduceMod, Nat.reducePow, List.reduceReplicate, UInt8.reduceOfNat, Int.reducePow, Int.reduceDiv, Int.reduceMod, Nat.reduceDiv, Int.reduceNeg, Int.reduceAdd, Int.reduceSub, Int.reduceMul, Int.reduceLE, Int.reduceLT, Int.reduceEq, Int.reduceToNat, decide_true, decide_false, reduceCtorEq, ne_eq, not_false_eq_true, not_true_eq_false, and_true, true_and, and_self, or_true, true_or, or_false, false_or, or_self, eq_self, Option.isNone_some, Option.isNone_none, Nat.zero_add, Nat.add_zero, Nat.mul_one, Nat.one_mul, Nat.zero_mul, List.length_cons, List.length_nil, List.getElem?_cons_zero, List.getElem?_cons_succ, List.map_cons, List.map_nil, List.append_nil, hfk]
                | refine rfind_t ks l[i].k (by omega) hm ?_
                | refine lens_t ht1 ?_
                | refine keyss_t ht1 (by first | omega | (simp; omega)) fun G3 v3 hle3 hs3 hsl => ?_
                | refine rsame_t _ _ (by first | omega | (simp; omega)) hsl (hm.mono hle3) ?_
              all_goals first
                | refine Upd.leave (H' := tb1 ++ H) (by intro fsum; first | exact Nat.le_refl _ | (simp only [List.map_append, List.map_cons, List.map_nil, List.sum_append, List.sum_cons, List.sum_nil, List.cons_append, List.nil_append]; omega)) ⟨n - 1, by omega, i + 1, tb1, ks, _, by omega, by omega, ht1, hm.mono hle3, rfl, rfl⟩
                | (exfalso; omega)
                | (rename_i h; exact absurd rfl h)
                | (exfalso; rename_i h; refine h ?_; first | exact (decide_eq_true (by omega)).symm | exact (decide_eq_false (by omega)).symm)
                | trace_state
          · refine FnT.leave (H' := tb ++ ((ob, .cells [.int .i64 l[i].kind, str l[i].k, .int .i64 l[i].i] [] 42) :: H)) (puts_t l[i].k ht (by omega) fun tb1 hs1 ht1 => ?_) (by intro fsum; first | exact Nat.le_refl _ | (simp only [List.map_append, List.map_cons, List.map_nil, List.sum_append, List.sum_cons, List.sum_nil, List.cons_append, List.nil_append]; omega))
            have hn1 := hs1.mid
            rcases hp : place ks l[i].k with _ | n0
            · rw [putF_new hp] at ht1 ⊢
              have hfk := findF_no hp
              have hfe := findF_end hp
              repeat' first
                | with_reducible refine Br.yes ?_
                | with_reducible refine Br.no ?_
                | with_reducible refine Br.dec (fun _ => ?_) (fun _ => ?_)
                | with_reducible refine Br.beqB (fun _ => ?_) (fun _ => ?_)
                | with_reducible refine Br.beqb (fun _ => ?_) (fun _ => ?_)
                | with_reducible refine Br.mk (fun _ => ?_) (fun _ => ?_)
                | with_reducible refine foundO.mk (fun _ _ => ?_) (fun _ => ?_)
                | with_reducible refine appV.zero ?_
                | with_reducible refine appV.own ?_
                | ((with_reducible refine NewB.mk fun nb hnb => ?_); have hnb1 := hnb.1.1; have hnb2 := hnb.1.2; try simp only [keys_cons, keys_app, keys_nil, NotIn_cons, NotIn_app, NotIn_nil, and_true] at hnb2)
                | ((with_reducible refine NewRow.mk fun nb nsp ncap hnb hncap => ?_); have hnb1 := hnb.1.1; have hnb2 := hnb.1.2; try simp only [keys_cons, keys_app, keys_nil, NotIn_cons, NotIn_app, NotIn_nil, and_true] at hnb2)
                | with_reducible refine Tri.drawH tok mixed [0, 2, 3, 4, 5, 6, 7, 8, 9, 10, 11, 19, 29, 37, 46, 62, 81, 82, 92, 93, 133, 145] 18 [4] (.op 1 .plain (.op 3 .plain (.op 4 .held (.both (.op 0 .keeps (.both (.op 2 .keeps (.op 5 .plain (.op 6 .keeps (.op 7 .plain .nil)))) (.op 5 .plain (.op 2 .keeps (.op 6 .keeps (.op 7 .plain .nil)))))) (.op 5 .plain (.op 0 .keeps (.op 2 .keeps (.op 6 .keeps (.op 7 .plain .nil))))))))) (by kernel_rfl) [6] ?_
                | with_reducible refine Tri.drawH tok mixed [0, 2, 3, 4, 5, 6, 7, 8, 9, 10, 11, 19, 29, 37, 46, 62, 81, 82, 92, 93, 133, 145] 22 [2, 6] (.op 0 .plain (.op 1 .plain (.op 2 .held (.op 4 .plain (.op 5 .plain (.op 6 .held (.op 3 .keeps (.op 7 .keeps (.op 8 .plain .nil))))))))) (by kernel_rfl) [6] ?_
                | simp (dsimp := false) (implicitDefEqProofs := false) (disch := first | assumption | (simp only [List.mem_cons, List.mem_append, true_or, or_true, eq_self]; done) | omega | (with_reducible refine Row.adr (by assumption) ?_; simp only [List.length_map, List.length_take, List.length_drop]; omega) | (simp only [List.length_cons, List.length_nil, List.length_map, List.length_append, List.length_replicate, Nat.reduceAdd, true_and, and_true, and_self]; first | done | omega)) only [go_sem, ↓reduceIte, Nat.reduceEqDiff, Nat.reduceAdd, Nat.reduceSub, Nat.reduceMul, Nat.reduceBEq, Nat.reduceLT, Nat.reduceLeDiff, Nat.reduceMod, Nat.reducePow, List.reduceReplicate, UInt8.reduceOfNat, Int.reducePow, Int.reduceDiv, Int.reduceMod, Nat.reduceDiv, Int.reduceNeg, Int.reduceAdd, Int.reduceSub, Int.reduceMul, Int.reduceLE, Int.reduceLT, Int.reduceEq, Int.reduceToNat, decide_true, decide_false, reduceCtorEq, ne_eq, not_false_eq_true, not_true_eq_false, and_true, true_and, and_self, or_true, true_or, or_false, false_or, or_self, eq_self, Option.isNone_some, Option.isNone_none, Nat.zero_add, Nat.add_zero, Nat.mul_one, Nat.one_mul, Nat.zero_mul, List.length_cons, List.length_nil, List.getElem?_cons_zero, List.getElem?_cons_succ, List.map_cons, List.map_nil, List.append_nil, hfk, hfe, Row.rdSlAll hmrow]
                | refine rfind_t ks l[i].k (by omega) hm ?_
                | (with_reducible refine And.intro ?_ ?_)
                | (refine FnT.pre callee19 ?_; refine Upd.go (H' := (nb, .cells (ks.map str ++ [str l[i].k]) nsp 9) :: (tb1 ++ ((ob, .cells [.int .i64 l[i].kind, str l[i].k, .int .i64 l[i].i] [] 42) :: H))) (by intro fsum; first | exact Nat.le_refl _ | (simp only [List.map_append, List.map_cons, List.map_nil, List.sum_append, List.sum_cons, List.sum_nil, List.cons_append, List.nil_append]; omega)) ?_; refine Upd.shareRow (by assumption) fun G2 hle2 hs2 hr2 => ?_; have hm2 : Sl G2 str (.slice (some ⟨nb, 0, none⟩) (ks.length + 1) ncap) (ks ++ [l[i].k]) := ⟨some ⟨nb, 0, none⟩, ncap, by simp, by simpa using hr2, by simp at *; omega⟩; refine rfind_t (ks ++ [l[i].k]) l[i].k (by simp; omega) hm2 ?_)
                | (have hks0 : ks = [] := List.eq_nil_of_length_eq_zero (by omega); refine FnT.pre callee19 ?_; refine Upd.go (H' := (nb, .cells [str l[i].k] nsp 9) :: (tb1 ++ ((ob, .cells [.int .i64 l[i].kind, str l[i].k, .int .i64 l[i].i] [] 42) :: H))) (by intro fsum; first | exact Nat.le_refl _ | (simp only [List.map_append, List.map_cons, List.map_nil, List.sum_append, List.sum_cons, List.sum_nil, List.cons_append, List.nil_append]; omega)) ?_; refine Upd.shareRow (by assumption) fun G2 hle2 hs2 hr2 => ?_; have hm2 : Sl G2 str (.slice (some ⟨nb, 0, none⟩) 1 ncap) (ks ++ [l[i].k]) := ⟨some ⟨nb, 0, none⟩, ncap, by rw [hks0]; rfl, by rw [hks0]; exact hr2, by rw [hks0]; simp; omega⟩; refine rfind_t (ks ++ [l[i].k]) l[i].k (by simp; omega) hm2 ?_)
                | refine lens_t ht1 ?_
                | refine keyss_t ht1 (by first | omega | (simp; omega)) fun G3 v3 hle3 hs3 hsl => ?_
                | refine rsame_t _ _ (by first | omega | (simp; omega)) hsl (hm2.mono hle3) ?_
              all_goals first
                | refine Upd.leave (H' := tb1 ++ H) (by intro fsum; first | exact Nat.le_refl _ | (simp only [List.map_append, List.map_cons, List.map_nil, List.sum_append, List.sum_cons, List.sum_nil, List.cons_append, List.nil_append]; omega)) ⟨n - 1, by omega, i + 1, tb1, (ks ++ [l[i].k]), _, by omega, by (simp; omega), ht1, hm2.mono hle3, rfl, rfl⟩
                | (exfalso; omega)
                | (rename_i h; exact absurd rfl h)
                | (exfalso; rename_i h; refine h ?_; first | exact (decide_eq_true (by omega)).symm | exact (decide_eq_false (by omega)).symm)
                | trace_state
            · rw [putF_old hp] at ht1 ⊢
              have hfk := findF_of hp
              repeat' first
                | with_reducible refine Br.yes ?_
                | with_reducible refine Br.no ?_
                | with_reducible refine Br.dec (fun _ => ?_) (fun _ => ?_)
                | with_reducible refine Br.beqB (fun _ => ?_) (fun _ => ?_)
                | with_reducible refine Br.beqb (fun _ => ?_) (fun _ => ?_)
                | with_reducible refine Br.mk (fun _ => ?_) (fun _ => ?_)
                | with_reducible refine foundO.mk (fun _ _ => ?_) (fun _ => ?_)
                | with_reducible refine appV.zero ?_
                | with_reducible refine appV.own ?_
                | ((with_reducible refine NewB.mk fun nb hnb => ?_); have hnb1 := hnb.1.1; have hnb2 := hnb.1.2; try simp only [keys_cons, keys_app, keys_nil, NotIn_cons, NotIn_app, NotIn_nil, and_true] at hnb2)
                | ((with_reducible refine NewRow.mk fun nb nsp ncap hnb hncap => ?_); have hnb1 := hnb.1.1; have hnb2 := hnb.1.2; try simp only [keys_cons, keys_app, keys_nil, NotIn_cons, NotIn_app, NotIn_nil, and_true] at hnb2)
                | with_reducible refine Tri.drawH tok mixed [0, 2, 3, 4, 5, 6, 7, 8, 9, 10, 11, 19, 29, 37, 46, 62, 81, 82, 92, 93, 133, 145] 18 [4] (.op 1 .plain (.op 3 .plain (.op 4 .held (.both (.op 0 .keeps (.both (.op 2 .keeps (.op 5 .plain (.op 6 .keeps (.op 7 .plain .nil)))) (.op 5 .plain (.op 2 .keeps (.op 6 .keeps (.op 7 .plain .nil)))))) (.op 5 .plain (.op 0 .keeps (.op 2 .keeps (.op 6 .keeps (.op 7 .plain .nil))))))))) (by kernel_rfl) [6] ?_
                | with_reducible refine Tri.drawH tok mixed [0, 2, 3, 4, 5, 6, 7, 8, 9, 10, 11, 19, 29, 37, 46, 62, 81, 82, 92, 93, 133, 145] 22 [2, 6] (.op 0 .plain (.op 1 .plain (.op 2 .held (.op 4 .plain (.op 5 .plain (.op 6 .held (.op 3 .keeps (.op 7 .keeps (.op 8 .plain .nil))))))))) (by kernel_rfl) [6] ?_
                | simp (dsimp := false) (implicitDefEqProofs := false) (disch := first | assumption | (simp only [List.mem_cons, List.mem_append, true_or, or_true, eq_self]; done) | omega | (with_reducible refine Row.adr (by assumption) ?_; simp only [List.length_map, List.length_take, List.length_drop]; omega) | (simp only [List.length_cons, List.length_nil, List.length_map, List.length_append, List.length_replicate, Nat.reduceAdd, true_and, and_true, and_self]; first | done | omega)) only [go_sem, ↓reduceIte, Nat.reduceEqDiff, Nat.reduceAdd, Nat.reduceSub, Nat.reduceMul, Nat.reduceBEq, Nat.reduceLT, Nat.reduceLeDiff, Nat.reduceMod, Nat.reducePow, List.reduceReplicate, UInt8.reduceOfNat, Int.reducePow, Int.reduceDiv, Int.reduceMod, Nat.reduceDiv, Int.reduceNeg, Int.reduceAdd, Int.reduceSub, Int.reduceMul, Int.reduceLE, Int.reduceLT, Int.reduceEq, Int.reduceToNat, decide_true, decide_false, reduceCtorEq, ne_eq, not_false_eq_true, not_true_eq_false, and_true, true_and, and_self, or_true, true_or, or_false, false_or, or_self, eq_self, Option.isNone_some, Option.isNone_none, Nat.zero_add, Nat.add_zero, Nat.mul_one, Nat.one_mul, Nat.zero_mul, List.length_cons, List.length_nil, List.getElem?_cons_zero, List.getElem?_cons_succ, List.map_cons, List.map_nil, List.append_nil, hfk]
                | refine rfind_t ks l[i].k (by omega) hm ?_
                | refine lens_t ht1 ?_
                | refine keyss_t ht1 (by first | omega | (simp; omega)) fun G3 v3 hle3 hs3 hsl => ?_
                | refine rsame_t _ _ (by first | omega | (simp; omega)) hsl (hm.mono hle3) ?_
              all_goals first
                | refine Upd.leave (H' := tb1 ++ H) (by intro fsum; first | exact Nat.le_refl _ | (simp only [List.map_append, List.map_cons, List.map_nil, List.sum_append, List.sum_cons, List.sum_nil, List.cons_append, List.nil_append]; omega)) ⟨n - 1, by omega, i + 1, tb1, ks, _, by omega, by omega, ht1, hm.mono hle3, rfl, rfl⟩
                | (exfalso; omega)
                | (rename_i h; exact absurd rfl h)
                | (exfalso; rename_i h; refine h ?_; first | exact (decide_eq_true (by omega)).symm | exact (decide_eq_false (by omega)).symm)
                | trace_state
        by_cases hk2 : l[i].kind = 3
        · repeat' first
            | with_reducible refine Br.yes ?_
            | with_reducible refine Br.no ?_
            | with_reducible refine Br.dec (fun _ => ?_) (fun _ => ?_)
            | with_reducible refine Br.beqB (fun _ => ?_) (fun _ => ?_)
            | with_reducible refine Br.beqb (fun _ => ?_) (fun _ => ?_)
            | with_reducible refine Br.mk (fun _ => ?_) (fun _ => ?_)
            | with_reducible refine foundO.mk (fun _ _ => ?_) (fun _ => ?_)
            | with_reducible refine appV.zero ?_
            | with_reducible refine appV.own ?_
            | ((with_reducible refine NewB.mk fun nb hnb => ?_); have hnb1 := hnb.1.1; have hnb2 := hnb.1.2; try simp only [keys_cons, keys_app, keys_nil, NotIn_cons, NotIn_app, NotIn_nil, and_true] at hnb2)
            | ((with_reducible refine NewRow.mk fun nb nsp ncap hnb hncap => ?_); have hnb1 := hnb.1.1; have hnb2 := hnb.1.2; try simp only [keys_cons, keys_app, keys_nil, NotIn_cons, NotIn_app, NotIn_nil, and_true] at hnb2)
            | with_reducible refine Tri.drawH tok mixed [0, 2, 3, 4, 5, 6, 7, 8, 9, 10, 11, 19, 29, 37, 46, 62, 81, 82, 92, 93, 133, 145] 18 [4] (.op 1 .plain (.op 3 .plain (.op 4 .held (.both (.op 0 .keeps (.both (.op 2 .keeps (.op 5 .plain (.op 6 .keeps (.op 7 .plain .nil)))) (.op 5 .plain (.op 2 .keeps (.op 6 .keeps (.op 7 .plain .nil)))))) (.op 5 .plain (.op 0 .keeps (.op 2 .keeps (.op 6 .keeps (.op 7 .plain .nil))))))))) (by kernel_rfl) [6] ?_
            | with_reducible refine Tri.drawH tok mixed [0, 2, 3, 4, 5, 6, 7, 8, 9, 10, 11, 19, 29, 37, 46, 62, 81, 82, 92, 93, 133, 145] 22 [2, 6] (.op 0 .plain (.op 1 .plain (.op 2 .held (.op 4 .plain (.op 5 .plain (.op 6 .held (.op 3 .keeps (.op 7 .keeps (.op 8 .plain .nil))))))))) (by kernel_rfl) [6] ?_
            | simp (dsimp := false) (implicitDefEqProofs := false) (disch := first | assumption | (simp only [List.mem_cons, List.mem_append, true_or, or_true, eq_self]; done) | omega | (with_reducible refine Row.adr (by assumption) ?_; simp only [List.length_map, List.length_take, List.length_drop]; omega) | (simp only [List.length_cons, List.length_nil, List.length_map, List.length_append, List.length_replicate, Nat.reduceAdd, true_and, and_true, and_self]; first | done | omega)) only [go_sem, ↓reduceIte, Nat.reduceEqDiff, Nat.reduceAdd, Nat.reduceSub, Nat.reduceMul, Nat.reduceBEq, Nat.reduceLT, Nat.reduceLeDiff, Nat.reduceMod, Nat.reducePow, List.reduceReplicate, UInt8.reduceOfNat, Int.reducePow, Int.reduceDiv, Int.reduceMod, Nat.reduceDiv, Int.reduceNeg, Int.reduceAdd, Int.reduceSub, Int.reduceMul, Int.reduceLE, Int.reduceLT, Int.reduceEq, Int.reduceToNat, decide_true, decide_false, reduceCtorEq, ne_eq, not_false_eq_true, not_true_eq_false, and_true, true_and, and_self, or_true, true_or, or_false, false_or, or_self, eq_self, Option.isNone_some, Option.isNone_none, Nat.zero_add, Nat.add_zero, Nat.mul_one, Nat.one_mul, Nat.zero_mul, List.length_cons, List.length_nil, List.getElem?_cons_zero, List.getElem?_cons_succ, List.map_cons, List.map_nil, List.append_nil, Row.objsM hrow' encOp_len (by decide) hil, encOp]
          all_goals try omega
          all_goals (revert nb; intro ob hnb hnb1 hnb2)
          refine FnT.leave (H' := tb ++ ((ob, .cells [.int .i64 l[i].kind, str l[i].k, .int .i64 l[i].i] [] 42) :: H)) (finds_t l[i].k ht ?_) (by intro fsum; first | exact Nat.le_refl _ | (simp only [List.map_append, List.map_cons, List.map_nil, List.sum_append, List.sum_cons, List.sum_nil, List.cons_append, List.nil_append]; omega))
          have hn1 : NotIn ob (keys tb) := hnb2.1
          have ht1 := ht
          obtain ⟨tb1, rfl⟩ : ∃ x, x = tb := ⟨tb, rfl⟩
          repeat' first
            | with_reducible refine Br.yes ?_
            | with_reducible refine Br.no ?_
            | with_reducible refine Br.dec (fun _ => ?_) (fun _ => ?_)
            | with_reducible refine Br.beqB (fun _ => ?_) (fun _ => ?_)
            | with_reducible refine Br.beqb (fun _ => ?_) (fun _ => ?_)
            | with_reducible refine Br.mk (fun _ => ?_) (fun _ => ?_)
            | with_reducible refine foundO.mk (fun _ _ => ?_) (fun _ => ?_)
            | with_reducible refine appV.zero ?_
            | with_reducible refine appV.own ?_
            | ((with_reducible refine NewB.mk fun nb hnb => ?_); have hnb1 := hnb.1.1; have hnb2 := hnb.1.2; try simp only [keys_cons, keys_app, keys_nil, NotIn_cons, NotIn_app, NotIn_nil, and_true] at hnb2)
            | ((with_reducible refine NewRow.mk fun nb nsp ncap hnb hncap => ?_); have hnb1 := hnb.1.1; have hnb2 := hnb.1.2; try simp only [keys_cons, keys_app, keys_nil, NotIn_cons, NotIn_app, NotIn_nil, and_true] at hnb2)
            | with_reducible refine Tri.drawH tok mixed [0, 2, 3, 4, 5, 6, 7, 8, 9, 10, 11, 19, 29, 37, 46, 62, 81, 82, 92, 93, 133, 145] 18 [4] (.op 1 .plain (.op 3 .plain (.op 4 .held (.both (.op 0 .keeps (.both (.op 2 .keeps (.op 5 .plain (.op 6 .keeps (.op 7 .plain .nil)))) (.op 5 .plain (.op 2 .keeps (.op 6 .keeps (.op 7 .plain .nil)))))) (.op 5 .plain (.op 0 .keeps (.op 2 .keeps (.op 6 .keeps (.op 7 .plain .nil))))))))) (by kernel_rfl) [6] ?_
            | with_reducible refine Tri.drawH tok mixed [0, 2, 3, 4, 5, 6, 7, 8, 9, 10, 11, 19, 29, 37, 46, 62, 81, 82, 92, 93, 133, 145] 22 [2, 6] (.op 0 .plain (.op 1 .plain (.op 2 .held (.op 4 .plain (.op 5 .plain (.op 6 .held (.op 3 .keeps (.op 7 .keeps (.op 8 .plain .nil))))))))) (by kernel_rfl) [6] ?_
            | simp (dsimp := false) (implicitDefEqProofs := false) (disch := first | assumption | (simp only [List.mem_cons, List.mem_append, true_or, or_true, eq_self]; done) | omega | (with_reducible refine Row.adr (by assumption) ?_; simp only [List.length_map, List.length_take, List.length_drop]; omega) | (simp only [List.length_cons, List.length_nil, List.length_map, List.length_append, List.length_replicate, Nat.reduceAdd, true_and, and_true, and_self]; first | done | omega)) only [go_sem, ↓reduceIte, Nat.reduceEqDiff, Nat.reduceAdd, Nat.reduceSub, Nat.reduceMul, Nat.reduceBEq, Nat.reduceLT, Nat.reduceLeDiff, Nat.reduceMod, Nat.reducePow, List.reduceReplicate, UInt8.reduceOfNat, Int.reducePow, Int.reduceDiv, Int.reduceMod, Nat.reduceDiv, Int.reduceNeg, Int.reduceAdd, Int.reduceSub, Int.reduceMul, Int.reduceLE, Int.reduceLT, Int.reduceEq, Int.reduceToNat, decide_true, decide_false, reduceCtorEq, ne_eq, not_false_eq_true, not_true_eq_false, and_true, true_and, and_self, or_true, true_or, or_false, false_or, or_self, eq_self, Option.isNone_some, Option.isNone_none, Nat.zero_add, Nat.add_zero, Nat.mul_one, Nat.one_mul, Nat.zero_mul, List.length_cons, List.length_nil, List.getElem?_cons_zero, List.getElem?_cons_succ, List.map_cons, List.map_nil, List.append_nil]
            | refine rfind_t ks l[i].k (by omega) hm ?_
            | refine lens_t ht1 ?_
            | refine keyss_t ht1 (by first | omega | (simp; omega)) fun G3 v3 hle3 hs3 hsl => ?_
            | refine rsame_t _ _ (by first | omega | (simp; omega)) hsl (hm.mono hle3) ?_
          all_goals first
            | refine Upd.leave (H' := tb1 ++ H) (by intro fsum; first | exact Nat.le_refl _ | (simp only [List.map_append, List.map_cons, List.map_nil, List.sum_append, List.sum_cons, List.sum_nil, List.cons_append, List.nil_append]; omega)) ⟨n - 1, by omega, i + 1, tb1, ks, _, by omega, by omega, ht1, hm.mono hle3, rfl, rfl⟩
            | (exfalso; omega)
            | (rename_i h; exact absurd rfl h)
            | (exfalso; rename_i h; refine h ?_; first | exact (decide_eq_true (by omega)).symm | exact (decide_eq_false (by omega)).symm)
            | trace_state
        by_cases hk3 : l[i].kind = 4
        · repeat' first
            | with_reducible refine Br.yes ?_
            | with_reducible refine Br.no ?_
            | with_reducible refine Br.dec (fun _ => ?_) (fun _ => ?_)
            | with_reducible refine Br.beqB (fun _ => ?_) (fun _ => ?_)
            | with_reducible refine Br.beqb (fun _ => ?_) (fun _ => ?_)
            | with_reducible refine Br.mk (fun _ => ?_) (fun _ => ?_)
            | with_reducible refine foundO.mk (fun _ _ => ?_) (fun _ => ?_)
            | with_reducible refine appV.zero ?_
            | with_reducible refine appV.own ?_
            | ((with_reducible refine NewB.mk fun nb hnb => ?_); have hnb1 := hnb.1.1; have hnb2 := hnb.1.2; try simp only [keys_cons, keys_app, keys_nil, NotIn_cons, NotIn_app, NotIn_nil, and_true] at hnb2)
            | ((with_reducible refine NewRow.mk fun nb nsp ncap hnb hncap => ?_); have hnb1 := hnb.1.1; have hnb2 := hnb.1.2; try simp only [keys_cons, keys_app, keys_nil, NotIn_cons, NotIn_app, NotIn_nil, and_true] at hnb2)
            | with_reducible refine Tri.drawH tok mixed [0, 2, 3, 4, 5, 6, 7, 8, 9, 10, 11, 19, 29, 37, 46, 62, 81, 82, 92, 93, 133, 145] 18 [4] (.op 1 .plain (.op 3 .plain (.op 4 .held (.both (.op 0 .keeps (.both (.op 2 .keeps (.op 5 .plain (.op 6 .keeps (.op 7 .plain .nil)))) (.op 5 .plain (.op 2 .keeps (.op 6 .keeps (.op 7 .plain .nil)))))) (.op 5 .plain (.op 0 .keeps (.op 2 .keeps (.op 6 .keeps (.op 7 .plain .nil))))))))) (by kernel_rfl) [6] ?_
            | with_reducible refine Tri.drawH tok mixed [0, 2, 3, 4, 5, 6, 7, 8, 9, 10, 11, 19, 29, 37, 46, 62, 81, 82, 92, 93, 133, 145] 22 [2, 6] (.op 0 .plain (.op 1 .plain (.op 2 .held (.op 4 .plain (.op 5 .plain (.op 6 .held (.op 3 .keeps (.op 7 .keeps (.op 8 .plain .nil))))))))) (by kernel_rfl) [6] ?_
            | simp (dsimp := false) (implicitDefEqProofs := false) (disch := first | assumption | (simp only [List.mem_cons, List.mem_append, true_or, or_true, eq_self]; done) | omega | (with_reducible refine Row.adr (by assumption) ?_; simp only [List.length_map, List.length_take, List.length_drop]; omega) | (simp only [List.length_cons, List.length_nil, List.length_map, List.length_append, List.length_replicate, Nat.reduceAdd, true_and, and_true, and_self]; first | done | omega)) only [go_sem, ↓reduceIte, Nat.reduceEqDiff, Nat.reduceAdd, Nat.reduceSub, Nat.reduceMul, Nat.reduceBEq, Nat.reduceLT, Nat.reduceLeDiff, Nat.reduceMod, Nat.reducePow, List.reduceReplicate, UInt8.reduceOfNat, Int.reducePow, Int.reduceDiv, Int.reduceMod, Nat.reduceDiv, Int.reduceNeg, Int.reduceAdd, Int.reduceSub, Int.reduceMul, Int.reduceLE, Int.reduceLT, Int.reduceEq, Int.reduceToNat, decide_true, decide_false, reduceCtorEq, ne_eq, not_false_eq_true, not_true_eq_false, and_true, true_and, and_self, or_true, true_or, or_false, false_or, or_self, eq_self, Option.isNone_some, Option.isNone_none, Nat.zero_add, Nat.add_zero, Nat.mul_one, Nat.one_mul, Nat.zero_mul, List.length_cons, List.length_nil, List.getElem?_cons_zero, List.getElem?_cons_succ, List.map_cons, List.map_nil, List.append_nil, Row.objsM hrow' encOp_len (by decide) hil, encOp]
          all_goals try omega
          all_goals (revert nb; intro ob hnb hnb1 hnb2)
          have hn1 : NotIn ob (keys tb) := hnb2.1
          have ht1 := ht
          obtain ⟨tb1, rfl⟩ : ∃ x, x = tb := ⟨tb, rfl⟩
          refine FnT.leave (H' := tb1 ++ ((ob, .cells [.int .i64 l[i].kind, str l[i].k, .int .i64 l[i].i] [] 42) :: H)) (keys_t l[i].i ht (fun m hm1 e => ?_) (fun hb => ?_)) (by intro fsum; first | exact Nat.le_refl _ | (simp only [List.map_append, List.map_cons, List.map_nil, List.sum_append, List.sum_cons, List.sum_nil, List.cons_append, List.nil_append]; omega))
          · rw [e]
            repeat' first
              | with_reducible refine Br.yes ?_
              | with_reducible refine Br.no ?_
              | with_reducible refine Br.dec (fun _ => ?_) (fun _ => ?_)
              | with_reducible refine Br.beqB (fun _ => ?_) (fun _ => ?_)
              | with_reducible refine Br.beqb (fun _ => ?_) (fun _ => ?_)
              | with_reducible refine Br.mk (fun _ => ?_) (fun _ => ?_)
              | with_reducible refine foundO.mk (fun _ _ => ?_) (fun _ => ?_)
              | with_reducible refine appV.zero ?_
              | with_reducible refine appV.own ?_
              | ((with_reducible refine NewB.mk fun nb hnb => ?_); have hnb1 := hnb.1.1; have hnb2 := hnb.1.2; try simp only [keys_cons, keys_app, keys_nil, NotIn_cons, NotIn_app, NotIn_nil, and_true] at hnb2)
              | ((with_reducible refine NewRow.mk fun nb nsp ncap hnb hncap => ?_); have hnb1 := hnb.1.1; have hnb2 := hnb.1.2; try simp only [keys_cons, keys_app, keys_nil, NotIn_cons, NotIn_app, NotIn_nil, and_true] at hnb2)
              | with_reducible refine Tri.drawH tok mixed [0, 2, 3, 4, 5, 6, 7, 8, 9, 10, 11, 19, 29, 37, 46, 62, 81, 82, 92, 93, 133, 145] 18 [4] (.op 1 .plain (.op 3 .plain (.op 4 .held (.both (.op 0 .keeps (.both (.op 2 .keeps (.op 5 .plain (.op 6 .keeps (.op 7 .plain .nil)))) (.op 5 .plain (.op 2 .keeps (.op 6 .keeps (.op 7 .plain .nil)))))) (.op 5 .plain (.op 0 .keeps (.op 2 .keeps (.op 6 .keeps (.op 7 .plain .nil))))))))) (by kernel_rfl) [6] ?_
              | with_reducible refine Tri.drawH tok mixed [0, 2, 3, 4, 5, 6, 7, 8, 9, 10, 11, 19, 29, 37, 46, 62, 81, 82, 92, 93, 133, 145] 22 [2, 6] (.op 0 .plain (.op 1 .plain (.op 2 .held (.op 4 .plain (.op 5 .plain (.op 6 .held (.op 3 .keeps (.op 7 .keeps (.op 8 .plain .nil))))))))) (by kernel_rfl) [6] ?_
              | simp (dsimp := false) (implicitDefEqProofs := false) (disch := first | assumption | (simp only [List.mem_cons, List.mem_append, true_or, or_true, eq_self]; done) | omega | (with_reducible refine Row.adr (by assumption) ?_; simp only [List.length_map, List.length_take, List.length_drop]; omega) | (simp only [List.length_cons, List.length_nil, List.length_map, List.length_append, List.length_replicate, Nat.reduceAdd, true_and, and_true, and_self]; first | done | omega)) only [go_sem, ↓reduceIte, Nat.reduceEqDiff, Nat.reduceAdd, Nat.reduceSub, Nat.reduceMul, Nat.reduceBEq, Nat.reduceLT, Nat.reduceLeDiff, Nat.reduceMod, Nat.reducePow, List.reduceReplicate, UInt8.reduceOfNat, Int.reducePow, Int.reduceDiv, Int.reduceMod, Nat.reduceDiv, Int.reduceNeg, Int.reduceAdd, Int.reduceSub, Int.reduceMul, Int.reduceLE, Int.reduceLT, Int.reduceEq, Int.reduceToNat, decide_true, decide_false, reduceCtorEq, ne_eq, not_false_eq_true, not_true_eq_false, and_true, true_and, and_self, or_true, true_or, or_false, false_or, or_self, eq_self, Option.isNone_some, Option.isNone_none, Nat.zero_add, Nat.add_zero, Nat.mul_one, Nat.one_mul, Nat.zero_mul, List.length_cons, List.length_nil, List.getElem?_cons_zero, List.getElem?_cons_succ, List.map_cons, List.map_nil, List.append_nil, Row.obj hmrow, List.getElem_map]
              | refine lens_t ht1 ?_
              | refine keyss_t ht1 (by first | omega | (simp; omega)) fun G3 v3 hle3 hs3 hsl => ?_
              | refine rsame_t _ _ (by first | omega | (simp; omega)) hsl (hm.mono hle3) ?_
            all_goals first
              | refine Upd.leave (H' := tb1 ++ H) (by intro fsum; first | exact Nat.le_refl _ | (simp only [List.map_append, List.map_cons, List.map_nil, List.sum_append, List.sum_cons, List.sum_nil, List.cons_append, List.nil_append]; omega)) ⟨n - 1, by omega, i + 1, tb1, ks, _, by omega, by omega, ht1, hm.mono hle3, rfl, rfl⟩
              | (exfalso; omega)
              | (rename_i h; exact absurd rfl h)
              | (exfalso; rename_i h; refine h ?_; first | exact (decide_eq_true (by omega)).symm | exact (decide_eq_false (by omega)).symm)
              | trace_state
          · repeat' first
              | with_reducible refine Br.yes ?_
              | with_reducible refine Br.no ?_
              | with_reducible refine Br.dec (fun _ => ?_) (fun _ => ?_)
              | with_reducible refine Br.beqB (fun _ => ?_) (fun _ => ?_)
              | with_reducible refine Br.beqb (fun _ => ?_) (fun _ => ?_)
              | with_reducible refine Br.mk (fun _ => ?_) (fun _ => ?_)
              | with_reducible refine foundO.mk (fun _ _ => ?_) (fun _ => ?_)
              | with_reducible refine appV.zero ?_
              | with_reducible refine appV.own ?_
              | ((with_reducible refine NewB.mk fun nb hnb => ?_); have hnb1 := hnb.1.1; have hnb2 := hnb.1.2; try simp only [keys_cons, keys_app, keys_nil, NotIn_cons, NotIn_app, NotIn_nil, and_true] at hnb2)
              | ((with_reducible refine NewRow.mk fun nb nsp ncap hnb hncap => ?_); have hnb1 := hnb.1.1; have hnb2 := hnb.1.2; try simp only [keys_cons, keys_app, keys_nil, NotIn_cons, NotIn_app, NotIn_nil, and_true] at hnb2)
              | with_reducible refine Tri.drawH tok mixed [0, 2, 3, 4, 5, 6, 7, 8, 9, 10, 11, 19, 29, 37, 46, 62, 81, 82, 92, 93, 133, 145] 18 [4] (.op 1 .plain (.op 3 .plain (.op 4 .held (.both (.op 0 .keeps (.both (.op 2 .keeps (.op 5 .plain (.op 6 .keeps (.op 7 .plain .nil)))) (.op 5 .plain (.op 2 .keeps (.op 6 .keeps (.op 7 .plain .nil)))))) (.op 5 .plain (.op 0 .keeps (.op 2 .keeps (.op 6 .keeps (.op 7 .plain .nil))))))))) (by kernel_rfl) [6] ?_
              | with_reducible refine Tri.drawH tok mixed [0, 2, 3, 4, 5, 6, 7, 8, 9, 10, 11, 19, 29, 37, 46, 62, 81, 82, 92, 93, 133, 145] 22 [2, 6] (.op 0 .plain (.op 1 .plain (.op 2 .held (.op 4 .plain (.op 5 .plain (.op 6 .held (.op 3 .keeps (.op 7 .keeps (.op 8 .plain .nil))))))))) (by kernel_rfl) [6] ?_
              | simp (dsimp := false) (implicitDefEqProofs := false) (disch := first | assumption | (simp only [List.mem_cons, List.mem_append, true_or, or_true, eq_self]; done) | omega | (with_reducible refine Row.adr (by assumption) ?_; simp only [List.length_map, List.length_take, List.length_drop]; omega) | (simp only [List.length_cons, List.length_nil, List.length_map, List.length_append, List.length_replicate, Nat.reduceAdd, true_and, and_true, and_self]; first | done | omega)) only [go_sem, ↓reduceIte, Nat.reduceEqDiff, Nat.reduceAdd, Nat.reduceSub, Nat.reduceMul, Nat.reduceBEq, Nat.reduceLT, Nat.reduceLeDiff, Nat.reduceMod, Nat.reducePow, List.reduceReplicate, UInt8.reduceOfNat, Int.reducePow, Int.reduceDiv, Int.reduceMod, Nat.reduceDiv, Int.reduceNeg, Int.reduceAdd, Int.reduceSub, Int.reduceMul, Int.reduceLE, Int.reduceLT, Int.reduceEq, Int.reduceToNat, decide_true, decide_false, reduceCtorEq, ne_eq, not_false_eq_true, not_true_eq_false, and_true, true_and, and_self, or_true, true_or, or_false, false_or, or_self, eq_self, Option.isNone_some, Option.isNone_none, Nat.zero_add, Nat.add_zero, Nat.mul_one, Nat.one_mul, Nat.zero_mul, List.length_cons, List.length_nil, List.getElem?_cons_zero, List.getElem?_cons_succ, List.map_cons, List.map_nil, List.append_nil]
              | refine lens_t ht1 ?_
              | refine keyss_t ht1 (by first | omega | (simp; omega)) fun G3 v3 hle3 hs3 hsl => ?_
              | refine rsame_t _ _ (by first | omega | (simp; omega)) hsl (hm.mono hle3) ?_
            all_goals first
              | refine Upd.leave (H' := tb1 ++ H) (by intro fsum; first | exact Nat.le_refl _ | (simp only [List.map_append, List.map_cons, List.map_nil, List.sum_append, List.sum_cons, List.sum_nil, List.cons_append, List.nil_append]; omega)) ⟨n - 1, by omega, i + 1, tb1, ks, _, by omega, by omega, ht1, hm.mono hle3, rfl, rfl⟩
              | (exfalso; omega)
              | (rename_i h; exact absurd rfl h)
              | (exfalso; rename_i h; refine h ?_; first | exact (decide_eq_true (by omega)).symm | exact (decide_eq_false (by omega)).symm)
              | trace_state
        · repeat' first
            | with_reducible refine Br.yes ?_
            | with_reducible refine Br.no ?_
            | with_reducible refine Br.dec (fun _ => ?_) (fun _ => ?_)
            | with_reducible refine Br.beqB (fun _ => ?_) (fun _ => ?_)
            | with_reducible refine Br.beqb (fun _ => ?_) (fun _ => ?_)
            | with_reducible refine Br.mk (fun _ => ?_) (fun _ => ?_)
            | with_reducible refine foundO.mk (fun _ _ => ?_) (fun _ => ?_)
            | with_reducible refine appV.zero ?_
            | with_reducible refine appV.own ?_
            | ((with_reducible refine NewB.mk fun nb hnb => ?_); have hnb1 := hnb.1.1; have hnb2 := hnb.1.2; try simp only [keys_cons, keys_app, keys_nil, NotIn_cons, NotIn_app, NotIn_nil, and_true] at hnb2)
            | ((with_reducible refine NewRow.mk fun nb nsp ncap hnb hncap => ?_); have hnb1 := hnb.1.1; have hnb2 := hnb.1.2; try simp only [keys_cons, keys_app, keys_nil, NotIn_cons, NotIn_app, NotIn_nil, and_true] at hnb2)
            | with_reducible refine Tri.drawH tok mixed [0, 2, 3, 4, 5, 6, 7, 8, 9, 10, 11, 19, 29, 37, 46, 62, 81, 82, 92, 93, 133, 145] 18 [4] (.op 1 .plain (.op 3 .plain (.op 4 .held (.both (.op 0 .keeps (.both (.op 2 .keeps (.op 5 .plain (.op 6 .keeps (.op 7 .plain .nil)))) (.op 5 .plain (.op 2 .keeps (.op 6 .keeps (.op 7 .plain .nil)))))) (.op 5 .plain (.op 0 .keeps (.op 2 .keeps (.op 6 .keeps (.op 7 .plain .nil))))))))) (by kernel_rfl) [6] ?_
            | with_reducible refine Tri.drawH tok mixed [0, 2, 3, 4, 5, 6, 7, 8, 9, 10, 11, 19, 29, 37, 46, 62, 81, 82, 92, 93, 133, 145] 22 [2, 6] (.op 0 .plain (.op 1 .plain (.op 2 .held (.op 4 .plain (.op 5 .plain (.op 6 .held (.op 3 .keeps (.op 7 .keeps (.op 8 .plain .nil))))))))) (by kernel_rfl) [6] ?_
            | simp (dsimp := false) (implicitDefEqProofs := false) (disch := first | assumption | (simp only [List.mem_cons, List.mem_append, true_or, or_true, eq_self]; done) | omega | (with_reducible refine Row.adr (by assumption) ?_; simp only [List.length_map, List.length_take, List.length_drop]; omega) | (simp only [List.length_cons, List.length_nil, List.length_map, List.length_append, List.length_replicate, Nat.reduceAdd, true_and, and_true, and_self]; first | done | omega)) only [go_sem, ↓reduceIte, Nat.reduceEqDiff, Nat.reduceAdd, Nat.reduceSub, Nat.reduceMul, Nat.reduceBEq, Nat.reduceLT, Nat.reduceLeDiff, Nat.reduceMod, Nat.reducePow, List.reduceReplicate, UInt8.reduceOfNat, Int.reducePow, Int.reduceDiv, Int.reduceMod, Nat.reduceDiv, Int.reduceNeg, Int.reduceAdd, Int.reduceSub, Int.reduceMul, Int.reduceLE, Int.reduceLT, Int.reduceEq, Int.reduceToNat, decide_true, decide_false, reduceCtorEq, ne_eq, not_false_eq_true, not_true_eq_false, and_true, true_and, and_self, or_true, true_or, or_false, false_or, or_self, eq_self, Option.isNone_some, Option.isNone_none, Nat.zero_add, Nat.add_zero, Nat.mul_one, Nat.one_mul, Nat.zero_mul, List.length_cons, List.length_nil, List.getElem?_cons_zero, List.getElem?_cons_succ, List.map_cons, List.map_nil, List.append_nil, Row.objsM hrow' encOp_len (by decide) hil, encOp]
          all_goals try omega
          all_goals (revert nb; intro ob hnb hnb1 hnb2)
          refine FnT.leave (H' := tb ++ ((ob, .cells [.int .i64 l[i].kind, str l[i].k, .int .i64 l[i].i] [] 42) :: H)) (back_t l[i].i ht (by omega) fun tb1 hs1 ht1 => ?_) (by intro fsum; first | exact Nat.le_refl _ | (simp only [List.map_append, List.map_cons, List.map_nil, List.sum_append, List.sum_cons, List.sum_nil, List.cons_append, List.nil_append]; omega))
          have hn1 := hs1.mid
          repeat' first
            | with_reducible refine Br.yes ?_
            | with_reducible refine Br.no ?_
            | with_reducible refine Br.dec (fun _ => ?_) (fun _ => ?_)
            | with_reducible refine Br.beqB (fun _ => ?_) (fun _ => ?_)
            | with_reducible refine Br.beqb (fun _ => ?_) (fun _ => ?_)
            | with_reducible refine Br.mk (fun _ => ?_) (fun _ => ?_)
            | with_reducible refine foundO.mk (fun _ _ => ?_) (fun _ => ?_)
            | with_reducible refine appV.zero ?_
            | with_reducible refine appV.own ?_
            | ((with_reducible refine NewB.mk fun nb hnb => ?_); have hnb1 := hnb.1.1; have hnb2 := hnb.1.2; try simp only [keys_cons, keys_app, keys_nil, NotIn_cons, NotIn_app, NotIn_nil, and_true] at hnb2)
            | ((with_reducible refine NewRow.mk fun nb nsp ncap hnb hncap => ?_); have hnb1 := hnb.1.1; have hnb2 := hnb.1.2; try simp only [keys_cons, keys_app, keys_nil, NotIn_cons, NotIn_app, NotIn_nil, and_true] at hnb2)
            | with_reducible refine Tri.drawH tok mixed [0, 2, 3, 4, 5, 6, 7, 8, 9, 10, 11, 19, 29, 37, 46, 62, 81, 82, 92, 93, 133, 145] 18 [4] (.op 1 .plain (.op 3 .plain (.op 4 .held (.both (.op 0 .keeps (.both (.op 2 .keeps (.op 5 .plain (.op 6 .keeps (.op 7 .plain .nil)))) (.op 5 .plain (.op 2 .keeps (.op 6 .keeps (.op 7 .plain .nil)))))) (.op 5 .plain (.op 0 .keeps (.op 2 .keeps (.op 6 .keeps (.op 7 .plain .nil))))))))) (by kernel_rfl) [6] ?_
            | with_reducible refine Tri.drawH tok mixed [0, 2, 3, 4, 5, 6, 7, 8, 9, 10, 11, 19, 29, 37, 46, 62, 81, 82, 92, 93, 133, 145] 22 [2, 6] (.op 0 .plain (.op 1 .plain (.op 2 .held (.op 4 .plain (.op 5 .plain (.op 6 .held (.op 3 .keeps (.op 7 .keeps (.op 8 .plain .nil))))))))) (by kernel_rfl) [6] ?_
            | simp (dsimp := false) (implicitDefEqProofs := false) (disch := first | assumption | (simp only [List.mem_cons, List.mem_append, true_or, or_true, eq_self]; done) | omega | (with_reducible refine Row.adr (by assumption) ?_; simp only [List.length_map, List.length_take, List.length_drop]; omega) | (simp only [List.length_cons, List.length_nil, List.length_map, List.length_append, List.length_replicate, Nat.reduceAdd, true_and, and_true, and_self]; first | done | omega)) only [go_sem, ↓reduceIte, Nat.reduceEqDiff, Nat.reduceAdd, Nat.reduceSub, Nat.reduceMul, Nat.reduceBEq, Nat.reduceLT, Nat.reduceLeDiff, Nat.reduceMod, Nat.reducePow, List.reduceReplicate, UInt8.reduceOfNat, Int.reducePow, Int.reduceDiv, Int.reduceMod, Nat.reduceDiv, Int.reduceNeg, Int.reduceAdd, Int.reduceSub, Int.reduceMul, Int.reduceLE, Int.reduceLT, Int.reduceEq, Int.reduceToNat, decide_true, decide_false, reduceCtorEq, ne_eq, not_false_eq_true, not_true_eq_false, and_true, true_and, and_self, or_true, true_or, or_false, false_or, or_self, eq_self, Option.isNone_some, Option.isNone_none, Nat.zero_add, Nat.add_zero, Nat.mul_one, Nat.one_mul, Nat.zero_mul, List.length_cons, List.length_nil, List.getElem?_cons_zero, List.getElem?_cons_succ, List.map_cons, List.map_nil, List.append_nil]
          refine rback_t ks l[i].i (by omega) hm fun G2 v2 hle2 hs2 hm2 => ?_
          have hlt : (ks.take l[i].i.toNat).length ≤ ks.length := by rw [List.length_take]; omega
          obtain ⟨a2, cap2, rfl, hr2, hc2⟩ := hm2
          have hm2 : Sl G2 str (.slice a2 (ks.take l[i].i.toNat).length cap2) (ks.take l[i].i.toNat) := ⟨a2, cap2, rfl, hr2, hc2⟩
          repeat' first
            | with_reducible refine Br.yes ?_
            | with_reducible refine Br.no ?_
            | with_reducible refine Br.dec (fun _ => ?_) (fun _ => ?_)
            | with_reducible refine Br.beqB (fun _ => ?_) (fun _ => ?_)
            | with_reducible refine Br.beqb (fun _ => ?_) (fun _ => ?_)
            | with_reducible refine Br.mk (fun _ => ?_) (fun _ => ?_)
            | with_reducible refine foundO.mk (fun _ _ => ?_) (fun _ => ?_)
            | with_reducible refine appV.zero ?_
            | with_reducible refine appV.own ?_
            | ((with_reducible refine NewB.mk fun nb hnb => ?_); have hnb1 := hnb.1.1; have hnb2 := hnb.1.2; try simp only [keys_cons, keys_app, keys_nil, NotIn_cons, NotIn_app, NotIn_nil, and_true] at hnb2)
            | ((with_reducible refine NewRow.mk fun nb nsp ncap hnb hncap => ?_); have hnb1 := hnb.1.1; have hnb2 := hnb.1.2; try simp only [keys_cons, keys_app, keys_nil, NotIn_cons, NotIn_app, NotIn_nil, and_true] at hnb2)
            | with_reducible refine Tri.drawH tok mixed [0, 2, 3, 4, 5, 6, 7, 8, 9, 10, 11, 19, 29, 37, 46, 62, 81, 82, 92, 93, 133, 145] 18 [4] (.op 1 .plain (.op 3 .plain (.op 4 .held (.both (.op 0 .keeps (.both (.op 2 .keeps (.op 5 .plain (.op 6 .keeps (.op 7 .plain .nil)))) (.op 5 .plain (.op 2 .keeps (.op 6 .keeps (.op 7 .plain .nil)))))) (.op 5 .plain (.op 0 .keeps (.op 2 .keeps (.op 6 .keeps (.op 7 .plain .nil))))))))) (by kernel_rfl) [6] ?_
            | with_reducible refine Tri.drawH tok mixed [0, 2, 3, 4, 5, 6, 7, 8, 9, 10, 11, 19, 29, 37, 46, 62, 81, 82, 92, 93, 133, 145] 22 [2, 6] (.op 0 .plain (.op 1 .plain (.op 2 .held (.op 4 .plain (.op 5 .plain (.op 6 .held (.op 3 .keeps (.op 7 .keeps (.op 8 .plain .nil))))))))) (by kernel_rfl) [6] ?_
            | simp (dsimp := false) (implicitDefEqProofs := false) (disch := first | assumption | (simp only [List.mem_cons, List.mem_append, true_or, or_true, eq_self]; done) | omega | (with_reducible refine Row.adr (by assumption) ?_; simp only [List.length_map, List.length_take, List.length_drop]; omega) | (simp only [List.length_cons, List.length_nil, List.length_map, List.length_append, List.length_replicate, Nat.reduceAdd, true_and, and_true, and_self]; first | done | omega)) only [go_sem, ↓reduceIte, Nat.reduceEqDiff, Nat.reduceAdd, Nat.reduceSub, Nat.reduceMul, Nat.reduceBEq, Nat.reduceLT, Nat.reduceLeDiff, Nat.reduceMod, Nat.reducePow, List.reduceReplicate, UInt8.reduceOfNat, Int.reducePow, Int.reduceDiv, Int.reduceMod, Nat.reduceDiv, Int.reduceNeg, Int.reduceAdd, Int.reduceSub, Int.reduceMul, Int.reduceLE, Int.reduceLT, Int.reduceEq, Int.reduceToNat, decide_true, decide_false, reduceCtorEq, ne_eq, not_false_eq_true, not_true_eq_false, and_true, true_and, and_self, or_true, true_or, or_false, false_or, or_self, eq_self, Option.isNone_some, Option.isNone_none, Nat.zero_add, Nat.add_zero, Nat.mul_one, Nat.one_mul, Nat.zero_mul, List.length_cons, List.length_nil, List.getElem?_cons_zero, List.getElem?_cons_succ, List.map_cons, List.map_nil, List.append_nil]
            | refine lens_t ht1 ?_
            | refine keyss_t ht1 (by omega) fun G3 v3 hle3 hs3 hsl => ?_
            | refine rsame_t _ _ (by omega) hsl (hm2.mono hle3) ?_
          all_goals first
            | refine Upd.leave (H' := tb1 ++ H) (by intro fsum; first | exact Nat.le_refl _ | (simp only [List.map_append, List.map_cons, List.map_nil, List.sum_append, List.sum_cons, List.sum_nil, List.cons_append, List.nil_append]; omega)) ⟨n - 1, by omega, i + 1, tb1, (ks.take l[i].i.toNat), _, by omega, by omega, ht1, hm2.mono hle3, rfl, rfl⟩
            | (exfalso; omega)
            | (rename_i h; exact absurd rfl h)
            | (exfalso; rename_i h; refine h ?_; first | exact (decide_eq_true (by omega)).symm | exact (decide_eq_false (by omega)).symm)
            | trace_state
      · obtain rfl : i = l.length := by omega
        repeat' first
          | with_reducible refine Br.yes ?_
          | with_reducible refine Br.no ?_
          | with_reducible refine Br.dec (fun _ => ?_) (fun _ => ?_)
          | with_reducible refine Br.beqB (fun _ => ?_) (fun _ => ?_)
          | with_reducible refine Br.beqb (fun _ => ?_) (fun _ => ?_)
          | with_reducible refine Br.mk (fun _ => ?_) (fun _ => ?_)
          | with_reducible refine foundO.mk (fun _ _ => ?_) (fun _ => ?_)
          | with_reducible refine appV.zero ?_
          | with_reducible refine appV.own ?_
          | ((with_reducible refine NewB.mk fun nb hnb => ?_); have hnb1 := hnb.1.1; have hnb2 := hnb.1.2; try simp only [keys_cons, keys_app, keys_nil, NotIn_cons, NotIn_app, NotIn_nil, and_true] at hnb2)
          | ((with_reducible refine NewRow.mk fun nb nsp ncap hnb hncap => ?_); have hnb1 := hnb.1.1; have hnb2 := hnb.1.2; try simp only [keys_cons, keys_app, keys_nil, NotIn_cons, NotIn_app, NotIn_nil, and_true] at hnb2)
          | with_reducible refine Tri.drawH tok mixed [0, 2, 3, 4, 5, 6, 7, 8, 9, 10, 11, 19, 29, 37, 46, 62, 81, 82, 92, 93, 133, 145] 18 [4] (.op 1 .plain (.op 3 .plain (.op 4 .held (.both (.op 0 .keeps (.both (.op 2 .keeps (.op 5 .plain (.op 6 .keeps (.op 7 .plain .nil)))) (.op 5 .plain (.op 2 .keeps (.op 6 .keeps (.op 7 .plain .nil)))))) (.op 5 .plain (.op 0 .keeps (.op 2 .keeps (.op 6 .keeps (.op 7 .plain .nil))))))))) (by kernel_rfl) [6] ?_
          | with_reducible refine Tri.drawH tok mixed [0, 2, 3, 4, 5, 6, 7, 8, 9, 10, 11, 19, 29, 37, 46, 62, 81, 82, 92, 93, 133, 145] 22 [2, 6] (.op 0 .plain (.op 1 .plain (.op 2 .held (.op 4 .plain (.op 5 .plain (.op 6 .held (.op 3 .keeps (.op 7 .keeps (.op 8 .plain .nil))))))))) (by kernel_rfl) [6] ?_
          | simp (dsimp := false) (implicitDefEqProofs := false) (disch := first | assumption | (simp only [List.mem_cons, List.mem_append, true_or, or_true, eq_self]; done) | omega | (with_reducible refine Row.adr (by assumption) ?_; simp only [List.length_map, List.length_take, List.length_drop]; omega) | (simp only [List.length_cons, List.length_nil, List.length_map, List.length_append, List.length_replicate, Nat.reduceAdd, true_and, and_true, and_self]; first | done | omega)) only [go_sem, ↓reduceIte, Nat.reduceEqDiff, Nat.reduceAdd, Nat.reduceSub, Nat.reduceMul, Nat.reduceBEq, Nat.reduceLT, Nat.reduceLeDiff, Nat.reduceMod, Nat.reducePow, List.reduceReplicate, UInt8.reduceOfNat, Int.reducePow, Int.reduceDiv, Int.reduceMod, Nat.reduceDiv, Int.reduceNeg, Int.reduceAdd, Int.reduceSub, Int.reduceMul, Int.reduceLE, Int.reduceLT, Int.reduceEq, Int.reduceToNat, decide_true, decide_false, reduceCtorEq, ne_eq, not_false_eq_true, not_true_eq_false, and_true, true_and, and_self, or_true, true_or, or_false, false_or, or_self, eq_self, Option.isNone_some, Option.isNone_none, Nat.zero_add, Nat.add_zero, Nat.mul_one, Nat.one_mul, Nat.zero_mul, List.length_cons, List.length_nil, List.getElem?_cons_zero, List.getElem?_cons_succ, List.map_cons, List.map_nil, List.append_nil]
          | refine knows_t ?_
        all_goals refine Upd.finL ?_ (hR _ hle) ?_
        any_goals (intro fsum; first | exact Nat.le_refl _ | (simp only [List.map_append, List.map_cons, List.map_nil, List.sum_append, List.sum_cons, List.sum_nil, List.cons_append, List.nil_append]; omega))
        rfl
end Go.Proofs.Ytkojnphddaccfaa
