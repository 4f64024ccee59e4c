/- Things that are joined: the document's joining. -/
import Derived.Test.YtcaoojjciadlhaaFj
set_option linter.unusedSimpArgs false
set_option linter.unusedVariables false
namespace Go.Proofs.Ytcaoojjciadlhaa
open Go Go.V Go.Proofs

theorem maxI_nat (x y : Nat) : maxI (x : Int) (y : Int) = ((max x y : Nat) : Int) := by unfold maxI; split <;> omega
theorem rjoin_t (n : Nat) (m : Nat → Nat) (i j : Int) {G : PHeap} {H : Heap} {R : Value → PHeap → Heap → Prop} {v : Value} (hv : Sl G (Value.int .i64) v (labs n m)) (hn : n ≤ 1048576)
    (hR : ∀ G' v', PLe G G' → Sep G' (keys H) → Sl G' (Value.int .i64) v' (labs n (joinS n m i j).1) → R (.tuple #[v', .bool (joinS n m i j).2]) G' H) : FnT Try.prog 10 [v, .int .i64 i, .int .i64 j] G H R := by
  have hv' := hv
  obtain ⟨a, cap, rfl, hrow, hcap⟩ := hv
  have hl := labs_len n m
  refine FnT.sep ?_
  by_cases h : 0 ≤ i ∧ i < n ∧ 0 ≤ j ∧ j < n ∧ m i.toNat ≠ m j.toNat
  · have hj : joinS n m i j = (joinM m i.toNat j.toNat, true) := if_pos h
    rw [hj] at hR
    obtain ⟨hi1, hi2, hj1, hj2, hne⟩ := h
    have hne2 : ((m i.toNat : Int) = (m j.toNat : Int)) = False := eq_false (by omega)
    refine FnT.body tok [0, 1, 2, 6, 7, 8, 9, 10, 11, 32, 56, 64] Try.func10 rfl (by kernel_rfl) (by kernel_rfl) (by show _ ≤ 77; simp) fun hsep => ?_
    rw [Try.results10]
    have hsE := hsep
    try simp only [keys_cons, keys_app, keys_nil, Sep_cons, Sep_nil, NotIn_cons, NotIn_app, NotIn_nil, List.cons_append, List.nil_append, List.append_assoc, and_assoc, and_true, true_and] at hsE
    repeat (obtain ⟨hsx, hsE⟩ := hsE)
    repeat' first
      | with_reducible refine Br.yes ?_
      | with_reducible refine Br.no ?_
      | with_reducible refine Br.dec (fun _ => ?_) (fun _ => ?_)
      | with_reducible refine Br.beqB (fun _ => ?_) (fun _ => ?_)
      | with_reducible refine Br.beqb (fun _ => ?_) (fun _ => ?_)
      | with_reducible refine Br.mk (fun _ => ?_) (fun _ => ?_)
      | with_reducible refine foundO.mk (fun _ _ => ?_) (fun _ => ?_)
      | with_reducible refine appV.zero ?_
      | with_reducible refine appV.own ?_
      | ((with_reducible refine NewB.mk fun nb hnb => ?_); have hnb1 := hnb.1.1; have hnb2 := hnb.1.2; try simp only [keys_cons, keys_app, keys_nil, NotIn_cons, NotIn_app, NotIn_nil, and_true] at hnb2)
      | ((with_reducible refine NewRow.mk fun nb nsp ncap hnb hncap => ?_); have hnb1 := hnb.1.1; have hnb2 := hnb.1.2; try simp only [keys_cons, keys_app, keys_nil, NotIn_cons, NotIn_app, NotIn_nil, and_true] at hnb2)
      | with_reducible refine Tri.drawM tok mixed [0, 1, 2, 6, 7, 8, 9, 10, 11, 32, 56, 64] 1 [] (.op 0 .plain (.op 1 .plain (.op 2 .keeps (.op 3 .plain (.op 4 .plain (.op 5 .plain (.op 6 .plain (.op 7 .keeps (.op 8 .plain (.op 9 .plain (.op 10 .plain (.op 11 .plain (.op 12 .plain (.op 13 .plain (.op 15 .plain (.op 16 .plain (.op 17 .plain (.both (.op 14 .keeps (.op 18 .keeps (.op 19 .plain (.op 20 .plain .nil)))) (.op 18 .keeps (.op 14 .keeps (.op 19 .plain (.op 20 .plain .nil)))))))))))))))))))))) (by kernel_rfl) [] (List.nil_sublist _) ?_
      | with_reducible refine Tri.drawH tok mixed [0, 1, 2, 6, 7, 8, 9, 10, 11, 32, 56, 64] 3 [3, 7] (.op 0 .plain (.op 1 .plain (.op 2 .plain (.op 3 .held (.op 4 .plain (.op 5 .plain (.op 6 .plain (.op 7 .held (.op 8 .plain (.op 9 .plain .nil)))))))))) (by kernel_rfl) [0] ?_
      | with_reducible refine Tri.drawH tok mixed [0, 1, 2, 6, 7, 8, 9, 10, 11, 32, 56, 64] 4 [3, 7] (.op 0 .plain (.op 1 .plain (.op 2 .plain (.op 3 .held (.op 4 .plain (.op 5 .plain (.op 6 .plain (.op 7 .held (.op 8 .plain (.op 9 .plain .nil)))))))))) (by kernel_rfl) [0] ?_
      | simp (dsimp := false) (implicitDefEqProofs := false) (disch := first | assumption | (simp only [List.mem_cons, List.mem_append, true_or, or_true, eq_self]; done) | omega | (with_reducible refine Row.adr (by assumption) ?_; simp only [List.length_map, List.length_take, List.length_drop]; omega) | (simp only [List.length_cons, List.length_nil, List.length_map, List.length_append, List.length_replicate, Nat.reduceAdd, true_and, and_true, and_self]; first | done | omega)) only [go_sem, ↓reduceIte, Nat.reduceEqDiff, Nat.reduceAdd, Nat.reduceSub, Nat.reduceMul, Nat.reduceBEq, Nat.reduceLT, Nat.reduceLeDiff, Nat.reduceMod, Nat.reducePow, List.reduceReplicate, UInt8.reduceOfNat, Int.reducePow, Int.reduceDiv, Int.reduceMod, Nat.reduceDiv, Int.reduceNeg, Int.reduceAdd, Int.reduceSub, Int.reduceMul, Int.reduceLE, Int.reduceLT, Int.reduceEq, Int.reduceToNat, decide_true, decide_false, reduceCtorEq, ne_eq, not_false_eq_true, not_true_eq_false, and_true, true_and, and_self, or_true, true_or, or_false, false_or, or_self, eq_self, Option.isNone_some, Option.isNone_none, Nat.zero_add, Nat.add_zero, Nat.mul_one, Nat.one_mul, Nat.zero_mul, List.length_cons, List.length_nil, List.getElem?_cons_zero, List.getElem?_cons_succ, List.map_cons, List.map_nil, List.append_nil, Row.obj hrow, List.getElem_map, labs_get, hne2, minI_nat, maxI_nat]
      | (with_reducible refine is_t n m i hv' hn ?_; rw [decide_eq_true ⟨hi1, hi2⟩])
      | (with_reducible refine is_t n m j hv' hn ?_; rw [decide_eq_true ⟨hj1, hj2⟩])
    · refine Tri.loopU tok [0, 1, 2, 6, 7, 8, 9, 10, 11, 32, 56, 64] (by kernel_rfl) [0, 1, 2, 6, 7, 8, 9, 10, 11] (fun q G' fr H' => ∃ (k b c : Nat) (sp : List Value), k + q = n ∧ k + sp.length = c ∧ G' = G ∧ H' = (b, .cells ((labs k (joinM m i.toNat j.toNat)).map (Value.int .i64)) sp 3) :: H ∧ fr = [(0, .slice a (labs n m).length cap), (1, .int .i64 i), (2, .int .i64 j), (6, .slice none 0 0), (7, .bool false), (8, .int .i64 ((min (m i.toNat) (m j.toNat) : Nat) : Int)), (9, .int .i64 ((max (m i.toNat) (m j.toNat) : Nat) : Int)), (10, .slice (some ⟨b, 0, none⟩) k c), (11, .int .i64 k)]) (n) (Upd.now ?_) ?_
      · exact ⟨0, nb, 0, [], by omega, rfl, rfl, rfl, rfl⟩
      · rintro q G' fr H' hle hs ⟨k, b, c, sp, hk, hc, rfl, rfl, rfl⟩
        have hs1 := hs.1.1
        have hs2 := hs.1.2
        have hlb := labs_len k (joinM m i.toNat j.toNat)
        have hsu := labs_succ k (joinM m i.toNat j.toNat)
        by_cases hkl : k < n
        · by_cases he : m k = max (m i.toNat) (m j.toNat)
          · have hjm : joinM m i.toNat j.toNat k = min (m i.toNat) (m j.toNat) := if_pos he
            rw [hjm] at hsu
            repeat' first
              | with_reducible refine Br.yes ?_
              | with_reducible refine Br.no ?_
              | with_reducible refine Br.dec (fun _ => ?_) (fun _ => ?_)
              | with_reducible refine Br.beqB (fun _ => ?_) (fun _ => ?_)
              | with_reducible refine Br.beqb (fun _ => ?_) (fun _ => ?_)
              | with_reducible refine Br.mk (fun _ => ?_) (fun _ => ?_)
              | with_reducible refine foundO.mk (fun _ _ => ?_) (fun _ => ?_)
              | with_reducible refine appV.zero ?_
              | with_reducible refine appV.own ?_
              | ((with_reducible refine NewB.mk fun nb hnb => ?_); have hnb1 := hnb.1.1; have hnb2 := hnb.1.2; try simp only [keys_cons, keys_app, keys_nil, NotIn_cons, NotIn_app, NotIn_nil, and_true] at hnb2)
              | ((with_reducible refine NewRow.mk fun nb nsp ncap hnb hncap => ?_); have hnb1 := hnb.1.1; have hnb2 := hnb.1.2; try simp only [keys_cons, keys_app, keys_nil, NotIn_cons, NotIn_app, NotIn_nil, and_true] at hnb2)
              | with_reducible refine Tri.drawM tok mixed [0, 1, 2, 6, 7, 8, 9, 10, 11, 32, 56, 64] 1 [] (.op 0 .plain (.op 1 .plain (.op 2 .keeps (.op 3 .plain (.op 4 .plain (.op 5 .plain (.op 6 .plain (.op 7 .keeps (.op 8 .plain (.op 9 .plain (.op 10 .plain (.op 11 .plain (.op 12 .plain (.op 13 .plain (.op 15 .plain (.op 16 .plain (.op 17 .plain (.both (.op 14 .keeps (.op 18 .keeps (.op 19 .plain (.op 20 .plain .nil)))) (.op 18 .keeps (.op 14 .keeps (.op 19 .plain (.op 20 .plain .nil)))))))))))))))))))))) (by kernel_rfl) [] (List.nil_sublist _) ?_
              | with_reducible refine Tri.drawH tok mixed [0, 1, 2, 6, 7, 8, 9, 10, 11, 32, 56, 64] 3 [3, 7] (.op 0 .plain (.op 1 .plain (.op 2 .plain (.op 3 .held (.op 4 .plain (.op 5 .plain (.op 6 .plain (.op 7 .held (.op 8 .plain (.op 9 .plain .nil)))))))))) (by kernel_rfl) [0] ?_
              | with_reducible refine Tri.drawH tok mixed [0, 1, 2, 6, 7, 8, 9, 10, 11, 32, 56, 64] 4 [3, 7] (.op 0 .plain (.op 1 .plain (.op 2 .plain (.op 3 .held (.op 4 .plain (.op 5 .plain (.op 6 .plain (.op 7 .held (.op 8 .plain (.op 9 .plain .nil)))))))))) (by kernel_rfl) [0] ?_
              | simp (dsimp := false) (implicitDefEqProofs := false) (disch := first | assumption | (simp only [List.mem_cons, List.mem_append, true_or, or_true, eq_self]; done) | omega | (with_reducible refine Row.adr (by assumption) ?_; simp only [List.length_map, List.length_take, List.length_drop]; omega) | (simp only [List.length_cons, List.length_nil, List.length_map, List.length_append, List.length_replicate, Nat.reduceAdd, true_and, and_true, and_self]; first | done | omega)) only [go_sem, ↓reduceIte, Nat.reduceEqDiff, Nat.reduceAdd, Nat.reduceSub, Nat.reduceMul, Nat.reduceBEq, Nat.reduceLT, Nat.reduceLeDiff, Nat.reduceMod, Nat.reducePow, List.reduceReplicate, UInt8.reduceOfNat, Int.reducePow, Int.reduceDiv, Int.reduceMod, Nat.reduceDiv, Int.reduceNeg, Int.reduceAdd, Int.reduceSub, Int.reduceMul, Int.reduceLE, Int.reduceLT, Int.reduceEq, Int.reduceToNat, decide_true, decide_false, reduceCtorEq, ne_eq, not_false_eq_true, not_true_eq_false, and_true, true_and, and_self, or_true, true_or, or_false, false_or, or_self, eq_self, Option.isNone_some, Option.isNone_none, Nat.zero_add, Nat.add_zero, Nat.mul_one, Nat.one_mul, Nat.zero_mul, List.length_cons, List.length_nil, List.getElem?_cons_zero, List.getElem?_cons_succ, List.map_cons, List.map_nil, List.append_nil, Row.obj hrow, List.getElem_map, labs_get, he]
            refine Upd.leave (H' := (nb, .cells (List.map (Value.int .i64) (labs k (joinM m i.toNat j.toNat)) ++ [Value.int .i64 ((min (m i.toNat) (m j.toNat) : Nat) : Int)]) nsp 3) :: H) (by intro fsum; first | exact Nat.le_refl _ | (simp only [List.map_append, List.map_cons, List.map_nil, List.sum_append, List.sum_cons, List.sum_nil, List.cons_append, List.nil_append]; omega)) ⟨q - 1, by omega, k + 1, nb, ncap, nsp, by omega, by first | omega | (simp only [List.length_append, List.length_map, List.length_singleton, hlb] at hncap; omega), rfl, by rw [hsu, List.map_append]; rfl, rfl⟩
          · have hjm : joinM m i.toNat j.toNat k = m k := if_neg he
            rw [hjm] at hsu
            have he2 : ((m k : Int) = ((max (m i.toNat) (m j.toNat) : Nat) : Int)) = False := eq_false (by omega)
            repeat' first
              | with_reducible refine Br.yes ?_
              | with_reducible refine Br.no ?_
              | with_reducible refine Br.dec (fun _ => ?_) (fun _ => ?_)
              | with_reducible refine Br.beqB (fun _ => ?_) (fun _ => ?_)
              | with_reducible refine Br.beqb (fun _ => ?_) (fun _ => ?_)
              | with_reducible refine Br.mk (fun _ => ?_) (fun _ => ?_)
              | with_reducible refine foundO.mk (fun _ _ => ?_) (fun _ => ?_)
              | with_reducible refine appV.zero ?_
              | with_reducible refine appV.own ?_
              | ((with_reducible refine NewB.mk fun nb hnb => ?_); have hnb1 := hnb.1.1; have hnb2 := hnb.1.2; try simp only [keys_cons, keys_app, keys_nil, NotIn_cons, NotIn_app, NotIn_nil, and_true] at hnb2)
              | ((with_reducible refine NewRow.mk fun nb nsp ncap hnb hncap => ?_); have hnb1 := hnb.1.1; have hnb2 := hnb.1.2; try simp only [keys_cons, keys_app, keys_nil, NotIn_cons, NotIn_app, NotIn_nil, and_true] at hnb2)
              | with_reducible refine Tri.drawM tok mixed [0, 1, 2, 6, 7, 8, 9, 10, 11, 32, 56, 64] 1 [] (.op 0 .plain (.op 1 .plain (.op 2 .keeps (.op 3 .plain (.op 4 .plain (.op 5 .plain (.op 6 .plain (.op 7 .keeps (.op 8 .plain (.op 9 .plain (.op 10 .plain (.op 11 .plain (.op 12 .plain (.op 13 .plain (.op 15 .plain (.op 16 .plain (.op 17 .plain (.both (.op 14 .keeps (.op 18 .keeps (.op 19 .plain (.op 20 .plain .nil)))) (.op 18 .keeps (.op 14 .keeps (.op 19 .plain (.op 20 .plain .nil)))))))))))))))))))))) (by kernel_rfl) [] (List.nil_sublist _) ?_
              | with_reducible refine Tri.drawH tok mixed [0, 1, 2, 6, 7, 8, 9, 10, 11, 32, 56, 64] 3 [3, 7] (.op 0 .plain (.op 1 .plain (.op 2 .plain (.op 3 .held (.op 4 .plain (.op 5 .plain (.op 6 .plain (.op 7 .held (.op 8 .plain (.op 9 .plain .nil)))))))))) (by kernel_rfl) [0] ?_
              | with_reducible refine Tri.drawH tok mixed [0, 1, 2, 6, 7, 8, 9, 10, 11, 32, 56, 64] 4 [3, 7] (.op 0 .plain (.op 1 .plain (.op 2 .plain (.op 3 .held (.op 4 .plain (.op 5 .plain (.op 6 .plain (.op 7 .held (.op 8 .plain (.op 9 .plain .nil)))))))))) (by kernel_rfl) [0] ?_
              | simp (dsimp := false) (implicitDefEqProofs := false) (disch := first | assumption | (simp only [List.mem_cons, List.mem_append, true_or, or_true, eq_self]; done) | omega | (with_reducible refine Row.adr (by assumption) ?_; simp only [List.length_map, List.length_take, List.length_drop]; omega) | (simp only [List.length_cons, List.length_nil, List.length_map, List.length_append, List.length_replicate, Nat.reduceAdd, true_and, and_true, and_self]; first | done | omega)) only [go_sem, ↓reduceIte, Nat.reduceEqDiff, Nat.reduceAdd, Nat.reduceSub, Nat.reduceMul, Nat.reduceBEq, Nat.reduceLT, Nat.reduceLeDiff, Nat.reduceMod, Nat.reducePow, List.reduceReplicate, UInt8.reduceOfNat, Int.reducePow, Int.reduceDiv, Int.reduceMod, Nat.reduceDiv, Int.reduceNeg, Int.reduceAdd, Int.reduceSub, Int.reduceMul, Int.reduceLE, Int.reduceLT, Int.reduceEq, Int.reduceToNat, decide_true, decide_false, reduceCtorEq, ne_eq, not_false_eq_true, not_true_eq_false, and_true, true_and, and_self, or_true, true_or, or_false, false_or, or_self, eq_self, Option.isNone_some, Option.isNone_none, Nat.zero_add, Nat.add_zero, Nat.mul_one, Nat.one_mul, Nat.zero_mul, List.length_cons, List.length_nil, List.getElem?_cons_zero, List.getElem?_cons_succ, List.map_cons, List.map_nil, List.append_nil, Row.obj hrow, List.getElem_map, labs_get, he2]
            refine Upd.leave (H' := (nb, .cells (List.map (Value.int .i64) (labs k (joinM m i.toNat j.toNat)) ++ [Value.int .i64 (m k : Int)]) nsp 3) :: H) (by intro fsum; first | exact Nat.le_refl _ | (simp only [List.map_append, List.map_cons, List.map_nil, List.sum_append, List.sum_cons, List.sum_nil, List.cons_append, List.nil_append]; omega)) ⟨q - 1, by omega, k + 1, nb, ncap, nsp, by omega, by first | omega | (simp only [List.length_append, List.length_map, List.length_singleton, hlb] at hncap; omega), rfl, by rw [hsu, List.map_append]; rfl, rfl⟩
        · obtain rfl : k = n := by omega
          repeat' first
            | with_reducible refine Br.yes ?_
            | with_reducible refine Br.no ?_
            | with_reducible refine Br.dec (fun _ => ?_) (fun _ => ?_)
            | with_reducible refine Br.beqB (fun _ => ?_) (fun _ => ?_)
            | with_reducible refine Br.beqb (fun _ => ?_) (fun _ => ?_)
            | with_reducible refine Br.mk (fun _ => ?_) (fun _ => ?_)
            | with_reducible refine foundO.mk (fun _ _ => ?_) (fun _ => ?_)
            | with_reducible refine appV.zero ?_
            | with_reducible refine appV.own ?_
            | ((with_reducible refine NewB.mk fun nb hnb => ?_); have hnb1 := hnb.1.1; have hnb2 := hnb.1.2; try simp only [keys_cons, keys_app, keys_nil, NotIn_cons, NotIn_app, NotIn_nil, and_true] at hnb2)
            | ((with_reducible refine NewRow.mk fun nb nsp ncap hnb hncap => ?_); have hnb1 := hnb.1.1; have hnb2 := hnb.1.2; try simp only [keys_cons, keys_app, keys_nil, NotIn_cons, NotIn_app, NotIn_nil, and_true] at hnb2)
            | with_reducible refine Tri.drawM tok mixed [0, 1, 2, 6, 7, 8, 9, 10, 11, 32, 56, 64] 1 [] (.op 0 .plain (.op 1 .plain (.op 2 .keeps (.op 3 .plain (.op 4 .plain (.op 5 .plain (.op 6 .plain (.op 7 .keeps (.op 8 .plain (.op 9 .plain (.op 10 .plain (.op 11 .plain (.op 12 .plain (.op 13 .plain (.op 15 .plain (.op 16 .plain (.op 17 .plain (.both (.op 14 .keeps (.op 18 .keeps (.op 19 .plain (.op 20 .plain .nil)))) (.op 18 .keeps (.op 14 .keeps (.op 19 .plain (.op 20 .plain .nil)))))))))))))))))))))) (by kernel_rfl) [] (List.nil_sublist _) ?_
            | with_reducible refine Tri.drawH tok mixed [0, 1, 2, 6, 7, 8, 9, 10, 11, 32, 56, 64] 3 [3, 7] (.op 0 .plain (.op 1 .plain (.op 2 .plain (.op 3 .held (.op 4 .plain (.op 5 .plain (.op 6 .plain (.op 7 .held (.op 8 .plain (.op 9 .plain .nil)))))))))) (by kernel_rfl) [0] ?_
            | with_reducible refine Tri.drawH tok mixed [0, 1, 2, 6, 7, 8, 9, 10, 11, 32, 56, 64] 4 [3, 7] (.op 0 .plain (.op 1 .plain (.op 2 .plain (.op 3 .held (.op 4 .plain (.op 5 .plain (.op 6 .plain (.op 7 .held (.op 8 .plain (.op 9 .plain .nil)))))))))) (by kernel_rfl) [0] ?_
            | simp (dsimp := false) (implicitDefEqProofs := false) (disch := first | assumption | (simp only [List.mem_cons, List.mem_append, true_or, or_true, eq_self]; done) | omega | (with_reducible refine Row.adr (by assumption) ?_; simp only [List.length_map, List.length_take, List.length_drop]; omega) | (simp only [List.length_cons, List.length_nil, List.length_map, List.length_append, List.length_replicate, Nat.reduceAdd, true_and, and_true, and_self]; first | done | omega)) only [go_sem, ↓reduceIte, Nat.reduceEqDiff, Nat.reduceAdd, Nat.reduceSub, Nat.reduceMul, Nat.reduceBEq, Nat.reduceLT, Nat.reduceLeDiff, Nat.reduceMod, Nat.reducePow, List.reduceReplicate, UInt8.reduceOfNat, Int.reducePow, Int.reduceDiv, Int.reduceMod, Nat.reduceDiv, Int.reduceNeg, Int.reduceAdd, Int.reduceSub, Int.reduceMul, Int.reduceLE, Int.reduceLT, Int.reduceEq, Int.reduceToNat, decide_true, decide_false, reduceCtorEq, ne_eq, not_false_eq_true, not_true_eq_false, and_true, true_and, and_self, or_true, true_or, or_false, false_or, or_self, eq_self, Option.isNone_some, Option.isNone_none, Nat.zero_add, Nat.add_zero, Nat.mul_one, Nat.one_mul, Nat.zero_mul, List.length_cons, List.length_nil, List.getElem?_cons_zero, List.getElem?_cons_succ, List.map_cons, List.map_nil, List.append_nil]
          refine Upd.shareRow (by assumption) fun G2 hle2 hs2 hr2 => fun hle3 hs3 => hR G2 _ hle3 hs3 ⟨some ⟨b, 0, none⟩, c, by rw [hlb], hr2, by show (labs k (joinM m i.toNat j.toNat)).length ≤ c; omega⟩
  · rw [joinS_no h] at hR
    by_cases hi : 0 ≤ i ∧ i < n
    · by_cases hj : 0 ≤ j ∧ j < n
      · have he : m i.toNat = m j.toNat := by omega
        refine FnT.body tok [0, 1, 2, 6, 7, 8, 9, 10, 11, 32, 56, 64] Try.func10 rfl (by kernel_rfl) (by kernel_rfl) (by show _ ≤ 77; simp) fun hsep => ?_
        rw [Try.results10]
        have hsE := hsep
        try simp only [keys_cons, keys_app, keys_nil, Sep_cons, Sep_nil, NotIn_cons, NotIn_app, NotIn_nil, List.cons_append, List.nil_append, List.append_assoc, and_assoc, and_true, true_and] at hsE
        repeat (obtain ⟨hsx, hsE⟩ := hsE)
        repeat' first
          | with_reducible refine Br.yes ?_
          | with_reducible refine Br.no ?_
          | with_reducible refine Br.dec (fun _ => ?_) (fun _ => ?_)
          | with_reducible refine Br.beqB (fun _ => ?_) (fun _ => ?_)
          | with_reducible refine Br.beqb (fun _ => ?_) (fun _ => ?_)
          | with_reducible refine Br.mk (fun _ => ?_) (fun _ => ?_)
          | with_reducible refine foundO.mk (fun _ _ => ?_) (fun _ => ?_)
          | with_reducible refine appV.zero ?_
          | with_reducible refine appV.own ?_
          | ((with_reducible refine NewB.mk fun nb hnb => ?_); have hnb1 := hnb.1.1; have hnb2 := hnb.1.2; try simp only [keys_cons, keys_app, keys_nil, NotIn_cons, NotIn_app, NotIn_nil, and_true] at hnb2)
          | ((with_reducible refine NewRow.mk fun nb nsp ncap hnb hncap => ?_); have hnb1 := hnb.1.1; have hnb2 := hnb.1.2; try simp only [keys_cons, keys_app, keys_nil, NotIn_cons, NotIn_app, NotIn_nil, and_true] at hnb2)
          | with_reducible refine Tri.drawM tok mixed [0, 1, 2, 6, 7, 8, 9, 10, 11, 32, 56, 64] 1 [] (.op 0 .plain (.op 1 .plain (.op 2 .keeps (.op 3 .plain (.op 4 .plain (.op 5 .plain (.op 6 .plain (.op 7 .keeps (.op 8 .plain (.op 9 .plain (.op 10 .plain (.op 11 .plain (.op 12 .plain (.op 13 .plain (.op 15 .plain (.op 16 .plain (.op 17 .plain (.both (.op 14 .keeps (.op 18 .keeps (.op 19 .plain (.op 20 .plain .nil)))) (.op 18 .keeps (.op 14 .keeps (.op 19 .plain (.op 20 .plain .nil)))))))))))))))))))))) (by kernel_rfl) [] (List.nil_sublist _) ?_
          | with_reducible refine Tri.drawH tok mixed [0, 1, 2, 6, 7, 8, 9, 10, 11, 32, 56, 64] 3 [3, 7] (.op 0 .plain (.op 1 .plain (.op 2 .plain (.op 3 .held (.op 4 .plain (.op 5 .plain (.op 6 .plain (.op 7 .held (.op 8 .plain (.op 9 .plain .nil)))))))))) (by kernel_rfl) [0] ?_
          | with_reducible refine Tri.drawH tok mixed [0, 1, 2, 6, 7, 8, 9, 10, 11, 32, 56, 64] 4 [3, 7] (.op 0 .plain (.op 1 .plain (.op 2 .plain (.op 3 .held (.op 4 .plain (.op 5 .plain (.op 6 .plain (.op 7 .held (.op 8 .plain (.op 9 .plain .nil)))))))))) (by kernel_rfl) [0] ?_
          | simp (dsimp := false) (implicitDefEqProofs := false) (disch := first | assumption | (simp only [List.mem_cons, List.mem_append, true_or, or_true, eq_self]; done) | omega | (with_reducible refine Row.adr (by assumption) ?_; simp only [List.length_map, List.length_take, List.length_drop]; omega) | (simp only [List.length_cons, List.length_nil, List.length_map, List.length_append, List.length_replicate, Nat.reduceAdd, true_and, and_true, and_self]; first | done | omega)) only [go_sem, ↓reduceIte, Nat.reduceEqDiff, Nat.reduceAdd, Nat.reduceSub, Nat.reduceMul, Nat.reduceBEq, Nat.reduceLT, Nat.reduceLeDiff, Nat.reduceMod, Nat.reducePow, List.reduceReplicate, UInt8.reduceOfNat, Int.reducePow, Int.reduceDiv, Int.reduceMod, Nat.reduceDiv, Int.reduceNeg, Int.reduceAdd, Int.reduceSub, Int.reduceMul, Int.reduceLE, Int.reduceLT, Int.reduceEq, Int.reduceToNat, decide_true, decide_false, reduceCtorEq, ne_eq, not_false_eq_true, not_true_eq_false, and_true, true_and, and_self, or_true, true_or, or_false, false_or, or_self, eq_self, Option.isNone_some, Option.isNone_none, Nat.zero_add, Nat.add_zero, Nat.mul_one, Nat.one_mul, Nat.zero_mul, List.length_cons, List.length_nil, List.getElem?_cons_zero, List.getElem?_cons_succ, List.map_cons, List.map_nil, List.append_nil, Row.obj hrow, List.getElem_map, labs_get, he]
          | (with_reducible refine is_t n m i hv' hn ?_; rw [decide_eq_true hi])
          | (with_reducible refine is_t n m j hv' hn ?_; rw [decide_eq_true hj])
        all_goals refine Upd.finL ?_ (fun _ hs => hR G _ (PLe.refl _) hs hv') ?_
        any_goals (intro fsum; first | exact Nat.le_refl _ | (simp only [List.map_append, List.map_cons, List.map_nil, List.sum_append, List.sum_cons, List.sum_nil, List.cons_append, List.nil_append]; omega))
        all_goals rfl
      · refine FnT.body tok [0, 1, 2, 6, 7, 8, 9, 10, 11, 32, 56, 64] Try.func10 rfl (by kernel_rfl) (by kernel_rfl) (by show _ ≤ 77; simp) fun hsep => ?_
        rw [Try.results10]
        have hsE := hsep
        try simp only [keys_cons, keys_app, keys_nil, Sep_cons, Sep_nil, NotIn_cons, NotIn_app, NotIn_nil, List.cons_append, List.nil_append, List.append_assoc, and_assoc, and_true, true_and] at hsE
        repeat (obtain ⟨hsx, hsE⟩ := hsE)
        repeat' first
          | with_reducible refine Br.yes ?_
          | with_reducible refine Br.no ?_
          | with_reducible refine Br.dec (fun _ => ?_) (fun _ => ?_)
          | with_reducible refine Br.beqB (fun _ => ?_) (fun _ => ?_)
          | with_reducible refine Br.beqb (fun _ => ?_) (fun _ => ?_)
          | with_reducible refine Br.mk (fun _ => ?_) (fun _ => ?_)
          | with_reducible refine foundO.mk (fun _ _ => ?_) (fun _ => ?_)
          | with_reducible refine appV.zero ?_
          | with_reducible refine appV.own ?_
          | ((with_reducible refine NewB.mk fun nb hnb => ?_); have hnb1 := hnb.1.1; have hnb2 := hnb.1.2; try simp only [keys_cons, keys_app, keys_nil, NotIn_cons, NotIn_app, NotIn_nil, and_true] at hnb2)
          | ((with_reducible refine NewRow.mk fun nb nsp ncap hnb hncap => ?_); have hnb1 := hnb.1.1; have hnb2 := hnb.1.2; try simp only [keys_cons, keys_app, keys_nil, NotIn_cons, NotIn_app, NotIn_nil, and_true] at hnb2)
          | with_reducible refine Tri.drawM tok mixed [0, 1, 2, 6, 7, 8, 9, 10, 11, 32, 56, 64] 1 [] (.op 0 .plain (.op 1 .plain (.op 2 .keeps (.op 3 .plain (.op 4 .plain (.op 5 .plain (.op 6 .plain (.op 7 .keeps (.op 8 .plain (.op 9 .plain (.op 10 .plain (.op 11 .plain (.op 12 .plain (.op 13 .plain (.op 15 .plain (.op 16 .plain (.op 17 .plain (.both (.op 14 .keeps (.op 18 .keeps (.op 19 .plain (.op 20 .plain .nil)))) (.op 18 .keeps (.op 14 .keeps (.op 19 .plain (.op 20 .plain .nil)))))))))))))))))))))) (by kernel_rfl) [] (List.nil_sublist _) ?_
          | with_reducible refine Tri.drawH tok mixed [0, 1, 2, 6, 7, 8, 9, 10, 11, 32, 56, 64] 3 [3, 7] (.op 0 .plain (.op 1 .plain (.op 2 .plain (.op 3 .held (.op 4 .plain (.op 5 .plain (.op 6 .plain (.op 7 .held (.op 8 .plain (.op 9 .plain .nil)))))))))) (by kernel_rfl) [0] ?_
          | with_reducible refine Tri.drawH tok mixed [0, 1, 2, 6, 7, 8, 9, 10, 11, 32, 56, 64] 4 [3, 7] (.op 0 .plain (.op 1 .plain (.op 2 .plain (.op 3 .held (.op 4 .plain (.op 5 .plain (.op 6 .plain (.op 7 .held (.op 8 .plain (.op 9 .plain .nil)))))))))) (by kernel_rfl) [0] ?_
          | simp (dsimp := false) (implicitDefEqProofs := false) (disch := first | assumption | (simp only [List.mem_cons, List.mem_append, true_or, or_true, eq_self]; done) | omega | (with_reducible refine Row.adr (by assumption) ?_; simp only [List.length_map, List.length_take, List.length_drop]; omega) | (simp only [List.length_cons, List.length_nil, List.length_map, List.length_append, List.length_replicate, Nat.reduceAdd, true_and, and_true, and_self]; first | done | omega)) only [go_sem, ↓reduceIte, Nat.reduceEqDiff, Nat.reduceAdd, Nat.reduceSub, Nat.reduceMul, Nat.reduceBEq, Nat.reduceLT, Nat.reduceLeDiff, Nat.reduceMod, Nat.reducePow, List.reduceReplicate, UInt8.reduceOfNat, Int.reducePow, Int.reduceDiv, Int.reduceMod, Nat.reduceDiv, Int.reduceNeg, Int.reduceAdd, Int.reduceSub, Int.reduceMul, Int.reduceLE, Int.reduceLT, Int.reduceEq, Int.reduceToNat, decide_true, decide_false, reduceCtorEq, ne_eq, not_false_eq_true, not_true_eq_false, and_true, true_and, and_self, or_true, true_or, or_false, false_or, or_self, eq_self, Option.isNone_some, Option.isNone_none, Nat.zero_add, Nat.add_zero, Nat.mul_one, Nat.one_mul, Nat.zero_mul, List.length_cons, List.length_nil, List.getElem?_cons_zero, List.getElem?_cons_succ, List.map_cons, List.map_nil, List.append_nil]
          | (with_reducible refine is_t n m i hv' hn ?_; rw [decide_eq_true hi])
          | (with_reducible refine is_t n m j hv' hn ?_; rw [decide_eq_false hj])
        all_goals refine Upd.finL ?_ (fun _ hs => hR G _ (PLe.refl _) hs hv') ?_
        any_goals (intro fsum; first | exact Nat.le_refl _ | (simp only [List.map_append, List.map_cons, List.map_nil, List.sum_append, List.sum_cons, List.sum_nil, List.cons_append, List.nil_append]; omega))
        all_goals rfl
    · refine FnT.body tok [0, 1, 2, 6, 7, 8, 9, 10, 11, 32, 56, 64] Try.func10 rfl (by kernel_rfl) (by kernel_rfl) (by show _ ≤ 77; simp) fun hsep => ?_
      rw [Try.results10]
      have hsE := hsep
      try simp only [keys_cons, keys_app, keys_nil, Sep_cons, Sep_nil, NotIn_cons, NotIn_app, NotIn_nil, List.cons_append, List.nil_append, List.append_assoc, and_assoc, and_true, true_and] at hsE
      repeat (obtain ⟨hsx, hsE⟩ := hsE)
      repeat' first
        | with_reducible refine Br.yes ?_
        | with_reducible refine Br.no ?_
        | with_reducible refine Br.dec (fun _ => ?_) (fun _ => ?_)
        | with_reducible refine Br.beqB (fun _ => ?_) (fun _ => ?_)
        | with_reducible refine Br.beqb (fun _ => ?_) (fun _ => ?_)
        | with_reducible refine Br.mk (fun _ => ?_) (fun _ => ?_)
        | with_reducible refine foundO.mk (fun _ _ => ?_) (fun _ => ?_)
        | with_reducible refine appV.zero ?_
        | with_reducible refine appV.own ?_
        | ((with_reducible refine NewB.mk fun nb hnb => ?_); have hnb1 := hnb.1.1; have hnb2 := hnb.1.2; try simp only [keys_cons, keys_app, keys_nil, NotIn_cons, NotIn_app, NotIn_nil, and_true] at hnb2)
        | ((with_reducible refine NewRow.mk fun nb nsp ncap hnb hncap => ?_); have hnb1 := hnb.1.1; have hnb2 := hnb.1.2; try simp only [keys_cons, keys_app, keys_nil, NotIn_cons, NotIn_app, NotIn_nil, and_true] at hnb2)
        | with_reducible refine Tri.drawM tok mixed [0, 1, 2, 6, 7, 8, 9, 10, 11, 32, 56, 64] 1 [] (.op 0 .plain (.op 1 .plain (.op 2 .keeps (.op 3 .plain (.op 4 .plain (.op 5 .plain (.op 6 .plain (.op 7 .keeps (.op 8 .plain (.op 9 .plain (.op 10 .plain (.op 11 .plain (.op 12 .plain (.op 13 .plain (.op 15 .plain (.op 16 .plain (.op 17 .plain (.both (.op 14 .keeps (.op 18 .keeps (.op 19 .plain (.op 20 .plain .nil)))) (.op 18 .keeps (.op 14 .keeps (.op 19 .plain (.op 20 .plain .nil)))))))))))))))))))))) (by kernel_rfl) [] (List.nil_sublist _) ?_
        | with_reducible refine Tri.drawH tok mixed [0, 1, 2, 6, 7, 8, 9, 10, 11, 32, 56, 64] 3 [3, 7] (.op 0 .plain (.op 1 .plain (.op 2 .plain (.op 3 .held (.op 4 .plain (.op 5 .plain (.op 6 .plain (.op 7 .held (.op 8 .plain (.op 9 .plain .nil)))))))))) (by kernel_rfl) [0] ?_
        | with_reducible refine Tri.drawH tok mixed [0, 1, 2, 6, 7, 8, 9, 10, 11, 32, 56, 64] 4 [3, 7] (.op 0 .plain (.op 1 .plain (.op 2 .plain (.op 3 .held (.op 4 .plain (.op 5 .plain (.op 6 .plain (.op 7 .held (.op 8 .plain (.op 9 .plain .nil)))))))))) (by kernel_rfl) [0] ?_
        | simp (dsimp := false) (implicitDefEqProofs := false) (disch := first | assumption | (simp only [List.mem_cons, List.mem_append, true_or, or_true, eq_self]; done) | omega | (with_reducible refine Row.adr (by assumption) ?_; simp only [List.length_map, List.length_take, List.length_drop]; omega) | (simp only [List.length_cons, List.length_nil, List.length_map, List.length_append, List.length_replicate, Nat.reduceAdd, true_and, and_true, and_self]; first | done | omega)) only [go_sem, ↓reduceIte, Nat.reduceEqDiff, Nat.reduceAdd, Nat.reduceSub, Nat.reduceMul, Nat.reduceBEq, Nat.reduceLT, Nat.reduceLeDiff, Nat.reduceMod, Nat.reducePow, List.reduceReplicate, UInt8.reduceOfNat, Int.reducePow, Int.reduceDiv, Int.reduceMod, Nat.reduceDiv, Int.reduceNeg, Int.reduceAdd, Int.reduceSub, Int.reduceMul, Int.reduceLE, Int.reduceLT, Int.reduceEq, Int.reduceToNat, decide_true, decide_false, reduceCtorEq, ne_eq, not_false_eq_true, not_true_eq_false, and_true, true_and, and_self, or_true, true_or, or_false, false_or, or_self, eq_self, Option.isNone_some, Option.isNone_none, Nat.zero_add, Nat.add_zero, Nat.mul_one, Nat.one_mul, Nat.zero_mul, List.length_cons, List.length_nil, List.getElem?_cons_zero, List.getElem?_cons_succ, List.map_cons, List.map_nil, List.append_nil]
        | (with_reducible refine is_t n m i hv' hn ?_; rw [decide_eq_false hi])
      all_goals refine Upd.finL ?_ (fun _ hs => hR G _ (PLe.refl _) hs hv') ?_
      any_goals (intro fsum; first | exact Nat.le_refl _ | (simp only [List.map_append, List.map_cons, List.map_nil, List.sum_append, List.sum_cons, List.sum_nil, List.cons_append, List.nil_append]; omega))
      all_goals rfl
end Go.Proofs.Ytcaoojjciadlhaa
