/- Things that are joined: joining, and new things. -/
import Derived.Test.YtcaoojjciadlhaaFd
set_option linter.unusedSimpArgs false
set_option linter.unusedVariables false
namespace Go.Proofs.Ytcaoojjciadlhaa
open Go Go.V Go.Proofs

theorem minI_nat (x y : Nat) : minI (x : Int) (y : Int) = ((min x y : Nat) : Int) := by unfold minI; split <;> omega
theorem joinM_comm (m : Nat → Nat) (a b : Nat) : joinM m b a = joinM m a b := by unfold joinM; rw [Nat.max_comm, Nat.min_comm]
theorem joinM_eq {m : Nat → Nat} {a b a' b' : Nat} (h1 : m a = m a') (h2 : m b = m b') : joinM m a b = joinM m a' b' := by unfold joinM; rw [h1, h2]
theorem count_one {p q : Nat → Bool} {h : Nat} (hp : p h = true) (hq : q h = false) : ∀ {n : Nat}, (∀ i, i < n → i ≠ h → q i = p i) → h < n → (List.range n).countP q + 1 = (List.range n).countP p
  | 0, _, hl => absurd hl (Nat.not_lt_zero _)
  | n + 1, he, hl => by
    rw [List.range_succ, List.countP_append, List.countP_append]
    by_cases e : h = n
    · subst e
      have : (List.range h).countP q = (List.range h).countP p := List.countP_congr fun x hx => by rw [he x (by have := List.mem_range.1 hx; omega) (by have := List.mem_range.1 hx; omega)]
      simp [hp, hq, this]
    · have ih := count_one hp hq (n := n) (fun i hi => he i (by omega)) (by omega)
      have := he n (by omega) (fun e2 => e e2.symm)
      simp only [List.countP_cons, List.countP_nil, this]
      omega
theorem cnt_join {n : Nat} {up least m rank : Nat → Nat} {B : Nat} (h : UInv n up least m rank B) {a b : Nat} (ha : a < n) (hb : b < n) (hab : m a ≠ m b) : cntM n (joinM m a b) + 1 = cntM n m := by
  have h1 := h.mid a ha
  have h2 := h.mid b hb
  have h3 := h.mle a ha
  have h4 := h.mle b hb
  have e1 : m (max (m a) (m b)) = max (m a) (m b) := by
    rcases Nat.le_total (m a) (m b) with hl | hl
    · rw [Nat.max_eq_right hl, h2]
    · rw [Nat.max_eq_left hl, h1]
  unfold cntM
  refine count_one (h := max (m a) (m b)) (by simpa using e1) ?_ (fun i hi hne => ?_) (by omega)
  · simp only [beq_eq_false_iff_ne, ne_eq]
    unfold joinM
    rw [if_pos e1]; omega
  · unfold joinM
    by_cases e : m i = max (m a) (m b)
    · rw [if_pos e]
      have := h.mle i hi
      rw [Bool.eq_iff_iff]; simp; omega
    · rw [if_neg e]

def joinS (n : Nat) (m : Nat → Nat) (i j : Int) : (Nat → Nat) × Bool := if 0 ≤ i ∧ i < n ∧ 0 ≤ j ∧ j < n ∧ m i.toNat ≠ m j.toNat then (joinM m i.toNat j.toNat, true) else (m, false)
theorem joinS_no {n : Nat} {m : Nat → Nat} {i j : Int} (h : ¬ (0 ≤ i ∧ i < n ∧ 0 ≤ j ∧ j < n ∧ m i.toNat ≠ m j.toNat)) : joinS n m i j = (m, false) := if_neg h

theorem join_t (i j : Int) {hb : Heap} {pt : Value} {n : Nat} {m : Nat → Nat} (ht : TabU hb pt n m) {G : PHeap} {H : Heap} {R : Value → PHeap → Heap → Prop}
    (hR : ∀ hb', TabU hb' pt n (joinS n m i j).1 → R (.bool (joinS n m i j).2) G (hb' ++ H)) : FnT Try.prog 9 [pt, .int .i64 i, .int .i64 j] G (hb ++ H) R := by
  obtain ⟨hn, bu, bt, cap, up, least, rank, B, many, sp, rfl, rfl, hu⟩ := ht
  have hcb : cntM n m ≤ n := by
    have := List.countP_le_length (p := fun i => m i == i) (l := List.range n)
    rwa [List.length_range] at this
  refine FnT.body tok [0, 1, 2, 6, 7, 8, 9, 10, 27, 44] Try.func9 rfl (by kernel_rfl) (by kernel_rfl) (by show _ ≤ 93; simp) fun hsep => ?_
  rw [Try.results9]
  have hsE := hsep
  try simp only [keys_cons, keys_app, keys_nil, Sep_cons, Sep_nil, NotIn_cons, NotIn_app, NotIn_nil, List.cons_append, List.nil_append, List.append_assoc, and_assoc, and_true, true_and] at hsE
  repeat (obtain ⟨hsx, hsE⟩ := hsE)
  repeat' first
    | with_reducible refine Br.yes ?_
    | with_reducible refine Br.no ?_
    | with_reducible refine Br.dec (fun _ => ?_) (fun _ => ?_)
    | with_reducible refine Br.beqB (fun _ => ?_) (fun _ => ?_)
    | with_reducible refine Br.beqb (fun _ => ?_) (fun _ => ?_)
    | with_reducible refine Br.mk (fun _ => ?_) (fun _ => ?_)
    | with_reducible refine foundO.mk (fun _ _ => ?_) (fun _ => ?_)
    | with_reducible refine appV.zero ?_
    | with_reducible refine appV.own ?_
    | ((with_reducible refine NewB.mk fun nb hnb => ?_); have hnb1 := hnb.1.1; have hnb2 := hnb.1.2; try simp only [keys_cons, keys_app, keys_nil, NotIn_cons, NotIn_app, NotIn_nil, and_true] at hnb2)
    | ((with_reducible refine NewRow.mk fun nb nsp ncap hnb hncap => ?_); have hnb1 := hnb.1.1; have hnb2 := hnb.1.2; try simp only [keys_cons, keys_app, keys_nil, NotIn_cons, NotIn_app, NotIn_nil, and_true] at hnb2)
    | with_reducible refine Tri.drawM tok mixed [0, 1, 2, 6, 7, 8, 9, 10, 27, 44] 4 [3, 7, 11, 15] (.op 0 .plain (.op 1 .plain (.op 2 .plain (.op 3 .held (.op 4 .plain (.op 5 .plain (.op 6 .plain (.op 7 .held (.op 8 .plain (.op 9 .plain (.op 10 .plain (.op 11 .held (.op 12 .plain (.op 13 .plain (.op 14 .plain (.op 15 .held (.op 16 .plain .nil))))))))))))))))) (by kernel_rfl) _ (List.Sublist.refl _) ?_
    | with_reducible refine Tri.drawH tok mixed [0, 1, 2, 6, 7, 8, 9, 10, 27, 44] 6 [3, 9] (.op 0 .plain (.op 1 .plain (.op 2 .plain (.op 3 .held (.op 4 .plain (.op 5 .plain (.op 6 .plain (.op 7 .plain (.op 8 .plain (.op 9 .held (.op 10 .plain (.op 11 .plain (.op 12 .plain (.op 13 .plain .nil)))))))))))))) (by kernel_rfl) [0] ?_
    | with_reducible refine Tri.drawH tok mixed [0, 1, 2, 6, 7, 8, 9, 10, 27, 44] 8 [3, 7] (.op 0 .plain (.op 1 .plain (.op 2 .plain (.op 3 .held (.op 4 .plain (.op 5 .plain (.op 6 .plain (.op 7 .held (.op 8 .plain (.op 9 .plain (.op 10 .plain (.op 11 .plain .nil)))))))))))) (by kernel_rfl) [9, 10] ?_
    | with_reducible refine Tri.drawH tok mixed [0, 1, 2, 6, 7, 8, 9, 10, 27, 44] 9 [4, 8] (.op 0 .plain (.op 1 .plain (.op 2 .plain (.op 3 .plain (.op 4 .held (.op 5 .plain (.op 6 .plain (.op 7 .plain (.op 8 .held (.op 9 .plain (.op 10 .plain (.op 11 .plain (.op 12 .plain .nil))))))))))))) (by kernel_rfl) [9, 10] ?_
    | simp (dsimp := false) (implicitDefEqProofs := false) (disch := first | assumption | (simp only [List.mem_cons, List.mem_append, true_or, or_true, eq_self]; done) | omega | (with_reducible refine Row.adr (by assumption) ?_; simp only [List.length_map, List.length_take, List.length_drop]; omega) | (simp only [List.length_cons, List.length_nil, List.length_map, List.length_append, List.length_replicate, Nat.reduceAdd, true_and, and_true, and_self]; first | done | omega)) only [go_sem, ↓reduceIte, Nat.reduceEqDiff, Nat.reduceAdd, Nat.reduceSub, Nat.reduceMul, Nat.reduceBEq, Nat.reduceLT, Nat.reduceLeDiff, Nat.reduceMod, Nat.reducePow, List.reduceReplicate, UInt8.reduceOfNat, Int.reducePow, Int.reduceDiv, Int.reduceMod, Nat.reduceDiv, Int.reduceNeg, Int.reduceAdd, Int.reduceSub, Int.reduceMul, Int.reduceLE, Int.reduceLT, Int.reduceEq, Int.reduceToNat, decide_true, decide_false, reduceCtorEq, ne_eq, not_false_eq_true, not_true_eq_false, and_true, true_and, and_self, or_true, true_or, or_false, false_or, or_self, eq_self, Option.isNone_some, Option.isNone_none, Nat.zero_add, Nat.add_zero, Nat.mul_one, Nat.one_mul, Nat.zero_mul, List.length_cons, List.length_nil, List.getElem?_cons_zero, List.getElem?_cons_succ, List.map_cons, List.map_nil, List.append_nil]
  refine top_t n i bu bt cap _ many sp hu hn (fun t up' htn hi0 hin hu' hr hm hroot => ?_) (fun ho => ?_)
  · repeat' first
      | with_reducible refine Br.yes ?_
      | with_reducible refine Br.no ?_
      | with_reducible refine Br.dec (fun _ => ?_) (fun _ => ?_)
      | with_reducible refine Br.beqB (fun _ => ?_) (fun _ => ?_)
      | with_reducible refine Br.beqb (fun _ => ?_) (fun _ => ?_)
      | with_reducible refine Br.mk (fun _ => ?_) (fun _ => ?_)
      | with_reducible refine foundO.mk (fun _ _ => ?_) (fun _ => ?_)
      | with_reducible refine appV.zero ?_
      | with_reducible refine appV.own ?_
      | ((with_reducible refine NewB.mk fun nb hnb => ?_); have hnb1 := hnb.1.1; have hnb2 := hnb.1.2; try simp only [keys_cons, keys_app, keys_nil, NotIn_cons, NotIn_app, NotIn_nil, and_true] at hnb2)
      | ((with_reducible refine NewRow.mk fun nb nsp ncap hnb hncap => ?_); have hnb1 := hnb.1.1; have hnb2 := hnb.1.2; try simp only [keys_cons, keys_app, keys_nil, NotIn_cons, NotIn_app, NotIn_nil, and_true] at hnb2)
      | with_reducible refine Tri.drawM tok mixed [0, 1, 2, 6, 7, 8, 9, 10, 27, 44] 4 [3, 7, 11, 15] (.op 0 .plain (.op 1 .plain (.op 2 .plain (.op 3 .held (.op 4 .plain (.op 5 .plain (.op 6 .plain (.op 7 .held (.op 8 .plain (.op 9 .plain (.op 10 .plain (.op 11 .held (.op 12 .plain (.op 13 .plain (.op 14 .plain (.op 15 .held (.op 16 .plain .nil))))))))))))))))) (by kernel_rfl) _ (List.Sublist.refl _) ?_
      | with_reducible refine Tri.drawH tok mixed [0, 1, 2, 6, 7, 8, 9, 10, 27, 44] 6 [3, 9] (.op 0 .plain (.op 1 .plain (.op 2 .plain (.op 3 .held (.op 4 .plain (.op 5 .plain (.op 6 .plain (.op 7 .plain (.op 8 .plain (.op 9 .held (.op 10 .plain (.op 11 .plain (.op 12 .plain (.op 13 .plain .nil)))))))))))))) (by kernel_rfl) [0] ?_
      | with_reducible refine Tri.drawH tok mixed [0, 1, 2, 6, 7, 8, 9, 10, 27, 44] 8 [3, 7] (.op 0 .plain (.op 1 .plain (.op 2 .plain (.op 3 .held (.op 4 .plain (.op 5 .plain (.op 6 .plain (.op 7 .held (.op 8 .plain (.op 9 .plain (.op 10 .plain (.op 11 .plain .nil)))))))))))) (by kernel_rfl) [9, 10] ?_
      | with_reducible refine Tri.drawH tok mixed [0, 1, 2, 6, 7, 8, 9, 10, 27, 44] 9 [4, 8] (.op 0 .plain (.op 1 .plain (.op 2 .plain (.op 3 .plain (.op 4 .held (.op 5 .plain (.op 6 .plain (.op 7 .plain (.op 8 .held (.op 9 .plain (.op 10 .plain (.op 11 .plain (.op 12 .plain .nil))))))))))))) (by kernel_rfl) [9, 10] ?_
      | simp (dsimp := false) (implicitDefEqProofs := false) (disch := first | assumption | (simp only [List.mem_cons, List.mem_append, true_or, or_true, eq_self]; done) | omega | (with_reducible refine Row.adr (by assumption) ?_; simp only [List.length_map, List.length_take, List.length_drop]; omega) | (simp only [List.length_cons, List.length_nil, List.length_map, List.length_append, List.length_replicate, Nat.reduceAdd, true_and, and_true, and_self]; first | done | omega)) only [go_sem, ↓reduceIte, Nat.reduceEqDiff, Nat.reduceAdd, Nat.reduceSub, Nat.reduceMul, Nat.reduceBEq, Nat.reduceLT, Nat.reduceLeDiff, Nat.reduceMod, Nat.reducePow, List.reduceReplicate, UInt8.reduceOfNat, Int.reducePow, Int.reduceDiv, Int.reduceMod, Nat.reduceDiv, Int.reduceNeg, Int.reduceAdd, Int.reduceSub, Int.reduceMul, Int.reduceLE, Int.reduceLT, Int.reduceEq, Int.reduceToNat, decide_true, decide_false, reduceCtorEq, ne_eq, not_false_eq_true, not_true_eq_false, and_true, true_and, and_self, or_true, true_or, or_false, false_or, or_self, eq_self, Option.isNone_some, Option.isNone_none, Nat.zero_add, Nat.add_zero, Nat.mul_one, Nat.one_mul, Nat.zero_mul, List.length_cons, List.length_nil, List.getElem?_cons_zero, List.getElem?_cons_succ, List.map_cons, List.map_nil, List.append_nil]
    refine top_t n j bu bt cap _ many sp hu' hn (fun t2 up2 htn2 hj0 hjn hu2 hr2 hm2 hroot2 => ?_) (fun ho => ?_)
    · have hr1 := hroot2 t hr
      have jn : (∀ x y : Nat, ((x = t ∧ y = t2) ∨ (x = t2 ∧ y = t)) → t ≠ t2 → ∀ many', R (.bool true) G ([(bu, .cells [.slice (some ⟨bt, 0, none⟩) n cap, .int .i64 ((cntM n m : Int) - 1)] [] 49), (bt, .cells (row3 n (upd up2 y x) (upd least x (min (least x) (least y))) many') sp 51)] ++ H)) := fun x y hxy hne many' => by
        have hmt : m t ≠ m t2 := fun e => hne (hu2.root t t2 htn htn2 hr1 hr2 e)
        have hj : joinS n m i j = (joinM m t t2, true) := by
          unfold joinS
          rw [if_pos ⟨hi0, hin, hj0, hjn, by rw [← hm, ← hm2]; exact hmt⟩, joinM_eq hm hm2]
        rw [hj] at hR
        have hc := cnt_join hu2 htn htn2 hmt
        rw [show (cntM n m : Int) - 1 = (cntM n (joinM m t t2) : Int) by omega]
        rcases hxy with ⟨rfl, rfl⟩ | ⟨rfl, rfl⟩
        · exact hR [_, _] ⟨hn, bu, bt, cap, _, _, _, _, _, sp, rfl, rfl, hu2.join htn htn2 hr1 hr2 hmt⟩
        · have := hu2.join htn2 htn hr2 hr1 (Ne.symm hmt)
          rw [joinM_comm] at this
          exact hR [_, _] ⟨hn, bu, bt, cap, _, _, _, _, _, sp, rfl, rfl, this⟩
      repeat' first
        | with_reducible refine Br.yes ?_
        | with_reducible refine Br.no ?_
        | with_reducible refine Br.dec (fun _ => ?_) (fun _ => ?_)
        | with_reducible refine Br.beqB (fun _ => ?_) (fun _ => ?_)
        | with_reducible refine Br.beqb (fun _ => ?_) (fun _ => ?_)
        | with_reducible refine Br.mk (fun _ => ?_) (fun _ => ?_)
        | with_reducible refine foundO.mk (fun _ _ => ?_) (fun _ => ?_)
        | with_reducible refine appV.zero ?_
        | with_reducible refine appV.own ?_
        | ((with_reducible refine NewB.mk fun nb hnb => ?_); have hnb1 := hnb.1.1; have hnb2 := hnb.1.2; try simp only [keys_cons, keys_app, keys_nil, NotIn_cons, NotIn_app, NotIn_nil, and_true] at hnb2)
        | ((with_reducible refine NewRow.mk fun nb nsp ncap hnb hncap => ?_); have hnb1 := hnb.1.1; have hnb2 := hnb.1.2; try simp only [keys_cons, keys_app, keys_nil, NotIn_cons, NotIn_app, NotIn_nil, and_true] at hnb2)
        | with_reducible refine Tri.drawM tok mixed [0, 1, 2, 6, 7, 8, 9, 10, 27, 44] 4 [3, 7, 11, 15] (.op 0 .plain (.op 1 .plain (.op 2 .plain (.op 3 .held (.op 4 .plain (.op 5 .plain (.op 6 .plain (.op 7 .held (.op 8 .plain (.op 9 .plain (.op 10 .plain (.op 11 .held (.op 12 .plain (.op 13 .plain (.op 14 .plain (.op 15 .held (.op 16 .plain .nil))))))))))))))))) (by kernel_rfl) _ (List.Sublist.refl _) ?_
        | with_reducible refine Tri.drawH tok mixed [0, 1, 2, 6, 7, 8, 9, 10, 27, 44] 6 [3, 9] (.op 0 .plain (.op 1 .plain (.op 2 .plain (.op 3 .held (.op 4 .plain (.op 5 .plain (.op 6 .plain (.op 7 .plain (.op 8 .plain (.op 9 .held (.op 10 .plain (.op 11 .plain (.op 12 .plain (.op 13 .plain .nil)))))))))))))) (by kernel_rfl) [0] ?_
        | with_reducible refine Tri.drawH tok mixed [0, 1, 2, 6, 7, 8, 9, 10, 27, 44] 8 [3, 7] (.op 0 .plain (.op 1 .plain (.op 2 .plain (.op 3 .held (.op 4 .plain (.op 5 .plain (.op 6 .plain (.op 7 .held (.op 8 .plain (.op 9 .plain (.op 10 .plain (.op 11 .plain .nil)))))))))))) (by kernel_rfl) [9, 10] ?_
        | with_reducible refine Tri.drawH tok mixed [0, 1, 2, 6, 7, 8, 9, 10, 27, 44] 9 [4, 8] (.op 0 .plain (.op 1 .plain (.op 2 .plain (.op 3 .plain (.op 4 .held (.op 5 .plain (.op 6 .plain (.op 7 .plain (.op 8 .held (.op 9 .plain (.op 10 .plain (.op 11 .plain (.op 12 .plain .nil))))))))))))) (by kernel_rfl) [9, 10] ?_
        | simp (dsimp := false) (implicitDefEqProofs := false) (disch := first | assumption | (simp only [List.mem_cons, List.mem_append, true_or, or_true, eq_self]; done) | omega | (with_reducible refine Row.adr (by assumption) ?_; simp only [List.length_map, List.length_take, List.length_drop]; omega) | (simp only [List.length_cons, List.length_nil, List.length_map, List.length_append, List.length_replicate, Nat.reduceAdd, true_and, and_true, and_self]; first | done | omega)) only [go_sem, ↓reduceIte, Nat.reduceEqDiff, Nat.reduceAdd, Nat.reduceSub, Nat.reduceMul, Nat.reduceBEq, Nat.reduceLT, Nat.reduceLeDiff, Nat.reduceMod, Nat.reducePow, List.reduceReplicate, UInt8.reduceOfNat, Int.reducePow, Int.reduceDiv, Int.reduceMod, Nat.reduceDiv, Int.reduceNeg, Int.reduceAdd, Int.reduceSub, Int.reduceMul, Int.reduceLE, Int.reduceLT, Int.reduceEq, Int.reduceToNat, decide_true, decide_false, reduceCtorEq, ne_eq, not_false_eq_true, not_true_eq_false, and_true, true_and, and_self, or_true, true_or, or_false, false_or, or_self, eq_self, Option.isNone_some, Option.isNone_none, Nat.zero_add, Nat.add_zero, Nat.mul_one, Nat.one_mul, Nat.zero_mul, List.length_cons, List.length_nil, List.getElem?_cons_zero, List.getElem?_cons_succ, List.map_cons, List.map_nil, List.append_nil, row_g0, row_g1, row_g2, row_p0, row_p1, row_p2, row3_len, minI_nat]
      · rename_i e
        rw [joinS_no (fun h => h.2.2.2.2 (by rw [← hm, ← hm2, show t = t2 by omega]))] at hR
        all_goals refine Upd.finL ?_ (hR [_, _] ⟨hn, bu, bt, cap, up2, least, rank, B, many, sp, rfl, rfl, hu2⟩) ?_
        any_goals (intro fsum; first | exact Nat.le_refl _ | (simp only [List.map_append, List.map_cons, List.map_nil, List.sum_append, List.sum_cons, List.sum_nil, List.cons_append, List.nil_append]; omega))
        rfl
      · exact Upd.fin (jn t2 t (.inr ⟨rfl, rfl⟩) (by omega) _) rfl
      · exact Upd.fin (jn t t2 (.inl ⟨rfl, rfl⟩) (by omega) _) rfl
    · repeat' first
        | with_reducible refine Br.yes ?_
        | with_reducible refine Br.no ?_
        | with_reducible refine Br.dec (fun _ => ?_) (fun _ => ?_)
        | with_reducible refine Br.beqB (fun _ => ?_) (fun _ => ?_)
        | with_reducible refine Br.beqb (fun _ => ?_) (fun _ => ?_)
        | with_reducible refine Br.mk (fun _ => ?_) (fun _ => ?_)
        | with_reducible refine foundO.mk (fun _ _ => ?_) (fun _ => ?_)
        | with_reducible refine appV.zero ?_
        | with_reducible refine appV.own ?_
        | ((with_reducible refine NewB.mk fun nb hnb => ?_); have hnb1 := hnb.1.1; have hnb2 := hnb.1.2; try simp only [keys_cons, keys_app, keys_nil, NotIn_cons, NotIn_app, NotIn_nil, and_true] at hnb2)
        | ((with_reducible refine NewRow.mk fun nb nsp ncap hnb hncap => ?_); have hnb1 := hnb.1.1; have hnb2 := hnb.1.2; try simp only [keys_cons, keys_app, keys_nil, NotIn_cons, NotIn_app, NotIn_nil, and_true] at hnb2)
        | with_reducible refine Tri.drawM tok mixed [0, 1, 2, 6, 7, 8, 9, 10, 27, 44] 4 [3, 7, 11, 15] (.op 0 .plain (.op 1 .plain (.op 2 .plain (.op 3 .held (.op 4 .plain (.op 5 .plain (.op 6 .plain (.op 7 .held (.op 8 .plain (.op 9 .plain (.op 10 .plain (.op 11 .held (.op 12 .plain (.op 13 .plain (.op 14 .plain (.op 15 .held (.op 16 .plain .nil))))))))))))))))) (by kernel_rfl) _ (List.Sublist.refl _) ?_
        | with_reducible refine Tri.drawH tok mixed [0, 1, 2, 6, 7, 8, 9, 10, 27, 44] 6 [3, 9] (.op 0 .plain (.op 1 .plain (.op 2 .plain (.op 3 .held (.op 4 .plain (.op 5 .plain (.op 6 .plain (.op 7 .plain (.op 8 .plain (.op 9 .held (.op 10 .plain (.op 11 .plain (.op 12 .plain (.op 13 .plain .nil)))))))))))))) (by kernel_rfl) [0] ?_
        | with_reducible refine Tri.drawH tok mixed [0, 1, 2, 6, 7, 8, 9, 10, 27, 44] 8 [3, 7] (.op 0 .plain (.op 1 .plain (.op 2 .plain (.op 3 .held (.op 4 .plain (.op 5 .plain (.op 6 .plain (.op 7 .held (.op 8 .plain (.op 9 .plain (.op 10 .plain (.op 11 .plain .nil)))))))))))) (by kernel_rfl) [9, 10] ?_
        | with_reducible refine Tri.drawH tok mixed [0, 1, 2, 6, 7, 8, 9, 10, 27, 44] 9 [4, 8] (.op 0 .plain (.op 1 .plain (.op 2 .plain (.op 3 .plain (.op 4 .held (.op 5 .plain (.op 6 .plain (.op 7 .plain (.op 8 .held (.op 9 .plain (.op 10 .plain (.op 11 .plain (.op 12 .plain .nil))))))))))))) (by kernel_rfl) [9, 10] ?_
        | simp (dsimp := false) (implicitDefEqProofs := false) (disch := first | assumption | (simp only [List.mem_cons, List.mem_append, true_or, or_true, eq_self]; done) | omega | (with_reducible refine Row.adr (by assumption) ?_; simp only [List.length_map, List.length_take, List.length_drop]; omega) | (simp only [List.length_cons, List.length_nil, List.length_map, List.length_append, List.length_replicate, Nat.reduceAdd, true_and, and_true, and_self]; first | done | omega)) only [go_sem, ↓reduceIte, Nat.reduceEqDiff, Nat.reduceAdd, Nat.reduceSub, Nat.reduceMul, Nat.reduceBEq, Nat.reduceLT, Nat.reduceLeDiff, Nat.reduceMod, Nat.reducePow, List.reduceReplicate, UInt8.reduceOfNat, Int.reducePow, Int.reduceDiv, Int.reduceMod, Nat.reduceDiv, Int.reduceNeg, Int.reduceAdd, Int.reduceSub, Int.reduceMul, Int.reduceLE, Int.reduceLT, Int.reduceEq, Int.reduceToNat, decide_true, decide_false, reduceCtorEq, ne_eq, not_false_eq_true, not_true_eq_false, and_true, true_and, and_self, or_true, true_or, or_false, false_or, or_self, eq_self, Option.isNone_some, Option.isNone_none, Nat.zero_add, Nat.add_zero, Nat.mul_one, Nat.one_mul, Nat.zero_mul, List.length_cons, List.length_nil, List.getElem?_cons_zero, List.getElem?_cons_succ, List.map_cons, List.map_nil, List.append_nil]
      rw [joinS_no (by omega)] at hR
      all_goals refine Upd.finL ?_ (hR [_, _] ⟨hn, bu, bt, cap, up', least, rank, B, many, sp, rfl, rfl, hu'⟩) ?_
      any_goals (intro fsum; first | exact Nat.le_refl _ | (simp only [List.map_append, List.map_cons, List.map_nil, List.sum_append, List.sum_cons, List.sum_nil, List.cons_append, List.nil_append]; omega))
      rfl
  · rw [joinS_no (by omega)] at hR
    repeat' first
      | with_reducible refine Br.yes ?_
      | with_reducible refine Br.no ?_
      | with_reducible refine Br.dec (fun _ => ?_) (fun _ => ?_)
      | with_reducible refine Br.beqB (fun _ => ?_) (fun _ => ?_)
      | with_reducible refine Br.beqb (fun _ => ?_) (fun _ => ?_)
      | with_reducible refine Br.mk (fun _ => ?_) (fun _ => ?_)
      | with_reducible refine foundO.mk (fun _ _ => ?_) (fun _ => ?_)
      | with_reducible refine appV.zero ?_
      | with_reducible refine appV.own ?_
      | ((with_reducible refine NewB.mk fun nb hnb => ?_); have hnb1 := hnb.1.1; have hnb2 := hnb.1.2; try simp only [keys_cons, keys_app, keys_nil, NotIn_cons, NotIn_app, NotIn_nil, and_true] at hnb2)
      | ((with_reducible refine NewRow.mk fun nb nsp ncap hnb hncap => ?_); have hnb1 := hnb.1.1; have hnb2 := hnb.1.2; try simp only [keys_cons, keys_app, keys_nil, NotIn_cons, NotIn_app, NotIn_nil, and_true] at hnb2)
      | with_reducible refine Tri.drawM tok mixed [0, 1, 2, 6, 7, 8, 9, 10, 27, 44] 4 [3, 7, 11, 15] (.op 0 .plain (.op 1 .plain (.op 2 .plain (.op 3 .held (.op 4 .plain (.op 5 .plain (.op 6 .plain (.op 7 .held (.op 8 .plain (.op 9 .plain (.op 10 .plain (.op 11 .held (.op 12 .plain (.op 13 .plain (.op 14 .plain (.op 15 .held (.op 16 .plain .nil))))))))))))))))) (by kernel_rfl) _ (List.Sublist.refl _) ?_
      | with_reducible refine Tri.drawH tok mixed [0, 1, 2, 6, 7, 8, 9, 10, 27, 44] 6 [3, 9] (.op 0 .plain (.op 1 .plain (.op 2 .plain (.op 3 .held (.op 4 .plain (.op 5 .plain (.op 6 .plain (.op 7 .plain (.op 8 .plain (.op 9 .held (.op 10 .plain (.op 11 .plain (.op 12 .plain (.op 13 .plain .nil)))))))))))))) (by kernel_rfl) [0] ?_
      | with_reducible refine Tri.drawH tok mixed [0, 1, 2, 6, 7, 8, 9, 10, 27, 44] 8 [3, 7] (.op 0 .plain (.op 1 .plain (.op 2 .plain (.op 3 .held (.op 4 .plain (.op 5 .plain (.op 6 .plain (.op 7 .held (.op 8 .plain (.op 9 .plain (.op 10 .plain (.op 11 .plain .nil)))))))))))) (by kernel_rfl) [9, 10] ?_
      | with_reducible refine Tri.drawH tok mixed [0, 1, 2, 6, 7, 8, 9, 10, 27, 44] 9 [4, 8] (.op 0 .plain (.op 1 .plain (.op 2 .plain (.op 3 .plain (.op 4 .held (.op 5 .plain (.op 6 .plain (.op 7 .plain (.op 8 .held (.op 9 .plain (.op 10 .plain (.op 11 .plain (.op 12 .plain .nil))))))))))))) (by kernel_rfl) [9, 10] ?_
      | simp (dsimp := false) (implicitDefEqProofs := false) (disch := first | assumption | (simp only [List.mem_cons, List.mem_append, true_or, or_true, eq_self]; done) | omega | (with_reducible refine Row.adr (by assumption) ?_; simp only [List.length_map, List.length_take, List.length_drop]; omega) | (simp only [List.length_cons, List.length_nil, List.length_map, List.length_append, List.length_replicate, Nat.reduceAdd, true_and, and_true, and_self]; first | done | omega)) only [go_sem, ↓reduceIte, Nat.reduceEqDiff, Nat.reduceAdd, Nat.reduceSub, Nat.reduceMul, Nat.reduceBEq, Nat.reduceLT, Nat.reduceLeDiff, Nat.reduceMod, Nat.reducePow, List.reduceReplicate, UInt8.reduceOfNat, Int.reducePow, Int.reduceDiv, Int.reduceMod, Nat.reduceDiv, Int.reduceNeg, Int.reduceAdd, Int.reduceSub, Int.reduceMul, Int.reduceLE, Int.reduceLT, Int.reduceEq, Int.reduceToNat, decide_true, decide_false, reduceCtorEq, ne_eq, not_false_eq_true, not_true_eq_false, and_true, true_and, and_self, or_true, true_or, or_false, false_or, or_self, eq_self, Option.isNone_some, Option.isNone_none, Nat.zero_add, Nat.add_zero, Nat.mul_one, Nat.one_mul, Nat.zero_mul, List.length_cons, List.length_nil, List.getElem?_cons_zero, List.getElem?_cons_succ, List.map_cons, List.map_nil, List.append_nil]
    refine top_t n j bu bt cap _ many sp hu hn (fun t2 up2 htn2 hj0 hjn hu2 hr2 hm2 hroot2 => ?_) (fun ho => ?_)
    · repeat' first
        | with_reducible refine Br.yes ?_
        | with_reducible refine Br.no ?_
        | with_reducible refine Br.dec (fun _ => ?_) (fun _ => ?_)
        | with_reducible refine Br.beqB (fun _ => ?_) (fun _ => ?_)
        | with_reducible refine Br.beqb (fun _ => ?_) (fun _ => ?_)
        | with_reducible refine Br.mk (fun _ => ?_) (fun _ => ?_)
        | with_reducible refine foundO.mk (fun _ _ => ?_) (fun _ => ?_)
        | with_reducible refine appV.zero ?_
        | with_reducible refine appV.own ?_
        | ((with_reducible refine NewB.mk fun nb hnb => ?_); have hnb1 := hnb.1.1; have hnb2 := hnb.1.2; try simp only [keys_cons, keys_app, keys_nil, NotIn_cons, NotIn_app, NotIn_nil, and_true] at hnb2)
        | ((with_reducible refine NewRow.mk fun nb nsp ncap hnb hncap => ?_); have hnb1 := hnb.1.1; have hnb2 := hnb.1.2; try simp only [keys_cons, keys_app, keys_nil, NotIn_cons, NotIn_app, NotIn_nil, and_true] at hnb2)
        | with_reducible refine Tri.drawM tok mixed [0, 1, 2, 6, 7, 8, 9, 10, 27, 44] 4 [3, 7, 11, 15] (.op 0 .plain (.op 1 .plain (.op 2 .plain (.op 3 .held (.op 4 .plain (.op 5 .plain (.op 6 .plain (.op 7 .held (.op 8 .plain (.op 9 .plain (.op 10 .plain (.op 11 .held (.op 12 .plain (.op 13 .plain (.op 14 .plain (.op 15 .held (.op 16 .plain .nil))))))))))))))))) (by kernel_rfl) _ (List.Sublist.refl _) ?_
        | with_reducible refine Tri.drawH tok mixed [0, 1, 2, 6, 7, 8, 9, 10, 27, 44] 6 [3, 9] (.op 0 .plain (.op 1 .plain (.op 2 .plain (.op 3 .held (.op 4 .plain (.op 5 .plain (.op 6 .plain (.op 7 .plain (.op 8 .plain (.op 9 .held (.op 10 .plain (.op 11 .plain (.op 12 .plain (.op 13 .plain .nil)))))))))))))) (by kernel_rfl) [0] ?_
        | with_reducible refine Tri.drawH tok mixed [0, 1, 2, 6, 7, 8, 9, 10, 27, 44] 8 [3, 7] (.op 0 .plain (.op 1 .plain (.op 2 .plain (.op 3 .held (.op 4 .plain (.op 5 .plain (.op 6 .plain (.op 7 .held (.op 8 .plain (.op 9 .plain (.op 10 .plain (.op 11 .plain .nil)))))))))))) (by kernel_rfl) [9, 10] ?_
        | with_reducible refine Tri.drawH tok mixed [0, 1, 2, 6, 7, 8, 9, 10, 27, 44] 9 [4, 8] (.op 0 .plain (.op 1 .plain (.op 2 .plain (.op 3 .plain (.op 4 .held (.op 5 .plain (.op 6 .plain (.op 7 .plain (.op 8 .held (.op 9 .plain (.op 10 .plain (.op 11 .plain (.op 12 .plain .nil))))))))))))) (by kernel_rfl) [9, 10] ?_
        | simp (dsimp := false) (implicitDefEqProofs := false) (disch := first | assumption | (simp only [List.mem_cons, List.mem_append, true_or, or_true, eq_self]; done) | omega | (with_reducible refine Row.adr (by assumption) ?_; simp only [List.length_map, List.length_take, List.length_drop]; omega) | (simp only [List.length_cons, List.length_nil, List.length_map, List.length_append, List.length_replicate, Nat.reduceAdd, true_and, and_true, and_self]; first | done | omega)) only [go_sem, ↓reduceIte, Nat.reduceEqDiff, Nat.reduceAdd, Nat.reduceSub, Nat.reduceMul, Nat.reduceBEq, Nat.reduceLT, Nat.reduceLeDiff, Nat.reduceMod, Nat.reducePow, List.reduceReplicate, UInt8.reduceOfNat, Int.reducePow, Int.reduceDiv, Int.reduceMod, Nat.reduceDiv, Int.reduceNeg, Int.reduceAdd, Int.reduceSub, Int.reduceMul, Int.reduceLE, Int.reduceLT, Int.reduceEq, Int.reduceToNat, decide_true, decide_false, reduceCtorEq, ne_eq, not_false_eq_true, not_true_eq_false, and_true, true_and, and_self, or_true, true_or, or_false, false_or, or_self, eq_self, Option.isNone_some, Option.isNone_none, Nat.zero_add, Nat.add_zero, Nat.mul_one, Nat.one_mul, Nat.zero_mul, List.length_cons, List.length_nil, List.getElem?_cons_zero, List.getElem?_cons_succ, List.map_cons, List.map_nil, List.append_nil]
      all_goals refine Upd.finL ?_ (hR [_, _] ⟨hn, bu, bt, cap, up2, least, rank, B, many, sp, rfl, rfl, hu2⟩) ?_
      any_goals (intro fsum; first | exact Nat.le_refl _ | (simp only [List.map_append, List.map_cons, List.map_nil, List.sum_append, List.sum_cons, List.sum_nil, List.cons_append, List.nil_append]; omega))
      rfl
    · repeat' first
        | with_reducible refine Br.yes ?_
        | with_reducible refine Br.no ?_
        | with_reducible refine Br.dec (fun _ => ?_) (fun _ => ?_)
        | with_reducible refine Br.beqB (fun _ => ?_) (fun _ => ?_)
        | with_reducible refine Br.beqb (fun _ => ?_) (fun _ => ?_)
        | with_reducible refine Br.mk (fun _ => ?_) (fun _ => ?_)
        | with_reducible refine foundO.mk (fun _ _ => ?_) (fun _ => ?_)
        | with_reducible refine appV.zero ?_
        | with_reducible refine appV.own ?_
        | ((with_reducible refine NewB.mk fun nb hnb => ?_); have hnb1 := hnb.1.1; have hnb2 := hnb.1.2; try simp only [keys_cons, keys_app, keys_nil, NotIn_cons, NotIn_app, NotIn_nil, and_true] at hnb2)
        | ((with_reducible refine NewRow.mk fun nb nsp ncap hnb hncap => ?_); have hnb1 := hnb.1.1; have hnb2 := hnb.1.2; try simp only [keys_cons, keys_app, keys_nil, NotIn_cons, NotIn_app, NotIn_nil, and_true] at hnb2)
        | with_reducible refine Tri.drawM tok mixed [0, 1, 2, 6, 7, 8, 9, 10, 27, 44] 4 [3, 7, 11, 15] (.op 0 .plain (.op 1 .plain (.op 2 .plain (.op 3 .held (.op 4 .plain (.op 5 .plain (.op 6 .plain (.op 7 .held (.op 8 .plain (.op 9 .plain (.op 10 .plain (.op 11 .held (.op 12 .plain (.op 13 .plain (.op 14 .plain (.op 15 .held (.op 16 .plain .nil))))))))))))))))) (by kernel_rfl) _ (List.Sublist.refl _) ?_
        | with_reducible refine Tri.drawH tok mixed [0, 1, 2, 6, 7, 8, 9, 10, 27, 44] 6 [3, 9] (.op 0 .plain (.op 1 .plain (.op 2 .plain (.op 3 .held (.op 4 .plain (.op 5 .plain (.op 6 .plain (.op 7 .plain (.op 8 .plain (.op 9 .held (.op 10 .plain (.op 11 .plain (.op 12 .plain (.op 13 .plain .nil)))))))))))))) (by kernel_rfl) [0] ?_
        | with_reducible refine Tri.drawH tok mixed [0, 1, 2, 6, 7, 8, 9, 10, 27, 44] 8 [3, 7] (.op 0 .plain (.op 1 .plain (.op 2 .plain (.op 3 .held (.op 4 .plain (.op 5 .plain (.op 6 .plain (.op 7 .held (.op 8 .plain (.op 9 .plain (.op 10 .plain (.op 11 .plain .nil)))))))))))) (by kernel_rfl) [9, 10] ?_
        | with_reducible refine Tri.drawH tok mixed [0, 1, 2, 6, 7, 8, 9, 10, 27, 44] 9 [4, 8] (.op 0 .plain (.op 1 .plain (.op 2 .plain (.op 3 .plain (.op 4 .held (.op 5 .plain (.op 6 .plain (.op 7 .plain (.op 8 .held (.op 9 .plain (.op 10 .plain (.op 11 .plain (.op 12 .plain .nil))))))))))))) (by kernel_rfl) [9, 10] ?_
        | simp (dsimp := false) (implicitDefEqProofs := false) (disch := first | assumption | (simp only [List.mem_cons, List.mem_append, true_or, or_true, eq_self]; done) | omega | (with_reducible refine Row.adr (by assumption) ?_; simp only [List.length_map, List.length_take, List.length_drop]; omega) | (simp only [List.length_cons, List.length_nil, List.length_map, List.length_append, List.length_replicate, Nat.reduceAdd, true_and, and_true, and_self]; first | done | omega)) only [go_sem, ↓reduceIte, Nat.reduceEqDiff, Nat.reduceAdd, Nat.reduceSub, Nat.reduceMul, Nat.reduceBEq, Nat.reduceLT, Nat.reduceLeDiff, Nat.reduceMod, Nat.reducePow, List.reduceReplicate, UInt8.reduceOfNat, Int.reducePow, Int.reduceDiv, Int.reduceMod, Nat.reduceDiv, Int.reduceNeg, Int.reduceAdd, Int.reduceSub, Int.reduceMul, Int.reduceLE, Int.reduceLT, Int.reduceEq, Int.reduceToNat, decide_true, decide_false, reduceCtorEq, ne_eq, not_false_eq_true, not_true_eq_false, and_true, true_and, and_self, or_true, true_or, or_false, false_or, or_self, eq_self, Option.isNone_some, Option.isNone_none, Nat.zero_add, Nat.add_zero, Nat.mul_one, Nat.one_mul, Nat.zero_mul, List.length_cons, List.length_nil, List.getElem?_cons_zero, List.getElem?_cons_succ, List.map_cons, List.map_nil, List.append_nil]
      all_goals refine Upd.finL ?_ (hR [_, _] ⟨hn, bu, bt, cap, up, least, rank, B, many, sp, rfl, rfl, hu⟩) ?_
      any_goals (intro fsum; first | exact Nat.le_refl _ | (simp only [List.map_append, List.map_cons, List.map_nil, List.sum_append, List.sum_cons, List.sum_nil, List.cons_append, List.nil_append]; omega))
      rfl

theorem row_init {i : Nat} {cs : List Value} : splice (row3 i id id (fun _ => 1) ++ cs) (i * 3) [.int .i64 i, .int .i64 i, .int .i64 1] = row3 (i + 1) id id (fun _ => 1) ++ cs.drop 3 := by
  have hl := row3_len i id id (fun _ => 1)
  unfold splice
  rw [List.take_append_of_le_length (by omega), List.take_of_length_le (by omega), row3_succ]
  congr 1
  show List.drop (i * 3 + 3) _ = _
  rw [← hl, List.drop_append, List.drop_eq_nil_of_le (by omega), List.nil_append, Nat.add_sub_cancel_left]
theorem new_t (n : Int) (h : n ≤ 9223372036854775807) {G : PHeap} {H : Heap} {R : Value → PHeap → Heap → Prop}
    (h1 : ∀ hb bu, 0 ≤ n → n ≤ 1048576 → Sep G (keys (hb ++ H)) → TabU hb (.pointer (some ⟨bu, 0, none⟩)) n.toNat id → R (.tuple #[.pointer (some ⟨bu, 0, none⟩), .int .i64 0]) G (hb ++ H))
    (h2 : (n < 0 ∨ 1048576 < n) → R (.tuple #[.pointer none, .int .i64 2]) G H) : FnT Try.prog 6 [.int .i64 n] G H R := by
  refine FnT.sep ?_
  refine FnT.body tok [0, 2, 3, 4, 5, 11, 21, 22, 23] Try.func6 rfl (by kernel_rfl) (by kernel_rfl) (by show _ ≤ 36; simp) fun hsep => ?_
  rw [Try.results6]
  have hsE := hsep
  try simp only [keys_cons, keys_app, keys_nil, Sep_cons, Sep_nil, NotIn_cons, NotIn_app, NotIn_nil, List.cons_append, List.nil_append, List.append_assoc, and_assoc, and_true, true_and] at hsE
  repeat (obtain ⟨hsx, hsE⟩ := hsE)
  repeat' first
    | with_reducible refine Br.yes ?_
    | with_reducible refine Br.no ?_
    | with_reducible refine Br.dec (fun _ => ?_) (fun _ => ?_)
    | with_reducible refine Br.beqB (fun _ => ?_) (fun _ => ?_)
    | with_reducible refine Br.beqb (fun _ => ?_) (fun _ => ?_)
    | with_reducible refine Br.mk (fun _ => ?_) (fun _ => ?_)
    | with_reducible refine foundO.mk (fun _ _ => ?_) (fun _ => ?_)
    | with_reducible refine appV.zero ?_
    | with_reducible refine appV.own ?_
    | ((with_reducible refine NewB.mk fun nb hnb => ?_); have hnb1 := hnb.1.1; have hnb2 := hnb.1.2; try simp only [keys_cons, keys_app, keys_nil, NotIn_cons, NotIn_app, NotIn_nil, and_true] at hnb2)
    | ((with_reducible refine NewRow.mk fun nb nsp ncap hnb hncap => ?_); have hnb1 := hnb.1.1; have hnb2 := hnb.1.2; try simp only [keys_cons, keys_app, keys_nil, NotIn_cons, NotIn_app, NotIn_nil, and_true] at hnb2)
    | simp (dsimp := false) (implicitDefEqProofs := false) (disch := first | assumption | (simp only [List.mem_cons, List.mem_append, true_or, or_true, eq_self]; done) | omega | (with_reducible refine Row.adr (by assumption) ?_; simp only [List.length_map, List.length_take, List.length_drop]; omega) | (simp only [List.length_cons, List.length_nil, List.length_map, List.length_append, List.length_replicate, Nat.reduceAdd, true_and, and_true, and_self]; first | done | omega)) only [go_sem, ↓reduceIte, Nat.reduceEqDiff, Nat.reduceAdd, Nat.reduceSub, Nat.reduceMul, Nat.reduceBEq, Nat.reduceLT, Nat.reduceLeDiff, Nat.reduceMod, Nat.reducePow, List.reduceReplicate, UInt8.reduceOfNat, Int.reducePow, Int.reduceDiv, Int.reduceMod, Nat.reduceDiv, Int.reduceNeg, Int.reduceAdd, Int.reduceSub, Int.reduceMul, Int.reduceLE, Int.reduceLT, Int.reduceEq, Int.reduceToNat, decide_true, decide_false, reduceCtorEq, ne_eq, not_false_eq_true, not_true_eq_false, and_true, true_and, and_self, or_true, true_or, or_false, false_or, or_self, eq_self, Option.isNone_some, Option.isNone_none, Nat.zero_add, Nat.add_zero, Nat.mul_one, Nat.one_mul, Nat.zero_mul, List.length_cons, List.length_nil, List.getElem?_cons_zero, List.getElem?_cons_succ, List.map_cons, List.map_nil, List.append_nil]
  · all_goals refine Upd.finL ?_ (fun _ _ => h2 (by omega)) ?_
    any_goals (intro fsum; first | exact Nat.le_refl _ | (simp only [List.map_append, List.map_cons, List.map_nil, List.sum_append, List.sum_cons, List.sum_nil, List.cons_append, List.nil_append]; omega))
    rfl
  · all_goals refine Upd.finL ?_ (fun _ _ => h2 (by omega)) ?_
    any_goals (intro fsum; first | exact Nat.le_refl _ | (simp only [List.map_append, List.map_cons, List.map_nil, List.sum_append, List.sum_cons, List.sum_nil, List.cons_append, List.nil_append]; omega))
    rfl
  · rename_i bt hbt hbt1 hbt2
    refine Tri.loopU tok [0, 2, 3, 4, 5, 11, 21, 22, 23] (by kernel_rfl) [0, 2, 3, 4, 21, 22] (fun q G' fr H' => ∃ (i : Nat) (cs sp : List Value), i + q = n.toNat ∧ G' = G ∧ cs.length = q * 3 ∧ H' = (nb, .cells [.slice (some ⟨bt, 0, none⟩) n.toNat n.toNat, .int .i64 n] [] 49) :: (bt, .cells (row3 i id id (fun _ => 1) ++ cs) sp 51) :: H ∧ fr = [(0, .int .i64 n), (2, .pointer none), (3, .int .i64 0), (4, .pointer (some ⟨nb, 0, none⟩)), (21, .int .i64 n.toNat), (22, .int .i64 i)]) (n.toNat) (Upd.now ?_) ?_
    · exact ⟨0, _, _, by omega, rfl, by simp, rfl, rfl⟩
    · rintro q G' fr H' hle hs ⟨i, cs, sp, hi, rfl, hc, rfl, rfl⟩
      have hsE := hs
      try simp only [keys_cons, keys_app, keys_nil, Sep_cons, Sep_nil, NotIn_cons, NotIn_app, NotIn_nil, List.cons_append, List.nil_append, List.append_assoc, and_assoc, and_true, true_and] at hsE
      repeat (obtain ⟨hsx, hsE⟩ := hsE)
      have hrl := row3_len i id id (fun _ => 1)
      have hal : (row3 i id id (fun _ => 1) ++ cs).length = n.toNat * 3 := by rw [List.length_append]; omega
      by_cases hq : 0 < q
      · repeat' first
          | with_reducible refine Br.yes ?_
          | with_reducible refine Br.no ?_
          | with_reducible refine Br.dec (fun _ => ?_) (fun _ => ?_)
          | with_reducible refine Br.beqB (fun _ => ?_) (fun _ => ?_)
          | with_reducible refine Br.beqb (fun _ => ?_) (fun _ => ?_)
          | with_reducible refine Br.mk (fun _ => ?_) (fun _ => ?_)
          | with_reducible refine foundO.mk (fun _ _ => ?_) (fun _ => ?_)
          | with_reducible refine appV.zero ?_
          | with_reducible refine appV.own ?_
          | ((with_reducible refine NewB.mk fun nb hnb => ?_); have hnb1 := hnb.1.1; have hnb2 := hnb.1.2; try simp only [keys_cons, keys_app, keys_nil, NotIn_cons, NotIn_app, NotIn_nil, and_true] at hnb2)
          | ((with_reducible refine NewRow.mk fun nb nsp ncap hnb hncap => ?_); have hnb1 := hnb.1.1; have hnb2 := hnb.1.2; try simp only [keys_cons, keys_app, keys_nil, NotIn_cons, NotIn_app, NotIn_nil, and_true] at hnb2)
          | simp (dsimp := false) (implicitDefEqProofs := false) (disch := first | assumption | (simp only [List.mem_cons, List.mem_append, true_or, or_true, eq_self]; done) | omega | (with_reducible refine Row.adr (by assumption) ?_; simp only [List.length_map, List.length_take, List.length_drop]; omega) | (simp only [List.length_cons, List.length_nil, List.length_map, List.length_append, List.length_replicate, Nat.reduceAdd, true_and, and_true, and_self]; first | done | omega)) only [go_sem, ↓reduceIte, Nat.reduceEqDiff, Nat.reduceAdd, Nat.reduceSub, Nat.reduceMul, Nat.reduceBEq, Nat.reduceLT, Nat.reduceLeDiff, Nat.reduceMod, Nat.reducePow, List.reduceReplicate, UInt8.reduceOfNat, Int.reducePow, Int.reduceDiv, Int.reduceMod, Nat.reduceDiv, Int.reduceNeg, Int.reduceAdd, Int.reduceSub, Int.reduceMul, Int.reduceLE, Int.reduceLT, Int.reduceEq, Int.reduceToNat, decide_true, decide_false, reduceCtorEq, ne_eq, not_false_eq_true, not_true_eq_false, and_true, true_and, and_self, or_true, true_or, or_false, false_or, or_self, eq_self, Option.isNone_some, Option.isNone_none, Nat.zero_add, Nat.add_zero, Nat.mul_one, Nat.one_mul, Nat.zero_mul, List.length_cons, List.length_nil, List.getElem?_cons_zero, List.getElem?_cons_succ, List.map_cons, List.map_nil, List.append_nil, hal, row_init]
        refine Upd.now ⟨q - 1, by omega, i + 1, cs.drop 3, sp, by omega, rfl, by rw [List.length_drop]; omega, rfl, rfl⟩
      · obtain rfl : q = 0 := by omega
        obtain rfl : cs = [] := List.eq_nil_of_length_eq_zero (by omega)
        obtain rfl : i = n.toNat := by omega
        have hc : cntM n.toNat id = n.toNat := by unfold cntM; simp
        repeat' first
          | with_reducible refine Br.yes ?_
          | with_reducible refine Br.no ?_
          | with_reducible refine Br.dec (fun _ => ?_) (fun _ => ?_)
          | with_reducible refine Br.beqB (fun _ => ?_) (fun _ => ?_)
          | with_reducible refine Br.beqb (fun _ => ?_) (fun _ => ?_)
          | with_reducible refine Br.mk (fun _ => ?_) (fun _ => ?_)
          | with_reducible refine foundO.mk (fun _ _ => ?_) (fun _ => ?_)
          | with_reducible refine appV.zero ?_
          | with_reducible refine appV.own ?_
          | ((with_reducible refine NewB.mk fun nb hnb => ?_); have hnb1 := hnb.1.1; have hnb2 := hnb.1.2; try simp only [keys_cons, keys_app, keys_nil, NotIn_cons, NotIn_app, NotIn_nil, and_true] at hnb2)
          | ((with_reducible refine NewRow.mk fun nb nsp ncap hnb hncap => ?_); have hnb1 := hnb.1.1; have hnb2 := hnb.1.2; try simp only [keys_cons, keys_app, keys_nil, NotIn_cons, NotIn_app, NotIn_nil, and_true] at hnb2)
          | simp (dsimp := false) (implicitDefEqProofs := false) (disch := first | assumption | (simp only [List.mem_cons, List.mem_append, true_or, or_true, eq_self]; done) | omega | (with_reducible refine Row.adr (by assumption) ?_; simp only [List.length_map, List.length_take, List.length_drop]; omega) | (simp only [List.length_cons, List.length_nil, List.length_map, List.length_append, List.length_replicate, Nat.reduceAdd, true_and, and_true, and_self]; first | done | omega)) only [go_sem, ↓reduceIte, Nat.reduceEqDiff, Nat.reduceAdd, Nat.reduceSub, Nat.reduceMul, Nat.reduceBEq, Nat.reduceLT, Nat.reduceLeDiff, Nat.reduceMod, Nat.reducePow, List.reduceReplicate, UInt8.reduceOfNat, Int.reducePow, Int.reduceDiv, Int.reduceMod, Nat.reduceDiv, Int.reduceNeg, Int.reduceAdd, Int.reduceSub, Int.reduceMul, Int.reduceLE, Int.reduceLT, Int.reduceEq, Int.reduceToNat, decide_true, decide_false, reduceCtorEq, ne_eq, not_false_eq_true, not_true_eq_false, and_true, true_and, and_self, or_true, true_or, or_false, false_or, or_self, eq_self, Option.isNone_some, Option.isNone_none, Nat.zero_add, Nat.add_zero, Nat.mul_one, Nat.one_mul, Nat.zero_mul, List.length_cons, List.length_nil, List.getElem?_cons_zero, List.getElem?_cons_succ, List.map_cons, List.map_nil, List.append_nil]
        refine Upd.now fun _ hs2 => h1 [_, _] nb (by omega) (by omega) hs2 ⟨by omega, nb, bt, n.toNat, id, id, fun _ => 0, 0, fun _ => 1, sp, rfl, by rw [hc, show ((n.toNat : Nat) : Int) = n by omega], UInv.new _⟩
end Go.Proofs.Ytcaoojjciadlhaa
