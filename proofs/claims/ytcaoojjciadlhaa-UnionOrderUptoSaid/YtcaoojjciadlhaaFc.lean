/- Things that are joined: the top, and who is found. -/
import Derived.Test.YtcaoojjciadlhaaFb
set_option linter.unusedSimpArgs false
set_option linter.unusedVariables false
namespace Go.Proofs.Ytcaoojjciadlhaa
open Go Go.V Go.Proofs

theorem len_t (n : Nat) (bu bt : Nat) (cap : Nat) (c : Int) {G : PHeap} {H : Heap} {R : Value → PHeap → Heap → Prop}
    (hR : R (.int .i64 n) G ((bu, .cells [.slice (some ⟨bt, 0, none⟩) n cap, .int .i64 c] [] 49) :: H)) : FnT Try.prog 17 [.pointer (some ⟨bu, 0, none⟩)] G ((bu, .cells [.slice (some ⟨bt, 0, none⟩) n cap, .int .i64 c] [] 49) :: H) R := by
  refine FnT.body tok [0, 2, 4] Try.func17 rfl (by kernel_rfl) (by kernel_rfl) (by show _ ≤ 10; simp) fun hsep => ?_
  rw [Try.results17]
  have hsE := hsep
  try simp only [keys_cons, keys_app, keys_nil, Sep_cons, Sep_nil, NotIn_cons, NotIn_app, NotIn_nil, List.cons_append, List.nil_append, List.append_assoc, and_assoc, and_true, true_and] at hsE
  repeat (obtain ⟨hsx, hsE⟩ := hsE)
  repeat' first
    | with_reducible refine Br.yes ?_
    | with_reducible refine Br.no ?_
    | with_reducible refine Br.dec (fun _ => ?_) (fun _ => ?_)
    | with_reducible refine Br.beqB (fun _ => ?_) (fun _ => ?_)
    | with_reducible refine Br.beqb (fun _ => ?_) (fun _ => ?_)
    | with_reducible refine Br.mk (fun _ => ?_) (fun _ => ?_)
    | with_reducible refine foundO.mk (fun _ _ => ?_) (fun _ => ?_)
    | with_reducible refine appV.zero ?_
    | with_reducible refine appV.own ?_
    | ((with_reducible refine NewB.mk fun nb hnb => ?_); have hnb1 := hnb.1.1; have hnb2 := hnb.1.2; try simp only [keys_cons, keys_app, keys_nil, NotIn_cons, NotIn_app, NotIn_nil, and_true] at hnb2)
    | ((with_reducible refine NewRow.mk fun nb nsp ncap hnb hncap => ?_); have hnb1 := hnb.1.1; have hnb2 := hnb.1.2; try simp only [keys_cons, keys_app, keys_nil, NotIn_cons, NotIn_app, NotIn_nil, and_true] at hnb2)
    | simp (dsimp := false) (implicitDefEqProofs := false) (disch := first | assumption | (simp only [List.mem_cons, List.mem_append, true_or, or_true, eq_self]; done) | omega | (with_reducible refine Row.adr (by assumption) ?_; simp only [List.length_map, List.length_take, List.length_drop]; omega) | (simp only [List.length_cons, List.length_nil, List.length_map, List.length_append, List.length_replicate, Nat.reduceAdd, true_and, and_true, and_self]; first | done | omega)) only [go_sem, ↓reduceIte, Nat.reduceEqDiff, Nat.reduceAdd, Nat.reduceSub, Nat.reduceMul, Nat.reduceBEq, Nat.reduceLT, Nat.reduceLeDiff, Nat.reduceMod, Nat.reducePow, List.reduceReplicate, UInt8.reduceOfNat, Int.reducePow, Int.reduceDiv, Int.reduceMod, Nat.reduceDiv, Int.reduceNeg, Int.reduceAdd, Int.reduceSub, Int.reduceMul, Int.reduceLE, Int.reduceLT, Int.reduceEq, Int.reduceToNat, decide_true, decide_false, reduceCtorEq, ne_eq, not_false_eq_true, not_true_eq_false, and_true, true_and, and_self, or_true, true_or, or_false, false_or, or_self, eq_self, Option.isNone_some, Option.isNone_none, Nat.zero_add, Nat.add_zero, Nat.mul_one, Nat.one_mul, Nat.zero_mul, List.length_cons, List.length_nil, List.getElem?_cons_zero, List.getElem?_cons_succ, List.map_cons, List.map_nil, List.append_nil]
  all_goals refine Upd.finL ?_ hR ?_
  any_goals (intro fsum; first | exact Nat.le_refl _ | (simp only [List.map_append, List.map_cons, List.map_nil, List.sum_append, List.sum_cons, List.sum_nil, List.cons_append, List.nil_append]; omega))
  rfl

theorem top1_t (n k : Nat) (bx bu bt : Nat) (cap : Nat) (c : Int) (up least : Nat → Nat) (many : Nat → Int) (sp : List Value) (hk : k < n) (hku : up k < n) (hn : n ≤ 1048576) {G : PHeap} {H : Heap} {R : Value → PHeap → Heap → Prop}
    (hR : R (.int .i64 (up (up k))) G ((bx, .cells [.pointer (some ⟨bu, 0, none⟩)] [] 23) :: (bu, .cells [.slice (some ⟨bt, 0, none⟩) n cap, .int .i64 c] [] 49) :: (bt, .cells (row3 n (upd up k (up (up k))) least many) sp 51) :: H)) :
    FnT Try.prog 24 [.int .i64 k, .pointer (some ⟨bx, 0, none⟩)] G ((bx, .cells [.pointer (some ⟨bu, 0, none⟩)] [] 23) :: (bu, .cells [.slice (some ⟨bt, 0, none⟩) n cap, .int .i64 c] [] 49) :: (bt, .cells (row3 n up least many) sp 51) :: H) R := by
  refine FnT.body tok [0, 1, 3, 4] Try.func24 rfl (by kernel_rfl) (by kernel_rfl) (by show _ ≤ 36; simp) fun hsep => ?_
  rw [Try.results24]
  have hsE := hsep
  try simp only [keys_cons, keys_app, keys_nil, Sep_cons, Sep_nil, NotIn_cons, NotIn_app, NotIn_nil, List.cons_append, List.nil_append, List.append_assoc, and_assoc, and_true, true_and] at hsE
  repeat (obtain ⟨hsx, hsE⟩ := hsE)
  repeat' first
    | with_reducible refine Br.yes ?_
    | with_reducible refine Br.no ?_
    | with_reducible refine Br.dec (fun _ => ?_) (fun _ => ?_)
    | with_reducible refine Br.beqB (fun _ => ?_) (fun _ => ?_)
    | with_reducible refine Br.beqb (fun _ => ?_) (fun _ => ?_)
    | with_reducible refine Br.mk (fun _ => ?_) (fun _ => ?_)
    | with_reducible refine foundO.mk (fun _ _ => ?_) (fun _ => ?_)
    | with_reducible refine appV.zero ?_
    | with_reducible refine appV.own ?_
    | ((with_reducible refine NewB.mk fun nb hnb => ?_); have hnb1 := hnb.1.1; have hnb2 := hnb.1.2; try simp only [keys_cons, keys_app, keys_nil, NotIn_cons, NotIn_app, NotIn_nil, and_true] at hnb2)
    | ((with_reducible refine NewRow.mk fun nb nsp ncap hnb hncap => ?_); have hnb1 := hnb.1.1; have hnb2 := hnb.1.2; try simp only [keys_cons, keys_app, keys_nil, NotIn_cons, NotIn_app, NotIn_nil, and_true] at hnb2)
    | with_reducible refine Tri.drawM tok mixed [0, 1, 3, 4] 2 [0, 3, 5, 8, 12] (.op 0 .held (.op 1 .plain (.op 2 .plain (.op 3 .held (.op 4 .plain (.op 5 .held (.op 6 .plain (.op 7 .plain (.op 8 .held (.op 9 .plain (.op 10 .plain (.op 11 .plain (.op 12 .held (.op 13 .plain (.op 14 .plain (.op 15 .plain .nil)))))))))))))))) (by kernel_rfl) _ (List.Sublist.refl _) ?_
    | simp (dsimp := false) (implicitDefEqProofs := false) (disch := first | assumption | (simp only [List.mem_cons, List.mem_append, true_or, or_true, eq_self]; done) | omega | (with_reducible refine Row.adr (by assumption) ?_; simp only [List.length_map, List.length_take, List.length_drop]; omega) | (simp only [List.length_cons, List.length_nil, List.length_map, List.length_append, List.length_replicate, Nat.reduceAdd, true_and, and_true, and_self]; first | done | omega)) only [go_sem, ↓reduceIte, Nat.reduceEqDiff, Nat.reduceAdd, Nat.reduceSub, Nat.reduceMul, Nat.reduceBEq, Nat.reduceLT, Nat.reduceLeDiff, Nat.reduceMod, Nat.reducePow, List.reduceReplicate, UInt8.reduceOfNat, Int.reducePow, Int.reduceDiv, Int.reduceMod, Nat.reduceDiv, Int.reduceNeg, Int.reduceAdd, Int.reduceSub, Int.reduceMul, Int.reduceLE, Int.reduceLT, Int.reduceEq, Int.reduceToNat, decide_true, decide_false, reduceCtorEq, ne_eq, not_false_eq_true, not_true_eq_false, and_true, true_and, and_self, or_true, true_or, or_false, false_or, or_self, eq_self, Option.isNone_some, Option.isNone_none, Nat.zero_add, Nat.add_zero, Nat.mul_one, Nat.one_mul, Nat.zero_mul, List.length_cons, List.length_nil, List.getElem?_cons_zero, List.getElem?_cons_succ, List.map_cons, List.map_nil, List.append_nil, row_g0, row_g1, row_g2, row_p0, row_p1, row_p2, row3_len]
  all_goals refine Upd.finL ?_ hR ?_
  any_goals (intro fsum; first | exact Nat.le_refl _ | (simp only [List.map_append, List.map_cons, List.map_nil, List.sum_append, List.sum_cons, List.sum_nil, List.cons_append, List.nil_append]; omega))
  rw [upd_same]

theorem UInv.step {n : Nat} {up least m rank : Nat → Nat} {B : Nat} (h : UInv n up least m rank B) {k : Nat} (hk : k < n) (hn : up k ≠ k) : up (up k) < n ∧ m (up (up k)) = m k ∧ B - rank (up (up k)) < B - rank k := by
  have h1 := h.up_lt k hk
  refine ⟨h.up_lt _ h1, by rw [h.up_m _ h1, h.up_m _ hk], ?_⟩
  have h2 := h.rk k hk hn
  have h3 := h.bd _ (h.up_lt _ h1)
  have h4 : rank (up k) ≤ rank (up (up k)) := by
    by_cases e : up (up k) = up k
    · rw [e]; exact Nat.le_refl _
    · exact Nat.le_of_lt (h.rk _ h1 e)
  omega

theorem top_t (n : Nat) (i : Int) (bu bt : Nat) (cap : Nat) (c : Int) {up least m rank : Nat → Nat} {B : Nat} (many : Nat → Int) (sp : List Value) (hu : UInv n up least m rank B) (hn : n ≤ 1048576) {G : PHeap} {H : Heap} {R : Value → PHeap → Heap → Prop}
    (h1 : ∀ (t : Nat) (up' : Nat → Nat), t < n → 0 ≤ i → i < n → UInv n up' least m rank B → up' t = t → m t = m i.toNat → (∀ x, up x = x → up' x = x) → R (.int .i64 t) G ((bu, .cells [.slice (some ⟨bt, 0, none⟩) n cap, .int .i64 c] [] 49) :: (bt, .cells (row3 n up' least many) sp 51) :: H))
    (h2 : (i < 0 ∨ (n : Int) ≤ i) → R (.int .i64 (-1)) G ((bu, .cells [.slice (some ⟨bt, 0, none⟩) n cap, .int .i64 c] [] 49) :: (bt, .cells (row3 n up least many) sp 51) :: H)) :
    FnT Try.prog 21 [.pointer (some ⟨bu, 0, none⟩), .int .i64 i] G ((bu, .cells [.slice (some ⟨bt, 0, none⟩) n cap, .int .i64 c] [] 49) :: (bt, .cells (row3 n up least many) sp 51) :: H) R := by
  refine FnT.body tok [0, 1, 2, 4, 5, 13, 24] Try.func21 rfl (by kernel_rfl) (by kernel_rfl) (by show _ ≤ 29; simp) fun hsep => ?_
  rw [Try.results21]
  have hsE := hsep
  try simp only [keys_cons, keys_app, keys_nil, Sep_cons, Sep_nil, NotIn_cons, NotIn_app, NotIn_nil, List.cons_append, List.nil_append, List.append_assoc, and_assoc, and_true, true_and] at hsE
  repeat (obtain ⟨hsx, hsE⟩ := hsE)
  repeat' first
    | with_reducible refine Br.yes ?_
    | with_reducible refine Br.no ?_
    | with_reducible refine Br.dec (fun _ => ?_) (fun _ => ?_)
    | with_reducible refine Br.beqB (fun _ => ?_) (fun _ => ?_)
    | with_reducible refine Br.beqb (fun _ => ?_) (fun _ => ?_)
    | with_reducible refine Br.mk (fun _ => ?_) (fun _ => ?_)
    | with_reducible refine foundO.mk (fun _ _ => ?_) (fun _ => ?_)
    | with_reducible refine appV.zero ?_
    | with_reducible refine appV.own ?_
    | ((with_reducible refine NewB.mk fun nb hnb => ?_); have hnb1 := hnb.1.1; have hnb2 := hnb.1.2; try simp only [keys_cons, keys_app, keys_nil, NotIn_cons, NotIn_app, NotIn_nil, and_true] at hnb2)
    | ((with_reducible refine NewRow.mk fun nb nsp ncap hnb hncap => ?_); have hnb1 := hnb.1.1; have hnb2 := hnb.1.2; try simp only [keys_cons, keys_app, keys_nil, NotIn_cons, NotIn_app, NotIn_nil, and_true] at hnb2)
    | simp (dsimp := false) (implicitDefEqProofs := false) (disch := first | assumption | (simp only [List.mem_cons, List.mem_append, true_or, or_true, eq_self]; done) | omega | (with_reducible refine Row.adr (by assumption) ?_; simp only [List.length_map, List.length_take, List.length_drop]; omega) | (simp only [List.length_cons, List.length_nil, List.length_map, List.length_append, List.length_replicate, Nat.reduceAdd, true_and, and_true, and_self]; first | done | omega)) only [go_sem, ↓reduceIte, Nat.reduceEqDiff, Nat.reduceAdd, Nat.reduceSub, Nat.reduceMul, Nat.reduceBEq, Nat.reduceLT, Nat.reduceLeDiff, Nat.reduceMod, Nat.reducePow, List.reduceReplicate, UInt8.reduceOfNat, Int.reducePow, Int.reduceDiv, Int.reduceMod, Nat.reduceDiv, Int.reduceNeg, Int.reduceAdd, Int.reduceSub, Int.reduceMul, Int.reduceLE, Int.reduceLT, Int.reduceEq, Int.reduceToNat, decide_true, decide_false, reduceCtorEq, ne_eq, not_false_eq_true, not_true_eq_false, and_true, true_and, and_self, or_true, true_or, or_false, false_or, or_self, eq_self, Option.isNone_some, Option.isNone_none, Nat.zero_add, Nat.add_zero, Nat.mul_one, Nat.one_mul, Nat.zero_mul, List.length_cons, List.length_nil, List.getElem?_cons_zero, List.getElem?_cons_succ, List.map_cons, List.map_nil, List.append_nil]
    | refine FnT.leave (H' := (bu, .cells [.slice (some ⟨bt, 0, none⟩) n cap, .int .i64 c] [] 49) :: (nb, .cells [.pointer (some ⟨bu, 0, none⟩)] [] 23) :: (bt, .cells (row3 n up least many) sp 51) :: H) (len_t n bu bt cap c ?_) (by intro fsum; first | exact Nat.le_refl _ | (simp only [List.map_append, List.map_cons, List.map_nil, List.sum_append, List.sum_cons, List.sum_nil, List.cons_append, List.nil_append]; omega))
  · all_goals refine Upd.finL ?_ (h2 (by omega)) ?_
    any_goals (intro fsum; first | exact Nat.le_refl _ | (simp only [List.map_append, List.map_cons, List.map_nil, List.sum_append, List.sum_cons, List.sum_nil, List.cons_append, List.nil_append]; omega))
    rfl
  · all_goals refine Upd.finL ?_ (h2 (by omega)) ?_
    any_goals (intro fsum; first | exact Nat.le_refl _ | (simp only [List.map_append, List.map_cons, List.map_nil, List.sum_append, List.sum_cons, List.sum_nil, List.cons_append, List.nil_append]; omega))
    rfl
  · rename_i bx hbx1 hbx2
    refine Tri.loopU tok [0, 1, 2, 4, 5, 13, 24] (by kernel_rfl) [0, 1, 2, 4, 5] (fun q G' fr H' => ∃ (j : Nat) (up' : Nat → Nat), j < n ∧ m j = m i.toNat ∧ q = B - rank j ∧ UInv n up' least m rank B ∧ (∀ x, up x = x → up' x = x) ∧ G' = G ∧ H' = (bu, .cells [.slice (some ⟨bt, 0, none⟩) n cap, .int .i64 c] [] 49) :: (nb, .cells [.pointer (some ⟨bu, 0, none⟩)] [] 23) :: (bt, .cells (row3 n up' least many) sp 51) :: H ∧ fr = [(0, .pointer (some ⟨bu, 0, none⟩)), (1, .int .i64 j), (2, .pointer (some ⟨nb, 0, none⟩)), (4, .int .i64 0), (5, .func (.func 24) #[] #[.pointer (some ⟨nb, 0, none⟩)])]) (B - rank i.toNat) (Upd.now ?_) ?_
    · refine ⟨i.toNat, up, by omega, rfl, rfl, hu, fun _ h => h, rfl, rfl, ?_⟩
      rw [show ((i.toNat : Nat) : Int) = i by omega]; rfl
    · rintro q G' fr H' hle hs ⟨j, up', hj, hmj, rfl, hu', hroot, rfl, rfl, rfl⟩
      have hsE := hs
      try simp only [keys_cons, keys_app, keys_nil, Sep_cons, Sep_nil, NotIn_cons, NotIn_app, NotIn_nil, List.cons_append, List.nil_append, List.append_assoc, and_assoc, and_true, true_and] at hsE
      repeat (obtain ⟨hsx, hsE⟩ := hsE)
      have hju := hu'.up_lt j hj
      by_cases hr : up' j = j
      · repeat' first
          | with_reducible refine Br.yes ?_
          | with_reducible refine Br.no ?_
          | with_reducible refine Br.dec (fun _ => ?_) (fun _ => ?_)
          | with_reducible refine Br.beqB (fun _ => ?_) (fun _ => ?_)
          | with_reducible refine Br.beqb (fun _ => ?_) (fun _ => ?_)
          | with_reducible refine Br.mk (fun _ => ?_) (fun _ => ?_)
          | with_reducible refine foundO.mk (fun _ _ => ?_) (fun _ => ?_)
          | with_reducible refine appV.zero ?_
          | with_reducible refine appV.own ?_
          | ((with_reducible refine NewB.mk fun nb hnb => ?_); have hnb1 := hnb.1.1; have hnb2 := hnb.1.2; try simp only [keys_cons, keys_app, keys_nil, NotIn_cons, NotIn_app, NotIn_nil, and_true] at hnb2)
          | ((with_reducible refine NewRow.mk fun nb nsp ncap hnb hncap => ?_); have hnb1 := hnb.1.1; have hnb2 := hnb.1.2; try simp only [keys_cons, keys_app, keys_nil, NotIn_cons, NotIn_app, NotIn_nil, and_true] at hnb2)
          | simp (dsimp := false) (implicitDefEqProofs := false) (disch := first | assumption | (simp only [List.mem_cons, List.mem_append, true_or, or_true, eq_self]; done) | omega | (with_reducible refine Row.adr (by assumption) ?_; simp only [List.length_map, List.length_take, List.length_drop]; omega) | (simp only [List.length_cons, List.length_nil, List.length_map, List.length_append, List.length_replicate, Nat.reduceAdd, true_and, and_true, and_self]; first | done | omega)) only [go_sem, ↓reduceIte, Nat.reduceEqDiff, Nat.reduceAdd, Nat.reduceSub, Nat.reduceMul, Nat.reduceBEq, Nat.reduceLT, Nat.reduceLeDiff, Nat.reduceMod, Nat.reducePow, List.reduceReplicate, UInt8.reduceOfNat, Int.reducePow, Int.reduceDiv, Int.reduceMod, Nat.reduceDiv, Int.reduceNeg, Int.reduceAdd, Int.reduceSub, Int.reduceMul, Int.reduceLE, Int.reduceLT, Int.reduceEq, Int.reduceToNat, decide_true, decide_false, reduceCtorEq, ne_eq, not_false_eq_true, not_true_eq_false, and_true, true_and, and_self, or_true, true_or, or_false, false_or, or_self, eq_self, Option.isNone_some, Option.isNone_none, Nat.zero_add, Nat.add_zero, Nat.mul_one, Nat.one_mul, Nat.zero_mul, List.length_cons, List.length_nil, List.getElem?_cons_zero, List.getElem?_cons_succ, List.map_cons, List.map_nil, List.append_nil, row_g0, hr]
        refine Upd.leave (H' := (bu, .cells [.slice (some ⟨bt, 0, none⟩) n cap, .int .i64 c] [] 49) :: (bt, .cells (row3 n up' least many) sp 51) :: H) (by intro fsum; first | exact Nat.le_refl _ | (simp only [List.map_append, List.map_cons, List.map_nil, List.sum_append, List.sum_cons, List.sum_nil, List.cons_append, List.nil_append]; omega)) (h1 j up' hj (by omega) (by omega) hu' hr hmj hroot)
      · repeat' first
          | with_reducible refine Br.yes ?_
          | with_reducible refine Br.no ?_
          | with_reducible refine Br.dec (fun _ => ?_) (fun _ => ?_)
          | with_reducible refine Br.beqB (fun _ => ?_) (fun _ => ?_)
          | with_reducible refine Br.beqb (fun _ => ?_) (fun _ => ?_)
          | with_reducible refine Br.mk (fun _ => ?_) (fun _ => ?_)
          | with_reducible refine foundO.mk (fun _ _ => ?_) (fun _ => ?_)
          | with_reducible refine appV.zero ?_
          | with_reducible refine appV.own ?_
          | ((with_reducible refine NewB.mk fun nb hnb => ?_); have hnb1 := hnb.1.1; have hnb2 := hnb.1.2; try simp only [keys_cons, keys_app, keys_nil, NotIn_cons, NotIn_app, NotIn_nil, and_true] at hnb2)
          | ((with_reducible refine NewRow.mk fun nb nsp ncap hnb hncap => ?_); have hnb1 := hnb.1.1; have hnb2 := hnb.1.2; try simp only [keys_cons, keys_app, keys_nil, NotIn_cons, NotIn_app, NotIn_nil, and_true] at hnb2)
          | simp (dsimp := false) (implicitDefEqProofs := false) (disch := first | assumption | (simp only [List.mem_cons, List.mem_append, true_or, or_true, eq_self]; done) | omega | (with_reducible refine Row.adr (by assumption) ?_; simp only [List.length_map, List.length_take, List.length_drop]; omega) | (simp only [List.length_cons, List.length_nil, List.length_map, List.length_append, List.length_replicate, Nat.reduceAdd, true_and, and_true, and_self]; first | done | omega)) only [go_sem, ↓reduceIte, Nat.reduceEqDiff, Nat.reduceAdd, Nat.reduceSub, Nat.reduceMul, Nat.reduceBEq, Nat.reduceLT, Nat.reduceLeDiff, Nat.reduceMod, Nat.reducePow, List.reduceReplicate, UInt8.reduceOfNat, Int.reducePow, Int.reduceDiv, Int.reduceMod, Nat.reduceDiv, Int.reduceNeg, Int.reduceAdd, Int.reduceSub, Int.reduceMul, Int.reduceLE, Int.reduceLT, Int.reduceEq, Int.reduceToNat, decide_true, decide_false, reduceCtorEq, ne_eq, not_false_eq_true, not_true_eq_false, and_true, true_and, and_self, or_true, true_or, or_false, false_or, or_self, eq_self, Option.isNone_some, Option.isNone_none, Nat.zero_add, Nat.add_zero, Nat.mul_one, Nat.one_mul, Nat.zero_mul, List.length_cons, List.length_nil, List.getElem?_cons_zero, List.getElem?_cons_succ, List.map_cons, List.map_nil, List.append_nil, row_g0]
          | refine FnT.leave (H' := (nb, .cells [.pointer (some ⟨bu, 0, none⟩)] [] 23) :: (bu, .cells [.slice (some ⟨bt, 0, none⟩) n cap, .int .i64 c] [] 49) :: (bt, .cells (row3 n up' least many) sp 51) :: H) (top1_t n j nb bu bt cap c up' least many sp hj hju hn ?_) (by intro fsum; first | exact Nat.le_refl _ | (simp only [List.map_append, List.map_cons, List.map_nil, List.sum_append, List.sum_cons, List.sum_nil, List.cons_append, List.nil_append]; omega))
        obtain ⟨s1, s2, s3⟩ := hu'.step hj hr
        refine Upd.leave (H' := (bu, .cells [.slice (some ⟨bt, 0, none⟩) n cap, .int .i64 c] [] 49) :: (nb, .cells [.pointer (some ⟨bu, 0, none⟩)] [] 23) :: (bt, .cells (row3 n (upd up' j (up' (up' j))) least many) sp 51) :: H) (by intro fsum; first | exact Nat.le_refl _ | (simp only [List.map_append, List.map_cons, List.map_nil, List.sum_append, List.sum_cons, List.sum_nil, List.cons_append, List.nil_append]; omega)) ⟨_, s3, up' (up' j), upd up' j (up' (up' j)), s1, s2.trans hmj, rfl, hu'.halve hj, fun x hx => ?_, rfl, rfl, rfl⟩
        by_cases e : x = j
        · subst e; exact absurd (hroot x hx) hr
        · rw [upd_ne _ _ e]; exact hroot x hx

end Go.Proofs.Ytcaoojjciadlhaa
