/- Things that are joined: their classes. -/
import Derived.Test.YtcaoojjciadlhaaFf
set_option linter.unusedSimpArgs false
set_option linter.unusedVariables false
namespace Go.Proofs.Ytcaoojjciadlhaa
open Go Go.V Go.Proofs

theorem TabU.mle {hb : Heap} {pt : Value} {n : Nat} {m : Nat → Nat} (h : TabU hb pt n m) : ∀ i, i < n → m i ≤ i := by
  obtain ⟨hn, bu, bt, cap, up, least, rank, B, many, sp, rfl, rfl, hu⟩ := h
  exact hu.mle
theorem TabU.mid {hb : Heap} {pt : Value} {n : Nat} {m : Nat → Nat} (h : TabU hb pt n m) : ∀ i, i < n → m (m i) = m i := by
  obtain ⟨hn, bu, bt, cap, up, least, rank, B, many, sp, rfl, rfl, hu⟩ := h
  exact hu.mid
theorem TabU.ptr {hb : Heap} {pt : Value} {n : Nat} {m : Nat → Nat} (h : TabU hb pt n m) : ∃ b, pt = .pointer (some ⟨b, 0, none⟩) := by
  obtain ⟨hn, bu, bt, cap, up, least, rank, B, many, sp, rfl, rfl, hu⟩ := h
  exact ⟨bu, rfl⟩

def numsL (n : Nat) (f : Nat → Nat) : List Value := (List.range n).map fun k => Value.int .i64 (f k)
theorem numsL_len (n : Nat) (f : Nat → Nat) : (numsL n f).length = n := by simp [numsL]
theorem numsL_get {n : Nat} {f : Nat → Nat} {i : Nat} (h : i < n) : (numsL n f)[i]? = some (.int .i64 (f i)) := by
  unfold numsL; rw [List.getElem?_map, List.getElem?_eq_getElem (by simpa using h)]; simp
theorem numsL_put {n : Nat} {f : Nat → Nat} {i : Nat} (h : i < n) (x : Nat) : splice (numsL n f) i [.int .i64 x] = numsL n (upd f i x) := by
  rw [splice_one' (by rw [numsL_len]; exact h)]
  apply List.ext_getElem?
  intro k
  rw [List.getElem?_set]
  by_cases hk : i = k
  · subst hk
    rw [if_pos rfl, numsL_len, if_pos h, numsL_get h, upd_same]
  · rw [if_neg hk]
    unfold numsL
    rw [List.getElem?_map, List.getElem?_map]
    by_cases hkn : k < n
    · rw [List.getElem?_eq_getElem (by simpa using hkn)]
      simp only [List.getElem_range, Option.map_some]
      rw [upd_ne _ _ (Ne.symm hk)]
    · rw [List.getElem?_eq_none (by simpa using hkn)]; rfl

theorem blocks_t {hb : Heap} {pt : Value} {n : Nat} {m : Nat → Nat} (ht : TabU hb pt n m) {G : PHeap} {H : Heap} {R : Value → PHeap → Heap → Prop}
    (hR : ∀ hb' G' v', PLe G G' → Sep G' (keys (hb' ++ H)) → TabU hb' pt n m → Sl G' (Value.int .i64) v' (labs n (blkM m)) → R v' G' (hb' ++ H)) : FnT Try.prog 19 [pt] G (hb ++ H) R := by
  have mle := ht.mle
  have mid := ht.mid
  have hn := ht.1
  obtain ⟨bu, rfl⟩ := ht.ptr
  refine FnT.body tok [0, 2, 3, 4, 5, 6, 7, 12, 13, 14, 21] Try.func19 rfl (by kernel_rfl) (by kernel_rfl) (by show _ ≤ 37; simp) fun hsep => ?_
  rw [Try.results19]
  have hsE := hsep
  try simp only [keys_cons, keys_app, keys_nil, Sep_cons, Sep_nil, NotIn_cons, NotIn_app, NotIn_nil, List.cons_append, List.nil_append, List.append_assoc, and_assoc, and_true, true_and] at hsE
  repeat (obtain ⟨hsx, hsE⟩ := hsE)
  repeat' first
    | with_reducible refine Br.yes ?_
    | with_reducible refine Br.no ?_
    | with_reducible refine Br.dec (fun _ => ?_) (fun _ => ?_)
    | with_reducible refine Br.beqB (fun _ => ?_) (fun _ => ?_)
    | with_reducible refine Br.beqb (fun _ => ?_) (fun _ => ?_)
    | with_reducible refine Br.mk (fun _ => ?_) (fun _ => ?_)
    | with_reducible refine foundO.mk (fun _ _ => ?_) (fun _ => ?_)
    | with_reducible refine appV.zero ?_
    | with_reducible refine appV.own ?_
    | ((with_reducible refine NewB.mk fun nb hnb => ?_); have hnb1 := hnb.1.1; have hnb2 := hnb.1.2; try simp only [keys_cons, keys_app, keys_nil, NotIn_cons, NotIn_app, NotIn_nil, and_true] at hnb2)
    | ((with_reducible refine NewRow.mk fun nb nsp ncap hnb hncap => ?_); have hnb1 := hnb.1.1; have hnb2 := hnb.1.2; try simp only [keys_cons, keys_app, keys_nil, NotIn_cons, NotIn_app, NotIn_nil, and_true] at hnb2)
    | simp (dsimp := false) (implicitDefEqProofs := false) (disch := first | assumption | (simp only [List.mem_cons, List.mem_append, true_or, or_true, eq_self]; done) | omega | (with_reducible refine Row.adr (by assumption) ?_; simp only [List.length_map, List.length_take, List.length_drop]; omega) | (simp only [List.length_cons, List.length_nil, List.length_map, List.length_append, List.length_replicate, Nat.reduceAdd, true_and, and_true, and_self]; first | done | omega)) only [go_sem, ↓reduceIte, Nat.reduceEqDiff, Nat.reduceAdd, Nat.reduceSub, Nat.reduceMul, Nat.reduceBEq, Nat.reduceLT, Nat.reduceLeDiff, Nat.reduceMod, Nat.reducePow, List.reduceReplicate, UInt8.reduceOfNat, Int.reducePow, Int.reduceDiv, Int.reduceMod, Nat.reduceDiv, Int.reduceNeg, Int.reduceAdd, Int.reduceSub, Int.reduceMul, Int.reduceLE, Int.reduceLT, Int.reduceEq, Int.reduceToNat, decide_true, decide_false, reduceCtorEq, ne_eq, not_false_eq_true, not_true_eq_false, and_true, true_and, and_self, or_true, true_or, or_false, false_or, or_self, eq_self, Option.isNone_some, Option.isNone_none, Nat.zero_add, Nat.add_zero, Nat.mul_one, Nat.one_mul, Nat.zero_mul, List.length_cons, List.length_nil, List.getElem?_cons_zero, List.getElem?_cons_succ, List.map_cons, List.map_nil, List.append_nil]
    | refine lenU_t ht ?_
    | refine FnT.leave (H' := hb ++ ((nb, .cells (List.replicate n (Value.int .i64 0)) (List.replicate (n - n) (Value.int .i64 0)) 3) :: H)) (lenU_t ht ?_) (by intro fsum; first | exact Nat.le_refl _ | (simp only [List.map_append, List.map_cons, List.map_nil, List.sum_append, List.sum_cons, List.sum_nil, List.cons_append, List.nil_append]; omega))
  revert nb
  intro b0 hnb hnb1 hnb2
  rw [Nat.sub_self, List.replicate_zero, show List.replicate n (Value.int .i64 0) = numsL n (fun _ => 0) by unfold numsL; rw [List.map_const', List.length_range]; rfl]
  refine Tri.loopU tok [0, 2, 3, 4, 5, 6, 7, 12, 13, 14, 21] (by kernel_rfl) [0, 2, 3, 4, 5, 12, 13] (fun q G' fr H' => ∃ (i : Nat) (hb' kb : Heap) (v : Value) (f : Nat → Nat), i + q = n ∧ TabU hb' (.pointer (some ⟨bu, 0, none⟩)) n m ∧ (∀ k, k < i → m k = k → f k = cntM k m) ∧ SliceO [] 3 1 v i ((labs i (blkM m)).map (Value.int .i64)) kb ∧ G' = G ∧ H' = kb ++ ((b0, .cells (numsL n f) [] 3) :: (hb' ++ H)) ∧ fr = [(0, .pointer (some ⟨bu, 0, none⟩)), (2, .slice none 0 0), (3, v), (4, .slice (some ⟨b0, 0, none⟩) n n), (5, .int .i64 (cntM i m)), (12, .int .i64 n), (13, .int .i64 i)]) (n) ?_ ?_
  · refine Upd.go (H' := (b0, .cells (numsL n fun _ => 0) [] 3) :: (hb ++ H)) (by intro fsum; first | exact Nat.le_refl _ | (simp only [List.map_append, List.map_cons, List.map_nil, List.sum_append, List.sum_cons, List.sum_nil, List.cons_append, List.nil_append]; omega)) (Upd.now ?_)
    exact ⟨0, hb, [], _, fun _ => 0, by omega, ht, fun k h => by omega, .inl ⟨none, rfl, rfl, rfl, rfl⟩, rfl, rfl, rfl⟩
  · clear ht
    rintro q G' fr H' hle hs ⟨i, hb, kb, v, f, hi, ht, hf, hv, rfl, rfl, rfl⟩
    have hcl := cntM_le i m
    by_cases hil : i < n
    · have hmi := mle i hil
      have hcs := cntM_succ i m
      have hsu := labs_succ i (blkM m)
      have hid : idM n m (i : Int) = (m i : Int) := by rw [idM_in (by omega) (by omega)]; rfl
      repeat' first
        | with_reducible refine Br.yes ?_
        | with_reducible refine Br.no ?_
        | with_reducible refine Br.dec (fun _ => ?_) (fun _ => ?_)
        | with_reducible refine Br.beqB (fun _ => ?_) (fun _ => ?_)
        | with_reducible refine Br.beqb (fun _ => ?_) (fun _ => ?_)
        | with_reducible refine Br.mk (fun _ => ?_) (fun _ => ?_)
        | with_reducible refine foundO.mk (fun _ _ => ?_) (fun _ => ?_)
        | with_reducible refine appV.zero ?_
        | with_reducible refine appV.own ?_
        | ((with_reducible refine NewB.mk fun nb hnb => ?_); have hnb1 := hnb.1.1; have hnb2 := hnb.1.2; try simp only [keys_cons, keys_app, keys_nil, NotIn_cons, NotIn_app, NotIn_nil, and_true] at hnb2)
        | ((with_reducible refine NewRow.mk fun nb nsp ncap hnb hncap => ?_); have hnb1 := hnb.1.1; have hnb2 := hnb.1.2; try simp only [keys_cons, keys_app, keys_nil, NotIn_cons, NotIn_app, NotIn_nil, and_true] at hnb2)
        | simp (dsimp := false) (implicitDefEqProofs := false) (disch := first | assumption | (simp only [List.mem_cons, List.mem_append, true_or, or_true, eq_self]; done) | omega | (with_reducible refine Row.adr (by assumption) ?_; simp only [List.length_map, List.length_take, List.length_drop]; omega) | (simp only [List.length_cons, List.length_nil, List.length_map, List.length_append, List.length_replicate, Nat.reduceAdd, true_and, and_true, and_self]; first | done | omega)) only [go_sem, ↓reduceIte, Nat.reduceEqDiff, Nat.reduceAdd, Nat.reduceSub, Nat.reduceMul, Nat.reduceBEq, Nat.reduceLT, Nat.reduceLeDiff, Nat.reduceMod, Nat.reducePow, List.reduceReplicate, UInt8.reduceOfNat, Int.reducePow, Int.reduceDiv, Int.reduceMod, Nat.reduceDiv, Int.reduceNeg, Int.reduceAdd, Int.reduceSub, Int.reduceMul, Int.reduceLE, Int.reduceLT, Int.reduceEq, Int.reduceToNat, decide_true, decide_false, reduceCtorEq, ne_eq, not_false_eq_true, not_true_eq_false, and_true, true_and, and_self, or_true, true_or, or_false, false_or, or_self, eq_self, Option.isNone_some, Option.isNone_none, Nat.zero_add, Nat.add_zero, Nat.mul_one, Nat.one_mul, Nat.zero_mul, List.length_cons, List.length_nil, List.getElem?_cons_zero, List.getElem?_cons_succ, List.map_cons, List.map_nil, List.append_nil]
      refine FnT.sep (FnT.upd (FnT.leave (H' := hb ++ (kb ++ ((b0, .cells (numsL n f) [] 3) :: H))) (find_t (i : Int) ht fun hb2 ht2 => Upd.go (H' := kb ++ ((b0, .cells (numsL n f) [] 3) :: (hb2 ++ H))) (by intro fsum; first | exact Nat.le_refl _ | (simp only [List.map_append, List.map_cons, List.map_nil, List.sum_append, List.sum_cons, List.sum_nil, List.cons_append, List.nil_append]; omega)) (Upd.now fun hle2 hs2 => ?_)) (by intro fsum; first | exact Nat.le_refl _ | (simp only [List.map_append, List.map_cons, List.map_nil, List.sum_append, List.sum_cons, List.sum_nil, List.cons_append, List.nil_append]; omega))))
      rw [hid]
      rcases hv with ⟨a0, rfl, hn0, hx, rfl⟩ | ⟨b, c, sp, rfl, rfl, hx, hc⟩
      · have he : m i = i := by omega
        have hbk : blkM m i = cntM i m := by unfold blkM; rw [he]
        have hf2 : ∀ k, k < i + 1 → m k = k → upd f i (cntM i m) k = cntM k m := fun k hk e => by
          obtain rfl : k = i := by omega
          rw [upd_same]
        rw [he]
        rw [if_pos he] at hcs
        have hsE := hs2
        try simp only [keys_cons, keys_app, keys_nil, Sep_cons, Sep_nil, NotIn_cons, NotIn_app, NotIn_nil, List.cons_append, List.nil_append, List.append_assoc, and_assoc, and_true, true_and] at hsE
        repeat (obtain ⟨hsx, hsE⟩ := hsE)
        repeat' first
          | with_reducible refine Br.yes ?_
          | with_reducible refine Br.no ?_
          | with_reducible refine Br.dec (fun _ => ?_) (fun _ => ?_)
          | with_reducible refine Br.beqB (fun _ => ?_) (fun _ => ?_)
          | with_reducible refine Br.beqb (fun _ => ?_) (fun _ => ?_)
          | with_reducible refine Br.mk (fun _ => ?_) (fun _ => ?_)
          | with_reducible refine foundO.mk (fun _ _ => ?_) (fun _ => ?_)
          | with_reducible refine appV.zero ?_
          | with_reducible refine appV.own ?_
          | ((with_reducible refine NewB.mk fun nb hnb => ?_); have hnb1 := hnb.1.1; have hnb2 := hnb.1.2; try simp only [keys_cons, keys_app, keys_nil, NotIn_cons, NotIn_app, NotIn_nil, and_true] at hnb2)
          | ((with_reducible refine NewRow.mk fun nb nsp ncap hnb hncap => ?_); have hnb1 := hnb.1.1; have hnb2 := hnb.1.2; try simp only [keys_cons, keys_app, keys_nil, NotIn_cons, NotIn_app, NotIn_nil, and_true] at hnb2)
          | simp (dsimp := false) (implicitDefEqProofs := false) (disch := first | assumption | (simp only [List.mem_cons, List.mem_append, true_or, or_true, eq_self]; done) | omega | (with_reducible refine Row.adr (by assumption) ?_; simp only [List.length_map, List.length_take, List.length_drop]; omega) | (simp only [List.length_cons, List.length_nil, List.length_map, List.length_append, List.length_replicate, Nat.reduceAdd, true_and, and_true, and_self]; first | done | omega)) only [go_sem, ↓reduceIte, Nat.reduceEqDiff, Nat.reduceAdd, Nat.reduceSub, Nat.reduceMul, Nat.reduceBEq, Nat.reduceLT, Nat.reduceLeDiff, Nat.reduceMod, Nat.reducePow, List.reduceReplicate, UInt8.reduceOfNat, Int.reducePow, Int.reduceDiv, Int.reduceMod, Nat.reduceDiv, Int.reduceNeg, Int.reduceAdd, Int.reduceSub, Int.reduceMul, Int.reduceLE, Int.reduceLT, Int.reduceEq, Int.reduceToNat, decide_true, decide_false, reduceCtorEq, ne_eq, not_false_eq_true, not_true_eq_false, and_true, true_and, and_self, or_true, true_or, or_false, false_or, or_self, eq_self, Option.isNone_some, Option.isNone_none, Nat.zero_add, Nat.add_zero, Nat.mul_one, Nat.one_mul, Nat.zero_mul, List.length_cons, List.length_nil, List.getElem?_cons_zero, List.getElem?_cons_succ, List.map_cons, List.map_nil, List.append_nil, numsL_len, numsL_get, numsL_put, upd_same, he]
        refine Upd.leave (H' := (nb, .cells [Value.int .i64 (cntM i m : Int)] nsp 3) :: (b0, .cells (numsL n (upd f i (cntM i m))) [] 3) :: (hb2 ++ H)) (by intro fsum; first | exact Nat.le_refl _ | (simp only [List.map_append, List.map_cons, List.map_nil, List.sum_append, List.sum_cons, List.sum_nil, List.cons_append, List.nil_append]; omega)) ⟨q - 1, by omega, i + 1, hb2, [(nb, .cells [Value.int .i64 (cntM i m : Int)] nsp 3)], .slice (some ⟨nb, 0, none⟩) 1 ncap, upd f i (cntM i m), by omega, ht2, hf2, .inr ⟨nb, ncap, nsp, by rw [hn0], by rw [hsu, List.map_append, hbk, hx]; rfl, by rw [List.length_map, labs_len]; omega, by rw [List.length_map, labs_len]; first | omega | (simp only [List.length_append, List.length_map, List.length_singleton, labs_len] at hncap; omega)⟩, rfl, rfl, ?_⟩
        rw [hcs]; rfl
      · rw [List.length_map, labs_len] at hx hc
        have hsE := hs2
        try simp only [keys_cons, keys_app, keys_nil, Sep_cons, Sep_nil, NotIn_cons, NotIn_app, NotIn_nil, List.cons_append, List.nil_append, List.append_assoc, and_assoc, and_true, true_and] at hsE
        repeat (obtain ⟨hsx, hsE⟩ := hsE)
        have hll := labs_len i (blkM m)
        by_cases he : m i = i
        · have hbk : blkM m i = cntM i m := by unfold blkM; rw [he]
          have hf2 : ∀ k, k < i + 1 → m k = k → upd f i (cntM i m) k = cntM k m := fun k hk e => by
            by_cases ek : k = i
            · subst ek; rw [upd_same]
            · rw [upd_ne _ _ ek]; exact hf k (by omega) e
          rw [he]
          rw [if_pos he] at hcs
          repeat' first
            | with_reducible refine Br.yes ?_
            | with_reducible refine Br.no ?_
            | with_reducible refine Br.dec (fun _ => ?_) (fun _ => ?_)
            | with_reducible refine Br.beqB (fun _ => ?_) (fun _ => ?_)
            | with_reducible refine Br.beqb (fun _ => ?_) (fun _ => ?_)
            | with_reducible refine Br.mk (fun _ => ?_) (fun _ => ?_)
            | with_reducible refine foundO.mk (fun _ _ => ?_) (fun _ => ?_)
            | with_reducible refine appV.zero ?_
            | with_reducible refine appV.own ?_
            | ((with_reducible refine NewB.mk fun nb hnb => ?_); have hnb1 := hnb.1.1; have hnb2 := hnb.1.2; try simp only [keys_cons, keys_app, keys_nil, NotIn_cons, NotIn_app, NotIn_nil, and_true] at hnb2)
            | ((with_reducible refine NewRow.mk fun nb nsp ncap hnb hncap => ?_); have hnb1 := hnb.1.1; have hnb2 := hnb.1.2; try simp only [keys_cons, keys_app, keys_nil, NotIn_cons, NotIn_app, NotIn_nil, and_true] at hnb2)
            | simp (dsimp := false) (implicitDefEqProofs := false) (disch := first | assumption | (simp only [List.mem_cons, List.mem_append, true_or, or_true, eq_self]; done) | omega | (with_reducible refine Row.adr (by assumption) ?_; simp only [List.length_map, List.length_take, List.length_drop]; omega) | (simp only [List.length_cons, List.length_nil, List.length_map, List.length_append, List.length_replicate, Nat.reduceAdd, true_and, and_true, and_self]; first | done | omega)) only [go_sem, ↓reduceIte, Nat.reduceEqDiff, Nat.reduceAdd, Nat.reduceSub, Nat.reduceMul, Nat.reduceBEq, Nat.reduceLT, Nat.reduceLeDiff, Nat.reduceMod, Nat.reducePow, List.reduceReplicate, UInt8.reduceOfNat, Int.reducePow, Int.reduceDiv, Int.reduceMod, Nat.reduceDiv, Int.reduceNeg, Int.reduceAdd, Int.reduceSub, Int.reduceMul, Int.reduceLE, Int.reduceLT, Int.reduceEq, Int.reduceToNat, decide_true, decide_false, reduceCtorEq, ne_eq, not_false_eq_true, not_true_eq_false, and_true, true_and, and_self, or_true, true_or, or_false, false_or, or_self, eq_self, Option.isNone_some, Option.isNone_none, Nat.zero_add, Nat.add_zero, Nat.mul_one, Nat.one_mul, Nat.zero_mul, List.length_cons, List.length_nil, List.getElem?_cons_zero, List.getElem?_cons_succ, List.map_cons, List.map_nil, List.append_nil, numsL_len, numsL_get, numsL_put, upd_same, he]
          refine Upd.leave (H' := (nb, .cells ((labs i (blkM m)).map (Value.int .i64) ++ [Value.int .i64 (cntM i m : Int)]) nsp 3) :: (b0, .cells (numsL n (upd f i (cntM i m))) [] 3) :: (hb2 ++ H)) (by intro fsum; first | exact Nat.le_refl _ | (simp only [List.map_append, List.map_cons, List.map_nil, List.sum_append, List.sum_cons, List.sum_nil, List.cons_append, List.nil_append]; omega)) ⟨q - 1, by omega, i + 1, hb2, [(nb, .cells ((labs i (blkM m)).map (Value.int .i64) ++ [Value.int .i64 (cntM i m : Int)]) nsp 3)], .slice (some ⟨nb, 0, none⟩) (i + 1) ncap, (upd f i (cntM i m)), by omega, ht2, hf2, .inr ⟨nb, ncap, nsp, rfl, by rw [hsu, List.map_append, hbk]; first | rfl | (rw [hx]; rfl), by rw [List.length_map, labs_len]; omega, by rw [List.length_map, labs_len]; first | omega | (simp only [List.length_append, List.length_map, List.length_singleton, labs_len] at hncap; omega)⟩, rfl, rfl, ?_⟩
          rw [hcs]; rfl
        · have hfm : f (m i) = blkM m i := by unfold blkM; exact hf (m i) (by omega) (mid i hil)
          have hbk : blkM m i = f (m i) := hfm.symm
          have hf2 : ∀ k, k < i + 1 → m k = k → f k = cntM k m := fun k hk e => hf k (by
            by_cases ek : k = i
            · subst ek; exact absurd e he
            · omega) e
          have hmn : m i < n := by omega
          rw [if_neg he] at hcs
          repeat' first
            | with_reducible refine Br.yes ?_
            | with_reducible refine Br.no ?_
            | with_reducible refine Br.dec (fun _ => ?_) (fun _ => ?_)
            | with_reducible refine Br.beqB (fun _ => ?_) (fun _ => ?_)
            | with_reducible refine Br.beqb (fun _ => ?_) (fun _ => ?_)
            | with_reducible refine Br.mk (fun _ => ?_) (fun _ => ?_)
            | with_reducible refine foundO.mk (fun _ _ => ?_) (fun _ => ?_)
            | with_reducible refine appV.zero ?_
            | with_reducible refine appV.own ?_
            | ((with_reducible refine NewB.mk fun nb hnb => ?_); have hnb1 := hnb.1.1; have hnb2 := hnb.1.2; try simp only [keys_cons, keys_app, keys_nil, NotIn_cons, NotIn_app, NotIn_nil, and_true] at hnb2)
            | ((with_reducible refine NewRow.mk fun nb nsp ncap hnb hncap => ?_); have hnb1 := hnb.1.1; have hnb2 := hnb.1.2; try simp only [keys_cons, keys_app, keys_nil, NotIn_cons, NotIn_app, NotIn_nil, and_true] at hnb2)
            | simp (dsimp := false) (implicitDefEqProofs := false) (disch := first | assumption | (simp only [List.mem_cons, List.mem_append, true_or, or_true, eq_self]; done) | omega | (with_reducible refine Row.adr (by assumption) ?_; simp only [List.length_map, List.length_take, List.length_drop]; omega) | (simp only [List.length_cons, List.length_nil, List.length_map, List.length_append, List.length_replicate, Nat.reduceAdd, true_and, and_true, and_self]; first | done | omega)) only [go_sem, ↓reduceIte, Nat.reduceEqDiff, Nat.reduceAdd, Nat.reduceSub, Nat.reduceMul, Nat.reduceBEq, Nat.reduceLT, Nat.reduceLeDiff, Nat.reduceMod, Nat.reducePow, List.reduceReplicate, UInt8.reduceOfNat, Int.reducePow, Int.reduceDiv, Int.reduceMod, Nat.reduceDiv, Int.reduceNeg, Int.reduceAdd, Int.reduceSub, Int.reduceMul, Int.reduceLE, Int.reduceLT, Int.reduceEq, Int.reduceToNat, decide_true, decide_false, reduceCtorEq, ne_eq, not_false_eq_true, not_true_eq_false, and_true, true_and, and_self, or_true, true_or, or_false, false_or, or_self, eq_self, Option.isNone_some, Option.isNone_none, Nat.zero_add, Nat.add_zero, Nat.mul_one, Nat.one_mul, Nat.zero_mul, List.length_cons, List.length_nil, List.getElem?_cons_zero, List.getElem?_cons_succ, List.map_cons, List.map_nil, List.append_nil, numsL_len, numsL_get, numsL_put, upd_same, hfm]
          refine Upd.leave (H' := (nb, .cells ((labs i (blkM m)).map (Value.int .i64) ++ [Value.int .i64 (blkM m i : Int)]) nsp 3) :: (b0, .cells (numsL n f) [] 3) :: (hb2 ++ H)) (by intro fsum; first | exact Nat.le_refl _ | (simp only [List.map_append, List.map_cons, List.map_nil, List.sum_append, List.sum_cons, List.sum_nil, List.cons_append, List.nil_append]; omega)) ⟨q - 1, by omega, i + 1, hb2, [(nb, .cells ((labs i (blkM m)).map (Value.int .i64) ++ [Value.int .i64 (blkM m i : Int)]) nsp 3)], .slice (some ⟨nb, 0, none⟩) (i + 1) ncap, f, by omega, ht2, hf2, .inr ⟨nb, ncap, nsp, rfl, by rw [hsu, List.map_append]; rfl, by rw [List.length_map, labs_len]; omega, by rw [List.length_map, labs_len]; first | omega | (simp only [List.length_append, List.length_map, List.length_singleton, labs_len] at hncap; omega)⟩, rfl, rfl, ?_⟩
          rw [hcs]; rfl
    · obtain rfl : i = n := by omega
      repeat' first
        | with_reducible refine Br.yes ?_
        | with_reducible refine Br.no ?_
        | with_reducible refine Br.dec (fun _ => ?_) (fun _ => ?_)
        | with_reducible refine Br.beqB (fun _ => ?_) (fun _ => ?_)
        | with_reducible refine Br.beqb (fun _ => ?_) (fun _ => ?_)
        | with_reducible refine Br.mk (fun _ => ?_) (fun _ => ?_)
        | with_reducible refine foundO.mk (fun _ _ => ?_) (fun _ => ?_)
        | with_reducible refine appV.zero ?_
        | with_reducible refine appV.own ?_
        | ((with_reducible refine NewB.mk fun nb hnb => ?_); have hnb1 := hnb.1.1; have hnb2 := hnb.1.2; try simp only [keys_cons, keys_app, keys_nil, NotIn_cons, NotIn_app, NotIn_nil, and_true] at hnb2)
        | ((with_reducible refine NewRow.mk fun nb nsp ncap hnb hncap => ?_); have hnb1 := hnb.1.1; have hnb2 := hnb.1.2; try simp only [keys_cons, keys_app, keys_nil, NotIn_cons, NotIn_app, NotIn_nil, and_true] at hnb2)
        | simp (dsimp := false) (implicitDefEqProofs := false) (disch := first | assumption | (simp only [List.mem_cons, List.mem_append, true_or, or_true, eq_self]; done) | omega | (with_reducible refine Row.adr (by assumption) ?_; simp only [List.length_map, List.length_take, List.length_drop]; omega) | (simp only [List.length_cons, List.length_nil, List.length_map, List.length_append, List.length_replicate, Nat.reduceAdd, true_and, and_true, and_self]; first | done | omega)) only [go_sem, ↓reduceIte, Nat.reduceEqDiff, Nat.reduceAdd, Nat.reduceSub, Nat.reduceMul, Nat.reduceBEq, Nat.reduceLT, Nat.reduceLeDiff, Nat.reduceMod, Nat.reducePow, List.reduceReplicate, UInt8.reduceOfNat, Int.reducePow, Int.reduceDiv, Int.reduceMod, Nat.reduceDiv, Int.reduceNeg, Int.reduceAdd, Int.reduceSub, Int.reduceMul, Int.reduceLE, Int.reduceLT, Int.reduceEq, Int.reduceToNat, decide_true, decide_false, reduceCtorEq, ne_eq, not_false_eq_true, not_true_eq_false, and_true, true_and, and_self, or_true, true_or, or_false, false_or, or_self, eq_self, Option.isNone_some, Option.isNone_none, Nat.zero_add, Nat.add_zero, Nat.mul_one, Nat.one_mul, Nat.zero_mul, List.length_cons, List.length_nil, List.getElem?_cons_zero, List.getElem?_cons_succ, List.map_cons, List.map_nil, List.append_nil]
      unfold UpdR
      rcases hv with ⟨a0, rfl, hn0, hx, rfl⟩ | ⟨b, c, sp, rfl, rfl, hx, hc⟩
      · refine Upd.go (H' := hb ++ H) (by intro fsum; first | exact Nat.le_refl _ | (simp only [List.map_append, List.map_cons, List.map_nil, List.sum_append, List.sum_cons, List.sum_nil, List.cons_append, List.nil_append]; omega)) (Upd.now ?_)
        have hl : labs i (blkM m) = [] := List.eq_nil_of_length_eq_zero (by rw [labs_len]; exact hn0)
        exact hR hb G' _ hle (by exact hs.2) ht ⟨a0, 0, by rw [hl]; rfl, by rw [hl]; exact Row.nil _ _, by rw [hl]; exact Nat.le_refl _⟩
      · rw [List.length_map, labs_len] at hx hc
        refine Upd.go (H' := (b, .cells ((labs i (blkM m)).map (Value.int .i64)) sp 3) :: (hb ++ H)) (by intro fsum; first | exact Nat.le_refl _ | (simp only [List.map_append, List.map_cons, List.map_nil, List.sum_append, List.sum_cons, List.sum_nil, List.cons_append, List.nil_append]; omega)) ?_
        refine Upd.shareRow hs.1.1 fun G2 hle2 hs2 hr2 => hR hb G2 _ (hle.trans hle2) hs2 ht ⟨some ⟨b, 0, none⟩, c, by rw [labs_len], hr2, by rw [labs_len]; omega⟩
end Go.Proofs.Ytcaoojjciadlhaa
