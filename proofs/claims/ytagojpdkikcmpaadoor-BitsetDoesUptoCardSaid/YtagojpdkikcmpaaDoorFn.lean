/- Sets of bits: the document's Or and Meets. -/
import Derived.Test.YtagojpdkikcmpaaDoorFm
set_option linter.unusedSimpArgs false
set_option linter.unusedVariables false
namespace Go.Proofs.YtagojpdkikcmpaaDoor
open Go Go.V Go.Proofs

theorem sorted_fresh {l : List Int} (h : l.Pairwise (· < ·)) {k : Nat} (hk : k < l.length) : l[k] ∉ l.take k := fun hm => by
  obtain ⟨j, hj, e⟩ := List.getElem_of_mem hm
  rw [List.length_take] at hj
  rw [List.getElem_take] at e
  have := List.pairwise_iff_getElem.1 h j k (by omega) hk (by omega)
  omega
theorem any_take {l : List Int} (p : Int → Bool) {k : Nat} (hk : k < l.length) : (l.take (k + 1)).any p = ((l.take k).any p || p l[k]) := by
  rw [List.take_succ_eq_append_getElem hk, List.any_append]; simp
set_option maxHeartbeats 8000000 in
theorem ror_t (n : Nat) (f : Nat → Bool) (l : List Int) (m : Int) (hn : n ≤ 1048576) (hll : l.length ≤ 1048576) (hso : l.Pairwise (· < ·)) {G : PHeap} {H : Heap} {R : Value → PHeap → Heap → Prop} {v w : Value} (hv : Sl G (Value.int .i64) v (els n f)) (hw : Sl G (Value.int .i64) w l)
    (hR : ∀ G' v', PLe G G' → Sep G' (keys H) → Sl G' (Value.int .i64) v' (els n (fun x => f x || decide ((x : Int) ∈ l))) → R (.tuple #[.agg #[.int .i64 n, v'], .bool (l.any fun i => decide (0 ≤ i ∧ i < n) && !f i.toNat)]) G' H) : FnT Tryd.prog 19 [.agg #[.int .i64 n, v], .agg #[.int .i64 m, w]] G H R := by
  obtain ⟨a, cap, rfl, hrow, hcap⟩ := hw
  refine FnT.sep ?_
  refine FnT.body tok [0, 1, 2, 3, 4, 5, 6, 7, 8, 9, 14] Tryd.func19 rfl (by kernel_rfl) (by kernel_rfl) (by show _ ≤ 34; simp) fun hsep => ?_
  rw [Tryd.results19]
  have hsE := hsep
  try simp only [keys_cons, keys_app, keys_nil, Sep_cons, Sep_nil, NotIn_cons, NotIn_app, NotIn_nil, List.cons_append, List.nil_append, List.append_assoc, and_assoc, and_true, true_and] at hsE
  repeat (obtain ⟨hsx, hsE⟩ := hsE)
  repeat' first
    | with_reducible refine Br.yes ?_
    | with_reducible refine Br.no ?_
    | with_reducible refine Br.dec (fun _ => ?_) (fun _ => ?_)
    | with_reducible refine Br.beqB (fun _ => ?_) (fun _ => ?_)
    | with_reducible refine Br.beqb (fun _ => ?_) (fun _ => ?_)
    | with_reducible refine Br.mk (fun _ => ?_) (fun _ => ?_)
    | with_reducible refine foundO.mk (fun _ _ => ?_) (fun _ => ?_)
    | with_reducible refine appV.zero ?_
    | with_reducible refine appV.own ?_
    | ((with_reducible refine NewB.mk fun nb hnb => ?_); have hnb1 := hnb.1.1; have hnb2 := hnb.1.2; try simp only [keys_cons, keys_app, keys_nil, NotIn_cons, NotIn_app, NotIn_nil, and_true] at hnb2)
    | ((with_reducible refine NewRow.mk fun nb nsp ncap hnb hncap => ?_); have hnb1 := hnb.1.1; have hnb2 := hnb.1.2; try simp only [keys_cons, keys_app, keys_nil, NotIn_cons, NotIn_app, NotIn_nil, and_true] at hnb2)
    | with_reducible refine Tri.drawM tok mixed [0, 1, 2, 3, 4, 5, 6, 7, 8, 9, 14] 5 [0, 2, 5] (.op 0 .held (.op 1 .plain (.op 2 .held (.op 3 .plain (.op 4 .plain (.op 5 .held (.both (.op 6 .keeps (.op 7 .plain (.op 8 .plain (.op 9 .plain (.op 10 .keeps (.op 11 .plain (.op 12 .plain .nil))))))) (.op 10 .keeps (.op 6 .keeps (.op 7 .plain (.op 8 .plain (.op 9 .plain (.op 11 .plain (.op 12 .plain .nil)))))))))))))) (by kernel_rfl) _ (List.Sublist.refl _) ?_
    | simp (dsimp := false) (implicitDefEqProofs := false) (disch := first | assumption | (simp only [List.mem_cons, List.mem_append, true_or, or_true, eq_self]; done) | omega | (with_reducible refine Row.adr (by assumption) ?_; simp only [List.length_map, List.length_take, List.length_drop]; omega) | (simp only [List.length_cons, List.length_nil, List.length_map, List.length_append, List.length_replicate, Nat.reduceAdd, true_and, and_true, and_self]; first | done | omega)) only [go_sem, ↓reduceIte, Nat.reduceEqDiff, Nat.reduceAdd, Nat.reduceSub, Nat.reduceMul, Nat.reduceBEq, Nat.reduceLT, Nat.reduceLeDiff, Nat.reduceMod, Nat.reducePow, List.reduceReplicate, UInt8.reduceOfNat, Int.reducePow, Int.reduceDiv, Int.reduceMod, Nat.reduceDiv, Int.reduceNeg, Int.reduceAdd, Int.reduceSub, Int.reduceMul, Int.reduceLE, Int.reduceLT, Int.reduceEq, Int.reduceToNat, decide_true, decide_false, reduceCtorEq, ne_eq, not_false_eq_true, not_true_eq_false, and_true, true_and, and_self, or_true, true_or, or_false, false_or, or_self, eq_self, Option.isNone_some, Option.isNone_none, Nat.zero_add, Nat.add_zero, Nat.mul_one, Nat.one_mul, Nat.zero_mul, List.length_cons, List.length_nil, List.getElem?_cons_zero, List.getElem?_cons_succ, List.map_cons, List.map_nil, List.append_nil]
  rename_i b2 hb20 hb21 hb22 b3 hb30 hb31 hb32
  refine Tri.loopU tok [0, 1, 2, 3, 4, 5, 6, 7, 8, 9, 14] (by kernel_rfl) [0, 1, 2, 3, 4, 5, 6, 7] (fun q G' fr H' => ∃ (k : Nat) (v' : Value), k + q = l.length ∧ PLe G G' ∧ Sl G' (Value.int .i64) v' (els n (fun x => f x || decide ((x : Int) ∈ l.take k))) ∧ H' = (nb, .cells [.int .i64 0, .slice none 0 0] [] 39) :: (b3, .cells [.int .i64 m, .slice a l.length cap] [] 39) :: (b2, .cells [.int .i64 n, v'] [] 39) :: H ∧ fr = [(0, .agg #[.int .i64 n, v]), (1, .agg #[.int .i64 m, .slice a l.length cap]), (2, .pointer (some ⟨b2, 0, none⟩)), (3, .pointer (some ⟨b3, 0, none⟩)), (4, .pointer (some ⟨nb, 0, none⟩)), (5, .bool false), (6, .bool ((l.take k).any fun i => decide (0 ≤ i ∧ i < n) && !f i.toNat)), (7, .int .i64 k)]) (l.length) ?_ ?_
  · exact Upd.now ⟨0, v, by omega, PLe.refl _, by simpa using hv, rfl, rfl⟩
  · rintro q G1 fr H' hle hs ⟨k, v', hk, hle1, hsl, rfl, rfl⟩
    have hsE := hs
    try simp only [keys_cons, keys_app, keys_nil, Sep_cons, Sep_nil, NotIn_cons, NotIn_app, NotIn_nil, List.cons_append, List.nil_append, List.append_assoc, and_assoc, and_true, true_and] at hsE
    repeat (obtain ⟨hsx, hsE⟩ := hsE)
    have hsl0 := hsl
    obtain ⟨a1, c1, rfl, hr1, hc1⟩ := hsl
    have hrow1 := hrow.mono hle1
    by_cases hkl : k < l.length
    · have had : Adr a := hrow1.adr (by rw [List.length_map]; omega)
      have hfr := sorted_fresh hso hkl
      have hany := any_take (fun i => decide (0 ≤ i ∧ i < n) && !f i.toNat) hkl
      have hset : els n (fun x => f x || decide ((x : Int) ∈ l.take k) || decide ((x : Int) = l[k])) = els n (fun x => f x || decide ((x : Int) ∈ l.take (k + 1))) := els_congr fun x _ => by
        rw [List.take_succ_eq_append_getElem hkl, Bool.eq_iff_iff]
        simp only [Bool.or_eq_true, decide_eq_true_eq, List.mem_append, List.mem_singleton, or_assoc]
      have hnew : (decide (0 ≤ l[k] ∧ l[k] < n) && !(f l[k].toNat || decide ((l[k].toNat : Int) ∈ l.take k))) = (decide (0 ≤ l[k] ∧ l[k] < n) && !f l[k].toNat) := by
        by_cases h0 : 0 ≤ l[k]
        · rw [show (l[k].toNat : Int) = l[k] by omega, decide_eq_false hfr, Bool.or_false]
        · rw [decide_eq_false (fun h => h0 h.1), Bool.false_and, Bool.false_and]
      repeat' first
        | with_reducible refine Br.yes ?_
        | with_reducible refine Br.no ?_
        | with_reducible refine Br.dec (fun _ => ?_) (fun _ => ?_)
        | with_reducible refine Br.beqB (fun _ => ?_) (fun _ => ?_)
        | with_reducible refine Br.beqb (fun _ => ?_) (fun _ => ?_)
        | with_reducible refine Br.mk (fun _ => ?_) (fun _ => ?_)
        | with_reducible refine foundO.mk (fun _ _ => ?_) (fun _ => ?_)
        | with_reducible refine appV.zero ?_
        | with_reducible refine appV.own ?_
        | ((with_reducible refine NewB.mk fun nb hnb => ?_); have hnb1 := hnb.1.1; have hnb2 := hnb.1.2; try simp only [keys_cons, keys_app, keys_nil, NotIn_cons, NotIn_app, NotIn_nil, and_true] at hnb2)
        | ((with_reducible refine NewRow.mk fun nb nsp ncap hnb hncap => ?_); have hnb1 := hnb.1.1; have hnb2 := hnb.1.2; try simp only [keys_cons, keys_app, keys_nil, NotIn_cons, NotIn_app, NotIn_nil, and_true] at hnb2)
        | with_reducible refine Tri.drawM tok mixed [0, 1, 2, 3, 4, 5, 6, 7, 8, 9, 14] 5 [0, 2, 5] (.op 0 .held (.op 1 .plain (.op 2 .held (.op 3 .plain (.op 4 .plain (.op 5 .held (.both (.op 6 .keeps (.op 7 .plain (.op 8 .plain (.op 9 .plain (.op 10 .keeps (.op 11 .plain (.op 12 .plain .nil))))))) (.op 10 .keeps (.op 6 .keeps (.op 7 .plain (.op 8 .plain (.op 9 .plain (.op 11 .plain (.op 12 .plain .nil)))))))))))))) (by kernel_rfl) _ (List.Sublist.refl _) ?_
        | simp (dsimp := false) (implicitDefEqProofs := false) (disch := first | assumption | (simp only [List.mem_cons, List.mem_append, true_or, or_true, eq_self]; done) | omega | (with_reducible refine Row.adr (by assumption) ?_; simp only [List.length_map, List.length_take, List.length_drop]; omega) | (simp only [List.length_cons, List.length_nil, List.length_map, List.length_append, List.length_replicate, Nat.reduceAdd, true_and, and_true, and_self]; first | done | omega)) only [go_sem, ↓reduceIte, Nat.reduceEqDiff, Nat.reduceAdd, Nat.reduceSub, Nat.reduceMul, Nat.reduceBEq, Nat.reduceLT, Nat.reduceLeDiff, Nat.reduceMod, Nat.reducePow, List.reduceReplicate, UInt8.reduceOfNat, Int.reducePow, Int.reduceDiv, Int.reduceMod, Nat.reduceDiv, Int.reduceNeg, Int.reduceAdd, Int.reduceSub, Int.reduceMul, Int.reduceLE, Int.reduceLT, Int.reduceEq, Int.reduceToNat, decide_true, decide_false, reduceCtorEq, ne_eq, not_false_eq_true, not_true_eq_false, and_true, true_and, and_self, or_true, true_or, or_false, false_or, or_self, eq_self, Option.isNone_some, Option.isNone_none, Nat.zero_add, Nat.add_zero, Nat.mul_one, Nat.one_mul, Nat.zero_mul, List.length_cons, List.length_nil, List.getElem?_cons_zero, List.getElem?_cons_succ, List.map_cons, List.map_nil, List.append_nil, Row.obj hrow1, List.getElem_map]
        | ((with_reducible refine rputs_t n _ l[k] hn hsl0 fun G2 v2 hle2 hs2 hsl2 => ?_); rw [hset] at hsl2; obtain ⟨a2, c2, rfl, hr2, hc2⟩ := hsl2; (have hsE := hs2; try simp only [keys_cons, keys_app, keys_nil, Sep_cons, Sep_nil, NotIn_cons, NotIn_app, NotIn_nil, List.cons_append, List.nil_append, List.append_assoc, and_assoc, and_true, true_and] at hsE; repeat (obtain ⟨hsx, hsE⟩ := hsE)))
        | (with_reducible refine And.intro ?_ ?_)
      all_goals (
        rename_i hyes
        first
        | rw [hyes, Bool.true_or] at hany
        | rw [Bool.eq_false_iff.2 hyes, Bool.false_or, ← hnew] at hany
        | rw [hyes, Bool.false_or, ← hnew] at hany
        refine Upd.go (H' := _) (by intro fsum; first | exact Nat.le_refl _ | (simp only [List.map_append, List.map_cons, List.map_nil, List.sum_append, List.sum_cons, List.sum_nil, List.cons_append, List.nil_append]; omega)) (Upd.now ⟨q - 1, by omega, k + 1, _, by omega, hle1.trans hle2, ⟨a2, c2, rfl, hr2, hc2⟩, rfl, by rw [hany]; rfl⟩))
    · obtain rfl : k = l.length := by omega
      rw [List.take_length] at hsl0 hr1 ⊢
      repeat' first
        | with_reducible refine Br.yes ?_
        | with_reducible refine Br.no ?_
        | with_reducible refine Br.dec (fun _ => ?_) (fun _ => ?_)
        | with_reducible refine Br.beqB (fun _ => ?_) (fun _ => ?_)
        | with_reducible refine Br.beqb (fun _ => ?_) (fun _ => ?_)
        | with_reducible refine Br.mk (fun _ => ?_) (fun _ => ?_)
        | with_reducible refine foundO.mk (fun _ _ => ?_) (fun _ => ?_)
        | with_reducible refine appV.zero ?_
        | with_reducible refine appV.own ?_
        | ((with_reducible refine NewB.mk fun nb hnb => ?_); have hnb1 := hnb.1.1; have hnb2 := hnb.1.2; try simp only [keys_cons, keys_app, keys_nil, NotIn_cons, NotIn_app, NotIn_nil, and_true] at hnb2)
        | ((with_reducible refine NewRow.mk fun nb nsp ncap hnb hncap => ?_); have hnb1 := hnb.1.1; have hnb2 := hnb.1.2; try simp only [keys_cons, keys_app, keys_nil, NotIn_cons, NotIn_app, NotIn_nil, and_true] at hnb2)
        | with_reducible refine Tri.drawM tok mixed [0, 1, 2, 3, 4, 5, 6, 7, 8, 9, 14] 5 [0, 2, 5] (.op 0 .held (.op 1 .plain (.op 2 .held (.op 3 .plain (.op 4 .plain (.op 5 .held (.both (.op 6 .keeps (.op 7 .plain (.op 8 .plain (.op 9 .plain (.op 10 .keeps (.op 11 .plain (.op 12 .plain .nil))))))) (.op 10 .keeps (.op 6 .keeps (.op 7 .plain (.op 8 .plain (.op 9 .plain (.op 11 .plain (.op 12 .plain .nil)))))))))))))) (by kernel_rfl) _ (List.Sublist.refl _) ?_
        | simp (dsimp := false) (implicitDefEqProofs := false) (disch := first | assumption | (simp only [List.mem_cons, List.mem_append, true_or, or_true, eq_self]; done) | omega | (with_reducible refine Row.adr (by assumption) ?_; simp only [List.length_map, List.length_take, List.length_drop]; omega) | (simp only [List.length_cons, List.length_nil, List.length_map, List.length_append, List.length_replicate, Nat.reduceAdd, true_and, and_true, and_self]; first | done | omega)) only [go_sem, ↓reduceIte, Nat.reduceEqDiff, Nat.reduceAdd, Nat.reduceSub, Nat.reduceMul, Nat.reduceBEq, Nat.reduceLT, Nat.reduceLeDiff, Nat.reduceMod, Nat.reducePow, List.reduceReplicate, UInt8.reduceOfNat, Int.reducePow, Int.reduceDiv, Int.reduceMod, Nat.reduceDiv, Int.reduceNeg, Int.reduceAdd, Int.reduceSub, Int.reduceMul, Int.reduceLE, Int.reduceLT, Int.reduceEq, Int.reduceToNat, decide_true, decide_false, reduceCtorEq, ne_eq, not_false_eq_true, not_true_eq_false, and_true, true_and, and_self, or_true, true_or, or_false, false_or, or_self, eq_self, Option.isNone_some, Option.isNone_none, Nat.zero_add, Nat.add_zero, Nat.mul_one, Nat.one_mul, Nat.zero_mul, List.length_cons, List.length_nil, List.getElem?_cons_zero, List.getElem?_cons_succ, List.map_cons, List.map_nil, List.append_nil]
      unfold UpdR
      refine Upd.leave (H' := H) (by intro fsum; first | exact Nat.le_refl _ | (simp only [List.map_append, List.map_cons, List.map_nil, List.sum_append, List.sum_cons, List.sum_nil, List.cons_append, List.nil_append]; omega)) ?_
      exact fun hle hs => hR _ _ hle1 hs hsl0
set_option maxHeartbeats 8000000 in
theorem rmeets_t (n : Nat) (f : Nat → Bool) (l : List Int) (m : Int) (hn : n ≤ 1048576) (hll : l.length ≤ 1048576) {G : PHeap} {H : Heap} {R : Value → PHeap → Heap → Prop} {v w : Value} (hv : Sl G (Value.int .i64) v (els n f)) (hw : Sl G (Value.int .i64) w l)
    (hR : R (.bool (l.any (hasE n f))) G H) : FnT Tryd.prog 23 [.agg #[.int .i64 n, v], .agg #[.int .i64 m, w]] G H R := by
  obtain ⟨a, cap, rfl, hrow, hcap⟩ := hw
  refine FnT.body tok [0, 1, 2, 3, 4, 5, 10, 19] Tryd.func23 rfl (by kernel_rfl) (by kernel_rfl) (by show _ ≤ 20; simp) fun hsep => ?_
  rw [Tryd.results23]
  have hsE := hsep
  try simp only [keys_cons, keys_app, keys_nil, Sep_cons, Sep_nil, NotIn_cons, NotIn_app, NotIn_nil, List.cons_append, List.nil_append, List.append_assoc, and_assoc, and_true, true_and] at hsE
  repeat (obtain ⟨hsx, hsE⟩ := hsE)
  repeat' first
    | with_reducible refine Br.yes ?_
    | with_reducible refine Br.no ?_
    | with_reducible refine Br.dec (fun _ => ?_) (fun _ => ?_)
    | with_reducible refine Br.beqB (fun _ => ?_) (fun _ => ?_)
    | with_reducible refine Br.beqb (fun _ => ?_) (fun _ => ?_)
    | with_reducible refine Br.mk (fun _ => ?_) (fun _ => ?_)
    | with_reducible refine foundO.mk (fun _ _ => ?_) (fun _ => ?_)
    | with_reducible refine appV.zero ?_
    | with_reducible refine appV.own ?_
    | ((with_reducible refine NewB.mk fun nb hnb => ?_); have hnb1 := hnb.1.1; have hnb2 := hnb.1.2; try simp only [keys_cons, keys_app, keys_nil, NotIn_cons, NotIn_app, NotIn_nil, and_true] at hnb2)
    | ((with_reducible refine NewRow.mk fun nb nsp ncap hnb hncap => ?_); have hnb1 := hnb.1.1; have hnb2 := hnb.1.2; try simp only [keys_cons, keys_app, keys_nil, NotIn_cons, NotIn_app, NotIn_nil, and_true] at hnb2)
    | with_reducible refine Tri.drawM tok mixed [0, 1, 2, 3, 4, 5, 10, 19] 4 [0, 2, 5] (.op 0 .held (.op 1 .plain (.op 2 .held (.op 3 .plain (.op 4 .plain (.op 5 .held (.op 6 .keeps .nil))))))) (by kernel_rfl) _ (List.Sublist.refl _) ?_
    | simp (dsimp := false) (implicitDefEqProofs := false) (disch := first | assumption | (simp only [List.mem_cons, List.mem_append, true_or, or_true, eq_self]; done) | omega | (with_reducible refine Row.adr (by assumption) ?_; simp only [List.length_map, List.length_take, List.length_drop]; omega) | (simp only [List.length_cons, List.length_nil, List.length_map, List.length_append, List.length_replicate, Nat.reduceAdd, true_and, and_true, and_self]; first | done | omega)) only [go_sem, ↓reduceIte, Nat.reduceEqDiff, Nat.reduceAdd, Nat.reduceSub, Nat.reduceMul, Nat.reduceBEq, Nat.reduceLT, Nat.reduceLeDiff, Nat.reduceMod, Nat.reducePow, List.reduceReplicate, UInt8.reduceOfNat, Int.reducePow, Int.reduceDiv, Int.reduceMod, Nat.reduceDiv, Int.reduceNeg, Int.reduceAdd, Int.reduceSub, Int.reduceMul, Int.reduceLE, Int.reduceLT, Int.reduceEq, Int.reduceToNat, decide_true, decide_false, reduceCtorEq, ne_eq, not_false_eq_true, not_true_eq_false, and_true, true_and, and_self, or_true, true_or, or_false, false_or, or_self, eq_self, Option.isNone_some, Option.isNone_none, Nat.zero_add, Nat.add_zero, Nat.mul_one, Nat.one_mul, Nat.zero_mul, List.length_cons, List.length_nil, List.getElem?_cons_zero, List.getElem?_cons_succ, List.map_cons, List.map_nil, List.append_nil]
  rename_i b2 hb20 hb21 hb22
  refine Tri.loopU tok [0, 1, 2, 3, 4, 5, 10, 19] (by kernel_rfl) [0, 1, 2, 3, 4, 5] (fun q G' fr H' => ∃ (k : Nat), k + q = l.length ∧ G' = G ∧ (l.take k).any (hasE n f) = false ∧ H' = (nb, .cells [.int .i64 m, .slice a l.length cap] [] 39) :: (b2, .cells [.int .i64 n, v] [] 39) :: H ∧ fr = [(0, .agg #[.int .i64 n, v]), (1, .agg #[.int .i64 m, .slice a l.length cap]), (2, .pointer (some ⟨b2, 0, none⟩)), (3, .pointer (some ⟨nb, 0, none⟩)), (4, .bool false), (5, .int .i64 k)]) (l.length) ?_ ?_
  · exact Upd.now ⟨0, by omega, rfl, by simp, rfl, rfl⟩
  · rintro q G1 fr H' hle hs ⟨k, hk, rfl, hno, rfl, rfl⟩
    have hsE := hs
    try simp only [keys_cons, keys_app, keys_nil, Sep_cons, Sep_nil, NotIn_cons, NotIn_app, NotIn_nil, List.cons_append, List.nil_append, List.append_assoc, and_assoc, and_true, true_and] at hsE
    repeat (obtain ⟨hsx, hsE⟩ := hsE)
    by_cases hkl : k < l.length
    · have had : Adr a := hrow.adr (by rw [List.length_map]; omega)
      have hany := any_take (hasE n f) hkl
      rw [hno, Bool.false_or] at hany
      repeat' first
        | with_reducible refine Br.yes ?_
        | with_reducible refine Br.no ?_
        | with_reducible refine Br.dec (fun _ => ?_) (fun _ => ?_)
        | with_reducible refine Br.beqB (fun _ => ?_) (fun _ => ?_)
        | with_reducible refine Br.beqb (fun _ => ?_) (fun _ => ?_)
        | with_reducible refine Br.mk (fun _ => ?_) (fun _ => ?_)
        | with_reducible refine foundO.mk (fun _ _ => ?_) (fun _ => ?_)
        | with_reducible refine appV.zero ?_
        | with_reducible refine appV.own ?_
        | ((with_reducible refine NewB.mk fun nb hnb => ?_); have hnb1 := hnb.1.1; have hnb2 := hnb.1.2; try simp only [keys_cons, keys_app, keys_nil, NotIn_cons, NotIn_app, NotIn_nil, and_true] at hnb2)
        | ((with_reducible refine NewRow.mk fun nb nsp ncap hnb hncap => ?_); have hnb1 := hnb.1.1; have hnb2 := hnb.1.2; try simp only [keys_cons, keys_app, keys_nil, NotIn_cons, NotIn_app, NotIn_nil, and_true] at hnb2)
        | with_reducible refine Tri.drawM tok mixed [0, 1, 2, 3, 4, 5, 10, 19] 4 [0, 2, 5] (.op 0 .held (.op 1 .plain (.op 2 .held (.op 3 .plain (.op 4 .plain (.op 5 .held (.op 6 .keeps .nil))))))) (by kernel_rfl) _ (List.Sublist.refl _) ?_
        | simp (dsimp := false) (implicitDefEqProofs := false) (disch := first | assumption | (simp only [List.mem_cons, List.mem_append, true_or, or_true, eq_self]; done) | omega | (with_reducible refine Row.adr (by assumption) ?_; simp only [List.length_map, List.length_take, List.length_drop]; omega) | (simp only [List.length_cons, List.length_nil, List.length_map, List.length_append, List.length_replicate, Nat.reduceAdd, true_and, and_true, and_self]; first | done | omega)) only [go_sem, ↓reduceIte, Nat.reduceEqDiff, Nat.reduceAdd, Nat.reduceSub, Nat.reduceMul, Nat.reduceBEq, Nat.reduceLT, Nat.reduceLeDiff, Nat.reduceMod, Nat.reducePow, List.reduceReplicate, UInt8.reduceOfNat, Int.reducePow, Int.reduceDiv, Int.reduceMod, Nat.reduceDiv, Int.reduceNeg, Int.reduceAdd, Int.reduceSub, Int.reduceMul, Int.reduceLE, Int.reduceLT, Int.reduceEq, Int.reduceToNat, decide_true, decide_false, reduceCtorEq, ne_eq, not_false_eq_true, not_true_eq_false, and_true, true_and, and_self, or_true, true_or, or_false, false_or, or_self, eq_self, Option.isNone_some, Option.isNone_none, Nat.zero_add, Nat.add_zero, Nat.mul_one, Nat.one_mul, Nat.zero_mul, List.length_cons, List.length_nil, List.getElem?_cons_zero, List.getElem?_cons_succ, List.map_cons, List.map_nil, List.append_nil, Row.obj hrow, List.getElem_map]
        | (with_reducible refine rhass_t n f l[k] hn hv ?_)
      · rename_i he
        rw [show l.any (hasE n f) = true from List.any_eq_true.2 ⟨l[k], List.getElem_mem hkl, he⟩] at hR
        all_goals refine Upd.finL ?_ hR ?_
        any_goals (intro fsum; first | exact Nat.le_refl _ | (simp only [List.map_append, List.map_cons, List.map_nil, List.sum_append, List.sum_cons, List.sum_nil, List.cons_append, List.nil_append]; omega))
        rfl
      · rename_i he
        exact Upd.now ⟨q - 1, by omega, k + 1, by omega, rfl, by rw [hany]; simpa using he, rfl, rfl⟩
    · obtain rfl : k = l.length := by omega
      rw [List.take_length] at hno
      rw [hno] at hR
      repeat' first
        | with_reducible refine Br.yes ?_
        | with_reducible refine Br.no ?_
        | with_reducible refine Br.dec (fun _ => ?_) (fun _ => ?_)
        | with_reducible refine Br.beqB (fun _ => ?_) (fun _ => ?_)
        | with_reducible refine Br.beqb (fun _ => ?_) (fun _ => ?_)
        | with_reducible refine Br.mk (fun _ => ?_) (fun _ => ?_)
        | with_reducible refine foundO.mk (fun _ _ => ?_) (fun _ => ?_)
        | with_reducible refine appV.zero ?_
        | with_reducible refine appV.own ?_
        | ((with_reducible refine NewB.mk fun nb hnb => ?_); have hnb1 := hnb.1.1; have hnb2 := hnb.1.2; try simp only [keys_cons, keys_app, keys_nil, NotIn_cons, NotIn_app, NotIn_nil, and_true] at hnb2)
        | ((with_reducible refine NewRow.mk fun nb nsp ncap hnb hncap => ?_); have hnb1 := hnb.1.1; have hnb2 := hnb.1.2; try simp only [keys_cons, keys_app, keys_nil, NotIn_cons, NotIn_app, NotIn_nil, and_true] at hnb2)
        | with_reducible refine Tri.drawM tok mixed [0, 1, 2, 3, 4, 5, 10, 19] 4 [0, 2, 5] (.op 0 .held (.op 1 .plain (.op 2 .held (.op 3 .plain (.op 4 .plain (.op 5 .held (.op 6 .keeps .nil))))))) (by kernel_rfl) _ (List.Sublist.refl _) ?_
        | simp (dsimp := false) (implicitDefEqProofs := false) (disch := first | assumption | (simp only [List.mem_cons, List.mem_append, true_or, or_true, eq_self]; done) | omega | (with_reducible refine Row.adr (by assumption) ?_; simp only [List.length_map, List.length_take, List.length_drop]; omega) | (simp only [List.length_cons, List.length_nil, List.length_map, List.length_append, List.length_replicate, Nat.reduceAdd, true_and, and_true, and_self]; first | done | omega)) only [go_sem, ↓reduceIte, Nat.reduceEqDiff, Nat.reduceAdd, Nat.reduceSub, Nat.reduceMul, Nat.reduceBEq, Nat.reduceLT, Nat.reduceLeDiff, Nat.reduceMod, Nat.reducePow, List.reduceReplicate, UInt8.reduceOfNat, Int.reducePow, Int.reduceDiv, Int.reduceMod, Nat.reduceDiv, Int.reduceNeg, Int.reduceAdd, Int.reduceSub, Int.reduceMul, Int.reduceLE, Int.reduceLT, Int.reduceEq, Int.reduceToNat, decide_true, decide_false, reduceCtorEq, ne_eq, not_false_eq_true, not_true_eq_false, and_true, true_and, and_self, or_true, true_or, or_false, false_or, or_self, eq_self, Option.isNone_some, Option.isNone_none, Nat.zero_add, Nat.add_zero, Nat.mul_one, Nat.one_mul, Nat.zero_mul, List.length_cons, List.length_nil, List.getElem?_cons_zero, List.getElem?_cons_succ, List.map_cons, List.map_nil, List.append_nil]
      all_goals refine Upd.finL ?_ hR ?_
      any_goals (intro fsum; first | exact Nat.le_refl _ | (simp only [List.map_append, List.map_cons, List.map_nil, List.sum_append, List.sum_cons, List.sum_nil, List.cons_append, List.nil_append]; omega))
      rfl
end Go.Proofs.YtagojpdkikcmpaaDoor
