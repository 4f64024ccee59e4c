/- So many times one number: slices.Repeat. -/
import Derived.Test.YtlblohmjikopbaaWc
set_option linter.unusedSimpArgs false
set_option linter.unusedVariables false
namespace Go.Proofs.Ytlblohmjikopbaa
open Go Go.V Go.Proofs

theorem and_word32 {w : Nat} (hw : w < 4294967296) : bitsOp .and .u64 (w : Int) 4294967295 = (w : Int) := by
  unfold bitsOp
  have : (BitVec.ofInt IntKind.u64.bits (w : Int) &&& BitVec.ofInt IntKind.u64.bits 4294967295).toNat = w := by
    show (BitVec.ofInt 64 (w : Int) &&& BitVec.ofInt 64 4294967295).toNat = w
    rw [BitVec.toNat_and]
    have h1 : (BitVec.ofInt 64 (w : Int)).toNat = w := by
      rw [BitVec.toNat_ofInt]; omega
    have h2 : (BitVec.ofInt 64 4294967295).toNat = 2 ^ 32 - 1 := by decide
    rw [h1, h2, Nat.and_two_pow_sub_one_eq_mod]
    exact Nat.mod_eq_of_lt hw
  show IntKind.u64.wrap ((BitVec.ofInt IntKind.u64.bits (w : Int) &&& BitVec.ofInt IntKind.u64.bits 4294967295).toNat : Int) = w
  rw [this]
  unfold IntKind.wrap
  have hb : (IntKind.u64.bits) = 64 := rfl
  simp [hb]
  omega
set_option maxRecDepth 8000 in
theorem mul64_t {n : Nat} (hn : n ≤ 65536) {G : PHeap} {H : Heap} {R : Value → PHeap → Heap → Prop} (hR : R (.tuple #[.int .u64 0, .int .u64 (n : Nat)]) G H) : FnT Try.prog 85 [.int .u64 1, .int .u64 (n : Nat)] G H R := by
  have b1 : bitsOp .and .u64 1 4294967295 = 1 := by decide
  have b2 : bitsOp .and .u64 (n : Int) 4294967295 = (n : Int) := and_word32 (by omega)
  have b3 : bitsOp .and .u64 0 4294967295 = 0 := by decide
  refine FnT.body tok [0, 1, 4, 5, 6, 7, 8, 9, 10, 11, 12, 13] Try.func85 rfl (by kernel_rfl) (by kernel_rfl) (by show _ ≤ 51; simp) fun hsep => ?_
  rw [Try.results85]
  have hsE := hsep
  try simp only [keys_cons, keys_app, keys_nil, Sep_cons, Sep_nil, NotIn_cons, NotIn_app, NotIn_nil, List.cons_append, List.nil_append, List.append_assoc, and_assoc, and_true, true_and] at hsE
  repeat (obtain ⟨hsx, hsE⟩ := hsE)
  have hq : (n : Int) / 4294967296 = 0 := by omega
  have wz : IntKind.u64.wrap 0 = 0 := by decide
  repeat' first
    | with_reducible refine Br.yes ?_
    | with_reducible refine Br.no ?_
    | with_reducible refine Br.dec (fun _ => ?_) (fun _ => ?_)
    | with_reducible refine Br.beqB (fun _ => ?_) (fun _ => ?_)
    | with_reducible refine Br.beqb (fun _ => ?_) (fun _ => ?_)
    | with_reducible refine Br.mk (fun _ => ?_) (fun _ => ?_)
    | with_reducible refine foundO.mk (fun _ _ => ?_) (fun _ => ?_)
    | with_reducible refine appV.zero ?_
    | with_reducible refine appV.own ?_
    | ((with_reducible refine NewB.mk fun nb hnb => ?_); have hnb1 := hnb.1.1; have hnb2 := hnb.1.2; try simp only [keys_cons, keys_app, keys_nil, NotIn_cons, NotIn_app, NotIn_nil, and_true] at hnb2)
    | ((with_reducible refine NewRow.mk fun nb nsp ncap hnb hncap => ?_); have hnb1 := hnb.1.1; have hnb2 := hnb.1.2; try simp only [keys_cons, keys_app, keys_nil, NotIn_cons, NotIn_app, NotIn_nil, and_true] at hnb2)
    | simp (dsimp := false) (implicitDefEqProofs := false) (disch := first | assumption | (simp only [List.mem_cons, List.mem_append, true_or, or_true, eq_self]; done) | omega | (with_reducible refine Row.adr (by assumption) ?_; simp only [List.length_map, List.length_take, List.length_drop]; omega) | (simp only [List.length_cons, List.length_nil, List.length_map, List.length_append, List.length_replicate, Nat.reduceAdd, true_and, and_true, and_self]; first | done | omega)) only [go_sem, ↓reduceIte, Nat.reduceEqDiff, Nat.reduceAdd, Nat.reduceSub, Nat.reduceMul, Nat.reduceBEq, Nat.reduceLT, Nat.reduceLeDiff, Nat.reduceMod, Nat.reducePow, List.reduceReplicate, UInt8.reduceOfNat, Int.reducePow, Int.reduceDiv, Int.reduceMod, Nat.reduceDiv, Int.reduceNeg, Int.reduceAdd, Int.reduceSub, Int.reduceMul, Int.reduceLE, Int.reduceLT, Int.reduceEq, Int.reduceToNat, reduceCtorEq, b1, b2, b3, Int.zero_mul, Int.one_mul, Int.mul_zero, Int.add_zero, Int.zero_add, hq, wz]
  all_goals refine Upd.finL ?_ hR ?_
  any_goals (intro fsum; first | exact Nat.le_refl _ | (simp only [List.map_append, List.map_cons, List.map_nil, List.sum_append, List.sum_cons, List.sum_nil, List.cons_append, List.nil_append]; omega))
  all_goals rfl
theorem mul_t {n : Nat} (hn : n ≤ 65536) {G : PHeap} {H : Heap} {R : Value → PHeap → Heap → Prop} (hR : R (.tuple #[.int .u64 0, .int .u64 (n : Nat)]) G H) : FnT Try.prog 69 [.int .u64 1, .int .u64 (n : Nat)] G H R := by
  refine FnT.body tok [0, 1, 4, 5, 6, 7, 8, 9] Try.func69 rfl (by kernel_rfl) (by kernel_rfl) (by show _ ≤ 30; simp) fun hsep => ?_
  rw [Try.results69]
  have hsE := hsep
  try simp only [keys_cons, keys_app, keys_nil, Sep_cons, Sep_nil, NotIn_cons, NotIn_app, NotIn_nil, List.cons_append, List.nil_append, List.append_assoc, and_assoc, and_true, true_and] at hsE
  repeat (obtain ⟨hsx, hsE⟩ := hsE)
  repeat' first
    | with_reducible refine Br.yes ?_
    | with_reducible refine Br.no ?_
    | with_reducible refine Br.dec (fun _ => ?_) (fun _ => ?_)
    | with_reducible refine Br.beqB (fun _ => ?_) (fun _ => ?_)
    | with_reducible refine Br.beqb (fun _ => ?_) (fun _ => ?_)
    | with_reducible refine Br.mk (fun _ => ?_) (fun _ => ?_)
    | with_reducible refine foundO.mk (fun _ _ => ?_) (fun _ => ?_)
    | with_reducible refine appV.zero ?_
    | with_reducible refine appV.own ?_
    | ((with_reducible refine NewB.mk fun nb hnb => ?_); have hnb1 := hnb.1.1; have hnb2 := hnb.1.2; try simp only [keys_cons, keys_app, keys_nil, NotIn_cons, NotIn_app, NotIn_nil, and_true] at hnb2)
    | ((with_reducible refine NewRow.mk fun nb nsp ncap hnb hncap => ?_); have hnb1 := hnb.1.1; have hnb2 := hnb.1.2; try simp only [keys_cons, keys_app, keys_nil, NotIn_cons, NotIn_app, NotIn_nil, and_true] at hnb2)
    | simp (dsimp := false) (implicitDefEqProofs := false) (disch := first | assumption | (simp only [List.mem_cons, List.mem_append, true_or, or_true, eq_self]; done) | omega | (with_reducible refine Row.adr (by assumption) ?_; simp only [List.length_map, List.length_take, List.length_drop]; omega) | (simp only [List.length_cons, List.length_nil, List.length_map, List.length_append, List.length_replicate, Nat.reduceAdd, true_and, and_true, and_self]; first | done | omega)) only [go_sem, ↓reduceIte, Nat.reduceEqDiff, Nat.reduceAdd, Nat.reduceSub, Nat.reduceMul, Nat.reduceBEq, Nat.reduceLT, Nat.reduceLeDiff, Nat.reduceMod, Nat.reducePow, List.reduceReplicate, UInt8.reduceOfNat, Int.reducePow, Int.reduceDiv, Int.reduceMod, Nat.reduceDiv, Int.reduceNeg, Int.reduceAdd, Int.reduceSub, Int.reduceMul, Int.reduceLE, Int.reduceLT, Int.reduceEq, Int.reduceToNat, reduceCtorEq]
    | with_reducible refine mul64_t hn ?_
  all_goals refine Upd.finL ?_ hR ?_
  any_goals (intro fsum; first | exact Nat.le_refl _ | (simp only [List.map_append, List.map_cons, List.map_nil, List.sum_append, List.sum_cons, List.sum_nil, List.cons_append, List.nil_append]; omega))
  all_goals rfl
/-- so many times a number, and then naught -/
def repQ (n k : Nat) (x : Int) : List Value := List.replicate k (.int .i64 x) ++ List.replicate (n - k) (.int .i64 0)
theorem repQ_len {n k : Nat} (h : k ≤ n) (x : Int) : (repQ n k x).length = n := by simp [repQ]; omega
theorem repQ_zero (n : Nat) (x : Int) : List.replicate n (Value.int .i64 0) = repQ n 0 x := by simp [repQ]
theorem repQ_all (n : Nat) (x : Int) : repQ n n x = List.replicate n (.int .i64 x) := by simp [repQ]
theorem repQ_first {n : Nat} (h : 1 ≤ n) (x : Int) : splice (repQ n 0 x) 0 [.int .i64 x] = repQ n 1 x := by
  obtain ⟨m, rfl⟩ := Nat.exists_eq_add_of_le h
  unfold splice repQ
  rw [show 1 + m - 0 = m + 1 by omega, List.replicate_succ, show 1 + m - 1 = m by omega]
  simp
theorem repQ_more {n k m : Nat} (hk : k ≤ n) (hm : m ≤ k) (hmn : m ≤ n - k) (x : Int) : splice (repQ n k x) k ((repQ n k x).take m) = repQ n (k + m) x := by
  have h1 : (repQ n k x).take m = List.replicate m (.int .i64 x) := by
    unfold repQ
    rw [List.take_append_of_le_length (by simp; exact hm), List.take_replicate, Nat.min_eq_left hm]
  rw [h1]
  unfold splice repQ
  have e1 : (List.replicate k (Value.int .i64 x) ++ List.replicate (n - k) (Value.int .i64 0)).take k = List.replicate k (.int .i64 x) := by
    rw [List.take_append_of_le_length (by simp), List.take_of_length_le (by simp)]
  have e2 : (List.replicate k (Value.int .i64 x) ++ List.replicate (n - k) (Value.int .i64 0)).drop (k + (List.replicate m (Value.int .i64 x)).length) = List.replicate (n - (k + m)) (.int .i64 0) := by
    rw [List.length_replicate, List.drop_append, List.length_replicate, List.drop_of_length_le (by simp), List.nil_append, List.drop_replicate]
    congr 1; omega
  rw [e1, e2, List.replicate_append_replicate]
set_option maxRecDepth 4000 in
set_option maxHeartbeats 8000000 in
theorem repeat_t {x : Int} {n : Nat} (h1 : 1 ≤ n) (hn : n ≤ 65536) {G : PHeap} {H : Heap} {R : Value → PHeap → Heap → Prop} {v : Value} (hv : Sl G (Value.int .i64) v [x])
    (hR : ∀ b, Sep G (b :: keys H) → R (.slice (some ⟨b, 0, none⟩) n n) G ((b, .cells (List.replicate n (.int .i64 x)) [] 3) :: H)) : FnT Try.prog 59 [v, .int .i64 (n : Nat)] G H R := by
  obtain ⟨a, cap, rfl, hrow, hcap⟩ := hv
  have hw : IntKind.u64.wrap (n : Int) = n := by
    unfold IntKind.wrap
    have hb : (IntKind.u64.bits) = 64 := rfl
    simp [hb]
    omega
  refine FnT.body tok [0, 1, 4, 5, 6, 7, 8, 10, 26, 37] Try.func59 rfl (by kernel_rfl) (by kernel_rfl) (by show _ ≤ 48; simp) fun hsep => ?_
  rw [Try.results59]
  have hsE := hsep
  try simp only [keys_cons, keys_app, keys_nil, Sep_cons, Sep_nil, NotIn_cons, NotIn_app, NotIn_nil, List.cons_append, List.nil_append, List.append_assoc, and_assoc, and_true, true_and] at hsE
  repeat (obtain ⟨hsx, hsE⟩ := hsE)
  repeat' first
    | with_reducible refine Br.yes ?_
    | with_reducible refine Br.no ?_
    | with_reducible refine Br.dec (fun _ => ?_) (fun _ => ?_)
    | with_reducible refine Br.beqB (fun _ => ?_) (fun _ => ?_)
    | with_reducible refine Br.beqb (fun _ => ?_) (fun _ => ?_)
    | with_reducible refine Br.mk (fun _ => ?_) (fun _ => ?_)
    | with_reducible refine foundO.mk (fun _ _ => ?_) (fun _ => ?_)
    | with_reducible refine appV.zero ?_
    | with_reducible refine appV.own ?_
    | ((with_reducible refine NewB.mk fun nb hnb => ?_); have hnb1 := hnb.1.1; have hnb2 := hnb.1.2; try simp only [keys_cons, keys_app, keys_nil, NotIn_cons, NotIn_app, NotIn_nil, and_true] at hnb2)
    | ((with_reducible refine NewRow.mk fun nb nsp ncap hnb hncap => ?_); have hnb1 := hnb.1.1; have hnb2 := hnb.1.2; try simp only [keys_cons, keys_app, keys_nil, NotIn_cons, NotIn_app, NotIn_nil, and_true] at hnb2)
    | simp (dsimp := false) (implicitDefEqProofs := false) (disch := first | assumption | (simp only [List.mem_cons, List.mem_append, true_or, or_true, eq_self]; done) | omega | (with_reducible refine Row.adr (by assumption) ?_; simp only [List.length_map, List.length_take, List.length_drop]; omega) | (simp only [List.length_cons, List.length_nil, List.length_map, List.length_append, List.length_replicate, Nat.reduceAdd, true_and, and_true, and_self]; first | done | omega)) only [go_sem, ↓reduceIte, Nat.reduceEqDiff, Nat.reduceAdd, Nat.reduceSub, Nat.reduceMul, Nat.reduceBEq, Nat.reduceLT, Nat.reduceLeDiff, Nat.reduceMod, Nat.reducePow, List.reduceReplicate, UInt8.reduceOfNat, Int.reducePow, Int.reduceDiv, Int.reduceMod, Nat.reduceDiv, Int.reduceNeg, Int.reduceAdd, Int.reduceSub, Int.reduceMul, Int.reduceLE, Int.reduceLT, Int.reduceEq, Int.reduceToNat, reduceCtorEq, hw]
  all_goals try (exfalso; omega)
  refine mul_t hn ?_
  repeat' first
    | with_reducible refine Br.yes ?_
    | with_reducible refine Br.no ?_
    | with_reducible refine Br.dec (fun _ => ?_) (fun _ => ?_)
    | with_reducible refine Br.beqB (fun _ => ?_) (fun _ => ?_)
    | with_reducible refine Br.beqb (fun _ => ?_) (fun _ => ?_)
    | with_reducible refine Br.mk (fun _ => ?_) (fun _ => ?_)
    | with_reducible refine foundO.mk (fun _ _ => ?_) (fun _ => ?_)
    | with_reducible refine appV.zero ?_
    | with_reducible refine appV.own ?_
    | ((with_reducible refine NewB.mk fun nb hnb => ?_); have hnb1 := hnb.1.1; have hnb2 := hnb.1.2; try simp only [keys_cons, keys_app, keys_nil, NotIn_cons, NotIn_app, NotIn_nil, and_true] at hnb2)
    | ((with_reducible refine NewRow.mk fun nb nsp ncap hnb hncap => ?_); have hnb1 := hnb.1.1; have hnb2 := hnb.1.2; try simp only [keys_cons, keys_app, keys_nil, NotIn_cons, NotIn_app, NotIn_nil, and_true] at hnb2)
    | simp (dsimp := false) (implicitDefEqProofs := false) (disch := first | assumption | (simp only [List.mem_cons, List.mem_append, true_or, or_true, eq_self]; done) | omega | (with_reducible refine Row.adr (by assumption) ?_; simp only [List.length_map, List.length_take, List.length_drop]; omega) | (simp only [List.length_cons, List.length_nil, List.length_map, List.length_append, List.length_replicate, Nat.reduceAdd, true_and, and_true, and_self]; first | done | omega)) only [go_sem, ↓reduceIte, Nat.reduceEqDiff, Nat.reduceAdd, Nat.reduceSub, Nat.reduceMul, Nat.reduceBEq, Nat.reduceLT, Nat.reduceLeDiff, Nat.reduceMod, Nat.reducePow, List.reduceReplicate, UInt8.reduceOfNat, Int.reducePow, Int.reduceDiv, Int.reduceMod, Nat.reduceDiv, Int.reduceNeg, Int.reduceAdd, Int.reduceSub, Int.reduceMul, Int.reduceLE, Int.reduceLT, Int.reduceEq, Int.reduceToNat, reduceCtorEq, hw, Nat.sub_self, List.replicate_zero, Row.rdSlAll hrow]
  rw [repQ_zero n x, repQ_first h1, show min 1 n = 1 by omega]
  refine Tri.loopU tok [0, 1, 4, 5, 6, 7, 8, 10, 26, 37] (by kernel_rfl) [4, 7, 8] (fun q G' fr H' => ∃ k : Nat, k + q = n + 1 ∧ 1 ≤ k ∧ k ≤ n ∧ G' = G ∧ H' = (nb, .cells (repQ n k x) [] 3) :: H ∧ fr = [(4, .slice none 0 0), (7, .slice (some ⟨nb, 0, none⟩) n n), (8, .int .i64 (k : Nat))]) (n) ?_ ?_
  · exact Upd.now ⟨1, by omega, Nat.le_refl 1, h1, rfl, rfl, rfl⟩
  · rintro q G1 fr H' hle hs1 ⟨k, hkq, hk1, hkn, rfl, rfl, rfl⟩
    have hsE := hs1
    try simp only [keys_cons, keys_app, keys_nil, Sep_cons, Sep_nil, NotIn_cons, NotIn_app, NotIn_nil, List.cons_append, List.nil_append, List.append_assoc, and_assoc, and_true, true_and] at hsE
    repeat (obtain ⟨hsx, hsE⟩ := hsE)
    have hql := repQ_len (n := n) (k := k) (by omega) x
    by_cases hk : k < n
    · have hsa : subAddr nb 0 k n k = ⟨nb, k, none⟩ := by unfold subAddr; rw [if_neg (by omega), Nat.zero_add]
      have hmore := repQ_more (n := n) (k := k) (m := min k (n - k)) (by omega) (by omega) (by omega) x
      have htl : (List.take (min k (n - k)) (repQ n k x)).length = min k (n - k) := by rw [List.length_take, hql]; omega
      have hone : (List.take (min k (n - k)) (repQ n k x)).all oneV = true := by
        rw [List.all_eq_true]
        intro y hy
        have := List.mem_of_mem_take hy
        unfold repQ at this
        rw [List.mem_append, List.mem_replicate, List.mem_replicate] at this
        rcases this with ⟨_, rfl⟩ | ⟨_, rfl⟩ <;> rfl
      repeat' first
        | with_reducible refine Br.yes ?_
        | with_reducible refine Br.no ?_
        | with_reducible refine Br.dec (fun _ => ?_) (fun _ => ?_)
        | with_reducible refine Br.beqB (fun _ => ?_) (fun _ => ?_)
        | with_reducible refine Br.beqb (fun _ => ?_) (fun _ => ?_)
        | with_reducible refine Br.mk (fun _ => ?_) (fun _ => ?_)
        | with_reducible refine foundO.mk (fun _ _ => ?_) (fun _ => ?_)
        | with_reducible refine appV.zero ?_
        | with_reducible refine appV.own ?_
        | ((with_reducible refine NewB.mk fun nb hnb => ?_); have hnb1 := hnb.1.1; have hnb2 := hnb.1.2; try simp only [keys_cons, keys_app, keys_nil, NotIn_cons, NotIn_app, NotIn_nil, and_true] at hnb2)
        | ((with_reducible refine NewRow.mk fun nb nsp ncap hnb hncap => ?_); have hnb1 := hnb.1.1; have hnb2 := hnb.1.2; try simp only [keys_cons, keys_app, keys_nil, NotIn_cons, NotIn_app, NotIn_nil, and_true] at hnb2)
        | with_reducible refine Tri.drawM tok mixed [0, 1, 4, 5, 6, 7, 8, 10, 26, 37] 9 [] (.op 0 .plain (.op 1 .plain (.op 2 .plain (.op 3 .plain (.op 4 .plain (.op 5 .plain (.op 6 .plain (.op 7 .keeps (.op 8 .plain (.op 9 .plain .nil)))))))))) (by kernel_rfl) [] (List.nil_sublist _) ?_
        | simp (dsimp := false) (implicitDefEqProofs := false) (disch := first | assumption | (simp only [List.mem_cons, List.mem_append, true_or, or_true, eq_self]; done) | omega | (with_reducible refine Row.adr (by assumption) ?_; simp only [List.length_map, List.length_take, List.length_drop]; omega) | (simp only [List.length_cons, List.length_nil, List.length_map, List.length_append, List.length_replicate, Nat.reduceAdd, true_and, and_true, and_self]; first | done | omega)) only [go_sem, ↓reduceIte, Nat.reduceEqDiff, Nat.reduceAdd, Nat.reduceSub, Nat.reduceMul, Nat.reduceBEq, Nat.reduceLT, Nat.reduceLeDiff, Nat.reduceMod, Nat.reducePow, List.reduceReplicate, UInt8.reduceOfNat, Int.reducePow, Int.reduceDiv, Int.reduceMod, Nat.reduceDiv, Int.reduceNeg, Int.reduceAdd, Int.reduceSub, Int.reduceMul, Int.reduceLE, Int.reduceLT, Int.reduceEq, Int.reduceToNat, reduceCtorEq, hsa, Nat.sub_zero, htl, hone, hmore]
      exact Upd.now ⟨q - min k (n - k), by omega, k + min k (n - k), by omega, by omega, by omega, rfl, rfl, rfl⟩
    · obtain rfl : k = n := by omega
      repeat' first
        | with_reducible refine Br.yes ?_
        | with_reducible refine Br.no ?_
        | with_reducible refine Br.dec (fun _ => ?_) (fun _ => ?_)
        | with_reducible refine Br.beqB (fun _ => ?_) (fun _ => ?_)
        | with_reducible refine Br.beqb (fun _ => ?_) (fun _ => ?_)
        | with_reducible refine Br.mk (fun _ => ?_) (fun _ => ?_)
        | with_reducible refine foundO.mk (fun _ _ => ?_) (fun _ => ?_)
        | with_reducible refine appV.zero ?_
        | with_reducible refine appV.own ?_
        | ((with_reducible refine NewB.mk fun nb hnb => ?_); have hnb1 := hnb.1.1; have hnb2 := hnb.1.2; try simp only [keys_cons, keys_app, keys_nil, NotIn_cons, NotIn_app, NotIn_nil, and_true] at hnb2)
        | ((with_reducible refine NewRow.mk fun nb nsp ncap hnb hncap => ?_); have hnb1 := hnb.1.1; have hnb2 := hnb.1.2; try simp only [keys_cons, keys_app, keys_nil, NotIn_cons, NotIn_app, NotIn_nil, and_true] at hnb2)
        | simp (dsimp := false) (implicitDefEqProofs := false) (disch := first | assumption | (simp only [List.mem_cons, List.mem_append, true_or, or_true, eq_self]; done) | omega | (with_reducible refine Row.adr (by assumption) ?_; simp only [List.length_map, List.length_take, List.length_drop]; omega) | (simp only [List.length_cons, List.length_nil, List.length_map, List.length_append, List.length_replicate, Nat.reduceAdd, true_and, and_true, and_self]; first | done | omega)) only [go_sem, ↓reduceIte, Nat.reduceEqDiff, Nat.reduceAdd, Nat.reduceSub, Nat.reduceMul, Nat.reduceBEq, Nat.reduceLT, Nat.reduceLeDiff, Nat.reduceMod, Nat.reducePow, List.reduceReplicate, UInt8.reduceOfNat, Int.reducePow, Int.reduceDiv, Int.reduceMod, Nat.reduceDiv, Int.reduceNeg, Int.reduceAdd, Int.reduceSub, Int.reduceMul, Int.reduceLE, Int.reduceLT, Int.reduceEq, Int.reduceToNat, reduceCtorEq]
      rw [repQ_all]
      unfold UpdR
      exact Upd.now (hR nb hs1)
/-- where numbers stand in a list -/
def atR (n : Nat) (l : List Int) : List Value := (List.range n).map fun t : Nat => .int .i64 (findF l (t : Int))
theorem atR_len (n : Nat) (l : List Int) : (atR n l).length = n := by simp [atR]
theorem atR_get {n : Nat} (l : List Int) {t : Nat} (h : t < n) : (atR n l)[t]? = some (.int .i64 (findF l (t : Int))) := by
  unfold atR; rw [List.getElem?_map, List.getElem?_range h]; rfl
theorem atR_get' {n : Nat} (l : List Int) {t : Nat} (h : t < n) : (atR n l)[t]'(by rw [atR_len]; exact h) = .int .i64 (findF l (t : Int)) := by simp [atR]
theorem findF_nil (x : Int) : findF [] x = -1 := rfl
theorem atR_nil (n : Nat) : List.replicate n (Value.int .i64 (-1)) = atR n [] := by
  apply List.ext_getElem
  · simp [atR]
  · intro i h1 h2; simp [atR, findF_nil]
theorem findF_snoc {l : List Int} {s t : Int} (h : s ∉ l) : findF (l ++ [s]) t = if t = s then (l.length : Int) else findF l t := by
  by_cases e : t = s
  · subst e
    rw [if_pos rfl]
    unfold findF
    rw [place_end h]
  · rw [if_neg e]
    by_cases ht : t ∈ l
    · unfold findF; rw [place_app ht]
    · have h2 : t ∉ l ++ [s] := by
        rw [List.mem_append, List.mem_singleton]
        rintro (h3 | h3)
        · exact ht h3
        · exact e h3
      unfold findF; rw [place_no ht, place_no h2]
theorem atR_put {n : Nat} {l : List Int} {s : Nat} (hs : s < n) (h : (s : Int) ∉ l) : splice (atR n l) s [.int .i64 (l.length : Nat)] = atR n (l ++ [(s : Int)]) := by
  unfold splice
  apply List.ext_getElem
  · simp [atR_len]; omega
  · intro j h1 h2
    rw [atR_len] at h2
    rw [atR_get' _ h2, findF_snoc h]
    have hl : ((atR n l).take s).length = s := by rw [List.length_take, atR_len]; omega
    rcases Nat.lt_trichotomy j s with hj | hj | hj
    · rw [List.getElem_append_left (by rw [List.length_append, hl]; omega), List.getElem_append_left (by omega), List.getElem_take, atR_get' l h2, if_neg (by omega)]
    · subst hj
      rw [List.getElem_append_left (by rw [List.length_append, hl]; simp), List.getElem_append_right (by omega)]
      simp [hl]
    · rw [List.getElem_append_right (by rw [List.length_append, hl]; simp; omega), List.getElem_drop, if_neg (by omega)]
      simp only [List.length_append, hl, List.length_singleton]
      have : (atR n l)[s + 1 + (j - (s + 1))]'(by rw [atR_len]; omega) = (atR n l)[j]'(by rw [atR_len]; exact h2) := by congr 1; omega
      rw [this, atR_get' l h2]
theorem findF_mem {l : List Int} {t : Int} : 0 ≤ findF l t ↔ t ∈ l := by
  constructor
  · intro h
    exact Classical.byContradiction fun hn => by
      unfold findF at h
      rw [place_no hn] at h
      simp at h
  · intro h
    obtain ⟨n, hn⟩ := place_mem h
    unfold findF; rw [hn]; exact Int.natCast_nonneg n
theorem calleeRepeat : V.Callee Try.prog 59 := ⟨_, _, Try.func59, rfl, by kernel_rfl⟩
set_option maxHeartbeats 8000000 in
theorem places_t {n : Nat} (h1 : 1 ≤ n) (hn : n ≤ 65536) {l : List Int} (hl : l.length ≤ 2000000) {G : PHeap} {H : Heap} {R : Value → PHeap → Heap → Prop} {v : Value} (hv : Sl G (Value.int .i64) v l)
    (hR : ∀ G' b, PLe G G' → Sep G' (b :: keys H) → OnceN n l → R (.tuple #[.slice (some ⟨b, 0, none⟩) n n, .bool (decide (l.head? = some 0))]) G' ((b, .cells (atR n l) [] 3) :: H))
    (hR2 : ∀ G', PLe G G' → Sep G' (keys H) → ¬ OnceN n l → R (.tuple #[.slice none 0 0, .bool false]) G' H) : FnT Try.prog 47 [.int .i64 (n : Nat), v] G H R := by
  obtain ⟨a, cap, rfl, hrow, hcap⟩ := hv
  refine FnT.body tok [0, 1, 4, 5, 6, 7, 8, 12, 13, 14, 15, 32] Try.func47 rfl (by kernel_rfl) (by kernel_rfl) (by show _ ≤ 48; simp) fun hsep => ?_
  rw [Try.results47]
  have hsE := hsep
  try simp only [keys_cons, keys_app, keys_nil, Sep_cons, Sep_nil, NotIn_cons, NotIn_app, NotIn_nil, List.cons_append, List.nil_append, List.append_assoc, and_assoc, and_true, true_and] at hsE
  repeat (obtain ⟨hsx, hsE⟩ := hsE)
  repeat' first
    | with_reducible refine Br.yes ?_
    | with_reducible refine Br.no ?_
    | with_reducible refine Br.dec (fun _ => ?_) (fun _ => ?_)
    | with_reducible refine Br.beqB (fun _ => ?_) (fun _ => ?_)
    | with_reducible refine Br.beqb (fun _ => ?_) (fun _ => ?_)
    | with_reducible refine Br.mk (fun _ => ?_) (fun _ => ?_)
    | with_reducible refine foundO.mk (fun _ _ => ?_) (fun _ => ?_)
    | with_reducible refine appV.zero ?_
    | with_reducible refine appV.own ?_
    | ((with_reducible refine NewB.mk fun nb hnb => ?_); have hnb1 := hnb.1.1; have hnb2 := hnb.1.2; try simp only [keys_cons, keys_app, keys_nil, NotIn_cons, NotIn_app, NotIn_nil, and_true] at hnb2)
    | ((with_reducible refine NewRow.mk fun nb nsp ncap hnb hncap => ?_); have hnb1 := hnb.1.1; have hnb2 := hnb.1.2; try simp only [keys_cons, keys_app, keys_nil, NotIn_cons, NotIn_app, NotIn_nil, and_true] at hnb2)
    | simp (dsimp := false) (implicitDefEqProofs := false) (disch := first | assumption | (simp only [List.mem_cons, List.mem_append, true_or, or_true, eq_self]; done) | omega | (with_reducible refine Row.adr (by assumption) ?_; simp only [List.length_map, List.length_take, List.length_drop]; omega) | (simp only [List.length_cons, List.length_nil, List.length_map, List.length_append, List.length_replicate, Nat.reduceAdd, true_and, and_true, and_self]; first | done | omega)) only [go_sem, ↓reduceIte, Nat.reduceEqDiff, Nat.reduceAdd, Nat.reduceSub, Nat.reduceMul, Nat.reduceBEq, Nat.reduceLT, Nat.reduceLeDiff, Nat.reduceMod, Nat.reducePow, List.reduceReplicate, UInt8.reduceOfNat, Int.reducePow, Int.reduceDiv, Int.reduceMod, Nat.reduceDiv, Int.reduceNeg, Int.reduceAdd, Int.reduceSub, Int.reduceMul, Int.reduceLE, Int.reduceLT, Int.reduceEq, Int.reduceToNat, reduceCtorEq, List.replicate_one]
  refine FnT.pre calleeRepeat (Upd.shareRow (by assumption) fun G2 hle2 hs2 hr2 => ?_)
  refine repeat_t (x := -1) h1 hn ⟨some ⟨nb, 0, none⟩, 1, rfl, hr2, Nat.le_refl 1⟩ fun b hb => ?_
  rw [atR_nil]
  have hsE := hb
  try simp only [keys_cons, keys_app, keys_nil, Sep_cons, Sep_nil, NotIn_cons, NotIn_app, NotIn_nil, List.cons_append, List.nil_append, List.append_assoc, and_assoc, and_true, true_and] at hsE
  repeat (obtain ⟨hsx, hsE⟩ := hsE)
  have hrow2 := hrow.mono hle2
  repeat' first
    | with_reducible refine Br.yes ?_
    | with_reducible refine Br.no ?_
    | with_reducible refine Br.dec (fun _ => ?_) (fun _ => ?_)
    | with_reducible refine Br.beqB (fun _ => ?_) (fun _ => ?_)
    | with_reducible refine Br.beqb (fun _ => ?_) (fun _ => ?_)
    | with_reducible refine Br.mk (fun _ => ?_) (fun _ => ?_)
    | with_reducible refine foundO.mk (fun _ _ => ?_) (fun _ => ?_)
    | with_reducible refine appV.zero ?_
    | with_reducible refine appV.own ?_
    | ((with_reducible refine NewB.mk fun nb hnb => ?_); have hnb1 := hnb.1.1; have hnb2 := hnb.1.2; try simp only [keys_cons, keys_app, keys_nil, NotIn_cons, NotIn_app, NotIn_nil, and_true] at hnb2)
    | ((with_reducible refine NewRow.mk fun nb nsp ncap hnb hncap => ?_); have hnb1 := hnb.1.1; have hnb2 := hnb.1.2; try simp only [keys_cons, keys_app, keys_nil, NotIn_cons, NotIn_app, NotIn_nil, and_true] at hnb2)
    | simp (dsimp := false) (implicitDefEqProofs := false) (disch := first | assumption | (simp only [List.mem_cons, List.mem_append, true_or, or_true, eq_self]; done) | omega | (with_reducible refine Row.adr (by assumption) ?_; simp only [List.length_map, List.length_take, List.length_drop]; omega) | (simp only [List.length_cons, List.length_nil, List.length_map, List.length_append, List.length_replicate, Nat.reduceAdd, true_and, and_true, and_self]; first | done | omega)) only [go_sem, ↓reduceIte, Nat.reduceEqDiff, Nat.reduceAdd, Nat.reduceSub, Nat.reduceMul, Nat.reduceBEq, Nat.reduceLT, Nat.reduceLeDiff, Nat.reduceMod, Nat.reducePow, List.reduceReplicate, UInt8.reduceOfNat, Int.reducePow, Int.reduceDiv, Int.reduceMod, Nat.reduceDiv, Int.reduceNeg, Int.reduceAdd, Int.reduceSub, Int.reduceMul, Int.reduceLE, Int.reduceLT, Int.reduceEq, Int.reduceToNat, reduceCtorEq]
  refine Tri.loopU tok [0, 1, 4, 5, 6, 7, 8, 12, 13, 14, 15, 32] (by kernel_rfl) [0, 1, 4, 5, 6, 12, 13, 14] (fun q G' fr H' => ∃ i : Nat, i + q = l.length ∧ OnceN n (l.take i) ∧ G' = G2 ∧ H' = (b, .cells (atR n (l.take i)) [] 3) :: H ∧ fr = [(0, .int .i64 (n : Nat)), (1, .slice a l.length cap), (4, .slice none 0 0), (5, .bool false), (6, .slice (some ⟨b, 0, none⟩) n n), (12, .slice a l.length cap), (13, .int .i64 l.length), (14, .int .i64 (i : Nat))]) (l.length) ?_ ?_
  · refine Upd.now ?_
    exact ⟨0, by omega, ⟨by rw [List.take_zero]; exact List.nodup_nil, fun x hx => by rw [List.take_zero] at hx; cases hx⟩, rfl, by rw [List.take_zero], rfl⟩
  · rintro q G1 fr H' hle hs1 ⟨i, hiq, hO, rfl, rfl, rfl⟩
    have hsE := hs1
    try simp only [keys_cons, keys_app, keys_nil, Sep_cons, Sep_nil, NotIn_cons, NotIn_app, NotIn_nil, List.cons_append, List.nil_append, List.append_assoc, and_assoc, and_true, true_and] at hsE
    repeat (obtain ⟨hsx, hsE⟩ := hsE)
    by_cases hil : i < l.length
    · have had : Adr a := hrow.adr (by rw [List.length_map]; omega)
      have htk := List.take_succ_eq_append_getElem hil
      have htl : (l.take i).length = i := by rw [List.length_take]; omega
      by_cases hbad : l[i] < 0 ∨ (n : Int) ≤ l[i] ∨ l[i] ∈ l.take i
      · have hno : ¬ OnceN n l := fun h => by
          rcases hbad with hb1 | hb1 | hb1
          · have := (h.2 _ (List.getElem_mem hil)).1; omega
          · have := (h.2 _ (List.getElem_mem hil)).2; omega
          · have h2 := h.1.sublist (List.take_sublist (i + 1) l)
            rw [htk, List.nodup_append] at h2
            exact h2.2.2 _ hb1 _ (List.mem_singleton.2 rfl) rfl
        by_cases hr : 0 ≤ l[i] ∧ l[i] < n
        · obtain ⟨s, hs⟩ := Int.eq_ofNat_of_zero_le hr.1
          have hsn : s < n := by omega
          have hmem : l[i] ∈ l.take i := by rcases hbad with hb1 | hb1 | hb1 <;> first | omega | exact hb1
          rw [hs] at hmem
          have hg := atR_get (l.take i) hsn
          have hf := findF_mem.2 hmem
          generalize hfv : findF (l.take i) (s : Int) = fv at *
          repeat' first
            | with_reducible refine Br.yes ?_
            | with_reducible refine Br.no ?_
            | with_reducible refine Br.dec (fun _ => ?_) (fun _ => ?_)
            | with_reducible refine Br.beqB (fun _ => ?_) (fun _ => ?_)
            | with_reducible refine Br.beqb (fun _ => ?_) (fun _ => ?_)
            | with_reducible refine Br.mk (fun _ => ?_) (fun _ => ?_)
            | with_reducible refine foundO.mk (fun _ _ => ?_) (fun _ => ?_)
            | with_reducible refine appV.zero ?_
            | with_reducible refine appV.own ?_
            | ((with_reducible refine NewB.mk fun nb hnb => ?_); have hnb1 := hnb.1.1; have hnb2 := hnb.1.2; try simp only [keys_cons, keys_app, keys_nil, NotIn_cons, NotIn_app, NotIn_nil, and_true] at hnb2)
            | ((with_reducible refine NewRow.mk fun nb nsp ncap hnb hncap => ?_); have hnb1 := hnb.1.1; have hnb2 := hnb.1.2; try simp only [keys_cons, keys_app, keys_nil, NotIn_cons, NotIn_app, NotIn_nil, and_true] at hnb2)
            | simp (dsimp := false) (implicitDefEqProofs := false) (disch := first | assumption | (simp only [List.mem_cons, List.mem_append, true_or, or_true, eq_self]; done) | omega | (with_reducible refine Row.adr (by assumption) ?_; simp only [List.length_map, List.length_take, List.length_drop]; omega) | (simp only [List.length_cons, List.length_nil, List.length_map, List.length_append, List.length_replicate, Nat.reduceAdd, true_and, and_true, and_self]; first | done | omega)) only [go_sem, ↓reduceIte, Nat.reduceEqDiff, Nat.reduceAdd, Nat.reduceSub, Nat.reduceMul, Nat.reduceBEq, Nat.reduceLT, Nat.reduceLeDiff, Nat.reduceMod, Nat.reducePow, List.reduceReplicate, UInt8.reduceOfNat, Int.reducePow, Int.reduceDiv, Int.reduceMod, Nat.reduceDiv, Int.reduceNeg, Int.reduceAdd, Int.reduceSub, Int.reduceMul, Int.reduceLE, Int.reduceLT, Int.reduceEq, Int.reduceToNat, reduceCtorEq, Row.obj hrow2, List.getElem_map, hs, hg]
          all_goals try (exfalso; omega)
          unfold UpdR
          exact Upd.go (H' := H) (by intro fsum; first | exact Nat.le_refl _ | (simp only [List.map_append, List.map_cons, List.map_nil, List.sum_append, List.sum_cons, List.sum_nil, List.cons_append, List.nil_append]; omega)) (Upd.now (hR2 G1 hle2 (by assumption) hno))
        · repeat' first
            | with_reducible refine Br.yes ?_
            | with_reducible refine Br.no ?_
            | with_reducible refine Br.dec (fun _ => ?_) (fun _ => ?_)
            | with_reducible refine Br.beqB (fun _ => ?_) (fun _ => ?_)
            | with_reducible refine Br.beqb (fun _ => ?_) (fun _ => ?_)
            | with_reducible refine Br.mk (fun _ => ?_) (fun _ => ?_)
            | with_reducible refine foundO.mk (fun _ _ => ?_) (fun _ => ?_)
            | with_reducible refine appV.zero ?_
            | with_reducible refine appV.own ?_
            | ((with_reducible refine NewB.mk fun nb hnb => ?_); have hnb1 := hnb.1.1; have hnb2 := hnb.1.2; try simp only [keys_cons, keys_app, keys_nil, NotIn_cons, NotIn_app, NotIn_nil, and_true] at hnb2)
            | ((with_reducible refine NewRow.mk fun nb nsp ncap hnb hncap => ?_); have hnb1 := hnb.1.1; have hnb2 := hnb.1.2; try simp only [keys_cons, keys_app, keys_nil, NotIn_cons, NotIn_app, NotIn_nil, and_true] at hnb2)
            | simp (dsimp := false) (implicitDefEqProofs := false) (disch := first | assumption | (simp only [List.mem_cons, List.mem_append, true_or, or_true, eq_self]; done) | omega | (with_reducible refine Row.adr (by assumption) ?_; simp only [List.length_map, List.length_take, List.length_drop]; omega) | (simp only [List.length_cons, List.length_nil, List.length_map, List.length_append, List.length_replicate, Nat.reduceAdd, true_and, and_true, and_self]; first | done | omega)) only [go_sem, ↓reduceIte, Nat.reduceEqDiff, Nat.reduceAdd, Nat.reduceSub, Nat.reduceMul, Nat.reduceBEq, Nat.reduceLT, Nat.reduceLeDiff, Nat.reduceMod, Nat.reducePow, List.reduceReplicate, UInt8.reduceOfNat, Int.reducePow, Int.reduceDiv, Int.reduceMod, Nat.reduceDiv, Int.reduceNeg, Int.reduceAdd, Int.reduceSub, Int.reduceMul, Int.reduceLE, Int.reduceLT, Int.reduceEq, Int.reduceToNat, reduceCtorEq, Row.obj hrow2, List.getElem_map]
          all_goals try (exfalso; omega)
          all_goals unfold UpdR
          all_goals exact Upd.go (H' := H) (by intro fsum; first | exact Nat.le_refl _ | (simp only [List.map_append, List.map_cons, List.map_nil, List.sum_append, List.sum_cons, List.sum_nil, List.cons_append, List.nil_append]; omega)) (Upd.now (hR2 G1 hle2 (by assumption) hno))
      · have hb1 : 0 ≤ l[i] ∧ l[i] < n := by omega
        have hb2 : l[i] ∉ l.take i := fun h => hbad (.inr (.inr h))
        obtain ⟨s, hs⟩ := Int.eq_ofNat_of_zero_le hb1.1
        have hsn : s < n := by omega
        have hO2 : OnceN n (l.take (i + 1)) := by
          have h3 := hO.add1 hb1
          unfold add1 at h3
          rw [if_neg hb2, ← htk] at h3
          exact h3
        rw [hs] at hb2
        have hg := atR_get (l.take i) hsn
        have hf : findF (l.take i) (s : Int) < 0 := by
          rcases Int.lt_or_le (findF (l.take i) (s : Int)) 0 with h | h
          · exact h
          · exact absurd (findF_mem.1 h) hb2
        have hput := atR_put hsn hb2
        rw [htl, ← hs, ← htk] at hput
        have hal := atR_len n (l.take i)
        generalize hfv : findF (l.take i) (s : Int) = fv at *
        repeat' first
          | with_reducible refine Br.yes ?_
          | with_reducible refine Br.no ?_
          | with_reducible refine Br.dec (fun _ => ?_) (fun _ => ?_)
          | with_reducible refine Br.beqB (fun _ => ?_) (fun _ => ?_)
          | with_reducible refine Br.beqb (fun _ => ?_) (fun _ => ?_)
          | with_reducible refine Br.mk (fun _ => ?_) (fun _ => ?_)
          | with_reducible refine foundO.mk (fun _ _ => ?_) (fun _ => ?_)
          | with_reducible refine appV.zero ?_
          | with_reducible refine appV.own ?_
          | ((with_reducible refine NewB.mk fun nb hnb => ?_); have hnb1 := hnb.1.1; have hnb2 := hnb.1.2; try simp only [keys_cons, keys_app, keys_nil, NotIn_cons, NotIn_app, NotIn_nil, and_true] at hnb2)
          | ((with_reducible refine NewRow.mk fun nb nsp ncap hnb hncap => ?_); have hnb1 := hnb.1.1; have hnb2 := hnb.1.2; try simp only [keys_cons, keys_app, keys_nil, NotIn_cons, NotIn_app, NotIn_nil, and_true] at hnb2)
          | simp (dsimp := false) (implicitDefEqProofs := false) (disch := first | assumption | (simp only [List.mem_cons, List.mem_append, true_or, or_true, eq_self]; done) | omega | (with_reducible refine Row.adr (by assumption) ?_; simp only [List.length_map, List.length_take, List.length_drop]; omega) | (simp only [List.length_cons, List.length_nil, List.length_map, List.length_append, List.length_replicate, Nat.reduceAdd, true_and, and_true, and_self]; first | done | omega)) only [go_sem, ↓reduceIte, Nat.reduceEqDiff, Nat.reduceAdd, Nat.reduceSub, Nat.reduceMul, Nat.reduceBEq, Nat.reduceLT, Nat.reduceLeDiff, Nat.reduceMod, Nat.reducePow, List.reduceReplicate, UInt8.reduceOfNat, Int.reducePow, Int.reduceDiv, Int.reduceMod, Nat.reduceDiv, Int.reduceNeg, Int.reduceAdd, Int.reduceSub, Int.reduceMul, Int.reduceLE, Int.reduceLT, Int.reduceEq, Int.reduceToNat, reduceCtorEq, Row.obj hrow2, List.getElem_map, hs, hg, hput]
        all_goals try (exfalso; omega)
        exact Upd.now ⟨q - 1, by omega, i + 1, by omega, hO2, rfl, rfl, rfl⟩
    · obtain rfl : i = l.length := by omega
      rw [List.take_length] at hO hs1 ⊢
      by_cases hl0 : l.length = 0
      · have hl1 : l = [] := List.eq_nil_of_length_eq_zero hl0
        have hh : decide (l.head? = some 0) = false := by rw [hl1]; rfl
        rw [hh] at hR
        repeat' first
          | with_reducible refine Br.yes ?_
          | with_reducible refine Br.no ?_
          | with_reducible refine Br.dec (fun _ => ?_) (fun _ => ?_)
          | with_reducible refine Br.beqB (fun _ => ?_) (fun _ => ?_)
          | with_reducible refine Br.beqb (fun _ => ?_) (fun _ => ?_)
          | with_reducible refine Br.mk (fun _ => ?_) (fun _ => ?_)
          | with_reducible refine foundO.mk (fun _ _ => ?_) (fun _ => ?_)
          | with_reducible refine appV.zero ?_
          | with_reducible refine appV.own ?_
          | ((with_reducible refine NewB.mk fun nb hnb => ?_); have hnb1 := hnb.1.1; have hnb2 := hnb.1.2; try simp only [keys_cons, keys_app, keys_nil, NotIn_cons, NotIn_app, NotIn_nil, and_true] at hnb2)
          | ((with_reducible refine NewRow.mk fun nb nsp ncap hnb hncap => ?_); have hnb1 := hnb.1.1; have hnb2 := hnb.1.2; try simp only [keys_cons, keys_app, keys_nil, NotIn_cons, NotIn_app, NotIn_nil, and_true] at hnb2)
          | with_reducible refine Tri.drawH tok mixed [0, 1, 4, 5, 6, 7, 8, 12, 13, 14, 15, 32] 9 [7] (.op 0 .plain (.op 1 .plain (.op 2 .plain (.op 3 .plain (.op 4 .plain (.op 5 .plain (.op 6 .plain (.op 7 .held (.op 8 .plain (.op 9 .plain (.op 10 .plain (.op 11 .plain .nil)))))))))))) (by kernel_rfl) [1] ?_
          | simp (dsimp := false) (implicitDefEqProofs := false) (disch := first | assumption | (simp only [List.mem_cons, List.mem_append, true_or, or_true, eq_self]; done) | omega | (with_reducible refine Row.adr (by assumption) ?_; simp only [List.length_map, List.length_take, List.length_drop]; omega) | (simp only [List.length_cons, List.length_nil, List.length_map, List.length_append, List.length_replicate, Nat.reduceAdd, true_and, and_true, and_self]; first | done | omega)) only [go_sem, ↓reduceIte, Nat.reduceEqDiff, Nat.reduceAdd, Nat.reduceSub, Nat.reduceMul, Nat.reduceBEq, Nat.reduceLT, Nat.reduceLeDiff, Nat.reduceMod, Nat.reducePow, List.reduceReplicate, UInt8.reduceOfNat, Int.reducePow, Int.reduceDiv, Int.reduceMod, Nat.reduceDiv, Int.reduceNeg, Int.reduceAdd, Int.reduceSub, Int.reduceMul, Int.reduceLE, Int.reduceLT, Int.reduceEq, Int.reduceToNat, reduceCtorEq]
        all_goals try (exfalso; omega)
        unfold UpdR
        exact Upd.now (hR G1 b hle2 hs1 hO)
      · have h0l : 0 < l.length := by omega
        have had : Adr a := hrow.adr (by rw [List.length_map]; omega)
        have hhd : l.head? = some l[0] := by rw [List.head?_eq_getElem?, List.getElem?_eq_getElem h0l]
        have hh : decide (l.head? = some 0) = decide (l[0] = 0) := by rw [hhd]; simp
        rw [hh] at hR
        have hob : ∀ (H : Heap) (k : Value → Prop), objK G1 H (blk a) (G1 (blk a)) (ofs a) k = k (.int .i64 l[0]) := fun H k => by
          have := Row.obj hrow2 (i := 0) (by rw [List.length_map]; omega) H k
          rw [Nat.add_zero, List.getElem_map] at this
          exact this
        repeat' first
          | with_reducible refine Br.yes ?_
          | with_reducible refine Br.no ?_
          | with_reducible refine Br.dec (fun _ => ?_) (fun _ => ?_)
          | with_reducible refine Br.beqB (fun _ => ?_) (fun _ => ?_)
          | with_reducible refine Br.beqb (fun _ => ?_) (fun _ => ?_)
          | with_reducible refine Br.mk (fun _ => ?_) (fun _ => ?_)
          | with_reducible refine foundO.mk (fun _ _ => ?_) (fun _ => ?_)
          | with_reducible refine appV.zero ?_
          | with_reducible refine appV.own ?_
          | ((with_reducible refine NewB.mk fun nb hnb => ?_); have hnb1 := hnb.1.1; have hnb2 := hnb.1.2; try simp only [keys_cons, keys_app, keys_nil, NotIn_cons, NotIn_app, NotIn_nil, and_true] at hnb2)
          | ((with_reducible refine NewRow.mk fun nb nsp ncap hnb hncap => ?_); have hnb1 := hnb.1.1; have hnb2 := hnb.1.2; try simp only [keys_cons, keys_app, keys_nil, NotIn_cons, NotIn_app, NotIn_nil, and_true] at hnb2)
          | with_reducible refine Tri.drawH tok mixed [0, 1, 4, 5, 6, 7, 8, 12, 13, 14, 15, 32] 9 [7] (.op 0 .plain (.op 1 .plain (.op 2 .plain (.op 3 .plain (.op 4 .plain (.op 5 .plain (.op 6 .plain (.op 7 .held (.op 8 .plain (.op 9 .plain (.op 10 .plain (.op 11 .plain .nil)))))))))))) (by kernel_rfl) [1] ?_
          | simp (dsimp := false) (implicitDefEqProofs := false) (disch := first | assumption | (simp only [List.mem_cons, List.mem_append, true_or, or_true, eq_self]; done) | omega | (with_reducible refine Row.adr (by assumption) ?_; simp only [List.length_map, List.length_take, List.length_drop]; omega) | (simp only [List.length_cons, List.length_nil, List.length_map, List.length_append, List.length_replicate, Nat.reduceAdd, true_and, and_true, and_self]; first | done | omega)) only [go_sem, ↓reduceIte, Nat.reduceEqDiff, Nat.reduceAdd, Nat.reduceSub, Nat.reduceMul, Nat.reduceBEq, Nat.reduceLT, Nat.reduceLeDiff, Nat.reduceMod, Nat.reducePow, List.reduceReplicate, UInt8.reduceOfNat, Int.reducePow, Int.reduceDiv, Int.reduceMod, Nat.reduceDiv, Int.reduceNeg, Int.reduceAdd, Int.reduceSub, Int.reduceMul, Int.reduceLE, Int.reduceLT, Int.reduceEq, Int.reduceToNat, reduceCtorEq, hob]
        all_goals try (exfalso; omega)
        unfold UpdR
        exact Upd.now (hR G1 b hle2 hs1 hO)
end Go.Proofs.Ytlblohmjikopbaa
