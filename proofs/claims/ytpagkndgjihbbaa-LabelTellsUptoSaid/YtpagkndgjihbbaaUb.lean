/- The document's sets of bytes: contracts. -/
import Derived.Test.YtpagkndgjihbbaaUa
set_option linter.unusedSimpArgs false
set_option linter.unusedVariables false
namespace Go.Proofs.Ytpagkndgjihbbaa
open Go Go.V Go.Proofs

theorem numsU_at {n : Nat} {f : Nat → Nat} {i : Nat} (h : i < (numsU n f).length) : (numsU n f)[i] = .int .u64 (f i) := by
  simp [numsU]
theorem numsU_all (n : Nat) (f : Nat → Nat) : List.take n (numsU n f) = numsU n f := List.take_of_length_le (by rw [numsU_len]; exact Nat.le_refl _)
theorem mod64 (c : Nat) : ((c : Int) % 64).toNat = c % 64 := by omega
theorem numsU_over (f : Nat → Nat) (a b c d : Value) : splice [a, b, c, d] 0 (numsU 4 f) = numsU 4 f := by
  unfold splice
  rw [List.take_zero, List.nil_append, List.drop_of_length_le (by rw [numsU_len]; exact Nat.le_refl _), List.append_nil]
theorem numsU_one (n : Nat) (f : Nat → Nat) : (numsU n f).all oneV = true := by unfold numsU; rw [List.all_map]; exact List.all_eq_true.2 fun _ _ => rfl
theorem bhas_t (ws : Nat → Nat) (hw : ∀ k, ws k < 18446744073709551616) (c : Nat) (hc : c < 256) {G : PHeap} {H : Heap} {R : Value → PHeap → Heap → Prop} (hR : R (.bool (mem ws c)) G H) : FnT Try.prog 88 [.agg (numsU 4 ws).toArray, .int .i64 (c : Nat)] G H R := by
  have hl := numsU_len 4 ws
  have hq : c / 64 < 4 := by omega
  have hwk := hw (c / 64)
  refine FnT.body tok [0, 1, 2, 4] Try.func88 rfl (by kernel_rfl) (by kernel_rfl) (by show _ ≤ 15; simp) fun hsep => ?_
  rw [Try.results88]
  have hsE := hsep
  try simp only [keys_cons, keys_app, keys_nil, Sep_cons, Sep_nil, NotIn_cons, NotIn_app, NotIn_nil, List.cons_append, List.nil_append, List.append_assoc, and_assoc, and_true, true_and] at hsE
  repeat (obtain ⟨hsx, hsE⟩ := hsE)
  repeat' first
    | with_reducible refine Br.yes ?_
    | with_reducible refine Br.no ?_
    | with_reducible refine Br.dec (fun _ => ?_) (fun _ => ?_)
    | with_reducible refine Br.beqB (fun _ => ?_) (fun _ => ?_)
    | with_reducible refine Br.beqb (fun _ => ?_) (fun _ => ?_)
    | with_reducible refine Br.mk (fun _ => ?_) (fun _ => ?_)
    | with_reducible refine foundO.mk (fun _ _ => ?_) (fun _ => ?_)
    | with_reducible refine appV.zero ?_
    | with_reducible refine appV.own ?_
    | ((with_reducible refine NewB.mk fun nb hnb => ?_); have hnb1 := hnb.1.1; have hnb2 := hnb.1.2; try simp only [keys_cons, keys_app, keys_nil, NotIn_cons, NotIn_app, NotIn_nil, and_true] at hnb2)
    | ((with_reducible refine NewRow.mk fun nb nsp ncap hnb hncap => ?_); have hnb1 := hnb.1.1; have hnb2 := hnb.1.2; try simp only [keys_cons, keys_app, keys_nil, NotIn_cons, NotIn_app, NotIn_nil, and_true] at hnb2)
    | simp (dsimp := false) (implicitDefEqProofs := false) (disch := first | assumption | (simp only [List.mem_cons, List.mem_append, true_or, or_true, eq_self]; done) | omega | (with_reducible refine Row.adr (by assumption) ?_; simp only [List.length_map, List.length_take, List.length_drop]; omega) | (simp only [List.length_cons, List.length_nil, List.length_map, List.length_append, List.length_replicate, Nat.reduceAdd, true_and, and_true, and_self]; first | done | omega)) only [go_sem, ↓reduceIte, Nat.reduceEqDiff, Nat.reduceAdd, Nat.reduceSub, Nat.reduceMul, Nat.reduceBEq, Nat.reduceLT, Nat.reduceLeDiff, Nat.reduceMod, Nat.reducePow, List.reduceReplicate, UInt8.reduceOfNat, Int.reducePow, Int.reduceDiv, Int.reduceMod, Nat.reduceDiv, Int.reduceNeg, Int.reduceAdd, Int.reduceSub, Int.reduceMul, Int.reduceLE, Int.reduceLT, Int.reduceEq, Int.reduceToNat, reduceCtorEq, -List.reduceReplicate, List.toList_toArray, hl, numsU_at, toNat_div64, mod64]
  all_goals refine Upd.finL ?_ hR ?_
  any_goals (intro fsum; first | exact Nat.le_refl _ | (simp only [List.map_append, List.map_cons, List.map_nil, List.sum_append, List.sum_cons, List.sum_nil, List.cons_append, List.nil_append]; omega))
  rw [bit_and hwk]
  rfl
theorem bwith_t (ws : Nat → Nat) (hw : ∀ k, ws k < 18446744073709551616) (c : Nat) (hc : c < 256) {G : PHeap} {H : Heap} {R : Value → PHeap → Heap → Prop} (hR : R (.agg (numsU 4 (upd ws (c / 64) (ws (c / 64) ||| 2 ^ (c % 64)))).toArray) G H) : FnT Try.prog 89 [.agg (numsU 4 ws).toArray, .int .i64 (c : Nat)] G H R := by
  have hl := numsU_len 4 ws
  have hq : c / 64 < 4 := by omega
  have hwk := hw (c / 64)
  have hjj : c % 64 < 64 := by omega
  have hl' := fun f => numsU_len 4 f
  refine FnT.body tok [0, 1, 2, 4] Try.func89 rfl (by kernel_rfl) (by kernel_rfl) (by show _ ≤ 18; simp) fun hsep => ?_
  rw [Try.results89]
  have hsE := hsep
  try simp only [keys_cons, keys_app, keys_nil, Sep_cons, Sep_nil, NotIn_cons, NotIn_app, NotIn_nil, List.cons_append, List.nil_append, List.append_assoc, and_assoc, and_true, true_and] at hsE
  repeat (obtain ⟨hsx, hsE⟩ := hsE)
  repeat' first
    | with_reducible refine Br.yes ?_
    | with_reducible refine Br.no ?_
    | with_reducible refine Br.dec (fun _ => ?_) (fun _ => ?_)
    | with_reducible refine Br.beqB (fun _ => ?_) (fun _ => ?_)
    | with_reducible refine Br.beqb (fun _ => ?_) (fun _ => ?_)
    | with_reducible refine Br.mk (fun _ => ?_) (fun _ => ?_)
    | with_reducible refine foundO.mk (fun _ _ => ?_) (fun _ => ?_)
    | with_reducible refine appV.zero ?_
    | with_reducible refine appV.own ?_
    | ((with_reducible refine NewB.mk fun nb hnb => ?_); have hnb1 := hnb.1.1; have hnb2 := hnb.1.2; try simp only [keys_cons, keys_app, keys_nil, NotIn_cons, NotIn_app, NotIn_nil, and_true] at hnb2)
    | ((with_reducible refine NewRow.mk fun nb nsp ncap hnb hncap => ?_); have hnb1 := hnb.1.1; have hnb2 := hnb.1.2; try simp only [keys_cons, keys_app, keys_nil, NotIn_cons, NotIn_app, NotIn_nil, and_true] at hnb2)
    | simp (dsimp := false) (implicitDefEqProofs := false) (disch := first | assumption | (simp only [List.mem_cons, List.mem_append, true_or, or_true, eq_self]; done) | omega | (with_reducible refine Row.adr (by assumption) ?_; simp only [List.length_map, List.length_take, List.length_drop]; omega) | (simp only [List.length_cons, List.length_nil, List.length_map, List.length_append, List.length_replicate, Nat.reduceAdd, true_and, and_true, and_self]; first | done | omega)) only [go_sem, ↓reduceIte, Nat.reduceEqDiff, Nat.reduceAdd, Nat.reduceSub, Nat.reduceMul, Nat.reduceBEq, Nat.reduceLT, Nat.reduceLeDiff, Nat.reduceMod, Nat.reducePow, List.reduceReplicate, UInt8.reduceOfNat, Int.reducePow, Int.reduceDiv, Int.reduceMod, Nat.reduceDiv, Int.reduceNeg, Int.reduceAdd, Int.reduceSub, Int.reduceMul, Int.reduceLE, Int.reduceLT, Int.reduceEq, Int.reduceToNat, reduceCtorEq, -List.reduceReplicate, List.toList_toArray, hl, hl', numsU_at, toNat_div64, mod64, shl_one hjj, or_word hwk (pow_lt hjj), numsU_putS, numsU_all, numsU_over, numsU_one]
  all_goals refine Upd.finL ?_ hR ?_
  any_goals (intro fsum; first | exact Nat.le_refl _ | (simp only [List.map_append, List.map_cons, List.map_nil, List.sum_append, List.sum_cons, List.sum_nil, List.cons_append, List.nil_append]; omega))
  rfl
end Go.Proofs.Ytpagkndgjihbbaa
