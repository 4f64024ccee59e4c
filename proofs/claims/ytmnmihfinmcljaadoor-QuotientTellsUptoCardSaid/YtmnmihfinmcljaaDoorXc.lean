/- Sets of bytes: contracts. -/
import Derived.Test.YtmnmihfinmcljaaDoorUd
set_option linter.unusedSimpArgs false
set_option linter.unusedVariables false
namespace Go.Proofs.YtmnmihfinmcljaaDoor
open Go Go.V Go.Proofs

theorem and63 {i : Nat} (hi : i < 256) : bitsOp .and .u8 (i : Int) 63 = ((i % 64 : Nat) : Int) := by
  have h := bits_and (k := .u8) (x := (i : Int)) (y := 63) rfl (by omega) (by show (i : Int) < 256; omega) (by decide) (by decide)
  rw [h, Int.toNat_natCast, show (63 : Int).toNat = 2 ^ 6 - 1 from rfl, Nat.and_two_pow_sub_one_eq_mod]
theorem numsU_over4 (f g : Nat → Nat) : splice (numsU 4 f) 0 (numsU 4 g) = numsU 4 g := by
  unfold splice
  rw [List.take_zero, List.nil_append, List.drop_of_length_le (by rw [numsU_len, numsU_len]; omega), List.append_nil]
def oneW (i : Nat) : Nat → Nat := upd (fun _ => 0) (i / 64) (2 ^ (i % 64))
def twoW (f g : Nat → Nat) : Nat → Nat := fun k => f k ||| g k
theorem oneW_lt (i k : Nat) : oneW i k < 18446744073709551616 := by
  have := pow_lt (show i % 64 < 64 by omega)
  simp only [oneW, upd]
  split
  · exact this
  · decide
theorem twoW_lt {f g : Nat → Nat} (hf : ∀ k, f k < 18446744073709551616) (hg : ∀ k, g k < 18446744073709551616) (k : Nat) : twoW f g k < 18446744073709551616 := Nat.or_lt_two_pow (n := 64) (hf k) (hg k)
theorem oneW_mem (i x : Nat) : mem (oneW i) x = decide (x = i) := by
  have := put_mem (fun _ => 0) i x
  rw [mem_none, Bool.false_or, Nat.zero_or] at this
  exact this
theorem twoW_mem (f g : Nat → Nat) (x : Nat) : mem (twoW f g) x = (mem f x || mem g x) := by
  unfold mem twoW; rw [Nat.testBit_or]
set_option maxHeartbeats 8000000 in
theorem sof_t {i : Nat} (hi : i < 256) {b : Nat} {e : TypeId} {G : PHeap} {H : Heap} {R : Value → PHeap → Heap → Prop} (hg : G b = none) (hf : findH H b = some (.cells [.int .u8 (i : Nat)] [] e))
    (hR : R (.agg (numsU 4 (oneW i)).toArray) G H) : FnT Tryd.prog 61 [.slice (some ⟨b, 0, none⟩) 1 1] G H R := by
  have hq : i / 64 < 4 := by omega
  have hjj : i % 64 < 64 := by omega
  have hor : bitsOp .or .u64 ((0 : Nat) : Int) ((2 ^ (i % 64) : Nat) : Int) = ((2 ^ (i % 64) : Nat) : Int) := by
    have := or_word (w := 0) (by decide) (pow_lt hjj)
    rw [Nat.zero_or] at this; exact this
  have hput : splice (numsU 4 (fun _ => 0)) (i / 64) [.int .u64 ((2 ^ (i % 64) : Nat) : Int)] = numsU 4 (oneW i) := numsU_putS hq _
  have hl4 := numsU_len 4 (fun _ => 0)
  have hl5 := numsU_len 4 (oneW i)
  have h63 := and63 hi
  refine FnT.sep ?_
  refine FnT.body tok [0, 2, 3, 5, 6, 7, 8, 9] Tryd.func61 rfl (by kernel_rfl) (by kernel_rfl) (by show _ ≤ 23; simp) fun hsep => ?_
  rw [Tryd.results61]
  have hsE := hsep
  try simp only [keys_cons, keys_app, keys_nil, Sep_cons, Sep_nil, NotIn_cons, NotIn_app, NotIn_nil, List.cons_append, List.nil_append, List.append_assoc, and_assoc, and_true, true_and] at hsE
  repeat (obtain ⟨hsx, hsE⟩ := hsE)
  repeat' first
    | with_reducible refine Br.yes ?_
    | with_reducible refine Br.no ?_
    | with_reducible refine Br.dec (fun _ => ?_) (fun _ => ?_)
    | with_reducible refine Br.beqB (fun _ => ?_) (fun _ => ?_)
    | with_reducible refine Br.beqb (fun _ => ?_) (fun _ => ?_)
    | with_reducible refine Br.mk (fun _ => ?_) (fun _ => ?_)
    | with_reducible refine foundO.mk (fun _ _ => ?_) (fun _ => ?_)
    | with_reducible refine appV.zero ?_
    | with_reducible refine appV.own ?_
    | ((with_reducible refine NewB.mk fun nb hnb => ?_); have hnb1 := hnb.1.1; have hnb2 := hnb.1.2; try simp only [keys_cons, keys_app, keys_nil, NotIn_cons, NotIn_app, NotIn_nil, and_true] at hnb2)
    | ((with_reducible refine NewRow.mk fun nb nsp ncap hnb hncap => ?_); have hnb1 := hnb.1.1; have hnb2 := hnb.1.2; try simp only [keys_cons, keys_app, keys_nil, NotIn_cons, NotIn_app, NotIn_nil, and_true] at hnb2)
    | simp (dsimp := false) (implicitDefEqProofs := false) (disch := first | assumption | (simp only [List.mem_cons, List.mem_append, true_or, or_true, eq_self]; done) | omega | (with_reducible refine Row.adr (by assumption) ?_; simp only [List.length_map, List.length_take, List.length_drop]; omega) | (simp only [List.length_cons, List.length_nil, List.length_map, List.length_append, List.length_replicate, Nat.reduceAdd, true_and, and_true, and_self]; first | done | omega)) only [go_sem, ↓reduceIte, Nat.reduceEqDiff, Nat.reduceAdd, Nat.reduceSub, Nat.reduceMul, Nat.reduceBEq, Nat.reduceLT, Nat.reduceLeDiff, Nat.reduceMod, Nat.reducePow, List.reduceReplicate, UInt8.reduceOfNat, Int.reducePow, Int.reduceDiv, Int.reduceMod, Nat.reduceDiv, Int.reduceNeg, Int.reduceAdd, Int.reduceSub, Int.reduceMul, Int.reduceLE, Int.reduceLT, Int.reduceEq, Int.reduceToNat, reduceCtorEq, -List.reduceReplicate, hf]
  rename_i b1 hb1 hb11 hb12
  have hn1 := NotIn.neFind hb12 hf
  have hn2 := NotIn.neFind hnb2.2 hf
  rw [zero4]
  refine Tri.loopU tok [0, 2, 3, 5, 6, 7, 8, 9] (by kernel_rfl) [2, 3, 6, 7, 8] (fun q G' fr H' => ∃ (j : Nat), j + q = 1 ∧ G' = G ∧ H' = (nb, .cells (numsU 4 (if j = 0 then fun _ => 0 else oneW i)) [] 69) :: (b1, .cells (numsU 4 (fun _ => 0)) [] 69) :: H ∧ fr = [(2, .pointer (some ⟨b1, 0, none⟩)), (3, .pointer (some ⟨nb, 0, none⟩)), (6, .slice (some ⟨b, 0, none⟩) 1 1), (7, .int .i64 1), (8, .int .i64 (j : Nat))]) (1) ?_ ?_
  · exact Upd.now ⟨0, rfl, rfl, rfl, rfl⟩
  · rintro q G1 fr H' hle hs1 ⟨j, hj, rfl, rfl, rfl⟩
    have hsE := hs1
    try simp only [keys_cons, keys_app, keys_nil, Sep_cons, Sep_nil, NotIn_cons, NotIn_app, NotIn_nil, List.cons_append, List.nil_append, List.append_assoc, and_assoc, and_true, true_and] at hsE
    repeat (obtain ⟨hsx, hsE⟩ := hsE)
    by_cases h0 : j = 0
    · subst h0
      repeat' first
        | with_reducible refine Br.yes ?_
        | with_reducible refine Br.no ?_
        | with_reducible refine Br.dec (fun _ => ?_) (fun _ => ?_)
        | with_reducible refine Br.beqB (fun _ => ?_) (fun _ => ?_)
        | with_reducible refine Br.beqb (fun _ => ?_) (fun _ => ?_)
        | with_reducible refine Br.mk (fun _ => ?_) (fun _ => ?_)
        | with_reducible refine foundO.mk (fun _ _ => ?_) (fun _ => ?_)
        | with_reducible refine appV.zero ?_
        | with_reducible refine appV.own ?_
        | ((with_reducible refine NewB.mk fun nb hnb => ?_); have hnb1 := hnb.1.1; have hnb2 := hnb.1.2; try simp only [keys_cons, keys_app, keys_nil, NotIn_cons, NotIn_app, NotIn_nil, and_true] at hnb2)
        | ((with_reducible refine NewRow.mk fun nb nsp ncap hnb hncap => ?_); have hnb1 := hnb.1.1; have hnb2 := hnb.1.2; try simp only [keys_cons, keys_app, keys_nil, NotIn_cons, NotIn_app, NotIn_nil, and_true] at hnb2)
        | simp (dsimp := false) (implicitDefEqProofs := false) (disch := first | assumption | (simp only [List.mem_cons, List.mem_append, true_or, or_true, eq_self]; done) | omega | (with_reducible refine Row.adr (by assumption) ?_; simp only [List.length_map, List.length_take, List.length_drop]; omega) | (simp only [List.length_cons, List.length_nil, List.length_map, List.length_append, List.length_replicate, Nat.reduceAdd, true_and, and_true, and_self]; first | done | omega)) only [go_sem, ↓reduceIte, Nat.reduceEqDiff, Nat.reduceAdd, Nat.reduceSub, Nat.reduceMul, Nat.reduceBEq, Nat.reduceLT, Nat.reduceLeDiff, Nat.reduceMod, Nat.reducePow, List.reduceReplicate, UInt8.reduceOfNat, Int.reducePow, Int.reduceDiv, Int.reduceMod, Nat.reduceDiv, Int.reduceNeg, Int.reduceAdd, Int.reduceSub, Int.reduceMul, Int.reduceLE, Int.reduceLT, Int.reduceEq, Int.reduceToNat, reduceCtorEq, -List.reduceReplicate, hf, hl4, hq, toNat_div64, mod64, shl_one hjj, h63, hor, numsU_at, hput, Int.toNat_natCast]
      exact Upd.now ⟨0, by omega, 1, by omega, rfl, rfl, rfl⟩
    · obtain rfl : j = 1 := by omega
      repeat' first
        | with_reducible refine Br.yes ?_
        | with_reducible refine Br.no ?_
        | with_reducible refine Br.dec (fun _ => ?_) (fun _ => ?_)
        | with_reducible refine Br.beqB (fun _ => ?_) (fun _ => ?_)
        | with_reducible refine Br.beqb (fun _ => ?_) (fun _ => ?_)
        | with_reducible refine Br.mk (fun _ => ?_) (fun _ => ?_)
        | with_reducible refine foundO.mk (fun _ _ => ?_) (fun _ => ?_)
        | with_reducible refine appV.zero ?_
        | with_reducible refine appV.own ?_
        | ((with_reducible refine NewB.mk fun nb hnb => ?_); have hnb1 := hnb.1.1; have hnb2 := hnb.1.2; try simp only [keys_cons, keys_app, keys_nil, NotIn_cons, NotIn_app, NotIn_nil, and_true] at hnb2)
        | ((with_reducible refine NewRow.mk fun nb nsp ncap hnb hncap => ?_); have hnb1 := hnb.1.1; have hnb2 := hnb.1.2; try simp only [keys_cons, keys_app, keys_nil, NotIn_cons, NotIn_app, NotIn_nil, and_true] at hnb2)
        | simp (dsimp := false) (implicitDefEqProofs := false) (disch := first | assumption | (simp only [List.mem_cons, List.mem_append, true_or, or_true, eq_self]; done) | omega | (with_reducible refine Row.adr (by assumption) ?_; simp only [List.length_map, List.length_take, List.length_drop]; omega) | (simp only [List.length_cons, List.length_nil, List.length_map, List.length_append, List.length_replicate, Nat.reduceAdd, true_and, and_true, and_self]; first | done | omega)) only [go_sem, ↓reduceIte, Nat.reduceEqDiff, Nat.reduceAdd, Nat.reduceSub, Nat.reduceMul, Nat.reduceBEq, Nat.reduceLT, Nat.reduceLeDiff, Nat.reduceMod, Nat.reducePow, List.reduceReplicate, UInt8.reduceOfNat, Int.reducePow, Int.reduceDiv, Int.reduceMod, Nat.reduceDiv, Int.reduceNeg, Int.reduceAdd, Int.reduceSub, Int.reduceMul, Int.reduceLE, Int.reduceLT, Int.reduceEq, Int.reduceToNat, reduceCtorEq, -List.reduceReplicate, hf, hl4, hl5, numsU_all, numsU_one, numsU_over4, List.toList_toArray]
      all_goals refine Upd.finL ?_ (fun _ _ => hR) ?_
      any_goals (intro fsum; first | exact Nat.le_refl _ | (simp only [List.map_append, List.map_cons, List.map_nil, List.sum_append, List.sum_cons, List.sum_nil, List.cons_append, List.nil_append]; omega))
      rfl
/-- sets, put together one after the other -/
def uacc (l : List (Nat → Nat)) : Nat → Nat := fun k => l.foldl (fun a f => a ||| f k) 0
def umix (l : List (Nat → Nat)) (j p : Nat) : Nat → Nat := fun k => if k < p then uacc (l.take (j + 1)) k else uacc (l.take j) k
theorem uacc_lt {l : List (Nat → Nat)} (hl : ∀ f ∈ l, ∀ k, f k < 18446744073709551616) (k : Nat) : uacc l k < 18446744073709551616 := by
  unfold uacc
  suffices h : ∀ (l : List (Nat → Nat)) (a : Nat), (∀ f ∈ l, f k < 18446744073709551616) → a < 18446744073709551616 → l.foldl (fun a f => a ||| f k) a < 18446744073709551616 from h l 0 (fun f hf => hl f hf k) (by decide)
  intro l
  induction l with
  | nil => exact fun a _ h => h
  | cons f l ih => exact fun a h1 h2 => ih _ (fun g hg => h1 g (List.mem_cons_of_mem _ hg)) (Nat.or_lt_two_pow (n := 64) h2 (h1 f (List.mem_cons_self ..)))
theorem uacc_snoc (l : List (Nat → Nat)) (f : Nat → Nat) (k : Nat) : uacc (l ++ [f]) k = uacc l k ||| f k := by unfold uacc; rw [List.foldl_append]; rfl
set_option maxHeartbeats 8000000 in
theorem sunion_t {l : List (Nat → Nat)} (hlen : l.length ≤ 1000) (hl : ∀ f ∈ l, ∀ k, f k < 18446744073709551616) {b : Nat} {sp : List Value} {cap : Nat} {e : TypeId} {G : PHeap} {H : Heap} {R : Value → PHeap → Heap → Prop} (hg : G b = none) (hf : findH H b = some (.cells (l.flatMap numsOf) sp e))
    (hR : R (.agg (numsU 4 (uacc l)).toArray) G H) : FnT Tryd.prog 60 [.slice (some ⟨b, 0, none⟩) l.length cap] G H R := by
  have hfl := flatMap_len (enc := numsOf) (m := 4) numsOf_len l
  refine FnT.sep ?_
  refine FnT.body tok [0, 2, 3, 5, 6, 7, 8, 9, 10, 11, 14, 15, 16] Tryd.func60 rfl (by kernel_rfl) (by kernel_rfl) (by show _ ≤ 28; simp) fun hsep => ?_
  rw [Tryd.results60]
  have hsE := hsep
  try simp only [keys_cons, keys_app, keys_nil, Sep_cons, Sep_nil, NotIn_cons, NotIn_app, NotIn_nil, List.cons_append, List.nil_append, List.append_assoc, and_assoc, and_true, true_and] at hsE
  repeat (obtain ⟨hsx, hsE⟩ := hsE)
  repeat' first
    | with_reducible refine Br.yes ?_
    | with_reducible refine Br.no ?_
    | with_reducible refine Br.dec (fun _ => ?_) (fun _ => ?_)
    | with_reducible refine Br.beqB (fun _ => ?_) (fun _ => ?_)
    | with_reducible refine Br.beqb (fun _ => ?_) (fun _ => ?_)
    | with_reducible refine Br.mk (fun _ => ?_) (fun _ => ?_)
    | with_reducible refine foundO.mk (fun _ _ => ?_) (fun _ => ?_)
    | with_reducible refine appV.zero ?_
    | with_reducible refine appV.own ?_
    | ((with_reducible refine NewB.mk fun nb hnb => ?_); have hnb1 := hnb.1.1; have hnb2 := hnb.1.2; try simp only [keys_cons, keys_app, keys_nil, NotIn_cons, NotIn_app, NotIn_nil, and_true] at hnb2)
    | ((with_reducible refine NewRow.mk fun nb nsp ncap hnb hncap => ?_); have hnb1 := hnb.1.1; have hnb2 := hnb.1.2; try simp only [keys_cons, keys_app, keys_nil, NotIn_cons, NotIn_app, NotIn_nil, and_true] at hnb2)
    | simp (dsimp := false) (implicitDefEqProofs := false) (disch := first | assumption | (simp only [List.mem_cons, List.mem_append, true_or, or_true, eq_self]; done) | omega | (with_reducible refine Row.adr (by assumption) ?_; simp only [List.length_map, List.length_take, List.length_drop]; omega) | (simp only [List.length_cons, List.length_nil, List.length_map, List.length_append, List.length_replicate, Nat.reduceAdd, true_and, and_true, and_self]; first | done | omega)) only [go_sem, ↓reduceIte, Nat.reduceEqDiff, Nat.reduceAdd, Nat.reduceSub, Nat.reduceMul, Nat.reduceBEq, Nat.reduceLT, Nat.reduceLeDiff, Nat.reduceMod, Nat.reducePow, List.reduceReplicate, UInt8.reduceOfNat, Int.reducePow, Int.reduceDiv, Int.reduceMod, Nat.reduceDiv, Int.reduceNeg, Int.reduceAdd, Int.reduceSub, Int.reduceMul, Int.reduceLE, Int.reduceLT, Int.reduceEq, Int.reduceToNat, reduceCtorEq, -List.reduceReplicate, hf]
  rename_i b1 hb1 hb11 hb12
  have hn1 := NotIn.neFind hb12 hf
  revert nb
  intro b3 hb3 hb31 hb32
  have hn2 := NotIn.neFind hb32.2 hf
  rw [zero4]
  refine Tri.loopU tok [0, 2, 3, 5, 6, 7, 8, 9, 10, 11, 14, 15, 16] (by kernel_rfl) [2, 3, 8, 9, 10] (fun q G' fr H' => ∃ (j : Nat), j + q = l.length ∧ G' = G ∧ H' = (b3, .cells (numsU 4 (uacc (l.take j))) [] 69) :: (b1, .cells (numsU 4 (fun _ => 0)) [] 69) :: H ∧ fr = [(2, .pointer (some ⟨b1, 0, none⟩)), (3, .pointer (some ⟨b3, 0, none⟩)), (8, .slice (some ⟨b, 0, none⟩) l.length cap), (9, .int .i64 l.length), (10, .int .i64 (j : Nat))]) (l.length) ?_ ?_
  · exact Upd.now ⟨0, by omega, rfl, rfl, rfl⟩
  · rintro q G1 fr H' hle hs1 ⟨j, hj, rfl, rfl, rfl⟩
    have hsE := hs1
    try simp only [keys_cons, keys_app, keys_nil, Sep_cons, Sep_nil, NotIn_cons, NotIn_app, NotIn_nil, List.cons_append, List.nil_append, List.append_assoc, and_assoc, and_true, true_and] at hsE
    repeat (obtain ⟨hsx, hsE⟩ := hsE)
    by_cases hjl : j < l.length
    · have hget := flatMap_get (enc := numsOf) (m := 4) numsOf_len l j hjl
      have hjf := hl _ (List.getElem_mem hjl)
      have htk := List.take_succ_eq_append_getElem hjl
      have hmul : (j + 1) * 4 ≤ l.length * 4 := Nat.mul_le_mul_right _ hjl
      have hget' : List.take 4 (List.drop (j * 4) (l.flatMap numsOf ++ sp)) = numsU 4 l[j] := by
        rw [List.drop_append_of_le_length (by omega), List.take_append_of_le_length (by rw [List.length_drop]; omega)]; exact hget
      have hu1 := uacc_lt (l := l.take j) fun f hf2 => hl f (List.mem_of_mem_take hf2)
      have hl4 := numsU_len 4
      repeat' first
        | with_reducible refine Br.yes ?_
        | with_reducible refine Br.no ?_
        | with_reducible refine Br.dec (fun _ => ?_) (fun _ => ?_)
        | with_reducible refine Br.beqB (fun _ => ?_) (fun _ => ?_)
        | with_reducible refine Br.beqb (fun _ => ?_) (fun _ => ?_)
        | with_reducible refine Br.mk (fun _ => ?_) (fun _ => ?_)
        | with_reducible refine foundO.mk (fun _ _ => ?_) (fun _ => ?_)
        | with_reducible refine appV.zero ?_
        | with_reducible refine appV.own ?_
        | ((with_reducible refine NewB.mk fun nb hnb => ?_); have hnb1 := hnb.1.1; have hnb2 := hnb.1.2; try simp only [keys_cons, keys_app, keys_nil, NotIn_cons, NotIn_app, NotIn_nil, and_true] at hnb2)
        | ((with_reducible refine NewRow.mk fun nb nsp ncap hnb hncap => ?_); have hnb1 := hnb.1.1; have hnb2 := hnb.1.2; try simp only [keys_cons, keys_app, keys_nil, NotIn_cons, NotIn_app, NotIn_nil, and_true] at hnb2)
        | simp (dsimp := false) (implicitDefEqProofs := false) (disch := first | assumption | (simp only [List.mem_cons, List.mem_append, true_or, or_true, eq_self]; done) | omega | (with_reducible refine Row.adr (by assumption) ?_; simp only [List.length_map, List.length_take, List.length_drop]; omega) | (simp only [List.length_cons, List.length_nil, List.length_map, List.length_append, List.length_replicate, Nat.reduceAdd, true_and, and_true, and_self]; first | done | omega)) only [go_sem, ↓reduceIte, Nat.reduceEqDiff, Nat.reduceAdd, Nat.reduceSub, Nat.reduceMul, Nat.reduceBEq, Nat.reduceLT, Nat.reduceLeDiff, Nat.reduceMod, Nat.reducePow, List.reduceReplicate, UInt8.reduceOfNat, Int.reducePow, Int.reduceDiv, Int.reduceMod, Nat.reduceDiv, Int.reduceNeg, Int.reduceAdd, Int.reduceSub, Int.reduceMul, Int.reduceLE, Int.reduceLT, Int.reduceEq, Int.reduceToNat, reduceCtorEq, -List.reduceReplicate, hf, hfl, hget', hl4, numsU_one, numsU_over, numsU_all, List.toList_toArray]
      revert nb
      intro nc hnc hnc1 hnc2
      refine Tri.loopU tok [0, 2, 3, 5, 6, 7, 8, 9, 10, 11, 14, 15, 16] (by kernel_rfl) [2, 3, 8, 9, 10, 14, 15] (fun q2 G' fr H' => ∃ (p : Nat), p + q2 = 4 ∧ G' = G1 ∧ H' = (nc, .cells (numsU 4 l[j]) [] 69) :: (b3, .cells (numsU 4 (umix l j p)) [] 69) :: (b1, .cells (numsU 4 (fun _ => 0)) [] 69) :: H ∧ fr = [(2, .pointer (some ⟨b1, 0, none⟩)), (3, .pointer (some ⟨b3, 0, none⟩)), (8, .slice (some ⟨b, 0, none⟩) l.length cap), (9, .int .i64 l.length), (10, .int .i64 (j : Nat)), (14, .agg (numsU 4 l[j]).toArray), (15, .int .i64 (p : Nat))]) (4) ?_ ?_
      · exact Upd.now ⟨0, by omega, rfl, by rw [show umix l j 0 = uacc (l.take j) from funext fun k => if_neg (by omega)], rfl⟩
      · rintro q2 G2 fr H' hle2 hs2 ⟨p, hp, rfl, rfl, rfl⟩
        have hsE := hs2
        try simp only [keys_cons, keys_app, keys_nil, Sep_cons, Sep_nil, NotIn_cons, NotIn_app, NotIn_nil, List.cons_append, List.nil_append, List.append_assoc, and_assoc, and_true, true_and] at hsE
        repeat (obtain ⟨hsx, hsE⟩ := hsE)
        by_cases hp4 : p < 4
        · have hul : ∀ k, umix l j p k < 18446744073709551616 := fun k => by
            unfold umix; split
            · exact uacc_lt (l := l.take (j + 1)) (fun f hf2 => hl f (List.mem_of_mem_take hf2)) k
            · exact hu1 k
          have hor := or_word (hul p) (hjf p)
          have hget2 : (numsU 4 l[j])[p]? = some (.int .u64 (l[j] p)) := by rw [List.getElem?_eq_getElem (by rw [hl4]; exact hp4), numsU_at]
          have hget3 : (numsU 4 (umix l j p))[p]? = some (.int .u64 (umix l j p p : Nat)) := by rw [List.getElem?_eq_getElem (by rw [hl4]; exact hp4), numsU_at]
          have hput : splice (numsU 4 (umix l j p)) p [.int .u64 ((umix l j p p ||| l[j] p : Nat) : Int)] = numsU 4 (umix l j (p + 1)) := by
            rw [numsU_putS hp4]
            congr 1
            funext k
            unfold upd
            by_cases e : k = p
            · subst e
              rw [if_pos rfl]
              unfold umix
              rw [if_neg (Nat.lt_irrefl _), if_pos (Nat.lt_succ_self _), htk, uacc_snoc]
            · rw [if_neg e]
              unfold umix
              by_cases h : k < p
              · rw [if_pos h, if_pos (by omega)]
              · rw [if_neg h, if_neg (by omega)]
          repeat' first
            | with_reducible refine Br.yes ?_
            | with_reducible refine Br.no ?_
            | with_reducible refine Br.dec (fun _ => ?_) (fun _ => ?_)
            | with_reducible refine Br.beqB (fun _ => ?_) (fun _ => ?_)
            | with_reducible refine Br.beqb (fun _ => ?_) (fun _ => ?_)
            | with_reducible refine Br.mk (fun _ => ?_) (fun _ => ?_)
            | with_reducible refine foundO.mk (fun _ _ => ?_) (fun _ => ?_)
            | with_reducible refine appV.zero ?_
            | with_reducible refine appV.own ?_
            | ((with_reducible refine NewB.mk fun nb hnb => ?_); have hnb1 := hnb.1.1; have hnb2 := hnb.1.2; try simp only [keys_cons, keys_app, keys_nil, NotIn_cons, NotIn_app, NotIn_nil, and_true] at hnb2)
            | ((with_reducible refine NewRow.mk fun nb nsp ncap hnb hncap => ?_); have hnb1 := hnb.1.1; have hnb2 := hnb.1.2; try simp only [keys_cons, keys_app, keys_nil, NotIn_cons, NotIn_app, NotIn_nil, and_true] at hnb2)
            | simp (dsimp := false) (implicitDefEqProofs := false) (disch := first | assumption | (simp only [List.mem_cons, List.mem_append, true_or, or_true, eq_self]; done) | omega | (with_reducible refine Row.adr (by assumption) ?_; simp only [List.length_map, List.length_take, List.length_drop]; omega) | (simp only [List.length_cons, List.length_nil, List.length_map, List.length_append, List.length_replicate, Nat.reduceAdd, true_and, and_true, and_self]; first | done | omega)) only [go_sem, ↓reduceIte, Nat.reduceEqDiff, Nat.reduceAdd, Nat.reduceSub, Nat.reduceMul, Nat.reduceBEq, Nat.reduceLT, Nat.reduceLeDiff, Nat.reduceMod, Nat.reducePow, List.reduceReplicate, UInt8.reduceOfNat, Int.reducePow, Int.reduceDiv, Int.reduceMod, Nat.reduceDiv, Int.reduceNeg, Int.reduceAdd, Int.reduceSub, Int.reduceMul, Int.reduceLE, Int.reduceLT, Int.reduceEq, Int.reduceToNat, reduceCtorEq, -List.reduceReplicate, hf, hl4, hor, hget2, hget3, hput, numsU_at, numsU_one, numsU_over, numsU_all, List.toList_toArray, partL]
          exact Upd.now ⟨q2 - 1, by omega, p + 1, by omega, rfl, rfl, rfl⟩
        · obtain rfl : p = 4 := by omega
          rw [show numsU 4 (umix l j 4) = numsU 4 (uacc (l.take (j + 1))) from List.map_congr_left fun k hk => by rw [List.mem_range] at hk; unfold umix; rw [if_pos hk]]
          repeat' first
            | with_reducible refine Br.yes ?_
            | with_reducible refine Br.no ?_
            | with_reducible refine Br.dec (fun _ => ?_) (fun _ => ?_)
            | with_reducible refine Br.beqB (fun _ => ?_) (fun _ => ?_)
            | with_reducible refine Br.beqb (fun _ => ?_) (fun _ => ?_)
            | with_reducible refine Br.mk (fun _ => ?_) (fun _ => ?_)
            | with_reducible refine foundO.mk (fun _ _ => ?_) (fun _ => ?_)
            | with_reducible refine appV.zero ?_
            | with_reducible refine appV.own ?_
            | ((with_reducible refine NewB.mk fun nb hnb => ?_); have hnb1 := hnb.1.1; have hnb2 := hnb.1.2; try simp only [keys_cons, keys_app, keys_nil, NotIn_cons, NotIn_app, NotIn_nil, and_true] at hnb2)
            | ((with_reducible refine NewRow.mk fun nb nsp ncap hnb hncap => ?_); have hnb1 := hnb.1.1; have hnb2 := hnb.1.2; try simp only [keys_cons, keys_app, keys_nil, NotIn_cons, NotIn_app, NotIn_nil, and_true] at hnb2)
            | simp (dsimp := false) (implicitDefEqProofs := false) (disch := first | assumption | (simp only [List.mem_cons, List.mem_append, true_or, or_true, eq_self]; done) | omega | (with_reducible refine Row.adr (by assumption) ?_; simp only [List.length_map, List.length_take, List.length_drop]; omega) | (simp only [List.length_cons, List.length_nil, List.length_map, List.length_append, List.length_replicate, Nat.reduceAdd, true_and, and_true, and_self]; first | done | omega)) only [go_sem, ↓reduceIte, Nat.reduceEqDiff, Nat.reduceAdd, Nat.reduceSub, Nat.reduceMul, Nat.reduceBEq, Nat.reduceLT, Nat.reduceLeDiff, Nat.reduceMod, Nat.reducePow, List.reduceReplicate, UInt8.reduceOfNat, Int.reducePow, Int.reduceDiv, Int.reduceMod, Nat.reduceDiv, Int.reduceNeg, Int.reduceAdd, Int.reduceSub, Int.reduceMul, Int.reduceLE, Int.reduceLT, Int.reduceEq, Int.reduceToNat, reduceCtorEq, -List.reduceReplicate]
          refine Upd.go (H' := (b3, .cells (numsU 4 (uacc (l.take (j + 1)))) [] 69) :: (b1, .cells (numsU 4 (fun _ => 0)) [] 69) :: H) (by intro fsum; first | exact Nat.le_refl _ | (simp only [List.map_append, List.map_cons, List.map_nil, List.sum_append, List.sum_cons, List.sum_nil, List.cons_append, List.nil_append]; omega)) (Upd.now ⟨q - 1, by omega, j + 1, by omega, rfl, rfl, rfl⟩)
    · obtain rfl : j = l.length := by omega
      repeat' first
        | with_reducible refine Br.yes ?_
        | with_reducible refine Br.no ?_
        | with_reducible refine Br.dec (fun _ => ?_) (fun _ => ?_)
        | with_reducible refine Br.beqB (fun _ => ?_) (fun _ => ?_)
        | with_reducible refine Br.beqb (fun _ => ?_) (fun _ => ?_)
        | with_reducible refine Br.mk (fun _ => ?_) (fun _ => ?_)
        | with_reducible refine foundO.mk (fun _ _ => ?_) (fun _ => ?_)
        | with_reducible refine appV.zero ?_
        | with_reducible refine appV.own ?_
        | ((with_reducible refine NewB.mk fun nb hnb => ?_); have hnb1 := hnb.1.1; have hnb2 := hnb.1.2; try simp only [keys_cons, keys_app, keys_nil, NotIn_cons, NotIn_app, NotIn_nil, and_true] at hnb2)
        | ((with_reducible refine NewRow.mk fun nb nsp ncap hnb hncap => ?_); have hnb1 := hnb.1.1; have hnb2 := hnb.1.2; try simp only [keys_cons, keys_app, keys_nil, NotIn_cons, NotIn_app, NotIn_nil, and_true] at hnb2)
        | simp (dsimp := false) (implicitDefEqProofs := false) (disch := first | assumption | (simp only [List.mem_cons, List.mem_append, true_or, or_true, eq_self]; done) | omega | (with_reducible refine Row.adr (by assumption) ?_; simp only [List.length_map, List.length_take, List.length_drop]; omega) | (simp only [List.length_cons, List.length_nil, List.length_map, List.length_append, List.length_replicate, Nat.reduceAdd, true_and, and_true, and_self]; first | done | omega)) only [go_sem, ↓reduceIte, Nat.reduceEqDiff, Nat.reduceAdd, Nat.reduceSub, Nat.reduceMul, Nat.reduceBEq, Nat.reduceLT, Nat.reduceLeDiff, Nat.reduceMod, Nat.reducePow, List.reduceReplicate, UInt8.reduceOfNat, Int.reducePow, Int.reduceDiv, Int.reduceMod, Nat.reduceDiv, Int.reduceNeg, Int.reduceAdd, Int.reduceSub, Int.reduceMul, Int.reduceLE, Int.reduceLT, Int.reduceEq, Int.reduceToNat, reduceCtorEq, -List.reduceReplicate, hf, numsU_all, numsU_one, numsU_len, numsU_over4, List.toList_toArray, List.take_length]
      all_goals refine Upd.finL ?_ (fun _ _ => hR) ?_
      any_goals (intro fsum; first | exact Nat.le_refl _ | (simp only [List.map_append, List.map_cons, List.map_nil, List.sum_append, List.sum_cons, List.sum_nil, List.cons_append, List.nil_append]; omega))
      rfl
end Go.Proofs.YtmnmihfinmcljaaDoor
