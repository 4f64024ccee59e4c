/- Sets of bits: keys. -/
import Derived.Test.YtagojpdkikcmpaaDoorFg
set_option linter.unusedSimpArgs false
set_option linter.unusedVariables false
namespace Go.Proofs.YtagojpdkikcmpaaDoor
open Go Go.V Go.Proofs

def byteAt (w i : Nat) : UInt8 := UInt8.ofNat (w / 2 ^ (8 * i))
def bytes8 (w : Nat) : List UInt8 := (List.range 8).map (byteAt w)
theorem bytes8_len (w : Nat) : (bytes8 w).length = 8 := by simp [bytes8]
def topW (ws : Nat → Nat) : Nat → Nat
  | 0 => 0
  | t + 1 => if ws t = 0 then topW ws t else t + 1
theorem topW_le (ws : Nat → Nat) : ∀ t, topW ws t ≤ t
  | 0 => Nat.le_refl _
  | t + 1 => by
    unfold topW; split
    · exact Nat.le_succ_of_le (topW_le ws t)
    · exact Nat.le_refl _
def rowB (ws : Nat → Nat) (k : Nat) : List UInt8 := (List.range k).flatMap fun j => bytes8 (ws j)
theorem rowB_len (ws : Nat → Nat) (k : Nat) : (rowB ws k).length = 8 * k := by
  unfold rowB
  induction k with
  | zero => rfl
  | succ k ih => rw [List.range_succ, List.flatMap_append, List.length_append, ih]; simp [bytes8_len]; omega
theorem rowB_succ (ws : Nat → Nat) (k : Nat) : rowB ws (k + 1) = rowB ws k ++ bytes8 (ws k) := by
  unfold rowB; rw [List.range_succ, List.flatMap_append]; simp
def keyB (n : Nat) (ws : Nat → Nat) : List UInt8 := rowB ws (topW ws (nw n))
theorem byte_wrap (w i : Nat) : IntKind.u8.wrap ((w : Int) / 2 ^ (8 * i)) = ((byteAt w i).toNat : Int) := by
  have e : ((w : Int) / 2 ^ (8 * i)) = ((w / 2 ^ (8 * i) : Nat) : Int) := by simp
  rw [e]
  unfold byteAt
  generalize w / 2 ^ (8 * i) = z
  simp only [IntKind.wrap, IntKind.bits, IntKind.signed]
  simp [UInt8.toNat_ofNat']
/-- as far as it is written -/
def partB (ws : Nat → Nat) (k i : Nat) : List UInt8 := rowB ws k ++ (List.range i).map (byteAt (ws k))
theorem partB_len (ws : Nat → Nat) (k i : Nat) : (partB ws k i).length = 8 * k + i := by unfold partB; rw [List.length_append, rowB_len]; simp
theorem partB_succ (ws : Nat → Nat) (k i : Nat) : partB ws k (i + 1) = partB ws k i ++ [byteAt (ws k) i] := by unfold partB; rw [List.range_succ, List.map_append, ← List.append_assoc]; rfl
theorem partB_zero (ws : Nat → Nat) (k : Nat) : partB ws k 0 = rowB ws k := by unfold partB; simp
theorem partB_full (ws : Nat → Nat) (k : Nat) : partB ws k 8 = rowB ws (k + 1) := by rw [rowB_succ]; rfl

set_option maxHeartbeats 8000000 in
theorem key_t {hb : Heap} {bs : Nat} {n : Nat} {ws : Nat → Nat} (ht : TabB hb (.pointer (some ⟨bs, 0, none⟩)) n ws) {G : PHeap} {H : Heap} {R : Value → PHeap → Heap → Prop}
    (hR : R (str (keyB n ws)) G (hb ++ H)) : FnT Tryd.prog 9 [.pointer (some ⟨bs, 0, none⟩)] G (hb ++ H) R := by
  have ht0 := ht
  obtain ⟨hn, hw, hz, bs', bw, cap, sp, e, rfl, hcp⟩ := ht
  cases e
  have hnw : nw n ≤ 16384 := by unfold nw; omega
  have hl := numsU_len (nw n) ws
  refine FnT.body tok [0, 2, 3, 4, 6, 7, 9, 27, 38, 39, 40, 41, 44, 45] Tryd.func9 rfl (by kernel_rfl) (by kernel_rfl) (by show _ ≤ 59; simp) fun hsep => ?_
  rw [Tryd.results9]
  have hsE := hsep
  try simp only [keys_cons, keys_app, keys_nil, Sep_cons, Sep_nil, NotIn_cons, NotIn_app, NotIn_nil, List.cons_append, List.nil_append, List.append_assoc, and_assoc, and_true, true_and] at hsE
  repeat (obtain ⟨hsx, hsE⟩ := hsE)
  repeat' first
    | with_reducible refine Br.yes ?_
    | with_reducible refine Br.no ?_
    | with_reducible refine Br.dec (fun _ => ?_) (fun _ => ?_)
    | with_reducible refine Br.beqB (fun _ => ?_) (fun _ => ?_)
    | with_reducible refine Br.beqb (fun _ => ?_) (fun _ => ?_)
    | with_reducible refine Br.mk (fun _ => ?_) (fun _ => ?_)
    | with_reducible refine foundO.mk (fun _ _ => ?_) (fun _ => ?_)
    | with_reducible refine appV.zero ?_
    | with_reducible refine appV.own ?_
    | ((with_reducible refine NewB.mk fun nb hnb => ?_); have hnb1 := hnb.1.1; have hnb2 := hnb.1.2; try simp only [keys_cons, keys_app, keys_nil, NotIn_cons, NotIn_app, NotIn_nil, and_true] at hnb2)
    | ((with_reducible refine NewRow.mk fun nb nsp ncap hnb hncap => ?_); have hnb1 := hnb.1.1; have hnb2 := hnb.1.2; try simp only [keys_cons, keys_app, keys_nil, NotIn_cons, NotIn_app, NotIn_nil, and_true] at hnb2)
    | simp (dsimp := false) (implicitDefEqProofs := false) (disch := first | assumption | (simp only [List.mem_cons, List.mem_append, true_or, or_true, eq_self]; done) | omega | (with_reducible refine Row.adr (by assumption) ?_; simp only [List.length_map, List.length_take, List.length_drop]; omega) | (simp only [List.length_cons, List.length_nil, List.length_map, List.length_append, List.length_replicate, Nat.reduceAdd, true_and, and_true, and_self]; first | done | omega)) only [go_sem, ↓reduceIte, Nat.reduceEqDiff, Nat.reduceAdd, Nat.reduceSub, Nat.reduceMul, Nat.reduceBEq, Nat.reduceLT, Nat.reduceLeDiff, Nat.reduceMod, Nat.reducePow, List.reduceReplicate, UInt8.reduceOfNat, Int.reducePow, Int.reduceDiv, Int.reduceMod, Nat.reduceDiv, Int.reduceNeg, Int.reduceAdd, Int.reduceSub, Int.reduceMul, Int.reduceLE, Int.reduceLT, Int.reduceEq, Int.reduceToNat, decide_true, decide_false, reduceCtorEq, ne_eq, not_false_eq_true, not_true_eq_false, and_true, true_and, and_self, or_true, true_or, or_false, false_or, or_self, eq_self, Option.isNone_some, Option.isNone_none, Nat.zero_add, Nat.add_zero, Nat.mul_one, Nat.one_mul, Nat.zero_mul, List.length_cons, List.length_nil, List.getElem?_cons_zero, List.getElem?_cons_succ, List.map_cons, List.map_nil, List.append_nil]
  refine Tri.loopU tok [0, 2, 3, 4, 6, 7, 9, 27, 38, 39, 40, 41, 44, 45] (by kernel_rfl) [0, 2, 3] (fun q G' fr H' => ∃ t : Nat, t + 1 = q ∧ t ≤ nw n ∧ topW ws t = topW ws (nw n) ∧ G' = G ∧ H' = (bs, .cells [.int .i64 n, .slice (some ⟨bw, 0, none⟩) (nw n) cap] [] 53) :: (bw, .cells (numsU (nw n) ws) sp 54) :: H ∧ fr = [(0, .pointer (some ⟨bs, 0, none⟩)), (2, str []), (3, .int .i64 t)]) ((nw n + 1)) ?_ ?_
  · exact Upd.now ⟨nw n, rfl, Nat.le_refl _, rfl, rfl, rfl, rfl⟩
  · rintro q G1 fr H' hle hs ⟨t, rfl, htn, htop, rfl, rfl, rfl⟩
    have hsE := hs
    try simp only [keys_cons, keys_app, keys_nil, Sep_cons, Sep_nil, NotIn_cons, NotIn_app, NotIn_nil, List.cons_append, List.nil_append, List.append_assoc, and_assoc, and_true, true_and] at hsE
    repeat (obtain ⟨hsx, hsE⟩ := hsE)
    by_cases hgo : 0 < t ∧ ws (t - 1) = 0
    · have h1 : ((t : Int) - 1).toNat = t - 1 := by omega
      have h2 : t - 1 < nw n := by omega
      have h3 : topW ws (t - 1) = topW ws (nw n) := by
        rw [← htop, show t = (t - 1) + 1 by omega, topW, Nat.add_sub_cancel, if_pos hgo.2]
      repeat' first
        | with_reducible refine Br.yes ?_
        | with_reducible refine Br.no ?_
        | with_reducible refine Br.dec (fun _ => ?_) (fun _ => ?_)
        | with_reducible refine Br.beqB (fun _ => ?_) (fun _ => ?_)
        | with_reducible refine Br.beqb (fun _ => ?_) (fun _ => ?_)
        | with_reducible refine Br.mk (fun _ => ?_) (fun _ => ?_)
        | with_reducible refine foundO.mk (fun _ _ => ?_) (fun _ => ?_)
        | with_reducible refine appV.zero ?_
        | with_reducible refine appV.own ?_
        | ((with_reducible refine NewB.mk fun nb hnb => ?_); have hnb1 := hnb.1.1; have hnb2 := hnb.1.2; try simp only [keys_cons, keys_app, keys_nil, NotIn_cons, NotIn_app, NotIn_nil, and_true] at hnb2)
        | ((with_reducible refine NewRow.mk fun nb nsp ncap hnb hncap => ?_); have hnb1 := hnb.1.1; have hnb2 := hnb.1.2; try simp only [keys_cons, keys_app, keys_nil, NotIn_cons, NotIn_app, NotIn_nil, and_true] at hnb2)
        | simp (dsimp := false) (implicitDefEqProofs := false) (disch := first | assumption | (simp only [List.mem_cons, List.mem_append, true_or, or_true, eq_self]; done) | omega | (with_reducible refine Row.adr (by assumption) ?_; simp only [List.length_map, List.length_take, List.length_drop]; omega) | (simp only [List.length_cons, List.length_nil, List.length_map, List.length_append, List.length_replicate, Nat.reduceAdd, true_and, and_true, and_self]; first | done | omega)) only [go_sem, ↓reduceIte, Nat.reduceEqDiff, Nat.reduceAdd, Nat.reduceSub, Nat.reduceMul, Nat.reduceBEq, Nat.reduceLT, Nat.reduceLeDiff, Nat.reduceMod, Nat.reducePow, List.reduceReplicate, UInt8.reduceOfNat, Int.reducePow, Int.reduceDiv, Int.reduceMod, Nat.reduceDiv, Int.reduceNeg, Int.reduceAdd, Int.reduceSub, Int.reduceMul, Int.reduceLE, Int.reduceLT, Int.reduceEq, Int.reduceToNat, decide_true, decide_false, reduceCtorEq, ne_eq, not_false_eq_true, not_true_eq_false, and_true, true_and, and_self, or_true, true_or, or_false, false_or, or_self, eq_self, Option.isNone_some, Option.isNone_none, Nat.zero_add, Nat.add_zero, Nat.mul_one, Nat.one_mul, Nat.zero_mul, List.length_cons, List.length_nil, List.getElem?_cons_zero, List.getElem?_cons_succ, List.map_cons, List.map_nil, List.append_nil, h1, numsU_get, hgo.2]
      exact Upd.now ⟨t, by omega, t - 1, by omega, by omega, h3, rfl, rfl, by rw [show (t : Int) - 1 = ((t - 1 : Nat) : Int) by omega]; rfl⟩
    · have htt : topW ws t = t := by
        cases t with
        | zero => rfl
        | succ t =>
          have : ¬ ws t = 0 := fun h => hgo ⟨by omega, h⟩
          rw [topW, if_neg this]
      have hk : keyB n ws = rowB ws t := by unfold keyB; rw [← htop, htt]
      rw [hk] at hR
      by_cases ht0' : t = 0
      · subst ht0'
        repeat' first
          | with_reducible refine Br.yes ?_
          | with_reducible refine Br.no ?_
          | with_reducible refine Br.dec (fun _ => ?_) (fun _ => ?_)
          | with_reducible refine Br.beqB (fun _ => ?_) (fun _ => ?_)
          | with_reducible refine Br.beqb (fun _ => ?_) (fun _ => ?_)
          | with_reducible refine Br.mk (fun _ => ?_) (fun _ => ?_)
          | with_reducible refine foundO.mk (fun _ _ => ?_) (fun _ => ?_)
          | with_reducible refine appV.zero ?_
          | with_reducible refine appV.own ?_
          | ((with_reducible refine NewB.mk fun nb hnb => ?_); have hnb1 := hnb.1.1; have hnb2 := hnb.1.2; try simp only [keys_cons, keys_app, keys_nil, NotIn_cons, NotIn_app, NotIn_nil, and_true] at hnb2)
          | ((with_reducible refine NewRow.mk fun nb nsp ncap hnb hncap => ?_); have hnb1 := hnb.1.1; have hnb2 := hnb.1.2; try simp only [keys_cons, keys_app, keys_nil, NotIn_cons, NotIn_app, NotIn_nil, and_true] at hnb2)
          | simp (dsimp := false) (implicitDefEqProofs := false) (disch := first | assumption | (simp only [List.mem_cons, List.mem_append, true_or, or_true, eq_self]; done) | omega | (with_reducible refine Row.adr (by assumption) ?_; simp only [List.length_map, List.length_take, List.length_drop]; omega) | (simp only [List.length_cons, List.length_nil, List.length_map, List.length_append, List.length_replicate, Nat.reduceAdd, true_and, and_true, and_self]; first | done | omega)) only [go_sem, ↓reduceIte, Nat.reduceEqDiff, Nat.reduceAdd, Nat.reduceSub, Nat.reduceMul, Nat.reduceBEq, Nat.reduceLT, Nat.reduceLeDiff, Nat.reduceMod, Nat.reducePow, List.reduceReplicate, UInt8.reduceOfNat, Int.reducePow, Int.reduceDiv, Int.reduceMod, Nat.reduceDiv, Int.reduceNeg, Int.reduceAdd, Int.reduceSub, Int.reduceMul, Int.reduceLE, Int.reduceLT, Int.reduceEq, Int.reduceToNat, decide_true, decide_false, reduceCtorEq, ne_eq, not_false_eq_true, not_true_eq_false, and_true, true_and, and_self, or_true, true_or, or_false, false_or, or_self, eq_self, Option.isNone_some, Option.isNone_none, Nat.zero_add, Nat.add_zero, Nat.mul_one, Nat.one_mul, Nat.zero_mul, List.length_cons, List.length_nil, List.getElem?_cons_zero, List.getElem?_cons_succ, List.map_cons, List.map_nil, List.append_nil]
        refine Tri.loopU tok [0, 2, 3, 4, 6, 7, 9, 27, 38, 39, 40, 41, 44, 45] (by kernel_rfl) [0, 2, 3, 4, 38, 39, 40] (fun q G' fr H' => ∃ (k b c : Nat) (sp' : List Value), k + q = 0 ∧ 8 * k + sp'.length = c ∧ G' = G1 ∧ H' = (b, .cells ((rowB ws k).map byteV) sp' 5) :: (bs, .cells [.int .i64 n, .slice (some ⟨bw, 0, none⟩) (nw n) cap] [] 53) :: (bw, .cells (numsU (nw n) ws) sp 54) :: H ∧ fr = [(0, .pointer (some ⟨bs, 0, none⟩)), (2, str []), (3, .int .i64 (0 : Nat)), (4, .slice (some ⟨b, 0, none⟩) (8 * k) c), (38, .slice (some ⟨bw, 0, none⟩) 0 cap), (39, .int .i64 (0 : Nat)), (40, .int .i64 k)]) (0) ?_ ?_
        · exact Upd.now ⟨0, nb, _, _, by omega, by simp, rfl, rfl, rfl⟩
        · rintro q G2 fr H' hle hs ⟨k, b, c, sp', hk, hc, rfl, rfl, rfl⟩
          have hsE := hs
          try simp only [keys_cons, keys_app, keys_nil, Sep_cons, Sep_nil, NotIn_cons, NotIn_app, NotIn_nil, List.cons_append, List.nil_append, List.append_assoc, and_assoc, and_true, true_and] at hsE
          repeat (obtain ⟨hsx, hsE⟩ := hsE)
          have hrl := rowB_len ws k
          by_cases hkt : k < 0
          · omega
          · obtain rfl : k = 0 := by omega
            repeat' first
              | with_reducible refine Br.yes ?_
              | with_reducible refine Br.no ?_
              | with_reducible refine Br.dec (fun _ => ?_) (fun _ => ?_)
              | with_reducible refine Br.beqB (fun _ => ?_) (fun _ => ?_)
              | with_reducible refine Br.beqb (fun _ => ?_) (fun _ => ?_)
              | with_reducible refine Br.mk (fun _ => ?_) (fun _ => ?_)
              | with_reducible refine foundO.mk (fun _ _ => ?_) (fun _ => ?_)
              | with_reducible refine appV.zero ?_
              | with_reducible refine appV.own ?_
              | ((with_reducible refine NewB.mk fun nb hnb => ?_); have hnb1 := hnb.1.1; have hnb2 := hnb.1.2; try simp only [keys_cons, keys_app, keys_nil, NotIn_cons, NotIn_app, NotIn_nil, and_true] at hnb2)
              | ((with_reducible refine NewRow.mk fun nb nsp ncap hnb hncap => ?_); have hnb1 := hnb.1.1; have hnb2 := hnb.1.2; try simp only [keys_cons, keys_app, keys_nil, NotIn_cons, NotIn_app, NotIn_nil, and_true] at hnb2)
              | simp (dsimp := false) (implicitDefEqProofs := false) (disch := first | assumption | (simp only [List.mem_cons, List.mem_append, true_or, or_true, eq_self]; done) | omega | (with_reducible refine Row.adr (by assumption) ?_; simp only [List.length_map, List.length_take, List.length_drop]; omega) | (simp only [List.length_cons, List.length_nil, List.length_map, List.length_append, List.length_replicate, Nat.reduceAdd, true_and, and_true, and_self]; first | done | omega)) only [go_sem, ↓reduceIte, Nat.reduceEqDiff, Nat.reduceAdd, Nat.reduceSub, Nat.reduceMul, Nat.reduceBEq, Nat.reduceLT, Nat.reduceLeDiff, Nat.reduceMod, Nat.reducePow, List.reduceReplicate, UInt8.reduceOfNat, Int.reducePow, Int.reduceDiv, Int.reduceMod, Nat.reduceDiv, Int.reduceNeg, Int.reduceAdd, Int.reduceSub, Int.reduceMul, Int.reduceLE, Int.reduceLT, Int.reduceEq, Int.reduceToNat, decide_true, decide_false, reduceCtorEq, ne_eq, not_false_eq_true, not_true_eq_false, and_true, true_and, and_self, or_true, true_or, or_false, false_or, or_self, eq_self, Option.isNone_some, Option.isNone_none, Nat.zero_add, Nat.add_zero, Nat.mul_one, Nat.one_mul, Nat.zero_mul, List.length_cons, List.length_nil, List.getElem?_cons_zero, List.getElem?_cons_succ, List.map_cons, List.map_nil, List.append_nil]
            all_goals refine Upd.finL ?_ hR ?_
            any_goals (intro fsum; first | exact Nat.le_refl _ | (simp only [List.map_append, List.map_cons, List.map_nil, List.sum_append, List.sum_cons, List.sum_nil, List.cons_append, List.nil_append]; omega))
            rfl
      · have h1 : ((t : Int) - 1).toNat = t - 1 := by omega
        have h2 : t - 1 < nw n := by omega
        have hne : ¬ ((ws (t - 1) : Nat) : Int) = 0 := fun h => hgo ⟨by omega, by omega⟩
        repeat' first
          | with_reducible refine Br.yes ?_
          | with_reducible refine Br.no ?_
          | with_reducible refine Br.dec (fun _ => ?_) (fun _ => ?_)
          | with_reducible refine Br.beqB (fun _ => ?_) (fun _ => ?_)
          | with_reducible refine Br.beqb (fun _ => ?_) (fun _ => ?_)
          | with_reducible refine Br.mk (fun _ => ?_) (fun _ => ?_)
          | with_reducible refine foundO.mk (fun _ _ => ?_) (fun _ => ?_)
          | with_reducible refine appV.zero ?_
          | with_reducible refine appV.own ?_
          | ((with_reducible refine NewB.mk fun nb hnb => ?_); have hnb1 := hnb.1.1; have hnb2 := hnb.1.2; try simp only [keys_cons, keys_app, keys_nil, NotIn_cons, NotIn_app, NotIn_nil, and_true] at hnb2)
          | ((with_reducible refine NewRow.mk fun nb nsp ncap hnb hncap => ?_); have hnb1 := hnb.1.1; have hnb2 := hnb.1.2; try simp only [keys_cons, keys_app, keys_nil, NotIn_cons, NotIn_app, NotIn_nil, and_true] at hnb2)
          | simp (dsimp := false) (implicitDefEqProofs := false) (disch := first | assumption | (simp only [List.mem_cons, List.mem_append, true_or, or_true, eq_self]; done) | omega | (with_reducible refine Row.adr (by assumption) ?_; simp only [List.length_map, List.length_take, List.length_drop]; omega) | (simp only [List.length_cons, List.length_nil, List.length_map, List.length_append, List.length_replicate, Nat.reduceAdd, true_and, and_true, and_self]; first | done | omega)) only [go_sem, ↓reduceIte, Nat.reduceEqDiff, Nat.reduceAdd, Nat.reduceSub, Nat.reduceMul, Nat.reduceBEq, Nat.reduceLT, Nat.reduceLeDiff, Nat.reduceMod, Nat.reducePow, List.reduceReplicate, UInt8.reduceOfNat, Int.reducePow, Int.reduceDiv, Int.reduceMod, Nat.reduceDiv, Int.reduceNeg, Int.reduceAdd, Int.reduceSub, Int.reduceMul, Int.reduceLE, Int.reduceLT, Int.reduceEq, Int.reduceToNat, decide_true, decide_false, reduceCtorEq, ne_eq, not_false_eq_true, not_true_eq_false, and_true, true_and, and_self, or_true, true_or, or_false, false_or, or_self, eq_self, Option.isNone_some, Option.isNone_none, Nat.zero_add, Nat.add_zero, Nat.mul_one, Nat.one_mul, Nat.zero_mul, List.length_cons, List.length_nil, List.getElem?_cons_zero, List.getElem?_cons_succ, List.map_cons, List.map_nil, List.append_nil, h1, numsU_get]
        refine Tri.loopU tok [0, 2, 3, 4, 6, 7, 9, 27, 38, 39, 40, 41, 44, 45] (by kernel_rfl) [0, 2, 3, 4, 38, 39, 40] (fun q G' fr H' => ∃ (k b c : Nat) (sp' : List Value), k + q = t ∧ 8 * k + sp'.length = c ∧ G' = G1 ∧ H' = (b, .cells ((rowB ws k).map byteV) sp' 5) :: (bs, .cells [.int .i64 n, .slice (some ⟨bw, 0, none⟩) (nw n) cap] [] 53) :: (bw, .cells (numsU (nw n) ws) sp 54) :: H ∧ fr = [(0, .pointer (some ⟨bs, 0, none⟩)), (2, str []), (3, .int .i64 (t : Nat)), (4, .slice (some ⟨b, 0, none⟩) (8 * k) c), (38, .slice (some ⟨bw, 0, none⟩) t cap), (39, .int .i64 (t : Nat)), (40, .int .i64 k)]) (t) ?_ ?_
        · exact Upd.now ⟨0, nb, _, _, by omega, by simp, rfl, rfl, rfl⟩
        · rintro q G2 fr H' hle hs ⟨k, b, c, sp', hk, hc, rfl, rfl, rfl⟩
          have hsE := hs
          try simp only [keys_cons, keys_app, keys_nil, Sep_cons, Sep_nil, NotIn_cons, NotIn_app, NotIn_nil, List.cons_append, List.nil_append, List.append_assoc, and_assoc, and_true, true_and] at hsE
          repeat (obtain ⟨hsx, hsE⟩ := hsE)
          have hrl := rowB_len ws k
          by_cases hkt : k < t
          · have hkn : k < nw n := by omega
            repeat' first
              | with_reducible refine Br.yes ?_
              | with_reducible refine Br.no ?_
              | with_reducible refine Br.dec (fun _ => ?_) (fun _ => ?_)
              | with_reducible refine Br.beqB (fun _ => ?_) (fun _ => ?_)
              | with_reducible refine Br.beqb (fun _ => ?_) (fun _ => ?_)
              | with_reducible refine Br.mk (fun _ => ?_) (fun _ => ?_)
              | with_reducible refine foundO.mk (fun _ _ => ?_) (fun _ => ?_)
              | with_reducible refine appV.zero ?_
              | with_reducible refine appV.own ?_
              | ((with_reducible refine NewB.mk fun nb hnb => ?_); have hnb1 := hnb.1.1; have hnb2 := hnb.1.2; try simp only [keys_cons, keys_app, keys_nil, NotIn_cons, NotIn_app, NotIn_nil, and_true] at hnb2)
              | ((with_reducible refine NewRow.mk fun nb nsp ncap hnb hncap => ?_); have hnb1 := hnb.1.1; have hnb2 := hnb.1.2; try simp only [keys_cons, keys_app, keys_nil, NotIn_cons, NotIn_app, NotIn_nil, and_true] at hnb2)
              | simp (dsimp := false) (implicitDefEqProofs := false) (disch := first | assumption | (simp only [List.mem_cons, List.mem_append, true_or, or_true, eq_self]; done) | omega | (with_reducible refine Row.adr (by assumption) ?_; simp only [List.length_map, List.length_take, List.length_drop]; omega) | (simp only [List.length_cons, List.length_nil, List.length_map, List.length_append, List.length_replicate, Nat.reduceAdd, true_and, and_true, and_self]; first | done | omega)) only [go_sem, ↓reduceIte, Nat.reduceEqDiff, Nat.reduceAdd, Nat.reduceSub, Nat.reduceMul, Nat.reduceBEq, Nat.reduceLT, Nat.reduceLeDiff, Nat.reduceMod, Nat.reducePow, List.reduceReplicate, UInt8.reduceOfNat, Int.reducePow, Int.reduceDiv, Int.reduceMod, Nat.reduceDiv, Int.reduceNeg, Int.reduceAdd, Int.reduceSub, Int.reduceMul, Int.reduceLE, Int.reduceLT, Int.reduceEq, Int.reduceToNat, decide_true, decide_false, reduceCtorEq, ne_eq, not_false_eq_true, not_true_eq_false, and_true, true_and, and_self, or_true, true_or, or_false, false_or, or_self, eq_self, Option.isNone_some, Option.isNone_none, Nat.zero_add, Nat.add_zero, Nat.mul_one, Nat.one_mul, Nat.zero_mul, List.length_cons, List.length_nil, List.getElem?_cons_zero, List.getElem?_cons_succ, List.map_cons, List.map_nil, List.append_nil, numsU_get]
            refine Tri.loopU tok [0, 2, 3, 4, 6, 7, 9, 27, 38, 39, 40, 41, 44, 45] (by kernel_rfl) [0, 2, 3, 4, 6, 38, 39, 40, 44] (fun q2 G' fr H' => ∃ (i b c : Nat) (sp' : List Value), i + q2 = 8 ∧ 8 * k + i + sp'.length = c ∧ G' = G2 ∧ H' = (b, .cells ((partB ws k i).map byteV) sp' 5) :: (bs, .cells [.int .i64 n, .slice (some ⟨bw, 0, none⟩) (nw n) cap] [] 53) :: (bw, .cells (numsU (nw n) ws) sp 54) :: H ∧ fr = [(0, .pointer (some ⟨bs, 0, none⟩)), (2, str []), (3, .int .i64 (t : Nat)), (4, .slice (some ⟨b, 0, none⟩) (8 * k + i) c), (6, .int .u64 (ws k)), (38, .slice (some ⟨bw, 0, none⟩) t cap), (39, .int .i64 (t : Nat)), (40, .int .i64 k), (44, .int .i64 i)]) (8) ?_ ?_
            · exact Upd.now ⟨0, b, c, sp', by omega, hc, rfl, by rw [partB_zero], rfl⟩
            · clear hs
              rintro q2 G3 fr H' hle2 hs2 ⟨i, b, c, sp', hi, hc, rfl, rfl, rfl⟩
              have hsE := hs2
              try simp only [keys_cons, keys_app, keys_nil, Sep_cons, Sep_nil, NotIn_cons, NotIn_app, NotIn_nil, List.cons_append, List.nil_append, List.append_assoc, and_assoc, and_true, true_and] at hsE
              repeat (obtain ⟨hsx, hsE⟩ := hsE)
              have hpl := partB_len ws k i
              have hps := partB_succ ws k i
              by_cases hi8 : i < 8
              · have h8 : (8 * (i : Int)).toNat = 8 * i := by omega
                repeat' first
                  | with_reducible refine Br.yes ?_
                  | with_reducible refine Br.no ?_
                  | with_reducible refine Br.dec (fun _ => ?_) (fun _ => ?_)
                  | with_reducible refine Br.beqB (fun _ => ?_) (fun _ => ?_)
                  | with_reducible refine Br.beqb (fun _ => ?_) (fun _ => ?_)
                  | with_reducible refine Br.mk (fun _ => ?_) (fun _ => ?_)
                  | with_reducible refine foundO.mk (fun _ _ => ?_) (fun _ => ?_)
                  | with_reducible refine appV.zero ?_
                  | with_reducible refine appV.own ?_
                  | ((with_reducible refine NewB.mk fun nb hnb => ?_); have hnb1 := hnb.1.1; have hnb2 := hnb.1.2; try simp only [keys_cons, keys_app, keys_nil, NotIn_cons, NotIn_app, NotIn_nil, and_true] at hnb2)
                  | ((with_reducible refine NewRow.mk fun nb nsp ncap hnb hncap => ?_); have hnb1 := hnb.1.1; have hnb2 := hnb.1.2; try simp only [keys_cons, keys_app, keys_nil, NotIn_cons, NotIn_app, NotIn_nil, and_true] at hnb2)
                  | simp (dsimp := false) (implicitDefEqProofs := false) (disch := first | assumption | (simp only [List.mem_cons, List.mem_append, true_or, or_true, eq_self]; done) | omega | (with_reducible refine Row.adr (by assumption) ?_; simp only [List.length_map, List.length_take, List.length_drop]; omega) | (simp only [List.length_cons, List.length_nil, List.length_map, List.length_append, List.length_replicate, Nat.reduceAdd, true_and, and_true, and_self]; first | done | omega)) only [go_sem, ↓reduceIte, Nat.reduceEqDiff, Nat.reduceAdd, Nat.reduceSub, Nat.reduceMul, Nat.reduceBEq, Nat.reduceLT, Nat.reduceLeDiff, Nat.reduceMod, Nat.reducePow, List.reduceReplicate, UInt8.reduceOfNat, Int.reducePow, Int.reduceDiv, Int.reduceMod, Nat.reduceDiv, Int.reduceNeg, Int.reduceAdd, Int.reduceSub, Int.reduceMul, Int.reduceLE, Int.reduceLT, Int.reduceEq, Int.reduceToNat, decide_true, decide_false, reduceCtorEq, ne_eq, not_false_eq_true, not_true_eq_false, and_true, true_and, and_self, or_true, true_or, or_false, false_or, or_self, eq_self, Option.isNone_some, Option.isNone_none, Nat.zero_add, Nat.add_zero, Nat.mul_one, Nat.one_mul, Nat.zero_mul, List.length_cons, List.length_nil, List.getElem?_cons_zero, List.getElem?_cons_succ, List.map_cons, List.map_nil, List.append_nil, h8, byte_wrap]
                exact Upd.go (H' := (nb, .cells ((partB ws k i).map byteV ++ [.int .u8 (byteAt (ws k) i).toNat]) nsp 5) :: (bs, .cells [.int .i64 n, .slice (some ⟨bw, 0, none⟩) (nw n) cap] [] 53) :: (bw, .cells (numsU (nw n) ws) sp 54) :: H) (by intro fsum; first | exact Nat.le_refl _ | (simp only [List.map_append, List.map_cons, List.map_nil, List.sum_append, List.sum_cons, List.sum_nil, List.cons_append, List.nil_append]; omega)) (Upd.now ⟨q2 - 1, by omega, i + 1, nb, ncap, nsp, by omega, by first | omega | (simp only [List.length_append, List.length_map, List.length_singleton, hpl] at hncap; omega), rfl, by rw [hps, List.map_append]; rfl, rfl⟩)
              · obtain rfl : i = 8 := by omega
                repeat' first
                  | with_reducible refine Br.yes ?_
                  | with_reducible refine Br.no ?_
                  | with_reducible refine Br.dec (fun _ => ?_) (fun _ => ?_)
                  | with_reducible refine Br.beqB (fun _ => ?_) (fun _ => ?_)
                  | with_reducible refine Br.beqb (fun _ => ?_) (fun _ => ?_)
                  | with_reducible refine Br.mk (fun _ => ?_) (fun _ => ?_)
                  | with_reducible refine foundO.mk (fun _ _ => ?_) (fun _ => ?_)
                  | with_reducible refine appV.zero ?_
                  | with_reducible refine appV.own ?_
                  | ((with_reducible refine NewB.mk fun nb hnb => ?_); have hnb1 := hnb.1.1; have hnb2 := hnb.1.2; try simp only [keys_cons, keys_app, keys_nil, NotIn_cons, NotIn_app, NotIn_nil, and_true] at hnb2)
                  | ((with_reducible refine NewRow.mk fun nb nsp ncap hnb hncap => ?_); have hnb1 := hnb.1.1; have hnb2 := hnb.1.2; try simp only [keys_cons, keys_app, keys_nil, NotIn_cons, NotIn_app, NotIn_nil, and_true] at hnb2)
                  | simp (dsimp := false) (implicitDefEqProofs := false) (disch := first | assumption | (simp only [List.mem_cons, List.mem_append, true_or, or_true, eq_self]; done) | omega | (with_reducible refine Row.adr (by assumption) ?_; simp only [List.length_map, List.length_take, List.length_drop]; omega) | (simp only [List.length_cons, List.length_nil, List.length_map, List.length_append, List.length_replicate, Nat.reduceAdd, true_and, and_true, and_self]; first | done | omega)) only [go_sem, ↓reduceIte, Nat.reduceEqDiff, Nat.reduceAdd, Nat.reduceSub, Nat.reduceMul, Nat.reduceBEq, Nat.reduceLT, Nat.reduceLeDiff, Nat.reduceMod, Nat.reducePow, List.reduceReplicate, UInt8.reduceOfNat, Int.reducePow, Int.reduceDiv, Int.reduceMod, Nat.reduceDiv, Int.reduceNeg, Int.reduceAdd, Int.reduceSub, Int.reduceMul, Int.reduceLE, Int.reduceLT, Int.reduceEq, Int.reduceToNat, decide_true, decide_false, reduceCtorEq, ne_eq, not_false_eq_true, not_true_eq_false, and_true, true_and, and_self, or_true, true_or, or_false, false_or, or_self, eq_self, Option.isNone_some, Option.isNone_none, Nat.zero_add, Nat.add_zero, Nat.mul_one, Nat.one_mul, Nat.zero_mul, List.length_cons, List.length_nil, List.getElem?_cons_zero, List.getElem?_cons_succ, List.map_cons, List.map_nil, List.append_nil]
                exact Upd.now ⟨q - 1, by omega, k + 1, b, c, sp', by omega, by omega, rfl, by rw [partB_full], by rw [show 8 * (k + 1) = 8 * k + 8 by omega]; rfl⟩
          · obtain rfl : k = t := by omega
            repeat' first
              | with_reducible refine Br.yes ?_
              | with_reducible refine Br.no ?_
              | with_reducible refine Br.dec (fun _ => ?_) (fun _ => ?_)
              | with_reducible refine Br.beqB (fun _ => ?_) (fun _ => ?_)
              | with_reducible refine Br.beqb (fun _ => ?_) (fun _ => ?_)
              | with_reducible refine Br.mk (fun _ => ?_) (fun _ => ?_)
              | with_reducible refine foundO.mk (fun _ _ => ?_) (fun _ => ?_)
              | with_reducible refine appV.zero ?_
              | with_reducible refine appV.own ?_
              | ((with_reducible refine NewB.mk fun nb hnb => ?_); have hnb1 := hnb.1.1; have hnb2 := hnb.1.2; try simp only [keys_cons, keys_app, keys_nil, NotIn_cons, NotIn_app, NotIn_nil, and_true] at hnb2)
              | ((with_reducible refine NewRow.mk fun nb nsp ncap hnb hncap => ?_); have hnb1 := hnb.1.1; have hnb2 := hnb.1.2; try simp only [keys_cons, keys_app, keys_nil, NotIn_cons, NotIn_app, NotIn_nil, and_true] at hnb2)
              | simp (dsimp := false) (implicitDefEqProofs := false) (disch := first | assumption | (simp only [List.mem_cons, List.mem_append, true_or, or_true, eq_self]; done) | omega | (with_reducible refine Row.adr (by assumption) ?_; simp only [List.length_map, List.length_take, List.length_drop]; omega) | (simp only [List.length_cons, List.length_nil, List.length_map, List.length_append, List.length_replicate, Nat.reduceAdd, true_and, and_true, and_self]; first | done | omega)) only [go_sem, ↓reduceIte, Nat.reduceEqDiff, Nat.reduceAdd, Nat.reduceSub, Nat.reduceMul, Nat.reduceBEq, Nat.reduceLT, Nat.reduceLeDiff, Nat.reduceMod, Nat.reducePow, List.reduceReplicate, UInt8.reduceOfNat, Int.reducePow, Int.reduceDiv, Int.reduceMod, Nat.reduceDiv, Int.reduceNeg, Int.reduceAdd, Int.reduceSub, Int.reduceMul, Int.reduceLE, Int.reduceLT, Int.reduceEq, Int.reduceToNat, decide_true, decide_false, reduceCtorEq, ne_eq, not_false_eq_true, not_true_eq_false, and_true, true_and, and_self, or_true, true_or, or_false, false_or, or_self, eq_self, Option.isNone_some, Option.isNone_none, Nat.zero_add, Nat.add_zero, Nat.mul_one, Nat.one_mul, Nat.zero_mul, List.length_cons, List.length_nil, List.getElem?_cons_zero, List.getElem?_cons_succ, List.map_cons, List.map_nil, List.append_nil]
            all_goals refine Upd.finL ?_ hR ?_
            any_goals (intro fsum; first | exact Nat.le_refl _ | (simp only [List.map_append, List.map_cons, List.map_nil, List.sum_append, List.sum_cons, List.sum_nil, List.cons_append, List.nil_append]; omega))
            rfl
end Go.Proofs.YtagojpdkikcmpaaDoor
