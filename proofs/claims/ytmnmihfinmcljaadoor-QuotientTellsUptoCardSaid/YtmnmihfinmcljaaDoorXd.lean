/- The numbers of a set of bytes, one behind the other; the least of them. -/
import Derived.Test.YtmnmihfinmcljaaDoorXc
set_option linter.unusedSimpArgs false
set_option linter.unusedVariables false
namespace Go.Proofs.YtmnmihfinmcljaaDoor
open Go Go.V Go.Proofs

theorem low_bit (w : Nat) : 0 < w → ∃ t, w.testBit t = true ∧ (∀ j, j < t → w.testBit j = false) ∧ (∀ j, (w &&& (w - 1)).testBit j = (w.testBit j && decide (j ≠ t))) ∧ ∀ N, w < 2 ^ N → w &&& (2 ^ N - w) = 2 ^ t := by
  induction w using Nat.strongRecOn with
  | _ w ih =>
    intro hw
    by_cases ho : w % 2 = 1
    · refine ⟨0, by rw [Nat.testBit_zero]; simpa using ho, fun j hj => absurd hj (Nat.not_lt_zero _), fun j => ?_, fun N hN => ?_⟩
      · cases j with
        | zero => rw [Nat.testBit_and, Nat.testBit_zero, Nat.testBit_zero]; simp; omega
        | succ j => rw [Nat.testBit_and, Nat.testBit_succ, Nat.testBit_succ, show (w - 1) / 2 = w / 2 by omega]; simp
      · cases N with
        | zero => omega
        | succ M =>
          have hp : 2 ^ (M + 1) = 2 * 2 ^ M := by rw [Nat.pow_succ]; omega
          apply Nat.eq_of_testBit_eq
          intro j
          cases j with
          | zero => rw [Nat.testBit_and, Nat.testBit_zero, Nat.testBit_zero]; simp; omega
          | succ j =>
            rw [Nat.testBit_and, Nat.testBit_succ, Nat.testBit_succ, show (2 ^ (M + 1) - w) / 2 = 2 ^ M - (w / 2 + 1) by omega, Nat.testBit_two_pow_sub_succ (by omega)]
            have : (2 ^ 0 : Nat).testBit (j + 1) = false := by rw [Nat.testBit_succ]; simp
            rw [this]
            cases (w / 2).testBit j <;> simp
    · obtain ⟨t, h1, h2, h3, h4⟩ := ih (w / 2) (by omega) (by omega)
      refine ⟨t + 1, by rw [Nat.testBit_succ]; exact h1, fun j hj => ?_, fun j => ?_, fun N hN => ?_⟩
      · cases j with
        | zero => rw [Nat.testBit_zero]; simpa using ho
        | succ j => rw [Nat.testBit_succ]; exact h2 j (by omega)
      · cases j with
        | zero => rw [Nat.testBit_and, Nat.testBit_zero]; simp [ho]
        | succ j =>
          have := h3 j
          rw [Nat.testBit_and] at this ⊢
          rw [Nat.testBit_succ, Nat.testBit_succ, show (w - 1) / 2 = w / 2 - 1 by omega, this]
          congr 1
          rw [decide_eq_decide]; omega
      · cases N with
        | zero => omega
        | succ M =>
          have hp : 2 ^ (M + 1) = 2 * 2 ^ M := by rw [Nat.pow_succ]; omega
          apply Nat.eq_of_testBit_eq
          intro j
          cases j with
          | zero =>
            rw [Nat.testBit_and, Nat.testBit_zero, Nat.testBit_zero]
            have : 2 ^ (t + 1) % 2 = 0 := by rw [Nat.pow_succ]; omega
            simp [ho, this]
          | succ j =>
            have := h4 M (by omega)
            rw [Nat.testBit_and, Nat.testBit_succ, Nat.testBit_succ, show (2 ^ (M + 1) - w) / 2 = 2 ^ M - w / 2 by omega, ← Nat.testBit_and, this, Nat.testBit_succ, show 2 ^ (t + 1) / 2 = 2 ^ t by rw [Nat.pow_succ]; omega]

def tabL : List Nat := [0, 1, 56, 2, 57, 49, 28, 3, 61, 58, 42, 50, 38, 29, 17, 4, 62, 47, 59, 36, 45, 43, 51, 22, 53, 39, 33, 30, 24, 18, 12, 5, 63, 55, 48, 27, 60, 41, 37, 16, 46, 35, 44, 21, 52, 32, 23, 11, 54, 26, 40, 15, 34, 20, 31, 10, 25, 14, 19, 9, 13, 8, 7, 6]
theorem tab_ok : ∀ t : Fin 64, tabL[(2 ^ t.val * 285870213051353865 % 18446744073709551616) / 288230376151711744]? = some t.val := by decide +kernel
theorem bit_lt {w t : Nat} (h : w < 18446744073709551616) (ht : w.testBit t = true) : t < 64 := by
  rcases Nat.lt_or_ge t 64 with h1 | h1
  · exact h1
  · rw [Nat.testBit_lt_two_pow (Nat.lt_of_lt_of_le (show w < 2 ^ 64 from h) (Nat.pow_le_pow_right (by decide) h1))] at ht
    cases ht
/-- the table of the library's -/
def tabV : List Value := tabL.map fun x => Value.int .u8 (x : Nat)
def HasTab (G : PHeap) : Prop := RowAt G 0 0 tabV
theorem HasTab.mono {G G' : PHeap} (h : HasTab G) (hle : PLe G G') : HasTab G' := by
  obtain ⟨c, e, fr, h1, h2, h3⟩ := h
  exact ⟨c, e, fr, hle _ _ h1, h2, h3⟩

theorem tz_t (w t : Nat) (hw : w < 18446744073709551616) (h0 : 0 < w) (ht : t < 64) (hb : w &&& (2 ^ 64 - w) = 2 ^ t) {G : PHeap} {H : Heap} {R : Value → PHeap → Heap → Prop} (hg : HasTab G)
    (hR : R (.int .i64 t) G H) : FnT Tryd.prog 66 [.int .u64 w] G H R := by
  obtain ⟨q, hq⟩ : ∃ q, q = 2 ^ t * 285870213051353865 % 18446744073709551616 / 288230376151711744 := ⟨_, rfl⟩
  have htab := tab_ok ⟨t, ht⟩
  simp only [] at htab
  rw [← hq] at htab
  obtain ⟨hq64, hqv⟩ := List.getElem?_eq_some_iff.1 htab
  have hq2 : q < 64 := hq64
  have hneg : IntKind.u64.wrap (0 - (w : Int)) = ((18446744073709551616 - w : Nat) : Int) := by
    simp only [IntKind.wrap, IntKind.bits, IntKind.signed]; simp; omega
  have hb2 : w &&& (18446744073709551616 - w) = 2 ^ t := hb
  have hx : IntKind.u64.wrap (((2 ^ t : Nat) : Int) * 285870213051353865) / 288230376151711744 = (q : Int) := by
    rw [hq]
    generalize 2 ^ t = z
    simp only [IntKind.wrap, IntKind.bits, IntKind.signed]
    simp
  have hvl : tabV.length = 64 := rfl
  have hget : tabV[q]'(by rw [hvl]; exact hq2) = .int .u8 (t : Nat) := by
    unfold tabV
    rw [List.getElem_map, hqv]
  have hw0 : (w : Int) ≠ 0 := by omega
  refine FnT.body tok [0, 2, 4] Tryd.func66 rfl (by kernel_rfl) (by kernel_rfl) (by show _ ≤ 14; simp) fun hsep => ?_
  rw [Tryd.results66]
  have hsE := hsep
  try simp only [keys_cons, keys_app, keys_nil, Sep_cons, Sep_nil, NotIn_cons, NotIn_app, NotIn_nil, List.cons_append, List.nil_append, List.append_assoc, and_assoc, and_true, true_and] at hsE
  repeat (obtain ⟨hsx, hsE⟩ := hsE)
  repeat' first
    | with_reducible refine Br.yes ?_
    | with_reducible refine Br.no ?_
    | with_reducible refine Br.dec (fun _ => ?_) (fun _ => ?_)
    | with_reducible refine Br.beqB (fun _ => ?_) (fun _ => ?_)
    | with_reducible refine Br.beqb (fun _ => ?_) (fun _ => ?_)
    | with_reducible refine Br.mk (fun _ => ?_) (fun _ => ?_)
    | with_reducible refine foundO.mk (fun _ _ => ?_) (fun _ => ?_)
    | with_reducible refine appV.zero ?_
    | with_reducible refine appV.own ?_
    | ((with_reducible refine NewB.mk fun nb hnb => ?_); have hnb1 := hnb.1.1; have hnb2 := hnb.1.2; try simp only [keys_cons, keys_app, keys_nil, NotIn_cons, NotIn_app, NotIn_nil, and_true] at hnb2)
    | ((with_reducible refine NewRow.mk fun nb nsp ncap hnb hncap => ?_); have hnb1 := hnb.1.1; have hnb2 := hnb.1.2; try simp only [keys_cons, keys_app, keys_nil, NotIn_cons, NotIn_app, NotIn_nil, and_true] at hnb2)
    | simp (dsimp := false) (implicitDefEqProofs := false) (disch := first | assumption | (simp only [List.mem_cons, List.mem_append, true_or, or_true, eq_self]; done) | omega | (with_reducible refine Row.adr (by assumption) ?_; simp only [List.length_map, List.length_take, List.length_drop]; omega) | (simp only [List.length_cons, List.length_nil, List.length_map, List.length_append, List.length_replicate, Nat.reduceAdd, true_and, and_true, and_self]; first | done | omega)) only [go_sem, ↓reduceIte, Nat.reduceEqDiff, Nat.reduceAdd, Nat.reduceSub, Nat.reduceMul, Nat.reduceBEq, Nat.reduceLT, Nat.reduceLeDiff, Nat.reduceMod, Nat.reducePow, List.reduceReplicate, UInt8.reduceOfNat, Int.reducePow, Int.reduceDiv, Int.reduceMod, Nat.reduceDiv, Int.reduceNeg, Int.reduceAdd, Int.reduceSub, Int.reduceMul, Int.reduceLE, Int.reduceLT, Int.reduceEq, Int.reduceToNat, reduceCtorEq, hneg, hb2, hx, RowAt.obj0 hg, hget, hvl]
  all_goals refine Upd.finL ?_ hR ?_
  any_goals (intro fsum; first | exact Nat.le_refl _ | (simp only [List.map_append, List.map_cons, List.map_nil, List.sum_append, List.sum_cons, List.sum_nil, List.cons_append, List.nil_append]; omega))
  rfl

/-- a set's numbers, rising -/
def elems (n : Nat) (ws : Nat → Nat) : List Nat := (List.range n).filter (mem ws)
theorem elems_skip {ws : Nat → Nat} {a : Nat} : ∀ {b : Nat}, a ≤ b → (∀ i, a ≤ i → i < b → mem ws i = false) → elems b ws = elems a ws
  | b, hab, h => by
    unfold elems
    obtain ⟨d, rfl⟩ := Nat.exists_eq_add_of_le hab
    clear hab
    induction d with
    | zero => rfl
    | succ d ih =>
      rw [show a + (d + 1) = (a + d) + 1 by omega, List.range_succ, List.filter_append, ih fun i h1 h2 => h i h1 (by omega)]
      simp [h (a + d) (by omega) (by omega)]
theorem elems_len (n : Nat) (ws : Nat → Nat) : (elems n ws).length ≤ n := by
  have := List.length_filter_le (mem ws) (List.range n)
  rwa [List.length_range] at this
theorem elems_hit {ws : Nat → Nat} {a : Nat} (h : mem ws a = true) : elems (a + 1) ws = elems a ws ++ [a] := by
  unfold elems; rw [List.range_succ, List.filter_append]; simp [h]

set_option maxHeartbeats 8000000 in
theorem seach1_t (lr bx : Nat) {ws : Nat → Nat} (hw : ∀ k, ws k < 18446744073709551616) {G : PHeap} {HC : Heap} {R : Value → PHeap → Heap → Prop} (hg : HasTab G)
    (J Jx : List Nat → PHeap → Heap → Prop)
    (hY : ∀ x G1 H1, PLe G G1 → Sep G1 (keys ((bx, Res.cells (numsU 4 ws) [] 69) :: H1)) → J (elems x ws) G1 H1 → x < 256 → mem ws x = true → YldT Tryd.prog lr [.int .u8 (x : Nat)] G1 ((bx, .cells (numsU 4 ws) [] 69) :: H1) fun v G2 H2 => ∃ H3, H2 = (bx, .cells (numsU 4 ws) [] 69) :: H3 ∧ ((v = .bool true ∧ J (elems x ws ++ [x]) G2 H3) ∨ (v = .bool false ∧ Jx (elems x ws ++ [x]) G2 H3)))
    (h0 : J [] G HC)
    (hR : ∀ G' H', PLe G G' → Sep G' (keys ((bx, Res.cells (numsU 4 ws) [] 69) :: H')) → (J (elems 256 ws) G' H' ∨ ∃ pre, Jx pre G' H') → R (.tuple #[]) G' ((bx, .cells (numsU 4 ws) [] 69) :: H')) :
    FnT Tryd.prog 65 [.func (.yield lr) #[] #[], .pointer (some ⟨bx, 0, none⟩)] G ((bx, .cells (numsU 4 ws) [] 69) :: HC) R := by
  have hl := numsU_len 4 ws
  refine FnT.body tok [0, 1, 3, 4, 5, 6, 7, 11, 24] Tryd.func65 rfl (by kernel_rfl) (by kernel_rfl) (by show _ ≤ 26; simp) fun hsep => ?_
  rw [Tryd.results65]
  have hsE := hsep
  try simp only [keys_cons, keys_app, keys_nil, Sep_cons, Sep_nil, NotIn_cons, NotIn_app, NotIn_nil, List.cons_append, List.nil_append, List.append_assoc, and_assoc, and_true, true_and] at hsE
  repeat (obtain ⟨hsx, hsE⟩ := hsE)
  repeat' first
    | with_reducible refine Br.yes ?_
    | with_reducible refine Br.no ?_
    | with_reducible refine Br.dec (fun _ => ?_) (fun _ => ?_)
    | with_reducible refine Br.beqB (fun _ => ?_) (fun _ => ?_)
    | with_reducible refine Br.beqb (fun _ => ?_) (fun _ => ?_)
    | with_reducible refine Br.mk (fun _ => ?_) (fun _ => ?_)
    | with_reducible refine foundO.mk (fun _ _ => ?_) (fun _ => ?_)
    | with_reducible refine appV.zero ?_
    | with_reducible refine appV.own ?_
    | ((with_reducible refine NewB.mk fun nb hnb => ?_); have hnb1 := hnb.1.1; have hnb2 := hnb.1.2; try simp only [keys_cons, keys_app, keys_nil, NotIn_cons, NotIn_app, NotIn_nil, and_true] at hnb2)
    | ((with_reducible refine NewRow.mk fun nb nsp ncap hnb hncap => ?_); have hnb1 := hnb.1.1; have hnb2 := hnb.1.2; try simp only [keys_cons, keys_app, keys_nil, NotIn_cons, NotIn_app, NotIn_nil, and_true] at hnb2)
    | simp (dsimp := false) (implicitDefEqProofs := false) (disch := first | assumption | (simp only [List.mem_cons, List.mem_append, true_or, or_true, eq_self]; done) | omega | (with_reducible refine Row.adr (by assumption) ?_; simp only [List.length_map, List.length_take, List.length_drop]; omega) | (simp only [List.length_cons, List.length_nil, List.length_map, List.length_append, List.length_replicate, Nat.reduceAdd, true_and, and_true, and_self]; first | done | omega)) only [go_sem, ↓reduceIte, Nat.reduceEqDiff, Nat.reduceAdd, Nat.reduceSub, Nat.reduceMul, Nat.reduceBEq, Nat.reduceLT, Nat.reduceLeDiff, Nat.reduceMod, Nat.reducePow, List.reduceReplicate, UInt8.reduceOfNat, Int.reducePow, Int.reduceDiv, Int.reduceMod, Nat.reduceDiv, Int.reduceNeg, Int.reduceAdd, Int.reduceSub, Int.reduceMul, Int.reduceLE, Int.reduceLT, Int.reduceEq, Int.reduceToNat, reduceCtorEq, numsU_all, List.toList_toArray, hl]
  refine Tri.loopU tok [0, 1, 3, 4, 5, 6, 7, 11, 24] (by kernel_rfl) [0, 1, 5, 6] (fun q G' fr H' => ∃ (k : Nat) (H1 : Heap), k + q = 4 ∧ PLe G G' ∧ J (elems (k * 64) ws) G' H1 ∧ H' = (bx, .cells (numsU 4 ws) [] 69) :: H1 ∧ fr = [(0, .func (.yield lr) #[] #[]), (1, .pointer (some ⟨bx, 0, none⟩)), (5, .agg (numsU 4 ws).toArray), (6, .int .i64 k)]) (4) ?_ ?_
  · exact Upd.now ⟨0, HC, by omega, PLe.refl _, h0, rfl, rfl⟩
  · rintro q G1 fr H' hle hs ⟨k, H1, hk, hle1, hJ, rfl, rfl⟩
    have hsE := hs
    try simp only [keys_cons, keys_app, keys_nil, Sep_cons, Sep_nil, NotIn_cons, NotIn_app, NotIn_nil, List.cons_append, List.nil_append, List.append_assoc, and_assoc, and_true, true_and] at hsE
    repeat (obtain ⟨hsx, hsE⟩ := hsE)
    by_cases hkn : k < 4
    · have hwk := hw k
      have hget2 : (numsU 4 ws)[k]? = some (.int .u64 (ws k)) := by rw [List.getElem?_eq_getElem (by rw [hl]; exact hkn), numsU_at]
      repeat' first
        | with_reducible refine Br.yes ?_
        | with_reducible refine Br.no ?_
        | with_reducible refine Br.dec (fun _ => ?_) (fun _ => ?_)
        | with_reducible refine Br.beqB (fun _ => ?_) (fun _ => ?_)
        | with_reducible refine Br.beqb (fun _ => ?_) (fun _ => ?_)
        | with_reducible refine Br.mk (fun _ => ?_) (fun _ => ?_)
        | with_reducible refine foundO.mk (fun _ _ => ?_) (fun _ => ?_)
        | with_reducible refine appV.zero ?_
        | with_reducible refine appV.own ?_
        | ((with_reducible refine NewB.mk fun nb hnb => ?_); have hnb1 := hnb.1.1; have hnb2 := hnb.1.2; try simp only [keys_cons, keys_app, keys_nil, NotIn_cons, NotIn_app, NotIn_nil, and_true] at hnb2)
        | ((with_reducible refine NewRow.mk fun nb nsp ncap hnb hncap => ?_); have hnb1 := hnb.1.1; have hnb2 := hnb.1.2; try simp only [keys_cons, keys_app, keys_nil, NotIn_cons, NotIn_app, NotIn_nil, and_true] at hnb2)
        | simp (dsimp := false) (implicitDefEqProofs := false) (disch := first | assumption | (simp only [List.mem_cons, List.mem_append, true_or, or_true, eq_self]; done) | omega | (with_reducible refine Row.adr (by assumption) ?_; simp only [List.length_map, List.length_take, List.length_drop]; omega) | (simp only [List.length_cons, List.length_nil, List.length_map, List.length_append, List.length_replicate, Nat.reduceAdd, true_and, and_true, and_self]; first | done | omega)) only [go_sem, ↓reduceIte, Nat.reduceEqDiff, Nat.reduceAdd, Nat.reduceSub, Nat.reduceMul, Nat.reduceBEq, Nat.reduceLT, Nat.reduceLeDiff, Nat.reduceMod, Nat.reducePow, List.reduceReplicate, UInt8.reduceOfNat, Int.reducePow, Int.reduceDiv, Int.reduceMod, Nat.reduceDiv, Int.reduceNeg, Int.reduceAdd, Int.reduceSub, Int.reduceMul, Int.reduceLE, Int.reduceLT, Int.reduceEq, Int.reduceToNat, reduceCtorEq, hl, hget2, partL, List.toList_toArray]
      refine Tri.loopU tok [0, 1, 3, 4, 5, 6, 7, 11, 24] (by kernel_rfl) [0, 1, 3, 4, 5, 6] (fun q2 G' fr H' => ∃ (p w : Nat) (H2 : Heap), p + q2 = 64 ∧ w < 18446744073709551616 ∧ (∀ j, w.testBit j = ((ws k).testBit j && decide (p ≤ j))) ∧ PLe G G' ∧ J (elems (k * 64 + p) ws) G' H2 ∧ H' = (bx, .cells (numsU 4 ws) [] 69) :: H2 ∧ fr = [(0, .func (.yield lr) #[] #[]), (1, .pointer (some ⟨bx, 0, none⟩)), (3, .int .i64 k), (4, .int .u64 w), (5, .agg (numsU 4 ws).toArray), (6, .int .i64 k)]) (64) ?_ ?_
      · exact Upd.now ⟨0, ws k, H1, by omega, hwk, fun j => by simp, hle1, hJ, rfl, rfl⟩
      · rintro q2 G2 fr H' hle2 hs2 ⟨p, w, H2, hp, hwl, hwb, hle3, hJ2, rfl, rfl⟩
        have hg2 := hg.mono hle3
        by_cases hw0 : w = 0
        · subst hw0
          have hnone : ∀ i, k * 64 + p ≤ i → i < (k + 1) * 64 → mem ws i = false := fun i h1 h2 => by
            have hb := hwb (i - k * 64)
            rw [Nat.zero_testBit, decide_eq_true (by omega), Bool.and_true] at hb
            rw [show i = k * 64 + (i - k * 64) by omega, mem_at _ _ _ (by omega)]
            exact hb.symm
          have he := elems_skip (b := (k + 1) * 64) (by omega) hnone
          rw [← he] at hJ2
          repeat' first
            | with_reducible refine Br.yes ?_
            | with_reducible refine Br.no ?_
            | with_reducible refine Br.dec (fun _ => ?_) (fun _ => ?_)
            | with_reducible refine Br.beqB (fun _ => ?_) (fun _ => ?_)
            | with_reducible refine Br.beqb (fun _ => ?_) (fun _ => ?_)
            | with_reducible refine Br.mk (fun _ => ?_) (fun _ => ?_)
            | with_reducible refine foundO.mk (fun _ _ => ?_) (fun _ => ?_)
            | with_reducible refine appV.zero ?_
            | with_reducible refine appV.own ?_
            | ((with_reducible refine NewB.mk fun nb hnb => ?_); have hnb1 := hnb.1.1; have hnb2 := hnb.1.2; try simp only [keys_cons, keys_app, keys_nil, NotIn_cons, NotIn_app, NotIn_nil, and_true] at hnb2)
            | ((with_reducible refine NewRow.mk fun nb nsp ncap hnb hncap => ?_); have hnb1 := hnb.1.1; have hnb2 := hnb.1.2; try simp only [keys_cons, keys_app, keys_nil, NotIn_cons, NotIn_app, NotIn_nil, and_true] at hnb2)
            | simp (dsimp := false) (implicitDefEqProofs := false) (disch := first | assumption | (simp only [List.mem_cons, List.mem_append, true_or, or_true, eq_self]; done) | omega | (with_reducible refine Row.adr (by assumption) ?_; simp only [List.length_map, List.length_take, List.length_drop]; omega) | (simp only [List.length_cons, List.length_nil, List.length_map, List.length_append, List.length_replicate, Nat.reduceAdd, true_and, and_true, and_self]; first | done | omega)) only [go_sem, ↓reduceIte, Nat.reduceEqDiff, Nat.reduceAdd, Nat.reduceSub, Nat.reduceMul, Nat.reduceBEq, Nat.reduceLT, Nat.reduceLeDiff, Nat.reduceMod, Nat.reducePow, List.reduceReplicate, UInt8.reduceOfNat, Int.reducePow, Int.reduceDiv, Int.reduceMod, Nat.reduceDiv, Int.reduceNeg, Int.reduceAdd, Int.reduceSub, Int.reduceMul, Int.reduceLE, Int.reduceLT, Int.reduceEq, Int.reduceToNat, reduceCtorEq]
          exact Upd.now ⟨q - 1, by omega, k + 1, H2, by omega, hle3, hJ2, rfl, rfl⟩
        · obtain ⟨t, ht1, ht2, ht3, ht4⟩ := low_bit w (by omega)
          have ht64 := bit_lt hwl ht1
          have hbt := hwb t
          rw [ht1] at hbt
          simp only [Bool.true_eq, Bool.and_eq_true, decide_eq_true_eq] at hbt
          have hmem : mem ws (k * 64 + t) = true := by rw [mem_at _ _ _ ht64]; exact hbt.1
          have hlt : k * 64 + t < 256 := by omega
          have hskip : elems (k * 64 + t) ws = elems (k * 64 + p) ws := elems_skip (by omega) fun i h1 h2 => by
            have hb := hwb (i - k * 64)
            rw [ht2 _ (by omega), decide_eq_true (by omega), Bool.and_true] at hb
            rw [show i = k * 64 + (i - k * 64) by omega, mem_at _ _ _ (by omega)]
            exact hb.symm
          have hhit := elems_hit hmem
          have hcast : ((k : Int) * 64 + t) = ((k * 64 + t : Nat) : Int) := by simp
          have hw1 : ((w : Int) - 1).toNat = w - 1 := by omega
          have hws : w &&& (w - 1) < 18446744073709551616 := Nat.lt_of_le_of_lt Nat.and_le_left hwl
          have hw0' : (w : Int) ≠ 0 := by omega
          repeat' first
            | with_reducible refine Br.yes ?_
            | with_reducible refine Br.no ?_
            | with_reducible refine Br.dec (fun _ => ?_) (fun _ => ?_)
            | with_reducible refine Br.beqB (fun _ => ?_) (fun _ => ?_)
            | with_reducible refine Br.beqb (fun _ => ?_) (fun _ => ?_)
            | with_reducible refine Br.mk (fun _ => ?_) (fun _ => ?_)
            | with_reducible refine foundO.mk (fun _ _ => ?_) (fun _ => ?_)
            | with_reducible refine appV.zero ?_
            | with_reducible refine appV.own ?_
            | ((with_reducible refine NewB.mk fun nb hnb => ?_); have hnb1 := hnb.1.1; have hnb2 := hnb.1.2; try simp only [keys_cons, keys_app, keys_nil, NotIn_cons, NotIn_app, NotIn_nil, and_true] at hnb2)
            | ((with_reducible refine NewRow.mk fun nb nsp ncap hnb hncap => ?_); have hnb1 := hnb.1.1; have hnb2 := hnb.1.2; try simp only [keys_cons, keys_app, keys_nil, NotIn_cons, NotIn_app, NotIn_nil, and_true] at hnb2)
            | simp (dsimp := false) (implicitDefEqProofs := false) (disch := first | assumption | (simp only [List.mem_cons, List.mem_append, true_or, or_true, eq_self]; done) | omega | (with_reducible refine Row.adr (by assumption) ?_; simp only [List.length_map, List.length_take, List.length_drop]; omega) | (simp only [List.length_cons, List.length_nil, List.length_map, List.length_append, List.length_replicate, Nat.reduceAdd, true_and, and_true, and_self]; first | done | omega)) only [go_sem, ↓reduceIte, Nat.reduceEqDiff, Nat.reduceAdd, Nat.reduceSub, Nat.reduceMul, Nat.reduceBEq, Nat.reduceLT, Nat.reduceLeDiff, Nat.reduceMod, Nat.reducePow, List.reduceReplicate, UInt8.reduceOfNat, Int.reducePow, Int.reduceDiv, Int.reduceMod, Nat.reduceDiv, Int.reduceNeg, Int.reduceAdd, Int.reduceSub, Int.reduceMul, Int.reduceLE, Int.reduceLT, Int.reduceEq, Int.reduceToNat, reduceCtorEq, hw1]
            | with_reducible refine tz_t w t hwl (by omega) ht64 (ht4 64 hwl) hg2 ?_
          rw [hcast]
          rw [← hskip] at hJ2
          refine YldT.mono (hY (k * 64 + t) G2 H2 hle3 hs2 hJ2 hlt hmem) ?_
          rintro v G3 H3' hle4 hs4 ⟨H3, rfl, ⟨rfl, hJ3⟩ | ⟨rfl, hJ3⟩⟩
          · rw [← hhit] at hJ3
            repeat' first
              | with_reducible refine Br.yes ?_
              | with_reducible refine Br.no ?_
              | with_reducible refine Br.dec (fun _ => ?_) (fun _ => ?_)
              | with_reducible refine Br.beqB (fun _ => ?_) (fun _ => ?_)
              | with_reducible refine Br.beqb (fun _ => ?_) (fun _ => ?_)
              | with_reducible refine Br.mk (fun _ => ?_) (fun _ => ?_)
              | with_reducible refine foundO.mk (fun _ _ => ?_) (fun _ => ?_)
              | with_reducible refine appV.zero ?_
              | with_reducible refine appV.own ?_
              | ((with_reducible refine NewB.mk fun nb hnb => ?_); have hnb1 := hnb.1.1; have hnb2 := hnb.1.2; try simp only [keys_cons, keys_app, keys_nil, NotIn_cons, NotIn_app, NotIn_nil, and_true] at hnb2)
              | ((with_reducible refine NewRow.mk fun nb nsp ncap hnb hncap => ?_); have hnb1 := hnb.1.1; have hnb2 := hnb.1.2; try simp only [keys_cons, keys_app, keys_nil, NotIn_cons, NotIn_app, NotIn_nil, and_true] at hnb2)
              | simp (dsimp := false) (implicitDefEqProofs := false) (disch := first | assumption | (simp only [List.mem_cons, List.mem_append, true_or, or_true, eq_self]; done) | omega | (with_reducible refine Row.adr (by assumption) ?_; simp only [List.length_map, List.length_take, List.length_drop]; omega) | (simp only [List.length_cons, List.length_nil, List.length_map, List.length_append, List.length_replicate, Nat.reduceAdd, true_and, and_true, and_self]; first | done | omega)) only [go_sem, ↓reduceIte, Nat.reduceEqDiff, Nat.reduceAdd, Nat.reduceSub, Nat.reduceMul, Nat.reduceBEq, Nat.reduceLT, Nat.reduceLeDiff, Nat.reduceMod, Nat.reducePow, List.reduceReplicate, UInt8.reduceOfNat, Int.reducePow, Int.reduceDiv, Int.reduceMod, Nat.reduceDiv, Int.reduceNeg, Int.reduceAdd, Int.reduceSub, Int.reduceMul, Int.reduceLE, Int.reduceLT, Int.reduceEq, Int.reduceToNat, reduceCtorEq, hw1]
            exact Upd.now ⟨64 - (t + 1), by omega, t + 1, w &&& (w - 1), H3, by omega, hws, fun j => by
              rw [ht3]
              rcases Nat.lt_trichotomy j t with h | h | h
              · rw [ht2 j h, decide_eq_false (show ¬ t + 1 ≤ j by omega)]; simp
              · subst h; rw [decide_eq_false (show ¬ j + 1 ≤ j by omega)]; simp
              · rw [hwb, decide_eq_true (show p ≤ j by omega), decide_eq_true (show j ≠ t by omega), decide_eq_true (show t + 1 ≤ j by omega)]; simp, hle3.trans hle4, hJ3, rfl, rfl⟩
          · repeat' first
              | with_reducible refine Br.yes ?_
              | with_reducible refine Br.no ?_
              | with_reducible refine Br.dec (fun _ => ?_) (fun _ => ?_)
              | with_reducible refine Br.beqB (fun _ => ?_) (fun _ => ?_)
              | with_reducible refine Br.beqb (fun _ => ?_) (fun _ => ?_)
              | with_reducible refine Br.mk (fun _ => ?_) (fun _ => ?_)
              | with_reducible refine foundO.mk (fun _ _ => ?_) (fun _ => ?_)
              | with_reducible refine appV.zero ?_
              | with_reducible refine appV.own ?_
              | ((with_reducible refine NewB.mk fun nb hnb => ?_); have hnb1 := hnb.1.1; have hnb2 := hnb.1.2; try simp only [keys_cons, keys_app, keys_nil, NotIn_cons, NotIn_app, NotIn_nil, and_true] at hnb2)
              | ((with_reducible refine NewRow.mk fun nb nsp ncap hnb hncap => ?_); have hnb1 := hnb.1.1; have hnb2 := hnb.1.2; try simp only [keys_cons, keys_app, keys_nil, NotIn_cons, NotIn_app, NotIn_nil, and_true] at hnb2)
              | simp (dsimp := false) (implicitDefEqProofs := false) (disch := first | assumption | (simp only [List.mem_cons, List.mem_append, true_or, or_true, eq_self]; done) | omega | (with_reducible refine Row.adr (by assumption) ?_; simp only [List.length_map, List.length_take, List.length_drop]; omega) | (simp only [List.length_cons, List.length_nil, List.length_map, List.length_append, List.length_replicate, Nat.reduceAdd, true_and, and_true, and_self]; first | done | omega)) only [go_sem, ↓reduceIte, Nat.reduceEqDiff, Nat.reduceAdd, Nat.reduceSub, Nat.reduceMul, Nat.reduceBEq, Nat.reduceLT, Nat.reduceLeDiff, Nat.reduceMod, Nat.reducePow, List.reduceReplicate, UInt8.reduceOfNat, Int.reducePow, Int.reduceDiv, Int.reduceMod, Nat.reduceDiv, Int.reduceNeg, Int.reduceAdd, Int.reduceSub, Int.reduceMul, Int.reduceLE, Int.reduceLT, Int.reduceEq, Int.reduceToNat, reduceCtorEq]
            all_goals refine Upd.finL ?_ (hR G3 H3 (hle3.trans hle4) hs4 (.inr ⟨_, hJ3⟩)) ?_
            any_goals (intro fsum; first | exact Nat.le_refl _ | (simp only [List.map_append, List.map_cons, List.map_nil, List.sum_append, List.sum_cons, List.sum_nil, List.cons_append, List.nil_append]; omega))
            rfl
    · obtain rfl : k = 4 := by omega
      repeat' first
        | with_reducible refine Br.yes ?_
        | with_reducible refine Br.no ?_
        | with_reducible refine Br.dec (fun _ => ?_) (fun _ => ?_)
        | with_reducible refine Br.beqB (fun _ => ?_) (fun _ => ?_)
        | with_reducible refine Br.beqb (fun _ => ?_) (fun _ => ?_)
        | with_reducible refine Br.mk (fun _ => ?_) (fun _ => ?_)
        | with_reducible refine foundO.mk (fun _ _ => ?_) (fun _ => ?_)
        | with_reducible refine appV.zero ?_
        | with_reducible refine appV.own ?_
        | ((with_reducible refine NewB.mk fun nb hnb => ?_); have hnb1 := hnb.1.1; have hnb2 := hnb.1.2; try simp only [keys_cons, keys_app, keys_nil, NotIn_cons, NotIn_app, NotIn_nil, and_true] at hnb2)
        | ((with_reducible refine NewRow.mk fun nb nsp ncap hnb hncap => ?_); have hnb1 := hnb.1.1; have hnb2 := hnb.1.2; try simp only [keys_cons, keys_app, keys_nil, NotIn_cons, NotIn_app, NotIn_nil, and_true] at hnb2)
        | simp (dsimp := false) (implicitDefEqProofs := false) (disch := first | assumption | (simp only [List.mem_cons, List.mem_append, true_or, or_true, eq_self]; done) | omega | (with_reducible refine Row.adr (by assumption) ?_; simp only [List.length_map, List.length_take, List.length_drop]; omega) | (simp only [List.length_cons, List.length_nil, List.length_map, List.length_append, List.length_replicate, Nat.reduceAdd, true_and, and_true, and_self]; first | done | omega)) only [go_sem, ↓reduceIte, Nat.reduceEqDiff, Nat.reduceAdd, Nat.reduceSub, Nat.reduceMul, Nat.reduceBEq, Nat.reduceLT, Nat.reduceLeDiff, Nat.reduceMod, Nat.reducePow, List.reduceReplicate, UInt8.reduceOfNat, Int.reducePow, Int.reduceDiv, Int.reduceMod, Nat.reduceDiv, Int.reduceNeg, Int.reduceAdd, Int.reduceSub, Int.reduceMul, Int.reduceLE, Int.reduceLT, Int.reduceEq, Int.reduceToNat, reduceCtorEq]
      all_goals refine Upd.finL ?_ (hR G1 H1 hle1 hs (.inl hJ)) ?_
      any_goals (intro fsum; first | exact Nat.le_refl _ | (simp only [List.map_append, List.map_cons, List.map_nil, List.sum_append, List.sum_cons, List.sum_nil, List.cons_append, List.nil_append]; omega))
      rfl
theorem calleeEach : V.Callee Tryd.prog 65 := ⟨_, _, Tryd.func65, rfl, by kernel_rfl⟩
theorem seach_t {ws : Nat → Nat} {G : PHeap} {H : Heap} {R : Value → PHeap → Heap → Prop} (hR : ∀ bx, Sep G (bx :: keys H) → R (.func (.func 65) #[] #[.pointer (some ⟨bx, 0, none⟩)]) G ((bx, .cells (numsU 4 ws) [] 69) :: H)) : FnT Tryd.prog 62 [.agg (numsU 4 ws).toArray] G H R := by
  have hl := numsU_len 4 ws
  refine FnT.body tok [0, 1, 2] Tryd.func62 rfl (by kernel_rfl) (by kernel_rfl) (by show _ ≤ 4; simp) fun hsep => ?_
  rw [Tryd.results62]
  have hsE := hsep
  try simp only [keys_cons, keys_app, keys_nil, Sep_cons, Sep_nil, NotIn_cons, NotIn_app, NotIn_nil, List.cons_append, List.nil_append, List.append_assoc, and_assoc, and_true, true_and] at hsE
  repeat (obtain ⟨hsx, hsE⟩ := hsE)
  repeat' first
    | with_reducible refine Br.yes ?_
    | with_reducible refine Br.no ?_
    | with_reducible refine Br.dec (fun _ => ?_) (fun _ => ?_)
    | with_reducible refine Br.beqB (fun _ => ?_) (fun _ => ?_)
    | with_reducible refine Br.beqb (fun _ => ?_) (fun _ => ?_)
    | with_reducible refine Br.mk (fun _ => ?_) (fun _ => ?_)
    | with_reducible refine foundO.mk (fun _ _ => ?_) (fun _ => ?_)
    | with_reducible refine appV.zero ?_
    | with_reducible refine appV.own ?_
    | ((with_reducible refine NewB.mk fun nb hnb => ?_); have hnb1 := hnb.1.1; have hnb2 := hnb.1.2; try simp only [keys_cons, keys_app, keys_nil, NotIn_cons, NotIn_app, NotIn_nil, and_true] at hnb2)
    | ((with_reducible refine NewRow.mk fun nb nsp ncap hnb hncap => ?_); have hnb1 := hnb.1.1; have hnb2 := hnb.1.2; try simp only [keys_cons, keys_app, keys_nil, NotIn_cons, NotIn_app, NotIn_nil, and_true] at hnb2)
    | simp (dsimp := false) (implicitDefEqProofs := false) (disch := first | assumption | (simp only [List.mem_cons, List.mem_append, true_or, or_true, eq_self]; done) | omega | (with_reducible refine Row.adr (by assumption) ?_; simp only [List.length_map, List.length_take, List.length_drop]; omega) | (simp only [List.length_cons, List.length_nil, List.length_map, List.length_append, List.length_replicate, Nat.reduceAdd, true_and, and_true, and_self]; first | done | omega)) only [go_sem, ↓reduceIte, Nat.reduceEqDiff, Nat.reduceAdd, Nat.reduceSub, Nat.reduceMul, Nat.reduceBEq, Nat.reduceLT, Nat.reduceLeDiff, Nat.reduceMod, Nat.reducePow, List.reduceReplicate, UInt8.reduceOfNat, Int.reducePow, Int.reduceDiv, Int.reduceMod, Nat.reduceDiv, Int.reduceNeg, Int.reduceAdd, Int.reduceSub, Int.reduceMul, Int.reduceLE, Int.reduceLT, Int.reduceEq, Int.reduceToNat, reduceCtorEq, hl, numsU_all, numsU_one, numsU_over, numsU_over4, List.toList_toArray]
  exact Upd.fin (hR nb hnb) rfl
set_option maxHeartbeats 8000000 in
theorem sleast_t {ws : Nat → Nat} (hw : ∀ k, ws k < 18446744073709551616) {x : Nat} (hx : x < 256) (hm : mem ws x = true) (hmin : ∀ y, y < x → mem ws y = false) {G : PHeap} {H : Heap} {R : Value → PHeap → Heap → Prop} (hg : HasTab G)
    (hR : R (.int .i64 (x : Nat)) G H) : FnT Tryd.prog 50 [.agg (numsU 4 ws).toArray] G H R := by
  have hl := numsU_len 4 ws
  refine FnT.body tok [0, 1, 2, 3, 5, 6] Tryd.func50 rfl (by kernel_rfl) (by kernel_rfl) (by show _ ≤ 9; simp) fun hsep => ?_
  rw [Tryd.results50]
  have hsE := hsep
  try simp only [keys_cons, keys_app, keys_nil, Sep_cons, Sep_nil, NotIn_cons, NotIn_app, NotIn_nil, List.cons_append, List.nil_append, List.append_assoc, and_assoc, and_true, true_and] at hsE
  repeat (obtain ⟨hsx, hsE⟩ := hsE)
  repeat' first
    | with_reducible refine Br.yes ?_
    | with_reducible refine Br.no ?_
    | with_reducible refine Br.dec (fun _ => ?_) (fun _ => ?_)
    | with_reducible refine Br.beqB (fun _ => ?_) (fun _ => ?_)
    | with_reducible refine Br.beqb (fun _ => ?_) (fun _ => ?_)
    | with_reducible refine Br.mk (fun _ => ?_) (fun _ => ?_)
    | with_reducible refine foundO.mk (fun _ _ => ?_) (fun _ => ?_)
    | with_reducible refine appV.zero ?_
    | with_reducible refine appV.own ?_
    | ((with_reducible refine NewB.mk fun nb hnb => ?_); have hnb1 := hnb.1.1; have hnb2 := hnb.1.2; try simp only [keys_cons, keys_app, keys_nil, NotIn_cons, NotIn_app, NotIn_nil, and_true] at hnb2)
    | ((with_reducible refine NewRow.mk fun nb nsp ncap hnb hncap => ?_); have hnb1 := hnb.1.1; have hnb2 := hnb.1.2; try simp only [keys_cons, keys_app, keys_nil, NotIn_cons, NotIn_app, NotIn_nil, and_true] at hnb2)
    | simp (dsimp := false) (implicitDefEqProofs := false) (disch := first | assumption | (simp only [List.mem_cons, List.mem_append, true_or, or_true, eq_self]; done) | omega | (with_reducible refine Row.adr (by assumption) ?_; simp only [List.length_map, List.length_take, List.length_drop]; omega) | (simp only [List.length_cons, List.length_nil, List.length_map, List.length_append, List.length_replicate, Nat.reduceAdd, true_and, and_true, and_self]; first | done | omega)) only [go_sem, ↓reduceIte, Nat.reduceEqDiff, Nat.reduceAdd, Nat.reduceSub, Nat.reduceMul, Nat.reduceBEq, Nat.reduceLT, Nat.reduceLeDiff, Nat.reduceMod, Nat.reducePow, List.reduceReplicate, UInt8.reduceOfNat, Int.reducePow, Int.reduceDiv, Int.reduceMod, Nat.reduceDiv, Int.reduceNeg, Int.reduceAdd, Int.reduceSub, Int.reduceMul, Int.reduceLE, Int.reduceLT, Int.reduceEq, Int.reduceToNat, reduceCtorEq, hl, numsU_all, numsU_one, numsU_over, numsU_over4, List.toList_toArray]
  rename_i b1 hb1 hb11 hb12
  revert nb
  intro b2 hb2 hb21 hb22
  refine seach_t fun bx hbx => ?_
  repeat' first
    | with_reducible refine Br.yes ?_
    | with_reducible refine Br.no ?_
    | with_reducible refine Br.dec (fun _ => ?_) (fun _ => ?_)
    | with_reducible refine Br.beqB (fun _ => ?_) (fun _ => ?_)
    | with_reducible refine Br.beqb (fun _ => ?_) (fun _ => ?_)
    | with_reducible refine Br.mk (fun _ => ?_) (fun _ => ?_)
    | with_reducible refine foundO.mk (fun _ _ => ?_) (fun _ => ?_)
    | with_reducible refine appV.zero ?_
    | with_reducible refine appV.own ?_
    | ((with_reducible refine NewB.mk fun nb hnb => ?_); have hnb1 := hnb.1.1; have hnb2 := hnb.1.2; try simp only [keys_cons, keys_app, keys_nil, NotIn_cons, NotIn_app, NotIn_nil, and_true] at hnb2)
    | ((with_reducible refine NewRow.mk fun nb nsp ncap hnb hncap => ?_); have hnb1 := hnb.1.1; have hnb2 := hnb.1.2; try simp only [keys_cons, keys_app, keys_nil, NotIn_cons, NotIn_app, NotIn_nil, and_true] at hnb2)
    | simp (dsimp := false) (implicitDefEqProofs := false) (disch := first | assumption | (simp only [List.mem_cons, List.mem_append, true_or, or_true, eq_self]; done) | omega | (with_reducible refine Row.adr (by assumption) ?_; simp only [List.length_map, List.length_take, List.length_drop]; omega) | (simp only [List.length_cons, List.length_nil, List.length_map, List.length_append, List.length_replicate, Nat.reduceAdd, true_and, and_true, and_self]; first | done | omega)) only [go_sem, ↓reduceIte, Nat.reduceEqDiff, Nat.reduceAdd, Nat.reduceSub, Nat.reduceMul, Nat.reduceBEq, Nat.reduceLT, Nat.reduceLeDiff, Nat.reduceMod, Nat.reducePow, List.reduceReplicate, UInt8.reduceOfNat, Int.reducePow, Int.reduceDiv, Int.reduceMod, Nat.reduceDiv, Int.reduceNeg, Int.reduceAdd, Int.reduceSub, Int.reduceMul, Int.reduceLE, Int.reduceLT, Int.reduceEq, Int.reduceToNat, reduceCtorEq]
  refine Tri.rangeF2 tok [0, 1, 2, 3, 5, 6] rfl calleeEach (by kernel_rfl) fun lr Rr Rb hlr yl => ?_
  have hsE := hlr
  try simp only [keys_cons, keys_app, keys_nil, Sep_cons, Sep_nil, NotIn_cons, NotIn_app, NotIn_nil, List.cons_append, List.nil_append, List.append_assoc, and_assoc, and_true, true_and] at hsE
  repeat (obtain ⟨hsx, hsE⟩ := hsE)
  refine FnT.leave (H' := (bx, .cells (numsU 4 ws) [] 69) :: (lr, Rr .normal) :: (b2, .cells [.int .i64 0] [] 3) :: (b1, .cells (numsU 4 ws) [] 69) :: H) ?_ (by intro fsum; first | exact Nat.le_refl _ | (simp only [List.map_append, List.map_cons, List.map_nil, List.sum_append, List.sum_cons, List.sum_nil, List.cons_append, List.nil_append]; omega))
  refine seach1_t lr bx hw hg (fun pre G' H' => G' = G ∧ pre = [] ∧ H' = (lr, Rr .normal) :: (b2, .cells [.int .i64 0] [] 3) :: (b1, .cells (numsU 4 ws) [] 69) :: H) (fun pre G' H' => G' = G ∧ H' = (lr, Rr .ret) :: (b2, .cells [.int .i64 (x : Nat)] [] 3) :: (b1, .cells (numsU 4 ws) [] 69) :: H) ?_ ⟨rfl, rfl, rfl⟩ ?_
  · rintro y _ _ hle1 hs1 ⟨rfl, hpre, rfl⟩ hy hm1
    have hsE := hs1
    try simp only [keys_cons, keys_app, keys_nil, Sep_cons, Sep_nil, NotIn_cons, NotIn_app, NotIn_nil, List.cons_append, List.nil_append, List.append_assoc, and_assoc, and_true, true_and] at hsE
    repeat (obtain ⟨hsx, hsE⟩ := hsE)
    obtain rfl : y = x := by
      rcases Nat.lt_trichotomy y x with h | h | h
      · rw [hmin y h] at hm1; cases hm1
      · exact h
      · have hin : x ∈ elems y ws := List.mem_filter.2 ⟨List.mem_range.2 h, hm⟩
        rw [hpre] at hin; cases hin
    refine yl rfl ?_ ?_
    · simp (dsimp := false) (implicitDefEqProofs := false) (disch := first | assumption | (simp only [List.mem_cons, List.mem_append, true_or, or_true, eq_self]; done) | omega | (with_reducible refine Row.adr (by assumption) ?_; simp only [List.length_map, List.length_take, List.length_drop]; omega) | (simp only [List.length_cons, List.length_nil, List.length_map, List.length_append, List.length_replicate, Nat.reduceAdd, true_and, and_true, and_self]; first | done | omega)) only [go_sem, ↓reduceIte, Nat.reduceEqDiff, Nat.reduceAdd, Nat.reduceSub, Nat.reduceMul, Nat.reduceBEq, Nat.reduceLT, Nat.reduceLeDiff, Nat.reduceMod, Nat.reducePow, List.reduceReplicate, UInt8.reduceOfNat, Int.reducePow, Int.reduceDiv, Int.reduceMod, Nat.reduceDiv, Int.reduceNeg, Int.reduceAdd, Int.reduceSub, Int.reduceMul, Int.reduceLE, Int.reduceLT, Int.reduceEq, Int.reduceToNat, reduceCtorEq]
    · repeat' first
        | with_reducible refine Br.yes ?_
        | with_reducible refine Br.no ?_
        | with_reducible refine Br.dec (fun _ => ?_) (fun _ => ?_)
        | with_reducible refine Br.beqB (fun _ => ?_) (fun _ => ?_)
        | with_reducible refine Br.beqb (fun _ => ?_) (fun _ => ?_)
        | with_reducible refine Br.mk (fun _ => ?_) (fun _ => ?_)
        | with_reducible refine foundO.mk (fun _ _ => ?_) (fun _ => ?_)
        | with_reducible refine appV.zero ?_
        | with_reducible refine appV.own ?_
        | ((with_reducible refine NewB.mk fun nb hnb => ?_); have hnb1 := hnb.1.1; have hnb2 := hnb.1.2; try simp only [keys_cons, keys_app, keys_nil, NotIn_cons, NotIn_app, NotIn_nil, and_true] at hnb2)
        | ((with_reducible refine NewRow.mk fun nb nsp ncap hnb hncap => ?_); have hnb1 := hnb.1.1; have hnb2 := hnb.1.2; try simp only [keys_cons, keys_app, keys_nil, NotIn_cons, NotIn_app, NotIn_nil, and_true] at hnb2)
        | simp (dsimp := false) (implicitDefEqProofs := false) (disch := first | assumption | (simp only [List.mem_cons, List.mem_append, true_or, or_true, eq_self]; done) | omega | (with_reducible refine Row.adr (by assumption) ?_; simp only [List.length_map, List.length_take, List.length_drop]; omega) | (simp only [List.length_cons, List.length_nil, List.length_map, List.length_append, List.length_replicate, Nat.reduceAdd, true_and, and_true, and_self]; first | done | omega)) only [go_sem, ↓reduceIte, Nat.reduceEqDiff, Nat.reduceAdd, Nat.reduceSub, Nat.reduceMul, Nat.reduceBEq, Nat.reduceLT, Nat.reduceLeDiff, Nat.reduceMod, Nat.reducePow, List.reduceReplicate, UInt8.reduceOfNat, Int.reducePow, Int.reduceDiv, Int.reduceMod, Nat.reduceDiv, Int.reduceNeg, Int.reduceAdd, Int.reduceSub, Int.reduceMul, Int.reduceLE, Int.reduceLT, Int.reduceEq, Int.reduceToNat, reduceCtorEq]
      exact ⟨_, rfl, .inr rfl⟩
  · rintro _ _ hle1 hs1 (⟨rfl, hpre, rfl⟩ | ⟨_, rfl, rfl⟩)
    · have hin : x ∈ elems 256 ws := List.mem_filter.2 ⟨List.mem_range.2 hx, hm⟩
      rw [hpre] at hin; cases hin
    · have hsE := hs1
      try simp only [keys_cons, keys_app, keys_nil, Sep_cons, Sep_nil, NotIn_cons, NotIn_app, NotIn_nil, List.cons_append, List.nil_append, List.append_assoc, and_assoc, and_true, true_and] at hsE
      repeat (obtain ⟨hsx, hsE⟩ := hsE)
      refine ⟨.ret, ?_, ?_⟩
      · simp (dsimp := false) (implicitDefEqProofs := false) (disch := first | assumption | (simp only [List.mem_cons, List.mem_append, true_or, or_true, eq_self]; done) | omega | (with_reducible refine Row.adr (by assumption) ?_; simp only [List.length_map, List.length_take, List.length_drop]; omega) | (simp only [List.length_cons, List.length_nil, List.length_map, List.length_append, List.length_replicate, Nat.reduceAdd, true_and, and_true, and_self]; first | done | omega)) only [go_sem, ↓reduceIte, Nat.reduceEqDiff, Nat.reduceAdd, Nat.reduceSub, Nat.reduceMul, Nat.reduceBEq, Nat.reduceLT, Nat.reduceLeDiff, Nat.reduceMod, Nat.reducePow, List.reduceReplicate, UInt8.reduceOfNat, Int.reducePow, Int.reduceDiv, Int.reduceMod, Nat.reduceDiv, Int.reduceNeg, Int.reduceAdd, Int.reduceSub, Int.reduceMul, Int.reduceLE, Int.reduceLT, Int.reduceEq, Int.reduceToNat, reduceCtorEq]
      · repeat' first
          | with_reducible refine Br.yes ?_
          | with_reducible refine Br.no ?_
          | with_reducible refine Br.dec (fun _ => ?_) (fun _ => ?_)
          | with_reducible refine Br.beqB (fun _ => ?_) (fun _ => ?_)
          | with_reducible refine Br.beqb (fun _ => ?_) (fun _ => ?_)
          | with_reducible refine Br.mk (fun _ => ?_) (fun _ => ?_)
          | with_reducible refine foundO.mk (fun _ _ => ?_) (fun _ => ?_)
          | with_reducible refine appV.zero ?_
          | with_reducible refine appV.own ?_
          | ((with_reducible refine NewB.mk fun nb hnb => ?_); have hnb1 := hnb.1.1; have hnb2 := hnb.1.2; try simp only [keys_cons, keys_app, keys_nil, NotIn_cons, NotIn_app, NotIn_nil, and_true] at hnb2)
          | ((with_reducible refine NewRow.mk fun nb nsp ncap hnb hncap => ?_); have hnb1 := hnb.1.1; have hnb2 := hnb.1.2; try simp only [keys_cons, keys_app, keys_nil, NotIn_cons, NotIn_app, NotIn_nil, and_true] at hnb2)
          | simp (dsimp := false) (implicitDefEqProofs := false) (disch := first | assumption | (simp only [List.mem_cons, List.mem_append, true_or, or_true, eq_self]; done) | omega | (with_reducible refine Row.adr (by assumption) ?_; simp only [List.length_map, List.length_take, List.length_drop]; omega) | (simp only [List.length_cons, List.length_nil, List.length_map, List.length_append, List.length_replicate, Nat.reduceAdd, true_and, and_true, and_self]; first | done | omega)) only [go_sem, ↓reduceIte, Nat.reduceEqDiff, Nat.reduceAdd, Nat.reduceSub, Nat.reduceMul, Nat.reduceBEq, Nat.reduceLT, Nat.reduceLeDiff, Nat.reduceMod, Nat.reducePow, List.reduceReplicate, UInt8.reduceOfNat, Int.reducePow, Int.reduceDiv, Int.reduceMod, Nat.reduceDiv, Int.reduceNeg, Int.reduceAdd, Int.reduceSub, Int.reduceMul, Int.reduceLE, Int.reduceLT, Int.reduceEq, Int.reduceToNat, reduceCtorEq]
        all_goals refine Upd.finL ?_ hR ?_
        any_goals (intro fsum; first | exact Nat.le_refl _ | (simp only [List.map_append, List.map_cons, List.map_nil, List.sum_append, List.sum_cons, List.sum_nil, List.cons_append, List.nil_append]; omega))
        rfl
end Go.Proofs.YtmnmihfinmcljaaDoor
