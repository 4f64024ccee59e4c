/- Sets of bits: their numbers, one behind the other. -/
import Derived.Test.YtagojpdkikcmpaaDoorFb
set_option linter.unusedSimpArgs false
set_option linter.unusedVariables false
namespace Go.Proofs.YtagojpdkikcmpaaDoor
open Go Go.V Go.Proofs

/-- the table of the library's -/
def tabV : List Value := tabL.map fun x => Value.int .u8 (x : Nat)
def HasTab (G : PHeap) : Prop := RowAt G 0 0 tabV
theorem HasTab.mono {G G' : PHeap} (h : HasTab G) (hle : PLe G G') : HasTab G' := by
  obtain ⟨c, e, fr, h1, h2, h3⟩ := h
  exact ⟨c, e, fr, hle _ _ h1, h2, h3⟩

theorem tz_t (w t : Nat) (hw : w < 18446744073709551616) (h0 : 0 < w) (ht : t < 64) (hb : w &&& (2 ^ 64 - w) = 2 ^ t) {G : PHeap} {H : Heap} {R : Value → PHeap → Heap → Prop} (hg : HasTab G)
    (hR : R (.int .i64 t) G H) : FnT Tryd.prog 31 [.int .u64 w] G H R := by
  obtain ⟨q, hq⟩ : ∃ q, q = 2 ^ t * 285870213051353865 % 18446744073709551616 / 288230376151711744 := ⟨_, rfl⟩
  have htab := tab_ok ⟨t, ht⟩
  simp only [] at htab
  rw [← hq] at htab
  obtain ⟨hq64, hqv⟩ := List.getElem?_eq_some_iff.1 htab
  have hq2 : q < 64 := hq64
  have hneg : IntKind.u64.wrap (0 - (w : Int)) = ((18446744073709551616 - w : Nat) : Int) := by
    simp only [IntKind.wrap, IntKind.bits, IntKind.signed]; simp; omega
  have hb2 : w &&& (18446744073709551616 - w) = 2 ^ t := hb
  have hx : IntKind.u64.wrap (((2 ^ t : Nat) : Int) * 285870213051353865) / 288230376151711744 = (q : Int) := by
    rw [hq]
    generalize 2 ^ t = z
    simp only [IntKind.wrap, IntKind.bits, IntKind.signed]
    simp
  have hvl : tabV.length = 64 := rfl
  have hget : tabV[q]'(by rw [hvl]; exact hq2) = .int .u8 (t : Nat) := by
    unfold tabV
    rw [List.getElem_map, hqv]
  have hw0 : (w : Int) ≠ 0 := by omega
  refine FnT.body tok [0, 2, 4] Tryd.func31 rfl (by kernel_rfl) (by kernel_rfl) (by show _ ≤ 14; simp) fun hsep => ?_
  rw [Tryd.results31]
  have hsE := hsep
  try simp only [keys_cons, keys_app, keys_nil, Sep_cons, Sep_nil, NotIn_cons, NotIn_app, NotIn_nil, List.cons_append, List.nil_append, List.append_assoc, and_assoc, and_true, true_and] at hsE
  repeat (obtain ⟨hsx, hsE⟩ := hsE)
  repeat' first
    | with_reducible refine Br.yes ?_
    | with_reducible refine Br.no ?_
    | with_reducible refine Br.dec (fun _ => ?_) (fun _ => ?_)
    | with_reducible refine Br.beqB (fun _ => ?_) (fun _ => ?_)
    | with_reducible refine Br.beqb (fun _ => ?_) (fun _ => ?_)
    | with_reducible refine Br.mk (fun _ => ?_) (fun _ => ?_)
    | with_reducible refine foundO.mk (fun _ _ => ?_) (fun _ => ?_)
    | with_reducible refine appV.zero ?_
    | with_reducible refine appV.own ?_
    | ((with_reducible refine NewB.mk fun nb hnb => ?_); have hnb1 := hnb.1.1; have hnb2 := hnb.1.2; try simp only [keys_cons, keys_app, keys_nil, NotIn_cons, NotIn_app, NotIn_nil, and_true] at hnb2)
    | ((with_reducible refine NewRow.mk fun nb nsp ncap hnb hncap => ?_); have hnb1 := hnb.1.1; have hnb2 := hnb.1.2; try simp only [keys_cons, keys_app, keys_nil, NotIn_cons, NotIn_app, NotIn_nil, and_true] at hnb2)
    | simp (dsimp := false) (implicitDefEqProofs := false) (disch := first | assumption | (simp only [List.mem_cons, List.mem_append, true_or, or_true, eq_self]; done) | omega | (with_reducible refine Row.adr (by assumption) ?_; simp only [List.length_map, List.length_take, List.length_drop]; omega) | (simp only [List.length_cons, List.length_nil, List.length_map, List.length_append, List.length_replicate, Nat.reduceAdd, true_and, and_true, and_self]; first | done | omega)) only [go_sem, ↓reduceIte, Nat.reduceEqDiff, Nat.reduceAdd, Nat.reduceSub, Nat.reduceMul, Nat.reduceBEq, Nat.reduceLT, Nat.reduceLeDiff, Nat.reduceMod, Nat.reducePow, List.reduceReplicate, UInt8.reduceOfNat, Int.reducePow, Int.reduceDiv, Int.reduceMod, Nat.reduceDiv, Int.reduceNeg, Int.reduceAdd, Int.reduceSub, Int.reduceMul, Int.reduceLE, Int.reduceLT, Int.reduceEq, Int.reduceToNat, decide_true, decide_false, reduceCtorEq, ne_eq, not_false_eq_true, not_true_eq_false, and_true, true_and, and_self, or_true, true_or, or_false, false_or, or_self, eq_self, Option.isNone_some, Option.isNone_none, Nat.zero_add, Nat.add_zero, Nat.mul_one, Nat.one_mul, Nat.zero_mul, List.length_cons, List.length_nil, List.getElem?_cons_zero, List.getElem?_cons_succ, List.map_cons, List.map_nil, List.append_nil, hneg, hb2, hx, RowAt.obj0 hg, hget, hvl]
  all_goals refine Upd.finL ?_ hR ?_
  any_goals (intro fsum; first | exact Nat.le_refl _ | (simp only [List.map_append, List.map_cons, List.map_nil, List.sum_append, List.sum_cons, List.sum_nil, List.cons_append, List.nil_append]; omega))
  rfl

/-- a set's numbers, rising -/
def elems (n : Nat) (ws : Nat → Nat) : List Nat := (List.range n).filter (mem ws)
theorem elems_skip {ws : Nat → Nat} {a : Nat} : ∀ {b : Nat}, a ≤ b → (∀ i, a ≤ i → i < b → mem ws i = false) → elems b ws = elems a ws
  | b, hab, h => by
    unfold elems
    obtain ⟨d, rfl⟩ := Nat.exists_eq_add_of_le hab
    clear hab
    induction d with
    | zero => rfl
    | succ d ih =>
      rw [show a + (d + 1) = (a + d) + 1 by omega, List.range_succ, List.filter_append, ih fun i h1 h2 => h i h1 (by omega)]
      simp [h (a + d) (by omega) (by omega)]
theorem elems_len (n : Nat) (ws : Nat → Nat) : (elems n ws).length ≤ n := by
  have := List.length_filter_le (mem ws) (List.range n)
  rwa [List.length_range] at this
theorem elems_hit {ws : Nat → Nat} {a : Nat} (h : mem ws a = true) : elems (a + 1) ws = elems a ws ++ [a] := by
  unfold elems; rw [List.range_succ, List.filter_append]; simp [h]

set_option maxHeartbeats 8000000 in
theorem each1_t (lr bx : Nat) {hb : Heap} {pt : Value} {n : Nat} {ws : Nat → Nat} (ht : TabB hb pt n ws) {G : PHeap} {HC : Heap} {R : Value → PHeap → Heap → Prop} (hg : HasTab G)
    (J Jx : List Nat → PHeap → Heap → Prop)
    (hY : ∀ x G1 H1, PLe G G1 → Sep G1 (keys ((bx, Res.cells [pt] [] 24) :: (hb ++ H1))) → J (elems x ws) G1 H1 → x < n → mem ws x = true → YldT Tryd.prog lr [.int .i64 (x : Nat)] G1 ((bx, .cells [pt] [] 24) :: (hb ++ H1)) fun v G2 H2 => ∃ H3, H2 = (bx, .cells [pt] [] 24) :: (hb ++ H3) ∧ ((v = .bool true ∧ J (elems x ws ++ [x]) G2 H3) ∨ (v = .bool false ∧ Jx (elems x ws ++ [x]) G2 H3)))
    (h0 : J [] G HC)
    (hR : ∀ G' H', PLe G G' → Sep G' (keys ((bx, Res.cells [pt] [] 24) :: (hb ++ H'))) → (J (elems n ws) G' H' ∨ ∃ pre, Jx pre G' H') → R (.tuple #[]) G' ((bx, .cells [pt] [] 24) :: (hb ++ H'))) :
    FnT Tryd.prog 30 [.func (.yield lr) #[] #[], .pointer (some ⟨bx, 0, none⟩)] G ((bx, .cells [pt] [] 24) :: (hb ++ HC)) R := by
  have ht0 := ht
  obtain ⟨hn, hw, hz, bs, bw, cap, sp, rfl, rfl, hcp⟩ := ht
  have hl := numsU_len (nw n) ws
  have hnw : nw n ≤ 16384 := by unfold nw; omega
  refine FnT.body tok [0, 1, 3, 4, 6, 10, 11, 12, 13, 18, 30] Tryd.func30 rfl (by kernel_rfl) (by kernel_rfl) (by show _ ≤ 32; simp) fun hsep => ?_
  rw [Tryd.results30]
  have hsE := hsep
  try simp only [keys_cons, keys_app, keys_nil, Sep_cons, Sep_nil, NotIn_cons, NotIn_app, NotIn_nil, List.cons_append, List.nil_append, List.append_assoc, and_assoc, and_true, true_and] at hsE
  repeat (obtain ⟨hsx, hsE⟩ := hsE)
  repeat' first
    | with_reducible refine Br.yes ?_
    | with_reducible refine Br.no ?_
    | with_reducible refine Br.dec (fun _ => ?_) (fun _ => ?_)
    | with_reducible refine Br.beqB (fun _ => ?_) (fun _ => ?_)
    | with_reducible refine Br.beqb (fun _ => ?_) (fun _ => ?_)
    | with_reducible refine Br.mk (fun _ => ?_) (fun _ => ?_)
    | with_reducible refine foundO.mk (fun _ _ => ?_) (fun _ => ?_)
    | with_reducible refine appV.zero ?_
    | with_reducible refine appV.own ?_
    | ((with_reducible refine NewB.mk fun nb hnb => ?_); have hnb1 := hnb.1.1; have hnb2 := hnb.1.2; try simp only [keys_cons, keys_app, keys_nil, NotIn_cons, NotIn_app, NotIn_nil, and_true] at hnb2)
    | ((with_reducible refine NewRow.mk fun nb nsp ncap hnb hncap => ?_); have hnb1 := hnb.1.1; have hnb2 := hnb.1.2; try simp only [keys_cons, keys_app, keys_nil, NotIn_cons, NotIn_app, NotIn_nil, and_true] at hnb2)
    | simp (dsimp := false) (implicitDefEqProofs := false) (disch := first | assumption | (simp only [List.mem_cons, List.mem_append, true_or, or_true, eq_self]; done) | omega | (with_reducible refine Row.adr (by assumption) ?_; simp only [List.length_map, List.length_take, List.length_drop]; omega) | (simp only [List.length_cons, List.length_nil, List.length_map, List.length_append, List.length_replicate, Nat.reduceAdd, true_and, and_true, and_self]; first | done | omega)) only [go_sem, ↓reduceIte, Nat.reduceEqDiff, Nat.reduceAdd, Nat.reduceSub, Nat.reduceMul, Nat.reduceBEq, Nat.reduceLT, Nat.reduceLeDiff, Nat.reduceMod, Nat.reducePow, List.reduceReplicate, UInt8.reduceOfNat, Int.reducePow, Int.reduceDiv, Int.reduceMod, Nat.reduceDiv, Int.reduceNeg, Int.reduceAdd, Int.reduceSub, Int.reduceMul, Int.reduceLE, Int.reduceLT, Int.reduceEq, Int.reduceToNat, decide_true, decide_false, reduceCtorEq, ne_eq, not_false_eq_true, not_true_eq_false, and_true, true_and, and_self, or_true, true_or, or_false, false_or, or_self, eq_self, Option.isNone_some, Option.isNone_none, Nat.zero_add, Nat.add_zero, Nat.mul_one, Nat.one_mul, Nat.zero_mul, List.length_cons, List.length_nil, List.getElem?_cons_zero, List.getElem?_cons_succ, List.map_cons, List.map_nil, List.append_nil]
  refine Tri.loopU tok [0, 1, 3, 4, 6, 10, 11, 12, 13, 18, 30] (by kernel_rfl) [0, 1, 10, 11, 12] (fun q G' fr H' => ∃ (k : Nat) (H1 : Heap), k + q = nw n ∧ PLe G G' ∧ J (elems (k * 64) ws) G' H1 ∧ H' = (bx, .cells [.pointer (some ⟨bs, 0, none⟩)] [] 24) :: (bs, .cells [.int .i64 n, .slice (some ⟨bw, 0, none⟩) (nw n) cap] [] 53) :: (bw, .cells (numsU (nw n) ws) sp 54) :: H1 ∧ fr = [(0, .func (.yield lr) #[] #[]), (1, .pointer (some ⟨bx, 0, none⟩)), (10, .slice (some ⟨bw, 0, none⟩) (nw n) cap), (11, .int .i64 (nw n)), (12, .int .i64 k)]) ((nw n)) ?_ ?_
  · exact Upd.now ⟨0, HC, by omega, PLe.refl _, h0, rfl, rfl⟩
  · rintro q G1 fr H' hle hs ⟨k, H1, hk, hle1, hJ, rfl, rfl⟩
    have hsE := hs
    try simp only [keys_cons, keys_app, keys_nil, Sep_cons, Sep_nil, NotIn_cons, NotIn_app, NotIn_nil, List.cons_append, List.nil_append, List.append_assoc, and_assoc, and_true, true_and] at hsE
    repeat (obtain ⟨hsx, hsE⟩ := hsE)
    by_cases hkn : k < nw n
    · have hwk := hw k
      repeat' first
        | with_reducible refine Br.yes ?_
        | with_reducible refine Br.no ?_
        | with_reducible refine Br.dec (fun _ => ?_) (fun _ => ?_)
        | with_reducible refine Br.beqB (fun _ => ?_) (fun _ => ?_)
        | with_reducible refine Br.beqb (fun _ => ?_) (fun _ => ?_)
        | with_reducible refine Br.mk (fun _ => ?_) (fun _ => ?_)
        | with_reducible refine foundO.mk (fun _ _ => ?_) (fun _ => ?_)
        | with_reducible refine appV.zero ?_
        | with_reducible refine appV.own ?_
        | ((with_reducible refine NewB.mk fun nb hnb => ?_); have hnb1 := hnb.1.1; have hnb2 := hnb.1.2; try simp only [keys_cons, keys_app, keys_nil, NotIn_cons, NotIn_app, NotIn_nil, and_true] at hnb2)
        | ((with_reducible refine NewRow.mk fun nb nsp ncap hnb hncap => ?_); have hnb1 := hnb.1.1; have hnb2 := hnb.1.2; try simp only [keys_cons, keys_app, keys_nil, NotIn_cons, NotIn_app, NotIn_nil, and_true] at hnb2)
        | simp (dsimp := false) (implicitDefEqProofs := false) (disch := first | assumption | (simp only [List.mem_cons, List.mem_append, true_or, or_true, eq_self]; done) | omega | (with_reducible refine Row.adr (by assumption) ?_; simp only [List.length_map, List.length_take, List.length_drop]; omega) | (simp only [List.length_cons, List.length_nil, List.length_map, List.length_append, List.length_replicate, Nat.reduceAdd, true_and, and_true, and_self]; first | done | omega)) only [go_sem, ↓reduceIte, Nat.reduceEqDiff, Nat.reduceAdd, Nat.reduceSub, Nat.reduceMul, Nat.reduceBEq, Nat.reduceLT, Nat.reduceLeDiff, Nat.reduceMod, Nat.reducePow, List.reduceReplicate, UInt8.reduceOfNat, Int.reducePow, Int.reduceDiv, Int.reduceMod, Nat.reduceDiv, Int.reduceNeg, Int.reduceAdd, Int.reduceSub, Int.reduceMul, Int.reduceLE, Int.reduceLT, Int.reduceEq, Int.reduceToNat, decide_true, decide_false, reduceCtorEq, ne_eq, not_false_eq_true, not_true_eq_false, and_true, true_and, and_self, or_true, true_or, or_false, false_or, or_self, eq_self, Option.isNone_some, Option.isNone_none, Nat.zero_add, Nat.add_zero, Nat.mul_one, Nat.one_mul, Nat.zero_mul, List.length_cons, List.length_nil, List.getElem?_cons_zero, List.getElem?_cons_succ, List.map_cons, List.map_nil, List.append_nil, numsU_get]
      refine Tri.loopU tok [0, 1, 3, 4, 6, 10, 11, 12, 13, 18, 30] (by kernel_rfl) [0, 1, 3, 4, 10, 11, 12] (fun q2 G' fr H' => ∃ (p w : Nat) (H2 : Heap), p + q2 = 64 ∧ w < 18446744073709551616 ∧ (∀ j, w.testBit j = ((ws k).testBit j && decide (p ≤ j))) ∧ PLe G G' ∧ J (elems (k * 64 + p) ws) G' H2 ∧ H' = (bx, .cells [.pointer (some ⟨bs, 0, none⟩)] [] 24) :: (bs, .cells [.int .i64 n, .slice (some ⟨bw, 0, none⟩) (nw n) cap] [] 53) :: (bw, .cells (numsU (nw n) ws) sp 54) :: H2 ∧ fr = [(0, .func (.yield lr) #[] #[]), (1, .pointer (some ⟨bx, 0, none⟩)), (3, .int .i64 k), (4, .int .u64 w), (10, .slice (some ⟨bw, 0, none⟩) (nw n) cap), (11, .int .i64 (nw n)), (12, .int .i64 k)]) (64) ?_ ?_
      · exact Upd.now ⟨0, ws k, H1, by omega, hwk, fun j => by simp, hle1, hJ, rfl, rfl⟩
      · rintro q2 G2 fr H' hle2 hs2 ⟨p, w, H2, hp, hwl, hwb, hle3, hJ2, rfl, rfl⟩
        have hg2 := hg.mono hle3
        by_cases hw0 : w = 0
        · subst hw0
          have hnone : ∀ i, k * 64 + p ≤ i → i < (k + 1) * 64 → mem ws i = false := fun i h1 h2 => by
            have hb := hwb (i - k * 64)
            rw [Nat.zero_testBit, decide_eq_true (by omega), Bool.and_true] at hb
            rw [show i = k * 64 + (i - k * 64) by omega, mem_at _ _ _ (by omega)]
            exact hb.symm
          have he := elems_skip (b := (k + 1) * 64) (by omega) hnone
          rw [← he] at hJ2
          repeat' first
            | with_reducible refine Br.yes ?_
            | with_reducible refine Br.no ?_
            | with_reducible refine Br.dec (fun _ => ?_) (fun _ => ?_)
            | with_reducible refine Br.beqB (fun _ => ?_) (fun _ => ?_)
            | with_reducible refine Br.beqb (fun _ => ?_) (fun _ => ?_)
            | with_reducible refine Br.mk (fun _ => ?_) (fun _ => ?_)
            | with_reducible refine foundO.mk (fun _ _ => ?_) (fun _ => ?_)
            | with_reducible refine appV.zero ?_
            | with_reducible refine appV.own ?_
            | ((with_reducible refine NewB.mk fun nb hnb => ?_); have hnb1 := hnb.1.1; have hnb2 := hnb.1.2; try simp only [keys_cons, keys_app, keys_nil, NotIn_cons, NotIn_app, NotIn_nil, and_true] at hnb2)
            | ((with_reducible refine NewRow.mk fun nb nsp ncap hnb hncap => ?_); have hnb1 := hnb.1.1; have hnb2 := hnb.1.2; try simp only [keys_cons, keys_app, keys_nil, NotIn_cons, NotIn_app, NotIn_nil, and_true] at hnb2)
            | simp (dsimp := false) (implicitDefEqProofs := false) (disch := first | assumption | (simp only [List.mem_cons, List.mem_append, true_or, or_true, eq_self]; done) | omega | (with_reducible refine Row.adr (by assumption) ?_; simp only [List.length_map, List.length_take, List.length_drop]; omega) | (simp only [List.length_cons, List.length_nil, List.length_map, List.length_append, List.length_replicate, Nat.reduceAdd, true_and, and_true, and_self]; first | done | omega)) only [go_sem, ↓reduceIte, Nat.reduceEqDiff, Nat.reduceAdd, Nat.reduceSub, Nat.reduceMul, Nat.reduceBEq, Nat.reduceLT, Nat.reduceLeDiff, Nat.reduceMod, Nat.reducePow, List.reduceReplicate, UInt8.reduceOfNat, Int.reducePow, Int.reduceDiv, Int.reduceMod, Nat.reduceDiv, Int.reduceNeg, Int.reduceAdd, Int.reduceSub, Int.reduceMul, Int.reduceLE, Int.reduceLT, Int.reduceEq, Int.reduceToNat, decide_true, decide_false, reduceCtorEq, ne_eq, not_false_eq_true, not_true_eq_false, and_true, true_and, and_self, or_true, true_or, or_false, false_or, or_self, eq_self, Option.isNone_some, Option.isNone_none, Nat.zero_add, Nat.add_zero, Nat.mul_one, Nat.one_mul, Nat.zero_mul, List.length_cons, List.length_nil, List.getElem?_cons_zero, List.getElem?_cons_succ, List.map_cons, List.map_nil, List.append_nil]
          exact Upd.now ⟨q - 1, by omega, k + 1, H2, by omega, hle3, hJ2, rfl, rfl⟩
        · obtain ⟨t, ht1, ht2, ht3, ht4⟩ := low_bit w (by omega)
          have ht64 := bit_lt hwl ht1
          have hbt := hwb t
          rw [ht1] at hbt
          simp only [Bool.true_eq, Bool.and_eq_true, decide_eq_true_eq] at hbt
          have hmem : mem ws (k * 64 + t) = true := by rw [mem_at _ _ _ ht64]; exact hbt.1
          have hlt : k * 64 + t < n := by
            rcases Nat.lt_or_ge (k * 64 + t) n with h | h
            · exact h
            · rw [hz _ h] at hmem; cases hmem
          have hskip : elems (k * 64 + t) ws = elems (k * 64 + p) ws := elems_skip (by omega) fun i h1 h2 => by
            have hb := hwb (i - k * 64)
            rw [ht2 _ (by omega), decide_eq_true (by omega), Bool.and_true] at hb
            rw [show i = k * 64 + (i - k * 64) by omega, mem_at _ _ _ (by omega)]
            exact hb.symm
          have hhit := elems_hit hmem
          have hcast : ((k : Int) * 64 + t) = ((k * 64 + t : Nat) : Int) := by simp
          have hw1 : ((w : Int) - 1).toNat = w - 1 := by omega
          have hws : w &&& (w - 1) < 18446744073709551616 := Nat.lt_of_le_of_lt Nat.and_le_left hwl
          have hw0' : (w : Int) ≠ 0 := by omega
          repeat' first
            | with_reducible refine Br.yes ?_
            | with_reducible refine Br.no ?_
            | with_reducible refine Br.dec (fun _ => ?_) (fun _ => ?_)
            | with_reducible refine Br.beqB (fun _ => ?_) (fun _ => ?_)
            | with_reducible refine Br.beqb (fun _ => ?_) (fun _ => ?_)
            | with_reducible refine Br.mk (fun _ => ?_) (fun _ => ?_)
            | with_reducible refine foundO.mk (fun _ _ => ?_) (fun _ => ?_)
            | with_reducible refine appV.zero ?_
            | with_reducible refine appV.own ?_
            | ((with_reducible refine NewB.mk fun nb hnb => ?_); have hnb1 := hnb.1.1; have hnb2 := hnb.1.2; try simp only [keys_cons, keys_app, keys_nil, NotIn_cons, NotIn_app, NotIn_nil, and_true] at hnb2)
            | ((with_reducible refine NewRow.mk fun nb nsp ncap hnb hncap => ?_); have hnb1 := hnb.1.1; have hnb2 := hnb.1.2; try simp only [keys_cons, keys_app, keys_nil, NotIn_cons, NotIn_app, NotIn_nil, and_true] at hnb2)
            | simp (dsimp := false) (implicitDefEqProofs := false) (disch := first | assumption | (simp only [List.mem_cons, List.mem_append, true_or, or_true, eq_self]; done) | omega | (with_reducible refine Row.adr (by assumption) ?_; simp only [List.length_map, List.length_take, List.length_drop]; omega) | (simp only [List.length_cons, List.length_nil, List.length_map, List.length_append, List.length_replicate, Nat.reduceAdd, true_and, and_true, and_self]; first | done | omega)) only [go_sem, ↓reduceIte, Nat.reduceEqDiff, Nat.reduceAdd, Nat.reduceSub, Nat.reduceMul, Nat.reduceBEq, Nat.reduceLT, Nat.reduceLeDiff, Nat.reduceMod, Nat.reducePow, List.reduceReplicate, UInt8.reduceOfNat, Int.reducePow, Int.reduceDiv, Int.reduceMod, Nat.reduceDiv, Int.reduceNeg, Int.reduceAdd, Int.reduceSub, Int.reduceMul, Int.reduceLE, Int.reduceLT, Int.reduceEq, Int.reduceToNat, decide_true, decide_false, reduceCtorEq, ne_eq, not_false_eq_true, not_true_eq_false, and_true, true_and, and_self, or_true, true_or, or_false, false_or, or_self, eq_self, Option.isNone_some, Option.isNone_none, Nat.zero_add, Nat.add_zero, Nat.mul_one, Nat.one_mul, Nat.zero_mul, List.length_cons, List.length_nil, List.getElem?_cons_zero, List.getElem?_cons_succ, List.map_cons, List.map_nil, List.append_nil, hw1]
            | with_reducible refine tz_t w t hwl (by omega) ht64 (ht4 64 hwl) hg2 ?_
          rw [hcast]
          rw [← hskip] at hJ2
          refine YldT.mono (hY (k * 64 + t) G2 H2 hle3 hs2 hJ2 hlt hmem) ?_
          rintro v G3 H3' hle4 hs4 ⟨H3, rfl, ⟨rfl, hJ3⟩ | ⟨rfl, hJ3⟩⟩
          · rw [← hhit] at hJ3
            repeat' first
              | with_reducible refine Br.yes ?_
              | with_reducible refine Br.no ?_
              | with_reducible refine Br.dec (fun _ => ?_) (fun _ => ?_)
              | with_reducible refine Br.beqB (fun _ => ?_) (fun _ => ?_)
              | with_reducible refine Br.beqb (fun _ => ?_) (fun _ => ?_)
              | with_reducible refine Br.mk (fun _ => ?_) (fun _ => ?_)
              | with_reducible refine foundO.mk (fun _ _ => ?_) (fun _ => ?_)
              | with_reducible refine appV.zero ?_
              | with_reducible refine appV.own ?_
              | ((with_reducible refine NewB.mk fun nb hnb => ?_); have hnb1 := hnb.1.1; have hnb2 := hnb.1.2; try simp only [keys_cons, keys_app, keys_nil, NotIn_cons, NotIn_app, NotIn_nil, and_true] at hnb2)
              | ((with_reducible refine NewRow.mk fun nb nsp ncap hnb hncap => ?_); have hnb1 := hnb.1.1; have hnb2 := hnb.1.2; try simp only [keys_cons, keys_app, keys_nil, NotIn_cons, NotIn_app, NotIn_nil, and_true] at hnb2)
              | simp (dsimp := false) (implicitDefEqProofs := false) (disch := first | assumption | (simp only [List.mem_cons, List.mem_append, true_or, or_true, eq_self]; done) | omega | (with_reducible refine Row.adr (by assumption) ?_; simp only [List.length_map, List.length_take, List.length_drop]; omega) | (simp only [List.length_cons, List.length_nil, List.length_map, List.length_append, List.length_replicate, Nat.reduceAdd, true_and, and_true, and_self]; first | done | omega)) only [go_sem, ↓reduceIte, Nat.reduceEqDiff, Nat.reduceAdd, Nat.reduceSub, Nat.reduceMul, Nat.reduceBEq, Nat.reduceLT, Nat.reduceLeDiff, Nat.reduceMod, Nat.reducePow, List.reduceReplicate, UInt8.reduceOfNat, Int.reducePow, Int.reduceDiv, Int.reduceMod, Nat.reduceDiv, Int.reduceNeg, Int.reduceAdd, Int.reduceSub, Int.reduceMul, Int.reduceLE, Int.reduceLT, Int.reduceEq, Int.reduceToNat, decide_true, decide_false, reduceCtorEq, ne_eq, not_false_eq_true, not_true_eq_false, and_true, true_and, and_self, or_true, true_or, or_false, false_or, or_self, eq_self, Option.isNone_some, Option.isNone_none, Nat.zero_add, Nat.add_zero, Nat.mul_one, Nat.one_mul, Nat.zero_mul, List.length_cons, List.length_nil, List.getElem?_cons_zero, List.getElem?_cons_succ, List.map_cons, List.map_nil, List.append_nil, hw1]
            exact Upd.now ⟨64 - (t + 1), by omega, t + 1, w &&& (w - 1), H3, by omega, hws, fun j => by
              rw [ht3]
              rcases Nat.lt_trichotomy j t with h | h | h
              · rw [ht2 j h, decide_eq_false (show ¬ t + 1 ≤ j by omega)]; simp
              · subst h; rw [decide_eq_false (show ¬ j + 1 ≤ j by omega)]; simp
              · rw [hwb, decide_eq_true (show p ≤ j by omega), decide_eq_true (show j ≠ t by omega), decide_eq_true (show t + 1 ≤ j by omega)]; simp, hle3.trans hle4, hJ3, rfl, rfl⟩
          · repeat' first
              | with_reducible refine Br.yes ?_
              | with_reducible refine Br.no ?_
              | with_reducible refine Br.dec (fun _ => ?_) (fun _ => ?_)
              | with_reducible refine Br.beqB (fun _ => ?_) (fun _ => ?_)
              | with_reducible refine Br.beqb (fun _ => ?_) (fun _ => ?_)
              | with_reducible refine Br.mk (fun _ => ?_) (fun _ => ?_)
              | with_reducible refine foundO.mk (fun _ _ => ?_) (fun _ => ?_)
              | with_reducible refine appV.zero ?_
              | with_reducible refine appV.own ?_
              | ((with_reducible refine NewB.mk fun nb hnb => ?_); have hnb1 := hnb.1.1; have hnb2 := hnb.1.2; try simp only [keys_cons, keys_app, keys_nil, NotIn_cons, NotIn_app, NotIn_nil, and_true] at hnb2)
              | ((with_reducible refine NewRow.mk fun nb nsp ncap hnb hncap => ?_); have hnb1 := hnb.1.1; have hnb2 := hnb.1.2; try simp only [keys_cons, keys_app, keys_nil, NotIn_cons, NotIn_app, NotIn_nil, and_true] at hnb2)
              | simp (dsimp := false) (implicitDefEqProofs := false) (disch := first | assumption | (simp only [List.mem_cons, List.mem_append, true_or, or_true, eq_self]; done) | omega | (with_reducible refine Row.adr (by assumption) ?_; simp only [List.length_map, List.length_take, List.length_drop]; omega) | (simp only [List.length_cons, List.length_nil, List.length_map, List.length_append, List.length_replicate, Nat.reduceAdd, true_and, and_true, and_self]; first | done | omega)) only [go_sem, ↓reduceIte, Nat.reduceEqDiff, Nat.reduceAdd, Nat.reduceSub, Nat.reduceMul, Nat.reduceBEq, Nat.reduceLT, Nat.reduceLeDiff, Nat.reduceMod, Nat.reducePow, List.reduceReplicate, UInt8.reduceOfNat, Int.reducePow, Int.reduceDiv, Int.reduceMod, Nat.reduceDiv, Int.reduceNeg, Int.reduceAdd, Int.reduceSub, Int.reduceMul, Int.reduceLE, Int.reduceLT, Int.reduceEq, Int.reduceToNat, decide_true, decide_false, reduceCtorEq, ne_eq, not_false_eq_true, not_true_eq_false, and_true, true_and, and_self, or_true, true_or, or_false, false_or, or_self, eq_self, Option.isNone_some, Option.isNone_none, Nat.zero_add, Nat.add_zero, Nat.mul_one, Nat.one_mul, Nat.zero_mul, List.length_cons, List.length_nil, List.getElem?_cons_zero, List.getElem?_cons_succ, List.map_cons, List.map_nil, List.append_nil]
            all_goals refine Upd.finL ?_ (hR G3 H3 (hle3.trans hle4) hs4 (.inr ⟨_, hJ3⟩)) ?_
            any_goals (intro fsum; first | exact Nat.le_refl _ | (simp only [List.map_append, List.map_cons, List.map_nil, List.sum_append, List.sum_cons, List.sum_nil, List.cons_append, List.nil_append]; omega))
            rfl
    · obtain rfl : k = nw n := by omega
      have he : elems (nw n * 64) ws = elems n ws := elems_skip (by unfold nw; omega) fun i h1 _ => hz i h1
      rw [he] at hJ
      repeat' first
        | with_reducible refine Br.yes ?_
        | with_reducible refine Br.no ?_
        | with_reducible refine Br.dec (fun _ => ?_) (fun _ => ?_)
        | with_reducible refine Br.beqB (fun _ => ?_) (fun _ => ?_)
        | with_reducible refine Br.beqb (fun _ => ?_) (fun _ => ?_)
        | with_reducible refine Br.mk (fun _ => ?_) (fun _ => ?_)
        | with_reducible refine foundO.mk (fun _ _ => ?_) (fun _ => ?_)
        | with_reducible refine appV.zero ?_
        | with_reducible refine appV.own ?_
        | ((with_reducible refine NewB.mk fun nb hnb => ?_); have hnb1 := hnb.1.1; have hnb2 := hnb.1.2; try simp only [keys_cons, keys_app, keys_nil, NotIn_cons, NotIn_app, NotIn_nil, and_true] at hnb2)
        | ((with_reducible refine NewRow.mk fun nb nsp ncap hnb hncap => ?_); have hnb1 := hnb.1.1; have hnb2 := hnb.1.2; try simp only [keys_cons, keys_app, keys_nil, NotIn_cons, NotIn_app, NotIn_nil, and_true] at hnb2)
        | simp (dsimp := false) (implicitDefEqProofs := false) (disch := first | assumption | (simp only [List.mem_cons, List.mem_append, true_or, or_true, eq_self]; done) | omega | (with_reducible refine Row.adr (by assumption) ?_; simp only [List.length_map, List.length_take, List.length_drop]; omega) | (simp only [List.length_cons, List.length_nil, List.length_map, List.length_append, List.length_replicate, Nat.reduceAdd, true_and, and_true, and_self]; first | done | omega)) only [go_sem, ↓reduceIte, Nat.reduceEqDiff, Nat.reduceAdd, Nat.reduceSub, Nat.reduceMul, Nat.reduceBEq, Nat.reduceLT, Nat.reduceLeDiff, Nat.reduceMod, Nat.reducePow, List.reduceReplicate, UInt8.reduceOfNat, Int.reducePow, Int.reduceDiv, Int.reduceMod, Nat.reduceDiv, Int.reduceNeg, Int.reduceAdd, Int.reduceSub, Int.reduceMul, Int.reduceLE, Int.reduceLT, Int.reduceEq, Int.reduceToNat, decide_true, decide_false, reduceCtorEq, ne_eq, not_false_eq_true, not_true_eq_false, and_true, true_and, and_self, or_true, true_or, or_false, false_or, or_self, eq_self, Option.isNone_some, Option.isNone_none, Nat.zero_add, Nat.add_zero, Nat.mul_one, Nat.one_mul, Nat.zero_mul, List.length_cons, List.length_nil, List.getElem?_cons_zero, List.getElem?_cons_succ, List.map_cons, List.map_nil, List.append_nil]
      all_goals refine Upd.finL ?_ (hR G1 H1 hle1 hs (.inl hJ)) ?_
      any_goals (intro fsum; first | exact Nat.le_refl _ | (simp only [List.map_append, List.map_cons, List.map_nil, List.sum_append, List.sum_cons, List.sum_nil, List.cons_append, List.nil_append]; omega))
      rfl
end Go.Proofs.YtagojpdkikcmpaaDoor
