/- The sets of a partition, and the least of each: contracts. -/
import Derived.Test.YtmnmihfinmcljaaDoorXd
set_option linter.unusedSimpArgs false
set_option linter.unusedVariables false
namespace Go.Proofs.YtmnmihfinmcljaaDoor
open Go Go.V Go.Proofs

theorem splice_flat (W : List (Nat → Nat)) {k : Nat} (hk : k < W.length) (ws : Nat → Nat) : splice (W.flatMap numsOf) (k * 4) (numsU 4 ws) = (W.set k ws).flatMap numsOf := by
  have hd := flatMap_drop (enc := numsOf) (m := 4) numsOf_len W (k + 1)
  have hl := numsU_len 4 ws
  have ht : ∀ (V : List (Nat → Nat)) (i : Nat), (V.flatMap numsOf).take (i * 4) = (V.take i).flatMap numsOf := by
    intro V
    induction V with
    | nil => intro i; simp
    | cons v V ih =>
      intro i
      cases i with
      | zero => simp
      | succ i =>
        rw [List.flatMap_cons, List.take_succ_cons, List.flatMap_cons, show (i + 1) * 4 = (numsOf v).length + i * 4 by rw [numsOf_len]; omega, List.take_length_add_append, ih]
  unfold splice
  rw [ht, hl, show k * 4 + 4 = (k + 1) * 4 by omega, hd, List.set_eq_take_append_cons_drop, if_pos hk, List.flatMap_append, List.flatMap_cons]
  simp [numsOf]
/-- the sets of the classes of the first c bytes, by their numbers -/
def SetsTo (l : List Int) (c : Nat) (W : List (Nat → Nat)) : Prop :=
  W.length = (tabO l).length ∧ (∀ ws ∈ W, ∀ k, ws k < 18446744073709551616) ∧ ∀ i d (hi : i < W.length), mem W[i] d = decide (d < c ∧ nD l d = i)
theorem SetsTo.all {l : List Int} (hl : l.length = 256) {W : List (Nat → Nat)} (h : SetsTo l 256 W) : SetsOf l 256 W := by
  obtain ⟨h1, h2, h3⟩ := h
  have hlt : l.take 256 = l := List.take_of_length_le (by omega)
  unfold SetsOf
  simp only [hlt]
  refine ⟨h1, h2, fun i d hi hd h4 => ?_⟩
  rw [h3 i d hi]
  refine decide_eq_decide.2 ?_
  rw [class_iff hd h4]
  exact ⟨fun h => h.2, fun h => ⟨by omega, h⟩⟩
theorem SetsTo.zero (l : List Int) : SetsTo l 0 (List.replicate (tabO l).length fun _ => 0) := by
  refine ⟨List.length_replicate, fun ws hws k => ?_, fun i d hi => ?_⟩
  · rw [(List.mem_replicate.1 hws).2]; exact Nat.zero_lt_succ _
  · rw [List.getElem_replicate, mem_none, decide_eq_false (by omega)]
theorem SetsTo.succ {l : List Int} (hl : l.length = 256) {c : Nat} (hc : c < 256) {W : List (Nat → Nat)} (h : SetsTo l c W) {n : Nat} (hn : nD l c = n) (hnl : n < W.length) : SetsTo l (c + 1) (W.set n (uacc [W[n], oneW c])) := by
  obtain ⟨h1, h2, h3⟩ := h
  have hb : ∀ f ∈ [W[n], oneW c], ∀ k, f k < 18446744073709551616 := fun f hf k => by
    rcases List.mem_cons.1 hf with h | h
    · rw [h]; exact h2 _ (List.getElem_mem hnl) k
    · rw [List.mem_singleton.1 h]; exact oneW_lt c k
  refine ⟨by rw [List.length_set]; exact h1, fun ws hws k => ?_, fun i d hi => ?_⟩
  · rcases List.mem_or_eq_of_mem_set hws with h | h
    · exact h2 _ h k
    · rw [h]; exact uacc_lt hb k
  · rw [List.length_set] at hi
    rw [List.getElem_set]
    by_cases e : n = i
    · subst e
      rw [if_pos rfl]
      have hu : uacc [W[n], oneW c] = twoW W[n] (oneW c) := by funext k; show 0 ||| _ ||| _ = _; rw [Nat.zero_or]; rfl
      rw [hu, twoW_mem, oneW_mem, h3 n d hnl, Bool.eq_iff_iff]
      simp only [Bool.or_eq_true, decide_eq_true_eq]
      constructor
      · rintro (⟨q1, q2⟩ | q)
        · exact ⟨by omega, q2⟩
        · subst q; exact ⟨by omega, hn⟩
      · rintro ⟨q1, q2⟩
        by_cases e : d = c
        · exact .inr e
        · exact .inl ⟨by omega, q2⟩
    · rw [if_neg e, h3 i d hi]
      refine decide_eq_decide.2 ⟨fun q => ⟨by omega, q.2⟩, fun q => ⟨?_, q.2⟩⟩
      rcases Nat.lt_or_ge d c with q1 | q1
      · exact q1
      · obtain rfl : d = c := by omega
        rw [hn] at q; omega
theorem rep_zero4 (n : Nat) : rep n [Value.int .u64 0, Value.int .u64 0, Value.int .u64 0, Value.int .u64 0] = (List.replicate n (fun _ : Nat => 0)).flatMap numsOf := by
  induction n with
  | zero => rfl
  | succ n ih =>
    rw [List.replicate_succ, List.flatMap_cons, ← ih]
    rfl
set_option maxHeartbeats 16000000 in
theorem psets_t {l : List Int} (hl : l.length = 256) {G : PHeap} {H : Heap} {R : Value → PHeap → Heap → Prop}
    (hR : ∀ G' v' W, PLe G G' → Sep G' (keys H) → SlM G' numsOf v' W → SetsOf l 256 W → R v' G' H) : FnT Tryd.prog 49 [agg8 l] G H R := by
  have hu8 : (u8L l).length = 256 := by rw [List.length_map, hl]
  have htk : List.take 256 (u8L l) = u8L l := List.take_of_length_le (by omega)
  have hnl : (nums l).length = 256 := by rw [nums_len, hl]
  have hu9 : (u8L (nums l)).length = 256 := by rw [List.length_map, hnl]
  have htk9 : List.take 256 (u8L (nums l)) = u8L (nums l) := List.take_of_length_le (by omega)
  have hno1 : ∀ l : List Int, (u8L l).all oneV = true := fun l => by rw [List.all_map]; exact List.all_eq_true.2 fun _ _ => rfl
  have hov : ∀ f : Nat → Int, splice (u8F f) 0 (u8L (nums l)) = u8L (nums l) := fun f => by rw [← u8F_nums hl, u8F_over]
  have htl := tabO_len l
  refine FnT.sep ?_
  refine FnT.body tok [0, 1, 2, 3, 4, 5, 6, 7, 15, 16] Tryd.func49 rfl (by kernel_rfl) (by kernel_rfl) (by show _ ≤ 36; simp) fun hsep => ?_
  rw [Tryd.results49]
  have hsE := hsep
  try simp only [keys_cons, keys_app, keys_nil, Sep_cons, Sep_nil, NotIn_cons, NotIn_app, NotIn_nil, List.cons_append, List.nil_append, List.append_assoc, and_assoc, and_true, true_and] at hsE
  repeat (obtain ⟨hsx, hsE⟩ := hsE)
  repeat' first
    | with_reducible refine Br.yes ?_
    | with_reducible refine Br.no ?_
    | with_reducible refine Br.dec (fun _ => ?_) (fun _ => ?_)
    | with_reducible refine Br.beqB (fun _ => ?_) (fun _ => ?_)
    | with_reducible refine Br.beqb (fun _ => ?_) (fun _ => ?_)
    | with_reducible refine Br.mk (fun _ => ?_) (fun _ => ?_)
    | with_reducible refine foundO.mk (fun _ _ => ?_) (fun _ => ?_)
    | with_reducible refine appV.zero ?_
    | with_reducible refine appV.own ?_
    | ((with_reducible refine NewB.mk fun nb hnb => ?_); have hnb1 := hnb.1.1; have hnb2 := hnb.1.2; try simp only [keys_cons, keys_app, keys_nil, NotIn_cons, NotIn_app, NotIn_nil, and_true] at hnb2)
    | ((with_reducible refine NewRow.mk fun nb nsp ncap hnb hncap => ?_); have hnb1 := hnb.1.1; have hnb2 := hnb.1.2; try simp only [keys_cons, keys_app, keys_nil, NotIn_cons, NotIn_app, NotIn_nil, and_true] at hnb2)
    | simp (dsimp := false) (implicitDefEqProofs := false) (disch := first | assumption | (simp only [List.mem_cons, List.mem_append, true_or, or_true, eq_self]; done) | omega | (with_reducible refine Row.adr (by assumption) ?_; simp only [List.length_map, List.length_take, List.length_drop]; omega) | (simp only [List.length_cons, List.length_nil, List.length_map, List.length_append, List.length_replicate, Nat.reduceAdd, true_and, and_true, and_self]; first | done | omega)) only [go_sem, ↓reduceIte, Nat.reduceEqDiff, Nat.reduceAdd, Nat.reduceSub, Nat.reduceMul, Nat.reduceBEq, Nat.reduceLT, Nat.reduceLeDiff, Nat.reduceMod, Nat.reducePow, List.reduceReplicate, UInt8.reduceOfNat, Int.reducePow, Int.reduceDiv, Int.reduceMod, Nat.reduceDiv, Int.reduceNeg, Int.reduceAdd, Int.reduceSub, Int.reduceMul, Int.reduceLE, Int.reduceLT, Int.reduceEq, Int.reduceToNat, reduceCtorEq, -List.reduceReplicate, List.toList_toArray, u8F_zero, u8F_len, hu8, htk]
    | with_reducible refine pnorm_t hl ?_
  rename_i b1 hb1 hb11 hb12 b3 hb3 hb31 hb32
  revert nb
  intro b5 hb5 hb51 hb52
  rw [hov, rep_zero4, Nat.sub_self, show rep 0 [Value.int .u64 0, Value.int .u64 0, Value.int .u64 0, Value.int .u64 0] = [] from rfl]
  refine Tri.loopU tok [0, 1, 2, 3, 4, 5, 6, 7, 15, 16] (by kernel_rfl) [2, 3, 5, 15] (fun q G' fr H' => ∃ (c : Nat) (W : List (Nat → Nat)), c + q = 256 ∧ G' = G ∧ SetsTo l c W ∧ H' = (b5, .cells (W.flatMap numsOf) [] 69) :: (b3, .cells (u8L (nums l)) [] 22) :: (b1, .cells (u8L l) [] 22) :: H ∧ fr = [(2, .slice none 0 0), (3, .pointer (some ⟨b3, 0, none⟩)), (5, .slice (some ⟨b5, 0, none⟩) (tabO l).length (tabO l).length), (15, .int .i64 (c : Nat))]) (256) ?_ ?_
  · exact Upd.now ⟨0, _, by omega, rfl, SetsTo.zero l, rfl, rfl⟩
  · rintro q G1 fr H' hle hs ⟨c, W, hc, rfl, hW, rfl, rfl⟩
    have hsE := hs
    try simp only [keys_cons, keys_app, keys_nil, Sep_cons, Sep_nil, NotIn_cons, NotIn_app, NotIn_nil, List.cons_append, List.nil_append, List.append_assoc, and_assoc, and_true, true_and] at hsE
    repeat (obtain ⟨hsx, hsE⟩ := hsE)
    obtain ⟨hW1, hW2, hW3⟩ := id hW
    have hfl := flatMap_len (enc := numsOf) (m := 4) numsOf_len W
    by_cases hcl : c < 256
    · obtain ⟨q1, q2⟩ := nums_bound (List.getElem_mem (l := nums l) (n := c) (by omega))
      obtain ⟨n, hn⟩ := Int.eq_ofNat_of_zero_le q1
      have hnW : n < W.length := by omega
      have hnd : nD l c = n := by unfold nD; rw [List.getD_eq_getElem?_getD, List.getElem?_eq_getElem (by omega), ← hn]; rfl
      have hget := u8_get (l := nums l) (i := c) (by omega) []
      rw [List.append_nil, hn] at hget
      have hget2 := flatMap_get (enc := numsOf) (m := 4) numsOf_len W n hnW
      have hget3 : List.take 4 (List.drop (n * 4) (W.flatMap numsOf)) = numsU 4 W[n] := hget2
      have hmul : (n + 1) * 4 ≤ W.length * 4 := Nat.mul_le_mul_right _ hnW
      have hc8 : IntKind.u8.wrap (c : Int) = (c : Int) := u8_wrap hcl
      have hS := hW.succ hl hcl hnd hnW
      have hr1 : ∀ v : Value, List.replicate 1 v = [v] := fun _ => rfl
      have hr8 : ∀ v : Value, List.replicate 8 v = [v, v, v, v, v, v, v, v] := fun _ => rfl
      have hl4 := numsU_len 4
      obtain ⟨Z, hZ⟩ : ∃ Z, Z = rep 2 [Value.int .u64 0, Value.int .u64 0, Value.int .u64 0, Value.int .u64 0] := ⟨_, rfl⟩
      have hZl : Z.length = 8 := by rw [hZ]; rfl
      have hspl1 : ∀ f, splice Z 0 (numsU 4 f) = numsU 4 f ++ Z.drop 4 := fun f => by unfold splice; rw [List.take_zero, List.nil_append, hl4]
      have hspl2 : ∀ f g, splice (numsU 4 f ++ Z.drop 4) 4 (numsU 4 g) = [f, g].flatMap numsOf := fun f g => by
        unfold splice
        rw [List.take_append_of_le_length (by rw [hl4]; omega), List.take_of_length_le (by rw [hl4]; omega), List.drop_of_length_le (by rw [List.length_append, hl4, hl4, List.length_drop, hZl]; omega)]
        simp [numsOf]
      have hspll : ∀ f, (numsU 4 f ++ Z.drop 4).length = 8 := fun f => by rw [List.length_append, hl4, List.length_drop, hZl]
      repeat' first
        | with_reducible refine Br.yes ?_
        | with_reducible refine Br.no ?_
        | with_reducible refine Br.dec (fun _ => ?_) (fun _ => ?_)
        | with_reducible refine Br.beqB (fun _ => ?_) (fun _ => ?_)
        | with_reducible refine Br.beqb (fun _ => ?_) (fun _ => ?_)
        | with_reducible refine Br.mk (fun _ => ?_) (fun _ => ?_)
        | with_reducible refine foundO.mk (fun _ _ => ?_) (fun _ => ?_)
        | with_reducible refine appV.zero ?_
        | with_reducible refine appV.own ?_
        | ((with_reducible refine NewB.mk fun nb hnb => ?_); have hnb1 := hnb.1.1; have hnb2 := hnb.1.2; try simp only [keys_cons, keys_app, keys_nil, NotIn_cons, NotIn_app, NotIn_nil, and_true] at hnb2)
        | ((with_reducible refine NewRow.mk fun nb nsp ncap hnb hncap => ?_); have hnb1 := hnb.1.1; have hnb2 := hnb.1.2; try simp only [keys_cons, keys_app, keys_nil, NotIn_cons, NotIn_app, NotIn_nil, and_true] at hnb2)
        | simp (dsimp := false) (implicitDefEqProofs := false) (disch := first | assumption | (simp only [List.mem_cons, List.mem_append, true_or, or_true, eq_self]; done) | omega | (with_reducible refine Row.adr (by assumption) ?_; simp only [List.length_map, List.length_take, List.length_drop]; omega) | (simp only [List.length_cons, List.length_nil, List.length_map, List.length_append, List.length_replicate, Nat.reduceAdd, true_and, and_true, and_self]; first | done | omega)) only [go_sem, ↓reduceIte, Nat.reduceEqDiff, Nat.reduceAdd, Nat.reduceSub, Nat.reduceMul, Nat.reduceBEq, Nat.reduceLT, Nat.reduceLeDiff, Nat.reduceMod, Nat.reducePow, List.reduceReplicate, UInt8.reduceOfNat, Int.reducePow, Int.reduceDiv, Int.reduceMod, Nat.reduceDiv, Int.reduceNeg, Int.reduceAdd, Int.reduceSub, Int.reduceMul, Int.reduceLE, Int.reduceLT, Int.reduceEq, Int.reduceToNat, reduceCtorEq, -List.reduceReplicate, hr1, List.toList_toArray, hu9, hget, hfl, hget3, hl4, hc8, numsU_one, Int.toNat_natCast]
        | with_reducible refine Tri.drawS tok mixed [0, 1, 2, 3, 4, 5, 6, 7, 15, 16] 7 [5] (.op 0 .plain (.op 1 .plain (.op 2 .plain (.op 3 .plain (.op 4 .plain (.op 5 .held (.op 6 .plain (.op 7 .plain (.op 8 .keeps (.op 9 .keeps (.op 10 .plain (.op 11 .keeps (.op 12 .plain (.op 13 .plain .nil)))))))))))))) (by kernel_rfl) [(b5, .cells (W.flatMap numsOf) [] 69)] (by intro fsum; first | exact Nat.le_refl _ | (simp only [List.map_append, List.map_cons, List.map_nil, List.sum_append, List.sum_cons, List.sum_nil, List.cons_append, List.nil_append]; omega)) ?_
      refine sof_t (e := 5) hcl hnb1 (by simp [findH]) ?_
      repeat' first
        | with_reducible refine Br.yes ?_
        | with_reducible refine Br.no ?_
        | with_reducible refine Br.dec (fun _ => ?_) (fun _ => ?_)
        | with_reducible refine Br.beqB (fun _ => ?_) (fun _ => ?_)
        | with_reducible refine Br.beqb (fun _ => ?_) (fun _ => ?_)
        | with_reducible refine Br.mk (fun _ => ?_) (fun _ => ?_)
        | with_reducible refine foundO.mk (fun _ _ => ?_) (fun _ => ?_)
        | with_reducible refine appV.zero ?_
        | with_reducible refine appV.own ?_
        | ((with_reducible refine NewB.mk fun nb hnb => ?_); have hnb1 := hnb.1.1; have hnb2 := hnb.1.2; try simp only [keys_cons, keys_app, keys_nil, NotIn_cons, NotIn_app, NotIn_nil, and_true] at hnb2)
        | ((with_reducible refine NewRow.mk fun nb nsp ncap hnb hncap => ?_); have hnb1 := hnb.1.1; have hnb2 := hnb.1.2; try simp only [keys_cons, keys_app, keys_nil, NotIn_cons, NotIn_app, NotIn_nil, and_true] at hnb2)
        | simp (dsimp := false) (implicitDefEqProofs := false) (disch := first | assumption | (simp only [List.mem_cons, List.mem_append, true_or, or_true, eq_self]; done) | omega | (with_reducible refine Row.adr (by assumption) ?_; simp only [List.length_map, List.length_take, List.length_drop]; omega) | (simp only [List.length_cons, List.length_nil, List.length_map, List.length_append, List.length_replicate, Nat.reduceAdd, true_and, and_true, and_self]; first | done | omega)) only [go_sem, ↓reduceIte, Nat.reduceEqDiff, Nat.reduceAdd, Nat.reduceSub, Nat.reduceMul, Nat.reduceBEq, Nat.reduceLT, Nat.reduceLeDiff, Nat.reduceMod, Nat.reducePow, List.reduceReplicate, UInt8.reduceOfNat, Int.reducePow, Int.reduceDiv, Int.reduceMod, Nat.reduceDiv, Int.reduceNeg, Int.reduceAdd, Int.reduceSub, Int.reduceMul, Int.reduceLE, Int.reduceLT, Int.reduceEq, Int.reduceToNat, reduceCtorEq, -List.reduceReplicate, hr1, hr8, List.toList_toArray, hu9, hget, hfl, hget3, hl4, hc8, numsU_one, Int.toNat_natCast, ← hZ, hZl, hspl1, hspll, hspl2]
      refine sunion_t (l := [W[n], oneW c]) (e := 69) (sp := []) (by simp) (fun f hf => ?_) (by assumption) (by simp [findH]) ?_
      · rcases List.mem_cons.1 hf with h | h
        · rw [h]; exact hW2 _ (List.getElem_mem hnW)
        · rw [List.mem_singleton.1 h]; exact oneW_lt c
      have hfl2 := flatMap_len (enc := numsOf) (m := 4) numsOf_len (W.set n (uacc [W[n], oneW c]))
      have hspf := splice_flat W hnW (uacc [W[n], oneW c])
      repeat' first
        | with_reducible refine Br.yes ?_
        | with_reducible refine Br.no ?_
        | with_reducible refine Br.dec (fun _ => ?_) (fun _ => ?_)
        | with_reducible refine Br.beqB (fun _ => ?_) (fun _ => ?_)
        | with_reducible refine Br.beqb (fun _ => ?_) (fun _ => ?_)
        | with_reducible refine Br.mk (fun _ => ?_) (fun _ => ?_)
        | with_reducible refine foundO.mk (fun _ _ => ?_) (fun _ => ?_)
        | with_reducible refine appV.zero ?_
        | with_reducible refine appV.own ?_
        | ((with_reducible refine NewB.mk fun nb hnb => ?_); have hnb1 := hnb.1.1; have hnb2 := hnb.1.2; try simp only [keys_cons, keys_app, keys_nil, NotIn_cons, NotIn_app, NotIn_nil, and_true] at hnb2)
        | ((with_reducible refine NewRow.mk fun nb nsp ncap hnb hncap => ?_); have hnb1 := hnb.1.1; have hnb2 := hnb.1.2; try simp only [keys_cons, keys_app, keys_nil, NotIn_cons, NotIn_app, NotIn_nil, and_true] at hnb2)
        | simp (dsimp := false) (implicitDefEqProofs := false) (disch := first | assumption | (simp only [List.mem_cons, List.mem_append, true_or, or_true, eq_self]; done) | omega | (with_reducible refine Row.adr (by assumption) ?_; simp only [List.length_map, List.length_take, List.length_drop]; omega) | (simp only [List.length_cons, List.length_nil, List.length_map, List.length_append, List.length_replicate, Nat.reduceAdd, true_and, and_true, and_self]; first | done | omega)) only [go_sem, ↓reduceIte, Nat.reduceEqDiff, Nat.reduceAdd, Nat.reduceSub, Nat.reduceMul, Nat.reduceBEq, Nat.reduceLT, Nat.reduceLeDiff, Nat.reduceMod, Nat.reducePow, List.reduceReplicate, UInt8.reduceOfNat, Int.reducePow, Int.reduceDiv, Int.reduceMod, Nat.reduceDiv, Int.reduceNeg, Int.reduceAdd, Int.reduceSub, Int.reduceMul, Int.reduceLE, Int.reduceLT, Int.reduceEq, Int.reduceToNat, reduceCtorEq, -List.reduceReplicate, List.toList_toArray, hfl, hl4, numsU_one, hspf]
      exact Upd.go (H' := (b5, .cells ((W.set n (uacc [W[n], oneW c])).flatMap numsOf) [] 69) :: (b3, .cells (u8L (nums l)) [] 22) :: (b1, .cells (u8L l) [] 22) :: H) (by intro fsum; first | exact Nat.le_refl _ | (simp only [List.map_append, List.map_cons, List.map_nil, List.sum_append, List.sum_cons, List.sum_nil, List.cons_append, List.nil_append]; omega)) (Upd.now ⟨q - 1, by omega, c + 1, _, by omega, rfl, hS, rfl, rfl⟩)
    · obtain rfl : c = 256 := by omega
      repeat' first
        | with_reducible refine Br.yes ?_
        | with_reducible refine Br.no ?_
        | with_reducible refine Br.dec (fun _ => ?_) (fun _ => ?_)
        | with_reducible refine Br.beqB (fun _ => ?_) (fun _ => ?_)
        | with_reducible refine Br.beqb (fun _ => ?_) (fun _ => ?_)
        | with_reducible refine Br.mk (fun _ => ?_) (fun _ => ?_)
        | with_reducible refine foundO.mk (fun _ _ => ?_) (fun _ => ?_)
        | with_reducible refine appV.zero ?_
        | with_reducible refine appV.own ?_
        | ((with_reducible refine NewB.mk fun nb hnb => ?_); have hnb1 := hnb.1.1; have hnb2 := hnb.1.2; try simp only [keys_cons, keys_app, keys_nil, NotIn_cons, NotIn_app, NotIn_nil, and_true] at hnb2)
        | ((with_reducible refine NewRow.mk fun nb nsp ncap hnb hncap => ?_); have hnb1 := hnb.1.1; have hnb2 := hnb.1.2; try simp only [keys_cons, keys_app, keys_nil, NotIn_cons, NotIn_app, NotIn_nil, and_true] at hnb2)
        | simp (dsimp := false) (implicitDefEqProofs := false) (disch := first | assumption | (simp only [List.mem_cons, List.mem_append, true_or, or_true, eq_self]; done) | omega | (with_reducible refine Row.adr (by assumption) ?_; simp only [List.length_map, List.length_take, List.length_drop]; omega) | (simp only [List.length_cons, List.length_nil, List.length_map, List.length_append, List.length_replicate, Nat.reduceAdd, true_and, and_true, and_self]; first | done | omega)) only [go_sem, ↓reduceIte, Nat.reduceEqDiff, Nat.reduceAdd, Nat.reduceSub, Nat.reduceMul, Nat.reduceBEq, Nat.reduceLT, Nat.reduceLeDiff, Nat.reduceMod, Nat.reducePow, List.reduceReplicate, UInt8.reduceOfNat, Int.reducePow, Int.reduceDiv, Int.reduceMod, Nat.reduceDiv, Int.reduceNeg, Int.reduceAdd, Int.reduceSub, Int.reduceMul, Int.reduceLE, Int.reduceLT, Int.reduceEq, Int.reduceToNat, reduceCtorEq, -List.reduceReplicate]
      unfold UpdR
      refine Upd.go (H' := (b5, .cells (W.flatMap numsOf) [] 69) :: H) (by intro fsum; first | exact Nat.le_refl _ | (simp only [List.map_append, List.map_cons, List.map_nil, List.sum_append, List.sum_cons, List.sum_nil, List.cons_append, List.nil_append]; omega)) (Upd.shareRow (by assumption) fun G2 hle2 hs2 hr2 => ?_)
      exact fun _ hs => hR G2 _ W hle2 hs ⟨some ⟨b5, 0, none⟩, _, by rw [hW1], hr2, by omega⟩ (hW.all hl)
end Go.Proofs.YtmnmihfinmcljaaDoor
