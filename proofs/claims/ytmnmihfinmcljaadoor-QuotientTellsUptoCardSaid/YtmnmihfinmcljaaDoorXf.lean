/- The least byte of each class: contracts. -/
import Derived.Test.YtmnmihfinmcljaaDoorXe
set_option linter.unusedSimpArgs false
set_option linter.unusedVariables false
namespace Go.Proofs.YtmnmihfinmcljaaDoor
open Go Go.V Go.Proofs

def leastL (l : List Int) : List Int := (tabO l).map (findF l)
theorem leastL_len (l : List Int) : (leastL l).length = (tabO l).length := by simp [leastL]
/-- the first byte of a class -/
theorem least_at {l : List Int} (hl : l.length = 256) {W : List (Nat → Nat)} (hW : SetsOf l 256 W) {i : Nat} (hi : i < W.length) : ∃ (x : Nat) (h : i < (leastL l).length), (leastL l)[i] = (x : Nat) ∧ x < 256 ∧ mem W[i] x = true ∧ ∀ y, y < x → mem W[i] y = false := by
  obtain ⟨h1, h2, h3⟩ := hW
  have hlt : l.take 256 = l := List.take_of_length_le (by omega)
  simp only [hlt] at h1 h3
  have hit : i < (tabO l).length := by omega
  have hin : (tabO l)[i] ∈ l := (mem_tabO l).1 (List.getElem_mem hit)
  obtain ⟨x, hx⟩ := place_mem hin
  obtain ⟨hx1, hx2⟩ := place_some hx
  rw [List.getElem?_eq_getElem hx1, Option.some.injEq] at hx2
  refine ⟨x, by rw [leastL_len]; exact hit, by simp only [leastL, List.getElem_map]; exact findF_some hx, by omega, ?_, fun y hy => ?_⟩
  · rw [h3 i x hi hx1 hit]; exact decide_eq_true hx2
  · rw [h3 i y hi (by omega) hit]
    refine decide_eq_false fun e => ?_
    unfold place at hx
    rw [List.findIdx?_eq_some_iff_getElem] at hx
    obtain ⟨h5, h6, h7⟩ := hx
    have := h7 y hy
    simp only [e, decide_true, not_true_eq_false] at this
theorem take_snoc {l : List Int} {i : Nat} (h : i < l.length) : (l.take (i + 1)).map (Value.int .u8) = (l.take i).map (Value.int .u8) ++ [Value.int .u8 l[i]] := by
  rw [List.take_succ_eq_append_getElem h, List.map_append]; rfl
set_option maxHeartbeats 16000000 in
theorem pleasts_t {l : List Int} (hl : l.length = 256) {G : PHeap} {H : Heap} {R : Value → PHeap → Heap → Prop} (hg : HasTab G)
    (hR : ∀ G' v', PLe G G' → Sep G' (keys H) → Sl G' (Value.int .u8) v' (leastL l) → R v' G' H) : FnT Tryd.prog 24 [agg8 l] G H R := by
  have hu8 : (u8L l).length = 256 := by rw [List.length_map, hl]
  have htk : List.take 256 (u8L l) = u8L l := List.take_of_length_le (by omega)
  have hno1 : ∀ l : List Int, (u8L l).all oneV = true := fun l => by rw [List.all_map]; exact List.all_eq_true.2 fun _ _ => rfl
  have hll := leastL_len l
  have htl := tabO_len l
  refine FnT.sep ?_
  refine FnT.body tok [0, 1, 2, 3, 5, 7, 8, 9, 10] Tryd.func24 rfl (by kernel_rfl) (by kernel_rfl) (by show _ ≤ 21; simp) fun hsep => ?_
  rw [Tryd.results24]
  have hsE := hsep
  try simp only [keys_cons, keys_app, keys_nil, Sep_cons, Sep_nil, NotIn_cons, NotIn_app, NotIn_nil, List.cons_append, List.nil_append, List.append_assoc, and_assoc, and_true, true_and] at hsE
  repeat (obtain ⟨hsx, hsE⟩ := hsE)
  repeat' first
    | with_reducible refine Br.yes ?_
    | with_reducible refine Br.no ?_
    | with_reducible refine Br.dec (fun _ => ?_) (fun _ => ?_)
    | with_reducible refine Br.beqB (fun _ => ?_) (fun _ => ?_)
    | with_reducible refine Br.beqb (fun _ => ?_) (fun _ => ?_)
    | with_reducible refine Br.mk (fun _ => ?_) (fun _ => ?_)
    | with_reducible refine foundO.mk (fun _ _ => ?_) (fun _ => ?_)
    | with_reducible refine appV.zero ?_
    | with_reducible refine appV.own ?_
    | ((with_reducible refine NewB.mk fun nb hnb => ?_); have hnb1 := hnb.1.1; have hnb2 := hnb.1.2; try simp only [keys_cons, keys_app, keys_nil, NotIn_cons, NotIn_app, NotIn_nil, and_true] at hnb2)
    | ((with_reducible refine NewRow.mk fun nb nsp ncap hnb hncap => ?_); have hnb1 := hnb.1.1; have hnb2 := hnb.1.2; try simp only [keys_cons, keys_app, keys_nil, NotIn_cons, NotIn_app, NotIn_nil, and_true] at hnb2)
    | simp (dsimp := false) (implicitDefEqProofs := false) (disch := first | assumption | (simp only [List.mem_cons, List.mem_append, true_or, or_true, eq_self]; done) | omega | (with_reducible refine Row.adr (by assumption) ?_; simp only [List.length_map, List.length_take, List.length_drop]; omega) | (simp only [List.length_cons, List.length_nil, List.length_map, List.length_append, List.length_replicate, Nat.reduceAdd, true_and, and_true, and_self]; first | done | omega)) only [go_sem, ↓reduceIte, Nat.reduceEqDiff, Nat.reduceAdd, Nat.reduceSub, Nat.reduceMul, Nat.reduceBEq, Nat.reduceLT, Nat.reduceLeDiff, Nat.reduceMod, Nat.reducePow, List.reduceReplicate, UInt8.reduceOfNat, Int.reducePow, Int.reduceDiv, Int.reduceMod, Nat.reduceDiv, Int.reduceNeg, Int.reduceAdd, Int.reduceSub, Int.reduceMul, Int.reduceLE, Int.reduceLT, Int.reduceEq, Int.reduceToNat, reduceCtorEq, -List.reduceReplicate, List.toList_toArray, u8F_zero, u8F_len, hu8, htk]
  revert nb
  intro b1 hb1 hb11 hb12
  refine psets_t hl fun G2 v2 W hle2 hs2 hsl hW => ?_
  obtain ⟨a, cap, rfl, hrow, hcap⟩ := hsl
  have hWl : W.length = (tabO l).length := by
    have := hW.1
    rwa [List.take_of_length_le (by omega)] at this
  have hg2 := hg.mono hle2
  have hsE := hs2
  try simp only [keys_cons, keys_app, keys_nil, Sep_cons, Sep_nil, NotIn_cons, NotIn_app, NotIn_nil, List.cons_append, List.nil_append, List.append_assoc, and_assoc, and_true, true_and] at hsE
  repeat (obtain ⟨hsx, hsE⟩ := hsE)
  repeat' first
    | with_reducible refine Br.yes ?_
    | with_reducible refine Br.no ?_
    | with_reducible refine Br.dec (fun _ => ?_) (fun _ => ?_)
    | with_reducible refine Br.beqB (fun _ => ?_) (fun _ => ?_)
    | with_reducible refine Br.beqb (fun _ => ?_) (fun _ => ?_)
    | with_reducible refine Br.mk (fun _ => ?_) (fun _ => ?_)
    | with_reducible refine foundO.mk (fun _ _ => ?_) (fun _ => ?_)
    | with_reducible refine appV.zero ?_
    | with_reducible refine appV.own ?_
    | ((with_reducible refine NewB.mk fun nb hnb => ?_); have hnb1 := hnb.1.1; have hnb2 := hnb.1.2; try simp only [keys_cons, keys_app, keys_nil, NotIn_cons, NotIn_app, NotIn_nil, and_true] at hnb2)
    | ((with_reducible refine NewRow.mk fun nb nsp ncap hnb hncap => ?_); have hnb1 := hnb.1.1; have hnb2 := hnb.1.2; try simp only [keys_cons, keys_app, keys_nil, NotIn_cons, NotIn_app, NotIn_nil, and_true] at hnb2)
    | simp (dsimp := false) (implicitDefEqProofs := false) (disch := first | assumption | (simp only [List.mem_cons, List.mem_append, true_or, or_true, eq_self]; done) | omega | (with_reducible refine Row.adr (by assumption) ?_; simp only [List.length_map, List.length_take, List.length_drop]; omega) | (simp only [List.length_cons, List.length_nil, List.length_map, List.length_append, List.length_replicate, Nat.reduceAdd, true_and, and_true, and_self]; first | done | omega)) only [go_sem, ↓reduceIte, Nat.reduceEqDiff, Nat.reduceAdd, Nat.reduceSub, Nat.reduceMul, Nat.reduceBEq, Nat.reduceLT, Nat.reduceLeDiff, Nat.reduceMod, Nat.reducePow, List.reduceReplicate, UInt8.reduceOfNat, Int.reducePow, Int.reduceDiv, Int.reduceMod, Nat.reduceDiv, Int.reduceNeg, Int.reduceAdd, Int.reduceSub, Int.reduceMul, Int.reduceLE, Int.reduceLT, Int.reduceEq, Int.reduceToNat, reduceCtorEq, -List.reduceReplicate, List.toList_toArray]
  refine Tri.loopU tok [0, 1, 2, 3, 5, 7, 8, 9, 10] (by kernel_rfl) [2, 3, 7, 8, 9] (fun q G' fr H' => ∃ (i : Nat) (v : Value) (kb : Heap), i + q = W.length ∧ G' = G2 ∧ SliceO [] 5 1 v i ((leastL l).take i |>.map (Value.int .u8)) kb ∧ H' = (b1, .cells (u8L l) [] 22) :: (kb ++ H) ∧ fr = [(2, .slice none 0 0), (3, v), (7, .slice a W.length cap), (8, .int .i64 W.length), (9, .int .i64 i)]) (W.length) ?_ ?_
  · exact Upd.now ⟨0, _, [], by omega, rfl, .inl ⟨none, rfl, rfl, rfl, rfl⟩, rfl, rfl⟩
  · rintro q G1 fr H' hle hs ⟨i, v, kb, hi, rfl, hv, rfl, rfl⟩
    by_cases hil : i < W.length
    · have had : Adr a := hrow.adr (by rw [flatMap_len numsOf_len]; omega)
      obtain ⟨x, hx1, hx2, hx3, hx4, hx5⟩ := least_at hl hW hil
      have hsn := take_snoc hx1
      rw [hx2] at hsn
      have hx8 : IntKind.u8.wrap (x : Int) = (x : Int) := u8_wrap hx3
      have hws := hW.2.1 _ (List.getElem_mem hil)
      have hl4 := numsU_len 4
      have hr1 : ∀ v : Value, List.replicate 1 v = [v] := fun _ => rfl
      have hob : numsOf = numsU 4 := rfl
      have hlt : ((leastL l).take i).length = i := by rw [List.length_take]; omega
      rcases hv with ⟨a0, rfl, hn, hx, rfl⟩ | ⟨b2, c2, sp, rfl, rfl, hx, hc⟩
      · have hsE := hs
        try simp only [keys_cons, keys_app, keys_nil, Sep_cons, Sep_nil, NotIn_cons, NotIn_app, NotIn_nil, List.cons_append, List.nil_append, List.append_assoc, and_assoc, and_true, true_and] at hsE
        repeat (obtain ⟨hsx, hsE⟩ := hsE)
        repeat' first
          | with_reducible refine Br.yes ?_
          | with_reducible refine Br.no ?_
          | with_reducible refine Br.dec (fun _ => ?_) (fun _ => ?_)
          | with_reducible refine Br.beqB (fun _ => ?_) (fun _ => ?_)
          | with_reducible refine Br.beqb (fun _ => ?_) (fun _ => ?_)
          | with_reducible refine Br.mk (fun _ => ?_) (fun _ => ?_)
          | with_reducible refine foundO.mk (fun _ _ => ?_) (fun _ => ?_)
          | with_reducible refine appV.zero ?_
          | with_reducible refine appV.own ?_
          | ((with_reducible refine NewB.mk fun nb hnb => ?_); have hnb1 := hnb.1.1; have hnb2 := hnb.1.2; try simp only [keys_cons, keys_app, keys_nil, NotIn_cons, NotIn_app, NotIn_nil, and_true] at hnb2)
          | ((with_reducible refine NewRow.mk fun nb nsp ncap hnb hncap => ?_); have hnb1 := hnb.1.1; have hnb2 := hnb.1.2; try simp only [keys_cons, keys_app, keys_nil, NotIn_cons, NotIn_app, NotIn_nil, and_true] at hnb2)
          | simp (dsimp := false) (implicitDefEqProofs := false) (disch := first | assumption | (simp only [List.mem_cons, List.mem_append, true_or, or_true, eq_self]; done) | omega | (with_reducible refine Row.adr (by assumption) ?_; simp only [List.length_map, List.length_take, List.length_drop]; omega) | (simp only [List.length_cons, List.length_nil, List.length_map, List.length_append, List.length_replicate, Nat.reduceAdd, true_and, and_true, and_self]; first | done | omega)) only [go_sem, ↓reduceIte, Nat.reduceEqDiff, Nat.reduceAdd, Nat.reduceSub, Nat.reduceMul, Nat.reduceBEq, Nat.reduceLT, Nat.reduceLeDiff, Nat.reduceMod, Nat.reducePow, List.reduceReplicate, UInt8.reduceOfNat, Int.reducePow, Int.reduceDiv, Int.reduceMod, Nat.reduceDiv, Int.reduceNeg, Int.reduceAdd, Int.reduceSub, Int.reduceMul, Int.reduceLE, Int.reduceLT, Int.reduceEq, Int.reduceToNat, reduceCtorEq, -List.reduceReplicate, hr1, List.toList_toArray, Row.objsM hrow numsOf_len (by decide) hil, hob, hl4, numsU_one, numsU_over, numsU_all, hx8]
          | with_reducible refine sleast_t hws hx3 hx4 hx5 hg2 ?_
        have hce : ((leastL l).take (i + 1)).map (Value.int .u8) = [Value.int .u8 (x : Nat)] := by rw [hsn, hx]; rfl
        rw [← hce]
        have hlt1 : ((leastL l).take (i + 1)).length = i + 1 := by rw [List.length_take]; omega
        exact Upd.go (H' := (b1, .cells (u8L l) [] 22) :: ([(nb, .cells (((leastL l).take (i + 1)).map (Value.int .u8)) nsp 5)] ++ H)) (by intro fsum; first | exact Nat.le_refl _ | (simp only [List.map_append, List.map_cons, List.map_nil, List.sum_append, List.sum_cons, List.sum_nil, List.cons_append, List.nil_append]; omega)) (Upd.now ⟨q - 1, by omega, i + 1, .slice (some ⟨nb, 0, none⟩) (i + 1) ncap, [_], by omega, rfl, .inr ⟨nb, ncap, nsp, rfl, rfl, by rw [List.length_map, hlt1, Nat.mul_one], by rw [hce]; simp at hncap ⊢; omega⟩, rfl, by obtain rfl : i = 0 := hn; rfl⟩)
      · have hsE := hs
        try simp only [keys_cons, keys_app, keys_nil, Sep_cons, Sep_nil, NotIn_cons, NotIn_app, NotIn_nil, List.cons_append, List.nil_append, List.append_assoc, and_assoc, and_true, true_and] at hsE
        repeat (obtain ⟨hsx, hsE⟩ := hsE)
        repeat' first
          | with_reducible refine Br.yes ?_
          | with_reducible refine Br.no ?_
          | with_reducible refine Br.dec (fun _ => ?_) (fun _ => ?_)
          | with_reducible refine Br.beqB (fun _ => ?_) (fun _ => ?_)
          | with_reducible refine Br.beqb (fun _ => ?_) (fun _ => ?_)
          | with_reducible refine Br.mk (fun _ => ?_) (fun _ => ?_)
          | with_reducible refine foundO.mk (fun _ _ => ?_) (fun _ => ?_)
          | with_reducible refine appV.zero ?_
          | with_reducible refine appV.own ?_
          | ((with_reducible refine NewB.mk fun nb hnb => ?_); have hnb1 := hnb.1.1; have hnb2 := hnb.1.2; try simp only [keys_cons, keys_app, keys_nil, NotIn_cons, NotIn_app, NotIn_nil, and_true] at hnb2)
          | ((with_reducible refine NewRow.mk fun nb nsp ncap hnb hncap => ?_); have hnb1 := hnb.1.1; have hnb2 := hnb.1.2; try simp only [keys_cons, keys_app, keys_nil, NotIn_cons, NotIn_app, NotIn_nil, and_true] at hnb2)
          | simp (dsimp := false) (implicitDefEqProofs := false) (disch := first | assumption | (simp only [List.mem_cons, List.mem_append, true_or, or_true, eq_self]; done) | omega | (with_reducible refine Row.adr (by assumption) ?_; simp only [List.length_map, List.length_take, List.length_drop]; omega) | (simp only [List.length_cons, List.length_nil, List.length_map, List.length_append, List.length_replicate, Nat.reduceAdd, true_and, and_true, and_self]; first | done | omega)) only [go_sem, ↓reduceIte, Nat.reduceEqDiff, Nat.reduceAdd, Nat.reduceSub, Nat.reduceMul, Nat.reduceBEq, Nat.reduceLT, Nat.reduceLeDiff, Nat.reduceMod, Nat.reducePow, List.reduceReplicate, UInt8.reduceOfNat, Int.reducePow, Int.reduceDiv, Int.reduceMod, Nat.reduceDiv, Int.reduceNeg, Int.reduceAdd, Int.reduceSub, Int.reduceMul, Int.reduceLE, Int.reduceLT, Int.reduceEq, Int.reduceToNat, reduceCtorEq, -List.reduceReplicate, hr1, List.toList_toArray, Row.objsM hrow numsOf_len (by decide) hil, hob, hl4, numsU_one, numsU_over, numsU_all, hx8, List.length_map]
          | with_reducible refine sleast_t hws hx3 hx4 hx5 hg2 ?_
        have hlt1 : ((leastL l).take (i + 1)).length = i + 1 := by rw [List.length_take]; omega
        rw [← hsn]
        exact Upd.go (H' := (b1, .cells (u8L l) [] 22) :: ([(nb, .cells (((leastL l).take (i + 1)).map (Value.int .u8)) nsp 5)] ++ H)) (by intro fsum; first | exact Nat.le_refl _ | (simp only [List.map_append, List.map_cons, List.map_nil, List.sum_append, List.sum_cons, List.sum_nil, List.cons_append, List.nil_append]; omega)) (Upd.now ⟨q - 1, by omega, i + 1, .slice (some ⟨nb, 0, none⟩) (i + 1) ncap, [_], by omega, rfl, .inr ⟨nb, ncap, nsp, rfl, rfl, by rw [List.length_map, hlt1, Nat.mul_one], by rw [List.length_map, hlt1]; simp [hlt] at hncap ⊢; omega⟩, rfl, rfl⟩)
    · obtain rfl : i = W.length := by omega
      have hall : (leastL l).take W.length = leastL l := List.take_of_length_le (by omega)
      rw [hall] at hv
      repeat' first
        | with_reducible refine Br.yes ?_
        | with_reducible refine Br.no ?_
        | with_reducible refine Br.dec (fun _ => ?_) (fun _ => ?_)
        | with_reducible refine Br.beqB (fun _ => ?_) (fun _ => ?_)
        | with_reducible refine Br.beqb (fun _ => ?_) (fun _ => ?_)
        | with_reducible refine Br.mk (fun _ => ?_) (fun _ => ?_)
        | with_reducible refine foundO.mk (fun _ _ => ?_) (fun _ => ?_)
        | with_reducible refine appV.zero ?_
        | with_reducible refine appV.own ?_
        | ((with_reducible refine NewB.mk fun nb hnb => ?_); have hnb1 := hnb.1.1; have hnb2 := hnb.1.2; try simp only [keys_cons, keys_app, keys_nil, NotIn_cons, NotIn_app, NotIn_nil, and_true] at hnb2)
        | ((with_reducible refine NewRow.mk fun nb nsp ncap hnb hncap => ?_); have hnb1 := hnb.1.1; have hnb2 := hnb.1.2; try simp only [keys_cons, keys_app, keys_nil, NotIn_cons, NotIn_app, NotIn_nil, and_true] at hnb2)
        | simp (dsimp := false) (implicitDefEqProofs := false) (disch := first | assumption | (simp only [List.mem_cons, List.mem_append, true_or, or_true, eq_self]; done) | omega | (with_reducible refine Row.adr (by assumption) ?_; simp only [List.length_map, List.length_take, List.length_drop]; omega) | (simp only [List.length_cons, List.length_nil, List.length_map, List.length_append, List.length_replicate, Nat.reduceAdd, true_and, and_true, and_self]; first | done | omega)) only [go_sem, ↓reduceIte, Nat.reduceEqDiff, Nat.reduceAdd, Nat.reduceSub, Nat.reduceMul, Nat.reduceBEq, Nat.reduceLT, Nat.reduceLeDiff, Nat.reduceMod, Nat.reducePow, List.reduceReplicate, UInt8.reduceOfNat, Int.reducePow, Int.reduceDiv, Int.reduceMod, Nat.reduceDiv, Int.reduceNeg, Int.reduceAdd, Int.reduceSub, Int.reduceMul, Int.reduceLE, Int.reduceLT, Int.reduceEq, Int.reduceToNat, reduceCtorEq]
      unfold UpdR
      refine Upd.go (H' := kb ++ H) (by intro fsum; first | exact Nat.le_refl _ | (simp only [List.map_append, List.map_cons, List.map_nil, List.sum_append, List.sum_cons, List.sum_nil, List.cons_append, List.nil_append]; omega)) ?_
      rcases hv with ⟨a0, rfl, hn, hx, rfl⟩ | ⟨b2, c2, sp, rfl, rfl, hx, hc⟩
      · have hl0 : leastL l = [] := List.eq_nil_of_length_eq_zero (by omega)
        rw [hl0] at hR
        refine Upd.now ?_
        exact fun hle hs => hR _ _ hle2 hs ⟨a0, 0, rfl, Row.nil _ _, Nat.le_refl _⟩
      · have hsE := hs
        try simp only [keys_cons, keys_app, keys_nil, Sep_cons, Sep_nil, NotIn_cons, NotIn_app, NotIn_nil, List.cons_append, List.nil_append, List.append_assoc, and_assoc, and_true, true_and] at hsE
        repeat (obtain ⟨hsx, hsE⟩ := hsE)
        refine Upd.shareRow (by assumption) fun G3 hle3 hs3 hr3 => ?_
        exact fun hle hs => hR _ _ (hle2.trans hle3) hs ⟨some ⟨b2, 0, none⟩, c2, by rw [hll, ← hWl], hr3, by rw [List.length_map] at hx hc; omega⟩
set_option maxHeartbeats 8000000 in
theorem rleast_t {ws : Nat → Nat} (hw : ∀ k, ws k < 18446744073709551616) {x : Nat} (hx : x < 256) (hm : mem ws x = true) (hmin : ∀ y, y < x → mem ws y = false) {G : PHeap} {H : Heap} {R : Value → PHeap → Heap → Prop}
    (hR : R (.int .i64 (x : Nat)) G H) : FnT Tryd.prog 51 [.agg (numsU 4 ws).toArray] G H R := by
  have hl := numsU_len 4 ws
  refine FnT.body tok [0, 1, 2, 3, 5, 10] Tryd.func51 rfl (by kernel_rfl) (by kernel_rfl) (by show _ ≤ 12; simp) fun hsep => ?_
  rw [Tryd.results51]
  have hsE := hsep
  try simp only [keys_cons, keys_app, keys_nil, Sep_cons, Sep_nil, NotIn_cons, NotIn_app, NotIn_nil, List.cons_append, List.nil_append, List.append_assoc, and_assoc, and_true, true_and] at hsE
  repeat (obtain ⟨hsx, hsE⟩ := hsE)
  repeat' first
    | with_reducible refine Br.yes ?_
    | with_reducible refine Br.no ?_
    | with_reducible refine Br.dec (fun _ => ?_) (fun _ => ?_)
    | with_reducible refine Br.beqB (fun _ => ?_) (fun _ => ?_)
    | with_reducible refine Br.beqb (fun _ => ?_) (fun _ => ?_)
    | with_reducible refine Br.mk (fun _ => ?_) (fun _ => ?_)
    | with_reducible refine foundO.mk (fun _ _ => ?_) (fun _ => ?_)
    | with_reducible refine appV.zero ?_
    | with_reducible refine appV.own ?_
    | ((with_reducible refine NewB.mk fun nb hnb => ?_); have hnb1 := hnb.1.1; have hnb2 := hnb.1.2; try simp only [keys_cons, keys_app, keys_nil, NotIn_cons, NotIn_app, NotIn_nil, and_true] at hnb2)
    | ((with_reducible refine NewRow.mk fun nb nsp ncap hnb hncap => ?_); have hnb1 := hnb.1.1; have hnb2 := hnb.1.2; try simp only [keys_cons, keys_app, keys_nil, NotIn_cons, NotIn_app, NotIn_nil, and_true] at hnb2)
    | simp (dsimp := false) (implicitDefEqProofs := false) (disch := first | assumption | (simp only [List.mem_cons, List.mem_append, true_or, or_true, eq_self]; done) | omega | (with_reducible refine Row.adr (by assumption) ?_; simp only [List.length_map, List.length_take, List.length_drop]; omega) | (simp only [List.length_cons, List.length_nil, List.length_map, List.length_append, List.length_replicate, Nat.reduceAdd, true_and, and_true, and_self]; first | done | omega)) only [go_sem, ↓reduceIte, Nat.reduceEqDiff, Nat.reduceAdd, Nat.reduceSub, Nat.reduceMul, Nat.reduceBEq, Nat.reduceLT, Nat.reduceLeDiff, Nat.reduceMod, Nat.reducePow, List.reduceReplicate, UInt8.reduceOfNat, Int.reducePow, Int.reduceDiv, Int.reduceMod, Nat.reduceDiv, Int.reduceNeg, Int.reduceAdd, Int.reduceSub, Int.reduceMul, Int.reduceLE, Int.reduceLT, Int.reduceEq, Int.reduceToNat, reduceCtorEq, hl, numsU_all, numsU_one, numsU_over, numsU_over4, List.toList_toArray]
  refine Tri.loopU tok [0, 1, 2, 3, 5, 10] (by kernel_rfl) [1, 3] (fun q G' fr H' => ∃ (y : Nat), y + q = x + 1 ∧ y ≤ x ∧ G' = G ∧ H' = (nb, .cells (numsU 4 ws) [] 69) :: H ∧ fr = [(1, .pointer (some ⟨nb, 0, none⟩)), (3, .int .i64 (y : Nat))]) ((x + 1)) ?_ ?_
  · exact Upd.now ⟨0, by omega, by omega, rfl, rfl, rfl⟩
  · rintro q G1 fr H' hle hs1 ⟨y, hy, hyx, rfl, rfl, rfl⟩
    have hsE := hs1
    try simp only [keys_cons, keys_app, keys_nil, Sep_cons, Sep_nil, NotIn_cons, NotIn_app, NotIn_nil, List.cons_append, List.nil_append, List.append_assoc, and_assoc, and_true, true_and] at hsE
    repeat (obtain ⟨hsx, hsE⟩ := hsE)
    by_cases e : y = x
    · subst e
      repeat' first
        | with_reducible refine Br.yes ?_
        | with_reducible refine Br.no ?_
        | with_reducible refine Br.dec (fun _ => ?_) (fun _ => ?_)
        | with_reducible refine Br.beqB (fun _ => ?_) (fun _ => ?_)
        | with_reducible refine Br.beqb (fun _ => ?_) (fun _ => ?_)
        | with_reducible refine Br.mk (fun _ => ?_) (fun _ => ?_)
        | with_reducible refine foundO.mk (fun _ _ => ?_) (fun _ => ?_)
        | with_reducible refine appV.zero ?_
        | with_reducible refine appV.own ?_
        | ((with_reducible refine NewB.mk fun nb hnb => ?_); have hnb1 := hnb.1.1; have hnb2 := hnb.1.2; try simp only [keys_cons, keys_app, keys_nil, NotIn_cons, NotIn_app, NotIn_nil, and_true] at hnb2)
        | ((with_reducible refine NewRow.mk fun nb nsp ncap hnb hncap => ?_); have hnb1 := hnb.1.1; have hnb2 := hnb.1.2; try simp only [keys_cons, keys_app, keys_nil, NotIn_cons, NotIn_app, NotIn_nil, and_true] at hnb2)
        | simp (dsimp := false) (implicitDefEqProofs := false) (disch := first | assumption | (simp only [List.mem_cons, List.mem_append, true_or, or_true, eq_self]; done) | omega | (with_reducible refine Row.adr (by assumption) ?_; simp only [List.length_map, List.length_take, List.length_drop]; omega) | (simp only [List.length_cons, List.length_nil, List.length_map, List.length_append, List.length_replicate, Nat.reduceAdd, true_and, and_true, and_self]; first | done | omega)) only [go_sem, ↓reduceIte, Nat.reduceEqDiff, Nat.reduceAdd, Nat.reduceSub, Nat.reduceMul, Nat.reduceBEq, Nat.reduceLT, Nat.reduceLeDiff, Nat.reduceMod, Nat.reducePow, List.reduceReplicate, UInt8.reduceOfNat, Int.reducePow, Int.reduceDiv, Int.reduceMod, Nat.reduceDiv, Int.reduceNeg, Int.reduceAdd, Int.reduceSub, Int.reduceMul, Int.reduceLE, Int.reduceLT, Int.reduceEq, Int.reduceToNat, reduceCtorEq, hl, numsU_all, hm, List.toList_toArray]
        | with_reducible refine bhas_t ws hw y (by omega) ?_
      all_goals refine Upd.finL ?_ hR ?_
      any_goals (intro fsum; first | exact Nat.le_refl _ | (simp only [List.map_append, List.map_cons, List.map_nil, List.sum_append, List.sum_cons, List.sum_nil, List.cons_append, List.nil_append]; omega))
      rfl
    · have hno := hmin y (by omega)
      repeat' first
        | with_reducible refine Br.yes ?_
        | with_reducible refine Br.no ?_
        | with_reducible refine Br.dec (fun _ => ?_) (fun _ => ?_)
        | with_reducible refine Br.beqB (fun _ => ?_) (fun _ => ?_)
        | with_reducible refine Br.beqb (fun _ => ?_) (fun _ => ?_)
        | with_reducible refine Br.mk (fun _ => ?_) (fun _ => ?_)
        | with_reducible refine foundO.mk (fun _ _ => ?_) (fun _ => ?_)
        | with_reducible refine appV.zero ?_
        | with_reducible refine appV.own ?_
        | ((with_reducible refine NewB.mk fun nb hnb => ?_); have hnb1 := hnb.1.1; have hnb2 := hnb.1.2; try simp only [keys_cons, keys_app, keys_nil, NotIn_cons, NotIn_app, NotIn_nil, and_true] at hnb2)
        | ((with_reducible refine NewRow.mk fun nb nsp ncap hnb hncap => ?_); have hnb1 := hnb.1.1; have hnb2 := hnb.1.2; try simp only [keys_cons, keys_app, keys_nil, NotIn_cons, NotIn_app, NotIn_nil, and_true] at hnb2)
        | simp (dsimp := false) (implicitDefEqProofs := false) (disch := first | assumption | (simp only [List.mem_cons, List.mem_append, true_or, or_true, eq_self]; done) | omega | (with_reducible refine Row.adr (by assumption) ?_; simp only [List.length_map, List.length_take, List.length_drop]; omega) | (simp only [List.length_cons, List.length_nil, List.length_map, List.length_append, List.length_replicate, Nat.reduceAdd, true_and, and_true, and_self]; first | done | omega)) only [go_sem, ↓reduceIte, Nat.reduceEqDiff, Nat.reduceAdd, Nat.reduceSub, Nat.reduceMul, Nat.reduceBEq, Nat.reduceLT, Nat.reduceLeDiff, Nat.reduceMod, Nat.reducePow, List.reduceReplicate, UInt8.reduceOfNat, Int.reducePow, Int.reduceDiv, Int.reduceMod, Nat.reduceDiv, Int.reduceNeg, Int.reduceAdd, Int.reduceSub, Int.reduceMul, Int.reduceLE, Int.reduceLT, Int.reduceEq, Int.reduceToNat, reduceCtorEq, hl, numsU_all, hno, List.toList_toArray]
        | with_reducible refine bhas_t ws hw y (by omega) ?_
      exact Upd.now ⟨q - 1, by omega, y + 1, by omega, by omega, rfl, rfl, rfl⟩
set_option maxHeartbeats 16000000 in
theorem rpleasts_t {l : List Int} (hl : l.length = 256) (hlb : ∀ x ∈ l, 0 ≤ x ∧ x ≤ 255) {G : PHeap} {H : Heap} {R : Value → PHeap → Heap → Prop}
    (hR : ∀ G' v', PLe G G' → Sep G' (keys H) → Sl G' (Value.int .u8) v' (leastL l) → R v' G' H) : FnT Tryd.prog 27 [agg8 l] G H R := by
  have hu8 : (u8L l).length = 256 := by rw [List.length_map, hl]
  have htk : List.take 256 (u8L l) = u8L l := List.take_of_length_le (by omega)
  have hll := leastL_len l
  have htl := tabO_len l
  refine FnT.sep ?_
  refine FnT.body tok [0, 1, 2, 3, 4, 5, 12] Tryd.func27 rfl (by kernel_rfl) (by kernel_rfl) (by show _ ≤ 25; simp) fun hsep => ?_
  rw [Tryd.results27]
  have hsE := hsep
  try simp only [keys_cons, keys_app, keys_nil, Sep_cons, Sep_nil, NotIn_cons, NotIn_app, NotIn_nil, List.cons_append, List.nil_append, List.append_assoc, and_assoc, and_true, true_and] at hsE
  repeat (obtain ⟨hsx, hsE⟩ := hsE)
  repeat' first
    | with_reducible refine Br.yes ?_
    | with_reducible refine Br.no ?_
    | with_reducible refine Br.dec (fun _ => ?_) (fun _ => ?_)
    | with_reducible refine Br.beqB (fun _ => ?_) (fun _ => ?_)
    | with_reducible refine Br.beqb (fun _ => ?_) (fun _ => ?_)
    | with_reducible refine Br.mk (fun _ => ?_) (fun _ => ?_)
    | with_reducible refine foundO.mk (fun _ _ => ?_) (fun _ => ?_)
    | with_reducible refine appV.zero ?_
    | with_reducible refine appV.own ?_
    | ((with_reducible refine NewB.mk fun nb hnb => ?_); have hnb1 := hnb.1.1; have hnb2 := hnb.1.2; try simp only [keys_cons, keys_app, keys_nil, NotIn_cons, NotIn_app, NotIn_nil, and_true] at hnb2)
    | ((with_reducible refine NewRow.mk fun nb nsp ncap hnb hncap => ?_); have hnb1 := hnb.1.1; have hnb2 := hnb.1.2; try simp only [keys_cons, keys_app, keys_nil, NotIn_cons, NotIn_app, NotIn_nil, and_true] at hnb2)
    | simp (dsimp := false) (implicitDefEqProofs := false) (disch := first | assumption | (simp only [List.mem_cons, List.mem_append, true_or, or_true, eq_self]; done) | omega | (with_reducible refine Row.adr (by assumption) ?_; simp only [List.length_map, List.length_take, List.length_drop]; omega) | (simp only [List.length_cons, List.length_nil, List.length_map, List.length_append, List.length_replicate, Nat.reduceAdd, true_and, and_true, and_self]; first | done | omega)) only [go_sem, ↓reduceIte, Nat.reduceEqDiff, Nat.reduceAdd, Nat.reduceSub, Nat.reduceMul, Nat.reduceBEq, Nat.reduceLT, Nat.reduceLeDiff, Nat.reduceMod, Nat.reducePow, List.reduceReplicate, UInt8.reduceOfNat, Int.reducePow, Int.reduceDiv, Int.reduceMod, Nat.reduceDiv, Int.reduceNeg, Int.reduceAdd, Int.reduceSub, Int.reduceMul, Int.reduceLE, Int.reduceLT, Int.reduceEq, Int.reduceToNat, reduceCtorEq, -List.reduceReplicate, List.toList_toArray, u8F_zero, u8F_len, hu8, htk]
  rename_i b1 hb1 hb11 hb12
  revert nb
  intro b0 hb0 hb01 hb02
  refine sets_t hl hlb fun G2 v2 W hle2 hs2 hsl hW => ?_
  obtain ⟨a, cap, rfl, hrow, hcap⟩ := hsl
  have hWl : W.length = (tabO l).length := by
    have := hW.1
    rwa [List.take_of_length_le (by omega)] at this
  have hsE := hs2
  try simp only [keys_cons, keys_app, keys_nil, Sep_cons, Sep_nil, NotIn_cons, NotIn_app, NotIn_nil, List.cons_append, List.nil_append, List.append_assoc, and_assoc, and_true, true_and] at hsE
  repeat (obtain ⟨hsx, hsE⟩ := hsE)
  repeat' first
    | with_reducible refine Br.yes ?_
    | with_reducible refine Br.no ?_
    | with_reducible refine Br.dec (fun _ => ?_) (fun _ => ?_)
    | with_reducible refine Br.beqB (fun _ => ?_) (fun _ => ?_)
    | with_reducible refine Br.beqb (fun _ => ?_) (fun _ => ?_)
    | with_reducible refine Br.mk (fun _ => ?_) (fun _ => ?_)
    | with_reducible refine foundO.mk (fun _ _ => ?_) (fun _ => ?_)
    | with_reducible refine appV.zero ?_
    | with_reducible refine appV.own ?_
    | ((with_reducible refine NewB.mk fun nb hnb => ?_); have hnb1 := hnb.1.1; have hnb2 := hnb.1.2; try simp only [keys_cons, keys_app, keys_nil, NotIn_cons, NotIn_app, NotIn_nil, and_true] at hnb2)
    | ((with_reducible refine NewRow.mk fun nb nsp ncap hnb hncap => ?_); have hnb1 := hnb.1.1; have hnb2 := hnb.1.2; try simp only [keys_cons, keys_app, keys_nil, NotIn_cons, NotIn_app, NotIn_nil, and_true] at hnb2)
    | simp (dsimp := false) (implicitDefEqProofs := false) (disch := first | assumption | (simp only [List.mem_cons, List.mem_append, true_or, or_true, eq_self]; done) | omega | (with_reducible refine Row.adr (by assumption) ?_; simp only [List.length_map, List.length_take, List.length_drop]; omega) | (simp only [List.length_cons, List.length_nil, List.length_map, List.length_append, List.length_replicate, Nat.reduceAdd, true_and, and_true, and_self]; first | done | omega)) only [go_sem, ↓reduceIte, Nat.reduceEqDiff, Nat.reduceAdd, Nat.reduceSub, Nat.reduceMul, Nat.reduceBEq, Nat.reduceLT, Nat.reduceLeDiff, Nat.reduceMod, Nat.reducePow, List.reduceReplicate, UInt8.reduceOfNat, Int.reducePow, Int.reduceDiv, Int.reduceMod, Nat.reduceDiv, Int.reduceNeg, Int.reduceAdd, Int.reduceSub, Int.reduceMul, Int.reduceLE, Int.reduceLT, Int.reduceEq, Int.reduceToNat, reduceCtorEq, -List.reduceReplicate, List.toList_toArray]
  refine Tri.loopU tok [0, 1, 2, 3, 4, 5, 12] (by kernel_rfl) [2, 3, 4, 5] (fun q G' fr H' => ∃ (i b2 c2 : Nat) (sp : List Value), i + q = W.length ∧ G' = G2 ∧ i + sp.length = c2 ∧ H' = (b2, .cells ((leastL l).take i |>.map (Value.int .u8)) sp 5) :: (b1, .cells (u8L l) [] 22) :: H ∧ fr = [(2, .slice none 0 0), (3, .slice (some ⟨b2, 0, none⟩) i c2), (4, .slice a W.length cap), (5, .int .i64 i)]) (W.length) ?_ ?_
  · exact Upd.now ⟨0, b0, 0, [], by omega, rfl, rfl, rfl, rfl⟩
  · rintro q G1 fr H' hle hs ⟨i, b2, c2, sp, hi, rfl, hsp, rfl, rfl⟩
    have hsE := hs
    try simp only [keys_cons, keys_app, keys_nil, Sep_cons, Sep_nil, NotIn_cons, NotIn_app, NotIn_nil, List.cons_append, List.nil_append, List.append_assoc, and_assoc, and_true, true_and] at hsE
    repeat (obtain ⟨hsx, hsE⟩ := hsE)
    have hlt : i ≤ W.length → ((leastL l).take i).length = i := fun h => by rw [List.length_take]; omega
    by_cases hil : i < W.length
    · have had : Adr a := hrow.adr (by rw [flatMap_len numsOf_len]; omega)
      obtain ⟨x, hx1, hx2, hx3, hx4, hx5⟩ := least_at hl hW hil
      have hsn := take_snoc hx1
      rw [hx2] at hsn
      have hx8 : IntKind.u8.wrap (x : Int) = (x : Int) := u8_wrap hx3
      have hws := hW.2.1 _ (List.getElem_mem hil)
      have hl4 := numsU_len 4
      have hr1 : ∀ v : Value, List.replicate 1 v = [v] := fun _ => rfl
      have hob : numsOf = numsU 4 := rfl
      have hlt0 := hlt (by omega)
      have hlt1 : ((leastL l).take (i + 1)).length = i + 1 := by rw [List.length_take]; omega
      repeat' first
        | with_reducible refine Br.yes ?_
        | with_reducible refine Br.no ?_
        | with_reducible refine Br.dec (fun _ => ?_) (fun _ => ?_)
        | with_reducible refine Br.beqB (fun _ => ?_) (fun _ => ?_)
        | with_reducible refine Br.beqb (fun _ => ?_) (fun _ => ?_)
        | with_reducible refine Br.mk (fun _ => ?_) (fun _ => ?_)
        | with_reducible refine foundO.mk (fun _ _ => ?_) (fun _ => ?_)
        | with_reducible refine appV.zero ?_
        | with_reducible refine appV.own ?_
        | ((with_reducible refine NewB.mk fun nb hnb => ?_); have hnb1 := hnb.1.1; have hnb2 := hnb.1.2; try simp only [keys_cons, keys_app, keys_nil, NotIn_cons, NotIn_app, NotIn_nil, and_true] at hnb2)
        | ((with_reducible refine NewRow.mk fun nb nsp ncap hnb hncap => ?_); have hnb1 := hnb.1.1; have hnb2 := hnb.1.2; try simp only [keys_cons, keys_app, keys_nil, NotIn_cons, NotIn_app, NotIn_nil, and_true] at hnb2)
        | simp (dsimp := false) (implicitDefEqProofs := false) (disch := first | assumption | (simp only [List.mem_cons, List.mem_append, true_or, or_true, eq_self]; done) | omega | (with_reducible refine Row.adr (by assumption) ?_; simp only [List.length_map, List.length_take, List.length_drop]; omega) | (simp only [List.length_cons, List.length_nil, List.length_map, List.length_append, List.length_replicate, Nat.reduceAdd, true_and, and_true, and_self]; first | done | omega)) only [go_sem, ↓reduceIte, Nat.reduceEqDiff, Nat.reduceAdd, Nat.reduceSub, Nat.reduceMul, Nat.reduceBEq, Nat.reduceLT, Nat.reduceLeDiff, Nat.reduceMod, Nat.reducePow, List.reduceReplicate, UInt8.reduceOfNat, Int.reducePow, Int.reduceDiv, Int.reduceMod, Nat.reduceDiv, Int.reduceNeg, Int.reduceAdd, Int.reduceSub, Int.reduceMul, Int.reduceLE, Int.reduceLT, Int.reduceEq, Int.reduceToNat, reduceCtorEq, -List.reduceReplicate, hr1, List.toList_toArray, Row.objsM hrow numsOf_len (by decide) hil, hob, hl4, numsU_one, numsU_over, numsU_all, hx8, List.length_map, hlt0]
        | with_reducible refine rleast_t hws hx3 hx4 hx5 ?_
      rw [← hsn]
      exact Upd.go (H' := (nb, .cells (((leastL l).take (i + 1)).map (Value.int .u8)) nsp 5) :: (b1, .cells (u8L l) [] 22) :: H) (by intro fsum; first | exact Nat.le_refl _ | (simp only [List.map_append, List.map_cons, List.map_nil, List.sum_append, List.sum_cons, List.sum_nil, List.cons_append, List.nil_append]; omega)) (Upd.now ⟨q - 1, by omega, i + 1, nb, ncap, nsp, by omega, rfl, by omega, rfl, rfl⟩)
    · obtain rfl : i = W.length := by omega
      have hall : (leastL l).take W.length = leastL l := List.take_of_length_le (by omega)
      rw [hall]
      repeat' first
        | with_reducible refine Br.yes ?_
        | with_reducible refine Br.no ?_
        | with_reducible refine Br.dec (fun _ => ?_) (fun _ => ?_)
        | with_reducible refine Br.beqB (fun _ => ?_) (fun _ => ?_)
        | with_reducible refine Br.beqb (fun _ => ?_) (fun _ => ?_)
        | with_reducible refine Br.mk (fun _ => ?_) (fun _ => ?_)
        | with_reducible refine foundO.mk (fun _ _ => ?_) (fun _ => ?_)
        | with_reducible refine appV.zero ?_
        | with_reducible refine appV.own ?_
        | ((with_reducible refine NewB.mk fun nb hnb => ?_); have hnb1 := hnb.1.1; have hnb2 := hnb.1.2; try simp only [keys_cons, keys_app, keys_nil, NotIn_cons, NotIn_app, NotIn_nil, and_true] at hnb2)
        | ((with_reducible refine NewRow.mk fun nb nsp ncap hnb hncap => ?_); have hnb1 := hnb.1.1; have hnb2 := hnb.1.2; try simp only [keys_cons, keys_app, keys_nil, NotIn_cons, NotIn_app, NotIn_nil, and_true] at hnb2)
        | simp (dsimp := false) (implicitDefEqProofs := false) (disch := first | assumption | (simp only [List.mem_cons, List.mem_append, true_or, or_true, eq_self]; done) | omega | (with_reducible refine Row.adr (by assumption) ?_; simp only [List.length_map, List.length_take, List.length_drop]; omega) | (simp only [List.length_cons, List.length_nil, List.length_map, List.length_append, List.length_replicate, Nat.reduceAdd, true_and, and_true, and_self]; first | done | omega)) only [go_sem, ↓reduceIte, Nat.reduceEqDiff, Nat.reduceAdd, Nat.reduceSub, Nat.reduceMul, Nat.reduceBEq, Nat.reduceLT, Nat.reduceLeDiff, Nat.reduceMod, Nat.reducePow, List.reduceReplicate, UInt8.reduceOfNat, Int.reducePow, Int.reduceDiv, Int.reduceMod, Nat.reduceDiv, Int.reduceNeg, Int.reduceAdd, Int.reduceSub, Int.reduceMul, Int.reduceLE, Int.reduceLT, Int.reduceEq, Int.reduceToNat, reduceCtorEq]
      unfold UpdR
      refine Upd.go (H' := (b2, .cells ((leastL l).map (Value.int .u8)) sp 5) :: H) (by intro fsum; first | exact Nat.le_refl _ | (simp only [List.map_append, List.map_cons, List.map_nil, List.sum_append, List.sum_cons, List.sum_nil, List.cons_append, List.nil_append]; omega)) (Upd.shareRow (by assumption) fun G3 hle3 hs3 hr3 => ?_)
      exact fun hle hs => hR _ _ (hle2.trans hle3) hs ⟨some ⟨b2, 0, none⟩, c2, by rw [hll, ← hWl], hr3, by omega⟩
end Go.Proofs.YtmnmihfinmcljaaDoor
