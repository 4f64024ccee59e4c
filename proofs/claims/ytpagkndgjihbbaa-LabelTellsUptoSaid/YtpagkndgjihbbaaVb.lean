/- A rising list with a text more: the document's put; the names that a machine tells. -/
import Derived.Test.YtpagkndgjihbbaaVa
set_option linter.unusedSimpArgs false
set_option linter.unusedVariables false
namespace Go.Proofs.Ytpagkndgjihbbaa
open Go Go.V Go.Proofs

set_option maxHeartbeats 16000000 in
theorem put22_t (l : List Tx) (s : Tx) (hlen : l.length ≤ 9000000) {G : PHeap} {H : Heap} {R : Value → PHeap → Heap → Prop} {v : Value} (hv : Sl G str v l)
    (hR : ∀ G' v', PLe G G' → Sep G' (keys H) → Sl G' str v' (putL l s) → R v' G' H) : FnT Try.prog 27 [v, str s] G H R := by
  have hv0 := hv
  obtain ⟨a, cap, rfl, hrow, hcap⟩ := hv
  refine FnT.sep ?_
  by_cases hm : s ∈ l
  · have e : putL l s = l := by unfold putL; rw [if_pos hm]
    rw [e] at hR
    have hf := findF_mem.2 hm
    refine FnT.body tok [0, 1, 4, 5, 6, 10, 24] Try.func27 rfl (by kernel_rfl) (by kernel_rfl) (by show _ ≤ 43; simp) fun hsep => ?_
    rw [Try.results27]
    have hsE := hsep
    try simp only [keys_cons, keys_app, keys_nil, Sep_cons, Sep_nil, NotIn_cons, NotIn_app, NotIn_nil, List.cons_append, List.nil_append, List.append_assoc, and_assoc, and_true, true_and] at hsE
    repeat (obtain ⟨hsx, hsE⟩ := hsE)
    repeat' first
      | with_reducible refine Br.yes ?_
      | with_reducible refine Br.no ?_
      | with_reducible refine Br.dec (fun _ => ?_) (fun _ => ?_)
      | with_reducible refine Br.beqB (fun _ => ?_) (fun _ => ?_)
      | with_reducible refine Br.beqb (fun _ => ?_) (fun _ => ?_)
      | with_reducible refine Br.mk (fun _ => ?_) (fun _ => ?_)
      | with_reducible refine foundO.mk (fun _ _ => ?_) (fun _ => ?_)
      | with_reducible refine appV.zero ?_
      | with_reducible refine appV.own ?_
      | ((with_reducible refine NewB.mk fun nb hnb => ?_); have hnb1 := hnb.1.1; have hnb2 := hnb.1.2; try simp only [keys_cons, keys_app, keys_nil, NotIn_cons, NotIn_app, NotIn_nil, and_true] at hnb2)
      | ((with_reducible refine NewRow.mk fun nb nsp ncap hnb hncap => ?_); have hnb1 := hnb.1.1; have hnb2 := hnb.1.2; try simp only [keys_cons, keys_app, keys_nil, NotIn_cons, NotIn_app, NotIn_nil, and_true] at hnb2)
      | simp (dsimp := false) (implicitDefEqProofs := false) (disch := first | assumption | (simp only [List.mem_cons, List.mem_append, true_or, or_true, eq_self]; done) | omega | (with_reducible refine Row.adr (by assumption) ?_; simp only [List.length_map, List.length_take, List.length_drop]; omega) | (simp only [List.length_cons, List.length_nil, List.length_map, List.length_append, List.length_replicate, Nat.reduceAdd, true_and, and_true, and_self]; first | done | omega)) only [go_sem, ↓reduceIte, Nat.reduceEqDiff, Nat.reduceAdd, Nat.reduceSub, Nat.reduceMul, Nat.reduceBEq, Nat.reduceLT, Nat.reduceLeDiff, Nat.reduceMod, Nat.reducePow, List.reduceReplicate, UInt8.reduceOfNat, Int.reducePow, Int.reduceDiv, Int.reduceMod, Nat.reduceDiv, Int.reduceNeg, Int.reduceAdd, Int.reduceSub, Int.reduceMul, Int.reduceLE, Int.reduceLT, Int.reduceEq, Int.reduceToNat, reduceCtorEq]
      | with_reducible refine place22_t l s (by omega) hv0 ?_
    all_goals try (exfalso; omega)
    unfold UpdR
    refine Upd.leave (H' := H) (by intro fsum; first | exact Nat.le_refl _ | (simp only [List.map_append, List.map_cons, List.map_nil, List.sum_append, List.sum_cons, List.sum_nil, List.cons_append, List.nil_append]; omega)) ?_
    exact fun _ hs => hR G _ (PLe.refl _) hs hv0
  · have e : putL l s = putR l s := by unfold putL; rw [if_neg hm]
    rw [e] at hR
    have hf : ¬ 0 ≤ findF l s := fun h => hm (findF_mem.1 h)
    refine FnT.body tok [0, 1, 4, 5, 6, 10, 24] Try.func27 rfl (by kernel_rfl) (by kernel_rfl) (by show _ ≤ 43; simp) fun hsep => ?_
    rw [Try.results27]
    have hsE := hsep
    try simp only [keys_cons, keys_app, keys_nil, Sep_cons, Sep_nil, NotIn_cons, NotIn_app, NotIn_nil, List.cons_append, List.nil_append, List.append_assoc, and_assoc, and_true, true_and] at hsE
    repeat (obtain ⟨hsx, hsE⟩ := hsE)
    repeat' first
      | with_reducible refine Br.yes ?_
      | with_reducible refine Br.no ?_
      | with_reducible refine Br.dec (fun _ => ?_) (fun _ => ?_)
      | with_reducible refine Br.beqB (fun _ => ?_) (fun _ => ?_)
      | with_reducible refine Br.beqb (fun _ => ?_) (fun _ => ?_)
      | with_reducible refine Br.mk (fun _ => ?_) (fun _ => ?_)
      | with_reducible refine foundO.mk (fun _ _ => ?_) (fun _ => ?_)
      | with_reducible refine appV.zero ?_
      | with_reducible refine appV.own ?_
      | ((with_reducible refine NewB.mk fun nb hnb => ?_); have hnb1 := hnb.1.1; have hnb2 := hnb.1.2; try simp only [keys_cons, keys_app, keys_nil, NotIn_cons, NotIn_app, NotIn_nil, and_true] at hnb2)
      | ((with_reducible refine NewRow.mk fun nb nsp ncap hnb hncap => ?_); have hnb1 := hnb.1.1; have hnb2 := hnb.1.2; try simp only [keys_cons, keys_app, keys_nil, NotIn_cons, NotIn_app, NotIn_nil, and_true] at hnb2)
      | simp (dsimp := false) (implicitDefEqProofs := false) (disch := first | assumption | (simp only [List.mem_cons, List.mem_append, true_or, or_true, eq_self]; done) | omega | (with_reducible refine Row.adr (by assumption) ?_; simp only [List.length_map, List.length_take, List.length_drop]; omega) | (simp only [List.length_cons, List.length_nil, List.length_map, List.length_append, List.length_replicate, Nat.reduceAdd, true_and, and_true, and_self]; first | done | omega)) only [go_sem, ↓reduceIte, Nat.reduceEqDiff, Nat.reduceAdd, Nat.reduceSub, Nat.reduceMul, Nat.reduceBEq, Nat.reduceLT, Nat.reduceLeDiff, Nat.reduceMod, Nat.reducePow, List.reduceReplicate, UInt8.reduceOfNat, Int.reducePow, Int.reduceDiv, Int.reduceMod, Nat.reduceDiv, Int.reduceNeg, Int.reduceAdd, Int.reduceSub, Int.reduceMul, Int.reduceLE, Int.reduceLT, Int.reduceEq, Int.reduceToNat, reduceCtorEq]
      | with_reducible refine place22_t l s (by omega) hv0 ?_
    all_goals try (exfalso; omega)
    refine Tri.loopU tok [0, 1, 4, 5, 6, 10, 24] (by kernel_rfl) [0, 1, 4, 5, 6] (fun q G' fr H' => ∃ (i br cr : Nat) (sp : List Value), i + q = l.length ∧ G' = G ∧ i + sp.length = cr ∧ (∀ j (h : j < l.length), j < i → l[j] < s) ∧ H' = (br, .cells ((l.take i).map str) sp 9) :: H ∧ fr = [(0, .slice a l.length cap), (1, str s), (4, .slice none 0 0), (5, .slice (some ⟨br, 0, none⟩) i cr), (6, .int .i64 (i : Nat))]) (l.length) ?_ ?_
    · exact Upd.now ⟨0, nb, 0, [], by omega, rfl, rfl, fun j _ h => by omega, rfl, rfl⟩
    · rintro q G1 fr H' hle hs ⟨i, br, cr, sp, hiq, rfl, hsp, hlt, rfl, rfl⟩
      have hsE := hs
      try simp only [keys_cons, keys_app, keys_nil, Sep_cons, Sep_nil, NotIn_cons, NotIn_app, NotIn_nil, List.cons_append, List.nil_append, List.append_assoc, and_assoc, and_true, true_and] at hsE
      repeat (obtain ⟨hsx, hsE⟩ := hsE)
      have htl : ((l.take i).map str).length = i := by rw [List.length_map, List.length_take]; omega
      have hsub : Row G1 (subOb a i cap i) ((l.drop i).map str) := by
        have := hrow.drop (l := i) (m := cap) (s := 1) (fun e => by rw [List.length_map]; omega)
        rw [Nat.mul_one, ← List.map_drop] at this
        exact this
      have hrd := Row.rdSlAll (n := l.length - i) hsub (by rw [List.length_map, List.length_drop])
      have hdl : ((l.drop i).map str).length = l.length - i := by rw [List.length_map, List.length_drop]
      have htl1 : ((l.take i).map str ++ [str s]).length = i + 1 := by rw [List.length_append, htl]; rfl
      have hblt : ∀ x : Tx, Op.bytesLess x s = decide (x < s) := fun x => bytesLess_eq x s
      have hfin : (∀ h : i < l.length, ¬ l[i] < s) → ∀ G' v', PLe G1 G' → Sep G' (keys H) → Sl G' str v' (l.take i ++ s :: l.drop i) → R v' G' H := fun h G' v' h1 h2 h3 => hR G' v' h1 h2 (by rw [putR_at l i (by omega) hlt h]; exact h3)
      by_cases hil : i < l.length
      · have had : Adr a := hrow.adr (by rw [List.length_map]; omega)
        by_cases hls : l[i] < s
        · repeat' first
            | with_reducible refine Br.yes ?_
            | with_reducible refine Br.no ?_
            | with_reducible refine Br.dec (fun _ => ?_) (fun _ => ?_)
            | with_reducible refine Br.beqB (fun _ => ?_) (fun _ => ?_)
            | with_reducible refine Br.beqb (fun _ => ?_) (fun _ => ?_)
            | with_reducible refine Br.mk (fun _ => ?_) (fun _ => ?_)
            | with_reducible refine foundO.mk (fun _ _ => ?_) (fun _ => ?_)
            | with_reducible refine appV.zero ?_
            | with_reducible refine appV.own ?_
            | ((with_reducible refine NewB.mk fun nb hnb => ?_); have hnb1 := hnb.1.1; have hnb2 := hnb.1.2; try simp only [keys_cons, keys_app, keys_nil, NotIn_cons, NotIn_app, NotIn_nil, and_true] at hnb2)
            | ((with_reducible refine NewRow.mk fun nb nsp ncap hnb hncap => ?_); have hnb1 := hnb.1.1; have hnb2 := hnb.1.2; try simp only [keys_cons, keys_app, keys_nil, NotIn_cons, NotIn_app, NotIn_nil, and_true] at hnb2)
            | simp (dsimp := false) (implicitDefEqProofs := false) (disch := first | assumption | (simp only [List.mem_cons, List.mem_append, true_or, or_true, eq_self]; done) | omega | (with_reducible refine Row.adr (by assumption) ?_; simp only [List.length_map, List.length_take, List.length_drop]; omega) | (simp only [List.length_cons, List.length_nil, List.length_map, List.length_append, List.length_replicate, Nat.reduceAdd, true_and, and_true, and_self]; first | done | omega)) only [go_sem, ↓reduceIte, Nat.reduceEqDiff, Nat.reduceAdd, Nat.reduceSub, Nat.reduceMul, Nat.reduceBEq, Nat.reduceLT, Nat.reduceLeDiff, Nat.reduceMod, Nat.reducePow, List.reduceReplicate, UInt8.reduceOfNat, Int.reducePow, Int.reduceDiv, Int.reduceMod, Nat.reduceDiv, Int.reduceNeg, Int.reduceAdd, Int.reduceSub, Int.reduceMul, Int.reduceLE, Int.reduceLT, Int.reduceEq, Int.reduceToNat, reduceCtorEq, Row.obj hrow, List.getElem_map, hblt, decide_eq_true hls, List.replicate_one, htl, htl1, hrd, hdl]
          have hm2 : (l.take i).map str ++ [str l[i]] = (l.take (i + 1)).map str := by rw [List.take_succ_eq_append_getElem hil, List.map_append]; rfl
          rw [hm2]
          refine Upd.leave (H' := (nb, .cells ((l.take (i + 1)).map str) nsp 9) :: H) (by intro fsum; first | exact Nat.le_refl _ | (simp only [List.map_append, List.map_cons, List.map_nil, List.sum_append, List.sum_cons, List.sum_nil, List.cons_append, List.nil_append]; omega)) ?_
          exact ⟨q - 1, by omega, i + 1, nb, ncap, nsp, by omega, rfl, by simp at hncap; omega, fun j h hj => by
            by_cases e : j = i
            · subst e; exact hls
            · exact hlt j h (by omega), rfl, rfl⟩
        · repeat' first
            | with_reducible refine Br.yes ?_
            | with_reducible refine Br.no ?_
            | with_reducible refine Br.dec (fun _ => ?_) (fun _ => ?_)
            | with_reducible refine Br.beqB (fun _ => ?_) (fun _ => ?_)
            | with_reducible refine Br.beqb (fun _ => ?_) (fun _ => ?_)
            | with_reducible refine Br.mk (fun _ => ?_) (fun _ => ?_)
            | with_reducible refine foundO.mk (fun _ _ => ?_) (fun _ => ?_)
            | with_reducible refine appV.zero ?_
            | with_reducible refine appV.own ?_
            | ((with_reducible refine NewB.mk fun nb hnb => ?_); have hnb1 := hnb.1.1; have hnb2 := hnb.1.2; try simp only [keys_cons, keys_app, keys_nil, NotIn_cons, NotIn_app, NotIn_nil, and_true] at hnb2)
            | ((with_reducible refine NewRow.mk fun nb nsp ncap hnb hncap => ?_); have hnb1 := hnb.1.1; have hnb2 := hnb.1.2; try simp only [keys_cons, keys_app, keys_nil, NotIn_cons, NotIn_app, NotIn_nil, and_true] at hnb2)
            | simp (dsimp := false) (implicitDefEqProofs := false) (disch := first | assumption | (simp only [List.mem_cons, List.mem_append, true_or, or_true, eq_self]; done) | omega | (with_reducible refine Row.adr (by assumption) ?_; simp only [List.length_map, List.length_take, List.length_drop]; omega) | (simp only [List.length_cons, List.length_nil, List.length_map, List.length_append, List.length_replicate, Nat.reduceAdd, true_and, and_true, and_self]; first | done | omega)) only [go_sem, ↓reduceIte, Nat.reduceEqDiff, Nat.reduceAdd, Nat.reduceSub, Nat.reduceMul, Nat.reduceBEq, Nat.reduceLT, Nat.reduceLeDiff, Nat.reduceMod, Nat.reducePow, List.reduceReplicate, UInt8.reduceOfNat, Int.reducePow, Int.reduceDiv, Int.reduceMod, Nat.reduceDiv, Int.reduceNeg, Int.reduceAdd, Int.reduceSub, Int.reduceMul, Int.reduceLE, Int.reduceLT, Int.reduceEq, Int.reduceToNat, reduceCtorEq, Row.obj hrow, List.getElem_map, hblt, decide_eq_false hls, List.replicate_one, htl, htl1, hrd, hdl]
          all_goals try (exfalso; omega)
          all_goals (
            unfold UpdR
            first
              | (refine Upd.go (H' := (nb, .cells ((l.take i).map str ++ [str s] ++ (l.drop i).map str) nsp 9) :: H) (by intro fsum; first | exact Nat.le_refl _ | (simp only [List.map_append, List.map_cons, List.map_nil, List.sum_append, List.sum_cons, List.sum_nil, List.cons_append, List.nil_append]; omega)) (Upd.shareRow (by assumption) fun G9 hle9 hs9 hr9 => ?_)
                 exact fun _ hs => hfin (fun _ => hls) G9 _ hle9 hs ⟨some ⟨nb, 0, none⟩, ncap, (by congr 1; simp; omega), by simpa using hr9, by simp at hncap ⊢; omega⟩)
              | (refine Upd.go (H' := (nb, .cells ((l.take i).map str ++ [str s]) nsp 9) :: H) (by intro fsum; first | exact Nat.le_refl _ | (simp only [List.map_append, List.map_cons, List.map_nil, List.sum_append, List.sum_cons, List.sum_nil, List.cons_append, List.nil_append]; omega)) (Upd.shareRow (by assumption) fun G9 hle9 hs9 hr9 => ?_)
                 have hd0 : l.drop i = [] := List.drop_of_length_le (by omega)
                 exact fun _ hs => hfin (fun _ => hls) G9 _ hle9 hs ⟨some ⟨nb, 0, none⟩, ncap, (by congr 1; simp; omega), by rw [hd0]; simpa using hr9, by simp at hncap ⊢; omega⟩))
      · obtain rfl : i = l.length := by omega
        have hrd0 := Row.rdSlAll (n := 0) (Row.nil G1 (subOb a l.length cap l.length)) rfl
        repeat' first
          | with_reducible refine Br.yes ?_
          | with_reducible refine Br.no ?_
          | with_reducible refine Br.dec (fun _ => ?_) (fun _ => ?_)
          | with_reducible refine Br.beqB (fun _ => ?_) (fun _ => ?_)
          | with_reducible refine Br.beqb (fun _ => ?_) (fun _ => ?_)
          | with_reducible refine Br.mk (fun _ => ?_) (fun _ => ?_)
          | with_reducible refine foundO.mk (fun _ _ => ?_) (fun _ => ?_)
          | with_reducible refine appV.zero ?_
          | with_reducible refine appV.own ?_
          | ((with_reducible refine NewB.mk fun nb hnb => ?_); have hnb1 := hnb.1.1; have hnb2 := hnb.1.2; try simp only [keys_cons, keys_app, keys_nil, NotIn_cons, NotIn_app, NotIn_nil, and_true] at hnb2)
          | ((with_reducible refine NewRow.mk fun nb nsp ncap hnb hncap => ?_); have hnb1 := hnb.1.1; have hnb2 := hnb.1.2; try simp only [keys_cons, keys_app, keys_nil, NotIn_cons, NotIn_app, NotIn_nil, and_true] at hnb2)
          | simp (dsimp := false) (implicitDefEqProofs := false) (disch := first | assumption | (simp only [List.mem_cons, List.mem_append, true_or, or_true, eq_self]; done) | omega | (with_reducible refine Row.adr (by assumption) ?_; simp only [List.length_map, List.length_take, List.length_drop]; omega) | (simp only [List.length_cons, List.length_nil, List.length_map, List.length_append, List.length_replicate, Nat.reduceAdd, true_and, and_true, and_self]; first | done | omega)) only [go_sem, ↓reduceIte, Nat.reduceEqDiff, Nat.reduceAdd, Nat.reduceSub, Nat.reduceMul, Nat.reduceBEq, Nat.reduceLT, Nat.reduceLeDiff, Nat.reduceMod, Nat.reducePow, List.reduceReplicate, UInt8.reduceOfNat, Int.reducePow, Int.reduceDiv, Int.reduceMod, Nat.reduceDiv, Int.reduceNeg, Int.reduceAdd, Int.reduceSub, Int.reduceMul, Int.reduceLE, Int.reduceLT, Int.reduceEq, Int.reduceToNat, reduceCtorEq, List.replicate_one, htl, htl1, hrd0, Nat.sub_self, Nat.add_zero]
        all_goals try (exfalso; omega)
        all_goals (
          unfold UpdR
          first
            | (refine Upd.go (H' := (nb, .cells ((l.take l.length).map str ++ [str s] ++ (l.drop l.length).map str) nsp 9) :: H) (by intro fsum; first | exact Nat.le_refl _ | (simp only [List.map_append, List.map_cons, List.map_nil, List.sum_append, List.sum_cons, List.sum_nil, List.cons_append, List.nil_append]; omega)) (Upd.shareRow (by assumption) fun G9 hle9 hs9 hr9 => ?_)
               exact fun _ hs => hfin (fun h => absurd h hil) G9 _ hle9 hs ⟨some ⟨nb, 0, none⟩, ncap, (by congr 1; simp), by simpa using hr9, by simp at hncap ⊢; omega⟩)
            | (refine Upd.go (H' := (nb, .cells ((l.take l.length).map str ++ [str s]) nsp 9) :: H) (by intro fsum; first | exact Nat.le_refl _ | (simp only [List.map_append, List.map_cons, List.map_nil, List.sum_append, List.sum_cons, List.sum_nil, List.cons_append, List.nil_append]; omega)) (Upd.shareRow (by assumption) fun G9 hle9 hs9 hr9 => ?_)
               have hd0 : l.drop l.length = [] := List.drop_of_length_le (by omega)
               exact fun _ hs => hfin (fun h => absurd h hil) G9 _ hle9 hs ⟨some ⟨nb, 0, none⟩, ncap, (by congr 1; simp), by rw [hd0]; simpa using hr9, by simp at hncap ⊢; omega⟩))
end Go.Proofs.Ytpagkndgjihbbaa
