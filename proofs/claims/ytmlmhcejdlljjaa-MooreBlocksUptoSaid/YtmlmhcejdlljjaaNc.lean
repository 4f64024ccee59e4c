/- The document's table of states that are told apart: as it was. -/
import Derived.Test.YtmlmhcejdlljjaaNb
set_option linter.unusedSimpArgs false
set_option linter.unusedVariables false
namespace Go.Proofs.Ytmlmhcejdlljjaa
open Go Go.V Go.Proofs

theorem rowV_take (n : Nat) (g : Nat → Bool) (sp : List Value) : List.take n (rowV n g ++ sp) = rowV n g := by
  rw [List.take_append_of_le_length (by rw [rowV_len]; omega), List.take_of_length_le (by rw [rowV_len]; omega)]
set_option maxHeartbeats 16000000 in
theorem pw_t {d : DfaT} (hok : RightP d) {C : List Value} {G : PHeap} {n : Nat} (hn : n = d.label.length)
    {ao : Option Addr} {co : Nat} {vs : List Value} (hro : Row G ao vs) {f : Nat → Nat → Bool} {F : Heap} (hF : Fam 4 vs (matV n f) F) {a0 : Option Addr} {v1 v4 v10 v11 : Value} {b2 : Nat} {H : Heap} :
    Tri Try.prog Try.f25.ntmps (piece [1, 1, 1, 1, 0, 1, 0, 0, 1, 0, 0, 1, 1, 0] Try.f25) G
      [(1, v1), (2, .pointer (some ⟨b2, 0, none⟩)), (4, v4), (5, .int .i64 (n : Nat)), (6, .slice ao n co), (10, v10), (11, v11), (12, .slice a0 0 0)]
      ((b2, .cells C [] 27) :: (F ++ H)) (onlyN fun G' fr' H' => ∃ aw cw, PLe G G' ∧ WasO G' n f aw ∧
        restrict [1, 2, 4, 5, 6, 10, 11, 12] fr' = [(1, v1), (2, .pointer (some ⟨b2, 0, none⟩)), (4, v4), (5, .int .i64 (n : Nat)), (6, .slice ao n co), (10, v10), (11, v11), (12, .slice aw n cw)] ∧
        H' = (b2, .cells C [] 27) :: (F ++ H)) := by
  have hk1 := hok.1
  have hk2 := hok.2.1
  have hvl : vs.length = n := by rw [hF.lenv, matV_len]
  have hado : Adr ao := hro.adr (by omega)
  refine Tri.piece (f := Try.f25) rfl ?_
  refine Tri.run tok [0, 1, 2, 4, 5, 6, 7, 8, 9, 10, 11, 12, 13, 14, 15, 16, 23, 29, 52, 58, 72, 77, 93, 134] (by kernel_rfl) ?_
  repeat' first
    | with_reducible refine Br.yes ?_
    | with_reducible refine Br.no ?_
    | with_reducible refine Br.dec (fun _ => ?_) (fun _ => ?_)
    | with_reducible refine Br.beqB (fun _ => ?_) (fun _ => ?_)
    | with_reducible refine Br.beqb (fun _ => ?_) (fun _ => ?_)
    | with_reducible refine Br.mk (fun _ => ?_) (fun _ => ?_)
    | with_reducible refine foundO.mk (fun _ _ => ?_) (fun _ => ?_)
    | with_reducible refine appV.zero ?_
    | with_reducible refine appV.own ?_
    | ((with_reducible refine NewB.mk fun nb hnb => ?_); have hnb1 := hnb.1.1; have hnb2 := hnb.1.2; try simp only [keys_cons, keys_app, keys_nil, NotIn_cons, NotIn_app, NotIn_nil, and_true] at hnb2)
    | ((with_reducible refine NewRow.mk fun nb nsp ncap hnb hncap => ?_); have hnb1 := hnb.1.1; have hnb2 := hnb.1.2; try simp only [keys_cons, keys_app, keys_nil, NotIn_cons, NotIn_app, NotIn_nil, and_true] at hnb2)
    | simp (dsimp := false) (implicitDefEqProofs := false) (disch := first | assumption | (simp only [List.mem_cons, List.mem_append, true_or, or_true, eq_self]; done) | omega | (with_reducible refine Row.adr (by assumption) ?_; simp only [List.length_map, List.length_take, List.length_drop]; omega) | (simp only [List.length_cons, List.length_nil, List.length_map, List.length_append, List.length_replicate, Nat.reduceAdd, true_and, and_true, and_self]; first | done | omega)) only [go_sem, ↓reduceIte, Nat.reduceEqDiff, Nat.reduceAdd, Nat.reduceSub, Nat.reduceMul, Nat.reduceBEq, Nat.reduceLT, Nat.reduceLeDiff, Nat.reduceMod, Nat.reducePow, List.reduceReplicate, UInt8.reduceOfNat, Int.reducePow, Int.reduceDiv, Int.reduceMod, Nat.reduceDiv, Int.reduceNeg, Int.reduceAdd, Int.reduceSub, Int.reduceMul, Int.reduceLE, Int.reduceLT, Int.reduceEq, Int.reduceToNat, decide_true, decide_false, reduceCtorEq, ne_eq, not_false_eq_true, not_true_eq_false, and_true, true_and, and_self, or_true, true_or, or_false, false_or, or_self, eq_self, Option.isNone_some, Option.isNone_none, Nat.zero_add, Nat.add_zero, Nat.mul_one, Nat.one_mul, Nat.zero_mul, List.length_cons, List.length_nil, List.getElem?_cons_zero, List.getElem?_cons_succ, List.map_cons, List.map_nil, List.append_nil]
  refine Tri.loopS tok [0, 1, 2, 4, 5, 6, 7, 8, 9, 10, 11, 12, 13, 14, 15, 16, 23, 29, 52, 58, 72, 77, 93, 134] (.cut) (by kernel_rfl) [1, 2, 4, 5, 6, 10, 11, 12, 13] (fun q G' fr H' => ∃ (s : Nat) (v : Value) (wv : List Value) (kb : Heap), s + q = n ∧ PLe G G' ∧ SliceO [] 46 1 v s wv kb ∧ (∀ i (h : i < s) (h1 : i < wv.length), ∃ a c, wv[i] = .slice a n c ∧ Row G' a (rowV n (f i)) ∧ n ≤ c) ∧ H' = (b2, .cells C [] 27) :: (kb ++ (F ++ H)) ∧ fr = [(1, v1), (2, .pointer (some ⟨b2, 0, none⟩)), (4, v4), (5, .int .i64 (n : Nat)), (6, .slice ao n co), (10, v10), (11, v11), (12, v), (13, .int .i64 (s : Nat))]) (n) ?_ ?_
  · exact Upd.now ⟨0, _, [], [], by omega, PLe.refl _, .inl ⟨a0, rfl, rfl, rfl, rfl⟩, fun i h => by omega, rfl, rfl⟩
  · rintro q G1 fr H' hle hs1 ⟨s, v, wv, kb, hsq, hle1, hv, hwv, rfl, rfl⟩
    by_cases hsn : s < n
    · obtain ⟨b, c, sp, F2, e1, e2, hsum, back⟩ := hF.out (i := s) (by rw [matV_len]; exact hsn)
      rw [matV_get f hsn] at e2 hsum
      rw [matV_get f hsn, rowV_len] at e1
      rw [rowV_len] at e2
      have hro1 := hro.mono hle1
      have hrowl := rowV_len n (f s)
      rcases hv with ⟨a1, rfl, hs0, rfl, rfl⟩ | ⟨bw, cw, sw, rfl, rfl, hwl, hwc⟩
      · refine Tri.upd (Upd.go (H' := (b, .cells (rowV n (f s)) sp 4) :: (b2, .cells C [] 27) :: (F2 ++ H)) (by intro fsum; have := hsum fsum; simp only [List.map_append, List.map_cons, List.map_nil, List.sum_append, List.sum_cons, List.sum_nil, List.cons_append, List.nil_append]; omega) (Upd.now ?_))
        refine Tri.sepT fun hs2 => ?_
        have hsE := hs2
        try simp only [keys_cons, keys_app, keys_nil, Sep_cons, Sep_nil, NotIn_cons, NotIn_app, NotIn_nil, List.cons_append, List.nil_append, List.append_assoc, and_assoc, and_true, true_and] at hsE
        repeat (obtain ⟨hsx, hsE⟩ := hsE)
        refine Tri.run tok [0, 1, 2, 4, 5, 6, 7, 8, 9, 10, 11, 12, 13, 14, 15, 16, 23, 29, 52, 58, 72, 77, 93, 134] (by kernel_rfl) ?_
        repeat' first
          | with_reducible refine Br.yes ?_
          | with_reducible refine Br.no ?_
          | with_reducible refine Br.dec (fun _ => ?_) (fun _ => ?_)
          | with_reducible refine Br.beqB (fun _ => ?_) (fun _ => ?_)
          | with_reducible refine Br.beqb (fun _ => ?_) (fun _ => ?_)
          | with_reducible refine Br.mk (fun _ => ?_) (fun _ => ?_)
          | with_reducible refine foundO.mk (fun _ _ => ?_) (fun _ => ?_)
          | with_reducible refine appV.zero ?_
          | with_reducible refine appV.own ?_
          | ((with_reducible refine NewB.mk fun nb hnb => ?_); have hnb1 := hnb.1.1; have hnb2 := hnb.1.2; try simp only [keys_cons, keys_app, keys_nil, NotIn_cons, NotIn_app, NotIn_nil, and_true] at hnb2)
          | ((with_reducible refine NewRow.mk fun nb nsp ncap hnb hncap => ?_); have hnb1 := hnb.1.1; have hnb2 := hnb.1.2; try simp only [keys_cons, keys_app, keys_nil, NotIn_cons, NotIn_app, NotIn_nil, and_true] at hnb2)
          | simp (dsimp := false) (implicitDefEqProofs := false) (disch := first | assumption | (simp only [List.mem_cons, List.mem_append, true_or, or_true, eq_self]; done) | omega | (with_reducible refine Row.adr (by assumption) ?_; simp only [List.length_map, List.length_take, List.length_drop]; omega) | (simp only [List.length_cons, List.length_nil, List.length_map, List.length_append, List.length_replicate, Nat.reduceAdd, true_and, and_true, and_self]; first | done | omega)) only [go_sem, ↓reduceIte, Nat.reduceEqDiff, Nat.reduceAdd, Nat.reduceSub, Nat.reduceMul, Nat.reduceBEq, Nat.reduceLT, Nat.reduceLeDiff, Nat.reduceMod, Nat.reducePow, List.reduceReplicate, UInt8.reduceOfNat, Int.reducePow, Int.reduceDiv, Int.reduceMod, Nat.reduceDiv, Int.reduceNeg, Int.reduceAdd, Int.reduceSub, Int.reduceMul, Int.reduceLE, Int.reduceLT, Int.reduceEq, Int.reduceToNat, decide_true, decide_false, reduceCtorEq, ne_eq, not_false_eq_true, not_true_eq_false, and_true, true_and, and_self, or_true, true_or, or_false, false_or, or_self, eq_self, Option.isNone_some, Option.isNone_none, Nat.zero_add, Nat.add_zero, Nat.mul_one, Nat.one_mul, Nat.zero_mul, List.length_cons, List.length_nil, List.getElem?_cons_zero, List.getElem?_cons_succ, List.map_cons, List.map_nil, List.append_nil, Row.obj hro1, e1, rowV_take, hrowl]
        rename_i r0 x1 x2 x3 br spr cr y1 y2 y3 y4 bt z1 z2 z3
        refine Upd.go (H' := (br, .cells (rowV n (f s)) spr 4) :: (b2, .cells C [] 27) :: ([(nb, .cells [.slice (some ⟨br, 0, none⟩) n cr] nsp 46)] ++ (F ++ H))) (by intro fsum; have := hsum fsum; simp only [List.map_append, List.map_cons, List.map_nil, List.sum_append, List.sum_cons, List.sum_nil, List.cons_append, List.nil_append]; omega) (Upd.shareRow (by assumption) fun G2 hle2 hs3 hr2 => ?_)
        subst hs0
        refine ⟨q - 1, by omega, 1, _, [_], _, by omega, hle1.trans hle2, .inr ⟨nb, ncap, nsp, rfl, rfl, rfl, by simp only [List.length_singleton]; omega⟩, fun i h h1 => ?_, rfl, rfl⟩
        obtain rfl : i = 0 := by omega
        exact ⟨_, _, rfl, hr2, by omega⟩
      · refine Tri.upd (Upd.go (H' := (b, .cells (rowV n (f s)) sp 4) :: (b2, .cells C [] 27) :: (bw, .cells wv sw 46) :: (F2 ++ H)) (by intro fsum; have := hsum fsum; simp only [List.map_append, List.map_cons, List.map_nil, List.sum_append, List.sum_cons, List.sum_nil, List.cons_append, List.nil_append]; omega) (Upd.now ?_))
        refine Tri.sepT fun hs2 => ?_
        have hsE := hs2
        try simp only [keys_cons, keys_app, keys_nil, Sep_cons, Sep_nil, NotIn_cons, NotIn_app, NotIn_nil, List.cons_append, List.nil_append, List.append_assoc, and_assoc, and_true, true_and] at hsE
        repeat (obtain ⟨hsx, hsE⟩ := hsE)
        have hwl : wv.length = s := by omega
        refine Tri.run tok [0, 1, 2, 4, 5, 6, 7, 8, 9, 10, 11, 12, 13, 14, 15, 16, 23, 29, 52, 58, 72, 77, 93, 134] (by kernel_rfl) ?_
        repeat' first
          | with_reducible refine Br.yes ?_
          | with_reducible refine Br.no ?_
          | with_reducible refine Br.dec (fun _ => ?_) (fun _ => ?_)
          | with_reducible refine Br.beqB (fun _ => ?_) (fun _ => ?_)
          | with_reducible refine Br.beqb (fun _ => ?_) (fun _ => ?_)
          | with_reducible refine Br.mk (fun _ => ?_) (fun _ => ?_)
          | with_reducible refine foundO.mk (fun _ _ => ?_) (fun _ => ?_)
          | with_reducible refine appV.zero ?_
          | with_reducible refine appV.own ?_
          | ((with_reducible refine NewB.mk fun nb hnb => ?_); have hnb1 := hnb.1.1; have hnb2 := hnb.1.2; try simp only [keys_cons, keys_app, keys_nil, NotIn_cons, NotIn_app, NotIn_nil, and_true] at hnb2)
          | ((with_reducible refine NewRow.mk fun nb nsp ncap hnb hncap => ?_); have hnb1 := hnb.1.1; have hnb2 := hnb.1.2; try simp only [keys_cons, keys_app, keys_nil, NotIn_cons, NotIn_app, NotIn_nil, and_true] at hnb2)
          | simp (dsimp := false) (implicitDefEqProofs := false) (disch := first | assumption | (simp only [List.mem_cons, List.mem_append, true_or, or_true, eq_self]; done) | omega | (with_reducible refine Row.adr (by assumption) ?_; simp only [List.length_map, List.length_take, List.length_drop]; omega) | (simp only [List.length_cons, List.length_nil, List.length_map, List.length_append, List.length_replicate, Nat.reduceAdd, true_and, and_true, and_self]; first | done | omega)) only [go_sem, ↓reduceIte, Nat.reduceEqDiff, Nat.reduceAdd, Nat.reduceSub, Nat.reduceMul, Nat.reduceBEq, Nat.reduceLT, Nat.reduceLeDiff, Nat.reduceMod, Nat.reducePow, List.reduceReplicate, UInt8.reduceOfNat, Int.reducePow, Int.reduceDiv, Int.reduceMod, Nat.reduceDiv, Int.reduceNeg, Int.reduceAdd, Int.reduceSub, Int.reduceMul, Int.reduceLE, Int.reduceLT, Int.reduceEq, Int.reduceToNat, decide_true, decide_false, reduceCtorEq, ne_eq, not_false_eq_true, not_true_eq_false, and_true, true_and, and_self, or_true, true_or, or_false, false_or, or_self, eq_self, Option.isNone_some, Option.isNone_none, Nat.zero_add, Nat.add_zero, Nat.mul_one, Nat.one_mul, Nat.zero_mul, List.length_cons, List.length_nil, List.getElem?_cons_zero, List.getElem?_cons_succ, List.map_cons, List.map_nil, List.append_nil, Row.obj hro1, e1, rowV_take, hrowl]
        rename_i r0 x1 x2 x3 br spr cr y1 y2 y3 y4 bt z1 z2 z3
        refine Upd.go (H' := (br, .cells (rowV n (f s)) spr 4) :: (b2, .cells C [] 27) :: ([(nb, .cells (wv ++ [.slice (some ⟨br, 0, none⟩) n cr]) nsp 46)] ++ (F ++ H))) (by intro fsum; have := hsum fsum; simp only [List.map_append, List.map_cons, List.map_nil, List.sum_append, List.sum_cons, List.sum_nil, List.cons_append, List.nil_append]; omega) (Upd.shareRow (by assumption) fun G2 hle2 hs3 hr2 => ?_)
        refine ⟨q - 1, by omega, s + 1, _, _, _, by omega, hle1.trans hle2, .inr ⟨nb, ncap, nsp, rfl, rfl, by rw [List.length_append, hwl, List.length_singleton]; omega, by rw [List.length_append, hwl, List.length_singleton]; omega⟩, fun i h h1 => ?_, rfl, rfl⟩
        rcases Nat.lt_or_ge i s with hi | hi
        · obtain ⟨a', c', g1, g2, g3⟩ := hwv i hi (by omega)
          exact ⟨a', c', by rw [List.getElem_append_left (by omega)]; exact g1, g2.mono hle2, g3⟩
        · obtain rfl : i = s := by omega
          refine ⟨some ⟨br, 0, none⟩, cr, ?_, hr2, ?_⟩
          · rw [List.getElem_append_right (by omega)]; simp [hwl]
          · omega
    · obtain rfl : s = n := by omega
      rcases hv with ⟨a1, rfl, hs0, rfl, rfl⟩ | ⟨bw, cw, sw, rfl, rfl, hwl, hwc⟩
      · omega
      · refine Tri.sepT fun hs2 => ?_
        have hsE := hs2
        try simp only [keys_cons, keys_app, keys_nil, Sep_cons, Sep_nil, NotIn_cons, NotIn_app, NotIn_nil, List.cons_append, List.nil_append, List.append_assoc, and_assoc, and_true, true_and] at hsE
        repeat (obtain ⟨hsx, hsE⟩ := hsE)
        refine Tri.run tok [0, 1, 2, 4, 5, 6, 7, 8, 9, 10, 11, 12, 13, 14, 15, 16, 23, 29, 52, 58, 72, 77, 93, 134] (by kernel_rfl) ?_
        repeat' first
          | with_reducible refine Br.yes ?_
          | with_reducible refine Br.no ?_
          | with_reducible refine Br.dec (fun _ => ?_) (fun _ => ?_)
          | with_reducible refine Br.beqB (fun _ => ?_) (fun _ => ?_)
          | with_reducible refine Br.beqb (fun _ => ?_) (fun _ => ?_)
          | with_reducible refine Br.mk (fun _ => ?_) (fun _ => ?_)
          | with_reducible refine foundO.mk (fun _ _ => ?_) (fun _ => ?_)
          | with_reducible refine appV.zero ?_
          | with_reducible refine appV.own ?_
          | ((with_reducible refine NewB.mk fun nb hnb => ?_); have hnb1 := hnb.1.1; have hnb2 := hnb.1.2; try simp only [keys_cons, keys_app, keys_nil, NotIn_cons, NotIn_app, NotIn_nil, and_true] at hnb2)
          | ((with_reducible refine NewRow.mk fun nb nsp ncap hnb hncap => ?_); have hnb1 := hnb.1.1; have hnb2 := hnb.1.2; try simp only [keys_cons, keys_app, keys_nil, NotIn_cons, NotIn_app, NotIn_nil, and_true] at hnb2)
          | simp (dsimp := false) (implicitDefEqProofs := false) (disch := first | assumption | (simp only [List.mem_cons, List.mem_append, true_or, or_true, eq_self]; done) | omega | (with_reducible refine Row.adr (by assumption) ?_; simp only [List.length_map, List.length_take, List.length_drop]; omega) | (simp only [List.length_cons, List.length_nil, List.length_map, List.length_append, List.length_replicate, Nat.reduceAdd, true_and, and_true, and_self]; first | done | omega)) only [go_sem, ↓reduceIte, Nat.reduceEqDiff, Nat.reduceAdd, Nat.reduceSub, Nat.reduceMul, Nat.reduceBEq, Nat.reduceLT, Nat.reduceLeDiff, Nat.reduceMod, Nat.reducePow, List.reduceReplicate, UInt8.reduceOfNat, Int.reducePow, Int.reduceDiv, Int.reduceMod, Nat.reduceDiv, Int.reduceNeg, Int.reduceAdd, Int.reduceSub, Int.reduceMul, Int.reduceLE, Int.reduceLT, Int.reduceEq, Int.reduceToNat, decide_true, decide_false, reduceCtorEq, ne_eq, not_false_eq_true, not_true_eq_false, and_true, true_and, and_self, or_true, true_or, or_false, false_or, or_self, eq_self, Option.isNone_some, Option.isNone_none, Nat.zero_add, Nat.add_zero, Nat.mul_one, Nat.one_mul, Nat.zero_mul, List.length_cons, List.length_nil, List.getElem?_cons_zero, List.getElem?_cons_succ, List.map_cons, List.map_nil, List.append_nil]
        refine Upd.go (H' := (bw, .cells wv sw 46) :: (b2, .cells C [] 27) :: (F ++ H)) (by intro fsum; first | exact Nat.le_refl _ | (simp only [List.map_append, List.map_cons, List.map_nil, List.sum_append, List.sum_cons, List.sum_nil, List.cons_append, List.nil_append]; omega)) (Upd.shareRow (by assumption) fun G2 hle2 hs3 hr2 => ?_)
        exact ⟨some ⟨bw, 0, none⟩, cw, hle1.trans hle2, ⟨wv, hr2, by omega, fun i h h1 => by
          obtain ⟨a', c', g1, g2, g3⟩ := hwv i h h1
          exact ⟨a', c', g1, g2.mono hle2, g3⟩⟩, rfl, rfl⟩
end Go.Proofs.Ytmlmhcejdlljjaa
