/- The document's table of states that are told apart: a row, and all rows. -/
import Derived.Test.YtmlmhcejdlljjaaNa
set_option linter.unusedSimpArgs false
set_option linter.unusedVariables false
namespace Go.Proofs.Ytmlmhcejdlljjaa
open Go Go.V Go.Proofs

theorem any_succ (p : Nat → Bool) (t : Nat) : (List.range (t + 1)).any p = ((List.range t).any p || p t) := by
  rw [List.range_succ, List.any_append]; simp
set_option maxHeartbeats 16000000 in
theorem pt_t {d : DfaT} (hsm : SmallD d) (hok : RightP d) {C : List Value} {an al ay : Option Addr} {cn cl cs : Nat} {rs : List Value} {G : PHeap} (O : OpenD G d C an al ay cn cl cs rs) {n : Nat} (hn : n = d.label.length)
    {ao : Option Addr} {co : Nat} {vs : List Value} (hro : Row G ao vs) (hvl : vs.length = n) {s : Nat} (hs : s < n) {bs cc : Nat} (hvs : vs[s]'(by omega) = .slice (some ⟨bs, 0, none⟩) n cc) {aw : Option Addr} {cw : Nat} {f : Nat → Nat → Bool} (hW : WasO G n f aw)
    {g : Nat → Bool} {more : Bool} {sp : List Value} {v1 v4 v10 : Value} {b2 : Nat} {H : Heap} :
    Tri Try.prog Try.f25.ntmps (piece [1, 1, 1, 1, 0, 1, 0, 0, 1, 0, 0, 1, 1, 1, 0, 1, 0, 0, 1, 0, 0] Try.f25) G
      [(1, v1), (2, .pointer (some ⟨b2, 0, none⟩)), (4, v4), (5, .int .i64 (n : Nat)), (6, .slice ao n co), (10, v10), (11, .bool more), (12, .slice aw n cw), (14, .int .i64 (s : Nat))]
      ((bs, .cells (rowV n g) sp 4) :: (b2, .cells C [] 27) :: H) (onlyN fun G' fr' H' => ∃ g' more', (∀ j, j < n → g' j = (g j || yB d f s j)) ∧ more' = (more || (List.range n).any fun j => !g j && yB d f s j) ∧ G' = G ∧
        restrict [1, 2, 4, 5, 6, 10, 11, 12, 14] fr' = [(1, v1), (2, .pointer (some ⟨b2, 0, none⟩)), (4, v4), (5, .int .i64 (n : Nat)), (6, .slice ao n co), (10, v10), (11, .bool more'), (12, .slice aw n cw), (14, .int .i64 (s : Nat))] ∧
        H' = (bs, .cells (rowV n g') sp 4) :: (b2, .cells C [] 27) :: H) := by
  have hk2 := hok.2.1
  refine Tri.piece (f := Try.f25) rfl ?_
  refine Tri.run tok [0, 1, 2, 4, 5, 6, 7, 8, 9, 10, 11, 12, 13, 14, 15, 16, 23, 29, 52, 58, 72, 77, 93, 134] (by kernel_rfl) ?_
  repeat' first
    | with_reducible refine Br.yes ?_
    | with_reducible refine Br.no ?_
    | with_reducible refine Br.dec (fun _ => ?_) (fun _ => ?_)
    | with_reducible refine Br.beqB (fun _ => ?_) (fun _ => ?_)
    | with_reducible refine Br.beqb (fun _ => ?_) (fun _ => ?_)
    | with_reducible refine Br.mk (fun _ => ?_) (fun _ => ?_)
    | with_reducible refine foundO.mk (fun _ _ => ?_) (fun _ => ?_)
    | with_reducible refine appV.zero ?_
    | with_reducible refine appV.own ?_
    | ((with_reducible refine NewB.mk fun nb hnb => ?_); have hnb1 := hnb.1.1; have hnb2 := hnb.1.2; try simp only [keys_cons, keys_app, keys_nil, NotIn_cons, NotIn_app, NotIn_nil, and_true] at hnb2)
    | ((with_reducible refine NewRow.mk fun nb nsp ncap hnb hncap => ?_); have hnb1 := hnb.1.1; have hnb2 := hnb.1.2; try simp only [keys_cons, keys_app, keys_nil, NotIn_cons, NotIn_app, NotIn_nil, and_true] at hnb2)
    | simp (dsimp := false) (implicitDefEqProofs := false) (disch := first | assumption | (simp only [List.mem_cons, List.mem_append, true_or, or_true, eq_self]; done) | omega | (with_reducible refine Row.adr (by assumption) ?_; simp only [List.length_map, List.length_take, List.length_drop]; omega) | (simp only [List.length_cons, List.length_nil, List.length_map, List.length_append, List.length_replicate, Nat.reduceAdd, true_and, and_true, and_self]; first | done | omega)) only [go_sem, ↓reduceIte, Nat.reduceEqDiff, Nat.reduceAdd, Nat.reduceSub, Nat.reduceMul, Nat.reduceBEq, Nat.reduceLT, Nat.reduceLeDiff, Nat.reduceMod, Nat.reducePow, List.reduceReplicate, UInt8.reduceOfNat, Int.reducePow, Int.reduceDiv, Int.reduceMod, Nat.reduceDiv, Int.reduceNeg, Int.reduceAdd, Int.reduceSub, Int.reduceMul, Int.reduceLE, Int.reduceLT, Int.reduceEq, Int.reduceToNat, decide_true, decide_false, reduceCtorEq, ne_eq, not_false_eq_true, not_true_eq_false, and_true, true_and, and_self, or_true, true_or, or_false, false_or, or_self, eq_self, Option.isNone_some, Option.isNone_none, Nat.zero_add, Nat.add_zero, Nat.mul_one, Nat.one_mul, Nat.zero_mul, List.length_cons, List.length_nil, List.getElem?_cons_zero, List.getElem?_cons_succ, List.map_cons, List.map_nil, List.append_nil]
  refine Tri.loopS tok [0, 1, 2, 4, 5, 6, 7, 8, 9, 10, 11, 12, 13, 14, 15, 16, 23, 29, 52, 58, 72, 77, 93, 134] (.seq .run (.seq (.block .cut) .cut)) (by kernel_rfl) [1, 2, 4, 5, 6, 10, 11, 12, 14, 15] (fun q G' fr H' => ∃ (t : Nat) (g' : Nat → Bool) (more' : Bool), t + q = n ∧ (∀ j, j < n → g' j = if j < t then g j || yB d f s j else g j) ∧ more' = (more || (List.range t).any fun j => !g j && yB d f s j) ∧ G' = G ∧ H' = (bs, .cells (rowV n g') sp 4) :: (b2, .cells C [] 27) :: H ∧ fr = [(1, v1), (2, .pointer (some ⟨b2, 0, none⟩)), (4, v4), (5, .int .i64 (n : Nat)), (6, .slice ao n co), (10, v10), (11, .bool more'), (12, .slice aw n cw), (14, .int .i64 (s : Nat)), (15, .int .i64 (t : Nat))]) (n) ?_ ?_
  · exact Upd.now ⟨0, g, more, by omega, fun j hj => by rw [if_neg (Nat.not_lt_zero j)], by simp, rfl, rfl, rfl⟩
  · rintro q G1 fr H' hle hs1 ⟨t, g', more', htq, hg', hmore, rfl, rfl, rfl⟩
    by_cases htn : t < n
    · repeat' first
        | with_reducible refine Br.yes ?_
        | with_reducible refine Br.no ?_
        | with_reducible refine Br.dec (fun _ => ?_) (fun _ => ?_)
        | with_reducible refine Br.beqB (fun _ => ?_) (fun _ => ?_)
        | with_reducible refine Br.beqb (fun _ => ?_) (fun _ => ?_)
        | with_reducible refine Br.mk (fun _ => ?_) (fun _ => ?_)
        | with_reducible refine foundO.mk (fun _ _ => ?_) (fun _ => ?_)
        | with_reducible refine appV.zero ?_
        | with_reducible refine appV.own ?_
        | ((with_reducible refine NewB.mk fun nb hnb => ?_); have hnb1 := hnb.1.1; have hnb2 := hnb.1.2; try simp only [keys_cons, keys_app, keys_nil, NotIn_cons, NotIn_app, NotIn_nil, and_true] at hnb2)
        | ((with_reducible refine NewRow.mk fun nb nsp ncap hnb hncap => ?_); have hnb1 := hnb.1.1; have hnb2 := hnb.1.2; try simp only [keys_cons, keys_app, keys_nil, NotIn_cons, NotIn_app, NotIn_nil, and_true] at hnb2)
        | simp (dsimp := false) (implicitDefEqProofs := false) (disch := first | assumption | (simp only [List.mem_cons, List.mem_append, true_or, or_true, eq_self]; done) | omega | (with_reducible refine Row.adr (by assumption) ?_; simp only [List.length_map, List.length_take, List.length_drop]; omega) | (simp only [List.length_cons, List.length_nil, List.length_map, List.length_append, List.length_replicate, Nat.reduceAdd, true_and, and_true, and_self]; first | done | omega)) only [go_sem, ↓reduceIte, Nat.reduceEqDiff, Nat.reduceAdd, Nat.reduceSub, Nat.reduceMul, Nat.reduceBEq, Nat.reduceLT, Nat.reduceLeDiff, Nat.reduceMod, Nat.reducePow, List.reduceReplicate, UInt8.reduceOfNat, Int.reducePow, Int.reduceDiv, Int.reduceMod, Nat.reduceDiv, Int.reduceNeg, Int.reduceAdd, Int.reduceSub, Int.reduceMul, Int.reduceLE, Int.reduceLT, Int.reduceEq, Int.reduceToNat, decide_true, decide_false, reduceCtorEq, ne_eq, not_false_eq_true, not_true_eq_false, and_true, true_and, and_self, or_true, true_or, or_false, false_or, or_self, eq_self, Option.isNone_some, Option.isNone_none, Nat.zero_add, Nat.add_zero, Nat.mul_one, Nat.one_mul, Nat.zero_mul, List.length_cons, List.length_nil, List.getElem?_cons_zero, List.getElem?_cons_succ, List.map_cons, List.map_nil, List.append_nil]
      all_goals try (exfalso; omega)
      refine Tri.live [1, 2, 4, 5, 6, 10, 11, 12, 14, 15] ?_
      refine Tri.isPiece [1, 1, 1, 1, 0, 1, 0, 0, 1, 0, 0, 1, 1, 1, 0, 1, 0, 0, 1, 0, 0, 1, 0, 0, 1, 0, 0] Try.f25 (by kernel_rfl) ?_
      refine Tri.onlyN (pc_t hsm hok O hn hro hvl hs htn hvs hW) fun G7 l7 H7 hle7 hs7 hM => ?_
      obtain ⟨g2, more2, hg2, hmore2, rfl, hfr', rfl⟩ := hM
      simp only [go_sem]
      refine Tri.live [1, 2, 4, 5, 6, 10, 11, 12, 14, 15] ?_
      rw [hfr']
      refine Tri.run tok [0, 1, 2, 4, 5, 6, 7, 8, 9, 10, 11, 12, 13, 14, 15, 16, 23, 29, 52, 58, 72, 77, 93, 134] (by kernel_rfl) ?_
      repeat' first
        | with_reducible refine Br.yes ?_
        | with_reducible refine Br.no ?_
        | with_reducible refine Br.dec (fun _ => ?_) (fun _ => ?_)
        | with_reducible refine Br.beqB (fun _ => ?_) (fun _ => ?_)
        | with_reducible refine Br.beqb (fun _ => ?_) (fun _ => ?_)
        | with_reducible refine Br.mk (fun _ => ?_) (fun _ => ?_)
        | with_reducible refine foundO.mk (fun _ _ => ?_) (fun _ => ?_)
        | with_reducible refine appV.zero ?_
        | with_reducible refine appV.own ?_
        | ((with_reducible refine NewB.mk fun nb hnb => ?_); have hnb1 := hnb.1.1; have hnb2 := hnb.1.2; try simp only [keys_cons, keys_app, keys_nil, NotIn_cons, NotIn_app, NotIn_nil, and_true] at hnb2)
        | ((with_reducible refine NewRow.mk fun nb nsp ncap hnb hncap => ?_); have hnb1 := hnb.1.1; have hnb2 := hnb.1.2; try simp only [keys_cons, keys_app, keys_nil, NotIn_cons, NotIn_app, NotIn_nil, and_true] at hnb2)
        | simp (dsimp := false) (implicitDefEqProofs := false) (disch := first | assumption | (simp only [List.mem_cons, List.mem_append, true_or, or_true, eq_self]; done) | omega | (with_reducible refine Row.adr (by assumption) ?_; simp only [List.length_map, List.length_take, List.length_drop]; omega) | (simp only [List.length_cons, List.length_nil, List.length_map, List.length_append, List.length_replicate, Nat.reduceAdd, true_and, and_true, and_self]; first | done | omega)) only [go_sem, ↓reduceIte, Nat.reduceEqDiff, Nat.reduceAdd, Nat.reduceSub, Nat.reduceMul, Nat.reduceBEq, Nat.reduceLT, Nat.reduceLeDiff, Nat.reduceMod, Nat.reducePow, List.reduceReplicate, UInt8.reduceOfNat, Int.reducePow, Int.reduceDiv, Int.reduceMod, Nat.reduceDiv, Int.reduceNeg, Int.reduceAdd, Int.reduceSub, Int.reduceMul, Int.reduceLE, Int.reduceLT, Int.reduceEq, Int.reduceToNat, decide_true, decide_false, reduceCtorEq, ne_eq, not_false_eq_true, not_true_eq_false, and_true, true_and, and_self, or_true, true_or, or_false, false_or, or_self, eq_self, Option.isNone_some, Option.isNone_none, Nat.zero_add, Nat.add_zero, Nat.mul_one, Nat.one_mul, Nat.zero_mul, List.length_cons, List.length_nil, List.getElem?_cons_zero, List.getElem?_cons_succ, List.map_cons, List.map_nil, List.append_nil]
      have hgt : g' t = g t := by rw [hg' t htn, if_neg (Nat.lt_irrefl t)]
      refine Upd.now ⟨q - 1, by omega, t + 1, g2, more2, by omega, fun j hj => ?_, ?_, rfl, rfl, rfl⟩
      · rw [hg2 j hj, hgt]
        by_cases e : j = t
        · subst e; rw [if_pos rfl, if_pos (by omega)]
        · rw [if_neg e, hg' j hj]
          by_cases h : j < t
          · rw [if_pos h, if_pos (by omega)]
          · rw [if_neg h, if_neg (by omega)]
      · rw [hmore2, hmore, hgt, any_succ, Bool.or_assoc]
    · obtain rfl : t = n := by omega
      repeat' first
        | with_reducible refine Br.yes ?_
        | with_reducible refine Br.no ?_
        | with_reducible refine Br.dec (fun _ => ?_) (fun _ => ?_)
        | with_reducible refine Br.beqB (fun _ => ?_) (fun _ => ?_)
        | with_reducible refine Br.beqb (fun _ => ?_) (fun _ => ?_)
        | with_reducible refine Br.mk (fun _ => ?_) (fun _ => ?_)
        | with_reducible refine foundO.mk (fun _ _ => ?_) (fun _ => ?_)
        | with_reducible refine appV.zero ?_
        | with_reducible refine appV.own ?_
        | ((with_reducible refine NewB.mk fun nb hnb => ?_); have hnb1 := hnb.1.1; have hnb2 := hnb.1.2; try simp only [keys_cons, keys_app, keys_nil, NotIn_cons, NotIn_app, NotIn_nil, and_true] at hnb2)
        | ((with_reducible refine NewRow.mk fun nb nsp ncap hnb hncap => ?_); have hnb1 := hnb.1.1; have hnb2 := hnb.1.2; try simp only [keys_cons, keys_app, keys_nil, NotIn_cons, NotIn_app, NotIn_nil, and_true] at hnb2)
        | simp (dsimp := false) (implicitDefEqProofs := false) (disch := first | assumption | (simp only [List.mem_cons, List.mem_append, true_or, or_true, eq_self]; done) | omega | (with_reducible refine Row.adr (by assumption) ?_; simp only [List.length_map, List.length_take, List.length_drop]; omega) | (simp only [List.length_cons, List.length_nil, List.length_map, List.length_append, List.length_replicate, Nat.reduceAdd, true_and, and_true, and_self]; first | done | omega)) only [go_sem, ↓reduceIte, Nat.reduceEqDiff, Nat.reduceAdd, Nat.reduceSub, Nat.reduceMul, Nat.reduceBEq, Nat.reduceLT, Nat.reduceLeDiff, Nat.reduceMod, Nat.reducePow, List.reduceReplicate, UInt8.reduceOfNat, Int.reducePow, Int.reduceDiv, Int.reduceMod, Nat.reduceDiv, Int.reduceNeg, Int.reduceAdd, Int.reduceSub, Int.reduceMul, Int.reduceLE, Int.reduceLT, Int.reduceEq, Int.reduceToNat, decide_true, decide_false, reduceCtorEq, ne_eq, not_false_eq_true, not_true_eq_false, and_true, true_and, and_self, or_true, true_or, or_false, false_or, or_self, eq_self, Option.isNone_some, Option.isNone_none, Nat.zero_add, Nat.add_zero, Nat.mul_one, Nat.one_mul, Nat.zero_mul, List.length_cons, List.length_nil, List.getElem?_cons_zero, List.getElem?_cons_succ, List.map_cons, List.map_nil, List.append_nil]
      all_goals try (exfalso; omega)
      exact Upd.now ⟨g', more', fun j hj => by rw [hg' j hj, if_pos hj], hmore, rfl, rfl, rfl⟩
set_option maxHeartbeats 16000000 in
theorem ps_t {d : DfaT} (hsm : SmallD d) (hok : RightP d) {C : List Value} {an al ay : Option Addr} {cn cl cs : Nat} {rs : List Value} {G : PHeap} (O : OpenD G d C an al ay cn cl cs rs) {n : Nat} (hn : n = d.label.length)
    {ao : Option Addr} {co : Nat} {vs : List Value} (hro : Row G ao vs) {aw : Option Addr} {cw : Nat} {f : Nat → Nat → Bool} (hW : WasO G n f aw)
    {h : Nat → Nat → Bool} {F : Heap} (hF : Fam 4 vs (matV n h) F) {more : Bool} {v1 v4 v10 : Value} {b2 : Nat} {H : Heap} :
    Tri Try.prog Try.f25.ntmps (piece [1, 1, 1, 1, 0, 1, 0, 0, 1, 0, 0, 1, 1, 1, 0] Try.f25) G
      [(1, v1), (2, .pointer (some ⟨b2, 0, none⟩)), (4, v4), (5, .int .i64 (n : Nat)), (6, .slice ao n co), (10, v10), (11, .bool more), (12, .slice aw n cw)]
      ((b2, .cells C [] 27) :: (F ++ H)) (onlyN fun G' fr' H' => ∃ h' more' F', Fam 4 vs (matV n h') F' ∧ (∀ i j, i < n → j < n → h' i j = (h i j || yB d f i j)) ∧ more' = (more || (List.range n).any fun i => (List.range n).any fun j => !h i j && yB d f i j) ∧ G' = G ∧
        restrict [1, 2, 4, 5, 6, 10, 11, 12] fr' = [(1, v1), (2, .pointer (some ⟨b2, 0, none⟩)), (4, v4), (5, .int .i64 (n : Nat)), (6, .slice ao n co), (10, v10), (11, .bool more'), (12, .slice aw n cw)] ∧
        H' = (b2, .cells C [] 27) :: (F' ++ H)) := by
  have hk2 := hok.2.1
  have hvl : vs.length = n := by rw [hF.lenv, matV_len]
  refine Tri.piece (f := Try.f25) rfl ?_
  refine Tri.run tok [0, 1, 2, 4, 5, 6, 7, 8, 9, 10, 11, 12, 13, 14, 15, 16, 23, 29, 52, 58, 72, 77, 93, 134] (by kernel_rfl) ?_
  repeat' first
    | with_reducible refine Br.yes ?_
    | with_reducible refine Br.no ?_
    | with_reducible refine Br.dec (fun _ => ?_) (fun _ => ?_)
    | with_reducible refine Br.beqB (fun _ => ?_) (fun _ => ?_)
    | with_reducible refine Br.beqb (fun _ => ?_) (fun _ => ?_)
    | with_reducible refine Br.mk (fun _ => ?_) (fun _ => ?_)
    | with_reducible refine foundO.mk (fun _ _ => ?_) (fun _ => ?_)
    | with_reducible refine appV.zero ?_
    | with_reducible refine appV.own ?_
    | ((with_reducible refine NewB.mk fun nb hnb => ?_); have hnb1 := hnb.1.1; have hnb2 := hnb.1.2; try simp only [keys_cons, keys_app, keys_nil, NotIn_cons, NotIn_app, NotIn_nil, and_true] at hnb2)
    | ((with_reducible refine NewRow.mk fun nb nsp ncap hnb hncap => ?_); have hnb1 := hnb.1.1; have hnb2 := hnb.1.2; try simp only [keys_cons, keys_app, keys_nil, NotIn_cons, NotIn_app, NotIn_nil, and_true] at hnb2)
    | simp (dsimp := false) (implicitDefEqProofs := false) (disch := first | assumption | (simp only [List.mem_cons, List.mem_append, true_or, or_true, eq_self]; done) | omega | (with_reducible refine Row.adr (by assumption) ?_; simp only [List.length_map, List.length_take, List.length_drop]; omega) | (simp only [List.length_cons, List.length_nil, List.length_map, List.length_append, List.length_replicate, Nat.reduceAdd, true_and, and_true, and_self]; first | done | omega)) only [go_sem, ↓reduceIte, Nat.reduceEqDiff, Nat.reduceAdd, Nat.reduceSub, Nat.reduceMul, Nat.reduceBEq, Nat.reduceLT, Nat.reduceLeDiff, Nat.reduceMod, Nat.reducePow, List.reduceReplicate, UInt8.reduceOfNat, Int.reducePow, Int.reduceDiv, Int.reduceMod, Nat.reduceDiv, Int.reduceNeg, Int.reduceAdd, Int.reduceSub, Int.reduceMul, Int.reduceLE, Int.reduceLT, Int.reduceEq, Int.reduceToNat, decide_true, decide_false, reduceCtorEq, ne_eq, not_false_eq_true, not_true_eq_false, and_true, true_and, and_self, or_true, true_or, or_false, false_or, or_self, eq_self, Option.isNone_some, Option.isNone_none, Nat.zero_add, Nat.add_zero, Nat.mul_one, Nat.one_mul, Nat.zero_mul, List.length_cons, List.length_nil, List.getElem?_cons_zero, List.getElem?_cons_succ, List.map_cons, List.map_nil, List.append_nil]
  refine Tri.loopS tok [0, 1, 2, 4, 5, 6, 7, 8, 9, 10, 11, 12, 13, 14, 15, 16, 23, 29, 52, 58, 72, 77, 93, 134] (.seq .run (.seq (.block .cut) .cut)) (by kernel_rfl) [1, 2, 4, 5, 6, 10, 11, 12, 14] (fun q G' fr H' => ∃ (s : Nat) (h' : Nat → Nat → Bool) (more' : Bool) (F' : Heap), s + q = n ∧ Fam 4 vs (matV n h') F' ∧ (∀ i j, i < n → j < n → h' i j = if i < s then h i j || yB d f i j else h i j) ∧ more' = (more || (List.range s).any fun i => (List.range n).any fun j => !h i j && yB d f i j) ∧ G' = G ∧ H' = (b2, .cells C [] 27) :: (F' ++ H) ∧ fr = [(1, v1), (2, .pointer (some ⟨b2, 0, none⟩)), (4, v4), (5, .int .i64 (n : Nat)), (6, .slice ao n co), (10, v10), (11, .bool more'), (12, .slice aw n cw), (14, .int .i64 (s : Nat))]) (n) ?_ ?_
  · exact Upd.now ⟨0, h, more, F, by omega, hF, fun i j hi hj => by rw [if_neg (Nat.not_lt_zero i)], by simp, rfl, rfl, rfl⟩
  · rintro q G1 fr H' hle hs1 ⟨s, h', more', F', hsq, hF', hh', hmore, rfl, rfl, rfl⟩
    by_cases hsn : s < n
    · repeat' first
        | with_reducible refine Br.yes ?_
        | with_reducible refine Br.no ?_
        | with_reducible refine Br.dec (fun _ => ?_) (fun _ => ?_)
        | with_reducible refine Br.beqB (fun _ => ?_) (fun _ => ?_)
        | with_reducible refine Br.beqb (fun _ => ?_) (fun _ => ?_)
        | with_reducible refine Br.mk (fun _ => ?_) (fun _ => ?_)
        | with_reducible refine foundO.mk (fun _ _ => ?_) (fun _ => ?_)
        | with_reducible refine appV.zero ?_
        | with_reducible refine appV.own ?_
        | ((with_reducible refine NewB.mk fun nb hnb => ?_); have hnb1 := hnb.1.1; have hnb2 := hnb.1.2; try simp only [keys_cons, keys_app, keys_nil, NotIn_cons, NotIn_app, NotIn_nil, and_true] at hnb2)
        | ((with_reducible refine NewRow.mk fun nb nsp ncap hnb hncap => ?_); have hnb1 := hnb.1.1; have hnb2 := hnb.1.2; try simp only [keys_cons, keys_app, keys_nil, NotIn_cons, NotIn_app, NotIn_nil, and_true] at hnb2)
        | simp (dsimp := false) (implicitDefEqProofs := false) (disch := first | assumption | (simp only [List.mem_cons, List.mem_append, true_or, or_true, eq_self]; done) | omega | (with_reducible refine Row.adr (by assumption) ?_; simp only [List.length_map, List.length_take, List.length_drop]; omega) | (simp only [List.length_cons, List.length_nil, List.length_map, List.length_append, List.length_replicate, Nat.reduceAdd, true_and, and_true, and_self]; first | done | omega)) only [go_sem, ↓reduceIte, Nat.reduceEqDiff, Nat.reduceAdd, Nat.reduceSub, Nat.reduceMul, Nat.reduceBEq, Nat.reduceLT, Nat.reduceLeDiff, Nat.reduceMod, Nat.reducePow, List.reduceReplicate, UInt8.reduceOfNat, Int.reducePow, Int.reduceDiv, Int.reduceMod, Nat.reduceDiv, Int.reduceNeg, Int.reduceAdd, Int.reduceSub, Int.reduceMul, Int.reduceLE, Int.reduceLT, Int.reduceEq, Int.reduceToNat, decide_true, decide_false, reduceCtorEq, ne_eq, not_false_eq_true, not_true_eq_false, and_true, true_and, and_self, or_true, true_or, or_false, false_or, or_self, eq_self, Option.isNone_some, Option.isNone_none, Nat.zero_add, Nat.add_zero, Nat.mul_one, Nat.one_mul, Nat.zero_mul, List.length_cons, List.length_nil, List.getElem?_cons_zero, List.getElem?_cons_succ, List.map_cons, List.map_nil, List.append_nil]
      all_goals try (exfalso; omega)
      refine Tri.live [1, 2, 4, 5, 6, 10, 11, 12, 14] ?_
      obtain ⟨b, c, sp, F2, e1, e2, hsum, back⟩ := hF'.out (i := s) (by rw [matV_len]; exact hsn)
      rw [matV_get h' hsn] at e2 hsum
      rw [matV_get h' hsn, rowV_len] at e1
      refine Tri.upd (Upd.go (H' := (b, .cells (rowV n (h' s)) sp 4) :: (b2, .cells C [] 27) :: (F2 ++ H)) (by intro fsum; have := hsum fsum; simp only [List.map_append, List.map_cons, List.map_nil, List.sum_append, List.sum_cons, List.sum_nil, List.cons_append, List.nil_append]; omega) (Upd.now ?_))
      refine Tri.isPiece [1, 1, 1, 1, 0, 1, 0, 0, 1, 0, 0, 1, 1, 1, 0, 1, 0, 0, 1, 0, 0] Try.f25 (by kernel_rfl) ?_
      refine Tri.onlyN (pt_t hsm hok O hn hro hvl hsn e1 hW) fun G7 l7 H7 hle7 hs7 hM => ?_
      obtain ⟨g2, more2, hg2, hmore2, rfl, hfr', rfl⟩ := hM
      simp only [go_sem]
      refine Tri.live [1, 2, 4, 5, 6, 10, 11, 12, 14] ?_
      rw [hfr']
      obtain ⟨F3, hF3, hsum3⟩ := back (rowV n g2) (by rw [matV_get h' hsn, rowV_len, rowV_len])
      rw [matV_set h' hsn] at hF3
      refine Tri.upd (Upd.go (H' := (b2, .cells C [] 27) :: (F3 ++ H)) (by intro fsum; have := hsum3 fsum; simp only [List.map_append, List.map_cons, List.map_nil, List.sum_append, List.sum_cons, List.sum_nil, List.cons_append, List.nil_append]; omega) (Upd.now ?_))
      refine Tri.run tok [0, 1, 2, 4, 5, 6, 7, 8, 9, 10, 11, 12, 13, 14, 15, 16, 23, 29, 52, 58, 72, 77, 93, 134] (by kernel_rfl) ?_
      repeat' first
        | with_reducible refine Br.yes ?_
        | with_reducible refine Br.no ?_
        | with_reducible refine Br.dec (fun _ => ?_) (fun _ => ?_)
        | with_reducible refine Br.beqB (fun _ => ?_) (fun _ => ?_)
        | with_reducible refine Br.beqb (fun _ => ?_) (fun _ => ?_)
        | with_reducible refine Br.mk (fun _ => ?_) (fun _ => ?_)
        | with_reducible refine foundO.mk (fun _ _ => ?_) (fun _ => ?_)
        | with_reducible refine appV.zero ?_
        | with_reducible refine appV.own ?_
        | ((with_reducible refine NewB.mk fun nb hnb => ?_); have hnb1 := hnb.1.1; have hnb2 := hnb.1.2; try simp only [keys_cons, keys_app, keys_nil, NotIn_cons, NotIn_app, NotIn_nil, and_true] at hnb2)
        | ((with_reducible refine NewRow.mk fun nb nsp ncap hnb hncap => ?_); have hnb1 := hnb.1.1; have hnb2 := hnb.1.2; try simp only [keys_cons, keys_app, keys_nil, NotIn_cons, NotIn_app, NotIn_nil, and_true] at hnb2)
        | simp (dsimp := false) (implicitDefEqProofs := false) (disch := first | assumption | (simp only [List.mem_cons, List.mem_append, true_or, or_true, eq_self]; done) | omega | (with_reducible refine Row.adr (by assumption) ?_; simp only [List.length_map, List.length_take, List.length_drop]; omega) | (simp only [List.length_cons, List.length_nil, List.length_map, List.length_append, List.length_replicate, Nat.reduceAdd, true_and, and_true, and_self]; first | done | omega)) only [go_sem, ↓reduceIte, Nat.reduceEqDiff, Nat.reduceAdd, Nat.reduceSub, Nat.reduceMul, Nat.reduceBEq, Nat.reduceLT, Nat.reduceLeDiff, Nat.reduceMod, Nat.reducePow, List.reduceReplicate, UInt8.reduceOfNat, Int.reducePow, Int.reduceDiv, Int.reduceMod, Nat.reduceDiv, Int.reduceNeg, Int.reduceAdd, Int.reduceSub, Int.reduceMul, Int.reduceLE, Int.reduceLT, Int.reduceEq, Int.reduceToNat, decide_true, decide_false, reduceCtorEq, ne_eq, not_false_eq_true, not_true_eq_false, and_true, true_and, and_self, or_true, true_or, or_false, false_or, or_self, eq_self, Option.isNone_some, Option.isNone_none, Nat.zero_add, Nat.add_zero, Nat.mul_one, Nat.one_mul, Nat.zero_mul, List.length_cons, List.length_nil, List.getElem?_cons_zero, List.getElem?_cons_succ, List.map_cons, List.map_nil, List.append_nil]
      have hgt : ∀ j, j < n → h' s j = h s j := fun j hj => by rw [hh' s j hsn hj, if_neg (Nat.lt_irrefl s)]
      refine Upd.now ⟨q - 1, by omega, s + 1, _, more2, F3, by omega, hF3, fun i j hi hj => ?_, ?_, rfl, rfl, rfl⟩
      · by_cases e : i = s
        · subst e; rw [if_pos rfl, if_pos (by omega), hg2 j hj, hgt j hj]
        · simp only [if_neg e]
          rw [hh' i j hi hj]
          by_cases h : i < s
          · rw [if_pos h, if_pos (by omega)]
          · rw [if_neg h, if_neg (by omega)]
      · rw [hmore2, hmore, any_succ, Bool.or_assoc]
        have : ((List.range n).any fun j => !h' s j && yB d f s j) = (List.range n).any fun j => !h s j && yB d f s j := by
          rw [Bool.eq_iff_iff, List.any_eq_true, List.any_eq_true]
          constructor
          · rintro ⟨j, hj, e⟩
            exact ⟨j, hj, by rw [← hgt j (List.mem_range.1 hj)]; exact e⟩
          · rintro ⟨j, hj, e⟩
            exact ⟨j, hj, by rw [hgt j (List.mem_range.1 hj)]; exact e⟩
        rw [this]
    · obtain rfl : s = n := by omega
      repeat' first
        | with_reducible refine Br.yes ?_
        | with_reducible refine Br.no ?_
        | with_reducible refine Br.dec (fun _ => ?_) (fun _ => ?_)
        | with_reducible refine Br.beqB (fun _ => ?_) (fun _ => ?_)
        | with_reducible refine Br.beqb (fun _ => ?_) (fun _ => ?_)
        | with_reducible refine Br.mk (fun _ => ?_) (fun _ => ?_)
        | with_reducible refine foundO.mk (fun _ _ => ?_) (fun _ => ?_)
        | with_reducible refine appV.zero ?_
        | with_reducible refine appV.own ?_
        | ((with_reducible refine NewB.mk fun nb hnb => ?_); have hnb1 := hnb.1.1; have hnb2 := hnb.1.2; try simp only [keys_cons, keys_app, keys_nil, NotIn_cons, NotIn_app, NotIn_nil, and_true] at hnb2)
        | ((with_reducible refine NewRow.mk fun nb nsp ncap hnb hncap => ?_); have hnb1 := hnb.1.1; have hnb2 := hnb.1.2; try simp only [keys_cons, keys_app, keys_nil, NotIn_cons, NotIn_app, NotIn_nil, and_true] at hnb2)
        | simp (dsimp := false) (implicitDefEqProofs := false) (disch := first | assumption | (simp only [List.mem_cons, List.mem_append, true_or, or_true, eq_self]; done) | omega | (with_reducible refine Row.adr (by assumption) ?_; simp only [List.length_map, List.length_take, List.length_drop]; omega) | (simp only [List.length_cons, List.length_nil, List.length_map, List.length_append, List.length_replicate, Nat.reduceAdd, true_and, and_true, and_self]; first | done | omega)) only [go_sem, ↓reduceIte, Nat.reduceEqDiff, Nat.reduceAdd, Nat.reduceSub, Nat.reduceMul, Nat.reduceBEq, Nat.reduceLT, Nat.reduceLeDiff, Nat.reduceMod, Nat.reducePow, List.reduceReplicate, UInt8.reduceOfNat, Int.reducePow, Int.reduceDiv, Int.reduceMod, Nat.reduceDiv, Int.reduceNeg, Int.reduceAdd, Int.reduceSub, Int.reduceMul, Int.reduceLE, Int.reduceLT, Int.reduceEq, Int.reduceToNat, decide_true, decide_false, reduceCtorEq, ne_eq, not_false_eq_true, not_true_eq_false, and_true, true_and, and_self, or_true, true_or, or_false, false_or, or_self, eq_self, Option.isNone_some, Option.isNone_none, Nat.zero_add, Nat.add_zero, Nat.mul_one, Nat.one_mul, Nat.zero_mul, List.length_cons, List.length_nil, List.getElem?_cons_zero, List.getElem?_cons_succ, List.map_cons, List.map_nil, List.append_nil]
      all_goals try (exfalso; omega)
      exact Upd.now ⟨h', more', F', hF', fun i j hi hj => by rw [hh' i j hi hj, if_pos hi], hmore, rfl, rfl, rfl⟩
end Go.Proofs.Ytmlmhcejdlljjaa
