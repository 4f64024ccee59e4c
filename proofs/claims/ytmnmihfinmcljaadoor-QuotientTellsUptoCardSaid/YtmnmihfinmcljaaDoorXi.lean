/- A machine with the classes of bytes that it tells apart: contract. -/
import Derived.Test.YtmnmihfinmcljaaDoorXh
set_option linter.unusedSimpArgs false
set_option linter.unusedVariables false
namespace Go.Proofs.YtmnmihfinmcljaaDoor
open Go Go.V Go.Proofs

set_option maxHeartbeats 32000000 in
theorem merge_t {d : DfaT} (hsm : SmallD d) {G : PHeap} {H : Heap} {R : Value → PHeap → Heap → Prop} {v : Value} (hg : HasTab G) (hv : IsD G d v)
    (hR : ∀ G' v', PLe G G' → Sep G' (keys H) → IsD G' (mergeR d).1 v' → R (.tuple #[v', .int .i64 (mergeR d).2]) G' H) : FnT Tryd.prog 8 [v] G H R := by
  obtain ⟨C, an, al, ay, cn, cl, cs, rs, rfl, O⟩ := hv.opened
  obtain ⟨hm1, hm2, hm3, hm4, hm5⟩ := id hsm
  have hCl := O.len
  have hCa := O.all
  have hCn := O.n
  have hCx := O.l
  have hCs := O.s
  refine FnT.sep ?_
  by_cases hok : RightP d
  · have hb := boolOf_yes hok
    rw [mergeR_ok hok] at hR
    have hol : (nums (clL d)).length = 256 := by rw [nums_len, clL_len O.ofl]
    have hu8 : (u8L (nums (clL d))).length = 256 := by rw [List.length_map, hol]
    have hno1 : (u8L (nums (clL d))).all oneV = true := by rw [List.all_map]; exact List.all_eq_true.2 fun _ _ => rfl
    have hns : splice (List.replicate 256 (Value.int .u8 0)) 0 (u8L (nums (clL d))) = u8L (nums (clL d)) := by rw [u8F_zero, ← u8F_nums (clL_len O.ofl), u8F_over]
    have bu1 : splice zeroC 0 (u8L (nums (clL d))) = u8L (nums (clL d)) ++ [Value.int .i64 0, Value.slice none 0 0, Value.slice none 0 0, Value.slice none 0 0] := build_of (d := mergeD d) hol
    have bu2 : splice (u8L (nums (clL d)) ++ [Value.int .i64 0, Value.slice none 0 0, Value.slice none 0 0, Value.slice none 0 0]) 256 [Value.int .i64 ((tabO (clL d)).length : Nat)] = cellsD (mergeD d) (.slice none 0 0) (.slice none 0 0) (.slice none 0 0) := build_w (d := mergeD d) hol
    have bu3 : ∀ x, splice (cellsD (mergeD d) (.slice none 0 0) (.slice none 0 0) (.slice none 0 0)) 258 [x] = cellsD (mergeD d) (.slice none 0 0) x (.slice none 0 0) := fun x => cellsD_putL (d := mergeD d) hol _ _ _ _
    have bu4 : ∀ vl x, splice (cellsD (mergeD d) (.slice none 0 0) vl (.slice none 0 0)) 259 [x] = cellsD (mergeD d) (.slice none 0 0) vl x := fun vl x => build_s (d := mergeD d) hol _ _ _ _
    have bu5 : ∀ vn vl vs x, splice (cellsD (mergeD d) vn vl vs) 257 [x] = cellsD (mergeD d) x vl vs := fun vn vl vs x => cellsD_putN (d := mergeD d) hol _ _ _ _
    have hl1 : (u8L (nums (clL d)) ++ [Value.int .i64 0, Value.slice none 0 0, Value.slice none 0 0, Value.slice none 0 0]).length = 260 := by rw [List.length_append, hu8]; rfl
    have hl2 : ∀ a b c : Value, (cellsD (mergeD d) a b c).length = 260 := fun a b c => cellsD_len (d := mergeD d) hol _ _ _
    have hg2 : ∀ a b c : Value, (cellsD (mergeD d) a b c)[257]? = some a := fun a b c => cellsD_n (d := mergeD d) hol _ _ _
    have hputz : ∀ vn vl vs, splice zeroC 0 (cellsD (mergeD d) vn vl vs) = cellsD (mergeD d) vn vl vs := fun vn vl vs => by
      unfold splice
      rw [List.take_zero, List.nil_append, List.drop_of_length_le (by rw [zeroC_len, hl2]; omega), List.append_nil]
    have hone : ∀ (a a' a'' : Option Addr) (b c b' c' b'' c'' : Nat), (cellsD (mergeD d) (.slice a'' b'' c'') (.slice a b c) (.slice a' b' c')).all oneV = true := fun a a' a'' b c b' c' b'' c'' => cellsD_one rfl rfl rfl
    have htk2 : ∀ vn vl vs, List.take 260 (cellsD (mergeD d) vn vl vs) = cellsD (mergeD d) vn vl vs := fun vn vl vs => List.take_of_length_le (by rw [hl2]; omega)
    have hnt : List.take 256 (u8L (nums (clL d))) = u8L (nums (clL d)) := List.take_of_length_le (by omega)
    refine FnT.body tok [0, 1, 2, 3, 4, 5, 6, 7, 9, 10, 11, 12, 15, 34, 35, 36, 37, 42, 43, 44, 45] Tryd.func8 rfl (by kernel_rfl) (by kernel_rfl) (by show _ ≤ 68; simp) fun hsep => ?_
    rw [Tryd.results8]
    have hsE := hsep
    try simp only [keys_cons, keys_app, keys_nil, Sep_cons, Sep_nil, NotIn_cons, NotIn_app, NotIn_nil, List.cons_append, List.nil_append, List.append_assoc, and_assoc, and_true, true_and] at hsE
    repeat (obtain ⟨hsx, hsE⟩ := hsE)
    repeat' first
      | with_reducible refine Br.yes ?_
      | with_reducible refine Br.no ?_
      | with_reducible refine Br.dec (fun _ => ?_) (fun _ => ?_)
      | with_reducible refine Br.beqB (fun _ => ?_) (fun _ => ?_)
      | with_reducible refine Br.beqb (fun _ => ?_) (fun _ => ?_)
      | with_reducible refine Br.mk (fun _ => ?_) (fun _ => ?_)
      | with_reducible refine foundO.mk (fun _ _ => ?_) (fun _ => ?_)
      | with_reducible refine appV.zero ?_
      | with_reducible refine appV.own ?_
      | ((with_reducible refine NewB.mk fun nb hnb => ?_); have hnb1 := hnb.1.1; have hnb2 := hnb.1.2; try simp only [keys_cons, keys_app, keys_nil, NotIn_cons, NotIn_app, NotIn_nil, and_true] at hnb2)
      | ((with_reducible refine NewRow.mk fun nb nsp ncap hnb hncap => ?_); have hnb1 := hnb.1.1; have hnb2 := hnb.1.2; try simp only [keys_cons, keys_app, keys_nil, NotIn_cons, NotIn_app, NotIn_nil, and_true] at hnb2)
      | simp (dsimp := false) (implicitDefEqProofs := false) (disch := first | assumption | (simp only [List.mem_cons, List.mem_append, true_or, or_true, eq_self]; done) | omega | (with_reducible refine Row.adr (by assumption) ?_; simp only [List.length_map, List.length_take, List.length_drop]; omega) | (simp only [List.length_cons, List.length_nil, List.length_map, List.length_append, List.length_replicate, Nat.reduceAdd, true_and, and_true, and_self]; first | done | omega)) only [go_sem, ↓reduceIte, Nat.reduceEqDiff, Nat.reduceAdd, Nat.reduceSub, Nat.reduceMul, Nat.reduceBEq, Nat.reduceLT, Nat.reduceLeDiff, Nat.reduceMod, Nat.reducePow, List.reduceReplicate, UInt8.reduceOfNat, Int.reducePow, Int.reduceDiv, Int.reduceMod, Nat.reduceDiv, Int.reduceNeg, Int.reduceAdd, Int.reduceSub, Int.reduceMul, Int.reduceLE, Int.reduceLT, Int.reduceEq, Int.reduceToNat, reduceCtorEq, -List.reduceReplicate, List.toList_toArray, hCl, hCa, hb, zeroC_len]
      | with_reducible refine right_t hsm O.is ?_
    rename_i b1 hb1 hb11 hb12
    revert nb
    intro b2 hb2 hb21 hb22
    refine Classes_t hsm O.is fun G2 hle2 hs2 => ?_
    rw [if_pos hb]
    have hsE := hs2
    try simp only [keys_cons, keys_app, keys_nil, Sep_cons, Sep_nil, NotIn_cons, NotIn_app, NotIn_nil, List.cons_append, List.nil_append, List.append_assoc, and_assoc, and_true, true_and] at hsE
    repeat (obtain ⟨hsx, hsE⟩ := hsE)
    repeat' first
      | with_reducible refine Br.yes ?_
      | with_reducible refine Br.no ?_
      | with_reducible refine Br.dec (fun _ => ?_) (fun _ => ?_)
      | with_reducible refine Br.beqB (fun _ => ?_) (fun _ => ?_)
      | with_reducible refine Br.beqb (fun _ => ?_) (fun _ => ?_)
      | with_reducible refine Br.mk (fun _ => ?_) (fun _ => ?_)
      | with_reducible refine foundO.mk (fun _ _ => ?_) (fun _ => ?_)
      | with_reducible refine appV.zero ?_
      | with_reducible refine appV.own ?_
      | ((with_reducible refine NewB.mk fun nb hnb => ?_); have hnb1 := hnb.1.1; have hnb2 := hnb.1.2; try simp only [keys_cons, keys_app, keys_nil, NotIn_cons, NotIn_app, NotIn_nil, and_true] at hnb2)
      | ((with_reducible refine NewRow.mk fun nb nsp ncap hnb hncap => ?_); have hnb1 := hnb.1.1; have hnb2 := hnb.1.2; try simp only [keys_cons, keys_app, keys_nil, NotIn_cons, NotIn_app, NotIn_nil, and_true] at hnb2)
      | simp (dsimp := false) (implicitDefEqProofs := false) (disch := first | assumption | (simp only [List.mem_cons, List.mem_append, true_or, or_true, eq_self]; done) | omega | (with_reducible refine Row.adr (by assumption) ?_; simp only [List.length_map, List.length_take, List.length_drop]; omega) | (simp only [List.length_cons, List.length_nil, List.length_map, List.length_append, List.length_replicate, Nat.reduceAdd, true_and, and_true, and_self]; first | done | omega)) only [go_sem, ↓reduceIte, Nat.reduceEqDiff, Nat.reduceAdd, Nat.reduceSub, Nat.reduceMul, Nat.reduceBEq, Nat.reduceLT, Nat.reduceLeDiff, Nat.reduceMod, Nat.reducePow, List.reduceReplicate, UInt8.reduceOfNat, Int.reducePow, Int.reduceDiv, Int.reduceMod, Nat.reduceDiv, Int.reduceNeg, Int.reduceAdd, Int.reduceSub, Int.reduceMul, Int.reduceLE, Int.reduceLT, Int.reduceEq, Int.reduceToNat, reduceCtorEq, -List.reduceReplicate, List.toList_toArray, hCl, hCa, hb, List.length_replicate, hns, hu8, hno1, hnt]
    revert nb
    intro b4 hb4 hb41 hb42
    refine pleasts_t hol (hg.mono hle2) fun G3 v3 hle3 hs3 hsl3 => ?_
    obtain ⟨a3, c3, rfl, hr3, hc3⟩ := hsl3
    have hsE := hs3
    try simp only [keys_cons, keys_app, keys_nil, Sep_cons, Sep_nil, NotIn_cons, NotIn_app, NotIn_nil, List.cons_append, List.nil_append, List.append_assoc, and_assoc, and_true, true_and] at hsE
    repeat (obtain ⟨hsx, hsE⟩ := hsE)
    have O3 := O.mono (hle2.trans hle3)
    have hlab3 := O3.label
    have hnam3 := O3.names
    repeat' first
      | with_reducible refine Br.yes ?_
      | with_reducible refine Br.no ?_
      | with_reducible refine Br.dec (fun _ => ?_) (fun _ => ?_)
      | with_reducible refine Br.beqB (fun _ => ?_) (fun _ => ?_)
      | with_reducible refine Br.beqb (fun _ => ?_) (fun _ => ?_)
      | with_reducible refine Br.mk (fun _ => ?_) (fun _ => ?_)
      | with_reducible refine foundO.mk (fun _ _ => ?_) (fun _ => ?_)
      | with_reducible refine appV.zero ?_
      | with_reducible refine appV.own ?_
      | ((with_reducible refine NewB.mk fun nb hnb => ?_); have hnb1 := hnb.1.1; have hnb2 := hnb.1.2; try simp only [keys_cons, keys_app, keys_nil, NotIn_cons, NotIn_app, NotIn_nil, and_true] at hnb2)
      | ((with_reducible refine NewRow.mk fun nb nsp ncap hnb hncap => ?_); have hnb1 := hnb.1.1; have hnb2 := hnb.1.2; try simp only [keys_cons, keys_app, keys_nil, NotIn_cons, NotIn_app, NotIn_nil, and_true] at hnb2)
      | simp (dsimp := false) (implicitDefEqProofs := false) (disch := first | assumption | (simp only [List.mem_cons, List.mem_append, true_or, or_true, eq_self]; done) | omega | (with_reducible refine Row.adr (by assumption) ?_; simp only [List.length_map, List.length_take, List.length_drop]; omega) | (simp only [List.length_cons, List.length_nil, List.length_map, List.length_append, List.length_replicate, Nat.reduceAdd, true_and, and_true, and_self]; first | done | omega)) only [go_sem, ↓reduceIte, Nat.reduceEqDiff, Nat.reduceAdd, Nat.reduceSub, Nat.reduceMul, Nat.reduceBEq, Nat.reduceLT, Nat.reduceLeDiff, Nat.reduceMod, Nat.reducePow, List.reduceReplicate, UInt8.reduceOfNat, Int.reducePow, Int.reduceDiv, Int.reduceMod, Nat.reduceDiv, Int.reduceNeg, Int.reduceAdd, Int.reduceSub, Int.reduceMul, Int.reduceLE, Int.reduceLT, Int.reduceEq, Int.reduceToNat, reduceCtorEq, -List.reduceReplicate, List.toList_toArray, hCl, hCa, hCn, hCx, hCs, hnt, hu8, bu1, bu2, bu3, bu4, hl1, hl2, hputz, hone, zeroC_len]
      | with_reducible refine Tri.drawS tok mixed [0, 1, 2, 3, 4, 5, 6, 7, 9, 10, 11, 12, 15, 34, 35, 36, 37, 42, 43, 44, 45] 5 [0, 3, 6] (.op 0 .held (.op 1 .plain (.op 2 .plain (.op 3 .held (.op 5 .plain (.op 6 .held (.both (.op 4 .keeps (.both (.op 7 .keeps (.op 8 .plain (.op 9 .keeps (.op 10 .plain .nil)))) (.op 9 .keeps (.op 7 .keeps (.op 8 .plain (.op 10 .plain .nil)))))) (.op 9 .keeps (.op 4 .keeps (.op 7 .keeps (.op 8 .plain (.op 10 .plain .nil)))))))))))) (by kernel_rfl) [(b4, .cells (u8L (nums (clL d))) [] 22), (b1, .cells C [] 27)] (by intro fsum; first | exact Nat.le_refl _ | (simp only [List.map_append, List.map_cons, List.map_nil, List.sum_append, List.sum_cons, List.sum_nil, List.cons_append, List.nil_append]; omega)) ?_
      | ((with_reducible refine cloneI_t d.label hm3 (by first | exact hlab3 | exact hlab3.mono (by assumption)) fun G8 v8 hle8 hs8 hsl8 => ?_); obtain ⟨a8, c8, rfl, hr8, hc8⟩ := hsl8; (have hsE := hs8; try simp only [keys_cons, keys_app, keys_nil, Sep_cons, Sep_nil, NotIn_cons, NotIn_app, NotIn_nil, List.cons_append, List.nil_append, List.append_assoc, and_assoc, and_true, true_and] at hsE; repeat (obtain ⟨hsx, hsE⟩ := hsE)))
      | ((with_reducible refine clones_t d.names hm4 (by first | exact hnam3 | exact hnam3.mono (by assumption)) fun G9 v9 hle9 hs9 hsl9 => ?_); obtain ⟨a9, c9, rfl, hr9, hc9⟩ := hsl9; (have hsE := hs9; try simp only [keys_cons, keys_app, keys_nil, Sep_cons, Sep_nil, NotIn_cons, NotIn_app, NotIn_nil, List.cons_append, List.nil_append, List.append_assoc, and_assoc, and_true, true_and] at hsE; repeat (obtain ⟨hsx, hsE⟩ := hsE)))
      | (with_reducible refine And.intro ?_ ?_)
    all_goals (first
      | (have hx9 : PLe G8 G9 := hle9; have hr8 := hr8.mono hle9; have hle5 : PLe G3 G9 := hle8.trans hle9; rename PHeap => G5)
      | (have hx9 : PLe G9 G8 := hle8; have hr9 := hr9.mono hle8; have hle5 : PLe G3 G8 := hle9.trans hle8; rename PHeap => G5))
    all_goals have O5 := O3.mono hle5
    all_goals have hr35 := hr3.mono hle5
    all_goals (revert nb; intro b7 hb7 hb71 hb72; intros)
    all_goals clear hr3 O3 hlab3 hnam3
    all_goals try clear hsE
    all_goals
      refine Tri.loopU tok [0, 1, 2, 3, 4, 5, 6, 7, 9, 10, 11, 12, 15, 34, 35, 36, 37, 42, 43, 44, 45] (by kernel_rfl) [1, 2, 5, 6, 7, 34, 35, 36] (fun q G' fr H' => ∃ (s : Nat) (vn : Value) (kn : Heap), s + q = d.next.length ∧ PLe G5 G' ∧ RowX (rowsM d) G' s vn kn ∧ H' = (b7, .cells (cellsD (mergeD d) vn (.slice a8 d.label.length c8) (.slice a9 d.names.length c9)) [] 27) :: (b4, .cells (u8L (nums (clL d))) [] 22) :: (b2, .cells zeroC [] 27) :: (b1, .cells C [] 27) :: (kn ++ H) ∧ fr = [(1, .pointer (some ⟨b1, 0, none⟩)), (2, .pointer (some ⟨b2, 0, none⟩)), (5, .int .i64 (tabO (clL d)).length), (6, .slice a3 (leastL (nums (clL d))).length c3), (7, .pointer (some ⟨b7, 0, none⟩)), (34, .slice an d.next.length cn), (35, .int .i64 d.next.length), (36, .int .i64 (s : Nat))]) (d.next.length) ?_ ?_
      · exact Upd.now ⟨0, _, [], by omega, PLe.refl _, .inl ⟨rfl, rfl, rfl⟩, rfl, rfl⟩
      · rintro q G1 fr H' hle hs1 ⟨s, vn, kn, hsq, hle6, hX, rfl, rfl⟩
        by_cases hsn : s < d.next.length
        · have O6 := O5.mono hle6
          have hr36 := hr35.mono hle6
          have had : Adr an := O6.rn.adr (by have := O.rnl; omega)
          obtain ⟨b, cc, e1, e2, e3⟩ := O6.rs s hsn (by have := O.rnl; omega)
          obtain ⟨hw1, hw2, hw3, hw4⟩ := hok.2.2.2.2.2.2 s hsn (by have := hok.2.2.1; omega)
          obtain ⟨row, hrow⟩ : ∃ row, row = d.next[s] := ⟨_, rfl⟩
          rw [← hrow] at e1 e2 e3 hw1 hw4
          obtain ⟨r, hr⟩ : ∃ r, r = rowM d row := ⟨_, rfl⟩
          have hrl : r.length = (tabO (clL d)).length := by rw [hr, rowM_len]
          have hll := least_len d
          have hrnl := O.rnl
          have htl := tabO_len (clL d)
          have hcl := clL_len O.ofl
          have hrs : (rowsM d)[s]'(by unfold rowsM; rw [List.length_map]; exact hsn) = r := by simp only [rowsM, List.getElem_map]; rw [hr, hrow]
          have hsE := hs1
          try simp only [keys_cons, keys_app, keys_nil, Sep_cons, Sep_nil, NotIn_cons, NotIn_app, NotIn_nil, List.cons_append, List.nil_append, List.append_assoc, and_assoc, and_true, true_and] at hsE
          repeat (obtain ⟨hsx, hsE⟩ := hsE)
          repeat' first
            | with_reducible refine Br.yes ?_
            | with_reducible refine Br.no ?_
            | with_reducible refine Br.dec (fun _ => ?_) (fun _ => ?_)
            | with_reducible refine Br.beqB (fun _ => ?_) (fun _ => ?_)
            | with_reducible refine Br.beqb (fun _ => ?_) (fun _ => ?_)
            | with_reducible refine Br.mk (fun _ => ?_) (fun _ => ?_)
            | with_reducible refine foundO.mk (fun _ _ => ?_) (fun _ => ?_)
            | with_reducible refine appV.zero ?_
            | with_reducible refine appV.own ?_
            | ((with_reducible refine NewB.mk fun nb hnb => ?_); have hnb1 := hnb.1.1; have hnb2 := hnb.1.2; try simp only [keys_cons, keys_app, keys_nil, NotIn_cons, NotIn_app, NotIn_nil, and_true] at hnb2)
            | ((with_reducible refine NewRow.mk fun nb nsp ncap hnb hncap => ?_); have hnb1 := hnb.1.1; have hnb2 := hnb.1.2; try simp only [keys_cons, keys_app, keys_nil, NotIn_cons, NotIn_app, NotIn_nil, and_true] at hnb2)
            | simp (dsimp := false) (implicitDefEqProofs := false) (disch := first | assumption | (simp only [List.mem_cons, List.mem_append, true_or, or_true, eq_self]; done) | omega | (with_reducible refine Row.adr (by assumption) ?_; simp only [List.length_map, List.length_take, List.length_drop]; omega) | (simp only [List.length_cons, List.length_nil, List.length_map, List.length_append, List.length_replicate, Nat.reduceAdd, true_and, and_true, and_self]; first | done | omega)) only [go_sem, ↓reduceIte, Nat.reduceEqDiff, Nat.reduceAdd, Nat.reduceSub, Nat.reduceMul, Nat.reduceBEq, Nat.reduceLT, Nat.reduceLeDiff, Nat.reduceMod, Nat.reducePow, List.reduceReplicate, UInt8.reduceOfNat, Int.reducePow, Int.reduceDiv, Int.reduceMod, Nat.reduceDiv, Int.reduceNeg, Int.reduceAdd, Int.reduceSub, Int.reduceMul, Int.reduceLE, Int.reduceLT, Int.reduceEq, Int.reduceToNat, reduceCtorEq, -List.reduceReplicate, Row.obj O6.rn, e1, Nat.sub_self, List.replicate_zero]
          revert nb
          intro br hbr hbr1 hbr2
          rw [show List.replicate (tabO (clL d)).length (Value.int .i64 0) = (partR r 0).map (Value.int .i64) by rw [← hrl, partR_zero]]
          refine Tri.loopU tok [0, 1, 2, 3, 4, 5, 6, 7, 9, 10, 11, 12, 15, 34, 35, 36, 37, 42, 43, 44, 45] (by kernel_rfl) [1, 2, 5, 6, 7, 9, 10, 34, 35, 36, 42, 43, 44] (fun q2 G' fr H' => ∃ k : Nat, k + q2 = r.length ∧ G' = G1 ∧ H' = (br, .cells ((partR r k).map (Value.int .i64)) [] 3) :: (b7, .cells (cellsD (mergeD d) vn (.slice a8 d.label.length c8) (.slice a9 d.names.length c9)) [] 27) :: (b4, .cells (u8L (nums (clL d))) [] 22) :: (b2, .cells zeroC [] 27) :: (b1, .cells C [] 27) :: (kn ++ H) ∧ fr = [(1, .pointer (some ⟨b1, 0, none⟩)), (2, .pointer (some ⟨b2, 0, none⟩)), (5, .int .i64 (tabO (clL d)).length), (6, .slice a3 (leastL (nums (clL d))).length c3), (7, .pointer (some ⟨b7, 0, none⟩)), (9, .slice b row.length cc), (10, .slice (some ⟨br, 0, none⟩) (tabO (clL d)).length (tabO (clL d)).length), (34, .slice an d.next.length cn), (35, .int .i64 d.next.length), (36, .int .i64 (s : Nat)), (42, .slice a3 (leastL (nums (clL d))).length c3), (43, .int .i64 (leastL (nums (clL d))).length), (44, .int .i64 (k : Nat))]) (r.length) ?_ ?_
          · exact Upd.now ⟨0, by omega, rfl, rfl, rfl⟩
          · rintro q2 G2' fr H' hle2' hs2' ⟨k, hkq, rfl, rfl, rfl⟩
            have hpl : (partR r k).length = r.length := partR_len r (by omega)
            by_cases hkl : k < r.length
            · have hsE := hs2'
              try simp only [keys_cons, keys_app, keys_nil, Sep_cons, Sep_nil, NotIn_cons, NotIn_app, NotIn_nil, List.cons_append, List.nil_append, List.append_assoc, and_assoc, and_true, true_and] at hsE
              repeat (obtain ⟨hsx, hsE⟩ := hsE)
              obtain ⟨x, hx1, hx2⟩ := least_bound O.ofl (d := d) (k := k) (by omega)
              have hxl : x < d.of.length := by rw [O.ofl]; exact hx2
              have had3 : Adr a3 := hr36.adr (by rw [List.length_map, hll, ← hrl]; omega)
              have hoc := of_bound hok (List.getElem_mem (l := d.of) (n := x) (by rw [O.ofl]; exact hx2))
              obtain ⟨y, hy⟩ := Int.eq_ofNat_of_zero_le hoc.1
              have hyr : y < row.length := by omega
              have hadb : Adr b := e2.adr (by rw [List.length_map]; omega)
              have hgetC : C[x]? = some (.int .u8 (y : Nat)) := by
                have h1 : (C.take 256)[x]? = some (.int .u8 d.of[x]) := by rw [O.of, List.getElem?_map, List.getElem?_eq_getElem (by rw [O.ofl]; exact hx2)]; rfl
                rw [List.getElem?_take, if_pos hx2, hy] at h1
                exact h1
              have hval : row[y] = r[k] := by
                simp only [hr, rowM, List.getElem_map]
                have h1 : atL d.of ((x : Nat) : Int) = (y : Nat) := by rw [atL_get (by simp only [Int.toNat_natCast]; rw [O.ofl]; exact hx2)]; simp only [Int.toNat_natCast]; exact hy
                rw [hx1, h1, atL_get (by simpa using hyr)]; simp only [Int.toNat_natCast]
              have hput := partR_put hkl
              repeat' first
                | with_reducible refine Br.yes ?_
                | with_reducible refine Br.no ?_
                | with_reducible refine Br.dec (fun _ => ?_) (fun _ => ?_)
                | with_reducible refine Br.beqB (fun _ => ?_) (fun _ => ?_)
                | with_reducible refine Br.beqb (fun _ => ?_) (fun _ => ?_)
                | with_reducible refine Br.mk (fun _ => ?_) (fun _ => ?_)
                | with_reducible refine foundO.mk (fun _ _ => ?_) (fun _ => ?_)
                | with_reducible refine appV.zero ?_
                | with_reducible refine appV.own ?_
                | ((with_reducible refine NewB.mk fun nb hnb => ?_); have hnb1 := hnb.1.1; have hnb2 := hnb.1.2; try simp only [keys_cons, keys_app, keys_nil, NotIn_cons, NotIn_app, NotIn_nil, and_true] at hnb2)
                | ((with_reducible refine NewRow.mk fun nb nsp ncap hnb hncap => ?_); have hnb1 := hnb.1.1; have hnb2 := hnb.1.2; try simp only [keys_cons, keys_app, keys_nil, NotIn_cons, NotIn_app, NotIn_nil, and_true] at hnb2)
                | simp (dsimp := false) (implicitDefEqProofs := false) (disch := first | assumption | (simp only [List.mem_cons, List.mem_append, true_or, or_true, eq_self]; done) | omega | (with_reducible refine Row.adr (by assumption) ?_; simp only [List.length_map, List.length_take, List.length_drop]; omega) | (simp only [List.length_cons, List.length_nil, List.length_map, List.length_append, List.length_replicate, Nat.reduceAdd, true_and, and_true, and_self]; first | done | omega)) only [go_sem, ↓reduceIte, Nat.reduceEqDiff, Nat.reduceAdd, Nat.reduceSub, Nat.reduceMul, Nat.reduceBEq, Nat.reduceLT, Nat.reduceLeDiff, Nat.reduceMod, Nat.reducePow, List.reduceReplicate, UInt8.reduceOfNat, Int.reducePow, Int.reduceDiv, Int.reduceMod, Nat.reduceDiv, Int.reduceNeg, Int.reduceAdd, Int.reduceSub, Int.reduceMul, Int.reduceLE, Int.reduceLT, Int.reduceEq, Int.reduceToNat, reduceCtorEq, -List.reduceReplicate, List.length_map, hCl, Row.obj hr36, Row.obj e2, List.getElem_map, hx1, hgetC, hval, hput, hpl, Int.toNat_natCast]
              exact Upd.now ⟨q2 - 1, by omega, k + 1, by omega, rfl, rfl, rfl⟩
            · obtain rfl : k = r.length := by omega
              rw [partR_all r] at hs2' ⊢
              rcases hX with ⟨hj0, rfl, rfl⟩ | ⟨bn, c1, rv, sp1, rfl, rfl, hrv, hc1, hrws⟩
              · have hsE := hs2'
                try simp only [keys_cons, keys_app, keys_nil, Sep_cons, Sep_nil, NotIn_cons, NotIn_app, NotIn_nil, List.cons_append, List.nil_append, List.append_assoc, and_assoc, and_true, true_and] at hsE
                repeat (obtain ⟨hsx, hsE⟩ := hsE)
                repeat' first
                  | with_reducible refine Br.yes ?_
                  | with_reducible refine Br.no ?_
                  | with_reducible refine Br.dec (fun _ => ?_) (fun _ => ?_)
                  | with_reducible refine Br.beqB (fun _ => ?_) (fun _ => ?_)
                  | with_reducible refine Br.beqb (fun _ => ?_) (fun _ => ?_)
                  | with_reducible refine Br.mk (fun _ => ?_) (fun _ => ?_)
                  | with_reducible refine foundO.mk (fun _ _ => ?_) (fun _ => ?_)
                  | with_reducible refine appV.zero ?_
                  | with_reducible refine appV.own ?_
                  | ((with_reducible refine NewB.mk fun nb hnb => ?_); have hnb1 := hnb.1.1; have hnb2 := hnb.1.2; try simp only [keys_cons, keys_app, keys_nil, NotIn_cons, NotIn_app, NotIn_nil, and_true] at hnb2)
                  | ((with_reducible refine NewRow.mk fun nb nsp ncap hnb hncap => ?_); have hnb1 := hnb.1.1; have hnb2 := hnb.1.2; try simp only [keys_cons, keys_app, keys_nil, NotIn_cons, NotIn_app, NotIn_nil, and_true] at hnb2)
                  | simp (dsimp := false) (implicitDefEqProofs := false) (disch := first | assumption | (simp only [List.mem_cons, List.mem_append, true_or, or_true, eq_self]; done) | omega | (with_reducible refine Row.adr (by assumption) ?_; simp only [List.length_map, List.length_take, List.length_drop]; omega) | (simp only [List.length_cons, List.length_nil, List.length_map, List.length_append, List.length_replicate, Nat.reduceAdd, true_and, and_true, and_self]; first | done | omega)) only [go_sem, ↓reduceIte, Nat.reduceEqDiff, Nat.reduceAdd, Nat.reduceSub, Nat.reduceMul, Nat.reduceBEq, Nat.reduceLT, Nat.reduceLeDiff, Nat.reduceMod, Nat.reducePow, List.reduceReplicate, UInt8.reduceOfNat, Int.reducePow, Int.reduceDiv, Int.reduceMod, Nat.reduceDiv, Int.reduceNeg, Int.reduceAdd, Int.reduceSub, Int.reduceMul, Int.reduceLE, Int.reduceLT, Int.reduceEq, Int.reduceToNat, reduceCtorEq, -List.reduceReplicate, hl2, hg2, bu5, List.replicate_one]
                refine Upd.go (H' := (br, .cells (r.map (Value.int .i64)) [] 3) :: (b7, .cells (cellsD (mergeD d) (.slice (some ⟨nb, 0, none⟩) 1 ncap) (.slice a8 d.label.length c8) (.slice a9 d.names.length c9)) [] 27) :: (b4, .cells (u8L (nums (clL d))) [] 22) :: (b2, .cells zeroC [] 27) :: (b1, .cells C [] 27) :: ([(nb, .cells [.slice (some ⟨br, 0, none⟩) (tabO (clL d)).length (tabO (clL d)).length] nsp 24)] ++ H)) (by intro fsum; first | exact Nat.le_refl _ | (simp only [List.map_append, List.map_cons, List.map_nil, List.sum_append, List.sum_cons, List.sum_nil, List.cons_append, List.nil_append]; omega)) (Upd.shareRow (by assumption) fun G6 hle7 hs7 hr7 => ?_)
                refine ⟨q - 1, by omega, s + 1, _, _, by omega, hle6.trans hle7, .inr ⟨nb, ncap, _, nsp, by rw [hj0], rfl, by rw [hj0]; rfl, by omega, fun i h h2 h3 => ?_⟩, rfl, rfl⟩
                obtain rfl : i = 0 := by omega
                obtain rfl : s = 0 := hj0
                refine ⟨some ⟨br, 0, none⟩, (tabO (clL d)).length, ?_, ?_, ?_⟩
                · rw [hrs, hrl]; rfl
                · rw [hrs]; exact hr7
                · rw [hrs, hrl]; exact Nat.le_refl _
              · have hsE := hs2'
                try simp only [keys_cons, keys_app, keys_nil, Sep_cons, Sep_nil, NotIn_cons, NotIn_app, NotIn_nil, List.cons_append, List.nil_append, List.append_assoc, and_assoc, and_true, true_and] at hsE
                repeat (obtain ⟨hsx, hsE⟩ := hsE)
                repeat' first
                  | with_reducible refine Br.yes ?_
                  | with_reducible refine Br.no ?_
                  | with_reducible refine Br.dec (fun _ => ?_) (fun _ => ?_)
                  | with_reducible refine Br.beqB (fun _ => ?_) (fun _ => ?_)
                  | with_reducible refine Br.beqb (fun _ => ?_) (fun _ => ?_)
                  | with_reducible refine Br.mk (fun _ => ?_) (fun _ => ?_)
                  | with_reducible refine foundO.mk (fun _ _ => ?_) (fun _ => ?_)
                  | with_reducible refine appV.zero ?_
                  | with_reducible refine appV.own ?_
                  | ((with_reducible refine NewB.mk fun nb hnb => ?_); have hnb1 := hnb.1.1; have hnb2 := hnb.1.2; try simp only [keys_cons, keys_app, keys_nil, NotIn_cons, NotIn_app, NotIn_nil, and_true] at hnb2)
                  | ((with_reducible refine NewRow.mk fun nb nsp ncap hnb hncap => ?_); have hnb1 := hnb.1.1; have hnb2 := hnb.1.2; try simp only [keys_cons, keys_app, keys_nil, NotIn_cons, NotIn_app, NotIn_nil, and_true] at hnb2)
                  | simp (dsimp := false) (implicitDefEqProofs := false) (disch := first | assumption | (simp only [List.mem_cons, List.mem_append, true_or, or_true, eq_self]; done) | omega | (with_reducible refine Row.adr (by assumption) ?_; simp only [List.length_map, List.length_take, List.length_drop]; omega) | (simp only [List.length_cons, List.length_nil, List.length_map, List.length_append, List.length_replicate, Nat.reduceAdd, true_and, and_true, and_self]; first | done | omega)) only [go_sem, ↓reduceIte, Nat.reduceEqDiff, Nat.reduceAdd, Nat.reduceSub, Nat.reduceMul, Nat.reduceBEq, Nat.reduceLT, Nat.reduceLeDiff, Nat.reduceMod, Nat.reducePow, List.reduceReplicate, UInt8.reduceOfNat, Int.reducePow, Int.reduceDiv, Int.reduceMod, Nat.reduceDiv, Int.reduceNeg, Int.reduceAdd, Int.reduceSub, Int.reduceMul, Int.reduceLE, Int.reduceLT, Int.reduceEq, Int.reduceToNat, reduceCtorEq, -List.reduceReplicate, hl2, hg2, bu5, List.replicate_one]
                refine Upd.go (H' := (br, .cells (r.map (Value.int .i64)) [] 3) :: (b7, .cells (cellsD (mergeD d) (.slice (some ⟨nb, 0, none⟩) (s + 1) ncap) (.slice a8 d.label.length c8) (.slice a9 d.names.length c9)) [] 27) :: (b4, .cells (u8L (nums (clL d))) [] 22) :: (b2, .cells zeroC [] 27) :: (b1, .cells C [] 27) :: ([(nb, .cells (rv ++ [.slice (some ⟨br, 0, none⟩) (tabO (clL d)).length (tabO (clL d)).length]) nsp 24)] ++ H)) (by intro fsum; first | exact Nat.le_refl _ | (simp only [List.map_append, List.map_cons, List.map_nil, List.sum_append, List.sum_cons, List.sum_nil, List.cons_append, List.nil_append]; omega)) (Upd.shareRow (by assumption) fun G6 hle7 hs7 hr7 => ?_)
                refine ⟨q - 1, by omega, s + 1, _, _, by omega, hle6.trans hle7, .inr ⟨nb, ncap, _, nsp, rfl, rfl, by rw [List.length_append, hrv]; rfl, by omega, fun i h h2 h3 => ?_⟩, rfl, rfl⟩
                rcases Nat.lt_or_ge i s with hij | hij
                · obtain ⟨b', c', f1, f2, f3⟩ := hrws i hij (by omega) h3
                  exact ⟨b', c', by rw [List.getElem_append_left (by omega)]; exact f1, f2.mono hle7, f3⟩
                · obtain rfl : i = s := by omega
                  refine ⟨some ⟨br, 0, none⟩, (tabO (clL d)).length, ?_, ?_, ?_⟩
                  · rw [hrs, hrl, List.getElem_append_right (by omega)]; simp [hrv]
                  · rw [hrs]; exact hr7
                  · rw [hrs, hrl]; exact Nat.le_refl _
        · obtain rfl : s = d.next.length := by omega
          have hnl : (rowsM d).length = d.next.length := by unfold rowsM; rw [List.length_map]
          have hob : ∀ x ∈ (mergeD d).of, 0 ≤ x ∧ x ≤ 255 := fun x hx => by
            have h1 := nums_bound (l := clL d) hx
            have h2 := tabO_len (clL d)
            have h3 := clL_len O.ofl
            omega
          have hr86 := hr8.mono hle6
          have hr96 := hr9.mono hle6
          rcases hX with ⟨hj0, rfl, rfl⟩ | ⟨bn, c1, rv, sp1, rfl, rfl, hrv, hc1, hrws⟩
          · have := hok.1
            have := hok.2.2.1
            omega
          · have hsE := hs1
            try simp only [keys_cons, keys_app, keys_nil, Sep_cons, Sep_nil, NotIn_cons, NotIn_app, NotIn_nil, List.cons_append, List.nil_append, List.append_assoc, and_assoc, and_true, true_and] at hsE
            repeat (obtain ⟨hsx, hsE⟩ := hsE)
            repeat' first
              | with_reducible refine Br.yes ?_
              | with_reducible refine Br.no ?_
              | with_reducible refine Br.dec (fun _ => ?_) (fun _ => ?_)
              | with_reducible refine Br.beqB (fun _ => ?_) (fun _ => ?_)
              | with_reducible refine Br.beqb (fun _ => ?_) (fun _ => ?_)
              | with_reducible refine Br.mk (fun _ => ?_) (fun _ => ?_)
              | with_reducible refine foundO.mk (fun _ _ => ?_) (fun _ => ?_)
              | with_reducible refine appV.zero ?_
              | with_reducible refine appV.own ?_
              | ((with_reducible refine NewB.mk fun nb hnb => ?_); have hnb1 := hnb.1.1; have hnb2 := hnb.1.2; try simp only [keys_cons, keys_app, keys_nil, NotIn_cons, NotIn_app, NotIn_nil, and_true] at hnb2)
              | ((with_reducible refine NewRow.mk fun nb nsp ncap hnb hncap => ?_); have hnb1 := hnb.1.1; have hnb2 := hnb.1.2; try simp only [keys_cons, keys_app, keys_nil, NotIn_cons, NotIn_app, NotIn_nil, and_true] at hnb2)
              | simp (dsimp := false) (implicitDefEqProofs := false) (disch := first | assumption | (simp only [List.mem_cons, List.mem_append, true_or, or_true, eq_self]; done) | omega | (with_reducible refine Row.adr (by assumption) ?_; simp only [List.length_map, List.length_take, List.length_drop]; omega) | (simp only [List.length_cons, List.length_nil, List.length_map, List.length_append, List.length_replicate, Nat.reduceAdd, true_and, and_true, and_self]; first | done | omega)) only [go_sem, ↓reduceIte, Nat.reduceEqDiff, Nat.reduceAdd, Nat.reduceSub, Nat.reduceMul, Nat.reduceBEq, Nat.reduceLT, Nat.reduceLeDiff, Nat.reduceMod, Nat.reducePow, List.reduceReplicate, UInt8.reduceOfNat, Int.reducePow, Int.reduceDiv, Int.reduceMod, Nat.reduceDiv, Int.reduceNeg, Int.reduceAdd, Int.reduceSub, Int.reduceMul, Int.reduceLE, Int.reduceLT, Int.reduceEq, Int.reduceToNat, reduceCtorEq, -List.reduceReplicate, List.toList_toArray, hl2, hputz, hone, htk2, zeroC_len]
            unfold UpdR
            refine Upd.go (H' := (bn, .cells rv sp1 24) :: H) (by intro fsum; first | exact Nat.le_refl _ | (simp only [List.map_append, List.map_cons, List.map_nil, List.sum_append, List.sum_cons, List.sum_nil, List.cons_append, List.nil_append]; omega)) (Upd.shareRow (by assumption) fun G6 hle7 hs7 hr7 => ?_)
            exact fun _ hs => hR G6 _ (((hle2.trans hle3).trans hle5).trans (hle6.trans hle7)) hs ⟨hol, hob, _, _, _, rfl, ⟨some ⟨bn, 0, none⟩, c1, rv, by show _ = Value.slice _ (rowsM d).length _; rw [hnl], hr7, by show _ = (rowsM d).length; omega, by show (rowsM d).length ≤ _; omega, fun i h h2 => by
              obtain ⟨b', c', f1, f2, f3⟩ := hrws i (by have : i < (rowsM d).length := h; omega) h2 h
              exact ⟨b', c', f1, f2.mono hle7, f3⟩⟩, ⟨a8, c8, rfl, hr86.mono hle7, hc8⟩, ⟨a9, c9, rfl, hr96.mono hle7, hc9⟩⟩
  · have hb := boolOf_no hok
    rw [mergeR_bad hok] at hR
    refine FnT.body tok [0, 1, 2, 3, 4, 5, 6, 7, 9, 10, 11, 12, 15, 34, 35, 36, 37, 42, 43, 44, 45] Tryd.func8 rfl (by kernel_rfl) (by kernel_rfl) (by show _ ≤ 68; simp) fun hsep => ?_
    rw [Tryd.results8]
    have hsE := hsep
    try simp only [keys_cons, keys_app, keys_nil, Sep_cons, Sep_nil, NotIn_cons, NotIn_app, NotIn_nil, List.cons_append, List.nil_append, List.append_assoc, and_assoc, and_true, true_and] at hsE
    repeat (obtain ⟨hsx, hsE⟩ := hsE)
    repeat' first
      | with_reducible refine Br.yes ?_
      | with_reducible refine Br.no ?_
      | with_reducible refine Br.dec (fun _ => ?_) (fun _ => ?_)
      | with_reducible refine Br.beqB (fun _ => ?_) (fun _ => ?_)
      | with_reducible refine Br.beqb (fun _ => ?_) (fun _ => ?_)
      | with_reducible refine Br.mk (fun _ => ?_) (fun _ => ?_)
      | with_reducible refine foundO.mk (fun _ _ => ?_) (fun _ => ?_)
      | with_reducible refine appV.zero ?_
      | with_reducible refine appV.own ?_
      | ((with_reducible refine NewB.mk fun nb hnb => ?_); have hnb1 := hnb.1.1; have hnb2 := hnb.1.2; try simp only [keys_cons, keys_app, keys_nil, NotIn_cons, NotIn_app, NotIn_nil, and_true] at hnb2)
      | ((with_reducible refine NewRow.mk fun nb nsp ncap hnb hncap => ?_); have hnb1 := hnb.1.1; have hnb2 := hnb.1.2; try simp only [keys_cons, keys_app, keys_nil, NotIn_cons, NotIn_app, NotIn_nil, and_true] at hnb2)
      | simp (dsimp := false) (implicitDefEqProofs := false) (disch := first | assumption | (simp only [List.mem_cons, List.mem_append, true_or, or_true, eq_self]; done) | omega | (with_reducible refine Row.adr (by assumption) ?_; simp only [List.length_map, List.length_take, List.length_drop]; omega) | (simp only [List.length_cons, List.length_nil, List.length_map, List.length_append, List.length_replicate, Nat.reduceAdd, true_and, and_true, and_self]; first | done | omega)) only [go_sem, ↓reduceIte, Nat.reduceEqDiff, Nat.reduceAdd, Nat.reduceSub, Nat.reduceMul, Nat.reduceBEq, Nat.reduceLT, Nat.reduceLeDiff, Nat.reduceMod, Nat.reducePow, List.reduceReplicate, UInt8.reduceOfNat, Int.reducePow, Int.reduceDiv, Int.reduceMod, Nat.reduceDiv, Int.reduceNeg, Int.reduceAdd, Int.reduceSub, Int.reduceMul, Int.reduceLE, Int.reduceLT, Int.reduceEq, Int.reduceToNat, reduceCtorEq, -List.reduceReplicate, List.toList_toArray, hCl, hCa, hb, zeroC_len, zeroC_one, zeroC_take, zeroC_put]
      | with_reducible refine right_t hsm O.is ?_
    unfold UpdR
    refine Upd.leave (H' := H) (by intro fsum; first | exact Nat.le_refl _ | (simp only [List.map_append, List.map_cons, List.map_nil, List.sum_append, List.sum_cons, List.sum_nil, List.cons_append, List.nil_append]; omega)) ?_
    exact fun _ hs => hR G _ (PLe.refl _) hs (zeroD_is _)
end Go.Proofs.YtmnmihfinmcljaaDoor
