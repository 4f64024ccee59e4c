/- May a machine be: contracts. -/
import Derived.Test.YtpagkndgjihbbaaSh
set_option linter.unusedSimpArgs false
set_option linter.unusedVariables false
namespace Go.Proofs.Ytpagkndgjihbbaa
open Go Go.V Go.Proofs

def rowOk (d : DfaT) (s : Nat) : Prop := ∀ (h : s < d.next.length) (h2 : s < d.label.length), (d.next[s].length : Int) = d.width ∧ 0 ≤ d.label[s] ∧ d.label[s] ≤ d.names.length ∧ ∀ t ∈ d.next[s], 0 ≤ t ∧ t < d.label.length
def rowsOk (d : DfaT) : Prop := ∀ s, rowOk d s
set_option maxHeartbeats 8000000 in
theorem rows_t {d : DfaT} (hsm : SmallD d) (hnl : d.next.length = d.label.length) {G : PHeap} {H : Heap} {R : Value → PHeap → Heap → Prop} {v : Value} (hv : IsD G d v) (hR : R (.bool (boolOf (rowsOk d))) G H) : FnT Try.prog 45 [v] G H R := by
  obtain ⟨hof, hofb, vn, vl, vs, rfl, ⟨an, cn, rs, rfl, hrn, hrl, hcn, hrs⟩, ⟨al, cl, rfl, hrl', hcl⟩, ⟨ay, cs, rfl, hrs', hcs⟩⟩ := hv
  obtain ⟨hm1, hm2, hm3, hm4, hm5⟩ := hsm
  obtain ⟨C, hC⟩ : ∃ C, C = cellsD d (.slice an d.next.length cn) (.slice al d.label.length cl) (.slice ay d.names.length cs) := ⟨_, rfl⟩
  have hCl : C.length = 260 := by rw [hC]; exact cellsD_len hof _ _ _
  have hCw : C[256]? = some (.int .i64 d.width) := by rw [hC]; exact cellsD_w hof _ _ _
  have hCn : C[257]? = some (.slice an d.next.length cn) := by rw [hC]; exact cellsD_n hof _ _ _
  have hCx : C[258]? = some (.slice al d.label.length cl) := by rw [hC]; exact cellsD_l hof _ _ _
  have hCs : C[259]? = some (.slice ay d.names.length cs) := by rw [hC]; exact cellsD_s hof _ _ _
  rw [← hC]
  refine FnT.body tok [0, 1, 2, 3, 4, 5, 7, 12, 13, 14, 15, 42, 43, 44, 45, 46, 55] Try.func45 rfl (by kernel_rfl) (by kernel_rfl) (by show _ ≤ 58; simp) fun hsep => ?_
  rw [Try.results45]
  have hsE := hsep
  try simp only [keys_cons, keys_app, keys_nil, Sep_cons, Sep_nil, NotIn_cons, NotIn_app, NotIn_nil, List.cons_append, List.nil_append, List.append_assoc, and_assoc, and_true, true_and] at hsE
  repeat (obtain ⟨hsx, hsE⟩ := hsE)
  repeat' first
    | with_reducible refine Br.yes ?_
    | with_reducible refine Br.no ?_
    | with_reducible refine Br.dec (fun _ => ?_) (fun _ => ?_)
    | with_reducible refine Br.beqB (fun _ => ?_) (fun _ => ?_)
    | with_reducible refine Br.beqb (fun _ => ?_) (fun _ => ?_)
    | with_reducible refine Br.mk (fun _ => ?_) (fun _ => ?_)
    | with_reducible refine foundO.mk (fun _ _ => ?_) (fun _ => ?_)
    | with_reducible refine appV.zero ?_
    | with_reducible refine appV.own ?_
    | ((with_reducible refine NewB.mk fun nb hnb => ?_); have hnb1 := hnb.1.1; have hnb2 := hnb.1.2; try simp only [keys_cons, keys_app, keys_nil, NotIn_cons, NotIn_app, NotIn_nil, and_true] at hnb2)
    | ((with_reducible refine NewRow.mk fun nb nsp ncap hnb hncap => ?_); have hnb1 := hnb.1.1; have hnb2 := hnb.1.2; try simp only [keys_cons, keys_app, keys_nil, NotIn_cons, NotIn_app, NotIn_nil, and_true] at hnb2)
    | simp (dsimp := false) (implicitDefEqProofs := false) (disch := first | assumption | (simp only [List.mem_cons, List.mem_append, true_or, or_true, eq_self]; done) | omega | (with_reducible refine Row.adr (by assumption) ?_; simp only [List.length_map, List.length_take, List.length_drop]; omega) | (simp only [List.length_cons, List.length_nil, List.length_map, List.length_append, List.length_replicate, Nat.reduceAdd, true_and, and_true, and_self]; first | done | omega)) only [go_sem, ↓reduceIte, Nat.reduceEqDiff, Nat.reduceAdd, Nat.reduceSub, Nat.reduceMul, Nat.reduceBEq, Nat.reduceLT, Nat.reduceLeDiff, Nat.reduceMod, Nat.reducePow, List.reduceReplicate, UInt8.reduceOfNat, Int.reducePow, Int.reduceDiv, Int.reduceMod, Nat.reduceDiv, Int.reduceNeg, Int.reduceAdd, Int.reduceSub, Int.reduceMul, Int.reduceLE, Int.reduceLT, Int.reduceEq, Int.reduceToNat, reduceCtorEq, -List.reduceReplicate, List.toList_toArray, hCl, hCw, hCn, hCx, hCs]
  refine Tri.loopU tok [0, 1, 2, 3, 4, 5, 7, 12, 13, 14, 15, 42, 43, 44, 45, 46, 55] (by kernel_rfl) [1, 2, 3, 12, 13, 14] (fun q G' fr H' => ∃ s : Nat, s + q = d.next.length ∧ (∀ j, j < s → rowOk d j) ∧ G' = G ∧ H' = (nb, .cells C [] 27) :: H ∧ fr = [(1, .pointer (some ⟨nb, 0, none⟩)), (2, .bool false), (3, .int .i64 d.label.length), (12, .slice an d.next.length cn), (13, .int .i64 d.next.length), (14, .int .i64 s)]) (d.next.length) ?_ ?_
  · exact Upd.now ⟨0, by omega, fun j h => by omega, rfl, rfl, rfl⟩
  · rintro q G1 fr H' hle hs ⟨s, hi, hno, rfl, rfl, rfl⟩
    have hsE := hs
    try simp only [keys_cons, keys_app, keys_nil, Sep_cons, Sep_nil, NotIn_cons, NotIn_app, NotIn_nil, List.cons_append, List.nil_append, List.append_assoc, and_assoc, and_true, true_and] at hsE
    repeat (obtain ⟨hsx, hsE⟩ := hsE)
    by_cases hsl : s < d.next.length
    · have hsv : s < rs.length := by omega
      have hsL : s < d.label.length := by omega
      obtain ⟨b, c, e1, e2, e3⟩ := hrs s hsl hsv
      have hrm := hm2 _ (List.getElem_mem hsl)
      have had : Adr an := hrn.adr (by omega)
      have had2 : Adr al := hrl'.adr (by rw [List.length_map]; omega)
      repeat' first
        | with_reducible refine Br.yes ?_
        | with_reducible refine Br.no ?_
        | with_reducible refine Br.dec (fun _ => ?_) (fun _ => ?_)
        | with_reducible refine Br.beqB (fun _ => ?_) (fun _ => ?_)
        | with_reducible refine Br.beqb (fun _ => ?_) (fun _ => ?_)
        | with_reducible refine Br.mk (fun _ => ?_) (fun _ => ?_)
        | with_reducible refine foundO.mk (fun _ _ => ?_) (fun _ => ?_)
        | with_reducible refine appV.zero ?_
        | with_reducible refine appV.own ?_
        | ((with_reducible refine NewB.mk fun nb hnb => ?_); have hnb1 := hnb.1.1; have hnb2 := hnb.1.2; try simp only [keys_cons, keys_app, keys_nil, NotIn_cons, NotIn_app, NotIn_nil, and_true] at hnb2)
        | ((with_reducible refine NewRow.mk fun nb nsp ncap hnb hncap => ?_); have hnb1 := hnb.1.1; have hnb2 := hnb.1.2; try simp only [keys_cons, keys_app, keys_nil, NotIn_cons, NotIn_app, NotIn_nil, and_true] at hnb2)
        | with_reducible refine Tri.drawM tok mixed [0, 1, 2, 3, 4, 5, 7, 12, 13, 14, 15, 42, 43, 44, 45, 46, 55] 5 [3, 7, 10, 15, 18, 20] (.op 0 .plain (.op 1 .plain (.op 2 .plain (.op 3 .held (.op 4 .plain (.op 5 .plain (.op 6 .plain (.op 7 .held (.op 8 .plain (.op 9 .plain (.op 10 .held (.op 11 .plain (.op 12 .plain (.op 13 .plain (.op 14 .plain (.op 15 .held (.op 16 .plain (.op 17 .plain (.op 18 .held (.op 19 .plain (.op 20 .held (.op 21 .plain (.op 22 .plain (.op 23 .plain .nil)))))))))))))))))))))))) (by kernel_rfl) _ (List.Sublist.refl _) ?_
        | simp (dsimp := false) (implicitDefEqProofs := false) (disch := first | assumption | (simp only [List.mem_cons, List.mem_append, true_or, or_true, eq_self]; done) | omega | (with_reducible refine Row.adr (by assumption) ?_; simp only [List.length_map, List.length_take, List.length_drop]; omega) | (simp only [List.length_cons, List.length_nil, List.length_map, List.length_append, List.length_replicate, Nat.reduceAdd, true_and, and_true, and_self]; first | done | omega)) only [go_sem, ↓reduceIte, Nat.reduceEqDiff, Nat.reduceAdd, Nat.reduceSub, Nat.reduceMul, Nat.reduceBEq, Nat.reduceLT, Nat.reduceLeDiff, Nat.reduceMod, Nat.reducePow, List.reduceReplicate, UInt8.reduceOfNat, Int.reducePow, Int.reduceDiv, Int.reduceMod, Nat.reduceDiv, Int.reduceNeg, Int.reduceAdd, Int.reduceSub, Int.reduceMul, Int.reduceLE, Int.reduceLT, Int.reduceEq, Int.reduceToNat, reduceCtorEq, -List.reduceReplicate, List.toList_toArray, hCl, hCw, hCn, hCx, hCs, Row.obj hrn, e1, Row.obj hrl', List.getElem_map]
      all_goals try (
        rw [boolOf_no (p := rowsOk d) fun h => by
          obtain ⟨r1, r2, r3, r4⟩ := h s hsl hsL
          omega] at hR
        exact Upd.finL (by intro fsum; first | exact Nat.le_refl _ | (simp only [List.map_append, List.map_cons, List.map_nil, List.sum_append, List.sum_cons, List.sum_nil, List.cons_append, List.nil_append]; omega)) hR rfl)
      obtain ⟨row, hrow⟩ : ∃ row, row = d.next[s] := ⟨_, rfl⟩
      have hrw : (row.length : Int) = d.width ∧ 0 ≤ d.label[s] ∧ d.label[s] ≤ d.names.length := by rw [hrow]; omega
      rw [← hrow] at e2 e3 hrm ⊢
      refine Tri.loopU tok [0, 1, 2, 3, 4, 5, 7, 12, 13, 14, 15, 42, 43, 44, 45, 46, 55] (by kernel_rfl) [1, 2, 3, 12, 13, 14, 43, 44, 45] (fun q2 G' fr H' => ∃ k : Nat, k + q2 = row.length ∧ (∀ j (h : j < row.length), j < k → 0 ≤ row[j] ∧ row[j] < d.label.length) ∧ G' = G1 ∧ H' = (nb, .cells C [] 27) :: H ∧ fr = [(1, .pointer (some ⟨nb, 0, none⟩)), (2, .bool false), (3, .int .i64 d.label.length), (12, .slice an d.next.length cn), (13, .int .i64 d.next.length), (14, .int .i64 s), (43, .slice b row.length c), (44, .int .i64 row.length), (45, .int .i64 k)]) (row.length) ?_ ?_
      · exact Upd.now ⟨0, by omega, fun j _ h => by omega, rfl, rfl, rfl⟩
      · rintro q2 G2 fr H' hle2 hs2 ⟨k, hk, hno2, rfl, rfl, rfl⟩
        by_cases hkl : k < row.length
        · have had3 : Adr b := e2.adr (by rw [List.length_map]; omega)
          repeat' first
            | with_reducible refine Br.yes ?_
            | with_reducible refine Br.no ?_
            | with_reducible refine Br.dec (fun _ => ?_) (fun _ => ?_)
            | with_reducible refine Br.beqB (fun _ => ?_) (fun _ => ?_)
            | with_reducible refine Br.beqb (fun _ => ?_) (fun _ => ?_)
            | with_reducible refine Br.mk (fun _ => ?_) (fun _ => ?_)
            | with_reducible refine foundO.mk (fun _ _ => ?_) (fun _ => ?_)
            | with_reducible refine appV.zero ?_
            | with_reducible refine appV.own ?_
            | ((with_reducible refine NewB.mk fun nb hnb => ?_); have hnb1 := hnb.1.1; have hnb2 := hnb.1.2; try simp only [keys_cons, keys_app, keys_nil, NotIn_cons, NotIn_app, NotIn_nil, and_true] at hnb2)
            | ((with_reducible refine NewRow.mk fun nb nsp ncap hnb hncap => ?_); have hnb1 := hnb.1.1; have hnb2 := hnb.1.2; try simp only [keys_cons, keys_app, keys_nil, NotIn_cons, NotIn_app, NotIn_nil, and_true] at hnb2)
            | simp (dsimp := false) (implicitDefEqProofs := false) (disch := first | assumption | (simp only [List.mem_cons, List.mem_append, true_or, or_true, eq_self]; done) | omega | (with_reducible refine Row.adr (by assumption) ?_; simp only [List.length_map, List.length_take, List.length_drop]; omega) | (simp only [List.length_cons, List.length_nil, List.length_map, List.length_append, List.length_replicate, Nat.reduceAdd, true_and, and_true, and_self]; first | done | omega)) only [go_sem, ↓reduceIte, Nat.reduceEqDiff, Nat.reduceAdd, Nat.reduceSub, Nat.reduceMul, Nat.reduceBEq, Nat.reduceLT, Nat.reduceLeDiff, Nat.reduceMod, Nat.reducePow, List.reduceReplicate, UInt8.reduceOfNat, Int.reducePow, Int.reduceDiv, Int.reduceMod, Nat.reduceDiv, Int.reduceNeg, Int.reduceAdd, Int.reduceSub, Int.reduceMul, Int.reduceLE, Int.reduceLT, Int.reduceEq, Int.reduceToNat, reduceCtorEq, -List.reduceReplicate, Row.obj e2, List.getElem_map]
          all_goals first
            | (rw [boolOf_no (p := rowsOk d) fun h => by
                obtain ⟨r1, r2, r3, r4⟩ := h s hsl hsL
                have := r4 row[k] (by rw [← hrow]; exact List.getElem_mem hkl)
                omega] at hR
               exact Upd.finL (by intro fsum; first | exact Nat.le_refl _ | (simp only [List.map_append, List.map_cons, List.map_nil, List.sum_append, List.sum_cons, List.sum_nil, List.cons_append, List.nil_append]; omega)) hR rfl)
            | exact Upd.now ⟨q2 - 1, by omega, k + 1, by omega, fun j h hj => by
                by_cases e : j = k
                · subst e; omega
                · exact hno2 j h (by omega), rfl, rfl, rfl⟩
        · obtain rfl : k = row.length := by omega
          repeat' first
            | with_reducible refine Br.yes ?_
            | with_reducible refine Br.no ?_
            | with_reducible refine Br.dec (fun _ => ?_) (fun _ => ?_)
            | with_reducible refine Br.beqB (fun _ => ?_) (fun _ => ?_)
            | with_reducible refine Br.beqb (fun _ => ?_) (fun _ => ?_)
            | with_reducible refine Br.mk (fun _ => ?_) (fun _ => ?_)
            | with_reducible refine foundO.mk (fun _ _ => ?_) (fun _ => ?_)
            | with_reducible refine appV.zero ?_
            | with_reducible refine appV.own ?_
            | ((with_reducible refine NewB.mk fun nb hnb => ?_); have hnb1 := hnb.1.1; have hnb2 := hnb.1.2; try simp only [keys_cons, keys_app, keys_nil, NotIn_cons, NotIn_app, NotIn_nil, and_true] at hnb2)
            | ((with_reducible refine NewRow.mk fun nb nsp ncap hnb hncap => ?_); have hnb1 := hnb.1.1; have hnb2 := hnb.1.2; try simp only [keys_cons, keys_app, keys_nil, NotIn_cons, NotIn_app, NotIn_nil, and_true] at hnb2)
            | simp (dsimp := false) (implicitDefEqProofs := false) (disch := first | assumption | (simp only [List.mem_cons, List.mem_append, true_or, or_true, eq_self]; done) | omega | (with_reducible refine Row.adr (by assumption) ?_; simp only [List.length_map, List.length_take, List.length_drop]; omega) | (simp only [List.length_cons, List.length_nil, List.length_map, List.length_append, List.length_replicate, Nat.reduceAdd, true_and, and_true, and_self]; first | done | omega)) only [go_sem, ↓reduceIte, Nat.reduceEqDiff, Nat.reduceAdd, Nat.reduceSub, Nat.reduceMul, Nat.reduceBEq, Nat.reduceLT, Nat.reduceLeDiff, Nat.reduceMod, Nat.reducePow, List.reduceReplicate, UInt8.reduceOfNat, Int.reducePow, Int.reduceDiv, Int.reduceMod, Nat.reduceDiv, Int.reduceNeg, Int.reduceAdd, Int.reduceSub, Int.reduceMul, Int.reduceLE, Int.reduceLT, Int.reduceEq, Int.reduceToNat, reduceCtorEq, -List.reduceReplicate]
          exact Upd.now ⟨q - 1, by omega, s + 1, by omega, fun j hj => by
            by_cases e : j = s
            · subst e
              exact fun h1 h2 => ⟨by rw [← hrow]; omega, by omega, by omega, fun t ht => by
                rw [← hrow] at ht
                obtain ⟨j, hj, rfl⟩ := List.getElem_of_mem ht
                exact hno2 j hj hj⟩
            · exact hno j (by omega), rfl, rfl, rfl⟩
    · obtain rfl : s = d.next.length := by omega
      rw [boolOf_yes (p := rowsOk d) fun s => by
        rcases Nat.lt_or_ge s d.next.length with h | h
        · exact hno s h
        · exact fun h2 => by omega] at hR
      repeat' first
        | with_reducible refine Br.yes ?_
        | with_reducible refine Br.no ?_
        | with_reducible refine Br.dec (fun _ => ?_) (fun _ => ?_)
        | with_reducible refine Br.beqB (fun _ => ?_) (fun _ => ?_)
        | with_reducible refine Br.beqb (fun _ => ?_) (fun _ => ?_)
        | with_reducible refine Br.mk (fun _ => ?_) (fun _ => ?_)
        | with_reducible refine foundO.mk (fun _ _ => ?_) (fun _ => ?_)
        | with_reducible refine appV.zero ?_
        | with_reducible refine appV.own ?_
        | ((with_reducible refine NewB.mk fun nb hnb => ?_); have hnb1 := hnb.1.1; have hnb2 := hnb.1.2; try simp only [keys_cons, keys_app, keys_nil, NotIn_cons, NotIn_app, NotIn_nil, and_true] at hnb2)
        | ((with_reducible refine NewRow.mk fun nb nsp ncap hnb hncap => ?_); have hnb1 := hnb.1.1; have hnb2 := hnb.1.2; try simp only [keys_cons, keys_app, keys_nil, NotIn_cons, NotIn_app, NotIn_nil, and_true] at hnb2)
        | simp (dsimp := false) (implicitDefEqProofs := false) (disch := first | assumption | (simp only [List.mem_cons, List.mem_append, true_or, or_true, eq_self]; done) | omega | (with_reducible refine Row.adr (by assumption) ?_; simp only [List.length_map, List.length_take, List.length_drop]; omega) | (simp only [List.length_cons, List.length_nil, List.length_map, List.length_append, List.length_replicate, Nat.reduceAdd, true_and, and_true, and_self]; first | done | omega)) only [go_sem, ↓reduceIte, Nat.reduceEqDiff, Nat.reduceAdd, Nat.reduceSub, Nat.reduceMul, Nat.reduceBEq, Nat.reduceLT, Nat.reduceLeDiff, Nat.reduceMod, Nat.reducePow, List.reduceReplicate, UInt8.reduceOfNat, Int.reducePow, Int.reduceDiv, Int.reduceMod, Nat.reduceDiv, Int.reduceNeg, Int.reduceAdd, Int.reduceSub, Int.reduceMul, Int.reduceLE, Int.reduceLT, Int.reduceEq, Int.reduceToNat, reduceCtorEq, -List.reduceReplicate]
      all_goals refine Upd.finL ?_ hR ?_
      any_goals (intro fsum; first | exact Nat.le_refl _ | (simp only [List.map_append, List.map_cons, List.map_nil, List.sum_append, List.sum_cons, List.sum_nil, List.cons_append, List.nil_append]; omega))
      rfl
end Go.Proofs.Ytpagkndgjihbbaa
