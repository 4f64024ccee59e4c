/- May a machine be, as the document has it: doubletref20.Right. -/
import Derived.Test.YtpagkndgjihbbaaUe
set_option linter.unusedSimpArgs false
set_option linter.unusedVariables false
namespace Go.Proofs.Ytpagkndgjihbbaa
open Go Go.V Go.Proofs

set_option maxHeartbeats 32000000 in
theorem rright_t {d : DfaT} (hsm : SmallD d) {G : PHeap} {H : Heap} {R : Value → PHeap → Heap → Prop} {v : Value} (hv : IsD G d v) (hR : ∀ G', PLe G G' → Sep G' (keys H) → R (.bool (boolOf (RightP d))) G' H) : FnT Try.prog 26 [v] G H R := by
  obtain ⟨C, an, al, ay, cn, cl, cs, rs, rfl, O⟩ := hv.opened
  obtain ⟨hm1, hm2, hm3, hm4, hm5⟩ := id hsm
  have hCl := O.len
  have hCw := O.w
  have hCn := O.n
  have hCx := O.l
  have hCs := O.s
  have hCo := O.of
  refine FnT.sep ?_
  by_cases h1 : 1 ≤ d.label.length ∧ d.label.length ≤ 65536 ∧ d.next.length = d.label.length ∧ d.names.length ≤ 64
  · obtain ⟨h1a, h1b, h1c, h1d⟩ := h1
    refine FnT.body tok [0, 1, 2, 3, 4, 5, 6, 7, 37, 42, 51, 54, 67, 70, 100, 104, 127] Try.func26 rfl (by kernel_rfl) (by kernel_rfl) (by show _ ≤ 128; simp) fun hsep => ?_
    rw [Try.results26]
    have hsE := hsep
    try simp only [keys_cons, keys_app, keys_nil, Sep_cons, Sep_nil, NotIn_cons, NotIn_app, NotIn_nil, List.cons_append, List.nil_append, List.append_assoc, and_assoc, and_true, true_and] at hsE
    repeat (obtain ⟨hsx, hsE⟩ := hsE)
    repeat' first
      | with_reducible refine Br.yes ?_
      | with_reducible refine Br.no ?_
      | with_reducible refine Br.dec (fun _ => ?_) (fun _ => ?_)
      | with_reducible refine Br.beqB (fun _ => ?_) (fun _ => ?_)
      | with_reducible refine Br.beqb (fun _ => ?_) (fun _ => ?_)
      | with_reducible refine Br.mk (fun _ => ?_) (fun _ => ?_)
      | with_reducible refine foundO.mk (fun _ _ => ?_) (fun _ => ?_)
      | with_reducible refine appV.zero ?_
      | with_reducible refine appV.own ?_
      | ((with_reducible refine NewB.mk fun nb hnb => ?_); have hnb1 := hnb.1.1; have hnb2 := hnb.1.2; try simp only [keys_cons, keys_app, keys_nil, NotIn_cons, NotIn_app, NotIn_nil, and_true] at hnb2)
      | ((with_reducible refine NewRow.mk fun nb nsp ncap hnb hncap => ?_); have hnb1 := hnb.1.1; have hnb2 := hnb.1.2; try simp only [keys_cons, keys_app, keys_nil, NotIn_cons, NotIn_app, NotIn_nil, and_true] at hnb2)
      | simp (dsimp := false) (implicitDefEqProofs := false) (disch := first | assumption | (simp only [List.mem_cons, List.mem_append, true_or, or_true, eq_self]; done) | omega | (with_reducible refine Row.adr (by assumption) ?_; simp only [List.length_map, List.length_take, List.length_drop]; omega) | (simp only [List.length_cons, List.length_nil, List.length_map, List.length_append, List.length_replicate, Nat.reduceAdd, true_and, and_true, and_self]; first | done | omega)) only [go_sem, ↓reduceIte, Nat.reduceEqDiff, Nat.reduceAdd, Nat.reduceSub, Nat.reduceMul, Nat.reduceBEq, Nat.reduceLT, Nat.reduceLeDiff, Nat.reduceMod, Nat.reducePow, List.reduceReplicate, UInt8.reduceOfNat, Int.reducePow, Int.reduceDiv, Int.reduceMod, Nat.reduceDiv, Int.reduceNeg, Int.reduceAdd, Int.reduceSub, Int.reduceMul, Int.reduceLE, Int.reduceLT, Int.reduceEq, Int.reduceToNat, reduceCtorEq, -List.reduceReplicate, List.toList_toArray, hCl, hCw, hCn, hCx, hCs, hCo]
    all_goals try (exfalso; omega)
    revert nb
    intro b1 hb1 hb11 hb12
    refine rpright_t O.ofl O.ofb d.width fun G2 hle2 hs2 => ?_
    have hsE := hs2
    try simp only [keys_cons, keys_app, keys_nil, Sep_cons, Sep_nil, NotIn_cons, NotIn_app, NotIn_nil, List.cons_append, List.nil_append, List.append_assoc, and_assoc, and_true, true_and] at hsE
    repeat (obtain ⟨hsx, hsE⟩ := hsE)
    have O2 := OpenD.mono hle2 O
    by_cases hp : nums d.of = d.of ∧ ((tabO d.of).length : Int) = d.width
    · rw [decide_eq_true hp.1, decide_eq_true hp.2]
      repeat' first
        | with_reducible refine Br.yes ?_
        | with_reducible refine Br.no ?_
        | with_reducible refine Br.dec (fun _ => ?_) (fun _ => ?_)
        | with_reducible refine Br.beqB (fun _ => ?_) (fun _ => ?_)
        | with_reducible refine Br.beqb (fun _ => ?_) (fun _ => ?_)
        | with_reducible refine Br.mk (fun _ => ?_) (fun _ => ?_)
        | with_reducible refine foundO.mk (fun _ _ => ?_) (fun _ => ?_)
        | with_reducible refine appV.zero ?_
        | with_reducible refine appV.own ?_
        | ((with_reducible refine NewB.mk fun nb hnb => ?_); have hnb1 := hnb.1.1; have hnb2 := hnb.1.2; try simp only [keys_cons, keys_app, keys_nil, NotIn_cons, NotIn_app, NotIn_nil, and_true] at hnb2)
        | ((with_reducible refine NewRow.mk fun nb nsp ncap hnb hncap => ?_); have hnb1 := hnb.1.1; have hnb2 := hnb.1.2; try simp only [keys_cons, keys_app, keys_nil, NotIn_cons, NotIn_app, NotIn_nil, and_true] at hnb2)
        | simp (dsimp := false) (implicitDefEqProofs := false) (disch := first | assumption | (simp only [List.mem_cons, List.mem_append, true_or, or_true, eq_self]; done) | omega | (with_reducible refine Row.adr (by assumption) ?_; simp only [List.length_map, List.length_take, List.length_drop]; omega) | (simp only [List.length_cons, List.length_nil, List.length_map, List.length_append, List.length_replicate, Nat.reduceAdd, true_and, and_true, and_self]; first | done | omega)) only [go_sem, ↓reduceIte, Nat.reduceEqDiff, Nat.reduceAdd, Nat.reduceSub, Nat.reduceMul, Nat.reduceBEq, Nat.reduceLT, Nat.reduceLeDiff, Nat.reduceMod, Nat.reducePow, List.reduceReplicate, UInt8.reduceOfNat, Int.reducePow, Int.reduceDiv, Int.reduceMod, Nat.reduceDiv, Int.reduceNeg, Int.reduceAdd, Int.reduceSub, Int.reduceMul, Int.reduceLE, Int.reduceLT, Int.reduceEq, Int.reduceToNat, reduceCtorEq, -List.reduceReplicate, Bool.true_and]
      have hry := O2.ry
      have hrn := O2.rn
      have hrl := O2.rl
      have hrnl := O2.rnl
      have hny : d.names.length ≤ 64 := h1d
      refine Tri.loopU tok [0, 1, 2, 3, 4, 5, 6, 7, 37, 42, 51, 54, 67, 70, 100, 104, 127] (by kernel_rfl) [1, 2, 3, 4] (fun q G' fr H' => ∃ i : Nat, i + q = d.names.length ∧ (∀ j (h : j < d.names.length), j < i → nameB d.names[j] = true ∧ d.names[j] ∉ d.names.take j) ∧ G' = G2 ∧ H' = (b1, .cells C [] 27) :: H ∧ fr = [(1, .pointer (some ⟨b1, 0, none⟩)), (2, .bool false), (3, .int .i64 d.label.length), (4, .int .i64 (i : Nat))]) (d.names.length) ?_ ?_
      · exact Upd.now ⟨0, by omega, fun j _ h => by omega, rfl, rfl, rfl⟩
      · rintro q G3 fr H' hle hs ⟨i, hi, hno, rfl, rfl, rfl⟩
        have hsE := hs
        try simp only [keys_cons, keys_app, keys_nil, Sep_cons, Sep_nil, NotIn_cons, NotIn_app, NotIn_nil, List.cons_append, List.nil_append, List.append_assoc, and_assoc, and_true, true_and] at hsE
        repeat (obtain ⟨hsx, hsE⟩ := hsE)
        by_cases hil : i < d.names.length
        · have had : Adr ay := hry.adr (by rw [List.length_map]; omega)
          have hsi := hm5 _ (List.getElem_mem hil)
          cases hnm : nameB d.names[i] with
          | false =>
            repeat' first
              | with_reducible refine Br.yes ?_
              | with_reducible refine Br.no ?_
              | with_reducible refine Br.dec (fun _ => ?_) (fun _ => ?_)
              | with_reducible refine Br.beqB (fun _ => ?_) (fun _ => ?_)
              | with_reducible refine Br.beqb (fun _ => ?_) (fun _ => ?_)
              | with_reducible refine Br.mk (fun _ => ?_) (fun _ => ?_)
              | with_reducible refine foundO.mk (fun _ _ => ?_) (fun _ => ?_)
              | with_reducible refine appV.zero ?_
              | with_reducible refine appV.own ?_
              | ((with_reducible refine NewB.mk fun nb hnb => ?_); have hnb1 := hnb.1.1; have hnb2 := hnb.1.2; try simp only [keys_cons, keys_app, keys_nil, NotIn_cons, NotIn_app, NotIn_nil, and_true] at hnb2)
              | ((with_reducible refine NewRow.mk fun nb nsp ncap hnb hncap => ?_); have hnb1 := hnb.1.1; have hnb2 := hnb.1.2; try simp only [keys_cons, keys_app, keys_nil, NotIn_cons, NotIn_app, NotIn_nil, and_true] at hnb2)
              | simp (dsimp := false) (implicitDefEqProofs := false) (disch := first | assumption | (simp only [List.mem_cons, List.mem_append, true_or, or_true, eq_self]; done) | omega | (with_reducible refine Row.adr (by assumption) ?_; simp only [List.length_map, List.length_take, List.length_drop]; omega) | (simp only [List.length_cons, List.length_nil, List.length_map, List.length_append, List.length_replicate, Nat.reduceAdd, true_and, and_true, and_self]; first | done | omega)) only [go_sem, ↓reduceIte, Nat.reduceEqDiff, Nat.reduceAdd, Nat.reduceSub, Nat.reduceMul, Nat.reduceBEq, Nat.reduceLT, Nat.reduceLeDiff, Nat.reduceMod, Nat.reducePow, List.reduceReplicate, UInt8.reduceOfNat, Int.reducePow, Int.reduceDiv, Int.reduceMod, Nat.reduceDiv, Int.reduceNeg, Int.reduceAdd, Int.reduceSub, Int.reduceMul, Int.reduceLE, Int.reduceLT, Int.reduceEq, Int.reduceToNat, reduceCtorEq, -List.reduceReplicate, List.toList_toArray, hCl, hCw, hCn, hCx, hCs, Row.obj hry, Row.obj hrn, Row.obj hrl, List.getElem_map, hnm]
              | with_reducible refine rname_t _ hsi ?_
            (unfold UpdR
             refine Upd.leave (H' := H) (by intro fsum; first | exact Nat.le_refl _ | (simp only [List.map_append, List.map_cons, List.map_nil, List.sum_append, List.sum_cons, List.sum_nil, List.cons_append, List.nil_append]; omega)) ?_
             rw [boolOf_no (p := RightP d) fun h => by have := (h.2.2.2.2.2.1.2 i hil).1; rw [hnm] at this; cases this] at hR
             exact fun _ hs => hR _ hle2 hs)
          | true =>
            repeat' first
              | with_reducible refine Br.yes ?_
              | with_reducible refine Br.no ?_
              | with_reducible refine Br.dec (fun _ => ?_) (fun _ => ?_)
              | with_reducible refine Br.beqB (fun _ => ?_) (fun _ => ?_)
              | with_reducible refine Br.beqb (fun _ => ?_) (fun _ => ?_)
              | with_reducible refine Br.mk (fun _ => ?_) (fun _ => ?_)
              | with_reducible refine foundO.mk (fun _ _ => ?_) (fun _ => ?_)
              | with_reducible refine appV.zero ?_
              | with_reducible refine appV.own ?_
              | ((with_reducible refine NewB.mk fun nb hnb => ?_); have hnb1 := hnb.1.1; have hnb2 := hnb.1.2; try simp only [keys_cons, keys_app, keys_nil, NotIn_cons, NotIn_app, NotIn_nil, and_true] at hnb2)
              | ((with_reducible refine NewRow.mk fun nb nsp ncap hnb hncap => ?_); have hnb1 := hnb.1.1; have hnb2 := hnb.1.2; try simp only [keys_cons, keys_app, keys_nil, NotIn_cons, NotIn_app, NotIn_nil, and_true] at hnb2)
              | simp (dsimp := false) (implicitDefEqProofs := false) (disch := first | assumption | (simp only [List.mem_cons, List.mem_append, true_or, or_true, eq_self]; done) | omega | (with_reducible refine Row.adr (by assumption) ?_; simp only [List.length_map, List.length_take, List.length_drop]; omega) | (simp only [List.length_cons, List.length_nil, List.length_map, List.length_append, List.length_replicate, Nat.reduceAdd, true_and, and_true, and_self]; first | done | omega)) only [go_sem, ↓reduceIte, Nat.reduceEqDiff, Nat.reduceAdd, Nat.reduceSub, Nat.reduceMul, Nat.reduceBEq, Nat.reduceLT, Nat.reduceLeDiff, Nat.reduceMod, Nat.reducePow, List.reduceReplicate, UInt8.reduceOfNat, Int.reducePow, Int.reduceDiv, Int.reduceMod, Nat.reduceDiv, Int.reduceNeg, Int.reduceAdd, Int.reduceSub, Int.reduceMul, Int.reduceLE, Int.reduceLT, Int.reduceEq, Int.reduceToNat, reduceCtorEq, -List.reduceReplicate, List.toList_toArray, hCl, hCw, hCn, hCx, hCs, Row.obj hry, Row.obj hrn, Row.obj hrl, List.getElem_map, hnm]
              | with_reducible refine rname_t _ hsi ?_
            refine Tri.loopU tok [0, 1, 2, 3, 4, 5, 6, 7, 37, 42, 51, 54, 67, 70, 100, 104, 127] (by kernel_rfl) [1, 2, 3, 4, 5] (fun q2 G' fr H' => ∃ k : Nat, k + q2 = i ∧ (∀ j (h : j < d.names.length), j < k → d.names[j] ≠ d.names[i]) ∧ G' = G3 ∧ H' = (b1, .cells C [] 27) :: H ∧ fr = [(1, .pointer (some ⟨b1, 0, none⟩)), (2, .bool false), (3, .int .i64 d.label.length), (4, .int .i64 (i : Nat)), (5, .int .i64 (k : Nat))]) (i) ?_ ?_
            · exact Upd.now ⟨0, by omega, fun j _ h => by omega, rfl, rfl, rfl⟩
            · rintro q2 G4 fr H' hle4 hs4 ⟨k, hk, hno2, rfl, rfl, rfl⟩
              have hsE := hs4
              try simp only [keys_cons, keys_app, keys_nil, Sep_cons, Sep_nil, NotIn_cons, NotIn_app, NotIn_nil, List.cons_append, List.nil_append, List.append_assoc, and_assoc, and_true, true_and] at hsE
              repeat (obtain ⟨hsx, hsE⟩ := hsE)
              by_cases hkl : k < i
              · have hkn : k < d.names.length := by omega
                repeat' first
                  | with_reducible refine Br.yes ?_
                  | with_reducible refine Br.no ?_
                  | with_reducible refine Br.dec (fun _ => ?_) (fun _ => ?_)
                  | with_reducible refine Br.beqB (fun _ => ?_) (fun _ => ?_)
                  | with_reducible refine Br.beqb (fun _ => ?_) (fun _ => ?_)
                  | with_reducible refine Br.mk (fun _ => ?_) (fun _ => ?_)
                  | with_reducible refine foundO.mk (fun _ _ => ?_) (fun _ => ?_)
                  | with_reducible refine appV.zero ?_
                  | with_reducible refine appV.own ?_
                  | ((with_reducible refine NewB.mk fun nb hnb => ?_); have hnb1 := hnb.1.1; have hnb2 := hnb.1.2; try simp only [keys_cons, keys_app, keys_nil, NotIn_cons, NotIn_app, NotIn_nil, and_true] at hnb2)
                  | ((with_reducible refine NewRow.mk fun nb nsp ncap hnb hncap => ?_); have hnb1 := hnb.1.1; have hnb2 := hnb.1.2; try simp only [keys_cons, keys_app, keys_nil, NotIn_cons, NotIn_app, NotIn_nil, and_true] at hnb2)
                  | with_reducible refine Tri.drawM tok mixed [0, 1, 2, 3, 4, 5, 6, 7, 37, 42, 51, 54, 67, 70, 100, 104, 127] 12 [1, 4, 6, 9] (.op 0 .plain (.op 1 .held (.op 2 .plain (.op 3 .plain (.op 4 .held (.op 5 .plain (.op 6 .held (.op 7 .plain (.op 8 .plain (.op 9 .held (.op 10 .plain .nil))))))))))) (by kernel_rfl) _ (List.Sublist.refl _) ?_
                  | simp (dsimp := false) (implicitDefEqProofs := false) (disch := first | assumption | (simp only [List.mem_cons, List.mem_append, true_or, or_true, eq_self]; done) | omega | (with_reducible refine Row.adr (by assumption) ?_; simp only [List.length_map, List.length_take, List.length_drop]; omega) | (simp only [List.length_cons, List.length_nil, List.length_map, List.length_append, List.length_replicate, Nat.reduceAdd, true_and, and_true, and_self]; first | done | omega)) only [go_sem, ↓reduceIte, Nat.reduceEqDiff, Nat.reduceAdd, Nat.reduceSub, Nat.reduceMul, Nat.reduceBEq, Nat.reduceLT, Nat.reduceLeDiff, Nat.reduceMod, Nat.reducePow, List.reduceReplicate, UInt8.reduceOfNat, Int.reducePow, Int.reduceDiv, Int.reduceMod, Nat.reduceDiv, Int.reduceNeg, Int.reduceAdd, Int.reduceSub, Int.reduceMul, Int.reduceLE, Int.reduceLT, Int.reduceEq, Int.reduceToNat, reduceCtorEq, -List.reduceReplicate, List.toList_toArray, hCl, hCw, hCn, hCx, hCs, Row.obj hry, Row.obj hrn, Row.obj hrl, List.getElem_map]
                · rename_i hsame
                  unfold UpdR
                  refine Upd.leave (H' := H) (by intro fsum; first | exact Nat.le_refl _ | (simp only [List.map_append, List.map_cons, List.map_nil, List.sum_append, List.sum_cons, List.sum_nil, List.cons_append, List.nil_append]; omega)) ?_
                  rw [boolOf_no (p := RightP d) fun h => (h.2.2.2.2.2.1.2 i hil).2 ((mem_take_iff hil).2 ⟨k, hkl, hsame⟩)] at hR
                  exact fun _ hs => hR _ hle2 hs
                · rename_i hsame
                  exact Upd.now ⟨q2 - 1, by omega, k + 1, by omega, fun j h hj => by
                    by_cases e : j = k
                    · subst e; exact hsame
                    · exact hno2 j h (by omega), rfl, rfl, rfl⟩
              · obtain rfl : k = i := by omega
                repeat' first
                  | with_reducible refine Br.yes ?_
                  | with_reducible refine Br.no ?_
                  | with_reducible refine Br.dec (fun _ => ?_) (fun _ => ?_)
                  | with_reducible refine Br.beqB (fun _ => ?_) (fun _ => ?_)
                  | with_reducible refine Br.beqb (fun _ => ?_) (fun _ => ?_)
                  | with_reducible refine Br.mk (fun _ => ?_) (fun _ => ?_)
                  | with_reducible refine foundO.mk (fun _ _ => ?_) (fun _ => ?_)
                  | with_reducible refine appV.zero ?_
                  | with_reducible refine appV.own ?_
                  | ((with_reducible refine NewB.mk fun nb hnb => ?_); have hnb1 := hnb.1.1; have hnb2 := hnb.1.2; try simp only [keys_cons, keys_app, keys_nil, NotIn_cons, NotIn_app, NotIn_nil, and_true] at hnb2)
                  | ((with_reducible refine NewRow.mk fun nb nsp ncap hnb hncap => ?_); have hnb1 := hnb.1.1; have hnb2 := hnb.1.2; try simp only [keys_cons, keys_app, keys_nil, NotIn_cons, NotIn_app, NotIn_nil, and_true] at hnb2)
                  | simp (dsimp := false) (implicitDefEqProofs := false) (disch := first | assumption | (simp only [List.mem_cons, List.mem_append, true_or, or_true, eq_self]; done) | omega | (with_reducible refine Row.adr (by assumption) ?_; simp only [List.length_map, List.length_take, List.length_drop]; omega) | (simp only [List.length_cons, List.length_nil, List.length_map, List.length_append, List.length_replicate, Nat.reduceAdd, true_and, and_true, and_self]; first | done | omega)) only [go_sem, ↓reduceIte, Nat.reduceEqDiff, Nat.reduceAdd, Nat.reduceSub, Nat.reduceMul, Nat.reduceBEq, Nat.reduceLT, Nat.reduceLeDiff, Nat.reduceMod, Nat.reducePow, List.reduceReplicate, UInt8.reduceOfNat, Int.reducePow, Int.reduceDiv, Int.reduceMod, Nat.reduceDiv, Int.reduceNeg, Int.reduceAdd, Int.reduceSub, Int.reduceMul, Int.reduceLE, Int.reduceLT, Int.reduceEq, Int.reduceToNat, reduceCtorEq, -List.reduceReplicate]
                exact Upd.now ⟨q - 1, by omega, k + 1, by omega, fun j h hj => by
                  by_cases e : j = k
                  · subst e
                    refine ⟨hnm, fun hm => ?_⟩
                    obtain ⟨t, ht, e⟩ := (mem_take_iff h).1 hm
                    exact hno2 t (by omega) ht e
                  · exact hno j h (by omega), rfl, rfl, rfl⟩
        · obtain rfl : i = d.names.length := by omega
          have hnok : namesOk d.names := ⟨h1d, fun i h => hno i h h⟩
          repeat' first
            | with_reducible refine Br.yes ?_
            | with_reducible refine Br.no ?_
            | with_reducible refine Br.dec (fun _ => ?_) (fun _ => ?_)
            | with_reducible refine Br.beqB (fun _ => ?_) (fun _ => ?_)
            | with_reducible refine Br.beqb (fun _ => ?_) (fun _ => ?_)
            | with_reducible refine Br.mk (fun _ => ?_) (fun _ => ?_)
            | with_reducible refine foundO.mk (fun _ _ => ?_) (fun _ => ?_)
            | with_reducible refine appV.zero ?_
            | with_reducible refine appV.own ?_
            | ((with_reducible refine NewB.mk fun nb hnb => ?_); have hnb1 := hnb.1.1; have hnb2 := hnb.1.2; try simp only [keys_cons, keys_app, keys_nil, NotIn_cons, NotIn_app, NotIn_nil, and_true] at hnb2)
            | ((with_reducible refine NewRow.mk fun nb nsp ncap hnb hncap => ?_); have hnb1 := hnb.1.1; have hnb2 := hnb.1.2; try simp only [keys_cons, keys_app, keys_nil, NotIn_cons, NotIn_app, NotIn_nil, and_true] at hnb2)
            | simp (dsimp := false) (implicitDefEqProofs := false) (disch := first | assumption | (simp only [List.mem_cons, List.mem_append, true_or, or_true, eq_self]; done) | omega | (with_reducible refine Row.adr (by assumption) ?_; simp only [List.length_map, List.length_take, List.length_drop]; omega) | (simp only [List.length_cons, List.length_nil, List.length_map, List.length_append, List.length_replicate, Nat.reduceAdd, true_and, and_true, and_self]; first | done | omega)) only [go_sem, ↓reduceIte, Nat.reduceEqDiff, Nat.reduceAdd, Nat.reduceSub, Nat.reduceMul, Nat.reduceBEq, Nat.reduceLT, Nat.reduceLeDiff, Nat.reduceMod, Nat.reducePow, List.reduceReplicate, UInt8.reduceOfNat, Int.reducePow, Int.reduceDiv, Int.reduceMod, Nat.reduceDiv, Int.reduceNeg, Int.reduceAdd, Int.reduceSub, Int.reduceMul, Int.reduceLE, Int.reduceLT, Int.reduceEq, Int.reduceToNat, reduceCtorEq, -List.reduceReplicate, List.toList_toArray, hCl, hCw, hCn, hCx, hCs, Row.obj hry, Row.obj hrn, Row.obj hrl, List.getElem_map]
          refine Tri.loopU tok [0, 1, 2, 3, 4, 5, 6, 7, 37, 42, 51, 54, 67, 70, 100, 104, 127] (by kernel_rfl) [1, 2, 3, 6] (fun q G' fr H' => ∃ s : Nat, s + q = d.next.length ∧ (∀ j, j < s → rowOk d j) ∧ G' = G3 ∧ H' = (b1, .cells C [] 27) :: H ∧ fr = [(1, .pointer (some ⟨b1, 0, none⟩)), (2, .bool false), (3, .int .i64 d.label.length), (6, .int .i64 (s : Nat))]) (d.next.length) ?_ ?_
          · exact Upd.now ⟨0, by omega, fun j h => by omega, rfl, rfl, rfl⟩
          · rintro q3 G5 fr H' hle5 hs5 ⟨s, hi3, hno3, rfl, rfl, rfl⟩
            have hsE := hs5
            try simp only [keys_cons, keys_app, keys_nil, Sep_cons, Sep_nil, NotIn_cons, NotIn_app, NotIn_nil, List.cons_append, List.nil_append, List.append_assoc, and_assoc, and_true, true_and] at hsE
            repeat (obtain ⟨hsx, hsE⟩ := hsE)
            by_cases hsl : s < d.next.length
            · have hsv : s < rs.length := by omega
              have hsL : s < d.label.length := by omega
              obtain ⟨b, c, e1, e2, e3⟩ := O2.rs s hsl hsv
              have hrm := hm2 _ (List.getElem_mem hsl)
              have had : Adr an := hrn.adr (by omega)
              have had2 : Adr al := hrl.adr (by rw [List.length_map]; omega)
              repeat' first
                | with_reducible refine Br.yes ?_
                | with_reducible refine Br.no ?_
                | with_reducible refine Br.dec (fun _ => ?_) (fun _ => ?_)
                | with_reducible refine Br.beqB (fun _ => ?_) (fun _ => ?_)
                | with_reducible refine Br.beqb (fun _ => ?_) (fun _ => ?_)
                | with_reducible refine Br.mk (fun _ => ?_) (fun _ => ?_)
                | with_reducible refine foundO.mk (fun _ _ => ?_) (fun _ => ?_)
                | with_reducible refine appV.zero ?_
                | with_reducible refine appV.own ?_
                | ((with_reducible refine NewB.mk fun nb hnb => ?_); have hnb1 := hnb.1.1; have hnb2 := hnb.1.2; try simp only [keys_cons, keys_app, keys_nil, NotIn_cons, NotIn_app, NotIn_nil, and_true] at hnb2)
                | ((with_reducible refine NewRow.mk fun nb nsp ncap hnb hncap => ?_); have hnb1 := hnb.1.1; have hnb2 := hnb.1.2; try simp only [keys_cons, keys_app, keys_nil, NotIn_cons, NotIn_app, NotIn_nil, and_true] at hnb2)
                | simp (dsimp := false) (implicitDefEqProofs := false) (disch := first | assumption | (simp only [List.mem_cons, List.mem_append, true_or, or_true, eq_self]; done) | omega | (with_reducible refine Row.adr (by assumption) ?_; simp only [List.length_map, List.length_take, List.length_drop]; omega) | (simp only [List.length_cons, List.length_nil, List.length_map, List.length_append, List.length_replicate, Nat.reduceAdd, true_and, and_true, and_self]; first | done | omega)) only [go_sem, ↓reduceIte, Nat.reduceEqDiff, Nat.reduceAdd, Nat.reduceSub, Nat.reduceMul, Nat.reduceBEq, Nat.reduceLT, Nat.reduceLeDiff, Nat.reduceMod, Nat.reducePow, List.reduceReplicate, UInt8.reduceOfNat, Int.reducePow, Int.reduceDiv, Int.reduceMod, Nat.reduceDiv, Int.reduceNeg, Int.reduceAdd, Int.reduceSub, Int.reduceMul, Int.reduceLE, Int.reduceLT, Int.reduceEq, Int.reduceToNat, reduceCtorEq, -List.reduceReplicate, List.toList_toArray, hCl, hCw, hCn, hCx, hCs, Row.obj hry, Row.obj hrn, Row.obj hrl, List.getElem_map, e1]
                | with_reducible refine Tri.drawM tok mixed [0, 1, 2, 3, 4, 5, 6, 7, 37, 42, 51, 54, 67, 70, 100, 104, 127] 17 [1, 4, 7, 11, 14, 19, 22, 24] (.op 0 .plain (.op 1 .held (.op 2 .plain (.op 3 .plain (.op 4 .held (.op 5 .plain (.op 6 .plain (.op 7 .held (.op 8 .plain (.op 9 .plain (.op 10 .plain (.op 11 .held (.op 12 .plain (.op 13 .plain (.op 14 .held (.op 15 .plain (.op 16 .plain (.op 17 .plain (.op 18 .plain (.op 19 .held (.op 20 .plain (.op 21 .plain (.op 22 .held (.op 23 .plain (.op 24 .held (.op 25 .plain (.op 26 .plain (.op 27 .plain .nil)))))))))))))))))))))))))))) (by kernel_rfl) _ (List.Sublist.refl _) ?_
              all_goals try (
                have hcontra : ¬ RightP d := fun h => by
                  obtain ⟨r1, r2, r3, r4⟩ := h.2.2.2.2.2.2 s hsl hsL
                  omega
                unfold UpdR
                refine Upd.leave (H' := H) (by intro fsum; first | exact Nat.le_refl _ | (simp only [List.map_append, List.map_cons, List.map_nil, List.sum_append, List.sum_cons, List.sum_nil, List.cons_append, List.nil_append]; omega)) ?_
                rw [boolOf_no hcontra] at hR
                exact fun _ hs => hR _ hle2 hs)
              obtain ⟨row, hrow⟩ : ∃ row, row = d.next[s] := ⟨_, rfl⟩
              have hrw : (row.length : Int) = d.width ∧ 0 ≤ d.label[s] ∧ d.label[s] ≤ d.names.length := by rw [hrow]; omega
              rw [← hrow] at e1 e2 e3 hrm
              refine Tri.loopU tok [0, 1, 2, 3, 4, 5, 6, 7, 37, 42, 51, 54, 67, 70, 100, 104, 127] (by kernel_rfl) [1, 2, 3, 6, 7] (fun q4 G' fr H' => ∃ k : Nat, k + q4 = row.length ∧ (∀ j (h : j < row.length), j < k → 0 ≤ row[j] ∧ row[j] < d.label.length) ∧ G' = G5 ∧ H' = (b1, .cells C [] 27) :: H ∧ fr = [(1, .pointer (some ⟨b1, 0, none⟩)), (2, .bool false), (3, .int .i64 d.label.length), (6, .int .i64 (s : Nat)), (7, .int .i64 (k : Nat))]) (row.length) ?_ ?_
              · exact Upd.now ⟨0, by omega, fun j _ h => by omega, rfl, rfl, rfl⟩
              · rintro q4 G6 fr H' hle6 hs6 ⟨k, hk, hno4, rfl, rfl, rfl⟩
                have hsE := hs6
                try simp only [keys_cons, keys_app, keys_nil, Sep_cons, Sep_nil, NotIn_cons, NotIn_app, NotIn_nil, List.cons_append, List.nil_append, List.append_assoc, and_assoc, and_true, true_and] at hsE
                repeat (obtain ⟨hsx, hsE⟩ := hsE)
                by_cases hkl : k < row.length
                · have had3 : Adr b := e2.adr (by rw [List.length_map]; omega)
                  repeat' first
                    | with_reducible refine Br.yes ?_
                    | with_reducible refine Br.no ?_
                    | with_reducible refine Br.dec (fun _ => ?_) (fun _ => ?_)
                    | with_reducible refine Br.beqB (fun _ => ?_) (fun _ => ?_)
                    | with_reducible refine Br.beqb (fun _ => ?_) (fun _ => ?_)
                    | with_reducible refine Br.mk (fun _ => ?_) (fun _ => ?_)
                    | with_reducible refine foundO.mk (fun _ _ => ?_) (fun _ => ?_)
                    | with_reducible refine appV.zero ?_
                    | with_reducible refine appV.own ?_
                    | ((with_reducible refine NewB.mk fun nb hnb => ?_); have hnb1 := hnb.1.1; have hnb2 := hnb.1.2; try simp only [keys_cons, keys_app, keys_nil, NotIn_cons, NotIn_app, NotIn_nil, and_true] at hnb2)
                    | ((with_reducible refine NewRow.mk fun nb nsp ncap hnb hncap => ?_); have hnb1 := hnb.1.1; have hnb2 := hnb.1.2; try simp only [keys_cons, keys_app, keys_nil, NotIn_cons, NotIn_app, NotIn_nil, and_true] at hnb2)
                    | simp (dsimp := false) (implicitDefEqProofs := false) (disch := first | assumption | (simp only [List.mem_cons, List.mem_append, true_or, or_true, eq_self]; done) | omega | (with_reducible refine Row.adr (by assumption) ?_; simp only [List.length_map, List.length_take, List.length_drop]; omega) | (simp only [List.length_cons, List.length_nil, List.length_map, List.length_append, List.length_replicate, Nat.reduceAdd, true_and, and_true, and_self]; first | done | omega)) only [go_sem, ↓reduceIte, Nat.reduceEqDiff, Nat.reduceAdd, Nat.reduceSub, Nat.reduceMul, Nat.reduceBEq, Nat.reduceLT, Nat.reduceLeDiff, Nat.reduceMod, Nat.reducePow, List.reduceReplicate, UInt8.reduceOfNat, Int.reducePow, Int.reduceDiv, Int.reduceMod, Nat.reduceDiv, Int.reduceNeg, Int.reduceAdd, Int.reduceSub, Int.reduceMul, Int.reduceLE, Int.reduceLT, Int.reduceEq, Int.reduceToNat, reduceCtorEq, -List.reduceReplicate, List.toList_toArray, hCl, hCw, hCn, hCx, hCs, Row.obj hry, Row.obj hrn, Row.obj hrl, List.getElem_map, e1, Row.obj e2]
                  all_goals try (exfalso; omega)
                  all_goals first
                    | (have hcontra : ¬ RightP d := fun h => by
                        obtain ⟨r1, r2, r3, r4⟩ := h.2.2.2.2.2.2 s hsl hsL
                        have := r4 row[k] (by rw [← hrow]; exact List.getElem_mem hkl)
                        omega
                       unfold UpdR
                       refine Upd.leave (H' := H) (by intro fsum; first | exact Nat.le_refl _ | (simp only [List.map_append, List.map_cons, List.map_nil, List.sum_append, List.sum_cons, List.sum_nil, List.cons_append, List.nil_append]; omega)) ?_
                       rw [boolOf_no hcontra] at hR
                       exact fun _ hs => hR _ hle2 hs)
                    | exact Upd.now ⟨q4 - 1, by omega, k + 1, by omega, fun j h hj => by
                        by_cases e : j = k
                        · subst e; omega
                        · exact hno4 j h (by omega), rfl, rfl, rfl⟩
                · obtain rfl : k = row.length := by omega
                  repeat' first
                    | with_reducible refine Br.yes ?_
                    | with_reducible refine Br.no ?_
                    | with_reducible refine Br.dec (fun _ => ?_) (fun _ => ?_)
                    | with_reducible refine Br.beqB (fun _ => ?_) (fun _ => ?_)
                    | with_reducible refine Br.beqb (fun _ => ?_) (fun _ => ?_)
                    | with_reducible refine Br.mk (fun _ => ?_) (fun _ => ?_)
                    | with_reducible refine foundO.mk (fun _ _ => ?_) (fun _ => ?_)
                    | with_reducible refine appV.zero ?_
                    | with_reducible refine appV.own ?_
                    | ((with_reducible refine NewB.mk fun nb hnb => ?_); have hnb1 := hnb.1.1; have hnb2 := hnb.1.2; try simp only [keys_cons, keys_app, keys_nil, NotIn_cons, NotIn_app, NotIn_nil, and_true] at hnb2)
                    | ((with_reducible refine NewRow.mk fun nb nsp ncap hnb hncap => ?_); have hnb1 := hnb.1.1; have hnb2 := hnb.1.2; try simp only [keys_cons, keys_app, keys_nil, NotIn_cons, NotIn_app, NotIn_nil, and_true] at hnb2)
                    | simp (dsimp := false) (implicitDefEqProofs := false) (disch := first | assumption | (simp only [List.mem_cons, List.mem_append, true_or, or_true, eq_self]; done) | omega | (with_reducible refine Row.adr (by assumption) ?_; simp only [List.length_map, List.length_take, List.length_drop]; omega) | (simp only [List.length_cons, List.length_nil, List.length_map, List.length_append, List.length_replicate, Nat.reduceAdd, true_and, and_true, and_self]; first | done | omega)) only [go_sem, ↓reduceIte, Nat.reduceEqDiff, Nat.reduceAdd, Nat.reduceSub, Nat.reduceMul, Nat.reduceBEq, Nat.reduceLT, Nat.reduceLeDiff, Nat.reduceMod, Nat.reducePow, List.reduceReplicate, UInt8.reduceOfNat, Int.reducePow, Int.reduceDiv, Int.reduceMod, Nat.reduceDiv, Int.reduceNeg, Int.reduceAdd, Int.reduceSub, Int.reduceMul, Int.reduceLE, Int.reduceLT, Int.reduceEq, Int.reduceToNat, reduceCtorEq, -List.reduceReplicate, List.toList_toArray, hCl, hCw, hCn, hCx, hCs, Row.obj hry, Row.obj hrn, Row.obj hrl, List.getElem_map]
                  all_goals try (exfalso; omega)
                  exact Upd.now ⟨q3 - 1, by omega, s + 1, by omega, fun j hj => by
                    by_cases e : j = s
                    · subst e
                      exact fun h1 h2 => ⟨by rw [← hrow]; omega, by omega, by omega, fun t ht => by
                        rw [← hrow] at ht
                        obtain ⟨j, hj, rfl⟩ := List.getElem_of_mem ht
                        exact hno4 j hj hj⟩
                    · exact hno3 j (by omega), rfl, rfl, rfl⟩
            · obtain rfl : s = d.next.length := by omega
              repeat' first
                | with_reducible refine Br.yes ?_
                | with_reducible refine Br.no ?_
                | with_reducible refine Br.dec (fun _ => ?_) (fun _ => ?_)
                | with_reducible refine Br.beqB (fun _ => ?_) (fun _ => ?_)
                | with_reducible refine Br.beqb (fun _ => ?_) (fun _ => ?_)
                | with_reducible refine Br.mk (fun _ => ?_) (fun _ => ?_)
                | with_reducible refine foundO.mk (fun _ _ => ?_) (fun _ => ?_)
                | with_reducible refine appV.zero ?_
                | with_reducible refine appV.own ?_
                | ((with_reducible refine NewB.mk fun nb hnb => ?_); have hnb1 := hnb.1.1; have hnb2 := hnb.1.2; try simp only [keys_cons, keys_app, keys_nil, NotIn_cons, NotIn_app, NotIn_nil, and_true] at hnb2)
                | ((with_reducible refine NewRow.mk fun nb nsp ncap hnb hncap => ?_); have hnb1 := hnb.1.1; have hnb2 := hnb.1.2; try simp only [keys_cons, keys_app, keys_nil, NotIn_cons, NotIn_app, NotIn_nil, and_true] at hnb2)
                | simp (dsimp := false) (implicitDefEqProofs := false) (disch := first | assumption | (simp only [List.mem_cons, List.mem_append, true_or, or_true, eq_self]; done) | omega | (with_reducible refine Row.adr (by assumption) ?_; simp only [List.length_map, List.length_take, List.length_drop]; omega) | (simp only [List.length_cons, List.length_nil, List.length_map, List.length_append, List.length_replicate, Nat.reduceAdd, true_and, and_true, and_self]; first | done | omega)) only [go_sem, ↓reduceIte, Nat.reduceEqDiff, Nat.reduceAdd, Nat.reduceSub, Nat.reduceMul, Nat.reduceBEq, Nat.reduceLT, Nat.reduceLeDiff, Nat.reduceMod, Nat.reducePow, List.reduceReplicate, UInt8.reduceOfNat, Int.reducePow, Int.reduceDiv, Int.reduceMod, Nat.reduceDiv, Int.reduceNeg, Int.reduceAdd, Int.reduceSub, Int.reduceMul, Int.reduceLE, Int.reduceLT, Int.reduceEq, Int.reduceToNat, reduceCtorEq, -List.reduceReplicate]
              unfold UpdR
              refine Upd.leave (H' := H) (by intro fsum; first | exact Nat.le_refl _ | (simp only [List.map_append, List.map_cons, List.map_nil, List.sum_append, List.sum_cons, List.sum_nil, List.cons_append, List.nil_append]; omega)) ?_
              rw [boolOf_yes (p := RightP d) ⟨h1a, h1b, h1c, hp.1, hp.2, hnok, fun s => by
                rcases Nat.lt_or_ge s d.next.length with h | h
                · exact hno3 s h
                · exact fun h2 => by omega⟩] at hR
              exact fun _ hs => hR _ hle2 hs
    · have hpf : (decide (nums d.of = d.of) && decide (((tabO d.of).length : Int) = d.width)) = false := by
        cases h : (decide (nums d.of = d.of) && decide (((tabO d.of).length : Int) = d.width)) with
        | false => rfl
        | true =>
          rw [Bool.and_eq_true, decide_eq_true_eq, decide_eq_true_eq] at h
          exact absurd h hp
      rw [hpf]
      repeat' first
        | with_reducible refine Br.yes ?_
        | with_reducible refine Br.no ?_
        | with_reducible refine Br.dec (fun _ => ?_) (fun _ => ?_)
        | with_reducible refine Br.beqB (fun _ => ?_) (fun _ => ?_)
        | with_reducible refine Br.beqb (fun _ => ?_) (fun _ => ?_)
        | with_reducible refine Br.mk (fun _ => ?_) (fun _ => ?_)
        | with_reducible refine foundO.mk (fun _ _ => ?_) (fun _ => ?_)
        | with_reducible refine appV.zero ?_
        | with_reducible refine appV.own ?_
        | ((with_reducible refine NewB.mk fun nb hnb => ?_); have hnb1 := hnb.1.1; have hnb2 := hnb.1.2; try simp only [keys_cons, keys_app, keys_nil, NotIn_cons, NotIn_app, NotIn_nil, and_true] at hnb2)
        | ((with_reducible refine NewRow.mk fun nb nsp ncap hnb hncap => ?_); have hnb1 := hnb.1.1; have hnb2 := hnb.1.2; try simp only [keys_cons, keys_app, keys_nil, NotIn_cons, NotIn_app, NotIn_nil, and_true] at hnb2)
        | simp (dsimp := false) (implicitDefEqProofs := false) (disch := first | assumption | (simp only [List.mem_cons, List.mem_append, true_or, or_true, eq_self]; done) | omega | (with_reducible refine Row.adr (by assumption) ?_; simp only [List.length_map, List.length_take, List.length_drop]; omega) | (simp only [List.length_cons, List.length_nil, List.length_map, List.length_append, List.length_replicate, Nat.reduceAdd, true_and, and_true, and_self]; first | done | omega)) only [go_sem, ↓reduceIte, Nat.reduceEqDiff, Nat.reduceAdd, Nat.reduceSub, Nat.reduceMul, Nat.reduceBEq, Nat.reduceLT, Nat.reduceLeDiff, Nat.reduceMod, Nat.reducePow, List.reduceReplicate, UInt8.reduceOfNat, Int.reducePow, Int.reduceDiv, Int.reduceMod, Nat.reduceDiv, Int.reduceNeg, Int.reduceAdd, Int.reduceSub, Int.reduceMul, Int.reduceLE, Int.reduceLT, Int.reduceEq, Int.reduceToNat, reduceCtorEq, -List.reduceReplicate]
      unfold UpdR
      refine Upd.leave (H' := H) (by intro fsum; first | exact Nat.le_refl _ | (simp only [List.map_append, List.map_cons, List.map_nil, List.sum_append, List.sum_cons, List.sum_nil, List.cons_append, List.nil_append]; omega)) ?_
      rw [boolOf_no fun h => hp ⟨h.2.2.2.1, h.2.2.2.2.1⟩] at hR
      exact fun _ hs => hR G2 hle2 hs
  · rw [boolOf_no fun h => h1 ⟨h.1, h.2.1, h.2.2.1, h.2.2.2.2.2.1.1⟩] at hR
    refine FnT.body tok [0, 1, 2, 3, 4, 5, 6, 7, 37, 42, 51, 54, 67, 70, 100, 104, 127] Try.func26 rfl (by kernel_rfl) (by kernel_rfl) (by show _ ≤ 128; simp) fun hsep => ?_
    rw [Try.results26]
    have hsE := hsep
    try simp only [keys_cons, keys_app, keys_nil, Sep_cons, Sep_nil, NotIn_cons, NotIn_app, NotIn_nil, List.cons_append, List.nil_append, List.append_assoc, and_assoc, and_true, true_and] at hsE
    repeat (obtain ⟨hsx, hsE⟩ := hsE)
    repeat' first
      | with_reducible refine Br.yes ?_
      | with_reducible refine Br.no ?_
      | with_reducible refine Br.dec (fun _ => ?_) (fun _ => ?_)
      | with_reducible refine Br.beqB (fun _ => ?_) (fun _ => ?_)
      | with_reducible refine Br.beqb (fun _ => ?_) (fun _ => ?_)
      | with_reducible refine Br.mk (fun _ => ?_) (fun _ => ?_)
      | with_reducible refine foundO.mk (fun _ _ => ?_) (fun _ => ?_)
      | with_reducible refine appV.zero ?_
      | with_reducible refine appV.own ?_
      | ((with_reducible refine NewB.mk fun nb hnb => ?_); have hnb1 := hnb.1.1; have hnb2 := hnb.1.2; try simp only [keys_cons, keys_app, keys_nil, NotIn_cons, NotIn_app, NotIn_nil, and_true] at hnb2)
      | ((with_reducible refine NewRow.mk fun nb nsp ncap hnb hncap => ?_); have hnb1 := hnb.1.1; have hnb2 := hnb.1.2; try simp only [keys_cons, keys_app, keys_nil, NotIn_cons, NotIn_app, NotIn_nil, and_true] at hnb2)
      | simp (dsimp := false) (implicitDefEqProofs := false) (disch := first | assumption | (simp only [List.mem_cons, List.mem_append, true_or, or_true, eq_self]; done) | omega | (with_reducible refine Row.adr (by assumption) ?_; simp only [List.length_map, List.length_take, List.length_drop]; omega) | (simp only [List.length_cons, List.length_nil, List.length_map, List.length_append, List.length_replicate, Nat.reduceAdd, true_and, and_true, and_self]; first | done | omega)) only [go_sem, ↓reduceIte, Nat.reduceEqDiff, Nat.reduceAdd, Nat.reduceSub, Nat.reduceMul, Nat.reduceBEq, Nat.reduceLT, Nat.reduceLeDiff, Nat.reduceMod, Nat.reducePow, List.reduceReplicate, UInt8.reduceOfNat, Int.reducePow, Int.reduceDiv, Int.reduceMod, Nat.reduceDiv, Int.reduceNeg, Int.reduceAdd, Int.reduceSub, Int.reduceMul, Int.reduceLE, Int.reduceLT, Int.reduceEq, Int.reduceToNat, reduceCtorEq, -List.reduceReplicate, List.toList_toArray, hCl, hCw, hCn, hCx, hCs, hCo]
    all_goals try (exfalso; omega)
    all_goals (
      unfold UpdR
      refine Upd.leave (H' := H) (by intro fsum; first | exact Nat.le_refl _ | (simp only [List.map_append, List.map_cons, List.map_nil, List.sum_append, List.sum_cons, List.sum_nil, List.cons_append, List.nil_append]; omega)) ?_
      exact fun _ hs => hR G (PLe.refl _) hs)
end Go.Proofs.Ytpagkndgjihbbaa
