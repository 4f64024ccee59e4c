/- The document's machine with some states alone. -/
import Derived.Test.YtlblohmjikopbaaWr
import Derived.Test.YtlblohmjikopbaaWp
import Derived.Test.YtlblohmjikopbaaWi
set_option linter.unusedSimpArgs false
set_option linter.unusedVariables false
namespace Go.Proofs.Ytlblohmjikopbaa
open Go Go.V Go.Proofs

theorem take260 {C : List Value} (h : C.length = 260) : List.take 260 C = C := List.take_of_length_le (by omega)
set_option maxHeartbeats 32000000 in
theorem rkeep_t {d : DfaT} (hsm : SmallD d) (hok : RightP d) {l : List Int} (hl : l.length ≤ 2000000) {G : PHeap} {H : Heap} {R : Value → PHeap → Heap → Prop} {v w : Value} (hv : IsD G d v) (hwl : Sl G (Value.int .i64) w l)
    (hR : ∀ G' v', PLe G G' → Sep G' (keys H) → IsD G' (keepR d l).1 v' → R (.tuple #[v', .int .i64 (keepR d l).2]) G' H) : FnT Try.prog 29 [v, w] G H R := by
  obtain ⟨C, an, al, ay, cn, cl, cs, rs, rfl, O⟩ := hv.opened
  obtain ⟨hm1, hm2, hm3, hm4, hm5⟩ := id hsm
  have hw0 := hwl
  obtain ⟨aw, cw, rfl, hroww, hcw⟩ := hwl
  have hCl := O.len
  have hCa := O.all
  have hCx := O.l
  obtain ⟨hk1, hk2, hk3, hk4, hk5, hk6, hk7⟩ := id hok
  have hl2 : ∀ a b c : Value, (cellsD d a b c).length = 260 := fun a b c => cellsD_len O.ofl _ _ _
  have ht2 : ∀ a b c : Value, List.take 260 (cellsD d a b c) = cellsD d a b c := fun a b c => cellsD_all O.ofl _ _ _
  have hputz : ∀ a b c : Value, splice zeroC 0 (cellsD d a b c) = cellsD d a b c := fun a b c => by
    unfold splice
    rw [List.take_zero, List.nil_append, List.drop_of_length_le (by rw [zeroC_len, hl2]; omega), List.append_nil]
  refine FnT.sep ?_
  by_cases hh : l.head? = some 0
  · have hpos : 0 < l.length := by
      rcases l with _ | ⟨x, l⟩
      · cases hh
      · simp
    have hl0 : l[0] = 0 := by
      rw [List.head?_eq_getElem?, List.getElem?_eq_getElem hpos] at hh
      exact Option.some.inj hh
    have hadw : Adr aw := hroww.adr (by rw [List.length_map]; omega)
    have hob : ∀ (H : Heap) (k : Value → Prop), objK G H (blk aw) (G (blk aw)) (ofs aw) k = k (.int .i64 0) := fun H k => by
      have := Row.obj hroww (i := 0) (by rw [List.length_map]; omega) H k
      rw [Nat.add_zero, List.getElem_map, hl0] at this
      exact this
    refine FnT.bodyS tok [0, 1, 2, 4, 5, 6, 7, 8, 9, 10, 11, 20, 32, 59, 64, 71, 88] (.seq .run (.seq .run (.seq .cut .cut))) Try.func29 rfl (by kernel_rfl) (by kernel_rfl) (by show _ ≤ 114; simp) fun hsep => ?_
    rw [Try.results29]
    have hsE := hsep
    try simp only [keys_cons, keys_app, keys_nil, Sep_cons, Sep_nil, NotIn_cons, NotIn_app, NotIn_nil, List.cons_append, List.nil_append, List.append_assoc, and_assoc, and_true, true_and] at hsE
    repeat (obtain ⟨hsx, hsE⟩ := hsE)
    repeat' first
      | with_reducible refine Br.yes ?_
      | with_reducible refine Br.no ?_
      | with_reducible refine Br.dec (fun _ => ?_) (fun _ => ?_)
      | with_reducible refine Br.beqB (fun _ => ?_) (fun _ => ?_)
      | with_reducible refine Br.beqb (fun _ => ?_) (fun _ => ?_)
      | with_reducible refine Br.mk (fun _ => ?_) (fun _ => ?_)
      | with_reducible refine foundO.mk (fun _ _ => ?_) (fun _ => ?_)
      | with_reducible refine appV.zero ?_
      | with_reducible refine appV.own ?_
      | ((with_reducible refine NewB.mk fun nb hnb => ?_); have hnb1 := hnb.1.1; have hnb2 := hnb.1.2; try simp only [keys_cons, keys_app, keys_nil, NotIn_cons, NotIn_app, NotIn_nil, and_true] at hnb2)
      | ((with_reducible refine NewRow.mk fun nb nsp ncap hnb hncap => ?_); have hnb1 := hnb.1.1; have hnb2 := hnb.1.2; try simp only [keys_cons, keys_app, keys_nil, NotIn_cons, NotIn_app, NotIn_nil, and_true] at hnb2)
      | simp (dsimp := false) (implicitDefEqProofs := false) (disch := first | assumption | (simp only [List.mem_cons, List.mem_append, true_or, or_true, eq_self]; done) | omega | (with_reducible refine Row.adr (by assumption) ?_; simp only [List.length_map, List.length_take, List.length_drop]; omega) | (simp only [List.length_cons, List.length_nil, List.length_map, List.length_append, List.length_replicate, Nat.reduceAdd, true_and, and_true, and_self]; first | done | omega)) only [go_sem, ↓reduceIte, Nat.reduceEqDiff, Nat.reduceAdd, Nat.reduceSub, Nat.reduceMul, Nat.reduceBEq, Nat.reduceLT, Nat.reduceLeDiff, Nat.reduceMod, Nat.reducePow, List.reduceReplicate, UInt8.reduceOfNat, Int.reducePow, Int.reduceDiv, Int.reduceMod, Nat.reduceDiv, Int.reduceNeg, Int.reduceAdd, Int.reduceSub, Int.reduceMul, Int.reduceLE, Int.reduceLT, Int.reduceEq, Int.reduceToNat, reduceCtorEq, -List.reduceReplicate, List.toList_toArray, hCl, hCa, hCx, hob]
    all_goals try (exfalso; omega)
    rename_i b2 hb20 hb21 hb22
    obtain ⟨b4, e0⟩ : ∃ x, x = nb := ⟨_, rfl⟩
    subst e0
    refine Tri.live [0, 1, 2, 4, 5] ?_
    refine Tri.isPiece [1, 1, 0] Try.f29 (by kernel_rfl) ?_
    refine Tri.onlyN (rkp3_t hsm O) fun G4 l4 H4 hle4 hs4 hM => ?_
    obtain ⟨b7, vs, _, hvs, hfr, rfl⟩ := hM
    simp only [go_sem]
    refine Tri.live [0, 1, 2, 4, 5, 6] ?_
    rw [hfr]
    have hsE := hs4
    try simp only [keys_cons, keys_app, keys_nil, Sep_cons, Sep_nil, NotIn_cons, NotIn_app, NotIn_nil, List.cons_append, List.nil_append, List.append_assoc, and_assoc, and_true, true_and] at hsE
    repeat (obtain ⟨hsx, hsE⟩ := hsE)
    have O4 := O.mono hle4
    obtain ⟨ay4, cy4, rfl, hr4y, hcy4⟩ := id hvs
    have hrow4 := hroww.mono hle4
    have hsl4 := hw0.mono hle4
    refine Tri.run tok [0, 1, 2, 4, 5, 6, 7, 8, 9, 10, 11, 20, 32, 59, 64, 71, 88] (by kernel_rfl) ?_
    repeat' first
      | with_reducible refine Br.yes ?_
      | with_reducible refine Br.no ?_
      | with_reducible refine Br.dec (fun _ => ?_) (fun _ => ?_)
      | with_reducible refine Br.beqB (fun _ => ?_) (fun _ => ?_)
      | with_reducible refine Br.beqb (fun _ => ?_) (fun _ => ?_)
      | with_reducible refine Br.mk (fun _ => ?_) (fun _ => ?_)
      | with_reducible refine foundO.mk (fun _ _ => ?_) (fun _ => ?_)
      | with_reducible refine appV.zero ?_
      | with_reducible refine appV.own ?_
      | ((with_reducible refine NewB.mk fun nb hnb => ?_); have hnb1 := hnb.1.1; have hnb2 := hnb.1.2; try simp only [keys_cons, keys_app, keys_nil, NotIn_cons, NotIn_app, NotIn_nil, and_true] at hnb2)
      | ((with_reducible refine NewRow.mk fun nb nsp ncap hnb hncap => ?_); have hnb1 := hnb.1.1; have hnb2 := hnb.1.2; try simp only [keys_cons, keys_app, keys_nil, NotIn_cons, NotIn_app, NotIn_nil, and_true] at hnb2)
      | simp (dsimp := false) (implicitDefEqProofs := false) (disch := first | assumption | (simp only [List.mem_cons, List.mem_append, true_or, or_true, eq_self]; done) | omega | (with_reducible refine Row.adr (by assumption) ?_; simp only [List.length_map, List.length_take, List.length_drop]; omega) | (simp only [List.length_cons, List.length_nil, List.length_map, List.length_append, List.length_replicate, Nat.reduceAdd, true_and, and_true, and_self]; first | done | omega)) only [go_sem, ↓reduceIte, Nat.reduceEqDiff, Nat.reduceAdd, Nat.reduceSub, Nat.reduceMul, Nat.reduceBEq, Nat.reduceLT, Nat.reduceLeDiff, Nat.reduceMod, Nat.reducePow, List.reduceReplicate, UInt8.reduceOfNat, Int.reducePow, Int.reduceDiv, Int.reduceMod, Nat.reduceDiv, Int.reduceNeg, Int.reduceAdd, Int.reduceSub, Int.reduceMul, Int.reduceLE, Int.reduceLT, Int.reduceEq, Int.reduceToNat, reduceCtorEq, -List.reduceReplicate, List.toList_toArray]
    refine Tri.loopU tok [0, 1, 2, 4, 5, 6, 7, 8, 9, 10, 11, 20, 32, 59, 64, 71, 88] (by kernel_rfl) [0, 1, 2, 4, 5, 6, 7] (fun q G' fr H' => ∃ i : Nat, i + q = l.length ∧ OnceN d.label.length (l.take i) ∧ G' = G4 ∧ H' = (b7, .cells (cellsD d (.slice none 0 0) (.slice none 0 0) (.slice ay4 d.names.length cy4)) [] 27) :: (b4, .cells zeroC [] 27) :: (b2, .cells C [] 27) :: H ∧ fr = [(0, .agg (List.toArray C)), (1, .slice aw l.length cw), (2, .pointer (some ⟨b2, 0, none⟩)), (4, .pointer (some ⟨b4, 0, none⟩)), (5, .int .i64 0), (6, .pointer (some ⟨b7, 0, none⟩)), (7, .int .i64 (i : Nat))]) (l.length) ?_ ?_
    · refine Upd.now ?_
      exact ⟨0, by omega, ⟨by rw [List.take_zero]; exact List.nodup_nil, fun x hx => by rw [List.take_zero] at hx; cases hx⟩, rfl, rfl, rfl⟩
    · rintro q0 G5 fr H' hle5 hs5 ⟨i, hiq, hOi, rfl, rfl, rfl⟩
      have hsE := hs5
      try simp only [keys_cons, keys_app, keys_nil, Sep_cons, Sep_nil, NotIn_cons, NotIn_app, NotIn_nil, List.cons_append, List.nil_append, List.append_assoc, and_assoc, and_true, true_and] at hsE
      repeat (obtain ⟨hsx, hsE⟩ := hsE)
      by_cases hil : i < l.length
      · have htk := List.take_succ_eq_append_getElem hil
        obtain ⟨p, hp, hpi, _, hpn⟩ := place_first hil
        have hfp := findF_some hp
        by_cases hr : 0 ≤ l[i] ∧ l[i] < d.label.length
        · by_cases hin : l[i] ∈ l.take i
          · have hno : ¬ KeepOk d l := fun h => by
              have h2 := h.1.1.1.sublist (List.take_sublist (i + 1) l)
              rw [htk, List.nodup_append] at h2
              exact h2.2.2 _ hin _ (List.mem_singleton.2 rfl) rfl
            have hpi2 : p ≠ i := fun e => (hpn.1 e) hin
            rw [keepR_not hok hno] at hR
            repeat' first
              | with_reducible refine Br.yes ?_
              | with_reducible refine Br.no ?_
              | with_reducible refine Br.dec (fun _ => ?_) (fun _ => ?_)
              | with_reducible refine Br.beqB (fun _ => ?_) (fun _ => ?_)
              | with_reducible refine Br.beqb (fun _ => ?_) (fun _ => ?_)
              | with_reducible refine Br.mk (fun _ => ?_) (fun _ => ?_)
              | with_reducible refine foundO.mk (fun _ _ => ?_) (fun _ => ?_)
              | with_reducible refine appV.zero ?_
              | with_reducible refine appV.own ?_
              | ((with_reducible refine NewB.mk fun nb hnb => ?_); have hnb1 := hnb.1.1; have hnb2 := hnb.1.2; try simp only [keys_cons, keys_app, keys_nil, NotIn_cons, NotIn_app, NotIn_nil, and_true] at hnb2)
              | ((with_reducible refine NewRow.mk fun nb nsp ncap hnb hncap => ?_); have hnb1 := hnb.1.1; have hnb2 := hnb.1.2; try simp only [keys_cons, keys_app, keys_nil, NotIn_cons, NotIn_app, NotIn_nil, and_true] at hnb2)
              | simp (dsimp := false) (implicitDefEqProofs := false) (disch := first | assumption | (simp only [List.mem_cons, List.mem_append, true_or, or_true, eq_self]; done) | omega | (with_reducible refine Row.adr (by assumption) ?_; simp only [List.length_map, List.length_take, List.length_drop]; omega) | (simp only [List.length_cons, List.length_nil, List.length_map, List.length_append, List.length_replicate, Nat.reduceAdd, true_and, and_true, and_self]; first | done | omega)) only [go_sem, ↓reduceIte, Nat.reduceEqDiff, Nat.reduceAdd, Nat.reduceSub, Nat.reduceMul, Nat.reduceBEq, Nat.reduceLT, Nat.reduceLeDiff, Nat.reduceMod, Nat.reducePow, List.reduceReplicate, UInt8.reduceOfNat, Int.reducePow, Int.reduceDiv, Int.reduceMod, Nat.reduceDiv, Int.reduceNeg, Int.reduceAdd, Int.reduceSub, Int.reduceMul, Int.reduceLE, Int.reduceLT, Int.reduceEq, Int.reduceToNat, reduceCtorEq, -List.reduceReplicate, hCl, hCx, Row.obj hrow4, List.getElem_map]
              | with_reducible refine Tri.drawS tok mixed [0, 1, 2, 4, 5, 6, 7, 8, 9, 10, 11, 20, 32, 59, 64, 71, 88] 7 [3, 9, 11, 20] (.op 0 .plain (.op 1 .plain (.op 2 .plain (.op 3 .held (.op 4 .plain (.op 5 .plain (.op 6 .plain (.op 7 .plain (.op 8 .plain (.op 9 .held (.op 10 .plain (.op 11 .held (.op 12 .plain (.op 13 .plain (.op 14 .plain (.op 15 .plain (.op 16 .plain (.op 17 .plain (.op 18 .plain (.op 19 .plain (.op 20 .held (.op 22 .plain (.op 21 .keeps (.op 23 .plain (.op 24 .plain .nil))))))))))))))))))))))))) (by kernel_rfl) [(b2, .cells C [] 27)] (by intro fsum; first | exact Nat.le_refl _ | (simp only [List.map_append, List.map_cons, List.map_nil, List.sum_append, List.sum_cons, List.sum_nil, List.cons_append, List.nil_append]; omega)) ?_
            all_goals try (exfalso; omega)
            refine rplace_t hl hsl4 ?_
            rw [hfp]
            repeat' first
              | with_reducible refine Br.yes ?_
              | with_reducible refine Br.no ?_
              | with_reducible refine Br.dec (fun _ => ?_) (fun _ => ?_)
              | with_reducible refine Br.beqB (fun _ => ?_) (fun _ => ?_)
              | with_reducible refine Br.beqb (fun _ => ?_) (fun _ => ?_)
              | with_reducible refine Br.mk (fun _ => ?_) (fun _ => ?_)
              | with_reducible refine foundO.mk (fun _ _ => ?_) (fun _ => ?_)
              | with_reducible refine appV.zero ?_
              | with_reducible refine appV.own ?_
              | ((with_reducible refine NewB.mk fun nb hnb => ?_); have hnb1 := hnb.1.1; have hnb2 := hnb.1.2; try simp only [keys_cons, keys_app, keys_nil, NotIn_cons, NotIn_app, NotIn_nil, and_true] at hnb2)
              | ((with_reducible refine NewRow.mk fun nb nsp ncap hnb hncap => ?_); have hnb1 := hnb.1.1; have hnb2 := hnb.1.2; try simp only [keys_cons, keys_app, keys_nil, NotIn_cons, NotIn_app, NotIn_nil, and_true] at hnb2)
              | simp (dsimp := false) (implicitDefEqProofs := false) (disch := first | assumption | (simp only [List.mem_cons, List.mem_append, true_or, or_true, eq_self]; done) | omega | (with_reducible refine Row.adr (by assumption) ?_; simp only [List.length_map, List.length_take, List.length_drop]; omega) | (simp only [List.length_cons, List.length_nil, List.length_map, List.length_append, List.length_replicate, Nat.reduceAdd, true_and, and_true, and_self]; first | done | omega)) only [go_sem, ↓reduceIte, Nat.reduceEqDiff, Nat.reduceAdd, Nat.reduceSub, Nat.reduceMul, Nat.reduceBEq, Nat.reduceLT, Nat.reduceLeDiff, Nat.reduceMod, Nat.reducePow, List.reduceReplicate, UInt8.reduceOfNat, Int.reducePow, Int.reduceDiv, Int.reduceMod, Nat.reduceDiv, Int.reduceNeg, Int.reduceAdd, Int.reduceSub, Int.reduceMul, Int.reduceLE, Int.reduceLT, Int.reduceEq, Int.reduceToNat, reduceCtorEq, -List.reduceReplicate, hCl, hCx, zeroC_len, zeroC_one, zeroC_take, zeroC_put]
            all_goals try (exfalso; omega)
            unfold UpdR
            refine Upd.leave (H' := H) (by intro fsum; first | exact Nat.le_refl _ | (simp only [List.map_append, List.map_cons, List.map_nil, List.sum_append, List.sum_cons, List.sum_nil, List.cons_append, List.nil_append]; omega)) ?_
            exact fun _ hs => hR _ _ hle4 hs (zeroD_is _)
          · have hpi2 : p = i := hpn.2 hin
            have hO2 : OnceN d.label.length (l.take (i + 1)) := by
              have h3 := hOi.add1 hr
              unfold add1 at h3
              rw [if_neg hin, ← htk] at h3
              exact h3
            repeat' first
              | with_reducible refine Br.yes ?_
              | with_reducible refine Br.no ?_
              | with_reducible refine Br.dec (fun _ => ?_) (fun _ => ?_)
              | with_reducible refine Br.beqB (fun _ => ?_) (fun _ => ?_)
              | with_reducible refine Br.beqb (fun _ => ?_) (fun _ => ?_)
              | with_reducible refine Br.mk (fun _ => ?_) (fun _ => ?_)
              | with_reducible refine foundO.mk (fun _ _ => ?_) (fun _ => ?_)
              | with_reducible refine appV.zero ?_
              | with_reducible refine appV.own ?_
              | ((with_reducible refine NewB.mk fun nb hnb => ?_); have hnb1 := hnb.1.1; have hnb2 := hnb.1.2; try simp only [keys_cons, keys_app, keys_nil, NotIn_cons, NotIn_app, NotIn_nil, and_true] at hnb2)
              | ((with_reducible refine NewRow.mk fun nb nsp ncap hnb hncap => ?_); have hnb1 := hnb.1.1; have hnb2 := hnb.1.2; try simp only [keys_cons, keys_app, keys_nil, NotIn_cons, NotIn_app, NotIn_nil, and_true] at hnb2)
              | simp (dsimp := false) (implicitDefEqProofs := false) (disch := first | assumption | (simp only [List.mem_cons, List.mem_append, true_or, or_true, eq_self]; done) | omega | (with_reducible refine Row.adr (by assumption) ?_; simp only [List.length_map, List.length_take, List.length_drop]; omega) | (simp only [List.length_cons, List.length_nil, List.length_map, List.length_append, List.length_replicate, Nat.reduceAdd, true_and, and_true, and_self]; first | done | omega)) only [go_sem, ↓reduceIte, Nat.reduceEqDiff, Nat.reduceAdd, Nat.reduceSub, Nat.reduceMul, Nat.reduceBEq, Nat.reduceLT, Nat.reduceLeDiff, Nat.reduceMod, Nat.reducePow, List.reduceReplicate, UInt8.reduceOfNat, Int.reducePow, Int.reduceDiv, Int.reduceMod, Nat.reduceDiv, Int.reduceNeg, Int.reduceAdd, Int.reduceSub, Int.reduceMul, Int.reduceLE, Int.reduceLT, Int.reduceEq, Int.reduceToNat, reduceCtorEq, -List.reduceReplicate, hCl, hCx, Row.obj hrow4, List.getElem_map]
              | with_reducible refine Tri.drawS tok mixed [0, 1, 2, 4, 5, 6, 7, 8, 9, 10, 11, 20, 32, 59, 64, 71, 88] 7 [3, 9, 11, 20] (.op 0 .plain (.op 1 .plain (.op 2 .plain (.op 3 .held (.op 4 .plain (.op 5 .plain (.op 6 .plain (.op 7 .plain (.op 8 .plain (.op 9 .held (.op 10 .plain (.op 11 .held (.op 12 .plain (.op 13 .plain (.op 14 .plain (.op 15 .plain (.op 16 .plain (.op 17 .plain (.op 18 .plain (.op 19 .plain (.op 20 .held (.op 22 .plain (.op 21 .keeps (.op 23 .plain (.op 24 .plain .nil))))))))))))))))))))))))) (by kernel_rfl) [(b2, .cells C [] 27)] (by intro fsum; first | exact Nat.le_refl _ | (simp only [List.map_append, List.map_cons, List.map_nil, List.sum_append, List.sum_cons, List.sum_nil, List.cons_append, List.nil_append]; omega)) ?_
            all_goals try (exfalso; omega)
            refine rplace_t hl hsl4 ?_
            rw [hfp, hpi2]
            repeat' first
              | with_reducible refine Br.yes ?_
              | with_reducible refine Br.no ?_
              | with_reducible refine Br.dec (fun _ => ?_) (fun _ => ?_)
              | with_reducible refine Br.beqB (fun _ => ?_) (fun _ => ?_)
              | with_reducible refine Br.beqb (fun _ => ?_) (fun _ => ?_)
              | with_reducible refine Br.mk (fun _ => ?_) (fun _ => ?_)
              | with_reducible refine foundO.mk (fun _ _ => ?_) (fun _ => ?_)
              | with_reducible refine appV.zero ?_
              | with_reducible refine appV.own ?_
              | ((with_reducible refine NewB.mk fun nb hnb => ?_); have hnb1 := hnb.1.1; have hnb2 := hnb.1.2; try simp only [keys_cons, keys_app, keys_nil, NotIn_cons, NotIn_app, NotIn_nil, and_true] at hnb2)
              | ((with_reducible refine NewRow.mk fun nb nsp ncap hnb hncap => ?_); have hnb1 := hnb.1.1; have hnb2 := hnb.1.2; try simp only [keys_cons, keys_app, keys_nil, NotIn_cons, NotIn_app, NotIn_nil, and_true] at hnb2)
              | simp (dsimp := false) (implicitDefEqProofs := false) (disch := first | assumption | (simp only [List.mem_cons, List.mem_append, true_or, or_true, eq_self]; done) | omega | (with_reducible refine Row.adr (by assumption) ?_; simp only [List.length_map, List.length_take, List.length_drop]; omega) | (simp only [List.length_cons, List.length_nil, List.length_map, List.length_append, List.length_replicate, Nat.reduceAdd, true_and, and_true, and_self]; first | done | omega)) only [go_sem, ↓reduceIte, Nat.reduceEqDiff, Nat.reduceAdd, Nat.reduceSub, Nat.reduceMul, Nat.reduceBEq, Nat.reduceLT, Nat.reduceLeDiff, Nat.reduceMod, Nat.reducePow, List.reduceReplicate, UInt8.reduceOfNat, Int.reducePow, Int.reduceDiv, Int.reduceMod, Nat.reduceDiv, Int.reduceNeg, Int.reduceAdd, Int.reduceSub, Int.reduceMul, Int.reduceLE, Int.reduceLT, Int.reduceEq, Int.reduceToNat, reduceCtorEq, -List.reduceReplicate, hCl, hCx]
            all_goals try (exfalso; omega)
            refine Upd.now ?_
            exact ⟨q0 - 1, by omega, i + 1, by omega, hO2, rfl, rfl, rfl⟩
        · have hno : ¬ KeepOk d l := fun h => hr (h.1.1.2 _ (List.getElem_mem hil))
          rw [keepR_not hok hno] at hR
          repeat' first
            | with_reducible refine Br.yes ?_
            | with_reducible refine Br.no ?_
            | with_reducible refine Br.dec (fun _ => ?_) (fun _ => ?_)
            | with_reducible refine Br.beqB (fun _ => ?_) (fun _ => ?_)
            | with_reducible refine Br.beqb (fun _ => ?_) (fun _ => ?_)
            | with_reducible refine Br.mk (fun _ => ?_) (fun _ => ?_)
            | with_reducible refine foundO.mk (fun _ _ => ?_) (fun _ => ?_)
            | with_reducible refine appV.zero ?_
            | with_reducible refine appV.own ?_
            | ((with_reducible refine NewB.mk fun nb hnb => ?_); have hnb1 := hnb.1.1; have hnb2 := hnb.1.2; try simp only [keys_cons, keys_app, keys_nil, NotIn_cons, NotIn_app, NotIn_nil, and_true] at hnb2)
            | ((with_reducible refine NewRow.mk fun nb nsp ncap hnb hncap => ?_); have hnb1 := hnb.1.1; have hnb2 := hnb.1.2; try simp only [keys_cons, keys_app, keys_nil, NotIn_cons, NotIn_app, NotIn_nil, and_true] at hnb2)
            | simp (dsimp := false) (implicitDefEqProofs := false) (disch := first | assumption | (simp only [List.mem_cons, List.mem_append, true_or, or_true, eq_self]; done) | omega | (with_reducible refine Row.adr (by assumption) ?_; simp only [List.length_map, List.length_take, List.length_drop]; omega) | (simp only [List.length_cons, List.length_nil, List.length_map, List.length_append, List.length_replicate, Nat.reduceAdd, true_and, and_true, and_self]; first | done | omega)) only [go_sem, ↓reduceIte, Nat.reduceEqDiff, Nat.reduceAdd, Nat.reduceSub, Nat.reduceMul, Nat.reduceBEq, Nat.reduceLT, Nat.reduceLeDiff, Nat.reduceMod, Nat.reducePow, List.reduceReplicate, UInt8.reduceOfNat, Int.reducePow, Int.reduceDiv, Int.reduceMod, Nat.reduceDiv, Int.reduceNeg, Int.reduceAdd, Int.reduceSub, Int.reduceMul, Int.reduceLE, Int.reduceLT, Int.reduceEq, Int.reduceToNat, reduceCtorEq, -List.reduceReplicate, hCl, hCx, Row.obj hrow4, List.getElem_map, zeroC_len, zeroC_one, zeroC_take, zeroC_put]
            | with_reducible refine Tri.drawS tok mixed [0, 1, 2, 4, 5, 6, 7, 8, 9, 10, 11, 20, 32, 59, 64, 71, 88] 7 [3, 9, 11, 20] (.op 0 .plain (.op 1 .plain (.op 2 .plain (.op 3 .held (.op 4 .plain (.op 5 .plain (.op 6 .plain (.op 7 .plain (.op 8 .plain (.op 9 .held (.op 10 .plain (.op 11 .held (.op 12 .plain (.op 13 .plain (.op 14 .plain (.op 15 .plain (.op 16 .plain (.op 17 .plain (.op 18 .plain (.op 19 .plain (.op 20 .held (.op 22 .plain (.op 21 .keeps (.op 23 .plain (.op 24 .plain .nil))))))))))))))))))))))))) (by kernel_rfl) [(b2, .cells C [] 27)] (by intro fsum; first | exact Nat.le_refl _ | (simp only [List.map_append, List.map_cons, List.map_nil, List.sum_append, List.sum_cons, List.sum_nil, List.cons_append, List.nil_append]; omega)) ?_
          all_goals try (exfalso; omega)
          all_goals unfold UpdR
          all_goals refine Upd.leave (H' := H) (by intro fsum; first | exact Nat.le_refl _ | (simp only [List.map_append, List.map_cons, List.map_nil, List.sum_append, List.sum_cons, List.sum_nil, List.cons_append, List.nil_append]; omega)) ?_
          all_goals exact fun _ hs => hR _ _ hle4 hs (zeroD_is _)
      · obtain rfl : i = l.length := by omega
        rw [List.take_length] at hOi
        have hO := hOi
        have hln : l.length ≤ d.label.length := hO.len
        repeat' first
          | with_reducible refine Br.yes ?_
          | with_reducible refine Br.no ?_
          | with_reducible refine Br.dec (fun _ => ?_) (fun _ => ?_)
          | with_reducible refine Br.beqB (fun _ => ?_) (fun _ => ?_)
          | with_reducible refine Br.beqb (fun _ => ?_) (fun _ => ?_)
          | with_reducible refine Br.mk (fun _ => ?_) (fun _ => ?_)
          | with_reducible refine foundO.mk (fun _ _ => ?_) (fun _ => ?_)
          | with_reducible refine appV.zero ?_
          | with_reducible refine appV.own ?_
          | ((with_reducible refine NewB.mk fun nb hnb => ?_); have hnb1 := hnb.1.1; have hnb2 := hnb.1.2; try simp only [keys_cons, keys_app, keys_nil, NotIn_cons, NotIn_app, NotIn_nil, and_true] at hnb2)
          | ((with_reducible refine NewRow.mk fun nb nsp ncap hnb hncap => ?_); have hnb1 := hnb.1.1; have hnb2 := hnb.1.2; try simp only [keys_cons, keys_app, keys_nil, NotIn_cons, NotIn_app, NotIn_nil, and_true] at hnb2)
          | simp (dsimp := false) (implicitDefEqProofs := false) (disch := first | assumption | (simp only [List.mem_cons, List.mem_append, true_or, or_true, eq_self]; done) | omega | (with_reducible refine Row.adr (by assumption) ?_; simp only [List.length_map, List.length_take, List.length_drop]; omega) | (simp only [List.length_cons, List.length_nil, List.length_map, List.length_append, List.length_replicate, Nat.reduceAdd, true_and, and_true, and_self]; first | done | omega)) only [go_sem, ↓reduceIte, Nat.reduceEqDiff, Nat.reduceAdd, Nat.reduceSub, Nat.reduceMul, Nat.reduceBEq, Nat.reduceLT, Nat.reduceLeDiff, Nat.reduceMod, Nat.reducePow, List.reduceReplicate, UInt8.reduceOfNat, Int.reducePow, Int.reduceDiv, Int.reduceMod, Nat.reduceDiv, Int.reduceNeg, Int.reduceAdd, Int.reduceSub, Int.reduceMul, Int.reduceLE, Int.reduceLT, Int.reduceEq, Int.reduceToNat, reduceCtorEq, -List.reduceReplicate]
        all_goals try (exfalso; omega)
        refine Tri.loopS tok [0, 1, 2, 4, 5, 6, 7, 8, 9, 10, 11, 20, 32, 59, 64, 71, 88] (.seq .run (.seq (.block .cut) .cut)) (by kernel_rfl) [0, 1, 2, 4, 5, 6, 8] (fun q G' fr H' => ∃ (j : Nat) (vn vl : Value) (kn kl : Heap), j + q = l.length ∧ PLe G5 G' ∧ (∀ i (h : i < l.length), i < j → fineK d l l[i]) ∧ RowK d l G' j vn kn ∧ LabK d l j vl kl ∧ H' = (b7, .cells (cellsD d vn vl (.slice ay4 d.names.length cy4)) [] 27) :: (b2, .cells C [] 27) :: (kn ++ (kl ++ ((b4, .cells zeroC [] 27) :: H))) ∧ fr = [(0, .agg (List.toArray C)), (1, .slice aw l.length cw), (2, .pointer (some ⟨b2, 0, none⟩)), (4, .pointer (some ⟨b4, 0, none⟩)), (5, .int .i64 0), (6, .pointer (some ⟨b7, 0, none⟩)), (8, .int .i64 (j : Nat))]) (l.length) ?_ ?_
        · exact Upd.go (H' := (b7, .cells (cellsD d (.slice none 0 0) (.slice none 0 0) (.slice ay4 d.names.length cy4)) [] 27) :: (b2, .cells C [] 27) :: ([] ++ ([] ++ ((b4, .cells zeroC [] 27) :: H)))) (by intro fsum; first | exact Nat.le_refl _ | (simp only [List.map_append, List.map_cons, List.map_nil, List.sum_append, List.sum_cons, List.sum_nil, List.cons_append, List.nil_append]; omega)) (Upd.now ⟨0, _, _, [], [], by omega, PLe.refl _, fun i h h2 => by omega, .inl ⟨rfl, rfl, rfl⟩, .inl ⟨rfl, rfl, rfl⟩, rfl, rfl⟩)
        · rintro q G6 fr H' hle6 hs6 ⟨j, vn, vl, kn, kl, hj, hleG6, hfine, hro, hlo, rfl, rfl⟩
          have O6 := O4.mono hleG6
          have k6 := hle4.trans hleG6
          by_cases hjl : j < l.length
          · by_cases hfj : fineK d l l[j]
            · repeat' first
                | with_reducible refine Br.yes ?_
                | with_reducible refine Br.no ?_
                | with_reducible refine Br.dec (fun _ => ?_) (fun _ => ?_)
                | with_reducible refine Br.beqB (fun _ => ?_) (fun _ => ?_)
                | with_reducible refine Br.beqb (fun _ => ?_) (fun _ => ?_)
                | with_reducible refine Br.mk (fun _ => ?_) (fun _ => ?_)
                | with_reducible refine foundO.mk (fun _ _ => ?_) (fun _ => ?_)
                | with_reducible refine appV.zero ?_
                | with_reducible refine appV.own ?_
                | ((with_reducible refine NewB.mk fun nb hnb => ?_); have hnb1 := hnb.1.1; have hnb2 := hnb.1.2; try simp only [keys_cons, keys_app, keys_nil, NotIn_cons, NotIn_app, NotIn_nil, and_true] at hnb2)
                | ((with_reducible refine NewRow.mk fun nb nsp ncap hnb hncap => ?_); have hnb1 := hnb.1.1; have hnb2 := hnb.1.2; try simp only [keys_cons, keys_app, keys_nil, NotIn_cons, NotIn_app, NotIn_nil, and_true] at hnb2)
                | simp (dsimp := false) (implicitDefEqProofs := false) (disch := first | assumption | (simp only [List.mem_cons, List.mem_append, true_or, or_true, eq_self]; done) | omega | (with_reducible refine Row.adr (by assumption) ?_; simp only [List.length_map, List.length_take, List.length_drop]; omega) | (simp only [List.length_cons, List.length_nil, List.length_map, List.length_append, List.length_replicate, Nat.reduceAdd, true_and, and_true, and_self]; first | done | omega)) only [go_sem, ↓reduceIte, Nat.reduceEqDiff, Nat.reduceAdd, Nat.reduceSub, Nat.reduceMul, Nat.reduceBEq, Nat.reduceLT, Nat.reduceLeDiff, Nat.reduceMod, Nat.reducePow, List.reduceReplicate, UInt8.reduceOfNat, Int.reducePow, Int.reduceDiv, Int.reduceMod, Nat.reduceDiv, Int.reduceNeg, Int.reduceAdd, Int.reduceSub, Int.reduceMul, Int.reduceLE, Int.reduceLT, Int.reduceEq, Int.reduceToNat, reduceCtorEq, -List.reduceReplicate, List.toList_toArray]
              refine Tri.live [0, 1, 2, 4, 5, 6, 8] ?_
              refine Tri.isPiece [1, 1, 1, 1, 0, 1, 0, 0, 1, 0, 0] Try.f29 (by kernel_rfl) ?_
              refine Tri.onlyN (rkx_t hsm hok hO O6 hcw (hroww.mono k6) hjl hro hlo rfl hfj) fun G7 l7 H7 hle7 hs7 hM => ?_
              obtain ⟨vn', vl', kn', kl', _, hro', hlo', hfr', rfl⟩ := hM
              simp only [go_sem]
              refine Tri.live [0, 1, 2, 4, 5, 6, 8] ?_
              rw [hfr']
              refine Tri.run tok [0, 1, 2, 4, 5, 6, 7, 8, 9, 10, 11, 20, 32, 59, 64, 71, 88] (by kernel_rfl) ?_
              repeat' first
                | with_reducible refine Br.yes ?_
                | with_reducible refine Br.no ?_
                | with_reducible refine Br.dec (fun _ => ?_) (fun _ => ?_)
                | with_reducible refine Br.beqB (fun _ => ?_) (fun _ => ?_)
                | with_reducible refine Br.beqb (fun _ => ?_) (fun _ => ?_)
                | with_reducible refine Br.mk (fun _ => ?_) (fun _ => ?_)
                | with_reducible refine foundO.mk (fun _ _ => ?_) (fun _ => ?_)
                | with_reducible refine appV.zero ?_
                | with_reducible refine appV.own ?_
                | ((with_reducible refine NewB.mk fun nb hnb => ?_); have hnb1 := hnb.1.1; have hnb2 := hnb.1.2; try simp only [keys_cons, keys_app, keys_nil, NotIn_cons, NotIn_app, NotIn_nil, and_true] at hnb2)
                | ((with_reducible refine NewRow.mk fun nb nsp ncap hnb hncap => ?_); have hnb1 := hnb.1.1; have hnb2 := hnb.1.2; try simp only [keys_cons, keys_app, keys_nil, NotIn_cons, NotIn_app, NotIn_nil, and_true] at hnb2)
                | simp (dsimp := false) (implicitDefEqProofs := false) (disch := first | assumption | (simp only [List.mem_cons, List.mem_append, true_or, or_true, eq_self]; done) | omega | (with_reducible refine Row.adr (by assumption) ?_; simp only [List.length_map, List.length_take, List.length_drop]; omega) | (simp only [List.length_cons, List.length_nil, List.length_map, List.length_append, List.length_replicate, Nat.reduceAdd, true_and, and_true, and_self]; first | done | omega)) only [go_sem, ↓reduceIte, Nat.reduceEqDiff, Nat.reduceAdd, Nat.reduceSub, Nat.reduceMul, Nat.reduceBEq, Nat.reduceLT, Nat.reduceLeDiff, Nat.reduceMod, Nat.reducePow, List.reduceReplicate, UInt8.reduceOfNat, Int.reducePow, Int.reduceDiv, Int.reduceMod, Nat.reduceDiv, Int.reduceNeg, Int.reduceAdd, Int.reduceSub, Int.reduceMul, Int.reduceLE, Int.reduceLT, Int.reduceEq, Int.reduceToNat, reduceCtorEq, -List.reduceReplicate, List.toList_toArray]
              refine Upd.now ?_
              exact ⟨q - 1, by omega, j + 1, vn', vl', kn', kl', by omega, hleG6.trans hle7, fun i h h2 => by
                by_cases e : i = j
                · subst e; exact hfj
                · exact hfine i h (by omega), hro', hlo', rfl, rfl⟩
            · have hno : ¬ KeepOk d l := fun h => hfj (h.2 _ (List.getElem_mem hjl))
              rw [keepR_not hok hno] at hR
              repeat' first
                | with_reducible refine Br.yes ?_
                | with_reducible refine Br.no ?_
                | with_reducible refine Br.dec (fun _ => ?_) (fun _ => ?_)
                | with_reducible refine Br.beqB (fun _ => ?_) (fun _ => ?_)
                | with_reducible refine Br.beqb (fun _ => ?_) (fun _ => ?_)
                | with_reducible refine Br.mk (fun _ => ?_) (fun _ => ?_)
                | with_reducible refine foundO.mk (fun _ _ => ?_) (fun _ => ?_)
                | with_reducible refine appV.zero ?_
                | with_reducible refine appV.own ?_
                | ((with_reducible refine NewB.mk fun nb hnb => ?_); have hnb1 := hnb.1.1; have hnb2 := hnb.1.2; try simp only [keys_cons, keys_app, keys_nil, NotIn_cons, NotIn_app, NotIn_nil, and_true] at hnb2)
                | ((with_reducible refine NewRow.mk fun nb nsp ncap hnb hncap => ?_); have hnb1 := hnb.1.1; have hnb2 := hnb.1.2; try simp only [keys_cons, keys_app, keys_nil, NotIn_cons, NotIn_app, NotIn_nil, and_true] at hnb2)
                | simp (dsimp := false) (implicitDefEqProofs := false) (disch := first | assumption | (simp only [List.mem_cons, List.mem_append, true_or, or_true, eq_self]; done) | omega | (with_reducible refine Row.adr (by assumption) ?_; simp only [List.length_map, List.length_take, List.length_drop]; omega) | (simp only [List.length_cons, List.length_nil, List.length_map, List.length_append, List.length_replicate, Nat.reduceAdd, true_and, and_true, and_self]; first | done | omega)) only [go_sem, ↓reduceIte, Nat.reduceEqDiff, Nat.reduceAdd, Nat.reduceSub, Nat.reduceMul, Nat.reduceBEq, Nat.reduceLT, Nat.reduceLeDiff, Nat.reduceMod, Nat.reducePow, List.reduceReplicate, UInt8.reduceOfNat, Int.reducePow, Int.reduceDiv, Int.reduceMod, Nat.reduceDiv, Int.reduceNeg, Int.reduceAdd, Int.reduceSub, Int.reduceMul, Int.reduceLE, Int.reduceLT, Int.reduceEq, Int.reduceToNat, reduceCtorEq, -List.reduceReplicate, List.toList_toArray]
              refine Tri.live [0, 1, 2, 4, 5, 6, 8] ?_
              refine Tri.upd (Upd.go (H' := (b4, .cells zeroC [] 27) :: (b7, .cells (cellsD d vn vl (.slice ay4 d.names.length cy4)) [] 27) :: (b2, .cells C [] 27) :: (kn ++ (kl ++ H))) (by intro fsum; first | exact Nat.le_refl _ | (simp only [List.map_append, List.map_cons, List.map_nil, List.sum_append, List.sum_cons, List.sum_nil, List.cons_append, List.nil_append]; omega)) (Upd.now ?_))
              refine Tri.isPiece [1, 1, 1, 1, 0, 1, 0, 0, 1, 0, 0] Try.f29 (by kernel_rfl) ?_
              refine Tri.onlyR (rkxb_t hsm hok hO O6 hcw (hroww.mono k6) hjl hfj) fun G7 l7 H7 hle7 hs7 hM => ?_
              obtain ⟨_, hfr', rfl⟩ := hM
              have hsE := hs7
              try simp only [keys_cons, keys_app, keys_nil, Sep_cons, Sep_nil, NotIn_cons, NotIn_app, NotIn_nil, List.cons_append, List.nil_append, List.append_assoc, and_assoc, and_true, true_and] at hsE
              repeat (obtain ⟨hsx, hsE⟩ := hsE)
              have h4 : V.look l7 4 = some (.pointer (some ⟨b4, 0, none⟩)) := look_restrict [4, 5] l7 4 _ (by rw [hfr']; rfl)
              have h5 : V.look l7 5 = some (.int .i64 1) := look_restrict [4, 5] l7 5 _ (by rw [hfr']; rfl)
              repeat' first
                | with_reducible refine Br.yes ?_
                | with_reducible refine Br.no ?_
                | with_reducible refine Br.dec (fun _ => ?_) (fun _ => ?_)
                | with_reducible refine Br.beqB (fun _ => ?_) (fun _ => ?_)
                | with_reducible refine Br.beqb (fun _ => ?_) (fun _ => ?_)
                | with_reducible refine Br.mk (fun _ => ?_) (fun _ => ?_)
                | with_reducible refine foundO.mk (fun _ _ => ?_) (fun _ => ?_)
                | with_reducible refine appV.zero ?_
                | with_reducible refine appV.own ?_
                | ((with_reducible refine NewB.mk fun nb hnb => ?_); have hnb1 := hnb.1.1; have hnb2 := hnb.1.2; try simp only [keys_cons, keys_app, keys_nil, NotIn_cons, NotIn_app, NotIn_nil, and_true] at hnb2)
                | ((with_reducible refine NewRow.mk fun nb nsp ncap hnb hncap => ?_); have hnb1 := hnb.1.1; have hnb2 := hnb.1.2; try simp only [keys_cons, keys_app, keys_nil, NotIn_cons, NotIn_app, NotIn_nil, and_true] at hnb2)
                | simp (dsimp := false) (implicitDefEqProofs := false) (disch := first | assumption | (simp only [List.mem_cons, List.mem_append, true_or, or_true, eq_self]; done) | omega | (with_reducible refine Row.adr (by assumption) ?_; simp only [List.length_map, List.length_take, List.length_drop]; omega) | (simp only [List.length_cons, List.length_nil, List.length_map, List.length_append, List.length_replicate, Nat.reduceAdd, true_and, and_true, and_self]; first | done | omega)) only [go_sem, ↓reduceIte, Nat.reduceEqDiff, Nat.reduceAdd, Nat.reduceSub, Nat.reduceMul, Nat.reduceBEq, Nat.reduceLT, Nat.reduceLeDiff, Nat.reduceMod, Nat.reducePow, List.reduceReplicate, UInt8.reduceOfNat, Int.reducePow, Int.reduceDiv, Int.reduceMod, Nat.reduceDiv, Int.reduceNeg, Int.reduceAdd, Int.reduceSub, Int.reduceMul, Int.reduceLE, Int.reduceLT, Int.reduceEq, Int.reduceToNat, reduceCtorEq, -List.reduceReplicate, List.toList_toArray, h4, h5, zeroC_len, zeroC_one, zeroC_take, zeroC_put]
              unfold UpdR
              refine Upd.leave (H' := H) (by intro fsum; first | exact Nat.le_refl _ | (simp only [List.map_append, List.map_cons, List.map_nil, List.sum_append, List.sum_cons, List.sum_nil, List.cons_append, List.nil_append]; omega)) ?_
              exact fun _ hs => hR G7 _ (k6.trans hle7) hs (zeroD_is _)
          · obtain rfl : j = l.length := by omega
            have hko : KeepOk d l := ⟨⟨hO, hh⟩, fun x hx => by
              obtain ⟨i, hi, rfl⟩ := List.getElem_of_mem hx
              exact hfine i hi hi⟩
            rw [keepR_ok hok hko] at hR
            rcases hro with ⟨hj0, _, _⟩ | ⟨bn, c1, rv, sp1, rfl, rfl, hrv, hc1, hrws⟩
            · exact absurd hj0 (by omega)
            rcases hlo with ⟨hj0, _, _⟩ | ⟨bl, c2, sp2, rfl, rfl, hc2⟩
            · exact absurd hj0 (by omega)
            have hsE := hs6
            try simp only [keys_cons, keys_app, keys_nil, Sep_cons, Sep_nil, NotIn_cons, NotIn_app, NotIn_nil, List.cons_append, List.nil_append, List.append_assoc, and_assoc, and_true, true_and] at hsE
            repeat (obtain ⟨hsx, hsE⟩ := hsE)
            have hone := cellsD_one (d := d) (vn := .slice (some ⟨bn, 0, none⟩) l.length c1) (vl := .slice (some ⟨bl, 0, none⟩) l.length c2) (vs := .slice ay4 d.names.length cy4) rfl rfl rfl
            have hLl : (labF d l).length = l.length := by unfold labF; rw [List.length_map]
            rw [show (labF d l).take l.length = labF d l by rw [← hLl, List.take_length]]
            repeat' first
              | with_reducible refine Br.yes ?_
              | with_reducible refine Br.no ?_
              | with_reducible refine Br.dec (fun _ => ?_) (fun _ => ?_)
              | with_reducible refine Br.beqB (fun _ => ?_) (fun _ => ?_)
              | with_reducible refine Br.beqb (fun _ => ?_) (fun _ => ?_)
              | with_reducible refine Br.mk (fun _ => ?_) (fun _ => ?_)
              | with_reducible refine foundO.mk (fun _ _ => ?_) (fun _ => ?_)
              | with_reducible refine appV.zero ?_
              | with_reducible refine appV.own ?_
              | ((with_reducible refine NewB.mk fun nb hnb => ?_); have hnb1 := hnb.1.1; have hnb2 := hnb.1.2; try simp only [keys_cons, keys_app, keys_nil, NotIn_cons, NotIn_app, NotIn_nil, and_true] at hnb2)
              | ((with_reducible refine NewRow.mk fun nb nsp ncap hnb hncap => ?_); have hnb1 := hnb.1.1; have hnb2 := hnb.1.2; try simp only [keys_cons, keys_app, keys_nil, NotIn_cons, NotIn_app, NotIn_nil, and_true] at hnb2)
              | simp (dsimp := false) (implicitDefEqProofs := false) (disch := first | assumption | (simp only [List.mem_cons, List.mem_append, true_or, or_true, eq_self]; done) | omega | (with_reducible refine Row.adr (by assumption) ?_; simp only [List.length_map, List.length_take, List.length_drop]; omega) | (simp only [List.length_cons, List.length_nil, List.length_map, List.length_append, List.length_replicate, Nat.reduceAdd, true_and, and_true, and_self]; first | done | omega)) only [go_sem, ↓reduceIte, Nat.reduceEqDiff, Nat.reduceAdd, Nat.reduceSub, Nat.reduceMul, Nat.reduceBEq, Nat.reduceLT, Nat.reduceLeDiff, Nat.reduceMod, Nat.reducePow, List.reduceReplicate, UInt8.reduceOfNat, Int.reducePow, Int.reduceDiv, Int.reduceMod, Nat.reduceDiv, Int.reduceNeg, Int.reduceAdd, Int.reduceSub, Int.reduceMul, Int.reduceLE, Int.reduceLT, Int.reduceEq, Int.reduceToNat, reduceCtorEq, -List.reduceReplicate, List.toList_toArray, hl2, ht2, hputz, hone, zeroC_len]
            unfold UpdR
            refine Upd.go (H' := (bn, .cells rv sp1 24) :: (bl, .cells ((labF d l).map (Value.int .i64)) sp2 3) :: H) (by intro fsum; first | exact Nat.le_refl _ | (simp only [List.map_append, List.map_cons, List.map_nil, List.sum_append, List.sum_cons, List.sum_nil, List.cons_append, List.nil_append]; omega)) (Upd.trans (Upd.shareRow (by assumption) fun G7 hle7 hs7 hr7 => ?_))
            refine Upd.shareRow hs7.1.1 fun G8 hle8 hs8 hr8 => ?_
            have k8 := hle7.trans hle8
            refine fun _ hs => hR G8 _ (k6.trans k8) hs ?_
            refine ⟨O.ofl, O.ofb, _, _, _, rfl, ⟨some ⟨bn, 0, none⟩, c1, rv, ?_, hr7.mono hle8, ?_, ?_, fun i h h2 => ?_⟩, ⟨some ⟨bl, 0, none⟩, c2, ?_, hr8, ?_⟩, ⟨ay4, cy4, rfl, hr4y.mono (hleG6.trans k8), hcy4⟩⟩
            · simp only [keepD, List.length_map]
            · simp only [keepD, List.length_map]; exact hrv
            · simp only [keepD, List.length_map]; omega
            · have hi : i < l.length := by simp only [keepD, List.length_map] at h; exact h
              obtain ⟨b', c', f1, f2, f3⟩ := hrws i hi h2 hi
              refine ⟨b', c', ?_, ?_, ?_⟩
              · simp only [keepD, List.getElem_map]; exact f1
              · simp only [keepD, List.getElem_map]; exact f2.mono k8
              · simp only [keepD, List.getElem_map]; exact f3
            · simp only [keepD, hLl]
            · simp only [keepD, hLl]; omega
  · have hno : ¬ KeepOk d l := fun h => hh h.1.2
    rw [keepR_not hok hno] at hR
    by_cases h0 : l.length = 0
    · refine FnT.body tok [0, 1, 2, 4, 5, 6, 7, 8, 9, 10, 11, 20, 32, 59, 64, 71, 88] Try.func29 rfl (by kernel_rfl) (by kernel_rfl) (by show _ ≤ 114; simp) fun hsep => ?_
      rw [Try.results29]
      have hsE := hsep
      try simp only [keys_cons, keys_app, keys_nil, Sep_cons, Sep_nil, NotIn_cons, NotIn_app, NotIn_nil, List.cons_append, List.nil_append, List.append_assoc, and_assoc, and_true, true_and] at hsE
      repeat (obtain ⟨hsx, hsE⟩ := hsE)
      repeat' first
        | with_reducible refine Br.yes ?_
        | with_reducible refine Br.no ?_
        | with_reducible refine Br.dec (fun _ => ?_) (fun _ => ?_)
        | with_reducible refine Br.beqB (fun _ => ?_) (fun _ => ?_)
        | with_reducible refine Br.beqb (fun _ => ?_) (fun _ => ?_)
        | with_reducible refine Br.mk (fun _ => ?_) (fun _ => ?_)
        | with_reducible refine foundO.mk (fun _ _ => ?_) (fun _ => ?_)
        | with_reducible refine appV.zero ?_
        | with_reducible refine appV.own ?_
        | ((with_reducible refine NewB.mk fun nb hnb => ?_); have hnb1 := hnb.1.1; have hnb2 := hnb.1.2; try simp only [keys_cons, keys_app, keys_nil, NotIn_cons, NotIn_app, NotIn_nil, and_true] at hnb2)
        | ((with_reducible refine NewRow.mk fun nb nsp ncap hnb hncap => ?_); have hnb1 := hnb.1.1; have hnb2 := hnb.1.2; try simp only [keys_cons, keys_app, keys_nil, NotIn_cons, NotIn_app, NotIn_nil, and_true] at hnb2)
        | simp (dsimp := false) (implicitDefEqProofs := false) (disch := first | assumption | (simp only [List.mem_cons, List.mem_append, true_or, or_true, eq_self]; done) | omega | (with_reducible refine Row.adr (by assumption) ?_; simp only [List.length_map, List.length_take, List.length_drop]; omega) | (simp only [List.length_cons, List.length_nil, List.length_map, List.length_append, List.length_replicate, Nat.reduceAdd, true_and, and_true, and_self]; first | done | omega)) only [go_sem, ↓reduceIte, Nat.reduceEqDiff, Nat.reduceAdd, Nat.reduceSub, Nat.reduceMul, Nat.reduceBEq, Nat.reduceLT, Nat.reduceLeDiff, Nat.reduceMod, Nat.reducePow, List.reduceReplicate, UInt8.reduceOfNat, Int.reducePow, Int.reduceDiv, Int.reduceMod, Nat.reduceDiv, Int.reduceNeg, Int.reduceAdd, Int.reduceSub, Int.reduceMul, Int.reduceLE, Int.reduceLT, Int.reduceEq, Int.reduceToNat, reduceCtorEq, -List.reduceReplicate, List.toList_toArray, hCl, hCa, zeroC_len, zeroC_one, zeroC_take, zeroC_put]
      all_goals try (exfalso; omega)
      unfold UpdR
      refine Upd.leave (H' := H) (by intro fsum; first | exact Nat.le_refl _ | (simp only [List.map_append, List.map_cons, List.map_nil, List.sum_append, List.sum_cons, List.sum_nil, List.cons_append, List.nil_append]; omega)) ?_
      exact fun _ hs => hR G _ (PLe.refl _) hs (zeroD_is _)
    · have hpos : 0 < l.length := by omega
      have hl0 : l[0] ≠ 0 := fun e => hh (by rw [List.head?_eq_getElem?, List.getElem?_eq_getElem hpos, e])
      have hadw : Adr aw := hroww.adr (by rw [List.length_map]; omega)
      have hob : ∀ (H : Heap) (k : Value → Prop), objK G H (blk aw) (G (blk aw)) (ofs aw) k = k (.int .i64 l[0]) := fun H k => by
        have := Row.obj hroww (i := 0) (by rw [List.length_map]; omega) H k
        rw [Nat.add_zero, List.getElem_map] at this
        exact this
      refine FnT.body tok [0, 1, 2, 4, 5, 6, 7, 8, 9, 10, 11, 20, 32, 59, 64, 71, 88] Try.func29 rfl (by kernel_rfl) (by kernel_rfl) (by show _ ≤ 114; simp) fun hsep => ?_
      rw [Try.results29]
      have hsE := hsep
      try simp only [keys_cons, keys_app, keys_nil, Sep_cons, Sep_nil, NotIn_cons, NotIn_app, NotIn_nil, List.cons_append, List.nil_append, List.append_assoc, and_assoc, and_true, true_and] at hsE
      repeat (obtain ⟨hsx, hsE⟩ := hsE)
      repeat' first
        | with_reducible refine Br.yes ?_
        | with_reducible refine Br.no ?_
        | with_reducible refine Br.dec (fun _ => ?_) (fun _ => ?_)
        | with_reducible refine Br.beqB (fun _ => ?_) (fun _ => ?_)
        | with_reducible refine Br.beqb (fun _ => ?_) (fun _ => ?_)
        | with_reducible refine Br.mk (fun _ => ?_) (fun _ => ?_)
        | with_reducible refine foundO.mk (fun _ _ => ?_) (fun _ => ?_)
        | with_reducible refine appV.zero ?_
        | with_reducible refine appV.own ?_
        | ((with_reducible refine NewB.mk fun nb hnb => ?_); have hnb1 := hnb.1.1; have hnb2 := hnb.1.2; try simp only [keys_cons, keys_app, keys_nil, NotIn_cons, NotIn_app, NotIn_nil, and_true] at hnb2)
        | ((with_reducible refine NewRow.mk fun nb nsp ncap hnb hncap => ?_); have hnb1 := hnb.1.1; have hnb2 := hnb.1.2; try simp only [keys_cons, keys_app, keys_nil, NotIn_cons, NotIn_app, NotIn_nil, and_true] at hnb2)
        | simp (dsimp := false) (implicitDefEqProofs := false) (disch := first | assumption | (simp only [List.mem_cons, List.mem_append, true_or, or_true, eq_self]; done) | omega | (with_reducible refine Row.adr (by assumption) ?_; simp only [List.length_map, List.length_take, List.length_drop]; omega) | (simp only [List.length_cons, List.length_nil, List.length_map, List.length_append, List.length_replicate, Nat.reduceAdd, true_and, and_true, and_self]; first | done | omega)) only [go_sem, ↓reduceIte, Nat.reduceEqDiff, Nat.reduceAdd, Nat.reduceSub, Nat.reduceMul, Nat.reduceBEq, Nat.reduceLT, Nat.reduceLeDiff, Nat.reduceMod, Nat.reducePow, List.reduceReplicate, UInt8.reduceOfNat, Int.reducePow, Int.reduceDiv, Int.reduceMod, Nat.reduceDiv, Int.reduceNeg, Int.reduceAdd, Int.reduceSub, Int.reduceMul, Int.reduceLE, Int.reduceLT, Int.reduceEq, Int.reduceToNat, reduceCtorEq, -List.reduceReplicate, List.toList_toArray, hCl, hCa, hob, zeroC_len, zeroC_one, zeroC_take, zeroC_put]
      all_goals try (exfalso; omega)
      unfold UpdR
      refine Upd.leave (H' := H) (by intro fsum; first | exact Nat.le_refl _ | (simp only [List.map_append, List.map_cons, List.map_nil, List.sum_append, List.sum_cons, List.sum_nil, List.cons_append, List.nil_append]; omega)) ?_
      exact fun _ hs => hR G _ (PLe.refl _) hs (zeroD_is _)
set_option maxHeartbeats 16000000 in
theorem rtrim_t {d : DfaT} (hsm : SmallD d) (hok : RightP d) {G : PHeap} {H : Heap} {R : Value → PHeap → Heap → Prop} {v : Value} (hv : IsD G d v)
    (hR : ∀ G' v', PLe G G' → Sep G' (keys H) → IsD G' (trimD d) v' → R v' G' H) : FnT Try.prog 30 [v] G H R := by
  obtain ⟨C, an, al, ay, cn, cl, cs, rs, rfl, O⟩ := hv.opened
  have hCl := O.len
  have hCa := O.all
  have hk2 := hok.2.1
  have hrl := (reachL_once hok).len
  have hkr := keepR_ok hok (reachL_keep hok)
  have hrl2 : (reachL d).length ≤ 2000000 := by omega
  refine FnT.sep ?_
  refine FnT.body tok [0, 1, 2, 3] Try.func30 rfl (by kernel_rfl) (by kernel_rfl) (by show _ ≤ 13; simp) fun hsep => ?_
  rw [Try.results30]
  have hsE := hsep
  try simp only [keys_cons, keys_app, keys_nil, Sep_cons, Sep_nil, NotIn_cons, NotIn_app, NotIn_nil, List.cons_append, List.nil_append, List.append_assoc, and_assoc, and_true, true_and] at hsE
  repeat (obtain ⟨hsx, hsE⟩ := hsE)
  repeat' first
    | with_reducible refine Br.yes ?_
    | with_reducible refine Br.no ?_
    | with_reducible refine Br.dec (fun _ => ?_) (fun _ => ?_)
    | with_reducible refine Br.beqB (fun _ => ?_) (fun _ => ?_)
    | with_reducible refine Br.beqb (fun _ => ?_) (fun _ => ?_)
    | with_reducible refine Br.mk (fun _ => ?_) (fun _ => ?_)
    | with_reducible refine foundO.mk (fun _ _ => ?_) (fun _ => ?_)
    | with_reducible refine appV.zero ?_
    | with_reducible refine appV.own ?_
    | ((with_reducible refine NewB.mk fun nb hnb => ?_); have hnb1 := hnb.1.1; have hnb2 := hnb.1.2; try simp only [keys_cons, keys_app, keys_nil, NotIn_cons, NotIn_app, NotIn_nil, and_true] at hnb2)
    | ((with_reducible refine NewRow.mk fun nb nsp ncap hnb hncap => ?_); have hnb1 := hnb.1.1; have hnb2 := hnb.1.2; try simp only [keys_cons, keys_app, keys_nil, NotIn_cons, NotIn_app, NotIn_nil, and_true] at hnb2)
    | simp (dsimp := false) (implicitDefEqProofs := false) (disch := first | assumption | (simp only [List.mem_cons, List.mem_append, true_or, or_true, eq_self]; done) | omega | (with_reducible refine Row.adr (by assumption) ?_; simp only [List.length_map, List.length_take, List.length_drop]; omega) | (simp only [List.length_cons, List.length_nil, List.length_map, List.length_append, List.length_replicate, Nat.reduceAdd, true_and, and_true, and_self]; first | done | omega)) only [go_sem, ↓reduceIte, Nat.reduceEqDiff, Nat.reduceAdd, Nat.reduceSub, Nat.reduceMul, Nat.reduceBEq, Nat.reduceLT, Nat.reduceLeDiff, Nat.reduceMod, Nat.reducePow, List.reduceReplicate, UInt8.reduceOfNat, Int.reducePow, Int.reduceDiv, Int.reduceMod, Nat.reduceDiv, Int.reduceNeg, Int.reduceAdd, Int.reduceSub, Int.reduceMul, Int.reduceLE, Int.reduceLT, Int.reduceEq, Int.reduceToNat, reduceCtorEq, -List.reduceReplicate, List.toList_toArray, hCl, hCa, isD_put, take260, zeroC_len, zeroC_one]
    | with_reducible refine Tri.drawH tok mixed [0, 1, 2, 3] 1 [0, 1] (.op 0 .held (.op 1 .held (.both (.op 2 .keeps (.both (.op 3 .keeps (.op 4 .plain (.op 5 .plain (.op 6 .plain (.op 7 .keeps (.op 8 .plain (.op 9 .plain .nil))))))) (.op 7 .keeps (.op 3 .keeps (.op 4 .plain (.op 5 .plain (.op 6 .plain (.op 8 .plain (.op 9 .plain .nil))))))))) (.op 7 .keeps (.op 2 .keeps (.op 3 .keeps (.op 4 .plain (.op 5 .plain (.op 6 .plain (.op 8 .plain (.op 9 .plain .nil))))))))))) (by kernel_rfl) [1] ?_
    | (with_reducible refine And.intro ?_ ?_)
    | ((with_reducible refine rreach_t hsm hok O.is fun G2 v2 hle2 hs2 hsl2 => ?_); (have hsE := hs2; try simp only [keys_cons, keys_app, keys_nil, Sep_cons, Sep_nil, NotIn_cons, NotIn_app, NotIn_nil, List.cons_append, List.nil_append, List.append_assoc, and_assoc, and_true, true_and] at hsE; repeat (obtain ⟨hsx, hsE⟩ := hsE)))
    | ((with_reducible refine rkeep_t hsm hok hrl2 (O.is.mono hle2) hsl2 fun G3 v3 hle3 hs3 hI => ?_); rw [hkr] at hI ⊢; obtain ⟨C', an', al', ay', cn', cl', cs', rs', rfl, O'⟩ := IsD.opened (d := trimD d) hI; have hDl := O'.len; have hone := isD_one O'.is; have hob : C'.length ≤ 260 ∧ C'.all oneV = true := ⟨Nat.le_of_eq hDl, hone⟩; (have hsE := hs3; try simp only [keys_cons, keys_app, keys_nil, Sep_cons, Sep_nil, NotIn_cons, NotIn_app, NotIn_nil, List.cons_append, List.nil_append, List.append_assoc, and_assoc, and_true, true_and] at hsE; repeat (obtain ⟨hsx, hsE⟩ := hsE)))
  all_goals unfold UpdR
  all_goals refine Upd.leave (H' := H) (by intro fsum; first | exact Nat.le_refl _ | (simp only [List.map_append, List.map_cons, List.map_nil, List.sum_append, List.sum_cons, List.sum_nil, List.cons_append, List.nil_append]; omega)) ?_
  all_goals exact fun _ hs => hR G3 _ (hle2.trans hle3) hs O'.is
end Go.Proofs.Ytlblohmjikopbaa
