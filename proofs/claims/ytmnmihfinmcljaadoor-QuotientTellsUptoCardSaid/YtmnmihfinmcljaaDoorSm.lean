/- Can states be put together: quotient.Stable. -/
import Derived.Test.YtmnmihfinmcljaaDoorSl
set_option linter.unusedSimpArgs false
set_option linter.unusedVariables false
namespace Go.Proofs.YtmnmihfinmcljaaDoor
open Go Go.V Go.Proofs

def stableP (d : DfaT) (m : List Int) : Prop := ∀ s t (hs : s < m.length) (h1 : s < d.label.length) (h2 : t < d.label.length) (h3 : s < d.next.length) (h4 : t < d.next.length), place m m[s] = some t → d.label[s] = d.label[t] ∧ sameRows (nums m) d.next[s] d.next[t]
set_option maxHeartbeats 16000000 in
theorem stable_t {d : DfaT} (hsm : SmallD d) (hok : RightP d) {m : List Int} (hm : m.length = d.label.length) {G : PHeap} {H : Heap} {R : Value → PHeap → Heap → Prop} {v w : Value} (hv : IsD G d v) (hw : Sl G (Value.int .i64) w (nums m))
    (hR : ∀ G', PLe G G' → Sep G' (keys H) → R (.bool (boolOf (stableP d m))) G' H) : FnT Tryd.prog 33 [v, w] G H R := by
  obtain ⟨C, an, al, ay, cn, cl, cs, rs, rfl, O⟩ := hv.opened
  obtain ⟨hm1, hm2, hm3, hm4, hm5⟩ := id hsm
  obtain ⟨hk1, hk2, hk3, hk4, hk5, hk6, hk7⟩ := id hok
  have hCl := O.len
  have hCn := O.n
  have hCx := O.l
  have hnl := nums_len m
  have hw0 := hw
  obtain ⟨a, cap, rfl, hrow, hcap⟩ := hw
  refine FnT.sep ?_
  refine FnT.body tok [0, 1, 2, 3, 4, 5, 6, 7, 8, 9, 13, 14, 15, 16, 49] Tryd.func33 rfl (by kernel_rfl) (by kernel_rfl) (by show _ ≤ 51; simp) fun hsep => ?_
  rw [Tryd.results33]
  have hsE := hsep
  try simp only [keys_cons, keys_app, keys_nil, Sep_cons, Sep_nil, NotIn_cons, NotIn_app, NotIn_nil, List.cons_append, List.nil_append, List.append_assoc, and_assoc, and_true, true_and] at hsE
  repeat (obtain ⟨hsx, hsE⟩ := hsE)
  repeat' first
    | with_reducible refine Br.yes ?_
    | with_reducible refine Br.no ?_
    | with_reducible refine Br.dec (fun _ => ?_) (fun _ => ?_)
    | with_reducible refine Br.beqB (fun _ => ?_) (fun _ => ?_)
    | with_reducible refine Br.beqb (fun _ => ?_) (fun _ => ?_)
    | with_reducible refine Br.mk (fun _ => ?_) (fun _ => ?_)
    | with_reducible refine foundO.mk (fun _ _ => ?_) (fun _ => ?_)
    | with_reducible refine appV.zero ?_
    | with_reducible refine appV.own ?_
    | ((with_reducible refine NewB.mk fun nb hnb => ?_); have hnb1 := hnb.1.1; have hnb2 := hnb.1.2; try simp only [keys_cons, keys_app, keys_nil, NotIn_cons, NotIn_app, NotIn_nil, and_true] at hnb2)
    | ((with_reducible refine NewRow.mk fun nb nsp ncap hnb hncap => ?_); have hnb1 := hnb.1.1; have hnb2 := hnb.1.2; try simp only [keys_cons, keys_app, keys_nil, NotIn_cons, NotIn_app, NotIn_nil, and_true] at hnb2)
    | simp (dsimp := false) (implicitDefEqProofs := false) (disch := first | assumption | (simp only [List.mem_cons, List.mem_append, true_or, or_true, eq_self]; done) | omega | (with_reducible refine Row.adr (by assumption) ?_; simp only [List.length_map, List.length_take, List.length_drop]; omega) | (simp only [List.length_cons, List.length_nil, List.length_map, List.length_append, List.length_replicate, Nat.reduceAdd, true_and, and_true, and_self]; first | done | omega)) only [go_sem, ↓reduceIte, Nat.reduceEqDiff, Nat.reduceAdd, Nat.reduceSub, Nat.reduceMul, Nat.reduceBEq, Nat.reduceLT, Nat.reduceLeDiff, Nat.reduceMod, Nat.reducePow, List.reduceReplicate, UInt8.reduceOfNat, Int.reducePow, Int.reduceDiv, Int.reduceMod, Nat.reduceDiv, Int.reduceNeg, Int.reduceAdd, Int.reduceSub, Int.reduceMul, Int.reduceLE, Int.reduceLT, Int.reduceEq, Int.reduceToNat, reduceCtorEq, -List.reduceReplicate, List.toList_toArray, hCl, hCn, hCx]
  rename_i b2 hb20 hb21 hb22
  refine heads_t (by omega) hw0 fun G2 v2 hle2 hs2 hsl2 => ?_
  obtain ⟨ah, ch, rfl, hrh, hch⟩ := hsl2
  have hsE := hs2
  try simp only [keys_cons, keys_app, keys_nil, Sep_cons, Sep_nil, NotIn_cons, NotIn_app, NotIn_nil, List.cons_append, List.nil_append, List.append_assoc, and_assoc, and_true, true_and] at hsE
  repeat (obtain ⟨hsx, hsE⟩ := hsE)
  repeat' first
    | with_reducible refine Br.yes ?_
    | with_reducible refine Br.no ?_
    | with_reducible refine Br.dec (fun _ => ?_) (fun _ => ?_)
    | with_reducible refine Br.beqB (fun _ => ?_) (fun _ => ?_)
    | with_reducible refine Br.beqb (fun _ => ?_) (fun _ => ?_)
    | with_reducible refine Br.mk (fun _ => ?_) (fun _ => ?_)
    | with_reducible refine foundO.mk (fun _ _ => ?_) (fun _ => ?_)
    | with_reducible refine appV.zero ?_
    | with_reducible refine appV.own ?_
    | ((with_reducible refine NewB.mk fun nb hnb => ?_); have hnb1 := hnb.1.1; have hnb2 := hnb.1.2; try simp only [keys_cons, keys_app, keys_nil, NotIn_cons, NotIn_app, NotIn_nil, and_true] at hnb2)
    | ((with_reducible refine NewRow.mk fun nb nsp ncap hnb hncap => ?_); have hnb1 := hnb.1.1; have hnb2 := hnb.1.2; try simp only [keys_cons, keys_app, keys_nil, NotIn_cons, NotIn_app, NotIn_nil, and_true] at hnb2)
    | simp (dsimp := false) (implicitDefEqProofs := false) (disch := first | assumption | (simp only [List.mem_cons, List.mem_append, true_or, or_true, eq_self]; done) | omega | (with_reducible refine Row.adr (by assumption) ?_; simp only [List.length_map, List.length_take, List.length_drop]; omega) | (simp only [List.length_cons, List.length_nil, List.length_map, List.length_append, List.length_replicate, Nat.reduceAdd, true_and, and_true, and_self]; first | done | omega)) only [go_sem, ↓reduceIte, Nat.reduceEqDiff, Nat.reduceAdd, Nat.reduceSub, Nat.reduceMul, Nat.reduceBEq, Nat.reduceLT, Nat.reduceLeDiff, Nat.reduceMod, Nat.reducePow, List.reduceReplicate, UInt8.reduceOfNat, Int.reducePow, Int.reduceDiv, Int.reduceMod, Nat.reduceDiv, Int.reduceNeg, Int.reduceAdd, Int.reduceSub, Int.reduceMul, Int.reduceLE, Int.reduceLT, Int.reduceEq, Int.reduceToNat, reduceCtorEq, -List.reduceReplicate, List.toList_toArray, hCl, hCn, hCx]
  have hhl : (headsM m).length = (tabO m).length := by unfold headsM; rw [List.length_map]
  refine Tri.loopU tok [0, 1, 2, 3, 4, 5, 6, 7, 8, 9, 13, 14, 15, 16, 49] (by kernel_rfl) [2, 3, 4, 5, 13, 14, 15] (fun q G' fr H' => ∃ s : Nat, s + q = d.next.length ∧ (∀ j t (hj : j < s) (hs : j < m.length) (h1 : j < d.label.length) (h2 : t < d.label.length) (h3 : j < d.next.length) (h4 : t < d.next.length), place m m[j] = some t → d.label[j] = d.label[t] ∧ sameRows (nums m) d.next[j] d.next[t]) ∧ G' = G2 ∧ H' = (nb, .cells [.slice a (nums m).length cap] [] 24) :: (b2, .cells C [] 27) :: H ∧ fr = [(2, .pointer (some ⟨b2, 0, none⟩)), (3, .pointer (some ⟨nb, 0, none⟩)), (4, .bool false), (5, .slice ah (headsM m).length ch), (13, .slice an d.next.length cn), (14, .int .i64 d.next.length), (15, .int .i64 s)]) (d.next.length) ?_ ?_
  · exact Upd.now ⟨0, by omega, fun j t hj => by omega, rfl, rfl, rfl⟩
  · rintro q G1 fr H' hle hs ⟨s, hi, hno, rfl, rfl, rfl⟩
    have hsE := hs
    try simp only [keys_cons, keys_app, keys_nil, Sep_cons, Sep_nil, NotIn_cons, NotIn_app, NotIn_nil, List.cons_append, List.nil_append, List.append_assoc, and_assoc, and_true, true_and] at hsE
    repeat (obtain ⟨hsx, hsE⟩ := hsE)
    by_cases hsl : s < d.next.length
    · have hsv : s < rs.length := by have := O.rnl; omega
      have hsl2 : s < d.label.length := by omega
      have hsm' : s < m.length := by omega
      obtain ⟨b, c, e1, e2, e3⟩ := O.rs s hsl hsv
      obtain ⟨t, hpt, htl, ⟨htl2, hte⟩, _⟩ := place_first hsm'
      have htn : t < d.next.length := by omega
      have htv : t < rs.length := by have := O.rnl; omega
      have htl3 : t < d.label.length := by omega
      obtain ⟨b', c', f1, f2, f3⟩ := O.rs t htn htv
      obtain ⟨n, hn⟩ := place_mem ((mem_tabO m).2 (List.getElem_mem hsm'))
      obtain ⟨hn1, hn2⟩ := place_some hn
      rw [List.getElem?_eq_getElem hn1, Option.some.injEq] at hn2
      have hns : (nums m)[s]'(by omega) = (n : Int) := by rw [nums_get hsm', findF_some hn]
      have hht : (headsM m)[n]'(by omega) = (t : Int) := by simp only [headsM, List.getElem_map]; rw [hn2, findF_some hpt]
      have hnh : n < (headsM m).length := by omega
      have hrow2 := hrow.mono hle2
      have hrn2 := O.rn.mono hle2
      have hrl2 := O.rl.mono hle2
      have had : Adr an := O.rn.adr (by omega)
      have had2 : Adr al := O.rl.adr (by rw [List.length_map]; omega)
      have had3 : Adr a := hrow.adr (by rw [List.length_map]; omega)
      have had4 : Adr ah := hrh.adr (by rw [List.length_map]; omega)
      have hr1 := (hk7 s hsl hsl2).2.2.2
      have hr2 := (hk7 t htn htl3).2.2.2
      rw [← hm, ← hnl] at hr1 hr2
      repeat' first
        | with_reducible refine Br.yes ?_
        | with_reducible refine Br.no ?_
        | with_reducible refine Br.dec (fun _ => ?_) (fun _ => ?_)
        | with_reducible refine Br.beqB (fun _ => ?_) (fun _ => ?_)
        | with_reducible refine Br.beqb (fun _ => ?_) (fun _ => ?_)
        | with_reducible refine Br.mk (fun _ => ?_) (fun _ => ?_)
        | with_reducible refine foundO.mk (fun _ _ => ?_) (fun _ => ?_)
        | with_reducible refine appV.zero ?_
        | with_reducible refine appV.own ?_
        | ((with_reducible refine NewB.mk fun nb hnb => ?_); have hnb1 := hnb.1.1; have hnb2 := hnb.1.2; try simp only [keys_cons, keys_app, keys_nil, NotIn_cons, NotIn_app, NotIn_nil, and_true] at hnb2)
        | ((with_reducible refine NewRow.mk fun nb nsp ncap hnb hncap => ?_); have hnb1 := hnb.1.1; have hnb2 := hnb.1.2; try simp only [keys_cons, keys_app, keys_nil, NotIn_cons, NotIn_app, NotIn_nil, and_true] at hnb2)
        | with_reducible refine Tri.drawM tok mixed [0, 1, 2, 3, 4, 5, 6, 7, 8, 9, 13, 14, 15, 16, 49] 7 [1, 4, 6, 9, 14, 17] (.op 0 .plain (.op 1 .held (.op 2 .plain (.op 3 .plain (.op 4 .held (.op 5 .plain (.op 6 .held (.op 7 .plain (.op 8 .plain (.op 9 .held (.op 10 .plain (.op 11 .plain (.op 12 .plain (.op 13 .plain (.op 14 .held (.op 15 .plain (.op 16 .plain (.op 17 .held (.op 18 .plain (.op 19 .keeps (.op 20 .plain (.op 21 .plain .nil)))))))))))))))))))))) (by kernel_rfl) _ (List.Sublist.refl _) ?_
        | simp (dsimp := false) (implicitDefEqProofs := false) (disch := first | assumption | (simp only [List.mem_cons, List.mem_append, true_or, or_true, eq_self]; done) | omega | (with_reducible refine Row.adr (by assumption) ?_; simp only [List.length_map, List.length_take, List.length_drop]; omega) | (simp only [List.length_cons, List.length_nil, List.length_map, List.length_append, List.length_replicate, Nat.reduceAdd, true_and, and_true, and_self]; first | done | omega)) only [go_sem, ↓reduceIte, Nat.reduceEqDiff, Nat.reduceAdd, Nat.reduceSub, Nat.reduceMul, Nat.reduceBEq, Nat.reduceLT, Nat.reduceLeDiff, Nat.reduceMod, Nat.reducePow, List.reduceReplicate, UInt8.reduceOfNat, Int.reducePow, Int.reduceDiv, Int.reduceMod, Nat.reduceDiv, Int.reduceNeg, Int.reduceAdd, Int.reduceSub, Int.reduceMul, Int.reduceLE, Int.reduceLT, Int.reduceEq, Int.reduceToNat, reduceCtorEq, -List.reduceReplicate, List.toList_toArray, hCl, hCn, hCx, Row.obj hrn2, e1, f1, Row.obj hrl2, Row.obj hrow2, Row.obj hrh, List.getElem_map, hns, hht]
        | with_reducible refine eqf_t (cap := cap) (hm2 _ (List.getElem_mem hsl)) hr1 hr2 hrow2 (e2.mono hle2) (f2.mono hle2) (by assumption) ?_ ?_
      · rename_i he1 he2
        exact Upd.now ⟨q - 1, by omega, s + 1, by omega, fun j t' hj hs h1 h2 h3 h4 hp => by
          by_cases e : j = s
          · subst e
            rw [hpt, Option.some.injEq] at hp
            subst hp
            exact ⟨he1, boolOf_iff.1 he2⟩
          · exact hno j t' (by omega) hs h1 h2 h3 h4 hp, rfl, rfl, rfl⟩
      · rename_i he1 he2
        have hfin : ¬ stableP d m := fun h => by
          rw [boolOf_yes (h s t hsm' hsl2 htl3 hsl htn hpt).2] at he2; cases he2
        unfold UpdR
        refine Upd.leave (H' := H) (by intro fsum; first | exact Nat.le_refl _ | (simp only [List.map_append, List.map_cons, List.map_nil, List.sum_append, List.sum_cons, List.sum_nil, List.cons_append, List.nil_append]; omega)) ?_
        rw [boolOf_no hfin] at hR
        exact fun _ hs => hR _ hle2 hs
      · rename_i he1
        have hfin : ¬ stableP d m := fun h => he1 (h s t hsm' hsl2 htl3 hsl htn hpt).1
        unfold UpdR
        refine Upd.leave (H' := H) (by intro fsum; first | exact Nat.le_refl _ | (simp only [List.map_append, List.map_cons, List.map_nil, List.sum_append, List.sum_cons, List.sum_nil, List.cons_append, List.nil_append]; omega)) ?_
        rw [boolOf_no hfin] at hR
        exact fun _ hs => hR _ hle2 hs
    · obtain rfl : s = d.next.length := by omega
      have hfin : stableP d m := fun s t hs h1 h2 h3 h4 hp => hno s t (by omega) hs h1 h2 h3 h4 hp
      repeat' first
        | with_reducible refine Br.yes ?_
        | with_reducible refine Br.no ?_
        | with_reducible refine Br.dec (fun _ => ?_) (fun _ => ?_)
        | with_reducible refine Br.beqB (fun _ => ?_) (fun _ => ?_)
        | with_reducible refine Br.beqb (fun _ => ?_) (fun _ => ?_)
        | with_reducible refine Br.mk (fun _ => ?_) (fun _ => ?_)
        | with_reducible refine foundO.mk (fun _ _ => ?_) (fun _ => ?_)
        | with_reducible refine appV.zero ?_
        | with_reducible refine appV.own ?_
        | ((with_reducible refine NewB.mk fun nb hnb => ?_); have hnb1 := hnb.1.1; have hnb2 := hnb.1.2; try simp only [keys_cons, keys_app, keys_nil, NotIn_cons, NotIn_app, NotIn_nil, and_true] at hnb2)
        | ((with_reducible refine NewRow.mk fun nb nsp ncap hnb hncap => ?_); have hnb1 := hnb.1.1; have hnb2 := hnb.1.2; try simp only [keys_cons, keys_app, keys_nil, NotIn_cons, NotIn_app, NotIn_nil, and_true] at hnb2)
        | simp (dsimp := false) (implicitDefEqProofs := false) (disch := first | assumption | (simp only [List.mem_cons, List.mem_append, true_or, or_true, eq_self]; done) | omega | (with_reducible refine Row.adr (by assumption) ?_; simp only [List.length_map, List.length_take, List.length_drop]; omega) | (simp only [List.length_cons, List.length_nil, List.length_map, List.length_append, List.length_replicate, Nat.reduceAdd, true_and, and_true, and_self]; first | done | omega)) only [go_sem, ↓reduceIte, Nat.reduceEqDiff, Nat.reduceAdd, Nat.reduceSub, Nat.reduceMul, Nat.reduceBEq, Nat.reduceLT, Nat.reduceLeDiff, Nat.reduceMod, Nat.reducePow, List.reduceReplicate, UInt8.reduceOfNat, Int.reducePow, Int.reduceDiv, Int.reduceMod, Nat.reduceDiv, Int.reduceNeg, Int.reduceAdd, Int.reduceSub, Int.reduceMul, Int.reduceLE, Int.reduceLT, Int.reduceEq, Int.reduceToNat, reduceCtorEq, -List.reduceReplicate]
      unfold UpdR
      refine Upd.leave (H' := H) (by intro fsum; first | exact Nat.le_refl _ | (simp only [List.map_append, List.map_cons, List.map_nil, List.sum_append, List.sum_cons, List.sum_nil, List.cons_append, List.nil_append]; omega)) ?_
      rw [boolOf_yes hfin] at hR
      exact fun _ hs => hR _ hle2 hs
end Go.Proofs.YtmnmihfinmcljaaDoor
