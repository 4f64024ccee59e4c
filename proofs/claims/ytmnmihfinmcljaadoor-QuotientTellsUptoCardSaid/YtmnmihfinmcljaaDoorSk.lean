/- Can states be put together: contracts. -/
import Derived.Test.YtmnmihfinmcljaaDoorSj
set_option linter.unusedSimpArgs false
set_option linter.unusedVariables false
namespace Go.Proofs.YtmnmihfinmcljaaDoor
open Go Go.V Go.Proofs

/-- the first place of each thing, in the order of first places -/
def headsM (m : List Int) : List Int := (tabO m).map (findF m)
theorem mem_take_of {m : List Int} {i k : Nat} (h3 : i < k) (hk : k ≤ m.length) : m[i]'(by omega) ∈ m.take k := by
  rw [List.mem_iff_getElem]
  exact ⟨i, by rw [List.length_take]; omega, by rw [List.getElem_take]⟩
theorem nums_take_get {m : List Int} {i : Nat} (h : i < m.length) : (nums m)[i]'(by rw [nums_len]; exact h) = findF (tabO (m.take (i + 1))) m[i] := by
  have key : ∀ k, i < k → k ≤ m.length → findF (tabO (m.take k)) m[i] = findF (tabO (m.take (i + 1))) m[i] := fun k => by
    induction k with
    | zero => intro h1; omega
    | succ k ih =>
      intro h1 h2
      rcases Nat.lt_or_ge i k with h3 | h3
      · rw [← ih h3 (by omega), List.take_succ_eq_append_getElem (by omega), tabO_snoc]
        split
        · rfl
        · exact findF_app ((mem_tabO _).2 (mem_take_of h3 (by omega))) _
      · obtain rfl : k = i := by omega
        rfl
  rw [nums_get h, ← key m.length h (Nat.le_refl _), List.take_length]
theorem new_iff {m : List Int} {i : Nat} (h : i < m.length) : (nums m)[i]'(by rw [nums_len]; exact h) = ((tabO (m.take i)).length : Int) ↔ m[i] ∉ m.take i := by
  rw [nums_take_get h, List.take_succ_eq_append_getElem h]
  constructor
  · intro e hm
    obtain ⟨n, hn⟩ := place_mem ((mem_tabO _).2 hm)
    rw [(nums_old hn).1, findF_some hn] at e
    have := (place_some hn).1
    omega
  · intro hm
    have hp := place_no fun h => hm ((mem_tabO _).1 h)
    rw [(nums_new hp).1, findF_some (place_end (place_none hp))]
set_option maxHeartbeats 8000000 in
theorem heads_t {m : List Int} (hlen : m.length ≤ 2000000) {G : PHeap} {H : Heap} {R : Value → PHeap → Heap → Prop} {v : Value} (hv : Sl G (Value.int .i64) v (nums m))
    (hR : ∀ G' v', PLe G G' → Sep G' (keys H) → Sl G' (Value.int .i64) v' (headsM m) → R v' G' H) : FnT Tryd.prog 34 [v] G H R := by
  obtain ⟨a, cap, rfl, hrow, hcap⟩ := hv
  have hnl := nums_len m
  rw [hnl] at hcap ⊢
  refine FnT.sep ?_
  refine FnT.body tok [0, 2, 3, 4, 5, 6, 7, 8, 9, 16] Tryd.func34 rfl (by kernel_rfl) (by kernel_rfl) (by show _ ≤ 23; simp) fun hsep => ?_
  rw [Tryd.results34]
  have hsE := hsep
  try simp only [keys_cons, keys_app, keys_nil, Sep_cons, Sep_nil, NotIn_cons, NotIn_app, NotIn_nil, List.cons_append, List.nil_append, List.append_assoc, and_assoc, and_true, true_and] at hsE
  repeat (obtain ⟨hsx, hsE⟩ := hsE)
  repeat' first
    | with_reducible refine Br.yes ?_
    | with_reducible refine Br.no ?_
    | with_reducible refine Br.dec (fun _ => ?_) (fun _ => ?_)
    | with_reducible refine Br.beqB (fun _ => ?_) (fun _ => ?_)
    | with_reducible refine Br.beqb (fun _ => ?_) (fun _ => ?_)
    | with_reducible refine Br.mk (fun _ => ?_) (fun _ => ?_)
    | with_reducible refine foundO.mk (fun _ _ => ?_) (fun _ => ?_)
    | with_reducible refine appV.zero ?_
    | with_reducible refine appV.own ?_
    | ((with_reducible refine NewB.mk fun nb hnb => ?_); have hnb1 := hnb.1.1; have hnb2 := hnb.1.2; try simp only [keys_cons, keys_app, keys_nil, NotIn_cons, NotIn_app, NotIn_nil, and_true] at hnb2)
    | ((with_reducible refine NewRow.mk fun nb nsp ncap hnb hncap => ?_); have hnb1 := hnb.1.1; have hnb2 := hnb.1.2; try simp only [keys_cons, keys_app, keys_nil, NotIn_cons, NotIn_app, NotIn_nil, and_true] at hnb2)
    | simp (dsimp := false) (implicitDefEqProofs := false) (disch := first | assumption | (simp only [List.mem_cons, List.mem_append, true_or, or_true, eq_self]; done) | omega | (with_reducible refine Row.adr (by assumption) ?_; simp only [List.length_map, List.length_take, List.length_drop]; omega) | (simp only [List.length_cons, List.length_nil, List.length_map, List.length_append, List.length_replicate, Nat.reduceAdd, true_and, and_true, and_self]; first | done | omega)) only [go_sem, ↓reduceIte, Nat.reduceEqDiff, Nat.reduceAdd, Nat.reduceSub, Nat.reduceMul, Nat.reduceBEq, Nat.reduceLT, Nat.reduceLeDiff, Nat.reduceMod, Nat.reducePow, List.reduceReplicate, UInt8.reduceOfNat, Int.reducePow, Int.reduceDiv, Int.reduceMod, Nat.reduceDiv, Int.reduceNeg, Int.reduceAdd, Int.reduceSub, Int.reduceMul, Int.reduceLE, Int.reduceLT, Int.reduceEq, Int.reduceToNat, reduceCtorEq]
  refine Tri.loopU tok [0, 2, 3, 4, 5, 6, 7, 8, 9, 16] (by kernel_rfl) [0, 2, 3, 6, 7, 8] (fun q G' fr H' => ∃ (i : Nat) (v : Value) (kb : Heap), i + q = m.length ∧ G' = G ∧ SliceO [] 3 1 v (tabO (m.take i)).length (((tabO (m.take i)).map (findF m)).map (Value.int .i64)) kb ∧ H' = kb ++ H ∧ fr = [(0, .slice a m.length cap), (2, .slice none 0 0), (3, v), (6, .slice a m.length cap), (7, .int .i64 m.length), (8, .int .i64 i)]) (m.length) ?_ ?_
  · exact Upd.now ⟨0, _, [], by omega, rfl, .inl ⟨none, rfl, rfl, rfl, rfl⟩, rfl, rfl⟩
  · rintro q G1 fr H' hle hs ⟨i, v, kb, hi, rfl, hv, rfl, rfl⟩
    have htl := tabO_len (m.take i)
    rw [List.length_take] at htl
    by_cases hil : i < m.length
    · have had : Adr a := hrow.adr (by rw [List.length_map, hnl]; omega)
      have hin : i < (nums m).length := by omega
      have htk := List.take_succ_eq_append_getElem hil
      have hni := new_iff hil
      by_cases hnew : m[i] ∈ m.take i
      · have hno : (nums m)[i] ≠ ((tabO (m.take i)).length : Int) := fun e => (hni.1 e) hnew
        have ht : tabO (m.take (i + 1)) = tabO (m.take i) := by rw [htk, tabO_snoc, if_pos ((mem_tabO _).2 hnew)]
        rcases hv with ⟨a0, rfl, hn, hx, rfl⟩ | ⟨b2, c2, sp, rfl, rfl, hx, hc⟩
        · have : m[i] ∈ tabO (m.take i) := (mem_tabO _).2 hnew
          rw [List.eq_nil_of_length_eq_zero hn] at this; cases this
        · have hsE := hs
          try simp only [keys_cons, keys_app, keys_nil, Sep_cons, Sep_nil, NotIn_cons, NotIn_app, NotIn_nil, List.cons_append, List.nil_append, List.append_assoc, and_assoc, and_true, true_and] at hsE
          repeat (obtain ⟨hsx, hsE⟩ := hsE)
          repeat' first
            | with_reducible refine Br.yes ?_
            | with_reducible refine Br.no ?_
            | with_reducible refine Br.dec (fun _ => ?_) (fun _ => ?_)
            | with_reducible refine Br.beqB (fun _ => ?_) (fun _ => ?_)
            | with_reducible refine Br.beqb (fun _ => ?_) (fun _ => ?_)
            | with_reducible refine Br.mk (fun _ => ?_) (fun _ => ?_)
            | with_reducible refine foundO.mk (fun _ _ => ?_) (fun _ => ?_)
            | with_reducible refine appV.zero ?_
            | with_reducible refine appV.own ?_
            | ((with_reducible refine NewB.mk fun nb hnb => ?_); have hnb1 := hnb.1.1; have hnb2 := hnb.1.2; try simp only [keys_cons, keys_app, keys_nil, NotIn_cons, NotIn_app, NotIn_nil, and_true] at hnb2)
            | ((with_reducible refine NewRow.mk fun nb nsp ncap hnb hncap => ?_); have hnb1 := hnb.1.1; have hnb2 := hnb.1.2; try simp only [keys_cons, keys_app, keys_nil, NotIn_cons, NotIn_app, NotIn_nil, and_true] at hnb2)
            | simp (dsimp := false) (implicitDefEqProofs := false) (disch := first | assumption | (simp only [List.mem_cons, List.mem_append, true_or, or_true, eq_self]; done) | omega | (with_reducible refine Row.adr (by assumption) ?_; simp only [List.length_map, List.length_take, List.length_drop]; omega) | (simp only [List.length_cons, List.length_nil, List.length_map, List.length_append, List.length_replicate, Nat.reduceAdd, true_and, and_true, and_self]; first | done | omega)) only [go_sem, ↓reduceIte, Nat.reduceEqDiff, Nat.reduceAdd, Nat.reduceSub, Nat.reduceMul, Nat.reduceBEq, Nat.reduceLT, Nat.reduceLeDiff, Nat.reduceMod, Nat.reducePow, List.reduceReplicate, UInt8.reduceOfNat, Int.reducePow, Int.reduceDiv, Int.reduceMod, Nat.reduceDiv, Int.reduceNeg, Int.reduceAdd, Int.reduceSub, Int.reduceMul, Int.reduceLE, Int.reduceLT, Int.reduceEq, Int.reduceToNat, reduceCtorEq, Row.obj hrow, List.getElem_map, List.length_map, hnl]
          exact Upd.now ⟨q - 1, by omega, i + 1, _, [(b2, .cells (((tabO (m.take (i + 1))).map (findF m)).map (Value.int .i64)) sp 3)], by omega, rfl, .inr ⟨b2, c2, sp, by rw [ht], rfl, by rw [ht]; exact hx, by rw [ht]; exact hc⟩, by rw [ht]; rfl, rfl⟩
      · have hyes := hni.2 hnew
        have hp := place_no fun h => hnew ((mem_tabO _).1 h)
        have ht : tabO (m.take (i + 1)) = tabO (m.take i) ++ [m[i]] := by rw [htk]; exact (nums_new hp).1
        obtain ⟨p, hpp, _, _, hpn⟩ := place_first hil
        obtain rfl : p = i := hpn.2 hnew
        have hce : ((tabO (m.take (p + 1))).map (findF m)).map (Value.int .i64) = ((tabO (m.take p)).map (findF m)).map (Value.int .i64) ++ [Value.int .i64 p] := by rw [ht, List.map_append, List.map_append, List.map_singleton, findF_some hpp]; rfl
        have hcl : (tabO (m.take (p + 1))).length = (tabO (m.take p)).length + 1 := by rw [ht, List.length_append]; rfl
        rcases hv with ⟨a0, rfl, hn, hx, rfl⟩ | ⟨b2, c2, sp, rfl, rfl, hx, hc⟩
        · have hsE := hs
          try simp only [keys_cons, keys_app, keys_nil, Sep_cons, Sep_nil, NotIn_cons, NotIn_app, NotIn_nil, List.cons_append, List.nil_append, List.append_assoc, and_assoc, and_true, true_and] at hsE
          repeat (obtain ⟨hsx, hsE⟩ := hsE)
          repeat' first
            | with_reducible refine Br.yes ?_
            | with_reducible refine Br.no ?_
            | with_reducible refine Br.dec (fun _ => ?_) (fun _ => ?_)
            | with_reducible refine Br.beqB (fun _ => ?_) (fun _ => ?_)
            | with_reducible refine Br.beqb (fun _ => ?_) (fun _ => ?_)
            | with_reducible refine Br.mk (fun _ => ?_) (fun _ => ?_)
            | with_reducible refine foundO.mk (fun _ _ => ?_) (fun _ => ?_)
            | with_reducible refine appV.zero ?_
            | with_reducible refine appV.own ?_
            | ((with_reducible refine NewB.mk fun nb hnb => ?_); have hnb1 := hnb.1.1; have hnb2 := hnb.1.2; try simp only [keys_cons, keys_app, keys_nil, NotIn_cons, NotIn_app, NotIn_nil, and_true] at hnb2)
            | ((with_reducible refine NewRow.mk fun nb nsp ncap hnb hncap => ?_); have hnb1 := hnb.1.1; have hnb2 := hnb.1.2; try simp only [keys_cons, keys_app, keys_nil, NotIn_cons, NotIn_app, NotIn_nil, and_true] at hnb2)
            | simp (dsimp := false) (implicitDefEqProofs := false) (disch := first | assumption | (simp only [List.mem_cons, List.mem_append, true_or, or_true, eq_self]; done) | omega | (with_reducible refine Row.adr (by assumption) ?_; simp only [List.length_map, List.length_take, List.length_drop]; omega) | (simp only [List.length_cons, List.length_nil, List.length_map, List.length_append, List.length_replicate, Nat.reduceAdd, true_and, and_true, and_self]; first | done | omega)) only [go_sem, ↓reduceIte, Nat.reduceEqDiff, Nat.reduceAdd, Nat.reduceSub, Nat.reduceMul, Nat.reduceBEq, Nat.reduceLT, Nat.reduceLeDiff, Nat.reduceMod, Nat.reducePow, List.reduceReplicate, UInt8.reduceOfNat, Int.reducePow, Int.reduceDiv, Int.reduceMod, Nat.reduceDiv, Int.reduceNeg, Int.reduceAdd, Int.reduceSub, Int.reduceMul, Int.reduceLE, Int.reduceLT, Int.reduceEq, Int.reduceToNat, reduceCtorEq, Row.obj hrow, List.getElem_map, List.length_map, hnl, hyes, hn]
          rw [hx, List.nil_append] at hce
          rw [← hce]
          exact Upd.go (H' := (nb, .cells (((tabO (m.take (p + 1))).map (findF m)).map (Value.int .i64)) nsp 3) :: H) (by intro fsum; first | exact Nat.le_refl _ | (simp only [List.map_append, List.map_cons, List.map_nil, List.sum_append, List.sum_cons, List.sum_nil, List.cons_append, List.nil_append]; omega)) (Upd.now ⟨q - 1, by omega, p + 1, .slice (some ⟨nb, 0, none⟩) (tabO (m.take (p + 1))).length ncap, [(nb, .cells (((tabO (m.take (p + 1))).map (findF m)).map (Value.int .i64)) nsp 3)], by omega, rfl, .inr ⟨nb, ncap, nsp, rfl, rfl, by rw [List.length_map, List.length_map]; omega, by rw [List.length_map, List.length_map]; simp at hncap ⊢; omega⟩, rfl, by rw [hcl, hn]; rfl⟩)
        · have hsE := hs
          try simp only [keys_cons, keys_app, keys_nil, Sep_cons, Sep_nil, NotIn_cons, NotIn_app, NotIn_nil, List.cons_append, List.nil_append, List.append_assoc, and_assoc, and_true, true_and] at hsE
          repeat (obtain ⟨hsx, hsE⟩ := hsE)
          repeat' first
            | with_reducible refine Br.yes ?_
            | with_reducible refine Br.no ?_
            | with_reducible refine Br.dec (fun _ => ?_) (fun _ => ?_)
            | with_reducible refine Br.beqB (fun _ => ?_) (fun _ => ?_)
            | with_reducible refine Br.beqb (fun _ => ?_) (fun _ => ?_)
            | with_reducible refine Br.mk (fun _ => ?_) (fun _ => ?_)
            | with_reducible refine foundO.mk (fun _ _ => ?_) (fun _ => ?_)
            | with_reducible refine appV.zero ?_
            | with_reducible refine appV.own ?_
            | ((with_reducible refine NewB.mk fun nb hnb => ?_); have hnb1 := hnb.1.1; have hnb2 := hnb.1.2; try simp only [keys_cons, keys_app, keys_nil, NotIn_cons, NotIn_app, NotIn_nil, and_true] at hnb2)
            | ((with_reducible refine NewRow.mk fun nb nsp ncap hnb hncap => ?_); have hnb1 := hnb.1.1; have hnb2 := hnb.1.2; try simp only [keys_cons, keys_app, keys_nil, NotIn_cons, NotIn_app, NotIn_nil, and_true] at hnb2)
            | simp (dsimp := false) (implicitDefEqProofs := false) (disch := first | assumption | (simp only [List.mem_cons, List.mem_append, true_or, or_true, eq_self]; done) | omega | (with_reducible refine Row.adr (by assumption) ?_; simp only [List.length_map, List.length_take, List.length_drop]; omega) | (simp only [List.length_cons, List.length_nil, List.length_map, List.length_append, List.length_replicate, Nat.reduceAdd, true_and, and_true, and_self]; first | done | omega)) only [go_sem, ↓reduceIte, Nat.reduceEqDiff, Nat.reduceAdd, Nat.reduceSub, Nat.reduceMul, Nat.reduceBEq, Nat.reduceLT, Nat.reduceLeDiff, Nat.reduceMod, Nat.reducePow, List.reduceReplicate, UInt8.reduceOfNat, Int.reducePow, Int.reduceDiv, Int.reduceMod, Nat.reduceDiv, Int.reduceNeg, Int.reduceAdd, Int.reduceSub, Int.reduceMul, Int.reduceLE, Int.reduceLT, Int.reduceEq, Int.reduceToNat, reduceCtorEq, Row.obj hrow, List.getElem_map, List.length_map, hnl, hyes]
          rw [← hce]
          exact Upd.go (H' := (nb, .cells (((tabO (m.take (p + 1))).map (findF m)).map (Value.int .i64)) nsp 3) :: H) (by intro fsum; first | exact Nat.le_refl _ | (simp only [List.map_append, List.map_cons, List.map_nil, List.sum_append, List.sum_cons, List.sum_nil, List.cons_append, List.nil_append]; omega)) (Upd.now ⟨q - 1, by omega, p + 1, .slice (some ⟨nb, 0, none⟩) (tabO (m.take (p + 1))).length ncap, [(nb, .cells (((tabO (m.take (p + 1))).map (findF m)).map (Value.int .i64)) nsp 3)], by omega, rfl, .inr ⟨nb, ncap, nsp, rfl, rfl, by rw [List.length_map, List.length_map]; omega, by rw [List.length_map, List.length_map]; simp at hncap ⊢; omega⟩, rfl, by rw [hcl]; rfl⟩)
    · obtain rfl : i = m.length := by omega
      rw [List.take_length] at hv
      repeat' first
        | with_reducible refine Br.yes ?_
        | with_reducible refine Br.no ?_
        | with_reducible refine Br.dec (fun _ => ?_) (fun _ => ?_)
        | with_reducible refine Br.beqB (fun _ => ?_) (fun _ => ?_)
        | with_reducible refine Br.beqb (fun _ => ?_) (fun _ => ?_)
        | with_reducible refine Br.mk (fun _ => ?_) (fun _ => ?_)
        | with_reducible refine foundO.mk (fun _ _ => ?_) (fun _ => ?_)
        | with_reducible refine appV.zero ?_
        | with_reducible refine appV.own ?_
        | ((with_reducible refine NewB.mk fun nb hnb => ?_); have hnb1 := hnb.1.1; have hnb2 := hnb.1.2; try simp only [keys_cons, keys_app, keys_nil, NotIn_cons, NotIn_app, NotIn_nil, and_true] at hnb2)
        | ((with_reducible refine NewRow.mk fun nb nsp ncap hnb hncap => ?_); have hnb1 := hnb.1.1; have hnb2 := hnb.1.2; try simp only [keys_cons, keys_app, keys_nil, NotIn_cons, NotIn_app, NotIn_nil, and_true] at hnb2)
        | simp (dsimp := false) (implicitDefEqProofs := false) (disch := first | assumption | (simp only [List.mem_cons, List.mem_append, true_or, or_true, eq_self]; done) | omega | (with_reducible refine Row.adr (by assumption) ?_; simp only [List.length_map, List.length_take, List.length_drop]; omega) | (simp only [List.length_cons, List.length_nil, List.length_map, List.length_append, List.length_replicate, Nat.reduceAdd, true_and, and_true, and_self]; first | done | omega)) only [go_sem, ↓reduceIte, Nat.reduceEqDiff, Nat.reduceAdd, Nat.reduceSub, Nat.reduceMul, Nat.reduceBEq, Nat.reduceLT, Nat.reduceLeDiff, Nat.reduceMod, Nat.reducePow, List.reduceReplicate, UInt8.reduceOfNat, Int.reducePow, Int.reduceDiv, Int.reduceMod, Nat.reduceDiv, Int.reduceNeg, Int.reduceAdd, Int.reduceSub, Int.reduceMul, Int.reduceLE, Int.reduceLT, Int.reduceEq, Int.reduceToNat, reduceCtorEq]
      unfold UpdR
      refine Upd.go (H' := kb ++ H) (by intro fsum; first | exact Nat.le_refl _ | (simp only [List.map_append, List.map_cons, List.map_nil, List.sum_append, List.sum_cons, List.sum_nil, List.cons_append, List.nil_append]; omega)) ?_
      rcases hv with ⟨a0, rfl, hn, hx, rfl⟩ | ⟨b2, c2, sp, rfl, rfl, hx, hc⟩
      · refine Upd.now ?_
        have hh : headsM m = [] := by unfold headsM; rw [List.eq_nil_of_length_eq_zero hn]; rfl
        exact fun hle hs => hR _ _ (PLe.refl _) hs ⟨a0, 0, by rw [hh]; rfl, by rw [hh]; exact Row.nil _ _, by rw [hh]; exact Nat.le_refl _⟩
      · have hsE := hs
        try simp only [keys_cons, keys_app, keys_nil, Sep_cons, Sep_nil, NotIn_cons, NotIn_app, NotIn_nil, List.cons_append, List.nil_append, List.append_assoc, and_assoc, and_true, true_and] at hsE
        repeat (obtain ⟨hsx, hsE⟩ := hsE)
        refine Upd.shareRow (by assumption) fun G2 hle2 hs2 hr2 => ?_
        exact fun hle hs => hR _ _ hle2 hs ⟨some ⟨b2, 0, none⟩, c2, by unfold headsM; rw [List.length_map], hr2, by unfold headsM; rw [List.length_map] at hx hc ⊢; rw [List.length_map] at hx hc; omega⟩
end Go.Proofs.YtmnmihfinmcljaaDoor
