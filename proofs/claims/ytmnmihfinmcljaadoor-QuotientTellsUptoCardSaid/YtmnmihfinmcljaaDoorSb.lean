/- Numbers given to keys: contracts. -/
import Derived.Test.YtmnmihfinmcljaaDoorSa
set_option linter.unusedSimpArgs false
set_option linter.unusedVariables false
namespace Go.Proofs.YtmnmihfinmcljaaDoor
open Go Go.V Go.Proofs

theorem hei : KeyEnc T 3 (Value.int .i64) := keyEnc_int (T := T) (t := 3) rfl
theorem normk_t {l : List Int} {a : Option Addr} {cap b1 i : Nat} (hi : i < l.length) {G : PHeap} {H : Heap} {R : Value → PHeap → Heap → Prop} (hrow : Row G a (l.map (Value.int .i64)))
    (hg1 : G b1 = none) (hf : findH H b1 = some (.cells [.slice a l.length cap] [] 24)) (hR : R (.int .i64 l[i]) G H) : FnT Tryd.prog 39 [.int .i64 (i : Nat), .pointer (some ⟨b1, 0, none⟩)] G H R := by
  have had : Adr a := hrow.adr (by rw [List.length_map]; omega)
  refine FnT.body tok [0, 1, 3] Tryd.func39 rfl (by kernel_rfl) (by kernel_rfl) (by show _ ≤ 8; simp) fun hsep => ?_
  rw [Tryd.results39]
  have hsE := hsep
  try simp only [keys_cons, keys_app, keys_nil, Sep_cons, Sep_nil, NotIn_cons, NotIn_app, NotIn_nil, List.cons_append, List.nil_append, List.append_assoc, and_assoc, and_true, true_and] at hsE
  repeat (obtain ⟨hsx, hsE⟩ := hsE)
  repeat' first
    | with_reducible refine Br.yes ?_
    | with_reducible refine Br.no ?_
    | with_reducible refine Br.dec (fun _ => ?_) (fun _ => ?_)
    | with_reducible refine Br.beqB (fun _ => ?_) (fun _ => ?_)
    | with_reducible refine Br.beqb (fun _ => ?_) (fun _ => ?_)
    | with_reducible refine Br.mk (fun _ => ?_) (fun _ => ?_)
    | with_reducible refine foundO.mk (fun _ _ => ?_) (fun _ => ?_)
    | with_reducible refine appV.zero ?_
    | with_reducible refine appV.own ?_
    | ((with_reducible refine NewB.mk fun nb hnb => ?_); have hnb1 := hnb.1.1; have hnb2 := hnb.1.2; try simp only [keys_cons, keys_app, keys_nil, NotIn_cons, NotIn_app, NotIn_nil, and_true] at hnb2)
    | ((with_reducible refine NewRow.mk fun nb nsp ncap hnb hncap => ?_); have hnb1 := hnb.1.1; have hnb2 := hnb.1.2; try simp only [keys_cons, keys_app, keys_nil, NotIn_cons, NotIn_app, NotIn_nil, and_true] at hnb2)
    | simp (dsimp := false) (implicitDefEqProofs := false) (disch := first | assumption | (simp only [List.mem_cons, List.mem_append, true_or, or_true, eq_self]; done) | omega | (with_reducible refine Row.adr (by assumption) ?_; simp only [List.length_map, List.length_take, List.length_drop]; omega) | (simp only [List.length_cons, List.length_nil, List.length_map, List.length_append, List.length_replicate, Nat.reduceAdd, true_and, and_true, and_self]; first | done | omega)) only [go_sem, ↓reduceIte, Nat.reduceEqDiff, Nat.reduceAdd, Nat.reduceSub, Nat.reduceMul, Nat.reduceBEq, Nat.reduceLT, Nat.reduceLeDiff, Nat.reduceMod, Nat.reducePow, List.reduceReplicate, UInt8.reduceOfNat, Int.reducePow, Int.reduceDiv, Int.reduceMod, Nat.reduceDiv, Int.reduceNeg, Int.reduceAdd, Int.reduceSub, Int.reduceMul, Int.reduceLE, Int.reduceLT, Int.reduceEq, Int.reduceToNat, reduceCtorEq, hf, Row.obj hrow, List.getElem_map]
  all_goals refine Upd.finL ?_ hR ?_
  any_goals (intro fsum; first | exact Nat.le_refl _ | (simp only [List.map_append, List.map_cons, List.map_nil, List.sum_append, List.sum_cons, List.sum_nil, List.cons_append, List.nil_append]; omega))
  rfl
set_option maxHeartbeats 8000000 in
theorem numI_t {l : List Int} (hlen : l.length ≤ 2000000) {a : Option Addr} {cap b1 : Nat} {G : PHeap} {H : Heap} {R : Value → PHeap → Heap → Prop} (hrow : Row G a (l.map (Value.int .i64)))
    (hR : ∀ G' v, PLe G G' → Sep G' (keys H) → Sl G' (Value.int .i64) v (nums l) → R v G' H) : FnT Tryd.prog 38 [.int .i64 l.length, .func (.func 39) #[] #[.pointer (some ⟨b1, 0, none⟩)]] G ((b1, .cells [.slice a l.length cap] [] 24) :: H) R := by
  refine FnT.sep ?_
  refine FnT.body tok [0, 1, 4, 5, 6, 7, 8, 10, 12, 13, 14, 26] Tryd.func38 rfl (by kernel_rfl) (by kernel_rfl) (by show _ ≤ 39; simp) fun hsep => ?_
  rw [Tryd.results38]
  have hsE := hsep
  try simp only [keys_cons, keys_app, keys_nil, Sep_cons, Sep_nil, NotIn_cons, NotIn_app, NotIn_nil, List.cons_append, List.nil_append, List.append_assoc, and_assoc, and_true, true_and] at hsE
  repeat (obtain ⟨hsx, hsE⟩ := hsE)
  repeat' first
    | with_reducible refine Br.yes ?_
    | with_reducible refine Br.no ?_
    | with_reducible refine Br.dec (fun _ => ?_) (fun _ => ?_)
    | with_reducible refine Br.beqB (fun _ => ?_) (fun _ => ?_)
    | with_reducible refine Br.beqb (fun _ => ?_) (fun _ => ?_)
    | with_reducible refine Br.mk (fun _ => ?_) (fun _ => ?_)
    | with_reducible refine foundO.mk (fun _ _ => ?_) (fun _ => ?_)
    | with_reducible refine appV.zero ?_
    | with_reducible refine appV.own ?_
    | ((with_reducible refine NewB.mk fun nb hnb => ?_); have hnb1 := hnb.1.1; have hnb2 := hnb.1.2; try simp only [keys_cons, keys_app, keys_nil, NotIn_cons, NotIn_app, NotIn_nil, and_true] at hnb2)
    | ((with_reducible refine NewRow.mk fun nb nsp ncap hnb hncap => ?_); have hnb1 := hnb.1.1; have hnb2 := hnb.1.2; try simp only [keys_cons, keys_app, keys_nil, NotIn_cons, NotIn_app, NotIn_nil, and_true] at hnb2)
    | simp (dsimp := false) (implicitDefEqProofs := false) (disch := first | assumption | (simp only [List.mem_cons, List.mem_append, true_or, or_true, eq_self]; done) | omega | (with_reducible refine Row.adr (by assumption) ?_; simp only [List.length_map, List.length_take, List.length_drop]; omega) | (simp only [List.length_cons, List.length_nil, List.length_map, List.length_append, List.length_replicate, Nat.reduceAdd, true_and, and_true, and_self]; first | done | omega)) only [go_sem, ↓reduceIte, Nat.reduceEqDiff, Nat.reduceAdd, Nat.reduceSub, Nat.reduceMul, Nat.reduceBEq, Nat.reduceLT, Nat.reduceLeDiff, Nat.reduceMod, Nat.reducePow, List.reduceReplicate, UInt8.reduceOfNat, Int.reducePow, Int.reduceDiv, Int.reduceMod, Nat.reduceDiv, Int.reduceNeg, Int.reduceAdd, Int.reduceSub, Int.reduceMul, Int.reduceLE, Int.reduceLT, Int.reduceEq, Int.reduceToNat, reduceCtorEq]
  revert nb
  intro bm hbm hbm1 hbm2
  refine Tri.loopU tok [0, 1, 4, 5, 6, 7, 8, 10, 12, 13, 14, 26] (by kernel_rfl) [0, 1, 4, 5, 6, 12, 13] (fun q G' fr H' => ∃ (i : Nat) (v : Value) (kb : Heap), i + q = l.length ∧ G' = G ∧ SliceO [] 3 1 v i ((nums (l.take i)).map (Value.int .i64)) kb ∧ H' = (bm, .map ((numb 0 (tabO (l.take i))).map fun p => ((Value.int .i64) p.1, Value.int .i64 p.2))) :: (b1, .cells [.slice a l.length cap] [] 24) :: (kb ++ H) ∧ fr = [(0, .int .i64 l.length), (1, .func (.func 39) #[] #[.pointer (some ⟨b1, 0, none⟩)]), (4, .slice none 0 0), (5, .map (some bm)), (6, v), (12, .int .i64 l.length), (13, .int .i64 i)]) (l.length) ?_ ?_
  · exact Upd.now ⟨0, _, [], by omega, rfl, .inl ⟨none, rfl, rfl, rfl, rfl⟩, rfl, rfl⟩
  · rintro q G1 fr H' hle hs ⟨i, v, kb, hi, rfl, hv, rfl, rfl⟩
    have hnl : (nums (l.take i)).length = i := by rw [nums_len, List.length_take]; omega
    have htl := tabO_len (l.take i)
    rw [List.length_take] at htl
    by_cases hil : i < l.length
    · have htk := List.take_succ_eq_append_getElem hil
      rcases hp : place (tabO (l.take i)) l[i] with _ | n
      · have hnn := nums_new hp
        have hpe := place_end (place_none hp)
        rw [← htk] at hnn
        rcases hv with ⟨a0, rfl, hn, hx, rfl⟩ | ⟨b2, c2, sp, rfl, rfl, hx, hc⟩
        · have hsE := hs
          try simp only [keys_cons, keys_app, keys_nil, Sep_cons, Sep_nil, NotIn_cons, NotIn_app, NotIn_nil, List.cons_append, List.nil_append, List.append_assoc, and_assoc, and_true, true_and] at hsE
          repeat (obtain ⟨hsx, hsE⟩ := hsE)
          repeat' first
            | with_reducible refine Br.yes ?_
            | with_reducible refine Br.no ?_
            | with_reducible refine Br.dec (fun _ => ?_) (fun _ => ?_)
            | with_reducible refine Br.beqB (fun _ => ?_) (fun _ => ?_)
            | with_reducible refine Br.beqb (fun _ => ?_) (fun _ => ?_)
            | with_reducible refine Br.mk (fun _ => ?_) (fun _ => ?_)
            | with_reducible refine foundO.mk (fun _ _ => ?_) (fun _ => ?_)
            | with_reducible refine appV.zero ?_
            | with_reducible refine appV.own ?_
            | ((with_reducible refine NewB.mk fun nb hnb => ?_); have hnb1 := hnb.1.1; have hnb2 := hnb.1.2; try simp only [keys_cons, keys_app, keys_nil, NotIn_cons, NotIn_app, NotIn_nil, and_true] at hnb2)
            | ((with_reducible refine NewRow.mk fun nb nsp ncap hnb hncap => ?_); have hnb1 := hnb.1.1; have hnb2 := hnb.1.2; try simp only [keys_cons, keys_app, keys_nil, NotIn_cons, NotIn_app, NotIn_nil, and_true] at hnb2)
            | simp (dsimp := false) (implicitDefEqProofs := false) (disch := first | assumption | (simp only [List.mem_cons, List.mem_append, true_or, or_true, eq_self]; done) | omega | (with_reducible refine Row.adr (by assumption) ?_; simp only [List.length_map, List.length_take, List.length_drop]; omega) | (simp only [List.length_cons, List.length_nil, List.length_map, List.length_append, List.length_replicate, Nat.reduceAdd, true_and, and_true, and_self]; first | done | omega)) only [go_sem, ↓reduceIte, Nat.reduceEqDiff, Nat.reduceAdd, Nat.reduceSub, Nat.reduceMul, Nat.reduceBEq, Nat.reduceLT, Nat.reduceLeDiff, Nat.reduceMod, Nat.reducePow, List.reduceReplicate, UInt8.reduceOfNat, Int.reducePow, Int.reduceDiv, Int.reduceMod, Nat.reduceDiv, Int.reduceNeg, Int.reduceAdd, Int.reduceSub, Int.reduceMul, Int.reduceLE, Int.reduceLT, Int.reduceEq, Int.reduceToNat, reduceCtorEq, findV_enc hei (Value.int .i64), keyOk_enc hei, aget_numb0, Option.map_map, putV_enc hei (Value.int .i64), aput_new, hp, hpe, List.length_map, numb_len]
            | with_reducible refine normk_t (cap := cap) hil hrow (by assumption) ?_ ?_
          have hce : (nums (l.take (i + 1))).map (Value.int .i64) = [Value.int .i64 (tabO (l.take i)).length] := by rw [hnn.2, List.map_append, hx]; rfl
          rw [← hnn.1, ← hce]
          refine Upd.go (H' := (bm, .map ((numb 0 (tabO (l.take (i + 1)))).map fun p => ((Value.int .i64) p.1, Value.int .i64 p.2))) :: (b1, .cells [.slice a l.length cap] [] 24) :: ([(nb, .cells ((nums (l.take (i + 1))).map (Value.int .i64)) nsp 3)] ++ H)) (by intro fsum; first | exact Nat.le_refl _ | (simp only [List.map_append, List.map_cons, List.map_nil, List.sum_append, List.sum_cons, List.sum_nil, List.cons_append, List.nil_append]; omega)) (Upd.now ⟨q - 1, by omega, i + 1, .slice (some ⟨nb, 0, none⟩) (i + 1) ncap, [_], by omega, rfl, .inr ⟨nb, ncap, nsp, rfl, rfl, by rw [hce]; simp [hn], by rw [hce]; simp at hncap ⊢; omega⟩, rfl, by obtain rfl : i = 0 := hn; rfl⟩)
        · have hsE := hs
          try simp only [keys_cons, keys_app, keys_nil, Sep_cons, Sep_nil, NotIn_cons, NotIn_app, NotIn_nil, List.cons_append, List.nil_append, List.append_assoc, and_assoc, and_true, true_and] at hsE
          repeat (obtain ⟨hsx, hsE⟩ := hsE)
          repeat' first
            | with_reducible refine Br.yes ?_
            | with_reducible refine Br.no ?_
            | with_reducible refine Br.dec (fun _ => ?_) (fun _ => ?_)
            | with_reducible refine Br.beqB (fun _ => ?_) (fun _ => ?_)
            | with_reducible refine Br.beqb (fun _ => ?_) (fun _ => ?_)
            | with_reducible refine Br.mk (fun _ => ?_) (fun _ => ?_)
            | with_reducible refine foundO.mk (fun _ _ => ?_) (fun _ => ?_)
            | with_reducible refine appV.zero ?_
            | with_reducible refine appV.own ?_
            | ((with_reducible refine NewB.mk fun nb hnb => ?_); have hnb1 := hnb.1.1; have hnb2 := hnb.1.2; try simp only [keys_cons, keys_app, keys_nil, NotIn_cons, NotIn_app, NotIn_nil, and_true] at hnb2)
            | ((with_reducible refine NewRow.mk fun nb nsp ncap hnb hncap => ?_); have hnb1 := hnb.1.1; have hnb2 := hnb.1.2; try simp only [keys_cons, keys_app, keys_nil, NotIn_cons, NotIn_app, NotIn_nil, and_true] at hnb2)
            | simp (dsimp := false) (implicitDefEqProofs := false) (disch := first | assumption | (simp only [List.mem_cons, List.mem_append, true_or, or_true, eq_self]; done) | omega | (with_reducible refine Row.adr (by assumption) ?_; simp only [List.length_map, List.length_take, List.length_drop]; omega) | (simp only [List.length_cons, List.length_nil, List.length_map, List.length_append, List.length_replicate, Nat.reduceAdd, true_and, and_true, and_self]; first | done | omega)) only [go_sem, ↓reduceIte, Nat.reduceEqDiff, Nat.reduceAdd, Nat.reduceSub, Nat.reduceMul, Nat.reduceBEq, Nat.reduceLT, Nat.reduceLeDiff, Nat.reduceMod, Nat.reducePow, List.reduceReplicate, UInt8.reduceOfNat, Int.reducePow, Int.reduceDiv, Int.reduceMod, Nat.reduceDiv, Int.reduceNeg, Int.reduceAdd, Int.reduceSub, Int.reduceMul, Int.reduceLE, Int.reduceLT, Int.reduceEq, Int.reduceToNat, reduceCtorEq, findV_enc hei (Value.int .i64), keyOk_enc hei, aget_numb0, Option.map_map, putV_enc hei (Value.int .i64), aput_new, hp, hpe, List.length_map, numb_len]
            | with_reducible refine normk_t (cap := cap) hil hrow (by assumption) ?_ ?_
          have hce : (nums (l.take (i + 1))).map (Value.int .i64) = (nums (l.take i)).map (Value.int .i64) ++ [Value.int .i64 (tabO (l.take i)).length] := by rw [hnn.2, List.map_append]; rfl
          rw [← hnn.1, ← hce]
          refine Upd.go (H' := (bm, .map ((numb 0 (tabO (l.take (i + 1)))).map fun p => ((Value.int .i64) p.1, Value.int .i64 p.2))) :: (b1, .cells [.slice a l.length cap] [] 24) :: ([(nb, .cells ((nums (l.take (i + 1))).map (Value.int .i64)) nsp 3)] ++ H)) (by intro fsum; first | exact Nat.le_refl _ | (simp only [List.map_append, List.map_cons, List.map_nil, List.sum_append, List.sum_cons, List.sum_nil, List.cons_append, List.nil_append]; omega)) (Upd.now ⟨q - 1, by omega, i + 1, .slice (some ⟨nb, 0, none⟩) (i + 1) ncap, [_], by omega, rfl, .inr ⟨nb, ncap, nsp, rfl, rfl, by rw [hce]; simp [hnl], by rw [hce]; simp [hnl] at hncap ⊢; omega⟩, rfl, rfl⟩)
      · have hnn := nums_old hp
        rw [← htk] at hnn
        have hn0 : i ≠ 0 := fun e => by subst e; rw [List.take_zero, tabO_nil, place_nil] at hp; cases hp
        rcases hv with ⟨a0, rfl, hn, hx, rfl⟩ | ⟨b2, c2, sp, rfl, rfl, hx, hc⟩
        · exact absurd hn hn0
        · have hsE := hs
          try simp only [keys_cons, keys_app, keys_nil, Sep_cons, Sep_nil, NotIn_cons, NotIn_app, NotIn_nil, List.cons_append, List.nil_append, List.append_assoc, and_assoc, and_true, true_and] at hsE
          repeat (obtain ⟨hsx, hsE⟩ := hsE)
          repeat' first
            | with_reducible refine Br.yes ?_
            | with_reducible refine Br.no ?_
            | with_reducible refine Br.dec (fun _ => ?_) (fun _ => ?_)
            | with_reducible refine Br.beqB (fun _ => ?_) (fun _ => ?_)
            | with_reducible refine Br.beqb (fun _ => ?_) (fun _ => ?_)
            | with_reducible refine Br.mk (fun _ => ?_) (fun _ => ?_)
            | with_reducible refine foundO.mk (fun _ _ => ?_) (fun _ => ?_)
            | with_reducible refine appV.zero ?_
            | with_reducible refine appV.own ?_
            | ((with_reducible refine NewB.mk fun nb hnb => ?_); have hnb1 := hnb.1.1; have hnb2 := hnb.1.2; try simp only [keys_cons, keys_app, keys_nil, NotIn_cons, NotIn_app, NotIn_nil, and_true] at hnb2)
            | ((with_reducible refine NewRow.mk fun nb nsp ncap hnb hncap => ?_); have hnb1 := hnb.1.1; have hnb2 := hnb.1.2; try simp only [keys_cons, keys_app, keys_nil, NotIn_cons, NotIn_app, NotIn_nil, and_true] at hnb2)
            | simp (dsimp := false) (implicitDefEqProofs := false) (disch := first | assumption | (simp only [List.mem_cons, List.mem_append, true_or, or_true, eq_self]; done) | omega | (with_reducible refine Row.adr (by assumption) ?_; simp only [List.length_map, List.length_take, List.length_drop]; omega) | (simp only [List.length_cons, List.length_nil, List.length_map, List.length_append, List.length_replicate, Nat.reduceAdd, true_and, and_true, and_self]; first | done | omega)) only [go_sem, ↓reduceIte, Nat.reduceEqDiff, Nat.reduceAdd, Nat.reduceSub, Nat.reduceMul, Nat.reduceBEq, Nat.reduceLT, Nat.reduceLeDiff, Nat.reduceMod, Nat.reducePow, List.reduceReplicate, UInt8.reduceOfNat, Int.reducePow, Int.reduceDiv, Int.reduceMod, Nat.reduceDiv, Int.reduceNeg, Int.reduceAdd, Int.reduceSub, Int.reduceMul, Int.reduceLE, Int.reduceLT, Int.reduceEq, Int.reduceToNat, reduceCtorEq, findV_enc hei (Value.int .i64), keyOk_enc hei, aget_numb0, Option.map_map, putV_enc hei (Value.int .i64), aput_new, hp, List.length_map, numb_len]
            | with_reducible refine normk_t (cap := cap) hil hrow (by assumption) ?_ ?_
          have hce : (nums (l.take (i + 1))).map (Value.int .i64) = (nums (l.take i)).map (Value.int .i64) ++ [Value.int .i64 n] := by rw [hnn.2, List.map_append]; rfl
          rw [← hnn.1, ← hce]
          refine Upd.go (H' := (bm, .map ((numb 0 (tabO (l.take (i + 1)))).map fun p => ((Value.int .i64) p.1, Value.int .i64 p.2))) :: (b1, .cells [.slice a l.length cap] [] 24) :: ([(nb, .cells ((nums (l.take (i + 1))).map (Value.int .i64)) nsp 3)] ++ H)) (by intro fsum; first | exact Nat.le_refl _ | (simp only [List.map_append, List.map_cons, List.map_nil, List.sum_append, List.sum_cons, List.sum_nil, List.cons_append, List.nil_append]; omega)) (Upd.now ⟨q - 1, by omega, i + 1, .slice (some ⟨nb, 0, none⟩) (i + 1) ncap, [_], by omega, rfl, .inr ⟨nb, ncap, nsp, rfl, rfl, by rw [hce]; simp [hnl], by rw [hce]; simp [hnl] at hncap ⊢; omega⟩, rfl, rfl⟩)
    · obtain rfl : i = l.length := by omega
      rw [List.take_length] at hv ⊢
      repeat' first
        | with_reducible refine Br.yes ?_
        | with_reducible refine Br.no ?_
        | with_reducible refine Br.dec (fun _ => ?_) (fun _ => ?_)
        | with_reducible refine Br.beqB (fun _ => ?_) (fun _ => ?_)
        | with_reducible refine Br.beqb (fun _ => ?_) (fun _ => ?_)
        | with_reducible refine Br.mk (fun _ => ?_) (fun _ => ?_)
        | with_reducible refine foundO.mk (fun _ _ => ?_) (fun _ => ?_)
        | with_reducible refine appV.zero ?_
        | with_reducible refine appV.own ?_
        | ((with_reducible refine NewB.mk fun nb hnb => ?_); have hnb1 := hnb.1.1; have hnb2 := hnb.1.2; try simp only [keys_cons, keys_app, keys_nil, NotIn_cons, NotIn_app, NotIn_nil, and_true] at hnb2)
        | ((with_reducible refine NewRow.mk fun nb nsp ncap hnb hncap => ?_); have hnb1 := hnb.1.1; have hnb2 := hnb.1.2; try simp only [keys_cons, keys_app, keys_nil, NotIn_cons, NotIn_app, NotIn_nil, and_true] at hnb2)
        | simp (dsimp := false) (implicitDefEqProofs := false) (disch := first | assumption | (simp only [List.mem_cons, List.mem_append, true_or, or_true, eq_self]; done) | omega | (with_reducible refine Row.adr (by assumption) ?_; simp only [List.length_map, List.length_take, List.length_drop]; omega) | (simp only [List.length_cons, List.length_nil, List.length_map, List.length_append, List.length_replicate, Nat.reduceAdd, true_and, and_true, and_self]; first | done | omega)) only [go_sem, ↓reduceIte, Nat.reduceEqDiff, Nat.reduceAdd, Nat.reduceSub, Nat.reduceMul, Nat.reduceBEq, Nat.reduceLT, Nat.reduceLeDiff, Nat.reduceMod, Nat.reducePow, List.reduceReplicate, UInt8.reduceOfNat, Int.reducePow, Int.reduceDiv, Int.reduceMod, Nat.reduceDiv, Int.reduceNeg, Int.reduceAdd, Int.reduceSub, Int.reduceMul, Int.reduceLE, Int.reduceLT, Int.reduceEq, Int.reduceToNat, reduceCtorEq]
      unfold UpdR
      refine Upd.go (H' := kb ++ H) (by intro fsum; first | exact Nat.le_refl _ | (simp only [List.map_append, List.map_cons, List.map_nil, List.sum_append, List.sum_cons, List.sum_nil, List.cons_append, List.nil_append]; omega)) ?_
      rcases hv with ⟨a0, rfl, hn, hx, rfl⟩ | ⟨b2, c2, sp, rfl, rfl, hx, hc⟩
      · have hl0 : l = [] := List.eq_nil_of_length_eq_zero hn
        subst hl0
        refine Upd.now ?_
        exact fun hle hs => hR _ _ (PLe.refl _) hs ⟨a0, 0, rfl, Row.nil _ _, Nat.le_refl _⟩
      · have hsE := hs
        try simp only [keys_cons, keys_app, keys_nil, Sep_cons, Sep_nil, NotIn_cons, NotIn_app, NotIn_nil, List.cons_append, List.nil_append, List.append_assoc, and_assoc, and_true, true_and] at hsE
        repeat (obtain ⟨hsx, hsE⟩ := hsE)
        refine Upd.shareRow (by assumption) fun G2 hle2 hs2 hr2 => ?_
        exact fun hle hs => hR _ _ hle2 hs ⟨some ⟨b2, 0, none⟩, c2, by rw [nums_len], hr2, by rw [nums_len]; rw [List.length_map, nums_len] at hx hc; omega⟩
end Go.Proofs.YtmnmihfinmcljaaDoor
