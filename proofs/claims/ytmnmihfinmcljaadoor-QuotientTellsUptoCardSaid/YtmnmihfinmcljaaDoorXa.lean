/- The classes of a machine by what is behind all states: columns as texts. -/
import Derived.Test.YtmnmihfinmcljaaDoorSl
import Derived.Test.YtmnmihfinmcljaaDoorVeM
set_option linter.unusedSimpArgs false
set_option linter.unusedVariables false
namespace Go.Proofs.YtmnmihfinmcljaaDoor
open Go Go.V Go.Proofs

theorem hes : KeyEnc T 9 str := keyEnc_str (T := T) (t := 9) rfl
set_option maxHeartbeats 8000000 in
theorem numS_t {l : List (List UInt8)} (hlen : l.length ≤ 2000000) {fid : FuncId} {XC : List Value} {tyX : TypeId} {b1 : Nat} {G : PHeap} {H : Heap} {R : Value → PHeap → Heap → Prop}
    (hkey : ∀ i (hi : i < l.length) (H1 : Heap) (R1 : Value → PHeap → Heap → Prop), G b1 = none → findH H1 b1 = some (.cells XC [] tyX) → R1 (str l[i]) G H1 → FnT Tryd.prog fid [.int .i64 (i : Nat), .pointer (some ⟨b1, 0, none⟩)] G H1 R1)
    (hR : ∀ G' v, PLe G G' → Sep G' (keys H) → Sl G' (Value.int .i64) v (nums l) → R v G' H) : FnT Tryd.prog 40 [.int .i64 l.length, .func (.func fid) #[] #[.pointer (some ⟨b1, 0, none⟩)]] G ((b1, .cells XC [] tyX) :: H) R := by
  refine FnT.sep ?_
  refine FnT.body tok [0, 1, 4, 5, 6, 7, 8, 10, 12, 13, 14, 26] Tryd.func40 rfl (by kernel_rfl) (by kernel_rfl) (by show _ ≤ 39; simp) fun hsep => ?_
  rw [Tryd.results40]
  have hsE := hsep
  try simp only [keys_cons, keys_app, keys_nil, Sep_cons, Sep_nil, NotIn_cons, NotIn_app, NotIn_nil, List.cons_append, List.nil_append, List.append_assoc, and_assoc, and_true, true_and] at hsE
  repeat (obtain ⟨hsx, hsE⟩ := hsE)
  repeat' first
    | with_reducible refine Br.yes ?_
    | with_reducible refine Br.no ?_
    | with_reducible refine Br.dec (fun _ => ?_) (fun _ => ?_)
    | with_reducible refine Br.beqB (fun _ => ?_) (fun _ => ?_)
    | with_reducible refine Br.beqb (fun _ => ?_) (fun _ => ?_)
    | with_reducible refine Br.mk (fun _ => ?_) (fun _ => ?_)
    | with_reducible refine foundO.mk (fun _ _ => ?_) (fun _ => ?_)
    | with_reducible refine appV.zero ?_
    | with_reducible refine appV.own ?_
    | ((with_reducible refine NewB.mk fun nb hnb => ?_); have hnb1 := hnb.1.1; have hnb2 := hnb.1.2; try simp only [keys_cons, keys_app, keys_nil, NotIn_cons, NotIn_app, NotIn_nil, and_true] at hnb2)
    | ((with_reducible refine NewRow.mk fun nb nsp ncap hnb hncap => ?_); have hnb1 := hnb.1.1; have hnb2 := hnb.1.2; try simp only [keys_cons, keys_app, keys_nil, NotIn_cons, NotIn_app, NotIn_nil, and_true] at hnb2)
    | simp (dsimp := false) (implicitDefEqProofs := false) (disch := first | assumption | (simp only [List.mem_cons, List.mem_append, true_or, or_true, eq_self]; done) | omega | (with_reducible refine Row.adr (by assumption) ?_; simp only [List.length_map, List.length_take, List.length_drop]; omega) | (simp only [List.length_cons, List.length_nil, List.length_map, List.length_append, List.length_replicate, Nat.reduceAdd, true_and, and_true, and_self]; first | done | omega)) only [go_sem, ↓reduceIte, Nat.reduceEqDiff, Nat.reduceAdd, Nat.reduceSub, Nat.reduceMul, Nat.reduceBEq, Nat.reduceLT, Nat.reduceLeDiff, Nat.reduceMod, Nat.reducePow, List.reduceReplicate, UInt8.reduceOfNat, Int.reducePow, Int.reduceDiv, Int.reduceMod, Nat.reduceDiv, Int.reduceNeg, Int.reduceAdd, Int.reduceSub, Int.reduceMul, Int.reduceLE, Int.reduceLT, Int.reduceEq, Int.reduceToNat, reduceCtorEq]
  revert nb
  intro bm hbm hbm1 hbm2
  refine Tri.loopU tok [0, 1, 4, 5, 6, 7, 8, 10, 12, 13, 14, 26] (by kernel_rfl) [0, 1, 4, 5, 6, 12, 13] (fun q G' fr H' => ∃ (i : Nat) (v : Value) (kb : Heap), i + q = l.length ∧ G' = G ∧ SliceO [] 3 1 v i ((nums (l.take i)).map (Value.int .i64)) kb ∧ H' = (bm, .map ((numb 0 (tabO (l.take i))).map fun p => (str p.1, Value.int .i64 p.2))) :: (b1, .cells XC [] tyX) :: (kb ++ H) ∧ fr = [(0, .int .i64 l.length), (1, .func (.func fid) #[] #[.pointer (some ⟨b1, 0, none⟩)]), (4, .slice none 0 0), (5, .map (some bm)), (6, v), (12, .int .i64 l.length), (13, .int .i64 i)]) (l.length) ?_ ?_
  · exact Upd.now ⟨0, _, [], by omega, rfl, .inl ⟨none, rfl, rfl, rfl, rfl⟩, rfl, rfl⟩
  · rintro q G1 fr H' hle hs ⟨i, v, kb, hi, rfl, hv, rfl, rfl⟩
    have hnl : (nums (l.take i)).length = i := by rw [nums_len, List.length_take]; omega
    have htl := tabO_len (l.take i)
    rw [List.length_take] at htl
    by_cases hil : i < l.length
    · have htk := List.take_succ_eq_append_getElem hil
      rcases hp : place (tabO (l.take i)) l[i] with _ | n
      · have hnn := nums_new hp
        have hpe := place_end (place_none hp)
        rw [← htk] at hnn
        rcases hv with ⟨a0, rfl, hn, hx, rfl⟩ | ⟨b2, c2, sp, rfl, rfl, hx, hc⟩
        · have hsE := hs
          try simp only [keys_cons, keys_app, keys_nil, Sep_cons, Sep_nil, NotIn_cons, NotIn_app, NotIn_nil, List.cons_append, List.nil_append, List.append_assoc, and_assoc, and_true, true_and] at hsE
          repeat (obtain ⟨hsx, hsE⟩ := hsE)
          repeat' first
            | with_reducible refine Br.yes ?_
            | with_reducible refine Br.no ?_
            | with_reducible refine Br.dec (fun _ => ?_) (fun _ => ?_)
            | with_reducible refine Br.beqB (fun _ => ?_) (fun _ => ?_)
            | with_reducible refine Br.beqb (fun _ => ?_) (fun _ => ?_)
            | with_reducible refine Br.mk (fun _ => ?_) (fun _ => ?_)
            | with_reducible refine foundO.mk (fun _ _ => ?_) (fun _ => ?_)
            | with_reducible refine appV.zero ?_
            | with_reducible refine appV.own ?_
            | ((with_reducible refine NewB.mk fun nb hnb => ?_); have hnb1 := hnb.1.1; have hnb2 := hnb.1.2; try simp only [keys_cons, keys_app, keys_nil, NotIn_cons, NotIn_app, NotIn_nil, and_true] at hnb2)
            | ((with_reducible refine NewRow.mk fun nb nsp ncap hnb hncap => ?_); have hnb1 := hnb.1.1; have hnb2 := hnb.1.2; try simp only [keys_cons, keys_app, keys_nil, NotIn_cons, NotIn_app, NotIn_nil, and_true] at hnb2)
            | simp (dsimp := false) (implicitDefEqProofs := false) (disch := first | assumption | (simp only [List.mem_cons, List.mem_append, true_or, or_true, eq_self]; done) | omega | (with_reducible refine Row.adr (by assumption) ?_; simp only [List.length_map, List.length_take, List.length_drop]; omega) | (simp only [List.length_cons, List.length_nil, List.length_map, List.length_append, List.length_replicate, Nat.reduceAdd, true_and, and_true, and_self]; first | done | omega)) only [go_sem, ↓reduceIte, Nat.reduceEqDiff, Nat.reduceAdd, Nat.reduceSub, Nat.reduceMul, Nat.reduceBEq, Nat.reduceLT, Nat.reduceLeDiff, Nat.reduceMod, Nat.reducePow, List.reduceReplicate, UInt8.reduceOfNat, Int.reducePow, Int.reduceDiv, Int.reduceMod, Nat.reduceDiv, Int.reduceNeg, Int.reduceAdd, Int.reduceSub, Int.reduceMul, Int.reduceLE, Int.reduceLT, Int.reduceEq, Int.reduceToNat, reduceCtorEq, findV_enc hes (Value.int .i64), keyOk_enc hes, aget_numb0, Option.map_map, putV_enc hes (Value.int .i64), aput_new, hp, hpe, List.length_map, numb_len]
            | with_reducible refine hkey i hil _ _ (by assumption) ?_ ?_
          have hce : (nums (l.take (i + 1))).map (Value.int .i64) = [Value.int .i64 (tabO (l.take i)).length] := by rw [hnn.2, List.map_append, hx]; rfl
          rw [← hnn.1, ← hce]
          refine Upd.go (H' := (bm, .map ((numb 0 (tabO (l.take (i + 1)))).map fun p => (str p.1, Value.int .i64 p.2))) :: (b1, .cells XC [] tyX) :: ([(nb, .cells ((nums (l.take (i + 1))).map (Value.int .i64)) nsp 3)] ++ H)) (by intro fsum; first | exact Nat.le_refl _ | (simp only [List.map_append, List.map_cons, List.map_nil, List.sum_append, List.sum_cons, List.sum_nil, List.cons_append, List.nil_append]; omega)) (Upd.now ⟨q - 1, by omega, i + 1, .slice (some ⟨nb, 0, none⟩) (i + 1) ncap, [_], by omega, rfl, .inr ⟨nb, ncap, nsp, rfl, rfl, by rw [hce]; simp [hn], by rw [hce]; simp at hncap ⊢; omega⟩, rfl, by obtain rfl : i = 0 := hn; rfl⟩)
        · have hsE := hs
          try simp only [keys_cons, keys_app, keys_nil, Sep_cons, Sep_nil, NotIn_cons, NotIn_app, NotIn_nil, List.cons_append, List.nil_append, List.append_assoc, and_assoc, and_true, true_and] at hsE
          repeat (obtain ⟨hsx, hsE⟩ := hsE)
          repeat' first
            | with_reducible refine Br.yes ?_
            | with_reducible refine Br.no ?_
            | with_reducible refine Br.dec (fun _ => ?_) (fun _ => ?_)
            | with_reducible refine Br.beqB (fun _ => ?_) (fun _ => ?_)
            | with_reducible refine Br.beqb (fun _ => ?_) (fun _ => ?_)
            | with_reducible refine Br.mk (fun _ => ?_) (fun _ => ?_)
            | with_reducible refine foundO.mk (fun _ _ => ?_) (fun _ => ?_)
            | with_reducible refine appV.zero ?_
            | with_reducible refine appV.own ?_
            | ((with_reducible refine NewB.mk fun nb hnb => ?_); have hnb1 := hnb.1.1; have hnb2 := hnb.1.2; try simp only [keys_cons, keys_app, keys_nil, NotIn_cons, NotIn_app, NotIn_nil, and_true] at hnb2)
            | ((with_reducible refine NewRow.mk fun nb nsp ncap hnb hncap => ?_); have hnb1 := hnb.1.1; have hnb2 := hnb.1.2; try simp only [keys_cons, keys_app, keys_nil, NotIn_cons, NotIn_app, NotIn_nil, and_true] at hnb2)
            | simp (dsimp := false) (implicitDefEqProofs := false) (disch := first | assumption | (simp only [List.mem_cons, List.mem_append, true_or, or_true, eq_self]; done) | omega | (with_reducible refine Row.adr (by assumption) ?_; simp only [List.length_map, List.length_take, List.length_drop]; omega) | (simp only [List.length_cons, List.length_nil, List.length_map, List.length_append, List.length_replicate, Nat.reduceAdd, true_and, and_true, and_self]; first | done | omega)) only [go_sem, ↓reduceIte, Nat.reduceEqDiff, Nat.reduceAdd, Nat.reduceSub, Nat.reduceMul, Nat.reduceBEq, Nat.reduceLT, Nat.reduceLeDiff, Nat.reduceMod, Nat.reducePow, List.reduceReplicate, UInt8.reduceOfNat, Int.reducePow, Int.reduceDiv, Int.reduceMod, Nat.reduceDiv, Int.reduceNeg, Int.reduceAdd, Int.reduceSub, Int.reduceMul, Int.reduceLE, Int.reduceLT, Int.reduceEq, Int.reduceToNat, reduceCtorEq, findV_enc hes (Value.int .i64), keyOk_enc hes, aget_numb0, Option.map_map, putV_enc hes (Value.int .i64), aput_new, hp, hpe, List.length_map, numb_len]
            | with_reducible refine hkey i hil _ _ (by assumption) ?_ ?_
          have hce : (nums (l.take (i + 1))).map (Value.int .i64) = (nums (l.take i)).map (Value.int .i64) ++ [Value.int .i64 (tabO (l.take i)).length] := by rw [hnn.2, List.map_append]; rfl
          rw [← hnn.1, ← hce]
          refine Upd.go (H' := (bm, .map ((numb 0 (tabO (l.take (i + 1)))).map fun p => (str p.1, Value.int .i64 p.2))) :: (b1, .cells XC [] tyX) :: ([(nb, .cells ((nums (l.take (i + 1))).map (Value.int .i64)) nsp 3)] ++ H)) (by intro fsum; first | exact Nat.le_refl _ | (simp only [List.map_append, List.map_cons, List.map_nil, List.sum_append, List.sum_cons, List.sum_nil, List.cons_append, List.nil_append]; omega)) (Upd.now ⟨q - 1, by omega, i + 1, .slice (some ⟨nb, 0, none⟩) (i + 1) ncap, [_], by omega, rfl, .inr ⟨nb, ncap, nsp, rfl, rfl, by rw [hce]; simp [hnl], by rw [hce]; simp [hnl] at hncap ⊢; omega⟩, rfl, rfl⟩)
      · have hnn := nums_old hp
        rw [← htk] at hnn
        have hn0 : i ≠ 0 := fun e => by subst e; rw [List.take_zero, tabO_nil, place_nil] at hp; cases hp
        rcases hv with ⟨a0, rfl, hn, hx, rfl⟩ | ⟨b2, c2, sp, rfl, rfl, hx, hc⟩
        · exact absurd hn hn0
        · have hsE := hs
          try simp only [keys_cons, keys_app, keys_nil, Sep_cons, Sep_nil, NotIn_cons, NotIn_app, NotIn_nil, List.cons_append, List.nil_append, List.append_assoc, and_assoc, and_true, true_and] at hsE
          repeat (obtain ⟨hsx, hsE⟩ := hsE)
          repeat' first
            | with_reducible refine Br.yes ?_
            | with_reducible refine Br.no ?_
            | with_reducible refine Br.dec (fun _ => ?_) (fun _ => ?_)
            | with_reducible refine Br.beqB (fun _ => ?_) (fun _ => ?_)
            | with_reducible refine Br.beqb (fun _ => ?_) (fun _ => ?_)
            | with_reducible refine Br.mk (fun _ => ?_) (fun _ => ?_)
            | with_reducible refine foundO.mk (fun _ _ => ?_) (fun _ => ?_)
            | with_reducible refine appV.zero ?_
            | with_reducible refine appV.own ?_
            | ((with_reducible refine NewB.mk fun nb hnb => ?_); have hnb1 := hnb.1.1; have hnb2 := hnb.1.2; try simp only [keys_cons, keys_app, keys_nil, NotIn_cons, NotIn_app, NotIn_nil, and_true] at hnb2)
            | ((with_reducible refine NewRow.mk fun nb nsp ncap hnb hncap => ?_); have hnb1 := hnb.1.1; have hnb2 := hnb.1.2; try simp only [keys_cons, keys_app, keys_nil, NotIn_cons, NotIn_app, NotIn_nil, and_true] at hnb2)
            | simp (dsimp := false) (implicitDefEqProofs := false) (disch := first | assumption | (simp only [List.mem_cons, List.mem_append, true_or, or_true, eq_self]; done) | omega | (with_reducible refine Row.adr (by assumption) ?_; simp only [List.length_map, List.length_take, List.length_drop]; omega) | (simp only [List.length_cons, List.length_nil, List.length_map, List.length_append, List.length_replicate, Nat.reduceAdd, true_and, and_true, and_self]; first | done | omega)) only [go_sem, ↓reduceIte, Nat.reduceEqDiff, Nat.reduceAdd, Nat.reduceSub, Nat.reduceMul, Nat.reduceBEq, Nat.reduceLT, Nat.reduceLeDiff, Nat.reduceMod, Nat.reducePow, List.reduceReplicate, UInt8.reduceOfNat, Int.reducePow, Int.reduceDiv, Int.reduceMod, Nat.reduceDiv, Int.reduceNeg, Int.reduceAdd, Int.reduceSub, Int.reduceMul, Int.reduceLE, Int.reduceLT, Int.reduceEq, Int.reduceToNat, reduceCtorEq, findV_enc hes (Value.int .i64), keyOk_enc hes, aget_numb0, Option.map_map, putV_enc hes (Value.int .i64), aput_new, hp, List.length_map, numb_len]
            | with_reducible refine hkey i hil _ _ (by assumption) ?_ ?_
          have hce : (nums (l.take (i + 1))).map (Value.int .i64) = (nums (l.take i)).map (Value.int .i64) ++ [Value.int .i64 n] := by rw [hnn.2, List.map_append]; rfl
          rw [← hnn.1, ← hce]
          refine Upd.go (H' := (bm, .map ((numb 0 (tabO (l.take (i + 1)))).map fun p => (str p.1, Value.int .i64 p.2))) :: (b1, .cells XC [] tyX) :: ([(nb, .cells ((nums (l.take (i + 1))).map (Value.int .i64)) nsp 3)] ++ H)) (by intro fsum; first | exact Nat.le_refl _ | (simp only [List.map_append, List.map_cons, List.map_nil, List.sum_append, List.sum_cons, List.sum_nil, List.cons_append, List.nil_append]; omega)) (Upd.now ⟨q - 1, by omega, i + 1, .slice (some ⟨nb, 0, none⟩) (i + 1) ncap, [_], by omega, rfl, .inr ⟨nb, ncap, nsp, rfl, rfl, by rw [hce]; simp [hnl], by rw [hce]; simp [hnl] at hncap ⊢; omega⟩, rfl, rfl⟩)
    · obtain rfl : i = l.length := by omega
      rw [List.take_length] at hv ⊢
      repeat' first
        | with_reducible refine Br.yes ?_
        | with_reducible refine Br.no ?_
        | with_reducible refine Br.dec (fun _ => ?_) (fun _ => ?_)
        | with_reducible refine Br.beqB (fun _ => ?_) (fun _ => ?_)
        | with_reducible refine Br.beqb (fun _ => ?_) (fun _ => ?_)
        | with_reducible refine Br.mk (fun _ => ?_) (fun _ => ?_)
        | with_reducible refine foundO.mk (fun _ _ => ?_) (fun _ => ?_)
        | with_reducible refine appV.zero ?_
        | with_reducible refine appV.own ?_
        | ((with_reducible refine NewB.mk fun nb hnb => ?_); have hnb1 := hnb.1.1; have hnb2 := hnb.1.2; try simp only [keys_cons, keys_app, keys_nil, NotIn_cons, NotIn_app, NotIn_nil, and_true] at hnb2)
        | ((with_reducible refine NewRow.mk fun nb nsp ncap hnb hncap => ?_); have hnb1 := hnb.1.1; have hnb2 := hnb.1.2; try simp only [keys_cons, keys_app, keys_nil, NotIn_cons, NotIn_app, NotIn_nil, and_true] at hnb2)
        | simp (dsimp := false) (implicitDefEqProofs := false) (disch := first | assumption | (simp only [List.mem_cons, List.mem_append, true_or, or_true, eq_self]; done) | omega | (with_reducible refine Row.adr (by assumption) ?_; simp only [List.length_map, List.length_take, List.length_drop]; omega) | (simp only [List.length_cons, List.length_nil, List.length_map, List.length_append, List.length_replicate, Nat.reduceAdd, true_and, and_true, and_self]; first | done | omega)) only [go_sem, ↓reduceIte, Nat.reduceEqDiff, Nat.reduceAdd, Nat.reduceSub, Nat.reduceMul, Nat.reduceBEq, Nat.reduceLT, Nat.reduceLeDiff, Nat.reduceMod, Nat.reducePow, List.reduceReplicate, UInt8.reduceOfNat, Int.reducePow, Int.reduceDiv, Int.reduceMod, Nat.reduceDiv, Int.reduceNeg, Int.reduceAdd, Int.reduceSub, Int.reduceMul, Int.reduceLE, Int.reduceLT, Int.reduceEq, Int.reduceToNat, reduceCtorEq]
      unfold UpdR
      refine Upd.go (H' := kb ++ H) (by intro fsum; first | exact Nat.le_refl _ | (simp only [List.map_append, List.map_cons, List.map_nil, List.sum_append, List.sum_cons, List.sum_nil, List.cons_append, List.nil_append]; omega)) ?_
      rcases hv with ⟨a0, rfl, hn, hx, rfl⟩ | ⟨b2, c2, sp, rfl, rfl, hx, hc⟩
      · have hl0 : l = [] := List.eq_nil_of_length_eq_zero hn
        subst hl0
        refine Upd.now ?_
        exact fun hle hs => hR _ _ (PLe.refl _) hs ⟨a0, 0, rfl, Row.nil _ _, Nat.le_refl _⟩
      · have hsE := hs
        try simp only [keys_cons, keys_app, keys_nil, Sep_cons, Sep_nil, NotIn_cons, NotIn_app, NotIn_nil, List.cons_append, List.nil_append, List.append_assoc, and_assoc, and_true, true_and] at hsE
        repeat (obtain ⟨hsx, hsE⟩ := hsE)
        refine Upd.shareRow (by assumption) fun G2 hle2 hs2 hr2 => ?_
        exact fun hle hs => hR _ _ hle2 hs ⟨some ⟨b2, 0, none⟩, c2, by rw [nums_len], hr2, by rw [nums_len]; rw [List.length_map, nums_len] at hx hc; omega⟩
/-- a state as three bytes; a column of states as bytes -/
def b3 (n : Nat) : List UInt8 := [UInt8.ofNat n, UInt8.ofNat (n / 256), UInt8.ofNat (n / 65536)]
def colT (d : DfaT) (k s : Nat) : List UInt8 := (d.next.take s).flatMap fun r => b3 (atL r k).toNat
def colB (d : DfaT) (k : Nat) : List UInt8 := colT d k d.next.length
theorem colT_succ (d : DfaT) (k : Nat) {s : Nat} (h : s < d.next.length) : colT d k (s + 1) = colT d k s ++ b3 (atL d.next[s] k).toNat := by
  unfold colT
  rw [List.take_succ_eq_append_getElem h, List.flatMap_append]; simp
theorem colT_len (d : DfaT) (k : Nat) : ∀ s, s ≤ d.next.length → (colT d k s).length = 3 * s
  | 0, _ => by simp [colT]
  | s + 1, h => by rw [colT_succ d k (by omega), List.length_append, colT_len d k s (by omega)]; simp [b3]; omega
theorem b3_inj {n m : Nat} (hn : n < 16777216) (hm : m < 16777216) (h : b3 n = b3 m) : n = m := by
  unfold b3 at h
  simp only [List.cons.injEq, and_true] at h
  obtain ⟨h1, h2, h3⟩ := h
  have g1 := congrArg UInt8.toNat h1
  have g2 := congrArg UInt8.toNat h2
  have g3 := congrArg UInt8.toNat h3
  simp only [UInt8.toNat_ofNat'] at g1 g2 g3
  omega
theorem colT_inj {d : DfaT} {k k' : Nat} (hs : ∀ s (h : s < d.next.length), (atL d.next[s] k).toNat < 16777216 ∧ (atL d.next[s] k').toNat < 16777216) : ∀ n, n ≤ d.next.length → (colT d k n = colT d k' n ↔ ∀ s (h : s < d.next.length), s < n → (atL d.next[s] k).toNat = (atL d.next[s] k').toNat)
  | 0, _ => ⟨fun _ s _ h => by omega, fun _ => rfl⟩
  | n + 1, hn => by
    have ih := colT_inj hs n (by omega)
    rw [colT_succ d k (by omega), colT_succ d k' (by omega)]
    constructor
    · intro h
      have hl : (colT d k n).length = (colT d k' n).length := by rw [colT_len d k n (by omega), colT_len d k' n (by omega)]
      obtain ⟨h1, h2⟩ := List.append_inj h hl
      intro s hs1 hsn
      by_cases e : s = n
      · subst e; exact b3_inj (hs s hs1).1 (hs s hs1).2 h2
      · exact ih.1 h1 s hs1 (by omega)
    · intro h
      rw [ih.2 fun s h1 h2 => h s h1 (by omega), h n (by omega) (by omega)]
theorem u8_nat (n : Nat) : IntKind.u8.wrap (n : Int) = ((UInt8.ofNat n).toNat : Int) := by
  rw [UInt8.toNat_ofNat']
  simp only [IntKind.wrap, IntKind.bits, IntKind.signed]
  simp
set_option maxHeartbeats 8000000 in
theorem col_t {d : DfaT} (hsm : SmallD d) (hok : RightP d) {C : List Value} {an al ay : Option Addr} {cn cl cs : Nat} {rs : List Value} {G : PHeap} (O : OpenD G d C an al ay cn cl cs rs) {b1 : Nat} {k : Nat} (hk : (k : Int) < d.width)
    {H : Heap} {R : Value → PHeap → Heap → Prop} (hg : G b1 = none) (hf : findH H b1 = some (.cells C [] 27)) (hR : R (str (colB d k)) G H) : FnT Tryd.prog 41 [.int .i64 (k : Nat), .pointer (some ⟨b1, 0, none⟩)] G H R := by
  obtain ⟨hk1, hk2, hk3, hk4, hk5, hk6, hk7⟩ := id hok
  have hCl := O.len
  have hCn := O.n
  have hrnl := O.rnl
  refine FnT.sep ?_
  refine FnT.body tok [0, 1, 3, 4, 6, 13, 14, 15, 16] Tryd.func41 rfl (by kernel_rfl) (by kernel_rfl) (by show _ ≤ 42; simp) fun hsep => ?_
  rw [Tryd.results41]
  have hsE := hsep
  try simp only [keys_cons, keys_app, keys_nil, Sep_cons, Sep_nil, NotIn_cons, NotIn_app, NotIn_nil, List.cons_append, List.nil_append, List.append_assoc, and_assoc, and_true, true_and] at hsE
  repeat (obtain ⟨hsx, hsE⟩ := hsE)
  repeat' first
    | with_reducible refine Br.yes ?_
    | with_reducible refine Br.no ?_
    | with_reducible refine Br.dec (fun _ => ?_) (fun _ => ?_)
    | with_reducible refine Br.beqB (fun _ => ?_) (fun _ => ?_)
    | with_reducible refine Br.beqb (fun _ => ?_) (fun _ => ?_)
    | with_reducible refine Br.mk (fun _ => ?_) (fun _ => ?_)
    | with_reducible refine foundO.mk (fun _ _ => ?_) (fun _ => ?_)
    | with_reducible refine appV.zero ?_
    | with_reducible refine appV.own ?_
    | ((with_reducible refine NewB.mk fun nb hnb => ?_); have hnb1 := hnb.1.1; have hnb2 := hnb.1.2; try simp only [keys_cons, keys_app, keys_nil, NotIn_cons, NotIn_app, NotIn_nil, and_true] at hnb2)
    | ((with_reducible refine NewRow.mk fun nb nsp ncap hnb hncap => ?_); have hnb1 := hnb.1.1; have hnb2 := hnb.1.2; try simp only [keys_cons, keys_app, keys_nil, NotIn_cons, NotIn_app, NotIn_nil, and_true] at hnb2)
    | simp (dsimp := false) (implicitDefEqProofs := false) (disch := first | assumption | (simp only [List.mem_cons, List.mem_append, true_or, or_true, eq_self]; done) | omega | (with_reducible refine Row.adr (by assumption) ?_; simp only [List.length_map, List.length_take, List.length_drop]; omega) | (simp only [List.length_cons, List.length_nil, List.length_map, List.length_append, List.length_replicate, Nat.reduceAdd, true_and, and_true, and_self]; first | done | omega)) only [go_sem, ↓reduceIte, Nat.reduceEqDiff, Nat.reduceAdd, Nat.reduceSub, Nat.reduceMul, Nat.reduceBEq, Nat.reduceLT, Nat.reduceLeDiff, Nat.reduceMod, Nat.reducePow, List.reduceReplicate, UInt8.reduceOfNat, Int.reducePow, Int.reduceDiv, Int.reduceMod, Nat.reduceDiv, Int.reduceNeg, Int.reduceAdd, Int.reduceSub, Int.reduceMul, Int.reduceLE, Int.reduceLT, Int.reduceEq, Int.reduceToNat, reduceCtorEq, -List.reduceReplicate, hf, hCl, hCn, List.replicate_zero]
  have hne := NotIn.neFind hnb2 hf
  repeat' first
    | with_reducible refine Br.yes ?_
    | with_reducible refine Br.no ?_
    | with_reducible refine Br.dec (fun _ => ?_) (fun _ => ?_)
    | with_reducible refine Br.beqB (fun _ => ?_) (fun _ => ?_)
    | with_reducible refine Br.beqb (fun _ => ?_) (fun _ => ?_)
    | with_reducible refine Br.mk (fun _ => ?_) (fun _ => ?_)
    | with_reducible refine foundO.mk (fun _ _ => ?_) (fun _ => ?_)
    | with_reducible refine appV.zero ?_
    | with_reducible refine appV.own ?_
    | ((with_reducible refine NewB.mk fun nb hnb => ?_); have hnb1 := hnb.1.1; have hnb2 := hnb.1.2; try simp only [keys_cons, keys_app, keys_nil, NotIn_cons, NotIn_app, NotIn_nil, and_true] at hnb2)
    | ((with_reducible refine NewRow.mk fun nb nsp ncap hnb hncap => ?_); have hnb1 := hnb.1.1; have hnb2 := hnb.1.2; try simp only [keys_cons, keys_app, keys_nil, NotIn_cons, NotIn_app, NotIn_nil, and_true] at hnb2)
    | simp (dsimp := false) (implicitDefEqProofs := false) (disch := first | assumption | (simp only [List.mem_cons, List.mem_append, true_or, or_true, eq_self]; done) | omega | (with_reducible refine Row.adr (by assumption) ?_; simp only [List.length_map, List.length_take, List.length_drop]; omega) | (simp only [List.length_cons, List.length_nil, List.length_map, List.length_append, List.length_replicate, Nat.reduceAdd, true_and, and_true, and_self]; first | done | omega)) only [go_sem, ↓reduceIte, Nat.reduceEqDiff, Nat.reduceAdd, Nat.reduceSub, Nat.reduceMul, Nat.reduceBEq, Nat.reduceLT, Nat.reduceLeDiff, Nat.reduceMod, Nat.reducePow, List.reduceReplicate, UInt8.reduceOfNat, Int.reducePow, Int.reduceDiv, Int.reduceMod, Nat.reduceDiv, Int.reduceNeg, Int.reduceAdd, Int.reduceSub, Int.reduceMul, Int.reduceLE, Int.reduceLT, Int.reduceEq, Int.reduceToNat, reduceCtorEq, -List.reduceReplicate, hf, hCl, hCn, List.replicate_zero]
  refine Tri.loopU tok [0, 1, 3, 4, 6, 13, 14, 15, 16] (by kernel_rfl) [0, 1, 3, 4, 13, 14, 15] (fun q G' fr H' => ∃ (s br c : Nat) (sp : List Value), s + q = d.next.length ∧ 3 * s + sp.length = c ∧ G' = G ∧ H' = (br, .cells ((colT d k s).map byteV) sp 5) :: H ∧ fr = [(0, .int .i64 (k : Nat)), (1, .pointer (some ⟨b1, 0, none⟩)), (3, .string ⟨#[]⟩), (4, .slice (some ⟨br, 0, none⟩) (3 * s) c), (13, .slice an d.next.length cn), (14, .int .i64 (d.next.length : Nat)), (15, .int .i64 (s : Nat))]) (d.next.length) ?_ ?_
  · refine Upd.now ?_
    exact ⟨0, nb, _, _, by omega, by rw [List.length_replicate]; omega, rfl, rfl, rfl⟩
  · rintro q G1 fr H' hle hs1 ⟨s, br, c, sp, hsq, hc, rfl, rfl, rfl⟩
    have hsE := hs1
    try simp only [keys_cons, keys_app, keys_nil, Sep_cons, Sep_nil, NotIn_cons, NotIn_app, NotIn_nil, List.cons_append, List.nil_append, List.append_assoc, and_assoc, and_true, true_and] at hsE
    repeat (obtain ⟨hsx, hsE⟩ := hsE)
    have hcl := colT_len d k s (by omega)
    have hml : ((colT d k s).map byteV).length = 3 * s := by rw [List.length_map, hcl]
    by_cases hsn : s < d.next.length
    · have had : Adr an := O.rn.adr (by omega)
      obtain ⟨b, cc, e1, e2, e3⟩ := O.rs s hsn (by omega)
      obtain ⟨hw1, hw2, hw3, hw4⟩ := hk7 s hsn (by omega)
      have hrl := hsm.2.1 _ (List.getElem_mem hsn)
      have hkr : k < (d.next[s]).length := by omega
      have had2 : Adr b := e2.adr (by rw [List.length_map]; omega)
      have hx := hw4 _ (List.getElem_mem hkr)
      obtain ⟨t, ht⟩ := Int.eq_ofNat_of_zero_le hx.1
      have hat : (atL d.next[s] k).toNat = t := by rw [atL_get (by simpa using hkr)]; simp only [Int.toNat_natCast, ht]
      have hsucc := colT_succ d k hsn
      rw [hat] at hsucc
      have w0 := u8_nat t
      have w1 : IntKind.u8.wrap ((t : Int) / 256) = ((UInt8.ofNat (t / 256)).toNat : Int) := by rw [← u8_nat]; rfl
      have w2 : IntKind.u8.wrap ((t : Int) / 65536) = ((UInt8.ofNat (t / 65536)).toNat : Int) := by rw [← u8_nat]; rfl
      have hm2 : (colT d k s).map byteV ++ [.int .u8 ((UInt8.ofNat t).toNat : Int), .int .u8 ((UInt8.ofNat (t / 256)).toNat : Int), .int .u8 ((UInt8.ofNat (t / 65536)).toNat : Int)] = (colT d k (s + 1)).map byteV := by rw [hsucc, List.map_append]; rfl
      have hr3 : ∀ x : Value, List.replicate 3 x = [x, x, x] := fun _ => rfl
      repeat' first
        | with_reducible refine Br.yes ?_
        | with_reducible refine Br.no ?_
        | with_reducible refine Br.dec (fun _ => ?_) (fun _ => ?_)
        | with_reducible refine Br.beqB (fun _ => ?_) (fun _ => ?_)
        | with_reducible refine Br.beqb (fun _ => ?_) (fun _ => ?_)
        | with_reducible refine Br.mk (fun _ => ?_) (fun _ => ?_)
        | with_reducible refine foundO.mk (fun _ _ => ?_) (fun _ => ?_)
        | with_reducible refine appV.zero ?_
        | with_reducible refine appV.own ?_
        | ((with_reducible refine NewB.mk fun nb hnb => ?_); have hnb1 := hnb.1.1; have hnb2 := hnb.1.2; try simp only [keys_cons, keys_app, keys_nil, NotIn_cons, NotIn_app, NotIn_nil, and_true] at hnb2)
        | ((with_reducible refine NewRow.mk fun nb nsp ncap hnb hncap => ?_); have hnb1 := hnb.1.1; have hnb2 := hnb.1.2; try simp only [keys_cons, keys_app, keys_nil, NotIn_cons, NotIn_app, NotIn_nil, and_true] at hnb2)
        | simp (dsimp := false) (implicitDefEqProofs := false) (disch := first | assumption | (simp only [List.mem_cons, List.mem_append, true_or, or_true, eq_self]; done) | omega | (with_reducible refine Row.adr (by assumption) ?_; simp only [List.length_map, List.length_take, List.length_drop]; omega) | (simp only [List.length_cons, List.length_nil, List.length_map, List.length_append, List.length_replicate, Nat.reduceAdd, true_and, and_true, and_self]; first | done | omega)) only [go_sem, ↓reduceIte, Nat.reduceEqDiff, Nat.reduceAdd, Nat.reduceSub, Nat.reduceMul, Nat.reduceBEq, Nat.reduceLT, Nat.reduceLeDiff, Nat.reduceMod, Nat.reducePow, List.reduceReplicate, UInt8.reduceOfNat, Int.reducePow, Int.reduceDiv, Int.reduceMod, Nat.reduceDiv, Int.reduceNeg, Int.reduceAdd, Int.reduceSub, Int.reduceMul, Int.reduceLE, Int.reduceLT, Int.reduceEq, Int.reduceToNat, reduceCtorEq, -List.reduceReplicate, Row.obj O.rn, e1, Row.obj e2, List.getElem_map, ht, w0, w1, w2, hr3]
        | with_reducible refine Tri.drawH tok mixed [0, 1, 3, 4, 6, 13, 14, 15, 16] 5 [4, 9, 15] (.op 0 .plain (.op 1 .plain (.op 2 .plain (.op 3 .plain (.op 4 .held (.op 5 .plain (.op 6 .plain (.op 7 .plain (.op 8 .plain (.op 9 .held (.op 10 .plain (.op 11 .plain (.op 12 .plain (.op 13 .plain (.op 14 .plain (.op 15 .held (.op 16 .plain (.op 17 .plain (.op 18 .keeps (.op 19 .keeps (.op 20 .plain .nil))))))))))))))))))))) (by kernel_rfl) [6] ?_
      rw [hm2]
      refine Upd.go (H' := (nb, .cells ((colT d k (s + 1)).map byteV) nsp 5) :: H) (by intro fsum; first | exact Nat.le_refl _ | (simp only [List.map_append, List.map_cons, List.map_nil, List.sum_append, List.sum_cons, List.sum_nil, List.cons_append, List.nil_append]; omega)) (Upd.now ⟨q - 1, by omega, s + 1, nb, ncap, nsp, by omega, by omega, rfl, rfl, rfl⟩)
    · obtain rfl : s = d.next.length := by omega
      repeat' first
        | with_reducible refine Br.yes ?_
        | with_reducible refine Br.no ?_
        | with_reducible refine Br.dec (fun _ => ?_) (fun _ => ?_)
        | with_reducible refine Br.beqB (fun _ => ?_) (fun _ => ?_)
        | with_reducible refine Br.beqb (fun _ => ?_) (fun _ => ?_)
        | with_reducible refine Br.mk (fun _ => ?_) (fun _ => ?_)
        | with_reducible refine foundO.mk (fun _ _ => ?_) (fun _ => ?_)
        | with_reducible refine appV.zero ?_
        | with_reducible refine appV.own ?_
        | ((with_reducible refine NewB.mk fun nb hnb => ?_); have hnb1 := hnb.1.1; have hnb2 := hnb.1.2; try simp only [keys_cons, keys_app, keys_nil, NotIn_cons, NotIn_app, NotIn_nil, and_true] at hnb2)
        | ((with_reducible refine NewRow.mk fun nb nsp ncap hnb hncap => ?_); have hnb1 := hnb.1.1; have hnb2 := hnb.1.2; try simp only [keys_cons, keys_app, keys_nil, NotIn_cons, NotIn_app, NotIn_nil, and_true] at hnb2)
        | simp (dsimp := false) (implicitDefEqProofs := false) (disch := first | assumption | (simp only [List.mem_cons, List.mem_append, true_or, or_true, eq_self]; done) | omega | (with_reducible refine Row.adr (by assumption) ?_; simp only [List.length_map, List.length_take, List.length_drop]; omega) | (simp only [List.length_cons, List.length_nil, List.length_map, List.length_append, List.length_replicate, Nat.reduceAdd, true_and, and_true, and_self]; first | done | omega)) only [go_sem, ↓reduceIte, Nat.reduceEqDiff, Nat.reduceAdd, Nat.reduceSub, Nat.reduceMul, Nat.reduceBEq, Nat.reduceLT, Nat.reduceLeDiff, Nat.reduceMod, Nat.reducePow, List.reduceReplicate, UInt8.reduceOfNat, Int.reducePow, Int.reduceDiv, Int.reduceMod, Nat.reduceDiv, Int.reduceNeg, Int.reduceAdd, Int.reduceSub, Int.reduceMul, Int.reduceLE, Int.reduceLT, Int.reduceEq, Int.reduceToNat, reduceCtorEq, -List.reduceReplicate]
      unfold UpdR
      refine Upd.go (H' := H) (by intro fsum; first | exact Nat.le_refl _ | (simp only [List.map_append, List.map_cons, List.map_nil, List.sum_append, List.sum_cons, List.sum_nil, List.cons_append, List.nil_append]; omega)) (Upd.now fun hle hs => hR)
end Go.Proofs.YtmnmihfinmcljaaDoor
