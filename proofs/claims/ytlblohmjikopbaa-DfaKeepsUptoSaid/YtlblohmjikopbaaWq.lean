/- The document's machine with some states alone: places, the names, a label more. -/
import Derived.Test.YtlblohmjikopbaaWn
set_option linter.unusedSimpArgs false
set_option linter.unusedVariables false
namespace Go.Proofs.Ytlblohmjikopbaa
open Go Go.V Go.Proofs

theorem rplace_t {l : List Int} (hl : l.length ≤ 2000000) {x : Int} {G : PHeap} {H : Heap} {R : Value → PHeap → Heap → Prop} {v : Value} (hv : Sl G (Value.int .i64) v l)
    (hR : R (.int .i64 (findF l x)) G H) : FnT Try.prog 49 [v, .int .i64 x] G H R := by
  obtain ⟨a, cap, rfl, hrow, hcap⟩ := hv
  refine FnT.body tok [0, 1, 4, 5, 9, 17] Try.func49 rfl (by kernel_rfl) (by kernel_rfl) (by show _ ≤ 19; simp) fun hsep => ?_
  rw [Try.results49]
  have hsE := hsep
  try simp only [keys_cons, keys_app, keys_nil, Sep_cons, Sep_nil, NotIn_cons, NotIn_app, NotIn_nil, List.cons_append, List.nil_append, List.append_assoc, and_assoc, and_true, true_and] at hsE
  repeat (obtain ⟨hsx, hsE⟩ := hsE)
  repeat' first
    | with_reducible refine Br.yes ?_
    | with_reducible refine Br.no ?_
    | with_reducible refine Br.dec (fun _ => ?_) (fun _ => ?_)
    | with_reducible refine Br.beqB (fun _ => ?_) (fun _ => ?_)
    | with_reducible refine Br.beqb (fun _ => ?_) (fun _ => ?_)
    | with_reducible refine Br.mk (fun _ => ?_) (fun _ => ?_)
    | with_reducible refine foundO.mk (fun _ _ => ?_) (fun _ => ?_)
    | with_reducible refine appV.zero ?_
    | with_reducible refine appV.own ?_
    | ((with_reducible refine NewB.mk fun nb hnb => ?_); have hnb1 := hnb.1.1; have hnb2 := hnb.1.2; try simp only [keys_cons, keys_app, keys_nil, NotIn_cons, NotIn_app, NotIn_nil, and_true] at hnb2)
    | ((with_reducible refine NewRow.mk fun nb nsp ncap hnb hncap => ?_); have hnb1 := hnb.1.1; have hnb2 := hnb.1.2; try simp only [keys_cons, keys_app, keys_nil, NotIn_cons, NotIn_app, NotIn_nil, and_true] at hnb2)
    | simp (dsimp := false) (implicitDefEqProofs := false) (disch := first | assumption | (simp only [List.mem_cons, List.mem_append, true_or, or_true, eq_self]; done) | omega | (with_reducible refine Row.adr (by assumption) ?_; simp only [List.length_map, List.length_take, List.length_drop]; omega) | (simp only [List.length_cons, List.length_nil, List.length_map, List.length_append, List.length_replicate, Nat.reduceAdd, true_and, and_true, and_self]; first | done | omega)) only [go_sem, ↓reduceIte, Nat.reduceEqDiff, Nat.reduceAdd, Nat.reduceSub, Nat.reduceMul, Nat.reduceBEq, Nat.reduceLT, Nat.reduceLeDiff, Nat.reduceMod, Nat.reducePow, List.reduceReplicate, UInt8.reduceOfNat, Int.reducePow, Int.reduceDiv, Int.reduceMod, Nat.reduceDiv, Int.reduceNeg, Int.reduceAdd, Int.reduceSub, Int.reduceMul, Int.reduceLE, Int.reduceLT, Int.reduceEq, Int.reduceToNat, reduceCtorEq]
  refine Tri.loopU tok [0, 1, 4, 5, 9, 17] (by kernel_rfl) [0, 1, 4, 5] (fun q G' fr H' => ∃ i : Nat, i + q = l.length ∧ (∀ j (h : j < l.length), j < i → l[j] ≠ x) ∧ G' = G ∧ H' = H ∧ fr = [(0, .slice a l.length cap), (1, .int .i64 x), (4, .int .i64 0), (5, .int .i64 (i : Nat))]) (l.length) (Upd.now ?_) ?_
  · exact ⟨0, by omega, fun j _ h => by omega, rfl, rfl, rfl⟩
  · rintro q G' fr H' hle hs ⟨i, hi, hno, rfl, rfl, rfl⟩
    by_cases hil : i < l.length
    · have had : Adr a := hrow.adr (by rw [List.length_map]; omega)
      by_cases hx : l[i] = x
      · have hf : findF l x = (i : Int) := findF_some (place_at hil ⟨hil, rfl⟩ (fun j h hj => by rw [hx]; exact hno j h hj) |> fun h => by rw [hx] at h; exact h)
        rw [hf] at hR
        repeat' first
          | with_reducible refine Br.yes ?_
          | with_reducible refine Br.no ?_
          | with_reducible refine Br.dec (fun _ => ?_) (fun _ => ?_)
          | with_reducible refine Br.beqB (fun _ => ?_) (fun _ => ?_)
          | with_reducible refine Br.beqb (fun _ => ?_) (fun _ => ?_)
          | with_reducible refine Br.mk (fun _ => ?_) (fun _ => ?_)
          | with_reducible refine foundO.mk (fun _ _ => ?_) (fun _ => ?_)
          | with_reducible refine appV.zero ?_
          | with_reducible refine appV.own ?_
          | ((with_reducible refine NewB.mk fun nb hnb => ?_); have hnb1 := hnb.1.1; have hnb2 := hnb.1.2; try simp only [keys_cons, keys_app, keys_nil, NotIn_cons, NotIn_app, NotIn_nil, and_true] at hnb2)
          | ((with_reducible refine NewRow.mk fun nb nsp ncap hnb hncap => ?_); have hnb1 := hnb.1.1; have hnb2 := hnb.1.2; try simp only [keys_cons, keys_app, keys_nil, NotIn_cons, NotIn_app, NotIn_nil, and_true] at hnb2)
          | simp (dsimp := false) (implicitDefEqProofs := false) (disch := first | assumption | (simp only [List.mem_cons, List.mem_append, true_or, or_true, eq_self]; done) | omega | (with_reducible refine Row.adr (by assumption) ?_; simp only [List.length_map, List.length_take, List.length_drop]; omega) | (simp only [List.length_cons, List.length_nil, List.length_map, List.length_append, List.length_replicate, Nat.reduceAdd, true_and, and_true, and_self]; first | done | omega)) only [go_sem, ↓reduceIte, Nat.reduceEqDiff, Nat.reduceAdd, Nat.reduceSub, Nat.reduceMul, Nat.reduceBEq, Nat.reduceLT, Nat.reduceLeDiff, Nat.reduceMod, Nat.reducePow, List.reduceReplicate, UInt8.reduceOfNat, Int.reducePow, Int.reduceDiv, Int.reduceMod, Nat.reduceDiv, Int.reduceNeg, Int.reduceAdd, Int.reduceSub, Int.reduceMul, Int.reduceLE, Int.reduceLT, Int.reduceEq, Int.reduceToNat, reduceCtorEq, Row.obj hrow, List.getElem_map, hx]
        all_goals refine Upd.finL ?_ hR ?_
        any_goals (intro fsum; first | exact Nat.le_refl _ | (simp only [List.map_append, List.map_cons, List.map_nil, List.sum_append, List.sum_cons, List.sum_nil, List.cons_append, List.nil_append]; omega))
        all_goals rfl
      · repeat' first
          | with_reducible refine Br.yes ?_
          | with_reducible refine Br.no ?_
          | with_reducible refine Br.dec (fun _ => ?_) (fun _ => ?_)
          | with_reducible refine Br.beqB (fun _ => ?_) (fun _ => ?_)
          | with_reducible refine Br.beqb (fun _ => ?_) (fun _ => ?_)
          | with_reducible refine Br.mk (fun _ => ?_) (fun _ => ?_)
          | with_reducible refine foundO.mk (fun _ _ => ?_) (fun _ => ?_)
          | with_reducible refine appV.zero ?_
          | with_reducible refine appV.own ?_
          | ((with_reducible refine NewB.mk fun nb hnb => ?_); have hnb1 := hnb.1.1; have hnb2 := hnb.1.2; try simp only [keys_cons, keys_app, keys_nil, NotIn_cons, NotIn_app, NotIn_nil, and_true] at hnb2)
          | ((with_reducible refine NewRow.mk fun nb nsp ncap hnb hncap => ?_); have hnb1 := hnb.1.1; have hnb2 := hnb.1.2; try simp only [keys_cons, keys_app, keys_nil, NotIn_cons, NotIn_app, NotIn_nil, and_true] at hnb2)
          | simp (dsimp := false) (implicitDefEqProofs := false) (disch := first | assumption | (simp only [List.mem_cons, List.mem_append, true_or, or_true, eq_self]; done) | omega | (with_reducible refine Row.adr (by assumption) ?_; simp only [List.length_map, List.length_take, List.length_drop]; omega) | (simp only [List.length_cons, List.length_nil, List.length_map, List.length_append, List.length_replicate, Nat.reduceAdd, true_and, and_true, and_self]; first | done | omega)) only [go_sem, ↓reduceIte, Nat.reduceEqDiff, Nat.reduceAdd, Nat.reduceSub, Nat.reduceMul, Nat.reduceBEq, Nat.reduceLT, Nat.reduceLeDiff, Nat.reduceMod, Nat.reducePow, List.reduceReplicate, UInt8.reduceOfNat, Int.reducePow, Int.reduceDiv, Int.reduceMod, Nat.reduceDiv, Int.reduceNeg, Int.reduceAdd, Int.reduceSub, Int.reduceMul, Int.reduceLE, Int.reduceLT, Int.reduceEq, Int.reduceToNat, reduceCtorEq, Row.obj hrow, List.getElem_map, hx]
        exact Upd.now ⟨q - 1, by omega, i + 1, by omega, fun j h hj => by
          by_cases e : j = i
          · subst e; exact hx
          · exact hno j h (by omega), rfl, rfl, rfl⟩
    · obtain rfl : i = l.length := by omega
      have hf : findF l x = -1 := findF_none (place_no fun h => by obtain ⟨j, hj, e⟩ := List.getElem_of_mem h; exact hno j hj hj e)
      rw [hf] at hR
      repeat' first
        | with_reducible refine Br.yes ?_
        | with_reducible refine Br.no ?_
        | with_reducible refine Br.dec (fun _ => ?_) (fun _ => ?_)
        | with_reducible refine Br.beqB (fun _ => ?_) (fun _ => ?_)
        | with_reducible refine Br.beqb (fun _ => ?_) (fun _ => ?_)
        | with_reducible refine Br.mk (fun _ => ?_) (fun _ => ?_)
        | with_reducible refine foundO.mk (fun _ _ => ?_) (fun _ => ?_)
        | with_reducible refine appV.zero ?_
        | with_reducible refine appV.own ?_
        | ((with_reducible refine NewB.mk fun nb hnb => ?_); have hnb1 := hnb.1.1; have hnb2 := hnb.1.2; try simp only [keys_cons, keys_app, keys_nil, NotIn_cons, NotIn_app, NotIn_nil, and_true] at hnb2)
        | ((with_reducible refine NewRow.mk fun nb nsp ncap hnb hncap => ?_); have hnb1 := hnb.1.1; have hnb2 := hnb.1.2; try simp only [keys_cons, keys_app, keys_nil, NotIn_cons, NotIn_app, NotIn_nil, and_true] at hnb2)
        | simp (dsimp := false) (implicitDefEqProofs := false) (disch := first | assumption | (simp only [List.mem_cons, List.mem_append, true_or, or_true, eq_self]; done) | omega | (with_reducible refine Row.adr (by assumption) ?_; simp only [List.length_map, List.length_take, List.length_drop]; omega) | (simp only [List.length_cons, List.length_nil, List.length_map, List.length_append, List.length_replicate, Nat.reduceAdd, true_and, and_true, and_self]; first | done | omega)) only [go_sem, ↓reduceIte, Nat.reduceEqDiff, Nat.reduceAdd, Nat.reduceSub, Nat.reduceMul, Nat.reduceBEq, Nat.reduceLT, Nat.reduceLeDiff, Nat.reduceMod, Nat.reducePow, List.reduceReplicate, UInt8.reduceOfNat, Int.reducePow, Int.reduceDiv, Int.reduceMod, Nat.reduceDiv, Int.reduceNeg, Int.reduceAdd, Int.reduceSub, Int.reduceMul, Int.reduceLE, Int.reduceLT, Int.reduceEq, Int.reduceToNat, reduceCtorEq]
      all_goals refine Upd.finL ?_ hR ?_
      any_goals (intro fsum; first | exact Nat.le_refl _ | (simp only [List.map_append, List.map_cons, List.map_nil, List.sum_append, List.sum_cons, List.sum_nil, List.cons_append, List.nil_append]; omega))
      all_goals rfl
set_option maxHeartbeats 8000000 in
theorem rkp3_t {d : DfaT} (hsm : SmallD d) {C : List Value} {an al ay : Option Addr} {cn cl cs : Nat} {rs : List Value} {G : PHeap} {H : Heap} (O : OpenD G d C an al ay cn cl cs rs) {v0 v1 : Value} {b2 b4 : Nat} :
    Tri Try.prog Try.f29.ntmps (piece [1, 1, 0] Try.f29) G [(0, v0), (1, v1), (2, .pointer (some ⟨b2, 0, none⟩)), (4, .pointer (some ⟨b4, 0, none⟩)), (5, .int .i64 0)] ((b4, .cells zeroC [] 27) :: (b2, .cells C [] 27) :: H) (onlyN fun G' fr' H' =>
      ∃ b7 vs, PLe G G' ∧ Sl G' str vs d.names ∧ restrict [0, 1, 2, 4, 5, 6] fr' = [(0, v0), (1, v1), (2, .pointer (some ⟨b2, 0, none⟩)), (4, .pointer (some ⟨b4, 0, none⟩)), (5, .int .i64 0), (6, .pointer (some ⟨b7, 0, none⟩))] ∧ H' = (b7, .cells (cellsD d (.slice none 0 0) (.slice none 0 0) vs) [] 27) :: (b4, .cells zeroC [] 27) :: (b2, .cells C [] 27) :: H) := by
  obtain ⟨hm1, hm2, hm3, hm4, hm5⟩ := id hsm
  have hCl := O.len
  have hCw := O.w
  have hCs := O.s
  have hCo := O.of
  have hofl : (u8L d.of).length = 256 := by rw [List.length_map, O.ofl]
  have hb1 := build_of O.ofl
  have hb2 := build_w O.ofl
  have hl1 : (u8L d.of ++ [Value.int .i64 0, Value.slice none 0 0, Value.slice none 0 0, Value.slice none 0 0]).length = 260 := by rw [List.length_append, hofl]; rfl
  have hl2 : ∀ v : Value, (cellsD d (.slice none 0 0) (.slice none 0 0) v).length = 260 := fun v => cellsD_len O.ofl _ _ _
  have hb3 := build_s O.ofl (.slice none 0 0) (.slice none 0 0) (.slice none 0 0)
  have hputz : ∀ v : Value, splice zeroC 0 (cellsD d (.slice none 0 0) (.slice none 0 0) v) = cellsD d (.slice none 0 0) (.slice none 0 0) v := fun v => by
    unfold splice
    rw [List.take_zero, List.nil_append, List.drop_of_length_le (by rw [zeroC_len, hl2]; omega), List.append_nil]
  have hone := cellsD_one (d := d) (vn := .slice none 0 0) (vl := .slice none 0 0) (vs := .slice ay d.names.length cs) rfl rfl rfl
  refine Tri.sepT fun hs0 => ?_
  have hsE := hs0
  try simp only [keys_cons, keys_app, keys_nil, Sep_cons, Sep_nil, NotIn_cons, NotIn_app, NotIn_nil, List.cons_append, List.nil_append, List.append_assoc, and_assoc, and_true, true_and] at hsE
  repeat (obtain ⟨hsx, hsE⟩ := hsE)
  refine Tri.piece (f := Try.f29) rfl ?_
  refine Tri.run tok [0, 1, 2, 4, 5, 6, 7, 8, 9, 10, 11, 20, 32, 59, 64, 71, 88] (by kernel_rfl) ?_
  repeat' first
    | with_reducible refine Br.yes ?_
    | with_reducible refine Br.no ?_
    | with_reducible refine Br.dec (fun _ => ?_) (fun _ => ?_)
    | with_reducible refine Br.beqB (fun _ => ?_) (fun _ => ?_)
    | with_reducible refine Br.beqb (fun _ => ?_) (fun _ => ?_)
    | with_reducible refine Br.mk (fun _ => ?_) (fun _ => ?_)
    | with_reducible refine foundO.mk (fun _ _ => ?_) (fun _ => ?_)
    | with_reducible refine appV.zero ?_
    | with_reducible refine appV.own ?_
    | ((with_reducible refine NewB.mk fun nb hnb => ?_); have hnb1 := hnb.1.1; have hnb2 := hnb.1.2; try simp only [keys_cons, keys_app, keys_nil, NotIn_cons, NotIn_app, NotIn_nil, and_true] at hnb2)
    | ((with_reducible refine NewRow.mk fun nb nsp ncap hnb hncap => ?_); have hnb1 := hnb.1.1; have hnb2 := hnb.1.2; try simp only [keys_cons, keys_app, keys_nil, NotIn_cons, NotIn_app, NotIn_nil, and_true] at hnb2)
    | with_reducible refine Tri.drawH tok mixed [0, 1, 2, 4, 5, 6, 7, 8, 9, 10, 11, 20, 32, 59, 64, 71, 88] 7 [3, 9, 11, 20] (.op 0 .plain (.op 1 .plain (.op 2 .plain (.op 3 .held (.op 4 .plain (.op 5 .plain (.op 6 .plain (.op 7 .plain (.op 8 .plain (.op 9 .held (.op 10 .plain (.op 11 .held (.op 12 .plain (.op 13 .plain (.op 14 .plain (.op 15 .plain (.op 16 .plain (.op 17 .plain (.op 18 .plain (.op 19 .plain (.op 20 .held (.op 22 .plain (.op 21 .keeps (.op 23 .plain (.op 24 .plain .nil))))))))))))))))))))))))) (by kernel_rfl) [1, 2] ?_
    | with_reducible refine Tri.drawM tok mixed [0, 1, 2, 4, 5, 6, 7, 8, 9, 10, 11, 20, 32, 59, 64, 71, 88] 16 [2, 6, 8, 11] (.op 0 .plain (.op 1 .plain (.op 2 .held (.op 3 .plain (.op 4 .plain (.op 5 .plain (.op 6 .held (.op 7 .plain (.op 8 .held (.op 9 .plain (.op 10 .plain (.op 11 .held (.op 12 .keeps (.op 13 .plain .nil)))))))))))))) (by kernel_rfl) _ (List.Sublist.refl _) ?_
    | with_reducible refine Tri.drawM tok mixed [0, 1, 2, 4, 5, 6, 7, 8, 9, 10, 11, 20, 32, 59, 64, 71, 88] 21 [1, 3, 7, 9] (.op 0 .plain (.op 1 .held (.op 2 .plain (.op 3 .held (.op 4 .plain (.op 5 .plain (.op 6 .plain (.op 7 .held (.op 8 .plain (.op 9 .held (.op 10 .keeps (.op 11 .keeps (.op 12 .plain (.op 13 .plain .nil)))))))))))))) (by kernel_rfl) _ (List.Sublist.refl _) ?_
    | simp (dsimp := false) (implicitDefEqProofs := false) (disch := first | assumption | (simp only [List.mem_cons, List.mem_append, true_or, or_true, eq_self]; done) | omega | (with_reducible refine Row.adr (by assumption) ?_; simp only [List.length_map, List.length_take, List.length_drop]; omega) | (simp only [List.length_cons, List.length_nil, List.length_map, List.length_append, List.length_replicate, Nat.reduceAdd, true_and, and_true, and_self]; first | done | omega)) only [go_sem, ↓reduceIte, Nat.reduceEqDiff, Nat.reduceAdd, Nat.reduceSub, Nat.reduceMul, Nat.reduceBEq, Nat.reduceLT, Nat.reduceLeDiff, Nat.reduceMod, Nat.reducePow, List.reduceReplicate, UInt8.reduceOfNat, Int.reducePow, Int.reduceDiv, Int.reduceMod, Nat.reduceDiv, Int.reduceNeg, Int.reduceAdd, Int.reduceSub, Int.reduceMul, Int.reduceLE, Int.reduceLT, Int.reduceEq, Int.reduceToNat, reduceCtorEq, -List.reduceReplicate, List.toList_toArray, hCl, hCw, hCs, hCo, hofl, hb1, hb2, hb3, hl1, hl2, zeroC_len, zeroC_one, hputz, hone]
    | (with_reducible refine And.intro ?_ ?_)
  all_goals exact Upd.now ⟨nb, _, PLe.refl _, O.names, rfl, rfl⟩
set_option maxHeartbeats 16000000 in
theorem rkr21_t {d : DfaT} {l : List Int} {C : List Value} {an al ay : Option Addr} {cn cl cs : Nat} {rs : List Value} {G : PHeap} {H : Heap} (O : OpenD G d C an al ay cn cl cs rs) {v0 : Value} {aw : Option Addr} {cw : Nat} (hrw : Row G aw (l.map (Value.int .i64))) {b2 b4 b7 : Nat} {j t : Nat} (hj : j < l.length) (hjb : j < 65536) (ht : t < d.label.length) (hsj : l[j] = (t : Int)) {vn vl vs : Value} {kl : Heap} (hout : LabK d l j vl kl) :
    Tri Try.prog Try.f29.ntmps (piece [1, 1, 1, 1, 0, 1, 0, 0, 1, 0, 0, 1, 1, 1] Try.f29) G [(0, v0), (1, .slice aw l.length cw), (2, .pointer (some ⟨b2, 0, none⟩)), (4, .pointer (some ⟨b4, 0, none⟩)), (5, .int .i64 0), (6, .pointer (some ⟨b7, 0, none⟩)), (8, .int .i64 (j : Nat))] ((b7, .cells (cellsD d vn vl vs) [] 27) :: (b2, .cells C [] 27) :: (kl ++ H)) (onlyN fun G' fr' H' =>
      ∃ vl' kl', G' = G ∧ LabK d l (j + 1) vl' kl' ∧ restrict [0, 1, 2, 4, 5, 6, 8] fr' = [(0, v0), (1, .slice aw l.length cw), (2, .pointer (some ⟨b2, 0, none⟩)), (4, .pointer (some ⟨b4, 0, none⟩)), (5, .int .i64 0), (6, .pointer (some ⟨b7, 0, none⟩)), (8, .int .i64 (j : Nat))] ∧ H' = (b7, .cells (cellsD d vn vl' vs) [] 27) :: (b2, .cells C [] 27) :: (kl' ++ H)) := by
  have hCl := O.len
  have hCx := O.l
  have hl2 : ∀ a b c : Value, (cellsD d a b c).length = 260 := fun a b c => cellsD_len O.ofl _ _ _
  have hg2 : ∀ a b c : Value, (cellsD d a b c)[258]? = some b := fun a b c => cellsD_l O.ofl _ _ _
  have hputL : ∀ a b c x : Value, splice (cellsD d a b c) 258 [x] = cellsD d a x c := fun a b c x => cellsD_putL O.ofl _ _ _ _
  have hlt : d.label[t] = d.label.getD t 0 := by rw [List.getD_eq_getElem?_getD, List.getElem?_eq_getElem ht]; rfl
  have hlab : (labF d l).take (j + 1) = (labF d l).take j ++ [d.label.getD t 0] := by
    have hjl : j < (labF d l).length := by unfold labF; rw [List.length_map]; exact hj
    rw [List.take_succ_eq_append_getElem hjl]
    congr 2
    simp only [labF, List.getElem_map, hsj, Int.toNat_natCast]
  have hlj : ((labF d l).take j).length = j := by rw [List.length_take]; unfold labF; rw [List.length_map]; omega
  have hadw : Adr aw := hrw.adr (by rw [List.length_map]; omega)
  have had2 : Adr al := O.rl.adr (by rw [List.length_map]; omega)
  refine Tri.sepT fun hs0 => ?_
  rcases hout with ⟨hj0, rfl, rfl⟩ | ⟨bl, c2, sp2, rfl, rfl, hc2⟩
  · have hsE := hs0
    try simp only [keys_cons, keys_app, keys_nil, Sep_cons, Sep_nil, NotIn_cons, NotIn_app, NotIn_nil, List.cons_append, List.nil_append, List.append_assoc, and_assoc, and_true, true_and] at hsE
    repeat (obtain ⟨hsx, hsE⟩ := hsE)
    have hce : ((labF d l).take (j + 1)).map (Value.int .i64) = [Value.int .i64 (d.label.getD t 0)] := by rw [hlab, List.map_append, List.eq_nil_of_length_eq_zero (hlj.trans hj0)]; rfl
    refine Tri.piece (f := Try.f29) rfl ?_
    refine Tri.run tok [0, 1, 2, 4, 5, 6, 7, 8, 9, 10, 11, 20, 32, 59, 64, 71, 88] (by kernel_rfl) ?_
    repeat' first
      | with_reducible refine Br.yes ?_
      | with_reducible refine Br.no ?_
      | with_reducible refine Br.dec (fun _ => ?_) (fun _ => ?_)
      | with_reducible refine Br.beqB (fun _ => ?_) (fun _ => ?_)
      | with_reducible refine Br.beqb (fun _ => ?_) (fun _ => ?_)
      | with_reducible refine Br.mk (fun _ => ?_) (fun _ => ?_)
      | with_reducible refine foundO.mk (fun _ _ => ?_) (fun _ => ?_)
      | with_reducible refine appV.zero ?_
      | with_reducible refine appV.own ?_
      | ((with_reducible refine NewB.mk fun nb hnb => ?_); have hnb1 := hnb.1.1; have hnb2 := hnb.1.2; try simp only [keys_cons, keys_app, keys_nil, NotIn_cons, NotIn_app, NotIn_nil, and_true] at hnb2)
      | ((with_reducible refine NewRow.mk fun nb nsp ncap hnb hncap => ?_); have hnb1 := hnb.1.1; have hnb2 := hnb.1.2; try simp only [keys_cons, keys_app, keys_nil, NotIn_cons, NotIn_app, NotIn_nil, and_true] at hnb2)
      | simp (dsimp := false) (implicitDefEqProofs := false) (disch := first | assumption | (simp only [List.mem_cons, List.mem_append, true_or, or_true, eq_self]; done) | omega | (with_reducible refine Row.adr (by assumption) ?_; simp only [List.length_map, List.length_take, List.length_drop]; omega) | (simp only [List.length_cons, List.length_nil, List.length_map, List.length_append, List.length_replicate, Nat.reduceAdd, true_and, and_true, and_self]; first | done | omega)) only [go_sem, ↓reduceIte, Nat.reduceEqDiff, Nat.reduceAdd, Nat.reduceSub, Nat.reduceMul, Nat.reduceBEq, Nat.reduceLT, Nat.reduceLeDiff, Nat.reduceMod, Nat.reducePow, List.reduceReplicate, UInt8.reduceOfNat, Int.reducePow, Int.reduceDiv, Int.reduceMod, Nat.reduceDiv, Int.reduceNeg, Int.reduceAdd, Int.reduceSub, Int.reduceMul, Int.reduceLE, Int.reduceLT, Int.reduceEq, Int.reduceToNat, reduceCtorEq, -List.reduceReplicate, List.replicate_one, List.toList_toArray, hCl, hCx, hl2, hg2, hputL, Row.obj hrw, Row.obj O.rl, List.getElem_map, hsj, hlt, Int.toNat_natCast, Nat.sub_self]
      | with_reducible refine Tri.drawH tok mixed [0, 1, 2, 4, 5, 6, 7, 8, 9, 10, 11, 20, 32, 59, 64, 71, 88] 21 [1, 3, 7, 9] (.op 0 .plain (.op 1 .held (.op 2 .plain (.op 3 .held (.op 4 .plain (.op 5 .plain (.op 6 .plain (.op 7 .held (.op 8 .plain (.op 9 .held (.op 10 .keeps (.op 11 .keeps (.op 12 .plain (.op 13 .plain .nil)))))))))))))) (by kernel_rfl) [6, 2, 1] ?_
    rw [← hce]
    exact Upd.go (H' := (b7, .cells (cellsD d vn (.slice (some ⟨nb, 0, none⟩) 1 ncap) vs) [] 27) :: (b2, .cells C [] 27) :: ([(nb, .cells (((labF d l).take (j + 1)).map (Value.int .i64)) nsp 3)] ++ H)) (by intro fsum; first | exact Nat.le_refl _ | (simp only [List.map_append, List.map_cons, List.map_nil, List.sum_append, List.sum_cons, List.sum_nil, List.cons_append, List.nil_append]; omega)) (Upd.now ⟨.slice (some ⟨nb, 0, none⟩) 1 ncap, _, rfl, .inr ⟨nb, ncap, nsp, by rw [hj0], rfl, by omega⟩, rfl, rfl⟩)
  · have hsE := hs0
    try simp only [keys_cons, keys_app, keys_nil, Sep_cons, Sep_nil, NotIn_cons, NotIn_app, NotIn_nil, List.cons_append, List.nil_append, List.append_assoc, and_assoc, and_true, true_and] at hsE
    repeat (obtain ⟨hsx, hsE⟩ := hsE)
    obtain ⟨ps, hps, hpl⟩ : ∃ ps, ps = ((labF d l).take j).map (Value.int .i64) ∧ ps.length = j := ⟨_, rfl, by rw [List.length_map, hlj]⟩
    have hce : ((labF d l).take (j + 1)).map (Value.int .i64) = ps ++ [Value.int .i64 (d.label.getD t 0)] := by rw [hlab, List.map_append, ← hps]; rfl
    rw [← hps]
    refine Tri.piece (f := Try.f29) rfl ?_
    refine Tri.run tok [0, 1, 2, 4, 5, 6, 7, 8, 9, 10, 11, 20, 32, 59, 64, 71, 88] (by kernel_rfl) ?_
    repeat' first
      | with_reducible refine Br.yes ?_
      | with_reducible refine Br.no ?_
      | with_reducible refine Br.dec (fun _ => ?_) (fun _ => ?_)
      | with_reducible refine Br.beqB (fun _ => ?_) (fun _ => ?_)
      | with_reducible refine Br.beqb (fun _ => ?_) (fun _ => ?_)
      | with_reducible refine Br.mk (fun _ => ?_) (fun _ => ?_)
      | with_reducible refine foundO.mk (fun _ _ => ?_) (fun _ => ?_)
      | with_reducible refine appV.zero ?_
      | with_reducible refine appV.own ?_
      | ((with_reducible refine NewB.mk fun nb hnb => ?_); have hnb1 := hnb.1.1; have hnb2 := hnb.1.2; try simp only [keys_cons, keys_app, keys_nil, NotIn_cons, NotIn_app, NotIn_nil, and_true] at hnb2)
      | ((with_reducible refine NewRow.mk fun nb nsp ncap hnb hncap => ?_); have hnb1 := hnb.1.1; have hnb2 := hnb.1.2; try simp only [keys_cons, keys_app, keys_nil, NotIn_cons, NotIn_app, NotIn_nil, and_true] at hnb2)
      | simp (dsimp := false) (implicitDefEqProofs := false) (disch := first | assumption | (simp only [List.mem_cons, List.mem_append, true_or, or_true, eq_self]; done) | omega | (with_reducible refine Row.adr (by assumption) ?_; simp only [List.length_map, List.length_take, List.length_drop]; omega) | (simp only [List.length_cons, List.length_nil, List.length_map, List.length_append, List.length_replicate, Nat.reduceAdd, true_and, and_true, and_self]; first | done | omega)) only [go_sem, ↓reduceIte, Nat.reduceEqDiff, Nat.reduceAdd, Nat.reduceSub, Nat.reduceMul, Nat.reduceBEq, Nat.reduceLT, Nat.reduceLeDiff, Nat.reduceMod, Nat.reducePow, List.reduceReplicate, UInt8.reduceOfNat, Int.reducePow, Int.reduceDiv, Int.reduceMod, Nat.reduceDiv, Int.reduceNeg, Int.reduceAdd, Int.reduceSub, Int.reduceMul, Int.reduceLE, Int.reduceLT, Int.reduceEq, Int.reduceToNat, reduceCtorEq, -List.reduceReplicate, List.replicate_one, List.toList_toArray, hCl, hCx, hl2, hg2, hputL, Row.obj hrw, Row.obj O.rl, List.getElem_map, hsj, hlt, Int.toNat_natCast, Nat.sub_self]
      | with_reducible refine Tri.drawH tok mixed [0, 1, 2, 4, 5, 6, 7, 8, 9, 10, 11, 20, 32, 59, 64, 71, 88] 21 [1, 3, 7, 9] (.op 0 .plain (.op 1 .held (.op 2 .plain (.op 3 .held (.op 4 .plain (.op 5 .plain (.op 6 .plain (.op 7 .held (.op 8 .plain (.op 9 .held (.op 10 .keeps (.op 11 .keeps (.op 12 .plain (.op 13 .plain .nil)))))))))))))) (by kernel_rfl) [6, 2, 1] ?_
    rw [← hce]
    exact Upd.go (H' := (b7, .cells (cellsD d vn (.slice (some ⟨nb, 0, none⟩) (j + 1) ncap) vs) [] 27) :: (b2, .cells C [] 27) :: ([(nb, .cells (((labF d l).take (j + 1)).map (Value.int .i64)) nsp 3)] ++ H)) (by intro fsum; first | exact Nat.le_refl _ | (simp only [List.map_append, List.map_cons, List.map_nil, List.sum_append, List.sum_cons, List.sum_nil, List.cons_append, List.nil_append]; omega)) (Upd.now ⟨_, _, rfl, .inr ⟨nb, ncap, nsp, rfl, rfl, by omega⟩, rfl, rfl⟩)
end Go.Proofs.Ytlblohmjikopbaa
