/- Classes of bytes: contracts. -/
import Derived.Test.YtpagkndgjihbbaaSe
set_option linter.unusedSimpArgs false
set_option linter.unusedVariables false
namespace Go.Proofs.Ytpagkndgjihbbaa
open Go Go.V Go.Proofs

theorem eqT_ints {d : Nat} {t e n : Nat} {k : IntKind} (ht : (T t).k = .arr n e) (he : (T e).k = .int k) (hs : (T e).size = 1) {xs ys : List Int} (hx : xs.length = n) (hy : ys.length = n) :
    eqT T (d + 2) t (.agg (xs.map (Value.int k)).toArray) (.agg (ys.map (Value.int k)).toArray) = some (decide (xs = ys)) := by
  have := allEq_ints (T := T) (d := d) he hs xs ys [] [] (by omega) rfl
  simp only [List.length_nil, List.nil_append] at this
  unfold eqT
  simp only [ht, he, TK.known, if_true, ← hx, List.toList_toArray]
  exact this
abbrev u8L (l : List Int) : List Value := l.map (Value.int .u8)
abbrev agg8 (l : List Int) : Value := .agg (u8L l).toArray
theorem u8_get {l : List Int} {i : Nat} (h : i < l.length) (sp : List Value) : (u8L l ++ sp)[i]? = some (.int .u8 l[i]) := by
  rw [List.getElem?_append_left (by simpa using h), List.getElem?_map, List.getElem?_eq_getElem h]; rfl
theorem he8 : KeyEnc T 5 (Value.int .u8) := keyEnc_int (T := T) (t := 5) rfl
theorem pnormk_t {l : List Int} {b1 i : Nat} (hl : l.length = 256) (hi : i < l.length) {G : PHeap} {H : Heap} {R : Value → PHeap → Heap → Prop}
    (hg1 : G b1 = none) (hf : findH H b1 = some (.cells (u8L l) [] 22)) (hR : R (.int .u8 l[i]) G H) : FnT Try.prog 76 [.int .i64 (i : Nat), .pointer (some ⟨b1, 0, none⟩)] G H R := by
  have hget := u8_get hi []
  rw [List.append_nil] at hget
  refine FnT.body tok [0, 1, 3] Try.func76 rfl (by kernel_rfl) (by kernel_rfl) (by show _ ≤ 7; simp) fun hsep => ?_
  rw [Try.results76]
  have hsE := hsep
  try simp only [keys_cons, keys_app, keys_nil, Sep_cons, Sep_nil, NotIn_cons, NotIn_app, NotIn_nil, List.cons_append, List.nil_append, List.append_assoc, and_assoc, and_true, true_and] at hsE
  repeat (obtain ⟨hsx, hsE⟩ := hsE)
  repeat' first
    | with_reducible refine Br.yes ?_
    | with_reducible refine Br.no ?_
    | with_reducible refine Br.dec (fun _ => ?_) (fun _ => ?_)
    | with_reducible refine Br.beqB (fun _ => ?_) (fun _ => ?_)
    | with_reducible refine Br.beqb (fun _ => ?_) (fun _ => ?_)
    | with_reducible refine Br.mk (fun _ => ?_) (fun _ => ?_)
    | with_reducible refine foundO.mk (fun _ _ => ?_) (fun _ => ?_)
    | with_reducible refine appV.zero ?_
    | with_reducible refine appV.own ?_
    | ((with_reducible refine NewB.mk fun nb hnb => ?_); have hnb1 := hnb.1.1; have hnb2 := hnb.1.2; try simp only [keys_cons, keys_app, keys_nil, NotIn_cons, NotIn_app, NotIn_nil, and_true] at hnb2)
    | ((with_reducible refine NewRow.mk fun nb nsp ncap hnb hncap => ?_); have hnb1 := hnb.1.1; have hnb2 := hnb.1.2; try simp only [keys_cons, keys_app, keys_nil, NotIn_cons, NotIn_app, NotIn_nil, and_true] at hnb2)
    | simp (dsimp := false) (implicitDefEqProofs := false) (disch := first | assumption | (simp only [List.mem_cons, List.mem_append, true_or, or_true, eq_self]; done) | omega | (with_reducible refine Row.adr (by assumption) ?_; simp only [List.length_map, List.length_take, List.length_drop]; omega) | (simp only [List.length_cons, List.length_nil, List.length_map, List.length_append, List.length_replicate, Nat.reduceAdd, true_and, and_true, and_self]; first | done | omega)) only [go_sem, ↓reduceIte, Nat.reduceEqDiff, Nat.reduceAdd, Nat.reduceSub, Nat.reduceMul, Nat.reduceBEq, Nat.reduceLT, Nat.reduceLeDiff, Nat.reduceMod, Nat.reducePow, List.reduceReplicate, UInt8.reduceOfNat, Int.reducePow, Int.reduceDiv, Int.reduceMod, Nat.reduceDiv, Int.reduceNeg, Int.reduceAdd, Int.reduceSub, Int.reduceMul, Int.reduceLE, Int.reduceLT, Int.reduceEq, Int.reduceToNat, reduceCtorEq, -List.reduceReplicate, hf, hget, List.append_nil]
  all_goals refine Upd.finL ?_ hR ?_
  any_goals (intro fsum; first | exact Nat.le_refl _ | (simp only [List.map_append, List.map_cons, List.map_nil, List.sum_append, List.sum_cons, List.sum_nil, List.cons_append, List.nil_append]; omega))
  rfl
theorem u8_wrap {n : Nat} (h : n < 256) : IntKind.u8.wrap (n : Int) = n := by
  simp only [IntKind.wrap, IntKind.bits, IntKind.signed]; simp; omega
/-- the numbers of the first i bytes, and nothing yet -/
def part8 (l : List Int) (i : Nat) : List Int := nums (l.take i) ++ List.replicate (256 - i) 0
theorem part8_len {l : List Int} (hl : l.length = 256) {i : Nat} (hi : i ≤ 256) : (part8 l i).length = 256 := by
  unfold part8; rw [List.length_append, nums_len, List.length_take, List.length_replicate]; omega
theorem part8_put {l : List Int} (hl : l.length = 256) {i : Nat} (hi : i < 256) {n : Int} (h : nums (l.take (i + 1)) = nums (l.take i) ++ [n]) : splice (u8L (part8 l i)) i [.int .u8 n] = u8L (part8 l (i + 1)) := by
  have hn : (nums (l.take i)).length = i := by rw [nums_len, List.length_take]; omega
  unfold splice part8 u8L
  rw [h, List.map_append, List.map_append, List.map_append, List.map_replicate, List.map_replicate, show 256 - i = (256 - (i + 1)) + 1 by omega, List.replicate_succ]
  rw [List.take_append_of_le_length (by rw [List.length_map]; omega), List.take_of_length_le (by rw [List.length_map]; omega)]
  rw [List.drop_append, List.drop_of_length_le (by rw [List.length_map]; simp; omega)]
  simp [hn]
theorem part8_zero (l : List Int) : List.replicate 256 (Value.int .u8 0) = u8L (part8 l 0) := by
  unfold part8 u8L; rw [List.take_zero, nums_nil, List.nil_append, List.map_replicate]
theorem part8_all {l : List Int} (hl : l.length = 256) : part8 l 256 = nums l := by
  unfold part8; rw [← hl, List.take_length]; simp
set_option maxHeartbeats 8000000 in
theorem num8_t {l : List Int} (hl : l.length = 256) {b1 : Nat} {G : PHeap} {H : Heap} {R : Value → PHeap → Heap → Prop} (hg1 : G b1 = none) (hf : findH H b1 = some (.cells (u8L l) [] 22))
    (hR : R (.tuple #[agg8 (nums l), .int .i64 (tabO l).length]) G H) : FnT Try.prog 75 [.func (.func 76) #[] #[.pointer (some ⟨b1, 0, none⟩)]] G H R := by
  refine FnT.body tok [0, 2, 3, 4, 5, 6, 7, 8, 9, 11, 12, 24] Try.func75 rfl (by kernel_rfl) (by kernel_rfl) (by show _ ≤ 38; simp) fun hsep => ?_
  rw [Try.results75]
  have hsE := hsep
  try simp only [keys_cons, keys_app, keys_nil, Sep_cons, Sep_nil, NotIn_cons, NotIn_app, NotIn_nil, List.cons_append, List.nil_append, List.append_assoc, and_assoc, and_true, true_and] at hsE
  repeat (obtain ⟨hsx, hsE⟩ := hsE)
  repeat' first
    | with_reducible refine Br.yes ?_
    | with_reducible refine Br.no ?_
    | with_reducible refine Br.dec (fun _ => ?_) (fun _ => ?_)
    | with_reducible refine Br.beqB (fun _ => ?_) (fun _ => ?_)
    | with_reducible refine Br.beqb (fun _ => ?_) (fun _ => ?_)
    | with_reducible refine Br.mk (fun _ => ?_) (fun _ => ?_)
    | with_reducible refine foundO.mk (fun _ _ => ?_) (fun _ => ?_)
    | with_reducible refine appV.zero ?_
    | with_reducible refine appV.own ?_
    | ((with_reducible refine NewB.mk fun nb hnb => ?_); have hnb1 := hnb.1.1; have hnb2 := hnb.1.2; try simp only [keys_cons, keys_app, keys_nil, NotIn_cons, NotIn_app, NotIn_nil, and_true] at hnb2)
    | ((with_reducible refine NewRow.mk fun nb nsp ncap hnb hncap => ?_); have hnb1 := hnb.1.1; have hnb2 := hnb.1.2; try simp only [keys_cons, keys_app, keys_nil, NotIn_cons, NotIn_app, NotIn_nil, and_true] at hnb2)
    | simp (dsimp := false) (implicitDefEqProofs := false) (disch := first | assumption | (simp only [List.mem_cons, List.mem_append, true_or, or_true, eq_self]; done) | omega | (with_reducible refine Row.adr (by assumption) ?_; simp only [List.length_map, List.length_take, List.length_drop]; omega) | (simp only [List.length_cons, List.length_nil, List.length_map, List.length_append, List.length_replicate, Nat.reduceAdd, true_and, and_true, and_self]; first | done | omega)) only [go_sem, ↓reduceIte, Nat.reduceEqDiff, Nat.reduceAdd, Nat.reduceSub, Nat.reduceMul, Nat.reduceBEq, Nat.reduceLT, Nat.reduceLeDiff, Nat.reduceMod, Nat.reducePow, List.reduceReplicate, UInt8.reduceOfNat, Int.reducePow, Int.reduceDiv, Int.reduceMod, Nat.reduceDiv, Int.reduceNeg, Int.reduceAdd, Int.reduceSub, Int.reduceMul, Int.reduceLE, Int.reduceLT, Int.reduceEq, Int.reduceToNat, reduceCtorEq, -List.reduceReplicate]
  rename_i b2 hb20 hb21 hb22 b4 hb40 hb41 hb42
  revert nb
  intro bm hbm hbm1 hbm2
  have n2 := NotIn.neFind hb22 hf
  have n4 := NotIn.neFind hb42.2 hf
  have nm := NotIn.neFind hbm2.2.2 hf
  rw [part8_zero l]
  refine Tri.loopU tok [0, 2, 3, 4, 5, 6, 7, 8, 9, 11, 12, 24] (by kernel_rfl) [0, 2, 3, 4, 5, 11] (fun q G' fr H' => ∃ (i : Nat), i + q = 256 ∧ G' = G ∧ H' = (bm, .map ((numb 0 (tabO (l.take i))).map fun p => ((Value.int .u8) p.1, Value.int .u8 p.2))) :: (b4, .cells (u8L (part8 l i)) [] 22) :: (b2, .cells (u8L (part8 l 0)) [] 22) :: H ∧ fr = [(0, .func (.func 76) #[] #[.pointer (some ⟨b1, 0, none⟩)]), (2, .pointer (some ⟨b2, 0, none⟩)), (3, .int .i64 0), (4, .pointer (some ⟨b4, 0, none⟩)), (5, .map (some bm)), (11, .int .i64 i)]) (256) ?_ ?_
  · exact Upd.now ⟨0, by omega, rfl, rfl, rfl⟩
  · rintro q G1 fr H' hle hs ⟨i, hi, rfl, rfl, rfl⟩
    have hsE := hs
    try simp only [keys_cons, keys_app, keys_nil, Sep_cons, Sep_nil, NotIn_cons, NotIn_app, NotIn_nil, List.cons_append, List.nil_append, List.append_assoc, and_assoc, and_true, true_and] at hsE
    repeat (obtain ⟨hsx, hsE⟩ := hsE)
    have htl := tabO_len (l.take i)
    rw [List.length_take] at htl
    have h8 : (part8 l i).length = 256 := part8_len hl (by omega)
    by_cases hil : i < 256
    · have hil2 : i < l.length := by omega
      have htk := List.take_succ_eq_append_getElem hil2
      have hw := u8_wrap (n := (tabO (l.take i)).length) (by omega)
      rcases hp : place (tabO (l.take i)) l[i] with _ | n
      · have hnn := nums_new hp
        rw [← htk] at hnn
        have hput := part8_put hl hil hnn.2
        repeat' first
          | with_reducible refine Br.yes ?_
          | with_reducible refine Br.no ?_
          | with_reducible refine Br.dec (fun _ => ?_) (fun _ => ?_)
          | with_reducible refine Br.beqB (fun _ => ?_) (fun _ => ?_)
          | with_reducible refine Br.beqb (fun _ => ?_) (fun _ => ?_)
          | with_reducible refine Br.mk (fun _ => ?_) (fun _ => ?_)
          | with_reducible refine foundO.mk (fun _ _ => ?_) (fun _ => ?_)
          | with_reducible refine appV.zero ?_
          | with_reducible refine appV.own ?_
          | ((with_reducible refine NewB.mk fun nb hnb => ?_); have hnb1 := hnb.1.1; have hnb2 := hnb.1.2; try simp only [keys_cons, keys_app, keys_nil, NotIn_cons, NotIn_app, NotIn_nil, and_true] at hnb2)
          | ((with_reducible refine NewRow.mk fun nb nsp ncap hnb hncap => ?_); have hnb1 := hnb.1.1; have hnb2 := hnb.1.2; try simp only [keys_cons, keys_app, keys_nil, NotIn_cons, NotIn_app, NotIn_nil, and_true] at hnb2)
          | simp (dsimp := false) (implicitDefEqProofs := false) (disch := first | assumption | (simp only [List.mem_cons, List.mem_append, true_or, or_true, eq_self]; done) | omega | (with_reducible refine Row.adr (by assumption) ?_; simp only [List.length_map, List.length_take, List.length_drop]; omega) | (simp only [List.length_cons, List.length_nil, List.length_map, List.length_append, List.length_replicate, Nat.reduceAdd, true_and, and_true, and_self]; first | done | omega)) only [go_sem, ↓reduceIte, Nat.reduceEqDiff, Nat.reduceAdd, Nat.reduceSub, Nat.reduceMul, Nat.reduceBEq, Nat.reduceLT, Nat.reduceLeDiff, Nat.reduceMod, Nat.reducePow, List.reduceReplicate, UInt8.reduceOfNat, Int.reducePow, Int.reduceDiv, Int.reduceMod, Nat.reduceDiv, Int.reduceNeg, Int.reduceAdd, Int.reduceSub, Int.reduceMul, Int.reduceLE, Int.reduceLT, Int.reduceEq, Int.reduceToNat, reduceCtorEq, -List.reduceReplicate, findV_enc he8 (Value.int .u8), keyOk_enc he8, aget_numb0, Option.map_map, putV_enc he8 (Value.int .u8), aput_new, hp, List.length_map, numb_len, hw, hput]
          | with_reducible refine pnormk_t hl hil2 (by assumption) ?_ ?_
          | exact hf
        rw [← hnn.1]
        exact Upd.now ⟨q - 1, by omega, i + 1, by omega, rfl, rfl, rfl⟩
      · have hnn := nums_old hp
        rw [← htk] at hnn
        have hput := part8_put hl hil hnn.2
        repeat' first
          | with_reducible refine Br.yes ?_
          | with_reducible refine Br.no ?_
          | with_reducible refine Br.dec (fun _ => ?_) (fun _ => ?_)
          | with_reducible refine Br.beqB (fun _ => ?_) (fun _ => ?_)
          | with_reducible refine Br.beqb (fun _ => ?_) (fun _ => ?_)
          | with_reducible refine Br.mk (fun _ => ?_) (fun _ => ?_)
          | with_reducible refine foundO.mk (fun _ _ => ?_) (fun _ => ?_)
          | with_reducible refine appV.zero ?_
          | with_reducible refine appV.own ?_
          | ((with_reducible refine NewB.mk fun nb hnb => ?_); have hnb1 := hnb.1.1; have hnb2 := hnb.1.2; try simp only [keys_cons, keys_app, keys_nil, NotIn_cons, NotIn_app, NotIn_nil, and_true] at hnb2)
          | ((with_reducible refine NewRow.mk fun nb nsp ncap hnb hncap => ?_); have hnb1 := hnb.1.1; have hnb2 := hnb.1.2; try simp only [keys_cons, keys_app, keys_nil, NotIn_cons, NotIn_app, NotIn_nil, and_true] at hnb2)
          | simp (dsimp := false) (implicitDefEqProofs := false) (disch := first | assumption | (simp only [List.mem_cons, List.mem_append, true_or, or_true, eq_self]; done) | omega | (with_reducible refine Row.adr (by assumption) ?_; simp only [List.length_map, List.length_take, List.length_drop]; omega) | (simp only [List.length_cons, List.length_nil, List.length_map, List.length_append, List.length_replicate, Nat.reduceAdd, true_and, and_true, and_self]; first | done | omega)) only [go_sem, ↓reduceIte, Nat.reduceEqDiff, Nat.reduceAdd, Nat.reduceSub, Nat.reduceMul, Nat.reduceBEq, Nat.reduceLT, Nat.reduceLeDiff, Nat.reduceMod, Nat.reducePow, List.reduceReplicate, UInt8.reduceOfNat, Int.reducePow, Int.reduceDiv, Int.reduceMod, Nat.reduceDiv, Int.reduceNeg, Int.reduceAdd, Int.reduceSub, Int.reduceMul, Int.reduceLE, Int.reduceLT, Int.reduceEq, Int.reduceToNat, reduceCtorEq, -List.reduceReplicate, findV_enc he8 (Value.int .u8), keyOk_enc he8, aget_numb0, Option.map_map, putV_enc he8 (Value.int .u8), aput_new, hp, List.length_map, numb_len, hput]
          | with_reducible refine pnormk_t hl hil2 (by assumption) ?_ ?_
          | exact hf
        exact Upd.now ⟨q - 1, by omega, i + 1, by omega, rfl, by rw [hnn.1], rfl⟩
    · obtain rfl : i = 256 := by omega
      have hnl : (nums l).length = 256 := by rw [nums_len, hl]
      have htake : List.take 256 (u8L (nums l)) = u8L (nums l) := List.take_of_length_le (by rw [List.length_map, hnl]; omega)
      have h80 : (part8 l 0).length = 256 := part8_len hl (by omega)
      have hspl : splice (u8L (part8 l 0)) 0 (u8L (nums l)) = u8L (nums l) := by
        unfold splice
        rw [List.take_zero, List.nil_append, List.drop_of_length_le (by simp [hnl, h80]), List.append_nil]
      have h256 : List.take 256 l = l := List.take_of_length_le (by omega)
      rw [part8_all hl, h256]
      repeat' first
        | with_reducible refine Br.yes ?_
        | with_reducible refine Br.no ?_
        | with_reducible refine Br.dec (fun _ => ?_) (fun _ => ?_)
        | with_reducible refine Br.beqB (fun _ => ?_) (fun _ => ?_)
        | with_reducible refine Br.beqb (fun _ => ?_) (fun _ => ?_)
        | with_reducible refine Br.mk (fun _ => ?_) (fun _ => ?_)
        | with_reducible refine foundO.mk (fun _ _ => ?_) (fun _ => ?_)
        | with_reducible refine appV.zero ?_
        | with_reducible refine appV.own ?_
        | ((with_reducible refine NewB.mk fun nb hnb => ?_); have hnb1 := hnb.1.1; have hnb2 := hnb.1.2; try simp only [keys_cons, keys_app, keys_nil, NotIn_cons, NotIn_app, NotIn_nil, and_true] at hnb2)
        | ((with_reducible refine NewRow.mk fun nb nsp ncap hnb hncap => ?_); have hnb1 := hnb.1.1; have hnb2 := hnb.1.2; try simp only [keys_cons, keys_app, keys_nil, NotIn_cons, NotIn_app, NotIn_nil, and_true] at hnb2)
        | simp (dsimp := false) (implicitDefEqProofs := false) (disch := first | assumption | (simp only [List.mem_cons, List.mem_append, true_or, or_true, eq_self]; done) | omega | (with_reducible refine Row.adr (by assumption) ?_; simp only [List.length_map, List.length_take, List.length_drop]; omega) | (simp only [List.length_cons, List.length_nil, List.length_map, List.length_append, List.length_replicate, Nat.reduceAdd, true_and, and_true, and_self]; first | done | omega)) only [go_sem, ↓reduceIte, Nat.reduceEqDiff, Nat.reduceAdd, Nat.reduceSub, Nat.reduceMul, Nat.reduceBEq, Nat.reduceLT, Nat.reduceLeDiff, Nat.reduceMod, Nat.reducePow, List.reduceReplicate, UInt8.reduceOfNat, Int.reducePow, Int.reduceDiv, Int.reduceMod, Nat.reduceDiv, Int.reduceNeg, Int.reduceAdd, Int.reduceSub, Int.reduceMul, Int.reduceLE, Int.reduceLT, Int.reduceEq, Int.reduceToNat, reduceCtorEq, -List.reduceReplicate, htake, List.length_map, hnl, h80, hspl, numb_len]
      all_goals refine Upd.finL ?_ hR ?_
      any_goals (intro fsum; first | exact Nat.le_refl _ | (simp only [List.map_append, List.map_cons, List.map_nil, List.sum_append, List.sum_cons, List.sum_nil, List.cons_append, List.nil_append]; omega))
      rfl
theorem pnorm_t {l : List Int} (hl : l.length = 256) {G : PHeap} {H : Heap} {R : Value → PHeap → Heap → Prop}
    (hR : R (.tuple #[agg8 (nums l), .int .i64 (tabO l).length]) G H) : FnT Try.prog 58 [agg8 l] G H R := by
  have hnl : (nums l).length = 256 := by rw [nums_len, hl]
  have h80 : (part8 l 0).length = 256 := part8_len hl (by omega)
  have hspl : splice (u8L (part8 l 0)) 0 (u8L (nums l)) = u8L (nums l) := by
    unfold splice
    rw [List.take_zero, List.nil_append, List.drop_of_length_le (by simp [hnl, h80]), List.append_nil]
  have htake : List.take 256 (u8L (nums l)) = u8L (nums l) := List.take_of_length_le (by rw [List.length_map, hnl]; omega)
  refine FnT.body tok [0, 1, 2, 3] Try.func58 rfl (by kernel_rfl) (by kernel_rfl) (by show _ ≤ 8; simp) fun hsep => ?_
  rw [Try.results58]
  have hsE := hsep
  try simp only [keys_cons, keys_app, keys_nil, Sep_cons, Sep_nil, NotIn_cons, NotIn_app, NotIn_nil, List.cons_append, List.nil_append, List.append_assoc, and_assoc, and_true, true_and] at hsE
  repeat (obtain ⟨hsx, hsE⟩ := hsE)
  repeat' first
    | with_reducible refine Br.yes ?_
    | with_reducible refine Br.no ?_
    | with_reducible refine Br.dec (fun _ => ?_) (fun _ => ?_)
    | with_reducible refine Br.beqB (fun _ => ?_) (fun _ => ?_)
    | with_reducible refine Br.beqb (fun _ => ?_) (fun _ => ?_)
    | with_reducible refine Br.mk (fun _ => ?_) (fun _ => ?_)
    | with_reducible refine foundO.mk (fun _ _ => ?_) (fun _ => ?_)
    | with_reducible refine appV.zero ?_
    | with_reducible refine appV.own ?_
    | ((with_reducible refine NewB.mk fun nb hnb => ?_); have hnb1 := hnb.1.1; have hnb2 := hnb.1.2; try simp only [keys_cons, keys_app, keys_nil, NotIn_cons, NotIn_app, NotIn_nil, and_true] at hnb2)
    | ((with_reducible refine NewRow.mk fun nb nsp ncap hnb hncap => ?_); have hnb1 := hnb.1.1; have hnb2 := hnb.1.2; try simp only [keys_cons, keys_app, keys_nil, NotIn_cons, NotIn_app, NotIn_nil, and_true] at hnb2)
    | simp (dsimp := false) (implicitDefEqProofs := false) (disch := first | assumption | (simp only [List.mem_cons, List.mem_append, true_or, or_true, eq_self]; done) | omega | (with_reducible refine Row.adr (by assumption) ?_; simp only [List.length_map, List.length_take, List.length_drop]; omega) | (simp only [List.length_cons, List.length_nil, List.length_map, List.length_append, List.length_replicate, Nat.reduceAdd, true_and, and_true, and_self]; first | done | omega)) only [go_sem, ↓reduceIte, Nat.reduceEqDiff, Nat.reduceAdd, Nat.reduceSub, Nat.reduceMul, Nat.reduceBEq, Nat.reduceLT, Nat.reduceLeDiff, Nat.reduceMod, Nat.reducePow, List.reduceReplicate, UInt8.reduceOfNat, Int.reducePow, Int.reduceDiv, Int.reduceMod, Nat.reduceDiv, Int.reduceNeg, Int.reduceAdd, Int.reduceSub, Int.reduceMul, Int.reduceLE, Int.reduceLT, Int.reduceEq, Int.reduceToNat, reduceCtorEq, -List.reduceReplicate, List.toList_toArray, List.length_map, hl, part8_zero l, hspl, h80, hnl, htake]
    | with_reducible refine num8_t hl (by assumption) ?_ ?_
  all_goals refine Upd.finL ?_ hR ?_
  any_goals (intro fsum; first | exact Nat.le_refl _ | (simp only [List.map_append, List.map_cons, List.map_nil, List.sum_append, List.sum_cons, List.sum_nil, List.cons_append, List.nil_append]; omega))
  rfl
theorem pright_t {l : List Int} (hl : l.length = 256) (w : Int) {G : PHeap} {H : Heap} {R : Value → PHeap → Heap → Prop}
    (hR : R (.bool (decide (nums l = l) && decide (((tabO l).length : Int) = w))) G H) : FnT Try.prog 43 [agg8 l, .int .i64 w] G H R := by
  have hnl : (nums l).length = 256 := by rw [nums_len, hl]
  have hspl : splice (List.replicate 256 (Value.int .u8 0)) 0 (u8L (nums l)) = u8L (nums l) := by
    unfold splice
    rw [List.take_zero, List.nil_append, List.drop_of_length_le (by rw [List.length_replicate, List.length_map, hnl]; exact Nat.le_refl _), List.append_nil]
  have htake : List.take 256 (u8L (nums l)) = u8L (nums l) := List.take_of_length_le (by rw [List.length_map, hnl]; omega)
  have htake2 : List.take 256 (u8L l) = u8L l := List.take_of_length_le (by rw [List.length_map, hl]; omega)
  have heq : eqT T 9 22 (agg8 (nums l)) (agg8 l) = some (decide (nums l = l)) := eqT_ints (d := 7) (t := 22) (e := 5) (n := 256) (k := .u8) rfl rfl rfl hnl hl
  refine FnT.body tok [0, 1, 2, 4, 5, 6] Try.func43 rfl (by kernel_rfl) (by kernel_rfl) (by show _ ≤ 20; simp) fun hsep => ?_
  rw [Try.results43]
  have hsE := hsep
  try simp only [keys_cons, keys_app, keys_nil, Sep_cons, Sep_nil, NotIn_cons, NotIn_app, NotIn_nil, List.cons_append, List.nil_append, List.append_assoc, and_assoc, and_true, true_and] at hsE
  repeat (obtain ⟨hsx, hsE⟩ := hsE)
  repeat' first
    | with_reducible refine Br.yes ?_
    | with_reducible refine Br.no ?_
    | with_reducible refine Br.dec (fun _ => ?_) (fun _ => ?_)
    | with_reducible refine Br.beqB (fun _ => ?_) (fun _ => ?_)
    | with_reducible refine Br.beqb (fun _ => ?_) (fun _ => ?_)
    | with_reducible refine Br.mk (fun _ => ?_) (fun _ => ?_)
    | with_reducible refine foundO.mk (fun _ _ => ?_) (fun _ => ?_)
    | with_reducible refine appV.zero ?_
    | with_reducible refine appV.own ?_
    | ((with_reducible refine NewB.mk fun nb hnb => ?_); have hnb1 := hnb.1.1; have hnb2 := hnb.1.2; try simp only [keys_cons, keys_app, keys_nil, NotIn_cons, NotIn_app, NotIn_nil, and_true] at hnb2)
    | ((with_reducible refine NewRow.mk fun nb nsp ncap hnb hncap => ?_); have hnb1 := hnb.1.1; have hnb2 := hnb.1.2; try simp only [keys_cons, keys_app, keys_nil, NotIn_cons, NotIn_app, NotIn_nil, and_true] at hnb2)
    | simp (dsimp := false) (implicitDefEqProofs := false) (disch := first | assumption | (simp only [List.mem_cons, List.mem_append, true_or, or_true, eq_self]; done) | omega | (with_reducible refine Row.adr (by assumption) ?_; simp only [List.length_map, List.length_take, List.length_drop]; omega) | (simp only [List.length_cons, List.length_nil, List.length_map, List.length_append, List.length_replicate, Nat.reduceAdd, true_and, and_true, and_self]; first | done | omega)) only [go_sem, ↓reduceIte, Nat.reduceEqDiff, Nat.reduceAdd, Nat.reduceSub, Nat.reduceMul, Nat.reduceBEq, Nat.reduceLT, Nat.reduceLeDiff, Nat.reduceMod, Nat.reducePow, List.reduceReplicate, UInt8.reduceOfNat, Int.reducePow, Int.reduceDiv, Int.reduceMod, Nat.reduceDiv, Int.reduceNeg, Int.reduceAdd, Int.reduceSub, Int.reduceMul, Int.reduceLE, Int.reduceLT, Int.reduceEq, Int.reduceToNat, reduceCtorEq, -List.reduceReplicate, List.toList_toArray, List.length_map, hl, hnl, htake, htake2, hspl, heq, List.length_replicate]
    | with_reducible refine pnorm_t hl ?_
  · rename_i he
    rw [decide_eq_true he, Bool.true_and] at hR
    all_goals refine Upd.finL ?_ hR ?_
    any_goals (intro fsum; first | exact Nat.le_refl _ | (simp only [List.map_append, List.map_cons, List.map_nil, List.sum_append, List.sum_cons, List.sum_nil, List.cons_append, List.nil_append]; omega))
    rfl
  · rename_i he
    rw [decide_eq_false he, Bool.false_and] at hR
    all_goals refine Upd.finL ?_ hR ?_
    any_goals (intro fsum; first | exact Nat.le_refl _ | (simp only [List.map_append, List.map_cons, List.map_nil, List.sum_append, List.sum_cons, List.sum_nil, List.cons_append, List.nil_append]; omega))
    rfl
end Go.Proofs.Ytpagkndgjihbbaa
