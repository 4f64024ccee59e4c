/- Machines as bytes: numbers put. -/
import Derived.Test.YtomdbjfdbkejoaaYa
set_option linter.unusedSimpArgs false
set_option linter.unusedVariables false
namespace Go.Proofs.Ytomdbjfdbkejoaa
open Go Go.V Go.Proofs

theorem beB_get {many n i : Nat} (h : i < many) : (beB many n)[i]'(by rw [beB_len]; exact h) = UInt8.ofNat (n / 2 ^ (8 * (many - 1 - i))) := by simp [beB]
theorem beB_one (n : Nat) : beB 1 n = [UInt8.ofNat n] := by simp [beB, List.range_succ]
theorem beB_two (n : Nat) : beB 2 n = [UInt8.ofNat (n / 256), UInt8.ofNat n] := by simp [beB, List.range_succ]
theorem beB_four (n : Nat) : beB 4 n = [UInt8.ofNat (n / 16777216), UInt8.ofNat (n / 65536), UInt8.ofNat (n / 256), UInt8.ofNat n] := by simp [beB, List.range_succ]
set_option maxHeartbeats 4000000 in
theorem put_t {l : List UInt8} (hl : l.length ≤ 200000000) {n many : Nat} (hn : n < 4294967296) (hm : many ≤ 4) {v : Value} {kb : Heap} (hb : Buf v kb l) {G : PHeap} {H : Heap} {R : Value → PHeap → Heap → Prop} (hR : ∀ v' kb', Buf v' kb' (l ++ beB many n) → Sep G (keys (kb' ++ H)) → R v' G (kb' ++ H)) : FnT Try.prog 33 [v, .int .i64 (n : Nat), .int .i64 (many : Nat)] G (kb ++ H) R := by
  have hbl := beB_len many n
  have hr1 : ∀ x : Value, List.replicate 1 x = [x] := fun _ => rfl
  refine FnT.sep ?_
  refine FnT.body tok [0, 1, 2, 6, 7, 8, 9, 10] Try.func33 rfl (by kernel_rfl) (by kernel_rfl) (by show _ ≤ 25; simp) fun hsep => ?_
  rw [Try.results33]
  have hsE := hsep
  try simp only [keys_cons, keys_app, keys_nil, Sep_cons, Sep_nil, NotIn_cons, NotIn_app, NotIn_nil, List.cons_append, List.nil_append, List.append_assoc, and_assoc, and_true, true_and] at hsE
  repeat (obtain ⟨hsx, hsE⟩ := hsE)
  repeat' first
    | with_reducible refine Br.yes ?_
    | with_reducible refine Br.no ?_
    | with_reducible refine Br.dec (fun _ => ?_) (fun _ => ?_)
    | with_reducible refine Br.beqB (fun _ => ?_) (fun _ => ?_)
    | with_reducible refine Br.beqb (fun _ => ?_) (fun _ => ?_)
    | with_reducible refine Br.mk (fun _ => ?_) (fun _ => ?_)
    | with_reducible refine foundO.mk (fun _ _ => ?_) (fun _ => ?_)
    | with_reducible refine appV.zero ?_
    | with_reducible refine appV.own ?_
    | ((with_reducible refine NewB.mk fun nb hnb => ?_); have hnb1 := hnb.1.1; have hnb2 := hnb.1.2; try simp only [keys_cons, keys_app, keys_nil, NotIn_cons, NotIn_app, NotIn_nil, and_true] at hnb2)
    | ((with_reducible refine NewRow.mk fun nb nsp ncap hnb hncap => ?_); have hnb1 := hnb.1.1; have hnb2 := hnb.1.2; try simp only [keys_cons, keys_app, keys_nil, NotIn_cons, NotIn_app, NotIn_nil, and_true] at hnb2)
    | simp (dsimp := false) (implicitDefEqProofs := false) (disch := first | assumption | (simp only [List.mem_cons, List.mem_append, true_or, or_true, eq_self]; done) | omega | (with_reducible refine Row.adr (by assumption) ?_; simp only [List.length_map, List.length_take, List.length_drop]; omega) | (simp only [List.length_cons, List.length_nil, List.length_map, List.length_append, List.length_replicate, Nat.reduceAdd, true_and, and_true, and_self]; first | done | omega)) only [go_sem, ↓reduceIte, Nat.reduceEqDiff, Nat.reduceAdd, Nat.reduceSub, Nat.reduceMul, Nat.reduceBEq, Nat.reduceLT, Nat.reduceLeDiff, Nat.reduceMod, Nat.reducePow, List.reduceReplicate, UInt8.reduceOfNat, Int.reducePow, Int.reduceDiv, Int.reduceMod, Nat.reduceDiv, Int.reduceNeg, Int.reduceAdd, Int.reduceSub, Int.reduceMul, Int.reduceLE, Int.reduceLT, Int.reduceEq, Int.reduceToNat, reduceCtorEq]
  refine Tri.loopU tok [0, 1, 2, 6, 7, 8, 9, 10] (by kernel_rfl) [0, 1, 2, 6, 8, 9] (fun q G' fr H' => ∃ (i : Nat) (v : Value) (kb : Heap), i + q = many ∧ G' = G ∧ Buf v kb (l ++ (beB many n).take i) ∧ H' = kb ++ H ∧ fr = [(0, v), (1, .int .i64 (n : Nat)), (2, .int .i64 (many : Nat)), (6, .slice none 0 0), (8, .int .i64 (many : Nat)), (9, .int .i64 (i : Nat))]) (many) ?_ ?_
  · exact Upd.now ⟨0, v, kb, by omega, rfl, by rw [List.take_zero, List.append_nil]; exact hb, rfl, rfl⟩
  · rintro q G1 fr H' hle hs1 ⟨i, v1, kb1, hiq, rfl, hb1, rfl, rfl⟩
    by_cases him : i < many
    · obtain ⟨j, hj⟩ : ∃ j, many = i + 1 + j := ⟨many - (i + 1), by omega⟩
      have hsub : ((many : Nat) : Int) - 1 - (i : Nat) = (j : Nat) := by omega
      have hget := beB_get (n := n) him
      have htk : (beB many n).take (i + 1) = (beB many n).take i ++ [(beB many n)[i]'(by omega)] := List.take_succ_eq_append_getElem (by omega)
      rw [hget, show many - 1 - i = j by omega] at htk
      obtain ⟨p, hp⟩ : ∃ p, p = l ++ (beB many n).take i := ⟨_, rfl⟩
      have hpl : p.length = l.length + i := by rw [hp, List.length_append, List.length_take]; omega
      have hnx : l ++ (beB many n).take (i + 1) = p ++ [UInt8.ofNat (n / 2 ^ (8 * j))] := by rw [htk, hp, List.append_assoc]
      rw [← hp] at hb1
      obtain ⟨z, hz⟩ : ∃ z, IntKind.u8.wrap ((n : Int) / 2 ^ (8 * (j : Int)).toNat) = z := ⟨_, rfl⟩
      have hzb : Value.int .u8 z = byteV (UInt8.ofNat (n / 2 ^ (8 * j))) := by
        rw [← u8_byte, ← hz, show (8 * (j : Int)).toNat = 8 * j by omega]
        congr 2
        try simp
      rcases hb1 with ⟨a, rfl, hn0, hx, rfl⟩ | ⟨b, cap, sp, rfl, rfl, hx, hc⟩
      · have h0 : p = [] := List.eq_nil_of_length_eq_zero hn0
        rw [h0, List.nil_append] at hnx
        repeat' first
          | with_reducible refine Br.yes ?_
          | with_reducible refine Br.no ?_
          | with_reducible refine Br.dec (fun _ => ?_) (fun _ => ?_)
          | with_reducible refine Br.beqB (fun _ => ?_) (fun _ => ?_)
          | with_reducible refine Br.beqb (fun _ => ?_) (fun _ => ?_)
          | with_reducible refine Br.mk (fun _ => ?_) (fun _ => ?_)
          | with_reducible refine foundO.mk (fun _ _ => ?_) (fun _ => ?_)
          | with_reducible refine appV.zero ?_
          | with_reducible refine appV.own ?_
          | ((with_reducible refine NewB.mk fun nb hnb => ?_); have hnb1 := hnb.1.1; have hnb2 := hnb.1.2; try simp only [keys_cons, keys_app, keys_nil, NotIn_cons, NotIn_app, NotIn_nil, and_true] at hnb2)
          | ((with_reducible refine NewRow.mk fun nb nsp ncap hnb hncap => ?_); have hnb1 := hnb.1.1; have hnb2 := hnb.1.2; try simp only [keys_cons, keys_app, keys_nil, NotIn_cons, NotIn_app, NotIn_nil, and_true] at hnb2)
          | simp (dsimp := false) (implicitDefEqProofs := false) (disch := first | assumption | (simp only [List.mem_cons, List.mem_append, true_or, or_true, eq_self]; done) | omega | (with_reducible refine Row.adr (by assumption) ?_; simp only [List.length_map, List.length_take, List.length_drop]; omega) | (simp only [List.length_cons, List.length_nil, List.length_map, List.length_append, List.length_replicate, Nat.reduceAdd, true_and, and_true, and_self]; first | done | omega)) only [go_sem, ↓reduceIte, Nat.reduceEqDiff, Nat.reduceAdd, Nat.reduceSub, Nat.reduceMul, Nat.reduceBEq, Nat.reduceLT, Nat.reduceLeDiff, Nat.reduceMod, Nat.reducePow, List.reduceReplicate, UInt8.reduceOfNat, Int.reducePow, Int.reduceDiv, Int.reduceMod, Nat.reduceDiv, Int.reduceNeg, Int.reduceAdd, Int.reduceSub, Int.reduceMul, Int.reduceLE, Int.reduceLT, Int.reduceEq, Int.reduceToNat, reduceCtorEq, -List.reduceReplicate, hsub, hr1, hz]
        refine Upd.go (H' := [(nb, .cells [Value.int .u8 z] nsp 5)] ++ H) (by intro fsum; first | exact Nat.le_refl _ | (simp only [List.map_append, List.map_cons, List.map_nil, List.sum_append, List.sum_cons, List.sum_nil, List.cons_append, List.nil_append]; omega)) (Upd.now ⟨q - 1, by omega, i + 1, _, _, by omega, rfl, ?_, rfl, rfl⟩)
        rw [hnx]
        exact .inr ⟨nb, ncap, nsp, rfl, by rw [hzb]; rfl, rfl, by simp at hncap ⊢; omega⟩
      · rw [List.length_map] at hx hc
        repeat' first
          | with_reducible refine Br.yes ?_
          | with_reducible refine Br.no ?_
          | with_reducible refine Br.dec (fun _ => ?_) (fun _ => ?_)
          | with_reducible refine Br.beqB (fun _ => ?_) (fun _ => ?_)
          | with_reducible refine Br.beqb (fun _ => ?_) (fun _ => ?_)
          | with_reducible refine Br.mk (fun _ => ?_) (fun _ => ?_)
          | with_reducible refine foundO.mk (fun _ _ => ?_) (fun _ => ?_)
          | with_reducible refine appV.zero ?_
          | with_reducible refine appV.own ?_
          | ((with_reducible refine NewB.mk fun nb hnb => ?_); have hnb1 := hnb.1.1; have hnb2 := hnb.1.2; try simp only [keys_cons, keys_app, keys_nil, NotIn_cons, NotIn_app, NotIn_nil, and_true] at hnb2)
          | ((with_reducible refine NewRow.mk fun nb nsp ncap hnb hncap => ?_); have hnb1 := hnb.1.1; have hnb2 := hnb.1.2; try simp only [keys_cons, keys_app, keys_nil, NotIn_cons, NotIn_app, NotIn_nil, and_true] at hnb2)
          | simp (dsimp := false) (implicitDefEqProofs := false) (disch := first | assumption | (simp only [List.mem_cons, List.mem_append, true_or, or_true, eq_self]; done) | omega | (with_reducible refine Row.adr (by assumption) ?_; simp only [List.length_map, List.length_take, List.length_drop]; omega) | (simp only [List.length_cons, List.length_nil, List.length_map, List.length_append, List.length_replicate, Nat.reduceAdd, true_and, and_true, and_self]; first | done | omega)) only [go_sem, ↓reduceIte, Nat.reduceEqDiff, Nat.reduceAdd, Nat.reduceSub, Nat.reduceMul, Nat.reduceBEq, Nat.reduceLT, Nat.reduceLeDiff, Nat.reduceMod, Nat.reducePow, List.reduceReplicate, UInt8.reduceOfNat, Int.reducePow, Int.reduceDiv, Int.reduceMod, Nat.reduceDiv, Int.reduceNeg, Int.reduceAdd, Int.reduceSub, Int.reduceMul, Int.reduceLE, Int.reduceLT, Int.reduceEq, Int.reduceToNat, reduceCtorEq, -List.reduceReplicate, hsub, hr1, hz]
        refine Upd.go (H' := [(nb, .cells (p.map byteV ++ [Value.int .u8 z]) nsp 5)] ++ H) (by intro fsum; first | exact Nat.le_refl _ | (simp only [List.map_append, List.map_cons, List.map_nil, List.sum_append, List.sum_cons, List.sum_nil, List.cons_append, List.nil_append]; omega)) (Upd.now ⟨q - 1, by omega, i + 1, _, _, by omega, rfl, ?_, rfl, rfl⟩)
        rw [hnx]
        exact .inr ⟨nb, ncap, nsp, by rw [List.length_append]; rfl, by rw [List.map_append, hzb]; rfl, by simp, by simp at hncap ⊢; omega⟩
    · obtain rfl : i = many := by omega
      have hall : (beB i n).take i = beB i n := List.take_of_length_le (by omega)
      rw [hall] at hb1
      repeat' first
        | with_reducible refine Br.yes ?_
        | with_reducible refine Br.no ?_
        | with_reducible refine Br.dec (fun _ => ?_) (fun _ => ?_)
        | with_reducible refine Br.beqB (fun _ => ?_) (fun _ => ?_)
        | with_reducible refine Br.beqb (fun _ => ?_) (fun _ => ?_)
        | with_reducible refine Br.mk (fun _ => ?_) (fun _ => ?_)
        | with_reducible refine foundO.mk (fun _ _ => ?_) (fun _ => ?_)
        | with_reducible refine appV.zero ?_
        | with_reducible refine appV.own ?_
        | ((with_reducible refine NewB.mk fun nb hnb => ?_); have hnb1 := hnb.1.1; have hnb2 := hnb.1.2; try simp only [keys_cons, keys_app, keys_nil, NotIn_cons, NotIn_app, NotIn_nil, and_true] at hnb2)
        | ((with_reducible refine NewRow.mk fun nb nsp ncap hnb hncap => ?_); have hnb1 := hnb.1.1; have hnb2 := hnb.1.2; try simp only [keys_cons, keys_app, keys_nil, NotIn_cons, NotIn_app, NotIn_nil, and_true] at hnb2)
        | simp (dsimp := false) (implicitDefEqProofs := false) (disch := first | assumption | (simp only [List.mem_cons, List.mem_append, true_or, or_true, eq_self]; done) | omega | (with_reducible refine Row.adr (by assumption) ?_; simp only [List.length_map, List.length_take, List.length_drop]; omega) | (simp only [List.length_cons, List.length_nil, List.length_map, List.length_append, List.length_replicate, Nat.reduceAdd, true_and, and_true, and_self]; first | done | omega)) only [go_sem, ↓reduceIte, Nat.reduceEqDiff, Nat.reduceAdd, Nat.reduceSub, Nat.reduceMul, Nat.reduceBEq, Nat.reduceLT, Nat.reduceLeDiff, Nat.reduceMod, Nat.reducePow, List.reduceReplicate, UInt8.reduceOfNat, Int.reducePow, Int.reduceDiv, Int.reduceMod, Nat.reduceDiv, Int.reduceNeg, Int.reduceAdd, Int.reduceSub, Int.reduceMul, Int.reduceLE, Int.reduceLT, Int.reduceEq, Int.reduceToNat, reduceCtorEq]
      unfold UpdR
      refine Upd.now ?_
      exact fun _ hs => hR _ _ hb1 hs
end Go.Proofs.Ytomdbjfdbkejoaa
