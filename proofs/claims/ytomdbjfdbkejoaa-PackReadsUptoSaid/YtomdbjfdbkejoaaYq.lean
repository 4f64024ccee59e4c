/- Machines as bytes: pack.Bytes. -/
import Derived.Test.YtomdbjfdbkejoaaYl
set_option linter.unusedSimpArgs false
set_option linter.unusedVariables false
namespace Go.Proofs.Ytomdbjfdbkejoaa
open Go Go.V Go.Proofs

noncomputable def bytesR (d : DfaT) : List UInt8 × Int := if boolOf (RightP d) = true then (layL d, 0) else ([], 6)
theorem bytesR_ok {d : DfaT} (h : RightP d) : bytesR d = (layL d, 0) := by unfold bytesR; rw [if_pos (boolOf_yes h)]
theorem bytesR_bad {d : DfaT} (h : ¬ RightP d) : bytesR d = ([], 6) := by unfold bytesR; rw [if_neg (by rw [boolOf_no h]; decide)]
theorem layL_len {d : DfaT} (hok : RightP d) (hl : d.of.length = 256) : (layL d).length ≤ 50000004 := by
  have := bodyL_len hok hl
  unfold layL; rw [List.length_append, beB_len]; omega
set_option maxHeartbeats 8000000 in
theorem pbytes_t {d : DfaT} (hsm : SmallD d) {G : PHeap} {H : Heap} {R : Value → PHeap → Heap → Prop} {v : Value} (hv : IsD G d v)
    (hR : ∀ G' v', PLe G G' → Sep G' (keys H) → Sl G' byteV v' (bytesR d).1 → R (.tuple #[v', .int .i64 (bytesR d).2]) G' H) : FnT Try.prog 10 [v] G H R := by
  obtain ⟨C, an, al, ay, cn, cl, cs, rs, rfl, O⟩ := hv.opened
  have hCl := O.len
  have hCa := O.all
  refine FnT.sep ?_
  by_cases hok : RightP d
  · have hb := boolOf_yes hok
    rw [bytesR_ok hok] at hR
    refine FnT.body tok [0, 1, 2, 3, 6] Try.func10 rfl (by kernel_rfl) (by kernel_rfl) (by show _ ≤ 9; simp) fun hsep => ?_
    rw [Try.results10]
    have hsE := hsep
    try simp only [keys_cons, keys_app, keys_nil, Sep_cons, Sep_nil, NotIn_cons, NotIn_app, NotIn_nil, List.cons_append, List.nil_append, List.append_assoc, and_assoc, and_true, true_and] at hsE
    repeat (obtain ⟨hsx, hsE⟩ := hsE)
    repeat' first
      | with_reducible refine Br.yes ?_
      | with_reducible refine Br.no ?_
      | with_reducible refine Br.dec (fun _ => ?_) (fun _ => ?_)
      | with_reducible refine Br.beqB (fun _ => ?_) (fun _ => ?_)
      | with_reducible refine Br.beqb (fun _ => ?_) (fun _ => ?_)
      | with_reducible refine Br.mk (fun _ => ?_) (fun _ => ?_)
      | with_reducible refine foundO.mk (fun _ _ => ?_) (fun _ => ?_)
      | with_reducible refine appV.zero ?_
      | with_reducible refine appV.own ?_
      | ((with_reducible refine NewB.mk fun nb hnb => ?_); have hnb1 := hnb.1.1; have hnb2 := hnb.1.2; try simp only [keys_cons, keys_app, keys_nil, NotIn_cons, NotIn_app, NotIn_nil, and_true] at hnb2)
      | ((with_reducible refine NewRow.mk fun nb nsp ncap hnb hncap => ?_); have hnb1 := hnb.1.1; have hnb2 := hnb.1.2; try simp only [keys_cons, keys_app, keys_nil, NotIn_cons, NotIn_app, NotIn_nil, and_true] at hnb2)
      | simp (dsimp := false) (implicitDefEqProofs := false) (disch := first | assumption | (simp only [List.mem_cons, List.mem_append, true_or, or_true, eq_self]; done) | omega | (with_reducible refine Row.adr (by assumption) ?_; simp only [List.length_map, List.length_take, List.length_drop]; omega) | (simp only [List.length_cons, List.length_nil, List.length_map, List.length_append, List.length_replicate, Nat.reduceAdd, true_and, and_true, and_self]; first | done | omega)) only [go_sem, ↓reduceIte, Nat.reduceEqDiff, Nat.reduceAdd, Nat.reduceSub, Nat.reduceMul, Nat.reduceBEq, Nat.reduceLT, Nat.reduceLeDiff, Nat.reduceMod, Nat.reducePow, List.reduceReplicate, UInt8.reduceOfNat, Int.reducePow, Int.reduceDiv, Int.reduceMod, Nat.reduceDiv, Int.reduceNeg, Int.reduceAdd, Int.reduceSub, Int.reduceMul, Int.reduceLE, Int.reduceLT, Int.reduceEq, Int.reduceToNat, reduceCtorEq, -List.reduceReplicate, List.toList_toArray, hCl, hCa, hb]
      | with_reducible refine right_t hsm O.is ?_
    obtain ⟨b1, e0⟩ : ∃ x, x = nb := ⟨_, rfl⟩
    subst e0
    refine lay_t hsm hok O.is fun v8 kb8 hbf8 hs8 => ?_
    have hll := layL_len hok O.ofl
    obtain ⟨x8, c8, sp8, rfl, rfl, hc8⟩ := hbf8.own (by have := (bodyL_pos d).1; omega)
    have hsE := hs8
    try simp only [keys_cons, keys_app, keys_nil, Sep_cons, Sep_nil, NotIn_cons, NotIn_app, NotIn_nil, List.cons_append, List.nil_append, List.append_assoc, and_assoc, and_true, true_and] at hsE
    repeat (obtain ⟨hsx, hsE⟩ := hsE)
    repeat' first
      | with_reducible refine Br.yes ?_
      | with_reducible refine Br.no ?_
      | with_reducible refine Br.dec (fun _ => ?_) (fun _ => ?_)
      | with_reducible refine Br.beqB (fun _ => ?_) (fun _ => ?_)
      | with_reducible refine Br.beqb (fun _ => ?_) (fun _ => ?_)
      | with_reducible refine Br.mk (fun _ => ?_) (fun _ => ?_)
      | with_reducible refine foundO.mk (fun _ _ => ?_) (fun _ => ?_)
      | with_reducible refine appV.zero ?_
      | with_reducible refine appV.own ?_
      | ((with_reducible refine NewB.mk fun nb hnb => ?_); have hnb1 := hnb.1.1; have hnb2 := hnb.1.2; try simp only [keys_cons, keys_app, keys_nil, NotIn_cons, NotIn_app, NotIn_nil, and_true] at hnb2)
      | ((with_reducible refine NewRow.mk fun nb nsp ncap hnb hncap => ?_); have hnb1 := hnb.1.1; have hnb2 := hnb.1.2; try simp only [keys_cons, keys_app, keys_nil, NotIn_cons, NotIn_app, NotIn_nil, and_true] at hnb2)
      | simp (dsimp := false) (implicitDefEqProofs := false) (disch := first | assumption | (simp only [List.mem_cons, List.mem_append, true_or, or_true, eq_self]; done) | omega | (with_reducible refine Row.adr (by assumption) ?_; simp only [List.length_map, List.length_take, List.length_drop]; omega) | (simp only [List.length_cons, List.length_nil, List.length_map, List.length_append, List.length_replicate, Nat.reduceAdd, true_and, and_true, and_self]; first | done | omega)) only [go_sem, ↓reduceIte, Nat.reduceEqDiff, Nat.reduceAdd, Nat.reduceSub, Nat.reduceMul, Nat.reduceBEq, Nat.reduceLT, Nat.reduceLeDiff, Nat.reduceMod, Nat.reducePow, List.reduceReplicate, UInt8.reduceOfNat, Int.reducePow, Int.reduceDiv, Int.reduceMod, Nat.reduceDiv, Int.reduceNeg, Int.reduceAdd, Int.reduceSub, Int.reduceMul, Int.reduceLE, Int.reduceLT, Int.reduceEq, Int.reduceToNat, reduceCtorEq, -List.reduceReplicate, List.toList_toArray, hCl, hCa]
    unfold UpdR
    refine Upd.go (H' := (x8, .cells ((layL d).map byteV) sp8 5) :: H) (by intro fsum; simp only [List.map_append, List.map_cons, List.map_nil, List.sum_append, List.sum_cons, List.sum_nil, List.cons_append, List.nil_append]; omega) (Upd.shareRow (by assumption) fun G9 hle9 hs9 hr9 => ?_)
    exact fun _ hs => hR G9 _ hle9 hs ⟨_, _, rfl, hr9, by show (layL d).length ≤ _; omega⟩
  · have hb := boolOf_no hok
    rw [bytesR_bad hok] at hR
    refine FnT.body tok [0, 1, 2, 3, 6] Try.func10 rfl (by kernel_rfl) (by kernel_rfl) (by show _ ≤ 9; simp) fun hsep => ?_
    rw [Try.results10]
    have hsE := hsep
    try simp only [keys_cons, keys_app, keys_nil, Sep_cons, Sep_nil, NotIn_cons, NotIn_app, NotIn_nil, List.cons_append, List.nil_append, List.append_assoc, and_assoc, and_true, true_and] at hsE
    repeat (obtain ⟨hsx, hsE⟩ := hsE)
    repeat' first
      | with_reducible refine Br.yes ?_
      | with_reducible refine Br.no ?_
      | with_reducible refine Br.dec (fun _ => ?_) (fun _ => ?_)
      | with_reducible refine Br.beqB (fun _ => ?_) (fun _ => ?_)
      | with_reducible refine Br.beqb (fun _ => ?_) (fun _ => ?_)
      | with_reducible refine Br.mk (fun _ => ?_) (fun _ => ?_)
      | with_reducible refine foundO.mk (fun _ _ => ?_) (fun _ => ?_)
      | with_reducible refine appV.zero ?_
      | with_reducible refine appV.own ?_
      | ((with_reducible refine NewB.mk fun nb hnb => ?_); have hnb1 := hnb.1.1; have hnb2 := hnb.1.2; try simp only [keys_cons, keys_app, keys_nil, NotIn_cons, NotIn_app, NotIn_nil, and_true] at hnb2)
      | ((with_reducible refine NewRow.mk fun nb nsp ncap hnb hncap => ?_); have hnb1 := hnb.1.1; have hnb2 := hnb.1.2; try simp only [keys_cons, keys_app, keys_nil, NotIn_cons, NotIn_app, NotIn_nil, and_true] at hnb2)
      | simp (dsimp := false) (implicitDefEqProofs := false) (disch := first | assumption | (simp only [List.mem_cons, List.mem_append, true_or, or_true, eq_self]; done) | omega | (with_reducible refine Row.adr (by assumption) ?_; simp only [List.length_map, List.length_take, List.length_drop]; omega) | (simp only [List.length_cons, List.length_nil, List.length_map, List.length_append, List.length_replicate, Nat.reduceAdd, true_and, and_true, and_self]; first | done | omega)) only [go_sem, ↓reduceIte, Nat.reduceEqDiff, Nat.reduceAdd, Nat.reduceSub, Nat.reduceMul, Nat.reduceBEq, Nat.reduceLT, Nat.reduceLeDiff, Nat.reduceMod, Nat.reducePow, List.reduceReplicate, UInt8.reduceOfNat, Int.reducePow, Int.reduceDiv, Int.reduceMod, Nat.reduceDiv, Int.reduceNeg, Int.reduceAdd, Int.reduceSub, Int.reduceMul, Int.reduceLE, Int.reduceLT, Int.reduceEq, Int.reduceToNat, reduceCtorEq, -List.reduceReplicate, List.toList_toArray, hCl, hCa, hb]
      | with_reducible refine right_t hsm O.is ?_
    unfold UpdR
    refine Upd.leave (H' := H) (by intro fsum; simp only [List.map_append, List.map_cons, List.map_nil, List.sum_append, List.sum_cons, List.sum_nil, List.cons_append, List.nil_append]; omega) ?_
    exact fun _ hs => hR G _ (PLe.refl _) hs ⟨none, 0, rfl, Row.nil _ _, Nat.le_refl _⟩
end Go.Proofs.Ytomdbjfdbkejoaa
