/- Machines as bytes: the document's Read. -/
import Derived.Test.YtomdbjfdbkejoaaYo
import Derived.Test.YtomdbjfdbkejoaaUf
set_option linter.unusedSimpArgs false
set_option linter.unusedVariables false
namespace Go.Proofs.Ytomdbjfdbkejoaa
open Go Go.V Go.Proofs

theorem four_iff {l : List UInt8} (hl : l.length = 4) {S : Nat} (hS : S < 4294967296) : l = beB 4 S ↔ beV l = S := by
  refine ⟨fun h => by rw [h, beV_four hS], fun h => ?_⟩
  obtain ⟨a, b, c, d, rfl⟩ : ∃ a b c d, l = [a, b, c, d] := by
    match l, hl with
    | [a, b, c, d], _ => exact ⟨a, b, c, d, rfl⟩
  simp only [beV, List.foldl_cons, List.foldl_nil] at h
  have ha := a.toNat_lt
  have hb := b.toNat_lt
  have hc := c.toNat_lt
  have hd := d.toNat_lt
  rw [beB_four]
  congr 1
  · apply UInt8.toNat_inj.1; rw [UInt8.toNat_ofNat']; omega
  congr 1
  · apply UInt8.toNat_inj.1; rw [UInt8.toNat_ofNat']; omega
  congr 1
  · apply UInt8.toNat_inj.1; rw [UInt8.toNat_ofNat']; omega
  congr 1
  · apply UInt8.toNat_inj.1; rw [UInt8.toNat_ofNat']; omega
theorem rsumS_t {b : List UInt8} {S : Nat} (hS : S = sumL b) (hbl : b.length ≤ 2000000) {G : PHeap} {H : Heap} {R : Value → PHeap → Heap → Prop} {v : Value} (hv : Sl G byteV v b) (hR : R (.int .u32 (S : Nat)) G H) : FnT Try.prog 8 [v] G H R := by
  subst hS; exact rsum_t hbl hv hR
set_option maxHeartbeats 16000000 in
theorem rread_t {b : List UInt8} (hbl : b.length ≤ 2000000) {G : PHeap} {H : Heap} {R : Value → PHeap → Heap → Prop} {v : Value} (hv : Sl G byteV v b)
    (hR : ∀ G' v', PLe G G' → Sep G' (keys H) → IsD G' (readR b).1 v' → R (.tuple #[v', .int .i64 (readR b).2]) G' H) : FnT Try.prog 6 [v] G H R := by
  have hv0 := hv
  obtain ⟨a, c, rfl, hr, hc⟩ := hv
  refine FnT.sep ?_
  by_cases hs8 : 8 ≤ b.length
  · have hr4 := Row.midB (n := 4) (m := 0) hr hc (by omega) (by omega)
    rw [List.drop_zero] at hr4
    have h4l : (b.take 4).length = 4 := by rw [List.length_take]; omega
    by_cases hf2 : b.take 4 = frontL
    · have hf : frontOk b := ⟨hs8, hf2⟩
      have hnt : (((b.length : Nat) : Int) - 4).toNat = b.length - 4 := by omega
      have hre := Row.midB (n := b.length) (m := b.length - 4) hr hc (by omega) (by omega)
      rw [List.take_length] at hre
      have hbd := Sl.take (n := b.length - 4) hr hc (by omega)
      have hdl : (b.drop (b.length - 4)).length = 4 := by rw [List.length_drop]; omega
      have hrde := Row.rdSlAll (n := b.length - (b.length - 4)) hre (by rw [List.length_map, hdl]; omega)
      obtain ⟨S, hSd⟩ : ∃ S, S = sumL (b.take (b.length - 4)) := ⟨_, rfl⟩
      have hsl : S < 4294967296 := by rw [hSd]; exact sumL_lt _
      have hso : sumOk b ↔ b.drop (b.length - 4) = beB 4 S := by rw [four_iff hdl hsl, hSd]; exact Iff.rfl
      have hwr : IntKind.i64.wrap ((S : Nat) : Int) = (S : Nat) := wrap_i64 (by omega) (by omega)
      have hdv : ((S : Nat) : Int) / 65536 = ((S / 65536 : Nat) : Int) := rfl
      have hmd : ((S : Nat) : Int) % 65536 = ((S % 65536 : Nat) : Int) := rfl
      refine FnT.body tok [0, 2, 3, 4, 5, 14, 36, 50] Try.func6 rfl (by kernel_rfl) (by kernel_rfl) (by show _ ≤ 53; simp) fun hsep => ?_
      rw [Try.results6]
      have hsE := hsep
      try simp only [keys_cons, keys_app, keys_nil, Sep_cons, Sep_nil, NotIn_cons, NotIn_app, NotIn_nil, List.cons_append, List.nil_append, List.append_assoc, and_assoc, and_true, true_and] at hsE
      repeat (obtain ⟨hsx, hsE⟩ := hsE)
      repeat' first
        | with_reducible refine Br.yes ?_
        | with_reducible refine Br.no ?_
        | with_reducible refine Br.dec (fun _ => ?_) (fun _ => ?_)
        | with_reducible refine Br.beqB (fun _ => ?_) (fun _ => ?_)
        | with_reducible refine Br.beqb (fun _ => ?_) (fun _ => ?_)
        | with_reducible refine Br.mk (fun _ => ?_) (fun _ => ?_)
        | with_reducible refine foundO.mk (fun _ _ => ?_) (fun _ => ?_)
        | with_reducible refine appV.zero ?_
        | with_reducible refine appV.own ?_
        | ((with_reducible refine NewB.mk fun nb hnb => ?_); have hnb1 := hnb.1.1; have hnb2 := hnb.1.2; try simp only [keys_cons, keys_app, keys_nil, NotIn_cons, NotIn_app, NotIn_nil, and_true] at hnb2)
        | ((with_reducible refine NewRow.mk fun nb nsp ncap hnb hncap => ?_); have hnb1 := hnb.1.1; have hnb2 := hnb.1.2; try simp only [keys_cons, keys_app, keys_nil, NotIn_cons, NotIn_app, NotIn_nil, and_true] at hnb2)
        | with_reducible refine Tri.drawM tok mixed [0, 2, 3, 4, 5, 14, 36, 50] 4 [] (.op 0 .plain (.op 1 .plain (.op 2 .plain (.op 3 .plain (.op 4 .plain (.op 6 .plain (.op 7 .plain (.op 9 .plain (.op 10 .plain (.both (.op 5 .keeps (.op 8 .keeps (.op 11 .keeps (.op 12 .keeps (.op 13 .plain .nil))))) (.op 8 .keeps (.both (.op 5 .keeps (.op 11 .keeps (.op 12 .keeps (.op 13 .plain .nil)))) (.op 11 .keeps (.both (.op 5 .keeps (.op 12 .keeps (.op 13 .plain .nil))) (.op 12 .keeps (.op 5 .keeps (.op 13 .plain .nil))))))))))))))))) (by kernel_rfl) [] (List.nil_sublist _) ?_
        | simp (dsimp := false) (implicitDefEqProofs := false) (disch := first | assumption | (simp only [List.mem_cons, List.mem_append, true_or, or_true, eq_self]; done) | omega | (with_reducible refine Row.adr (by assumption) ?_; simp only [List.length_map, List.length_take, List.length_drop]; omega) | (simp only [List.length_cons, List.length_nil, List.length_map, List.length_append, List.length_replicate, Nat.reduceAdd, true_and, and_true, and_self]; first | done | omega)) only [go_sem, ↓reduceIte, Nat.reduceEqDiff, Nat.reduceAdd, Nat.reduceSub, Nat.reduceMul, Nat.reduceBEq, Nat.reduceLT, Nat.reduceLeDiff, Nat.reduceMod, Nat.reducePow, List.reduceReplicate, UInt8.reduceOfNat, Int.reducePow, Int.reduceDiv, Int.reduceMod, Nat.reduceDiv, Int.reduceNeg, Int.reduceAdd, Int.reduceSub, Int.reduceMul, Int.reduceLE, Int.reduceLT, Int.reduceEq, Int.reduceToNat, reduceCtorEq, -List.reduceReplicate, zeroC_len, zeroC_one, zeroC_take, zeroC_put, Row.rdSlAll hr4, List.length_map, hnt, hwr, hdv, hmd, hrde]
        | with_reducible refine rsumS_t hSd (by rw [List.length_take]; omega) hbd ?_
      rotate_left
      · exact absurd hf2 (by assumption)
      rename_i hb22
      obtain ⟨b2, e0⟩ : ∃ x, x = nb := ⟨_, rfl⟩
      subst e0
      refine ⟨?_, ?_⟩
      all_goals (
        refine rtwo_t (kb := []) (l := []) (n := S / 65536) (Nat.zero_le _) (by omega) (.inl ⟨none, rfl, rfl, rfl, rfl⟩) fun v7 kb7 hbf7 hs7 => ?_
        rw [two_be, List.nil_append] at hbf7
        obtain ⟨x7, c7, sp7, rfl, rfl, hc7⟩ := hbf7.own (by rw [beB_len]; omega)
        have hsE := hs7
        try simp only [keys_cons, keys_app, keys_nil, Sep_cons, Sep_nil, NotIn_cons, NotIn_app, NotIn_nil, List.cons_append, List.nil_append, List.append_assoc, and_assoc, and_true, true_and] at hsE
        repeat (obtain ⟨hsx, hsE⟩ := hsE)
        repeat' first
          | with_reducible refine Br.yes ?_
          | with_reducible refine Br.no ?_
          | with_reducible refine Br.dec (fun _ => ?_) (fun _ => ?_)
          | with_reducible refine Br.beqB (fun _ => ?_) (fun _ => ?_)
          | with_reducible refine Br.beqb (fun _ => ?_) (fun _ => ?_)
          | with_reducible refine Br.mk (fun _ => ?_) (fun _ => ?_)
          | with_reducible refine foundO.mk (fun _ _ => ?_) (fun _ => ?_)
          | with_reducible refine appV.zero ?_
          | with_reducible refine appV.own ?_
          | ((with_reducible refine NewB.mk fun nb hnb => ?_); have hnb1 := hnb.1.1; have hnb2 := hnb.1.2; try simp only [keys_cons, keys_app, keys_nil, NotIn_cons, NotIn_app, NotIn_nil, and_true] at hnb2)
          | ((with_reducible refine NewRow.mk fun nb nsp ncap hnb hncap => ?_); have hnb1 := hnb.1.1; have hnb2 := hnb.1.2; try simp only [keys_cons, keys_app, keys_nil, NotIn_cons, NotIn_app, NotIn_nil, and_true] at hnb2)
          | simp (dsimp := false) (implicitDefEqProofs := false) (disch := first | assumption | (simp only [List.mem_cons, List.mem_append, true_or, or_true, eq_self]; done) | omega | (with_reducible refine Row.adr (by assumption) ?_; simp only [List.length_map, List.length_take, List.length_drop]; omega) | (simp only [List.length_cons, List.length_nil, List.length_map, List.length_append, List.length_replicate, Nat.reduceAdd, true_and, and_true, and_self]; first | done | omega)) only [go_sem, ↓reduceIte, Nat.reduceEqDiff, Nat.reduceAdd, Nat.reduceSub, Nat.reduceMul, Nat.reduceBEq, Nat.reduceLT, Nat.reduceLeDiff, Nat.reduceMod, Nat.reducePow, List.reduceReplicate, UInt8.reduceOfNat, Int.reducePow, Int.reduceDiv, Int.reduceMod, Nat.reduceDiv, Int.reduceNeg, Int.reduceAdd, Int.reduceSub, Int.reduceMul, Int.reduceLE, Int.reduceLT, Int.reduceEq, Int.reduceToNat, reduceCtorEq, -List.reduceReplicate, hwr, hdv, hmd, hrde]
        try with_reducible refine And.intro ?_ ?_
        all_goals (
          refine rtwo_t (n := S % 65536) (by rw [beB_len]; omega) (by omega) hbf7 fun v9 kb9 hbf9 hs9 => ?_
          rw [two_be, ← four_be] at hbf9
          obtain ⟨x9, c9, sp9, rfl, rfl, hc9⟩ := hbf9.own (by rw [beB_len]; omega)
          have hsE := hs9
          try simp only [keys_cons, keys_app, keys_nil, Sep_cons, Sep_nil, NotIn_cons, NotIn_app, NotIn_nil, List.cons_append, List.nil_append, List.append_assoc, and_assoc, and_true, true_and] at hsE
          repeat (obtain ⟨hsx, hsE⟩ := hsE)
          repeat' first
            | with_reducible refine Br.yes ?_
            | with_reducible refine Br.no ?_
            | with_reducible refine Br.dec (fun _ => ?_) (fun _ => ?_)
            | with_reducible refine Br.beqB (fun _ => ?_) (fun _ => ?_)
            | with_reducible refine Br.beqb (fun _ => ?_) (fun _ => ?_)
            | with_reducible refine Br.mk (fun _ => ?_) (fun _ => ?_)
            | with_reducible refine foundO.mk (fun _ _ => ?_) (fun _ => ?_)
            | with_reducible refine appV.zero ?_
            | with_reducible refine appV.own ?_
            | ((with_reducible refine NewB.mk fun nb hnb => ?_); have hnb1 := hnb.1.1; have hnb2 := hnb.1.2; try simp only [keys_cons, keys_app, keys_nil, NotIn_cons, NotIn_app, NotIn_nil, and_true] at hnb2)
            | ((with_reducible refine NewRow.mk fun nb nsp ncap hnb hncap => ?_); have hnb1 := hnb.1.1; have hnb2 := hnb.1.2; try simp only [keys_cons, keys_app, keys_nil, NotIn_cons, NotIn_app, NotIn_nil, and_true] at hnb2)
            | simp (dsimp := false) (implicitDefEqProofs := false) (disch := first | assumption | (simp only [List.mem_cons, List.mem_append, true_or, or_true, eq_self]; done) | omega | (with_reducible refine Row.adr (by assumption) ?_; simp only [List.length_map, List.length_take, List.length_drop]; omega) | (simp only [List.length_cons, List.length_nil, List.length_map, List.length_append, List.length_replicate, Nat.reduceAdd, true_and, and_true, and_self]; first | done | omega)) only [go_sem, ↓reduceIte, Nat.reduceEqDiff, Nat.reduceAdd, Nat.reduceSub, Nat.reduceMul, Nat.reduceBEq, Nat.reduceLT, Nat.reduceLeDiff, Nat.reduceMod, Nat.reducePow, List.reduceReplicate, UInt8.reduceOfNat, Int.reducePow, Int.reduceDiv, Int.reduceMod, Nat.reduceDiv, Int.reduceNeg, Int.reduceAdd, Int.reduceSub, Int.reduceMul, Int.reduceLE, Int.reduceLT, Int.reduceEq, Int.reduceToNat, reduceCtorEq, -List.reduceReplicate, hwr, hdv, hmd, hrde, zeroC_len, zeroC_one, zeroC_take, zeroC_put]
          · rename_i heq
            have hs : sumOk b := hso.2 heq
            refine guess_t hbl hv0 fun G2 v2 e hle2 hs2 hI2 hse hlk => ?_
            obtain ⟨C, an, al, ay, cn, cl, cs, rs, rfl, O⟩ := hI2.opened
            have hCl := O.len
            have hCa := O.all
            have hone := dfa_one O.is
            have hput := dfa_put hCl
            have hnot : ¬ (RightP e ∧ layL e = b) → readR b = (zeroD, 3) := fun h => readR_no hf hs fun ⟨d, hd, e2⟩ => h (by
              have := hlk d hd e2
              subst this
              exact ⟨hd.1, e2⟩)
            have hrda := fun (G' : PHeap) (hle : PLe G G') => Row.rdSlAll (n := b.length) (hr.mono hle) (by rw [List.length_map])
            have hsE := hs2
            try simp only [keys_cons, keys_app, keys_nil, Sep_cons, Sep_nil, NotIn_cons, NotIn_app, NotIn_nil, List.cons_append, List.nil_append, List.append_assoc, and_assoc, and_true, true_and] at hsE
            repeat (obtain ⟨hsx, hsE⟩ := hsE)
            by_cases hok : RightP e
            · have hb := boolOf_yes hok
              repeat' first
                | with_reducible refine Br.yes ?_
                | with_reducible refine Br.no ?_
                | with_reducible refine Br.dec (fun _ => ?_) (fun _ => ?_)
                | with_reducible refine Br.beqB (fun _ => ?_) (fun _ => ?_)
                | with_reducible refine Br.beqb (fun _ => ?_) (fun _ => ?_)
                | with_reducible refine Br.mk (fun _ => ?_) (fun _ => ?_)
                | with_reducible refine foundO.mk (fun _ _ => ?_) (fun _ => ?_)
                | with_reducible refine appV.zero ?_
                | with_reducible refine appV.own ?_
                | ((with_reducible refine NewB.mk fun nb hnb => ?_); have hnb1 := hnb.1.1; have hnb2 := hnb.1.2; try simp only [keys_cons, keys_app, keys_nil, NotIn_cons, NotIn_app, NotIn_nil, and_true] at hnb2)
                | ((with_reducible refine NewRow.mk fun nb nsp ncap hnb hncap => ?_); have hnb1 := hnb.1.1; have hnb2 := hnb.1.2; try simp only [keys_cons, keys_app, keys_nil, NotIn_cons, NotIn_app, NotIn_nil, and_true] at hnb2)
                | with_reducible refine Tri.drawH tok mixed [0, 2, 3, 4, 5, 14, 36, 50] 7 [0] (.op 0 .held (.op 1 .plain (.op 2 .plain (.op 3 .plain (.op 7 .plain (.both (.op 4 .keeps (.both (.op 5 .keeps (.both (.op 6 .keeps (.op 8 .keeps (.op 9 .plain (.op 10 .plain .nil)))) (.op 8 .keeps (.op 6 .keeps (.op 9 .plain (.op 10 .plain .nil)))))) (.op 8 .keeps (.op 5 .keeps (.op 6 .keeps (.op 9 .plain (.op 10 .plain .nil))))))) (.op 8 .keeps (.op 4 .keeps (.op 5 .keeps (.op 6 .keeps (.op 9 .plain (.op 10 .plain .nil)))))))))))) (by kernel_rfl) [5] ?_
                | simp (dsimp := false) (implicitDefEqProofs := false) (disch := first | assumption | (simp only [List.mem_cons, List.mem_append, true_or, or_true, eq_self]; done) | omega | (with_reducible refine Row.adr (by assumption) ?_; simp only [List.length_map, List.length_take, List.length_drop]; omega) | (simp only [List.length_cons, List.length_nil, List.length_map, List.length_append, List.length_replicate, Nat.reduceAdd, true_and, and_true, and_self]; first | done | omega)) only [go_sem, ↓reduceIte, Nat.reduceEqDiff, Nat.reduceAdd, Nat.reduceSub, Nat.reduceMul, Nat.reduceBEq, Nat.reduceLT, Nat.reduceLeDiff, Nat.reduceMod, Nat.reducePow, List.reduceReplicate, UInt8.reduceOfNat, Int.reducePow, Int.reduceDiv, Int.reduceMod, Nat.reduceDiv, Int.reduceNeg, Int.reduceAdd, Int.reduceSub, Int.reduceMul, Int.reduceLE, Int.reduceLT, Int.reduceEq, Int.reduceToNat, reduceCtorEq, -List.reduceReplicate, zeroC_len, zeroC_one, zeroC_take, zeroC_put, hCl, hCa, hone, hput, hb, hrda]
                | ((with_reducible refine rright_t hse O.is fun G3 hle3 hs3 => ?_); (have hsE := hs3; try simp only [keys_cons, keys_app, keys_nil, Sep_cons, Sep_nil, NotIn_cons, NotIn_app, NotIn_nil, List.cons_append, List.nil_append, List.append_assoc, and_assoc, and_true, true_and] at hsE; repeat (obtain ⟨hsx, hsE⟩ := hsE)); have hle23 := hle2.trans hle3; have O3 := O.mono hle3)
              repeat' (with_reducible refine And.intro ?_ ?_)
              all_goals (
                refine rlay_t hse hok O3.is fun v8 kb8 hbf8 hs8 => ?_
                have hll : (layL e).length ≤ 50000004 := by
                  have := bodyL_len hok O.ofl
                  unfold layL; rw [List.length_append, beB_len]; omega
                obtain ⟨x8, c8, sp8, rfl, rfl, hc8⟩ := hbf8.own (by have := (bodyL_pos e).1; omega)
                have hsE := hs8
                try simp only [keys_cons, keys_app, keys_nil, Sep_cons, Sep_nil, NotIn_cons, NotIn_app, NotIn_nil, List.cons_append, List.nil_append, List.append_assoc, and_assoc, and_true, true_and] at hsE
                repeat (obtain ⟨hsx, hsE⟩ := hsE)
                repeat' first
                  | with_reducible refine Br.yes ?_
                  | with_reducible refine Br.no ?_
                  | with_reducible refine Br.dec (fun _ => ?_) (fun _ => ?_)
                  | with_reducible refine Br.beqB (fun _ => ?_) (fun _ => ?_)
                  | with_reducible refine Br.beqb (fun _ => ?_) (fun _ => ?_)
                  | with_reducible refine Br.mk (fun _ => ?_) (fun _ => ?_)
                  | with_reducible refine foundO.mk (fun _ _ => ?_) (fun _ => ?_)
                  | with_reducible refine appV.zero ?_
                  | with_reducible refine appV.own ?_
                  | ((with_reducible refine NewB.mk fun nb hnb => ?_); have hnb1 := hnb.1.1; have hnb2 := hnb.1.2; try simp only [keys_cons, keys_app, keys_nil, NotIn_cons, NotIn_app, NotIn_nil, and_true] at hnb2)
                  | ((with_reducible refine NewRow.mk fun nb nsp ncap hnb hncap => ?_); have hnb1 := hnb.1.1; have hnb2 := hnb.1.2; try simp only [keys_cons, keys_app, keys_nil, NotIn_cons, NotIn_app, NotIn_nil, and_true] at hnb2)
                  | simp (dsimp := false) (implicitDefEqProofs := false) (disch := first | assumption | (simp only [List.mem_cons, List.mem_append, true_or, or_true, eq_self]; done) | omega | (with_reducible refine Row.adr (by assumption) ?_; simp only [List.length_map, List.length_take, List.length_drop]; omega) | (simp only [List.length_cons, List.length_nil, List.length_map, List.length_append, List.length_replicate, Nat.reduceAdd, true_and, and_true, and_self]; first | done | omega)) only [go_sem, ↓reduceIte, Nat.reduceEqDiff, Nat.reduceAdd, Nat.reduceSub, Nat.reduceMul, Nat.reduceBEq, Nat.reduceLT, Nat.reduceLeDiff, Nat.reduceMod, Nat.reducePow, List.reduceReplicate, UInt8.reduceOfNat, Int.reducePow, Int.reduceDiv, Int.reduceMod, Nat.reduceDiv, Int.reduceNeg, Int.reduceAdd, Int.reduceSub, Int.reduceMul, Int.reduceLE, Int.reduceLT, Int.reduceEq, Int.reduceToNat, reduceCtorEq, -List.reduceReplicate, zeroC_len, zeroC_one, zeroC_take, zeroC_put, hCl, hCa, hone, hput, hb, hrda]
                · rename_i he
                  have hrd : readR b = (e, 0) := by rw [← he]; exact readR_yes ⟨hok, O.ofl, O.ofb⟩
                  rw [hrd] at hR
                  unfold UpdR
                  refine Upd.leave (H' := H) (by intro fsum; simp only [List.map_append, List.map_cons, List.map_nil, List.sum_append, List.sum_cons, List.sum_nil, List.cons_append, List.nil_append]; omega) ?_
                  exact fun _ hs => hR G3 _ hle23 hs O3.is
                · rename_i he
                  rw [hnot fun h => he h.2] at hR
                  unfold UpdR
                  refine Upd.leave (H' := H) (by intro fsum; simp only [List.map_append, List.map_cons, List.map_nil, List.sum_append, List.sum_cons, List.sum_nil, List.cons_append, List.nil_append]; omega) ?_
                  exact fun _ hs => hR G3 _ hle23 hs (zeroD_is _))
            · have hb := boolOf_no hok
              rw [hnot fun h => hok h.1] at hR
              repeat' first
                | with_reducible refine Br.yes ?_
                | with_reducible refine Br.no ?_
                | with_reducible refine Br.dec (fun _ => ?_) (fun _ => ?_)
                | with_reducible refine Br.beqB (fun _ => ?_) (fun _ => ?_)
                | with_reducible refine Br.beqb (fun _ => ?_) (fun _ => ?_)
                | with_reducible refine Br.mk (fun _ => ?_) (fun _ => ?_)
                | with_reducible refine foundO.mk (fun _ _ => ?_) (fun _ => ?_)
                | with_reducible refine appV.zero ?_
                | with_reducible refine appV.own ?_
                | ((with_reducible refine NewB.mk fun nb hnb => ?_); have hnb1 := hnb.1.1; have hnb2 := hnb.1.2; try simp only [keys_cons, keys_app, keys_nil, NotIn_cons, NotIn_app, NotIn_nil, and_true] at hnb2)
                | ((with_reducible refine NewRow.mk fun nb nsp ncap hnb hncap => ?_); have hnb1 := hnb.1.1; have hnb2 := hnb.1.2; try simp only [keys_cons, keys_app, keys_nil, NotIn_cons, NotIn_app, NotIn_nil, and_true] at hnb2)
                | with_reducible refine Tri.drawH tok mixed [0, 2, 3, 4, 5, 14, 36, 50] 7 [0] (.op 0 .held (.op 1 .plain (.op 2 .plain (.op 3 .plain (.op 7 .plain (.both (.op 4 .keeps (.both (.op 5 .keeps (.both (.op 6 .keeps (.op 8 .keeps (.op 9 .plain (.op 10 .plain .nil)))) (.op 8 .keeps (.op 6 .keeps (.op 9 .plain (.op 10 .plain .nil)))))) (.op 8 .keeps (.op 5 .keeps (.op 6 .keeps (.op 9 .plain (.op 10 .plain .nil))))))) (.op 8 .keeps (.op 4 .keeps (.op 5 .keeps (.op 6 .keeps (.op 9 .plain (.op 10 .plain .nil)))))))))))) (by kernel_rfl) [5] ?_
                | simp (dsimp := false) (implicitDefEqProofs := false) (disch := first | assumption | (simp only [List.mem_cons, List.mem_append, true_or, or_true, eq_self]; done) | omega | (with_reducible refine Row.adr (by assumption) ?_; simp only [List.length_map, List.length_take, List.length_drop]; omega) | (simp only [List.length_cons, List.length_nil, List.length_map, List.length_append, List.length_replicate, Nat.reduceAdd, true_and, and_true, and_self]; first | done | omega)) only [go_sem, ↓reduceIte, Nat.reduceEqDiff, Nat.reduceAdd, Nat.reduceSub, Nat.reduceMul, Nat.reduceBEq, Nat.reduceLT, Nat.reduceLeDiff, Nat.reduceMod, Nat.reducePow, List.reduceReplicate, UInt8.reduceOfNat, Int.reducePow, Int.reduceDiv, Int.reduceMod, Nat.reduceDiv, Int.reduceNeg, Int.reduceAdd, Int.reduceSub, Int.reduceMul, Int.reduceLE, Int.reduceLT, Int.reduceEq, Int.reduceToNat, reduceCtorEq, -List.reduceReplicate, zeroC_len, zeroC_one, zeroC_take, zeroC_put, hCl, hCa, hone, hput, hb, hrda]
                | ((with_reducible refine rright_t hse O.is fun G3 hle3 hs3 => ?_); (have hsE := hs3; try simp only [keys_cons, keys_app, keys_nil, Sep_cons, Sep_nil, NotIn_cons, NotIn_app, NotIn_nil, List.cons_append, List.nil_append, List.append_assoc, and_assoc, and_true, true_and] at hsE; repeat (obtain ⟨hsx, hsE⟩ := hsE)); have hle23 := hle2.trans hle3; have O3 := O.mono hle3)
              unfold UpdR
              refine Upd.leave (H' := H) (by intro fsum; simp only [List.map_append, List.map_cons, List.map_nil, List.sum_append, List.sum_cons, List.sum_nil, List.cons_append, List.nil_append]; omega) ?_
              exact fun _ hs => hR G3 _ hle23 hs (zeroD_is _)
          · rename_i hne
            rw [readR_sum hf fun h => hne (hso.1 h)] at hR
            unfold UpdR
            refine Upd.leave (H' := H) (by intro fsum; simp only [List.map_append, List.map_cons, List.map_nil, List.sum_append, List.sum_cons, List.sum_nil, List.cons_append, List.nil_append]; omega) ?_
            exact fun _ hs => hR G _ (PLe.refl _) hs (zeroD_is _)))
    · rw [readR_front fun h => hf2 h.2] at hR
      refine FnT.body tok [0, 2, 3, 4, 5, 14, 36, 50] Try.func6 rfl (by kernel_rfl) (by kernel_rfl) (by show _ ≤ 53; simp) fun hsep => ?_
      rw [Try.results6]
      have hsE := hsep
      try simp only [keys_cons, keys_app, keys_nil, Sep_cons, Sep_nil, NotIn_cons, NotIn_app, NotIn_nil, List.cons_append, List.nil_append, List.append_assoc, and_assoc, and_true, true_and] at hsE
      repeat (obtain ⟨hsx, hsE⟩ := hsE)
      repeat' first
        | with_reducible refine Br.yes ?_
        | with_reducible refine Br.no ?_
        | with_reducible refine Br.dec (fun _ => ?_) (fun _ => ?_)
        | with_reducible refine Br.beqB (fun _ => ?_) (fun _ => ?_)
        | with_reducible refine Br.beqb (fun _ => ?_) (fun _ => ?_)
        | with_reducible refine Br.mk (fun _ => ?_) (fun _ => ?_)
        | with_reducible refine foundO.mk (fun _ _ => ?_) (fun _ => ?_)
        | with_reducible refine appV.zero ?_
        | with_reducible refine appV.own ?_
        | ((with_reducible refine NewB.mk fun nb hnb => ?_); have hnb1 := hnb.1.1; have hnb2 := hnb.1.2; try simp only [keys_cons, keys_app, keys_nil, NotIn_cons, NotIn_app, NotIn_nil, and_true] at hnb2)
        | ((with_reducible refine NewRow.mk fun nb nsp ncap hnb hncap => ?_); have hnb1 := hnb.1.1; have hnb2 := hnb.1.2; try simp only [keys_cons, keys_app, keys_nil, NotIn_cons, NotIn_app, NotIn_nil, and_true] at hnb2)
        | simp (dsimp := false) (implicitDefEqProofs := false) (disch := first | assumption | (simp only [List.mem_cons, List.mem_append, true_or, or_true, eq_self]; done) | omega | (with_reducible refine Row.adr (by assumption) ?_; simp only [List.length_map, List.length_take, List.length_drop]; omega) | (simp only [List.length_cons, List.length_nil, List.length_map, List.length_append, List.length_replicate, Nat.reduceAdd, true_and, and_true, and_self]; first | done | omega)) only [go_sem, ↓reduceIte, Nat.reduceEqDiff, Nat.reduceAdd, Nat.reduceSub, Nat.reduceMul, Nat.reduceBEq, Nat.reduceLT, Nat.reduceLeDiff, Nat.reduceMod, Nat.reducePow, List.reduceReplicate, UInt8.reduceOfNat, Int.reducePow, Int.reduceDiv, Int.reduceMod, Nat.reduceDiv, Int.reduceNeg, Int.reduceAdd, Int.reduceSub, Int.reduceMul, Int.reduceLE, Int.reduceLT, Int.reduceEq, Int.reduceToNat, reduceCtorEq, -List.reduceReplicate, zeroC_len, zeroC_one, zeroC_take, zeroC_put, Row.rdSlAll hr4, List.length_map]
      · exact absurd (show b.take 4 = frontL by assumption) hf2
      · unfold UpdR
        refine Upd.leave (H' := H) (by intro fsum; first | exact Nat.le_refl _ | (simp only [List.map_append, List.map_cons, List.map_nil, List.sum_append, List.sum_cons, List.sum_nil, List.cons_append, List.nil_append]; omega)) ?_
        exact fun _ hs => hR G _ (PLe.refl _) hs (zeroD_is _)
  · rw [readR_front fun h => hs8 h.1] at hR
    refine FnT.body tok [0, 2, 3, 4, 5, 14, 36, 50] Try.func6 rfl (by kernel_rfl) (by kernel_rfl) (by show _ ≤ 53; simp) fun hsep => ?_
    rw [Try.results6]
    have hsE := hsep
    try simp only [keys_cons, keys_app, keys_nil, Sep_cons, Sep_nil, NotIn_cons, NotIn_app, NotIn_nil, List.cons_append, List.nil_append, List.append_assoc, and_assoc, and_true, true_and] at hsE
    repeat (obtain ⟨hsx, hsE⟩ := hsE)
    repeat' first
      | with_reducible refine Br.yes ?_
      | with_reducible refine Br.no ?_
      | with_reducible refine Br.dec (fun _ => ?_) (fun _ => ?_)
      | with_reducible refine Br.beqB (fun _ => ?_) (fun _ => ?_)
      | with_reducible refine Br.beqb (fun _ => ?_) (fun _ => ?_)
      | with_reducible refine Br.mk (fun _ => ?_) (fun _ => ?_)
      | with_reducible refine foundO.mk (fun _ _ => ?_) (fun _ => ?_)
      | with_reducible refine appV.zero ?_
      | with_reducible refine appV.own ?_
      | ((with_reducible refine NewB.mk fun nb hnb => ?_); have hnb1 := hnb.1.1; have hnb2 := hnb.1.2; try simp only [keys_cons, keys_app, keys_nil, NotIn_cons, NotIn_app, NotIn_nil, and_true] at hnb2)
      | ((with_reducible refine NewRow.mk fun nb nsp ncap hnb hncap => ?_); have hnb1 := hnb.1.1; have hnb2 := hnb.1.2; try simp only [keys_cons, keys_app, keys_nil, NotIn_cons, NotIn_app, NotIn_nil, and_true] at hnb2)
      | simp (dsimp := false) (implicitDefEqProofs := false) (disch := first | assumption | (simp only [List.mem_cons, List.mem_append, true_or, or_true, eq_self]; done) | omega | (with_reducible refine Row.adr (by assumption) ?_; simp only [List.length_map, List.length_take, List.length_drop]; omega) | (simp only [List.length_cons, List.length_nil, List.length_map, List.length_append, List.length_replicate, Nat.reduceAdd, true_and, and_true, and_self]; first | done | omega)) only [go_sem, ↓reduceIte, Nat.reduceEqDiff, Nat.reduceAdd, Nat.reduceSub, Nat.reduceMul, Nat.reduceBEq, Nat.reduceLT, Nat.reduceLeDiff, Nat.reduceMod, Nat.reducePow, List.reduceReplicate, UInt8.reduceOfNat, Int.reducePow, Int.reduceDiv, Int.reduceMod, Nat.reduceDiv, Int.reduceNeg, Int.reduceAdd, Int.reduceSub, Int.reduceMul, Int.reduceLE, Int.reduceLT, Int.reduceEq, Int.reduceToNat, reduceCtorEq, -List.reduceReplicate, zeroC_len, zeroC_one, zeroC_take, zeroC_put]
    unfold UpdR
    refine Upd.leave (H' := H) (by intro fsum; first | exact Nat.le_refl _ | (simp only [List.map_append, List.map_cons, List.map_nil, List.sum_append, List.sum_cons, List.sum_nil, List.cons_append, List.nil_append]; omega)) ?_
    exact fun _ hs => hR G _ (PLe.refl _) hs (zeroD_is _)
end Go.Proofs.Ytomdbjfdbkejoaa
