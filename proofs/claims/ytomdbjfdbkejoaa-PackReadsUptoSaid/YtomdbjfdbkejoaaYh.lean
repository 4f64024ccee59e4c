/- Machines as bytes: pack.lay. -/
import Derived.Test.YtomdbjfdbkejoaaYg
set_option linter.unusedSimpArgs false
set_option linter.unusedVariables false
namespace Go.Proofs.Ytomdbjfdbkejoaa
open Go Go.V Go.Proofs

theorem Buf.own {v : Value} {kb : Heap} {l : List UInt8} (h : Buf v kb l) (hl : 0 < l.length) : ∃ b cap sp, v = .slice (some ⟨b, 0, none⟩) l.length cap ∧ kb = [(b, .cells (l.map byteV) sp 5)] ∧ l.length + sp.length = cap := by
  rcases h with ⟨a, rfl, hn0, hx, rfl⟩ | ⟨b, cap, sp, rfl, rfl, hx, hc⟩
  · omega
  · rw [List.length_map, Nat.mul_one] at hc; exact ⟨b, cap, sp, rfl, rfl, hc⟩
theorem Buf.mk {l : List UInt8} {b cap : Nat} {sp : List Value} (h : l.length + sp.length = cap) : Buf (.slice (some ⟨b, 0, none⟩) l.length cap) [(b, .cells (l.map byteV) sp 5)] l :=
  .inr ⟨b, cap, sp, rfl, rfl, by rw [List.length_map, Nat.mul_one], by rw [List.length_map, Nat.mul_one]; exact h⟩
theorem OpenD.ofAt {G : PHeap} {d : DfaT} {C : List Value} {an al ay : Option Addr} {cn cl cs : Nat} {rs : List Value} (O : OpenD G d C an al ay cn cl cs rs) {c : Nat} (hc : c < 256) : ∃ y : Nat, y < 256 ∧ d.of.getD c 0 = (y : Nat) ∧ C[c]? = some (.int .u8 (y : Nat)) := by
  have hcd : c < d.of.length := by rw [O.ofl]; exact hc
  have hb := O.ofb _ (List.getElem_mem hcd)
  obtain ⟨y, hy⟩ := Int.eq_ofNat_of_zero_le hb.1
  refine ⟨y, by omega, by rw [List.getD_eq_getElem?_getD, List.getElem?_eq_getElem hcd]; exact hy, ?_⟩
  have h1 : (C.take 256)[c]? = C[c]? := by rw [List.getElem?_take, if_pos hc]
  rw [← h1, O.of]
  unfold u8L
  rw [List.getElem?_map, List.getElem?_eq_getElem hcd, hy]; rfl
set_option maxHeartbeats 16000000 in
theorem lay_t {d : DfaT} (hsm : SmallD d) (hok : RightP d) {G : PHeap} {H : Heap} {R : Value → PHeap → Heap → Prop} {v : Value} (hv : IsD G d v) (hR : ∀ v' kb', Buf v' kb' (layL d) → Sep G (keys (kb' ++ H)) → R v' G (kb' ++ H)) : FnT Try.prog 17 [v] G H R := by
  obtain ⟨C, an, al, ay, cn, cl, cs, rs, rfl, O⟩ := hv.opened
  obtain ⟨hm1, hm2, hm3, hm4, hm5⟩ := id hsm
  obtain ⟨hk1, hk2, hk3, hk4, hk5, hk6, hk7⟩ := id hok
  have hCl := O.len
  have hCa := O.all
  have hCn := O.n
  have hCx := O.l
  have hCs := O.s
  have hnm := right_names hok
  have hbl := bodyL_len hok O.ofl
  have hr4 : ∀ x : Value, List.replicate 4 x = [x, x, x, x] := fun _ => rfl
  refine FnT.sep ?_
  refine FnT.body tok [0, 1, 2, 3, 5, 6, 7, 8, 9, 11, 19, 20, 21, 22, 32, 33, 48, 70, 71, 72, 73, 84, 85, 86, 87] Try.func17 rfl (by kernel_rfl) (by kernel_rfl) (by show _ ≤ 100; simp) fun hsep => ?_
  rw [Try.results17]
  have hsE := hsep
  try simp only [keys_cons, keys_app, keys_nil, Sep_cons, Sep_nil, NotIn_cons, NotIn_app, NotIn_nil, List.cons_append, List.nil_append, List.append_assoc, and_assoc, and_true, true_and] at hsE
  repeat (obtain ⟨hsx, hsE⟩ := hsE)
  repeat' first
    | with_reducible refine Br.yes ?_
    | with_reducible refine Br.no ?_
    | with_reducible refine Br.dec (fun _ => ?_) (fun _ => ?_)
    | with_reducible refine Br.beqB (fun _ => ?_) (fun _ => ?_)
    | with_reducible refine Br.beqb (fun _ => ?_) (fun _ => ?_)
    | with_reducible refine Br.mk (fun _ => ?_) (fun _ => ?_)
    | with_reducible refine foundO.mk (fun _ _ => ?_) (fun _ => ?_)
    | with_reducible refine appV.zero ?_
    | with_reducible refine appV.own ?_
    | ((with_reducible refine NewB.mk fun nb hnb => ?_); have hnb1 := hnb.1.1; have hnb2 := hnb.1.2; try simp only [keys_cons, keys_app, keys_nil, NotIn_cons, NotIn_app, NotIn_nil, and_true] at hnb2)
    | ((with_reducible refine NewRow.mk fun nb nsp ncap hnb hncap => ?_); have hnb1 := hnb.1.1; have hnb2 := hnb.1.2; try simp only [keys_cons, keys_app, keys_nil, NotIn_cons, NotIn_app, NotIn_nil, and_true] at hnb2)
    | simp (dsimp := false) (implicitDefEqProofs := false) (disch := first | assumption | (simp only [List.mem_cons, List.mem_append, true_or, or_true, eq_self]; done) | omega | (with_reducible refine Row.adr (by assumption) ?_; simp only [List.length_map, List.length_take, List.length_drop]; omega) | (simp only [List.length_cons, List.length_nil, List.length_map, List.length_append, List.length_replicate, Nat.reduceAdd, true_and, and_true, and_self]; first | done | omega)) only [go_sem, ↓reduceIte, Nat.reduceEqDiff, Nat.reduceAdd, Nat.reduceSub, Nat.reduceMul, Nat.reduceBEq, Nat.reduceLT, Nat.reduceLeDiff, Nat.reduceMod, Nat.reducePow, List.reduceReplicate, UInt8.reduceOfNat, Int.reducePow, Int.reduceDiv, Int.reduceMod, Nat.reduceDiv, Int.reduceNeg, Int.reduceAdd, Int.reduceSub, Int.reduceMul, Int.reduceLE, Int.reduceLT, Int.reduceEq, Int.reduceToNat, reduceCtorEq, -List.reduceReplicate, List.toList_toArray, hCl, hCa, hCs, hr4]
  rename_i b1 hb1 hb11 hb12
  have hb0 : Buf (.slice (some ⟨nb, 0, none⟩) 4 4) [(nb, .cells [Value.int .u8 68, Value.int .u8 66, Value.int .u8 76, Value.int .u8 49] [] 5)] frontL := .inr ⟨nb, 4, [], rfl, rfl, rfl, rfl⟩
  refine put_t (many := 1) (by decide) (by omega) (by omega) hb0 fun v1 kb1 hbf1 hs1 => ?_
  obtain ⟨l1, hl1⟩ : ∃ l, l = frontL ++ beB 1 d.names.length := ⟨_, rfl⟩
  have hl1l : l1.length = 5 := by rw [hl1, List.length_append, beB_len]; rfl
  rw [← hl1] at hbf1
  obtain ⟨x1, c1, sp1, rfl, rfl, hc1⟩ := hbf1.own (by omega)
  have hsE := hs1
  try simp only [keys_cons, keys_app, keys_nil, Sep_cons, Sep_nil, NotIn_cons, NotIn_app, NotIn_nil, List.cons_append, List.nil_append, List.append_assoc, and_assoc, and_true, true_and] at hsE
  repeat (obtain ⟨hsx, hsE⟩ := hsE)
  repeat' first
    | with_reducible refine Br.yes ?_
    | with_reducible refine Br.no ?_
    | with_reducible refine Br.dec (fun _ => ?_) (fun _ => ?_)
    | with_reducible refine Br.beqB (fun _ => ?_) (fun _ => ?_)
    | with_reducible refine Br.beqb (fun _ => ?_) (fun _ => ?_)
    | with_reducible refine Br.mk (fun _ => ?_) (fun _ => ?_)
    | with_reducible refine foundO.mk (fun _ _ => ?_) (fun _ => ?_)
    | with_reducible refine appV.zero ?_
    | with_reducible refine appV.own ?_
    | ((with_reducible refine NewB.mk fun nb hnb => ?_); have hnb1 := hnb.1.1; have hnb2 := hnb.1.2; try simp only [keys_cons, keys_app, keys_nil, NotIn_cons, NotIn_app, NotIn_nil, and_true] at hnb2)
    | ((with_reducible refine NewRow.mk fun nb nsp ncap hnb hncap => ?_); have hnb1 := hnb.1.1; have hnb2 := hnb.1.2; try simp only [keys_cons, keys_app, keys_nil, NotIn_cons, NotIn_app, NotIn_nil, and_true] at hnb2)
    | simp (dsimp := false) (implicitDefEqProofs := false) (disch := first | assumption | (simp only [List.mem_cons, List.mem_append, true_or, or_true, eq_self]; done) | omega | (with_reducible refine Row.adr (by assumption) ?_; simp only [List.length_map, List.length_take, List.length_drop]; omega) | (simp only [List.length_cons, List.length_nil, List.length_map, List.length_append, List.length_replicate, Nat.reduceAdd, true_and, and_true, and_self]; first | done | omega)) only [go_sem, ↓reduceIte, Nat.reduceEqDiff, Nat.reduceAdd, Nat.reduceSub, Nat.reduceMul, Nat.reduceBEq, Nat.reduceLT, Nat.reduceLeDiff, Nat.reduceMod, Nat.reducePow, List.reduceReplicate, UInt8.reduceOfNat, Int.reducePow, Int.reduceDiv, Int.reduceMod, Nat.reduceDiv, Int.reduceNeg, Int.reduceAdd, Int.reduceSub, Int.reduceMul, Int.reduceLE, Int.reduceLT, Int.reduceEq, Int.reduceToNat, reduceCtorEq, -List.reduceReplicate, List.toList_toArray, hCl, hCa, hCs]
  have hnl := namesE_len d.names hnm.2
  refine Tri.loopU tok [0, 1, 2, 3, 5, 6, 7, 8, 9, 11, 19, 20, 21, 22, 32, 33, 48, 70, 71, 72, 73, 84, 85, 86, 87] (by kernel_rfl) [1, 2, 3, 19, 20, 21] (fun q G' fr H' => ∃ (i : Nat) (v : Value) (kb : Heap), i + q = d.names.length ∧ G' = G ∧ Buf v kb (l1 ++ namesE (d.names.take i)) ∧ H' = kb ++ ((b1, .cells C [] 28) :: H) ∧ fr = [(1, .pointer (some ⟨b1, 0, none⟩)), (2, .slice none 0 0), (3, v), (19, .slice ay d.names.length cs), (20, .int .i64 d.names.length), (21, .int .i64 (i : Nat))]) (d.names.length) ?_ ?_
  · exact Upd.now ⟨0, _, _, by omega, rfl, by rw [List.take_zero]; show Buf _ _ (l1 ++ []); rw [List.append_nil]; exact hbf1, rfl, rfl⟩
  · rintro q G1 fr H' hle hs2 ⟨i, v, kb, hiq, rfl, hbf, rfl, rfl⟩
    by_cases hil : i < d.names.length
    · have had : Adr ay := O.ry.adr (by rw [List.length_map]; omega)
      have hsl := hnm.2 _ (List.getElem_mem hil)
      have hle1 : (namesE (d.names.take i)).length ≤ 33 * (d.names.take i).length := namesE_len _ fun x hx => hnm.2 x (List.mem_of_mem_take hx)
      rw [List.length_take] at hle1
      obtain ⟨p, hp⟩ : ∃ p, p = l1 ++ namesE (d.names.take i) := ⟨_, rfl⟩
      have hpl : p.length ≤ 5 + 33 * 64 ∧ 0 < p.length := by rw [hp, List.length_append]; omega
      have hnext : l1 ++ namesE (d.names.take (i + 1)) = (p ++ beB 1 (d.names[i]).length) ++ d.names[i] := by rw [namesE_snoc _ hil, hp]; unfold nameE; simp only [List.append_assoc]
      rw [← hp] at hbf
      have hsx0 := hs2
      have hsE := hs2
      try simp only [keys_cons, keys_app, keys_nil, Sep_cons, Sep_nil, NotIn_cons, NotIn_app, NotIn_nil, List.cons_append, List.nil_append, List.append_assoc, and_assoc, and_true, true_and] at hsE
      repeat (obtain ⟨hsx, hsE⟩ := hsE)
      repeat' first
        | with_reducible refine Br.yes ?_
        | with_reducible refine Br.no ?_
        | with_reducible refine Br.dec (fun _ => ?_) (fun _ => ?_)
        | with_reducible refine Br.beqB (fun _ => ?_) (fun _ => ?_)
        | with_reducible refine Br.beqb (fun _ => ?_) (fun _ => ?_)
        | with_reducible refine Br.mk (fun _ => ?_) (fun _ => ?_)
        | with_reducible refine foundO.mk (fun _ _ => ?_) (fun _ => ?_)
        | with_reducible refine appV.zero ?_
        | with_reducible refine appV.own ?_
        | ((with_reducible refine NewB.mk fun nb hnb => ?_); have hnb1 := hnb.1.1; have hnb2 := hnb.1.2; try simp only [keys_cons, keys_app, keys_nil, NotIn_cons, NotIn_app, NotIn_nil, and_true] at hnb2)
        | ((with_reducible refine NewRow.mk fun nb nsp ncap hnb hncap => ?_); have hnb1 := hnb.1.1; have hnb2 := hnb.1.2; try simp only [keys_cons, keys_app, keys_nil, NotIn_cons, NotIn_app, NotIn_nil, and_true] at hnb2)
        | simp (dsimp := false) (implicitDefEqProofs := false) (disch := first | assumption | (simp only [List.mem_cons, List.mem_append, true_or, or_true, eq_self]; done) | omega | (with_reducible refine Row.adr (by assumption) ?_; simp only [List.length_map, List.length_take, List.length_drop]; omega) | (simp only [List.length_cons, List.length_nil, List.length_map, List.length_append, List.length_replicate, Nat.reduceAdd, true_and, and_true, and_self]; first | done | omega)) only [go_sem, ↓reduceIte, Nat.reduceEqDiff, Nat.reduceAdd, Nat.reduceSub, Nat.reduceMul, Nat.reduceBEq, Nat.reduceLT, Nat.reduceLeDiff, Nat.reduceMod, Nat.reducePow, List.reduceReplicate, UInt8.reduceOfNat, Int.reducePow, Int.reduceDiv, Int.reduceMod, Nat.reduceDiv, Int.reduceNeg, Int.reduceAdd, Int.reduceSub, Int.reduceMul, Int.reduceLE, Int.reduceLT, Int.reduceEq, Int.reduceToNat, reduceCtorEq, -List.reduceReplicate, Row.obj O.ry, List.getElem_map]
      refine put_t (many := 1) (by omega) (by omega) (by omega) hbf fun v2 kb2 hbf2 hs3 => ?_
      obtain ⟨p2, hp2⟩ : ∃ p2, p2 = p ++ beB 1 (d.names[i]).length := ⟨_, rfl⟩
      have hp2l : p2.length = p.length + 1 := by rw [hp2, List.length_append, beB_len]
      rw [← hp2] at hbf2 hnext
      obtain ⟨x2, c2, sp2, rfl, rfl, hc2⟩ := hbf2.own (by omega)
      have hsE := hs3
      try simp only [keys_cons, keys_app, keys_nil, Sep_cons, Sep_nil, NotIn_cons, NotIn_app, NotIn_nil, List.cons_append, List.nil_append, List.append_assoc, and_assoc, and_true, true_and] at hsE
      repeat (obtain ⟨hsx, hsE⟩ := hsE)
      repeat' first
        | with_reducible refine Br.yes ?_
        | with_reducible refine Br.no ?_
        | with_reducible refine Br.dec (fun _ => ?_) (fun _ => ?_)
        | with_reducible refine Br.beqB (fun _ => ?_) (fun _ => ?_)
        | with_reducible refine Br.beqb (fun _ => ?_) (fun _ => ?_)
        | with_reducible refine Br.mk (fun _ => ?_) (fun _ => ?_)
        | with_reducible refine foundO.mk (fun _ _ => ?_) (fun _ => ?_)
        | with_reducible refine appV.zero ?_
        | with_reducible refine appV.own ?_
        | ((with_reducible refine NewB.mk fun nb hnb => ?_); have hnb1 := hnb.1.1; have hnb2 := hnb.1.2; try simp only [keys_cons, keys_app, keys_nil, NotIn_cons, NotIn_app, NotIn_nil, and_true] at hnb2)
        | ((with_reducible refine NewRow.mk fun nb nsp ncap hnb hncap => ?_); have hnb1 := hnb.1.1; have hnb2 := hnb.1.2; try simp only [keys_cons, keys_app, keys_nil, NotIn_cons, NotIn_app, NotIn_nil, and_true] at hnb2)
        | simp (dsimp := false) (implicitDefEqProofs := false) (disch := first | assumption | (simp only [List.mem_cons, List.mem_append, true_or, or_true, eq_self]; done) | omega | (with_reducible refine Row.adr (by assumption) ?_; simp only [List.length_map, List.length_take, List.length_drop]; omega) | (simp only [List.length_cons, List.length_nil, List.length_map, List.length_append, List.length_replicate, Nat.reduceAdd, true_and, and_true, and_self]; first | done | omega)) only [go_sem, ↓reduceIte, Nat.reduceEqDiff, Nat.reduceAdd, Nat.reduceSub, Nat.reduceMul, Nat.reduceBEq, Nat.reduceLT, Nat.reduceLeDiff, Nat.reduceMod, Nat.reducePow, List.reduceReplicate, UInt8.reduceOfNat, Int.reducePow, Int.reduceDiv, Int.reduceMod, Nat.reduceDiv, Int.reduceNeg, Int.reduceAdd, Int.reduceSub, Int.reduceMul, Int.reduceLE, Int.reduceLT, Int.reduceEq, Int.reduceToNat, reduceCtorEq, -List.reduceReplicate, List.length_map]
      refine Upd.go (H' := [(nb, .cells (p2.map byteV ++ (d.names[i]).map byteV) nsp 5)] ++ ((b1, .cells C [] 28) :: H)) (by intro fsum; first | exact Nat.le_refl _ | (simp only [List.map_append, List.map_cons, List.map_nil, List.sum_append, List.sum_cons, List.sum_nil, List.cons_append, List.nil_append]; omega)) (Upd.now ⟨q - 1, by omega, i + 1, _, _, by omega, rfl, ?_, rfl, rfl⟩)
      rw [hnext]
      exact .inr ⟨nb, ncap, nsp, by rw [List.length_append], by rw [List.map_append], by simp, by simp at hncap ⊢; omega⟩
    · obtain rfl : i = d.names.length := by omega
      rw [List.take_length] at hbf
      obtain ⟨p1, hp1⟩ : ∃ p, p = l1 ++ namesE d.names := ⟨_, rfl⟩
      have hp1l : p1.length ≤ 5 + 33 * 64 ∧ 0 < p1.length := by rw [hp1, List.length_append]; omega
      rw [← hp1] at hbf
      repeat' first
        | with_reducible refine Br.yes ?_
        | with_reducible refine Br.no ?_
        | with_reducible refine Br.dec (fun _ => ?_) (fun _ => ?_)
        | with_reducible refine Br.beqB (fun _ => ?_) (fun _ => ?_)
        | with_reducible refine Br.beqb (fun _ => ?_) (fun _ => ?_)
        | with_reducible refine Br.mk (fun _ => ?_) (fun _ => ?_)
        | with_reducible refine foundO.mk (fun _ _ => ?_) (fun _ => ?_)
        | with_reducible refine appV.zero ?_
        | with_reducible refine appV.own ?_
        | ((with_reducible refine NewB.mk fun nb hnb => ?_); have hnb1 := hnb.1.1; have hnb2 := hnb.1.2; try simp only [keys_cons, keys_app, keys_nil, NotIn_cons, NotIn_app, NotIn_nil, and_true] at hnb2)
        | ((with_reducible refine NewRow.mk fun nb nsp ncap hnb hncap => ?_); have hnb1 := hnb.1.1; have hnb2 := hnb.1.2; try simp only [keys_cons, keys_app, keys_nil, NotIn_cons, NotIn_app, NotIn_nil, and_true] at hnb2)
        | simp (dsimp := false) (implicitDefEqProofs := false) (disch := first | assumption | (simp only [List.mem_cons, List.mem_append, true_or, or_true, eq_self]; done) | omega | (with_reducible refine Row.adr (by assumption) ?_; simp only [List.length_map, List.length_take, List.length_drop]; omega) | (simp only [List.length_cons, List.length_nil, List.length_map, List.length_append, List.length_replicate, Nat.reduceAdd, true_and, and_true, and_self]; first | done | omega)) only [go_sem, ↓reduceIte, Nat.reduceEqDiff, Nat.reduceAdd, Nat.reduceSub, Nat.reduceMul, Nat.reduceBEq, Nat.reduceLT, Nat.reduceLeDiff, Nat.reduceMod, Nat.reducePow, List.reduceReplicate, UInt8.reduceOfNat, Int.reducePow, Int.reduceDiv, Int.reduceMod, Nat.reduceDiv, Int.reduceNeg, Int.reduceAdd, Int.reduceSub, Int.reduceMul, Int.reduceLE, Int.reduceLT, Int.reduceEq, Int.reduceToNat, reduceCtorEq, -List.reduceReplicate]
      refine Tri.loopU tok [0, 1, 2, 3, 5, 6, 7, 8, 9, 11, 19, 20, 21, 22, 32, 33, 48, 70, 71, 72, 73, 84, 85, 86, 87] (by kernel_rfl) [1, 2, 3, 6, 32] (fun q G' fr H' => ∃ (c fm : Nat) (v : Value) (kb : Heap), c + q = 256 ∧ G' = G1 ∧ fm ≤ 256 ∧ (c < 256 → fm = startL d.of c) ∧ Buf v kb (p1 ++ runsT d.of c) ∧ H' = kb ++ ((b1, .cells C [] 28) :: H) ∧ fr = [(1, .pointer (some ⟨b1, 0, none⟩)), (2, .slice none 0 0), (3, v), (6, .int .i64 (fm : Nat)), (32, .int .i64 (c : Nat))]) (256) ?_ ?_
      · exact Upd.now ⟨0, 0, v, kb, by omega, rfl, by omega, fun _ => rfl, by show Buf _ _ (p1 ++ []); rw [List.append_nil]; exact hbf, rfl, rfl⟩
      · rintro q G2 fr H' hle3 hs4 ⟨c, fm, v, kb, hcq, rfl, hfm, hfs, hbf, rfl, rfl⟩
        have hrl := runsT_len d.of c
        obtain ⟨p, hp⟩ : ∃ p, p = p1 ++ runsT d.of c := ⟨_, rfl⟩
        have hpl : p.length ≤ 5 + 33 * 64 + 512 ∧ 0 < p.length := by rw [hp, List.length_append]; omega
        by_cases hcl : c < 256
        · have hfs := hfs hcl
          have hsle := startL_le d.of c
          obtain ⟨y, hy1, hy2, hy3⟩ := O.ofAt hcl
          have hnext : p1 ++ runsT d.of (c + 1) = p ++ emL d.of c := by rw [runsT_succ, hp, List.append_assoc]
          rw [← hp] at hbf
          by_cases hem : c = 255 ∨ d.of.getD (c + 1) 0 ≠ d.of.getD c 0
          · have hemv : emL d.of c = beB 1 y ++ beB 1 (c - fm) := by unfold emL; rw [if_pos hem, hy2, ← hfs]; simp only [Int.toNat_natCast]
            have hyw : IntKind.i64.wrap ((y : Nat) : Int) = (y : Nat) := wrap_i64 (by omega) (by omega)
            have hsub : ((c : Nat) : Int) - (fm : Nat) = ((c - fm : Nat) : Int) := by omega
            obtain ⟨x2, c2, sp2, rfl, rfl, hc2⟩ := hbf.own (by omega)
            have hsE := hs4
            try simp only [keys_cons, keys_app, keys_nil, Sep_cons, Sep_nil, NotIn_cons, NotIn_app, NotIn_nil, List.cons_append, List.nil_append, List.append_assoc, and_assoc, and_true, true_and] at hsE
            repeat (obtain ⟨hsx, hsE⟩ := hsE)
            by_cases h255 : c = 255
            · subst h255
              have hsub5 : (255 : Int) - (fm : Nat) = ((255 - fm : Nat) : Int) := by omega
              repeat' first
                | with_reducible refine Br.yes ?_
                | with_reducible refine Br.no ?_
                | with_reducible refine Br.dec (fun _ => ?_) (fun _ => ?_)
                | with_reducible refine Br.beqB (fun _ => ?_) (fun _ => ?_)
                | with_reducible refine Br.beqb (fun _ => ?_) (fun _ => ?_)
                | with_reducible refine Br.mk (fun _ => ?_) (fun _ => ?_)
                | with_reducible refine foundO.mk (fun _ _ => ?_) (fun _ => ?_)
                | with_reducible refine appV.zero ?_
                | with_reducible refine appV.own ?_
                | ((with_reducible refine NewB.mk fun nb hnb => ?_); have hnb1 := hnb.1.1; have hnb2 := hnb.1.2; try simp only [keys_cons, keys_app, keys_nil, NotIn_cons, NotIn_app, NotIn_nil, and_true] at hnb2)
                | ((with_reducible refine NewRow.mk fun nb nsp ncap hnb hncap => ?_); have hnb1 := hnb.1.1; have hnb2 := hnb.1.2; try simp only [keys_cons, keys_app, keys_nil, NotIn_cons, NotIn_app, NotIn_nil, and_true] at hnb2)
                | with_reducible refine Tri.drawH tok mixed [0, 1, 2, 3, 5, 6, 7, 8, 9, 11, 19, 20, 21, 22, 32, 33, 48, 70, 71, 72, 73, 84, 85, 86, 87] 11 [7, 11] (.op 0 .plain (.op 1 .plain (.op 2 .plain (.op 3 .plain (.op 4 .plain (.op 5 .plain (.op 6 .plain (.op 7 .held (.op 8 .plain (.op 9 .plain (.op 10 .plain (.op 11 .held (.op 12 .plain (.op 13 .plain .nil)))))))))))))) (by kernel_rfl) [1] ?_
                | simp (dsimp := false) (implicitDefEqProofs := false) (disch := first | assumption | (simp only [List.mem_cons, List.mem_append, true_or, or_true, eq_self]; done) | omega | (with_reducible refine Row.adr (by assumption) ?_; simp only [List.length_map, List.length_take, List.length_drop]; omega) | (simp only [List.length_cons, List.length_nil, List.length_map, List.length_append, List.length_replicate, Nat.reduceAdd, true_and, and_true, and_self]; first | done | omega)) only [go_sem, ↓reduceIte, Nat.reduceEqDiff, Nat.reduceAdd, Nat.reduceSub, Nat.reduceMul, Nat.reduceBEq, Nat.reduceLT, Nat.reduceLeDiff, Nat.reduceMod, Nat.reducePow, List.reduceReplicate, UInt8.reduceOfNat, Int.reducePow, Int.reduceDiv, Int.reduceMod, Nat.reduceDiv, Int.reduceNeg, Int.reduceAdd, Int.reduceSub, Int.reduceMul, Int.reduceLE, Int.reduceLT, Int.reduceEq, Int.reduceToNat, reduceCtorEq, -List.reduceReplicate, hCl, hy3, hyw, hsub, hsub5]
              refine put_t (many := 1) (by omega) (by omega) (by omega) hbf fun v3 kb3 hbf3 hs5 => ?_
              obtain ⟨x3, c3, sp3, rfl, rfl, hc3⟩ := hbf3.own (by rw [List.length_append]; omega)
              have hsE := hs5
              try simp only [keys_cons, keys_app, keys_nil, Sep_cons, Sep_nil, NotIn_cons, NotIn_app, NotIn_nil, List.cons_append, List.nil_append, List.append_assoc, and_assoc, and_true, true_and] at hsE
              repeat (obtain ⟨hsx, hsE⟩ := hsE)
              repeat' first
                | with_reducible refine Br.yes ?_
                | with_reducible refine Br.no ?_
                | with_reducible refine Br.dec (fun _ => ?_) (fun _ => ?_)
                | with_reducible refine Br.beqB (fun _ => ?_) (fun _ => ?_)
                | with_reducible refine Br.beqb (fun _ => ?_) (fun _ => ?_)
                | with_reducible refine Br.mk (fun _ => ?_) (fun _ => ?_)
                | with_reducible refine foundO.mk (fun _ _ => ?_) (fun _ => ?_)
                | with_reducible refine appV.zero ?_
                | with_reducible refine appV.own ?_
                | ((with_reducible refine NewB.mk fun nb hnb => ?_); have hnb1 := hnb.1.1; have hnb2 := hnb.1.2; try simp only [keys_cons, keys_app, keys_nil, NotIn_cons, NotIn_app, NotIn_nil, and_true] at hnb2)
                | ((with_reducible refine NewRow.mk fun nb nsp ncap hnb hncap => ?_); have hnb1 := hnb.1.1; have hnb2 := hnb.1.2; try simp only [keys_cons, keys_app, keys_nil, NotIn_cons, NotIn_app, NotIn_nil, and_true] at hnb2)
                | with_reducible refine Tri.drawH tok mixed [0, 1, 2, 3, 5, 6, 7, 8, 9, 11, 19, 20, 21, 22, 32, 33, 48, 70, 71, 72, 73, 84, 85, 86, 87] 11 [7, 11] (.op 0 .plain (.op 1 .plain (.op 2 .plain (.op 3 .plain (.op 4 .plain (.op 5 .plain (.op 6 .plain (.op 7 .held (.op 8 .plain (.op 9 .plain (.op 10 .plain (.op 11 .held (.op 12 .plain (.op 13 .plain .nil)))))))))))))) (by kernel_rfl) [1] ?_
                | simp (dsimp := false) (implicitDefEqProofs := false) (disch := first | assumption | (simp only [List.mem_cons, List.mem_append, true_or, or_true, eq_self]; done) | omega | (with_reducible refine Row.adr (by assumption) ?_; simp only [List.length_map, List.length_take, List.length_drop]; omega) | (simp only [List.length_cons, List.length_nil, List.length_map, List.length_append, List.length_replicate, Nat.reduceAdd, true_and, and_true, and_self]; first | done | omega)) only [go_sem, ↓reduceIte, Nat.reduceEqDiff, Nat.reduceAdd, Nat.reduceSub, Nat.reduceMul, Nat.reduceBEq, Nat.reduceLT, Nat.reduceLeDiff, Nat.reduceMod, Nat.reducePow, List.reduceReplicate, UInt8.reduceOfNat, Int.reducePow, Int.reduceDiv, Int.reduceMod, Nat.reduceDiv, Int.reduceNeg, Int.reduceAdd, Int.reduceSub, Int.reduceMul, Int.reduceLE, Int.reduceLT, Int.reduceEq, Int.reduceToNat, reduceCtorEq, -List.reduceReplicate, hCl, hy3, hyw, hsub, hsub5]
              refine put_t (many := 1) (by rw [List.length_append, beB_len]; omega) (by omega) (by omega) hbf3 fun v4 kb4 hbf4 hs6 => ?_
              obtain ⟨x4, c4, sp4, rfl, rfl, hc4⟩ := hbf4.own (by rw [List.length_append, List.length_append]; omega)
              have hsE := hs6
              try simp only [keys_cons, keys_app, keys_nil, Sep_cons, Sep_nil, NotIn_cons, NotIn_app, NotIn_nil, List.cons_append, List.nil_append, List.append_assoc, and_assoc, and_true, true_and] at hsE
              repeat (obtain ⟨hsx, hsE⟩ := hsE)
              repeat' first
                | with_reducible refine Br.yes ?_
                | with_reducible refine Br.no ?_
                | with_reducible refine Br.dec (fun _ => ?_) (fun _ => ?_)
                | with_reducible refine Br.beqB (fun _ => ?_) (fun _ => ?_)
                | with_reducible refine Br.beqb (fun _ => ?_) (fun _ => ?_)
                | with_reducible refine Br.mk (fun _ => ?_) (fun _ => ?_)
                | with_reducible refine foundO.mk (fun _ _ => ?_) (fun _ => ?_)
                | with_reducible refine appV.zero ?_
                | with_reducible refine appV.own ?_
                | ((with_reducible refine NewB.mk fun nb hnb => ?_); have hnb1 := hnb.1.1; have hnb2 := hnb.1.2; try simp only [keys_cons, keys_app, keys_nil, NotIn_cons, NotIn_app, NotIn_nil, and_true] at hnb2)
                | ((with_reducible refine NewRow.mk fun nb nsp ncap hnb hncap => ?_); have hnb1 := hnb.1.1; have hnb2 := hnb.1.2; try simp only [keys_cons, keys_app, keys_nil, NotIn_cons, NotIn_app, NotIn_nil, and_true] at hnb2)
                | with_reducible refine Tri.drawH tok mixed [0, 1, 2, 3, 5, 6, 7, 8, 9, 11, 19, 20, 21, 22, 32, 33, 48, 70, 71, 72, 73, 84, 85, 86, 87] 11 [7, 11] (.op 0 .plain (.op 1 .plain (.op 2 .plain (.op 3 .plain (.op 4 .plain (.op 5 .plain (.op 6 .plain (.op 7 .held (.op 8 .plain (.op 9 .plain (.op 10 .plain (.op 11 .held (.op 12 .plain (.op 13 .plain .nil)))))))))))))) (by kernel_rfl) [1] ?_
                | simp (dsimp := false) (implicitDefEqProofs := false) (disch := first | assumption | (simp only [List.mem_cons, List.mem_append, true_or, or_true, eq_self]; done) | omega | (with_reducible refine Row.adr (by assumption) ?_; simp only [List.length_map, List.length_take, List.length_drop]; omega) | (simp only [List.length_cons, List.length_nil, List.length_map, List.length_append, List.length_replicate, Nat.reduceAdd, true_and, and_true, and_self]; first | done | omega)) only [go_sem, ↓reduceIte, Nat.reduceEqDiff, Nat.reduceAdd, Nat.reduceSub, Nat.reduceMul, Nat.reduceBEq, Nat.reduceLT, Nat.reduceLeDiff, Nat.reduceMod, Nat.reducePow, List.reduceReplicate, UInt8.reduceOfNat, Int.reducePow, Int.reduceDiv, Int.reduceMod, Nat.reduceDiv, Int.reduceNeg, Int.reduceAdd, Int.reduceSub, Int.reduceMul, Int.reduceLE, Int.reduceLT, Int.reduceEq, Int.reduceToNat, reduceCtorEq, -List.reduceReplicate, hCl]
              refine Upd.now ⟨q - 1, by omega, 255 + 1, 255 + 1, _, [(x4, .cells ((p ++ beB 1 y ++ beB 1 (255 - fm)).map byteV) sp4 5)], by omega, rfl, by omega, fun h => by omega, ?_, rfl, rfl⟩
              rw [hnext, hemv, ← List.append_assoc]
              exact hbf4
            · obtain ⟨z, hz1, hz2, hz3⟩ := O.ofAt (c := c + 1) (by omega)
              have hzy : ¬ (z : Int) = y := by rcases hem with h | h; exact absurd h h255; rw [hz2, hy2] at h; exact h
              repeat' first
                | with_reducible refine Br.yes ?_
                | with_reducible refine Br.no ?_
                | with_reducible refine Br.dec (fun _ => ?_) (fun _ => ?_)
                | with_reducible refine Br.beqB (fun _ => ?_) (fun _ => ?_)
                | with_reducible refine Br.beqb (fun _ => ?_) (fun _ => ?_)
                | with_reducible refine Br.mk (fun _ => ?_) (fun _ => ?_)
                | with_reducible refine foundO.mk (fun _ _ => ?_) (fun _ => ?_)
                | with_reducible refine appV.zero ?_
                | with_reducible refine appV.own ?_
                | ((with_reducible refine NewB.mk fun nb hnb => ?_); have hnb1 := hnb.1.1; have hnb2 := hnb.1.2; try simp only [keys_cons, keys_app, keys_nil, NotIn_cons, NotIn_app, NotIn_nil, and_true] at hnb2)
                | ((with_reducible refine NewRow.mk fun nb nsp ncap hnb hncap => ?_); have hnb1 := hnb.1.1; have hnb2 := hnb.1.2; try simp only [keys_cons, keys_app, keys_nil, NotIn_cons, NotIn_app, NotIn_nil, and_true] at hnb2)
                | with_reducible refine Tri.drawH tok mixed [0, 1, 2, 3, 5, 6, 7, 8, 9, 11, 19, 20, 21, 22, 32, 33, 48, 70, 71, 72, 73, 84, 85, 86, 87] 11 [7, 11] (.op 0 .plain (.op 1 .plain (.op 2 .plain (.op 3 .plain (.op 4 .plain (.op 5 .plain (.op 6 .plain (.op 7 .held (.op 8 .plain (.op 9 .plain (.op 10 .plain (.op 11 .held (.op 12 .plain (.op 13 .plain .nil)))))))))))))) (by kernel_rfl) [1] ?_
                | simp (dsimp := false) (implicitDefEqProofs := false) (disch := first | assumption | (simp only [List.mem_cons, List.mem_append, true_or, or_true, eq_self]; done) | omega | (with_reducible refine Row.adr (by assumption) ?_; simp only [List.length_map, List.length_take, List.length_drop]; omega) | (simp only [List.length_cons, List.length_nil, List.length_map, List.length_append, List.length_replicate, Nat.reduceAdd, true_and, and_true, and_self]; first | done | omega)) only [go_sem, ↓reduceIte, Nat.reduceEqDiff, Nat.reduceAdd, Nat.reduceSub, Nat.reduceMul, Nat.reduceBEq, Nat.reduceLT, Nat.reduceLeDiff, Nat.reduceMod, Nat.reducePow, List.reduceReplicate, UInt8.reduceOfNat, Int.reducePow, Int.reduceDiv, Int.reduceMod, Nat.reduceDiv, Int.reduceNeg, Int.reduceAdd, Int.reduceSub, Int.reduceMul, Int.reduceLE, Int.reduceLT, Int.reduceEq, Int.reduceToNat, reduceCtorEq, -List.reduceReplicate, hCl, hy3, hyw, hsub, hz3]
              refine put_t (many := 1) (by omega) (by omega) (by omega) hbf fun v3 kb3 hbf3 hs5 => ?_
              obtain ⟨x3, c3, sp3, rfl, rfl, hc3⟩ := hbf3.own (by rw [List.length_append]; omega)
              have hsE := hs5
              try simp only [keys_cons, keys_app, keys_nil, Sep_cons, Sep_nil, NotIn_cons, NotIn_app, NotIn_nil, List.cons_append, List.nil_append, List.append_assoc, and_assoc, and_true, true_and] at hsE
              repeat (obtain ⟨hsx, hsE⟩ := hsE)
              repeat' first
                | with_reducible refine Br.yes ?_
                | with_reducible refine Br.no ?_
                | with_reducible refine Br.dec (fun _ => ?_) (fun _ => ?_)
                | with_reducible refine Br.beqB (fun _ => ?_) (fun _ => ?_)
                | with_reducible refine Br.beqb (fun _ => ?_) (fun _ => ?_)
                | with_reducible refine Br.mk (fun _ => ?_) (fun _ => ?_)
                | with_reducible refine foundO.mk (fun _ _ => ?_) (fun _ => ?_)
                | with_reducible refine appV.zero ?_
                | with_reducible refine appV.own ?_
                | ((with_reducible refine NewB.mk fun nb hnb => ?_); have hnb1 := hnb.1.1; have hnb2 := hnb.1.2; try simp only [keys_cons, keys_app, keys_nil, NotIn_cons, NotIn_app, NotIn_nil, and_true] at hnb2)
                | ((with_reducible refine NewRow.mk fun nb nsp ncap hnb hncap => ?_); have hnb1 := hnb.1.1; have hnb2 := hnb.1.2; try simp only [keys_cons, keys_app, keys_nil, NotIn_cons, NotIn_app, NotIn_nil, and_true] at hnb2)
                | with_reducible refine Tri.drawH tok mixed [0, 1, 2, 3, 5, 6, 7, 8, 9, 11, 19, 20, 21, 22, 32, 33, 48, 70, 71, 72, 73, 84, 85, 86, 87] 11 [7, 11] (.op 0 .plain (.op 1 .plain (.op 2 .plain (.op 3 .plain (.op 4 .plain (.op 5 .plain (.op 6 .plain (.op 7 .held (.op 8 .plain (.op 9 .plain (.op 10 .plain (.op 11 .held (.op 12 .plain (.op 13 .plain .nil)))))))))))))) (by kernel_rfl) [1] ?_
                | simp (dsimp := false) (implicitDefEqProofs := false) (disch := first | assumption | (simp only [List.mem_cons, List.mem_append, true_or, or_true, eq_self]; done) | omega | (with_reducible refine Row.adr (by assumption) ?_; simp only [List.length_map, List.length_take, List.length_drop]; omega) | (simp only [List.length_cons, List.length_nil, List.length_map, List.length_append, List.length_replicate, Nat.reduceAdd, true_and, and_true, and_self]; first | done | omega)) only [go_sem, ↓reduceIte, Nat.reduceEqDiff, Nat.reduceAdd, Nat.reduceSub, Nat.reduceMul, Nat.reduceBEq, Nat.reduceLT, Nat.reduceLeDiff, Nat.reduceMod, Nat.reducePow, List.reduceReplicate, UInt8.reduceOfNat, Int.reducePow, Int.reduceDiv, Int.reduceMod, Nat.reduceDiv, Int.reduceNeg, Int.reduceAdd, Int.reduceSub, Int.reduceMul, Int.reduceLE, Int.reduceLT, Int.reduceEq, Int.reduceToNat, reduceCtorEq, -List.reduceReplicate, hCl, hy3, hyw, hsub]
              refine put_t (many := 1) (by rw [List.length_append, beB_len]; omega) (by omega) (by omega) hbf3 fun v4 kb4 hbf4 hs6 => ?_
              obtain ⟨x4, c4, sp4, rfl, rfl, hc4⟩ := hbf4.own (by rw [List.length_append, List.length_append]; omega)
              have hsE := hs6
              try simp only [keys_cons, keys_app, keys_nil, Sep_cons, Sep_nil, NotIn_cons, NotIn_app, NotIn_nil, List.cons_append, List.nil_append, List.append_assoc, and_assoc, and_true, true_and] at hsE
              repeat (obtain ⟨hsx, hsE⟩ := hsE)
              repeat' first
                | with_reducible refine Br.yes ?_
                | with_reducible refine Br.no ?_
                | with_reducible refine Br.dec (fun _ => ?_) (fun _ => ?_)
                | with_reducible refine Br.beqB (fun _ => ?_) (fun _ => ?_)
                | with_reducible refine Br.beqb (fun _ => ?_) (fun _ => ?_)
                | with_reducible refine Br.mk (fun _ => ?_) (fun _ => ?_)
                | with_reducible refine foundO.mk (fun _ _ => ?_) (fun _ => ?_)
                | with_reducible refine appV.zero ?_
                | with_reducible refine appV.own ?_
                | ((with_reducible refine NewB.mk fun nb hnb => ?_); have hnb1 := hnb.1.1; have hnb2 := hnb.1.2; try simp only [keys_cons, keys_app, keys_nil, NotIn_cons, NotIn_app, NotIn_nil, and_true] at hnb2)
                | ((with_reducible refine NewRow.mk fun nb nsp ncap hnb hncap => ?_); have hnb1 := hnb.1.1; have hnb2 := hnb.1.2; try simp only [keys_cons, keys_app, keys_nil, NotIn_cons, NotIn_app, NotIn_nil, and_true] at hnb2)
                | with_reducible refine Tri.drawH tok mixed [0, 1, 2, 3, 5, 6, 7, 8, 9, 11, 19, 20, 21, 22, 32, 33, 48, 70, 71, 72, 73, 84, 85, 86, 87] 11 [7, 11] (.op 0 .plain (.op 1 .plain (.op 2 .plain (.op 3 .plain (.op 4 .plain (.op 5 .plain (.op 6 .plain (.op 7 .held (.op 8 .plain (.op 9 .plain (.op 10 .plain (.op 11 .held (.op 12 .plain (.op 13 .plain .nil)))))))))))))) (by kernel_rfl) [1] ?_
                | simp (dsimp := false) (implicitDefEqProofs := false) (disch := first | assumption | (simp only [List.mem_cons, List.mem_append, true_or, or_true, eq_self]; done) | omega | (with_reducible refine Row.adr (by assumption) ?_; simp only [List.length_map, List.length_take, List.length_drop]; omega) | (simp only [List.length_cons, List.length_nil, List.length_map, List.length_append, List.length_replicate, Nat.reduceAdd, true_and, and_true, and_self]; first | done | omega)) only [go_sem, ↓reduceIte, Nat.reduceEqDiff, Nat.reduceAdd, Nat.reduceSub, Nat.reduceMul, Nat.reduceBEq, Nat.reduceLT, Nat.reduceLeDiff, Nat.reduceMod, Nat.reducePow, List.reduceReplicate, UInt8.reduceOfNat, Int.reducePow, Int.reduceDiv, Int.reduceMod, Nat.reduceDiv, Int.reduceNeg, Int.reduceAdd, Int.reduceSub, Int.reduceMul, Int.reduceLE, Int.reduceLT, Int.reduceEq, Int.reduceToNat, reduceCtorEq, -List.reduceReplicate, hCl]
              refine Upd.now ⟨q - 1, by omega, c + 1, c + 1, _, [(x4, .cells ((p ++ beB 1 y ++ beB 1 (c - fm)).map byteV) sp4 5)], by omega, rfl, by omega, fun h => by show c + 1 = startL d.of (c + 1); unfold startL; rw [if_pos (hem.resolve_left h255)], ?_, rfl, rfl⟩
              rw [hnext, hemv, ← List.append_assoc]
              exact hbf4
          · have hc5 : c ≠ 255 := fun h => hem (Or.inl h)
            have heq : d.of.getD (c + 1) 0 = d.of.getD c 0 := Classical.byContradiction fun h => hem (Or.inr h)
            obtain ⟨z, hz1, hz2, hz3⟩ := O.ofAt (c := c + 1) (by omega)
            have hzy : z = y := by rw [hz2, hy2] at heq; omega
            subst hzy
            have hemv : emL d.of c = [] := by unfold emL; rw [if_neg hem]
            obtain ⟨x2, c2, sp2, rfl, rfl, hc2⟩ := hbf.own (by omega)
            have hsE := hs4
            try simp only [keys_cons, keys_app, keys_nil, Sep_cons, Sep_nil, NotIn_cons, NotIn_app, NotIn_nil, List.cons_append, List.nil_append, List.append_assoc, and_assoc, and_true, true_and] at hsE
            repeat (obtain ⟨hsx, hsE⟩ := hsE)
            repeat' first
              | with_reducible refine Br.yes ?_
              | with_reducible refine Br.no ?_
              | with_reducible refine Br.dec (fun _ => ?_) (fun _ => ?_)
              | with_reducible refine Br.beqB (fun _ => ?_) (fun _ => ?_)
              | with_reducible refine Br.beqb (fun _ => ?_) (fun _ => ?_)
              | with_reducible refine Br.mk (fun _ => ?_) (fun _ => ?_)
              | with_reducible refine foundO.mk (fun _ _ => ?_) (fun _ => ?_)
              | with_reducible refine appV.zero ?_
              | with_reducible refine appV.own ?_
              | ((with_reducible refine NewB.mk fun nb hnb => ?_); have hnb1 := hnb.1.1; have hnb2 := hnb.1.2; try simp only [keys_cons, keys_app, keys_nil, NotIn_cons, NotIn_app, NotIn_nil, and_true] at hnb2)
              | ((with_reducible refine NewRow.mk fun nb nsp ncap hnb hncap => ?_); have hnb1 := hnb.1.1; have hnb2 := hnb.1.2; try simp only [keys_cons, keys_app, keys_nil, NotIn_cons, NotIn_app, NotIn_nil, and_true] at hnb2)
              | with_reducible refine Tri.drawH tok mixed [0, 1, 2, 3, 5, 6, 7, 8, 9, 11, 19, 20, 21, 22, 32, 33, 48, 70, 71, 72, 73, 84, 85, 86, 87] 11 [7, 11] (.op 0 .plain (.op 1 .plain (.op 2 .plain (.op 3 .plain (.op 4 .plain (.op 5 .plain (.op 6 .plain (.op 7 .held (.op 8 .plain (.op 9 .plain (.op 10 .plain (.op 11 .held (.op 12 .plain (.op 13 .plain .nil)))))))))))))) (by kernel_rfl) [1] ?_
              | simp (dsimp := false) (implicitDefEqProofs := false) (disch := first | assumption | (simp only [List.mem_cons, List.mem_append, true_or, or_true, eq_self]; done) | omega | (with_reducible refine Row.adr (by assumption) ?_; simp only [List.length_map, List.length_take, List.length_drop]; omega) | (simp only [List.length_cons, List.length_nil, List.length_map, List.length_append, List.length_replicate, Nat.reduceAdd, true_and, and_true, and_self]; first | done | omega)) only [go_sem, ↓reduceIte, Nat.reduceEqDiff, Nat.reduceAdd, Nat.reduceSub, Nat.reduceMul, Nat.reduceBEq, Nat.reduceLT, Nat.reduceLeDiff, Nat.reduceMod, Nat.reducePow, List.reduceReplicate, UInt8.reduceOfNat, Int.reducePow, Int.reduceDiv, Int.reduceMod, Nat.reduceDiv, Int.reduceNeg, Int.reduceAdd, Int.reduceSub, Int.reduceMul, Int.reduceLE, Int.reduceLT, Int.reduceEq, Int.reduceToNat, reduceCtorEq, -List.reduceReplicate, hCl, hy3, hz3]
            refine Upd.now ⟨q - 1, by omega, c + 1, fm, _, [(x2, .cells (p.map byteV) sp2 5)], by omega, rfl, hfm, fun h => by rw [hfs]; show startL d.of c = startL d.of (c + 1); rw [show startL d.of (c + 1) = if d.of.getD (c + 1) 0 ≠ d.of.getD c 0 then c + 1 else startL d.of c from rfl, if_neg (by rw [heq]; simp)], ?_, rfl, rfl⟩
            rw [hnext, hemv, List.append_nil]
            exact hbf
        · obtain rfl : c = 256 := by omega
          rw [← hp] at hbf
          obtain ⟨x2, c2, sp2, rfl, rfl, hc2⟩ := hbf.own (by omega)
          have hsE := hs4
          try simp only [keys_cons, keys_app, keys_nil, Sep_cons, Sep_nil, NotIn_cons, NotIn_app, NotIn_nil, List.cons_append, List.nil_append, List.append_assoc, and_assoc, and_true, true_and] at hsE
          repeat (obtain ⟨hsx, hsE⟩ := hsE)
          have hlsub : ((d.label.length : Nat) : Int) - 1 = ((d.label.length - 1 : Nat) : Int) := by omega
          repeat' first
            | with_reducible refine Br.yes ?_
            | with_reducible refine Br.no ?_
            | with_reducible refine Br.dec (fun _ => ?_) (fun _ => ?_)
            | with_reducible refine Br.beqB (fun _ => ?_) (fun _ => ?_)
            | with_reducible refine Br.beqb (fun _ => ?_) (fun _ => ?_)
            | with_reducible refine Br.mk (fun _ => ?_) (fun _ => ?_)
            | with_reducible refine foundO.mk (fun _ _ => ?_) (fun _ => ?_)
            | with_reducible refine appV.zero ?_
            | with_reducible refine appV.own ?_
            | ((with_reducible refine NewB.mk fun nb hnb => ?_); have hnb1 := hnb.1.1; have hnb2 := hnb.1.2; try simp only [keys_cons, keys_app, keys_nil, NotIn_cons, NotIn_app, NotIn_nil, and_true] at hnb2)
            | ((with_reducible refine NewRow.mk fun nb nsp ncap hnb hncap => ?_); have hnb1 := hnb.1.1; have hnb2 := hnb.1.2; try simp only [keys_cons, keys_app, keys_nil, NotIn_cons, NotIn_app, NotIn_nil, and_true] at hnb2)
            | with_reducible refine Tri.drawH tok mixed [0, 1, 2, 3, 5, 6, 7, 8, 9, 11, 19, 20, 21, 22, 32, 33, 48, 70, 71, 72, 73, 84, 85, 86, 87] 11 [7, 11] (.op 0 .plain (.op 1 .plain (.op 2 .plain (.op 3 .plain (.op 4 .plain (.op 5 .plain (.op 6 .plain (.op 7 .held (.op 8 .plain (.op 9 .plain (.op 10 .plain (.op 11 .held (.op 12 .plain (.op 13 .plain .nil)))))))))))))) (by kernel_rfl) [1] ?_
            | simp (dsimp := false) (implicitDefEqProofs := false) (disch := first | assumption | (simp only [List.mem_cons, List.mem_append, true_or, or_true, eq_self]; done) | omega | (with_reducible refine Row.adr (by assumption) ?_; simp only [List.length_map, List.length_take, List.length_drop]; omega) | (simp only [List.length_cons, List.length_nil, List.length_map, List.length_append, List.length_replicate, Nat.reduceAdd, true_and, and_true, and_self]; first | done | omega)) only [go_sem, ↓reduceIte, Nat.reduceEqDiff, Nat.reduceAdd, Nat.reduceSub, Nat.reduceMul, Nat.reduceBEq, Nat.reduceLT, Nat.reduceLeDiff, Nat.reduceMod, Nat.reducePow, List.reduceReplicate, UInt8.reduceOfNat, Int.reducePow, Int.reduceDiv, Int.reduceMod, Nat.reduceDiv, Int.reduceNeg, Int.reduceAdd, Int.reduceSub, Int.reduceMul, Int.reduceLE, Int.reduceLT, Int.reduceEq, Int.reduceToNat, reduceCtorEq, -List.reduceReplicate, hCl, hCx, hlsub]
          refine put_t (many := 2) (by omega) (by omega) (by omega) hbf fun v5 kb5 hbf5 hs5 => ?_
          obtain ⟨p5, hp5⟩ : ∃ p5, p5 = p ++ beB 2 (d.label.length - 1) := ⟨_, rfl⟩
          have hp5l : p5.length = p.length + 2 := by rw [hp5, List.length_append, beB_len]
          rw [← hp5] at hbf5
          obtain ⟨x5, c5, sp5, rfl, rfl, hc5⟩ := hbf5.own (by omega)
          have hsE := hs5
          try simp only [keys_cons, keys_app, keys_nil, Sep_cons, Sep_nil, NotIn_cons, NotIn_app, NotIn_nil, List.cons_append, List.nil_append, List.append_assoc, and_assoc, and_true, true_and] at hsE
          repeat (obtain ⟨hsx, hsE⟩ := hsE)
          repeat' first
            | with_reducible refine Br.yes ?_
            | with_reducible refine Br.no ?_
            | with_reducible refine Br.dec (fun _ => ?_) (fun _ => ?_)
            | with_reducible refine Br.beqB (fun _ => ?_) (fun _ => ?_)
            | with_reducible refine Br.beqb (fun _ => ?_) (fun _ => ?_)
            | with_reducible refine Br.mk (fun _ => ?_) (fun _ => ?_)
            | with_reducible refine foundO.mk (fun _ _ => ?_) (fun _ => ?_)
            | with_reducible refine appV.zero ?_
            | with_reducible refine appV.own ?_
            | ((with_reducible refine NewB.mk fun nb hnb => ?_); have hnb1 := hnb.1.1; have hnb2 := hnb.1.2; try simp only [keys_cons, keys_app, keys_nil, NotIn_cons, NotIn_app, NotIn_nil, and_true] at hnb2)
            | ((with_reducible refine NewRow.mk fun nb nsp ncap hnb hncap => ?_); have hnb1 := hnb.1.1; have hnb2 := hnb.1.2; try simp only [keys_cons, keys_app, keys_nil, NotIn_cons, NotIn_app, NotIn_nil, and_true] at hnb2)
            | with_reducible refine Tri.drawH tok mixed [0, 1, 2, 3, 5, 6, 7, 8, 9, 11, 19, 20, 21, 22, 32, 33, 48, 70, 71, 72, 73, 84, 85, 86, 87] 11 [7, 11] (.op 0 .plain (.op 1 .plain (.op 2 .plain (.op 3 .plain (.op 4 .plain (.op 5 .plain (.op 6 .plain (.op 7 .held (.op 8 .plain (.op 9 .plain (.op 10 .plain (.op 11 .held (.op 12 .plain (.op 13 .plain .nil)))))))))))))) (by kernel_rfl) [1] ?_
            | simp (dsimp := false) (implicitDefEqProofs := false) (disch := first | assumption | (simp only [List.mem_cons, List.mem_append, true_or, or_true, eq_self]; done) | omega | (with_reducible refine Row.adr (by assumption) ?_; simp only [List.length_map, List.length_take, List.length_drop]; omega) | (simp only [List.length_cons, List.length_nil, List.length_map, List.length_append, List.length_replicate, Nat.reduceAdd, true_and, and_true, and_self]; first | done | omega)) only [go_sem, ↓reduceIte, Nat.reduceEqDiff, Nat.reduceAdd, Nat.reduceSub, Nat.reduceMul, Nat.reduceBEq, Nat.reduceLT, Nat.reduceLeDiff, Nat.reduceMod, Nat.reducePow, List.reduceReplicate, UInt8.reduceOfNat, Int.reducePow, Int.reduceDiv, Int.reduceMod, Nat.reduceDiv, Int.reduceNeg, Int.reduceAdd, Int.reduceSub, Int.reduceMul, Int.reduceLE, Int.reduceLT, Int.reduceEq, Int.reduceToNat, reduceCtorEq, -List.reduceReplicate, hCl, hCn]
          have hrnl := O.rnl
          refine Tri.loopU tok [0, 1, 2, 3, 5, 6, 7, 8, 9, 11, 19, 20, 21, 22, 32, 33, 48, 70, 71, 72, 73, 84, 85, 86, 87] (by kernel_rfl) [1, 2, 3, 70, 71, 72] (fun q G' fr H' => ∃ (k : Nat) (v : Value) (kb : Heap), k + q = d.next.length ∧ G' = G2 ∧ Buf v kb (p5 ++ statesT d k) ∧ H' = kb ++ ((b1, .cells C [] 28) :: H) ∧ fr = [(1, .pointer (some ⟨b1, 0, none⟩)), (2, .slice none 0 0), (3, v), (70, .slice an d.next.length cn), (71, .int .i64 d.next.length), (72, .int .i64 (k : Nat))]) (d.next.length) ?_ ?_
          · exact Upd.now ⟨0, _, [(x5, .cells (p5.map byteV) sp5 5)], by omega, rfl, by show Buf _ _ (p5 ++ []); rw [List.append_nil]; exact hbf5, rfl, rfl⟩
          · rintro q G3 fr H' hle4 hs6 ⟨k, v, kb, hkq, rfl, hbf, rfl, rfl⟩
            obtain ⟨p6, hp6⟩ : ∃ p6, p6 = p5 ++ statesT d k := ⟨_, rfl⟩
            have hstl := statesT_len hok O.ofl k (by omega)
            have hp6l : p6.length ≤ 50000000 ∧ 0 < p6.length := by rw [hp6, List.length_append]; omega
            rw [← hp6] at hbf
            obtain ⟨x6, c6, sp6, rfl, rfl, hc6⟩ := hbf.own (by omega)
            have hsE := hs6
            try simp only [keys_cons, keys_app, keys_nil, Sep_cons, Sep_nil, NotIn_cons, NotIn_app, NotIn_nil, List.cons_append, List.nil_append, List.append_assoc, and_assoc, and_true, true_and] at hsE
            repeat (obtain ⟨hsx, hsE⟩ := hsE)
            by_cases hkl : k < d.next.length
            · have had : Adr an := O.rn.adr (by omega)
              obtain ⟨b, cc, e1, e2, e3⟩ := O.rs k hkl (by omega)
              obtain ⟨hw1, hw2, hw3, hw4⟩ := hk7 k hkl (by omega)
              have hkl2 : k < d.label.length := by omega
              have had2 : Adr al := O.rl.adr (by rw [List.length_map]; omega)
              have hww := right_width hok O.ofl
              obtain ⟨lb, hlb⟩ := Int.eq_ofNat_of_zero_le hw2
              have hse := stE_at hkl hkl2
              rw [hlb, Int.toNat_natCast] at hse
              obtain ⟨row, hrow⟩ : ∃ row, row = d.next[k] := ⟨_, rfl⟩
              rw [← hrow] at e1 e2 e3 hw1 hw4 hse
              have hnext : p5 ++ statesT d (k + 1) = (p6 ++ beB 1 lb) ++ rowE row := by rw [statesT_succ, hse, hp6]; simp only [List.append_assoc]
              repeat' first
                | with_reducible refine Br.yes ?_
                | with_reducible refine Br.no ?_
                | with_reducible refine Br.dec (fun _ => ?_) (fun _ => ?_)
                | with_reducible refine Br.beqB (fun _ => ?_) (fun _ => ?_)
                | with_reducible refine Br.beqb (fun _ => ?_) (fun _ => ?_)
                | with_reducible refine Br.mk (fun _ => ?_) (fun _ => ?_)
                | with_reducible refine foundO.mk (fun _ _ => ?_) (fun _ => ?_)
                | with_reducible refine appV.zero ?_
                | with_reducible refine appV.own ?_
                | ((with_reducible refine NewB.mk fun nb hnb => ?_); have hnb1 := hnb.1.1; have hnb2 := hnb.1.2; try simp only [keys_cons, keys_app, keys_nil, NotIn_cons, NotIn_app, NotIn_nil, and_true] at hnb2)
                | ((with_reducible refine NewRow.mk fun nb nsp ncap hnb hncap => ?_); have hnb1 := hnb.1.1; have hnb2 := hnb.1.2; try simp only [keys_cons, keys_app, keys_nil, NotIn_cons, NotIn_app, NotIn_nil, and_true] at hnb2)
                | simp (dsimp := false) (implicitDefEqProofs := false) (disch := first | assumption | (simp only [List.mem_cons, List.mem_append, true_or, or_true, eq_self]; done) | omega | (with_reducible refine Row.adr (by assumption) ?_; simp only [List.length_map, List.length_take, List.length_drop]; omega) | (simp only [List.length_cons, List.length_nil, List.length_map, List.length_append, List.length_replicate, Nat.reduceAdd, true_and, and_true, and_self]; first | done | omega)) only [go_sem, ↓reduceIte, Nat.reduceEqDiff, Nat.reduceAdd, Nat.reduceSub, Nat.reduceMul, Nat.reduceBEq, Nat.reduceLT, Nat.reduceLeDiff, Nat.reduceMod, Nat.reducePow, List.reduceReplicate, UInt8.reduceOfNat, Int.reducePow, Int.reduceDiv, Int.reduceMod, Nat.reduceDiv, Int.reduceNeg, Int.reduceAdd, Int.reduceSub, Int.reduceMul, Int.reduceLE, Int.reduceLT, Int.reduceEq, Int.reduceToNat, reduceCtorEq, -List.reduceReplicate, hCl, hCx, Row.obj O.rn, e1, Row.obj O.rl, List.getElem_map, hlb]
              refine put_t (many := 1) (by omega) (by omega) (by omega) hbf fun v7 kb7 hbf7 hs7 => ?_
              obtain ⟨p7, hp7⟩ : ∃ p7, p7 = p6 ++ beB 1 lb := ⟨_, rfl⟩
              have hp7l : p7.length = p6.length + 1 := by rw [hp7, List.length_append, beB_len]
              rw [← hp7] at hbf7 hnext
              obtain ⟨x7, c7, sp7, rfl, rfl, hc7⟩ := hbf7.own (by omega)
              have hsE := hs7
              try simp only [keys_cons, keys_app, keys_nil, Sep_cons, Sep_nil, NotIn_cons, NotIn_app, NotIn_nil, List.cons_append, List.nil_append, List.append_assoc, and_assoc, and_true, true_and] at hsE
              repeat (obtain ⟨hsx, hsE⟩ := hsE)
              repeat' first
                | with_reducible refine Br.yes ?_
                | with_reducible refine Br.no ?_
                | with_reducible refine Br.dec (fun _ => ?_) (fun _ => ?_)
                | with_reducible refine Br.beqB (fun _ => ?_) (fun _ => ?_)
                | with_reducible refine Br.beqb (fun _ => ?_) (fun _ => ?_)
                | with_reducible refine Br.mk (fun _ => ?_) (fun _ => ?_)
                | with_reducible refine foundO.mk (fun _ _ => ?_) (fun _ => ?_)
                | with_reducible refine appV.zero ?_
                | with_reducible refine appV.own ?_
                | ((with_reducible refine NewB.mk fun nb hnb => ?_); have hnb1 := hnb.1.1; have hnb2 := hnb.1.2; try simp only [keys_cons, keys_app, keys_nil, NotIn_cons, NotIn_app, NotIn_nil, and_true] at hnb2)
                | ((with_reducible refine NewRow.mk fun nb nsp ncap hnb hncap => ?_); have hnb1 := hnb.1.1; have hnb2 := hnb.1.2; try simp only [keys_cons, keys_app, keys_nil, NotIn_cons, NotIn_app, NotIn_nil, and_true] at hnb2)
                | simp (dsimp := false) (implicitDefEqProofs := false) (disch := first | assumption | (simp only [List.mem_cons, List.mem_append, true_or, or_true, eq_self]; done) | omega | (with_reducible refine Row.adr (by assumption) ?_; simp only [List.length_map, List.length_take, List.length_drop]; omega) | (simp only [List.length_cons, List.length_nil, List.length_map, List.length_append, List.length_replicate, Nat.reduceAdd, true_and, and_true, and_self]; first | done | omega)) only [go_sem, ↓reduceIte, Nat.reduceEqDiff, Nat.reduceAdd, Nat.reduceSub, Nat.reduceMul, Nat.reduceBEq, Nat.reduceLT, Nat.reduceLeDiff, Nat.reduceMod, Nat.reducePow, List.reduceReplicate, UInt8.reduceOfNat, Int.reducePow, Int.reduceDiv, Int.reduceMod, Nat.reduceDiv, Int.reduceNeg, Int.reduceAdd, Int.reduceSub, Int.reduceMul, Int.reduceLE, Int.reduceLT, Int.reduceEq, Int.reduceToNat, reduceCtorEq, -List.reduceReplicate, hCl]
              refine Tri.loopU tok [0, 1, 2, 3, 5, 6, 7, 8, 9, 11, 19, 20, 21, 22, 32, 33, 48, 70, 71, 72, 73, 84, 85, 86, 87] (by kernel_rfl) [1, 2, 3, 70, 71, 72, 84, 85, 86] (fun q2 G' fr H' => ∃ (j : Nat) (v : Value) (kb : Heap), j + q2 = row.length ∧ G' = G3 ∧ Buf v kb (p7 ++ rowE (row.take j)) ∧ H' = kb ++ ((b1, .cells C [] 28) :: H) ∧ fr = [(1, .pointer (some ⟨b1, 0, none⟩)), (2, .slice none 0 0), (3, v), (70, .slice an d.next.length cn), (71, .int .i64 d.next.length), (72, .int .i64 (k : Nat)), (84, .slice b row.length cc), (85, .int .i64 row.length), (86, .int .i64 (j : Nat))]) (row.length) ?_ ?_
              · exact Upd.now ⟨0, _, [(x7, .cells (p7.map byteV) sp7 5)], by omega, rfl, by rw [List.take_zero]; show Buf _ _ (p7 ++ []); rw [List.append_nil]; exact hbf7, rfl, rfl⟩
              · rintro q2 G4 fr H' hle5 hs8 ⟨j, v, kb, hjq, rfl, hbf, rfl, rfl⟩
                have hrl := rowE_len (row.take j)
                rw [List.length_take] at hrl
                obtain ⟨p8, hp8⟩ : ∃ p8, p8 = p7 ++ rowE (row.take j) := ⟨_, rfl⟩
                have hp8l : p8.length ≤ 100000000 ∧ 0 < p8.length := by rw [hp8, List.length_append]; omega
                by_cases hjl : j < row.length
                · have hadb : Adr b := e2.adr (by rw [List.length_map]; omega)
                  have ht := hw4 _ (List.getElem_mem hjl)
                  obtain ⟨t, htn⟩ := Int.eq_ofNat_of_zero_le ht.1
                  have hnx := rowE_snoc row hjl
                  rw [htn, Int.toNat_natCast] at hnx
                  rw [← hp8] at hbf
                  obtain ⟨x8, c8, sp8, rfl, rfl, hc8⟩ := hbf.own (by omega)
                  have hsE := hs8
                  try simp only [keys_cons, keys_app, keys_nil, Sep_cons, Sep_nil, NotIn_cons, NotIn_app, NotIn_nil, List.cons_append, List.nil_append, List.append_assoc, and_assoc, and_true, true_and] at hsE
                  repeat (obtain ⟨hsx, hsE⟩ := hsE)
                  repeat' first
                    | with_reducible refine Br.yes ?_
                    | with_reducible refine Br.no ?_
                    | with_reducible refine Br.dec (fun _ => ?_) (fun _ => ?_)
                    | with_reducible refine Br.beqB (fun _ => ?_) (fun _ => ?_)
                    | with_reducible refine Br.beqb (fun _ => ?_) (fun _ => ?_)
                    | with_reducible refine Br.mk (fun _ => ?_) (fun _ => ?_)
                    | with_reducible refine foundO.mk (fun _ _ => ?_) (fun _ => ?_)
                    | with_reducible refine appV.zero ?_
                    | with_reducible refine appV.own ?_
                    | ((with_reducible refine NewB.mk fun nb hnb => ?_); have hnb1 := hnb.1.1; have hnb2 := hnb.1.2; try simp only [keys_cons, keys_app, keys_nil, NotIn_cons, NotIn_app, NotIn_nil, and_true] at hnb2)
                    | ((with_reducible refine NewRow.mk fun nb nsp ncap hnb hncap => ?_); have hnb1 := hnb.1.1; have hnb2 := hnb.1.2; try simp only [keys_cons, keys_app, keys_nil, NotIn_cons, NotIn_app, NotIn_nil, and_true] at hnb2)
                    | simp (dsimp := false) (implicitDefEqProofs := false) (disch := first | assumption | (simp only [List.mem_cons, List.mem_append, true_or, or_true, eq_self]; done) | omega | (with_reducible refine Row.adr (by assumption) ?_; simp only [List.length_map, List.length_take, List.length_drop]; omega) | (simp only [List.length_cons, List.length_nil, List.length_map, List.length_append, List.length_replicate, Nat.reduceAdd, true_and, and_true, and_self]; first | done | omega)) only [go_sem, ↓reduceIte, Nat.reduceEqDiff, Nat.reduceAdd, Nat.reduceSub, Nat.reduceMul, Nat.reduceBEq, Nat.reduceLT, Nat.reduceLeDiff, Nat.reduceMod, Nat.reducePow, List.reduceReplicate, UInt8.reduceOfNat, Int.reducePow, Int.reduceDiv, Int.reduceMod, Nat.reduceDiv, Int.reduceNeg, Int.reduceAdd, Int.reduceSub, Int.reduceMul, Int.reduceLE, Int.reduceLT, Int.reduceEq, Int.reduceToNat, reduceCtorEq, -List.reduceReplicate, Row.obj e2, List.getElem_map, htn]
                  refine put_t (many := 2) (by omega) (by omega) (by omega) hbf fun v9 kb9 hbf9 hs9 => ?_
                  obtain ⟨x9, c9, sp9, rfl, rfl, hc9⟩ := hbf9.own (by rw [List.length_append]; omega)
                  have hsE := hs9
                  try simp only [keys_cons, keys_app, keys_nil, Sep_cons, Sep_nil, NotIn_cons, NotIn_app, NotIn_nil, List.cons_append, List.nil_append, List.append_assoc, and_assoc, and_true, true_and] at hsE
                  repeat (obtain ⟨hsx, hsE⟩ := hsE)
                  repeat' first
                    | with_reducible refine Br.yes ?_
                    | with_reducible refine Br.no ?_
                    | with_reducible refine Br.dec (fun _ => ?_) (fun _ => ?_)
                    | with_reducible refine Br.beqB (fun _ => ?_) (fun _ => ?_)
                    | with_reducible refine Br.beqb (fun _ => ?_) (fun _ => ?_)
                    | with_reducible refine Br.mk (fun _ => ?_) (fun _ => ?_)
                    | with_reducible refine foundO.mk (fun _ _ => ?_) (fun _ => ?_)
                    | with_reducible refine appV.zero ?_
                    | with_reducible refine appV.own ?_
                    | ((with_reducible refine NewB.mk fun nb hnb => ?_); have hnb1 := hnb.1.1; have hnb2 := hnb.1.2; try simp only [keys_cons, keys_app, keys_nil, NotIn_cons, NotIn_app, NotIn_nil, and_true] at hnb2)
                    | ((with_reducible refine NewRow.mk fun nb nsp ncap hnb hncap => ?_); have hnb1 := hnb.1.1; have hnb2 := hnb.1.2; try simp only [keys_cons, keys_app, keys_nil, NotIn_cons, NotIn_app, NotIn_nil, and_true] at hnb2)
                    | simp (dsimp := false) (implicitDefEqProofs := false) (disch := first | assumption | (simp only [List.mem_cons, List.mem_append, true_or, or_true, eq_self]; done) | omega | (with_reducible refine Row.adr (by assumption) ?_; simp only [List.length_map, List.length_take, List.length_drop]; omega) | (simp only [List.length_cons, List.length_nil, List.length_map, List.length_append, List.length_replicate, Nat.reduceAdd, true_and, and_true, and_self]; first | done | omega)) only [go_sem, ↓reduceIte, Nat.reduceEqDiff, Nat.reduceAdd, Nat.reduceSub, Nat.reduceMul, Nat.reduceBEq, Nat.reduceLT, Nat.reduceLeDiff, Nat.reduceMod, Nat.reducePow, List.reduceReplicate, UInt8.reduceOfNat, Int.reducePow, Int.reduceDiv, Int.reduceMod, Nat.reduceDiv, Int.reduceNeg, Int.reduceAdd, Int.reduceSub, Int.reduceMul, Int.reduceLE, Int.reduceLT, Int.reduceEq, Int.reduceToNat, reduceCtorEq, -List.reduceReplicate]
                  refine Upd.now ⟨q2 - 1, by omega, j + 1, _, [(x9, .cells ((p8 ++ beB 2 t).map byteV) sp9 5)], by omega, rfl, ?_, rfl, rfl⟩
                  rw [hnx, ← List.append_assoc, ← hp8]
                  exact hbf9
                · obtain rfl : j = row.length := by omega
                  rw [List.take_length] at hp8
                  rw [List.take_length, ← hp8] at hbf
                  obtain ⟨x8, c8, sp8, rfl, rfl, hc8⟩ := hbf.own (by omega)
                  have hsE := hs8
                  try simp only [keys_cons, keys_app, keys_nil, Sep_cons, Sep_nil, NotIn_cons, NotIn_app, NotIn_nil, List.cons_append, List.nil_append, List.append_assoc, and_assoc, and_true, true_and] at hsE
                  repeat (obtain ⟨hsx, hsE⟩ := hsE)
                  repeat' first
                    | with_reducible refine Br.yes ?_
                    | with_reducible refine Br.no ?_
                    | with_reducible refine Br.dec (fun _ => ?_) (fun _ => ?_)
                    | with_reducible refine Br.beqB (fun _ => ?_) (fun _ => ?_)
                    | with_reducible refine Br.beqb (fun _ => ?_) (fun _ => ?_)
                    | with_reducible refine Br.mk (fun _ => ?_) (fun _ => ?_)
                    | with_reducible refine foundO.mk (fun _ _ => ?_) (fun _ => ?_)
                    | with_reducible refine appV.zero ?_
                    | with_reducible refine appV.own ?_
                    | ((with_reducible refine NewB.mk fun nb hnb => ?_); have hnb1 := hnb.1.1; have hnb2 := hnb.1.2; try simp only [keys_cons, keys_app, keys_nil, NotIn_cons, NotIn_app, NotIn_nil, and_true] at hnb2)
                    | ((with_reducible refine NewRow.mk fun nb nsp ncap hnb hncap => ?_); have hnb1 := hnb.1.1; have hnb2 := hnb.1.2; try simp only [keys_cons, keys_app, keys_nil, NotIn_cons, NotIn_app, NotIn_nil, and_true] at hnb2)
                    | simp (dsimp := false) (implicitDefEqProofs := false) (disch := first | assumption | (simp only [List.mem_cons, List.mem_append, true_or, or_true, eq_self]; done) | omega | (with_reducible refine Row.adr (by assumption) ?_; simp only [List.length_map, List.length_take, List.length_drop]; omega) | (simp only [List.length_cons, List.length_nil, List.length_map, List.length_append, List.length_replicate, Nat.reduceAdd, true_and, and_true, and_self]; first | done | omega)) only [go_sem, ↓reduceIte, Nat.reduceEqDiff, Nat.reduceAdd, Nat.reduceSub, Nat.reduceMul, Nat.reduceBEq, Nat.reduceLT, Nat.reduceLeDiff, Nat.reduceMod, Nat.reducePow, List.reduceReplicate, UInt8.reduceOfNat, Int.reducePow, Int.reduceDiv, Int.reduceMod, Nat.reduceDiv, Int.reduceNeg, Int.reduceAdd, Int.reduceSub, Int.reduceMul, Int.reduceLE, Int.reduceLT, Int.reduceEq, Int.reduceToNat, reduceCtorEq, -List.reduceReplicate]
                  refine Upd.now ⟨q - 1, by omega, k + 1, _, [(x8, .cells (p8.map byteV) sp8 5)], by omega, rfl, ?_, rfl, rfl⟩
                  rw [hnext, ← hp8]
                  exact hbf
            · obtain rfl : k = d.next.length := by omega
              have hbody : p6 = bodyL d := by rw [hp6, hp5, hp, hp1, hl1, hk3]; rfl
              have hsum := sumL_lt (bodyL d)
              rw [hbody] at hbf hs6 hc6 hp6l ⊢
              have hwr : IntKind.i64.wrap ((sumL (bodyL d) : Nat) : Int) = (sumL (bodyL d) : Nat) := wrap_i64 (by omega) (by omega)
              repeat' first
                | with_reducible refine Br.yes ?_
                | with_reducible refine Br.no ?_
                | with_reducible refine Br.dec (fun _ => ?_) (fun _ => ?_)
                | with_reducible refine Br.beqB (fun _ => ?_) (fun _ => ?_)
                | with_reducible refine Br.beqb (fun _ => ?_) (fun _ => ?_)
                | with_reducible refine Br.mk (fun _ => ?_) (fun _ => ?_)
                | with_reducible refine foundO.mk (fun _ _ => ?_) (fun _ => ?_)
                | with_reducible refine appV.zero ?_
                | with_reducible refine appV.own ?_
                | ((with_reducible refine NewB.mk fun nb hnb => ?_); have hnb1 := hnb.1.1; have hnb2 := hnb.1.2; try simp only [keys_cons, keys_app, keys_nil, NotIn_cons, NotIn_app, NotIn_nil, and_true] at hnb2)
                | ((with_reducible refine NewRow.mk fun nb nsp ncap hnb hncap => ?_); have hnb1 := hnb.1.1; have hnb2 := hnb.1.2; try simp only [keys_cons, keys_app, keys_nil, NotIn_cons, NotIn_app, NotIn_nil, and_true] at hnb2)
                | simp (dsimp := false) (implicitDefEqProofs := false) (disch := first | assumption | (simp only [List.mem_cons, List.mem_append, true_or, or_true, eq_self]; done) | omega | (with_reducible refine Row.adr (by assumption) ?_; simp only [List.length_map, List.length_take, List.length_drop]; omega) | (simp only [List.length_cons, List.length_nil, List.length_map, List.length_append, List.length_replicate, Nat.reduceAdd, true_and, and_true, and_self]; first | done | omega)) only [go_sem, ↓reduceIte, Nat.reduceEqDiff, Nat.reduceAdd, Nat.reduceSub, Nat.reduceMul, Nat.reduceBEq, Nat.reduceLT, Nat.reduceLeDiff, Nat.reduceMod, Nat.reducePow, List.reduceReplicate, UInt8.reduceOfNat, Int.reducePow, Int.reduceDiv, Int.reduceMod, Nat.reduceDiv, Int.reduceNeg, Int.reduceAdd, Int.reduceSub, Int.reduceMul, Int.reduceLE, Int.reduceLT, Int.reduceEq, Int.reduceToNat, reduceCtorEq, -List.reduceReplicate]
              refine psumO_t (by omega) ?_
              repeat' first
                | with_reducible refine Br.yes ?_
                | with_reducible refine Br.no ?_
                | with_reducible refine Br.dec (fun _ => ?_) (fun _ => ?_)
                | with_reducible refine Br.beqB (fun _ => ?_) (fun _ => ?_)
                | with_reducible refine Br.beqb (fun _ => ?_) (fun _ => ?_)
                | with_reducible refine Br.mk (fun _ => ?_) (fun _ => ?_)
                | with_reducible refine foundO.mk (fun _ _ => ?_) (fun _ => ?_)
                | with_reducible refine appV.zero ?_
                | with_reducible refine appV.own ?_
                | ((with_reducible refine NewB.mk fun nb hnb => ?_); have hnb1 := hnb.1.1; have hnb2 := hnb.1.2; try simp only [keys_cons, keys_app, keys_nil, NotIn_cons, NotIn_app, NotIn_nil, and_true] at hnb2)
                | ((with_reducible refine NewRow.mk fun nb nsp ncap hnb hncap => ?_); have hnb1 := hnb.1.1; have hnb2 := hnb.1.2; try simp only [keys_cons, keys_app, keys_nil, NotIn_cons, NotIn_app, NotIn_nil, and_true] at hnb2)
                | simp (dsimp := false) (implicitDefEqProofs := false) (disch := first | assumption | (simp only [List.mem_cons, List.mem_append, true_or, or_true, eq_self]; done) | omega | (with_reducible refine Row.adr (by assumption) ?_; simp only [List.length_map, List.length_take, List.length_drop]; omega) | (simp only [List.length_cons, List.length_nil, List.length_map, List.length_append, List.length_replicate, Nat.reduceAdd, true_and, and_true, and_self]; first | done | omega)) only [go_sem, ↓reduceIte, Nat.reduceEqDiff, Nat.reduceAdd, Nat.reduceSub, Nat.reduceMul, Nat.reduceBEq, Nat.reduceLT, Nat.reduceLeDiff, Nat.reduceMod, Nat.reducePow, List.reduceReplicate, UInt8.reduceOfNat, Int.reducePow, Int.reduceDiv, Int.reduceMod, Nat.reduceDiv, Int.reduceNeg, Int.reduceAdd, Int.reduceSub, Int.reduceMul, Int.reduceLE, Int.reduceLT, Int.reduceEq, Int.reduceToNat, reduceCtorEq, -List.reduceReplicate, hwr]
              refine put_t (many := 4) (by omega) (by omega) (by omega) hbf fun v9 kb9 hbf9 hs9 => ?_
              obtain ⟨x9, c9, sp9, rfl, rfl, hc9⟩ := hbf9.own (by rw [List.length_append]; omega)
              have hsE := hs9
              try simp only [keys_cons, keys_app, keys_nil, Sep_cons, Sep_nil, NotIn_cons, NotIn_app, NotIn_nil, List.cons_append, List.nil_append, List.append_assoc, and_assoc, and_true, true_and] at hsE
              repeat (obtain ⟨hsx, hsE⟩ := hsE)
              repeat' first
                | with_reducible refine Br.yes ?_
                | with_reducible refine Br.no ?_
                | with_reducible refine Br.dec (fun _ => ?_) (fun _ => ?_)
                | with_reducible refine Br.beqB (fun _ => ?_) (fun _ => ?_)
                | with_reducible refine Br.beqb (fun _ => ?_) (fun _ => ?_)
                | with_reducible refine Br.mk (fun _ => ?_) (fun _ => ?_)
                | with_reducible refine foundO.mk (fun _ _ => ?_) (fun _ => ?_)
                | with_reducible refine appV.zero ?_
                | with_reducible refine appV.own ?_
                | ((with_reducible refine NewB.mk fun nb hnb => ?_); have hnb1 := hnb.1.1; have hnb2 := hnb.1.2; try simp only [keys_cons, keys_app, keys_nil, NotIn_cons, NotIn_app, NotIn_nil, and_true] at hnb2)
                | ((with_reducible refine NewRow.mk fun nb nsp ncap hnb hncap => ?_); have hnb1 := hnb.1.1; have hnb2 := hnb.1.2; try simp only [keys_cons, keys_app, keys_nil, NotIn_cons, NotIn_app, NotIn_nil, and_true] at hnb2)
                | simp (dsimp := false) (implicitDefEqProofs := false) (disch := first | assumption | (simp only [List.mem_cons, List.mem_append, true_or, or_true, eq_self]; done) | omega | (with_reducible refine Row.adr (by assumption) ?_; simp only [List.length_map, List.length_take, List.length_drop]; omega) | (simp only [List.length_cons, List.length_nil, List.length_map, List.length_append, List.length_replicate, Nat.reduceAdd, true_and, and_true, and_self]; first | done | omega)) only [go_sem, ↓reduceIte, Nat.reduceEqDiff, Nat.reduceAdd, Nat.reduceSub, Nat.reduceMul, Nat.reduceBEq, Nat.reduceLT, Nat.reduceLeDiff, Nat.reduceMod, Nat.reducePow, List.reduceReplicate, UInt8.reduceOfNat, Int.reducePow, Int.reduceDiv, Int.reduceMod, Nat.reduceDiv, Int.reduceNeg, Int.reduceAdd, Int.reduceSub, Int.reduceMul, Int.reduceLE, Int.reduceLT, Int.reduceEq, Int.reduceToNat, reduceCtorEq, -List.reduceReplicate]
              unfold UpdR
              refine Upd.leave (H' := [(x9, .cells ((bodyL d ++ beB 4 (sumL (bodyL d))).map byteV) sp9 5)] ++ H) (by intro fsum; simp only [List.map_append, List.map_cons, List.map_nil, List.sum_append, List.sum_cons, List.sum_nil, List.cons_append, List.nil_append]; omega) ?_
              exact fun _ hs => hR _ _ hbf9 hs
end Go.Proofs.Ytomdbjfdbkejoaa
