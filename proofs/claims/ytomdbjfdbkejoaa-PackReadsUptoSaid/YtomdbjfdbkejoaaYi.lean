/- Machines as bytes: the document's Lay. -/
import Derived.Test.YtomdbjfdbkejoaaYh
set_option linter.unusedSimpArgs false
set_option linter.unusedVariables false
namespace Go.Proofs.Ytomdbjfdbkejoaa
open Go Go.V Go.Proofs

theorem ofNat_mod (n : Nat) : UInt8.ofNat (n % 256) = UInt8.ofNat n := by
  apply UInt8.toNat_inj.1
  rw [UInt8.toNat_ofNat', UInt8.toNat_ofNat']; omega
theorem two_be (n : Nat) : [UInt8.ofNat (n / 256), UInt8.ofNat (n % 256)] = beB 2 n := by rw [beB_two, ofNat_mod]
theorem four_be (n : Nat) : beB 4 n = beB 2 (n / 65536) ++ beB 2 (n % 65536) := by
  rw [beB_four, beB_two, beB_two]
  have e1 : n / 65536 / 256 = n / 16777216 := by omega
  have e2 : n % 65536 / 256 = n / 256 % 256 := by omega
  have e3 : UInt8.ofNat (n % 65536) = UInt8.ofNat n := by
    apply UInt8.toNat_inj.1
    rw [UInt8.toNat_ofNat', UInt8.toNat_ofNat']; omega
  rw [e1, e2, e3, ofNat_mod]; rfl
theorem run_mid {l : List Int} {c n : Nat} (hs : startL l c = c) (hn : n ≤ 256) (heq : ∀ i, c ≤ i → i < n → l.getD i 0 = l.getD c 0) : ∀ m, c + m < n → startL l (c + m) = c ∧ runsT l (c + m) = runsT l c
  | 0, _ => ⟨hs, rfl⟩
  | m + 1, h => by
    obtain ⟨h1, h2⟩ := run_mid hs hn heq m (by omega)
    have e1 := heq (c + m) (by omega) (by omega)
    have e2 := heq (c + m + 1) (by omega) (by omega)
    refine ⟨?_, ?_⟩
    · show startL l (c + m + 1) = c
      rw [show startL l (c + m + 1) = if l.getD (c + m + 1) 0 ≠ l.getD (c + m) 0 then c + m + 1 else startL l (c + m) from rfl, if_neg (by rw [e1, e2]; simp), h1]
    · show runsT l (c + m + 1) = _
      rw [runsT_succ, h2]
      unfold emL
      rw [if_neg (by rw [e1, e2]; simp; omega), List.append_nil]
theorem run_end {l : List Int} {c n : Nat} (hs : startL l c = c) (hcn : c < n) (hn : n ≤ 256) (heq : ∀ i, c ≤ i → i < n → l.getD i 0 = l.getD c 0) (hend : n = 256 ∨ l.getD n 0 ≠ l.getD c 0) :
    runsT l n = runsT l c ++ (beB 1 (l.getD c 0).toNat ++ beB 1 (n - c - 1)) ∧ (n < 256 → startL l n = n) := by
  obtain ⟨m, rfl⟩ : ∃ m, n = c + m + 1 := ⟨n - c - 1, by omega⟩
  obtain ⟨h1, h2⟩ := run_mid hs hn heq m (by omega)
  have e1 := heq (c + m) (by omega) (by omega)
  refine ⟨?_, fun h => ?_⟩
  · rw [runsT_succ, h2]
    unfold emL
    rw [h1, e1, if_pos (by rcases hend with h | h; exact Or.inl (by omega); exact Or.inr h), show c + m + 1 - c - 1 = c + m - c by omega]
  · rw [show startL l (c + m + 1) = if l.getD (c + m + 1) 0 ≠ l.getD (c + m) 0 then c + m + 1 else startL l (c + m) from rfl, e1, if_pos (hend.resolve_left (by omega))]
set_option maxHeartbeats 16000000 in
theorem rlay_t {d : DfaT} (hsm : SmallD d) (hok : RightP d) {G : PHeap} {H : Heap} {R : Value → PHeap → Heap → Prop} {v : Value} (hv : IsD G d v) (hR : ∀ v' kb', Buf v' kb' (layL d) → Sep G (keys (kb' ++ H)) → R v' G (kb' ++ H)) : FnT Try.prog 21 [v] G H R := by
  obtain ⟨C, an, al, ay, cn, cl, cs, rs, rfl, O⟩ := hv.opened
  obtain ⟨hm1, hm2, hm3, hm4, hm5⟩ := id hsm
  obtain ⟨hk1, hk2, hk3, hk4, hk5, hk6, hk7⟩ := id hok
  have hCl := O.len
  have hCa := O.all
  have hCn := O.n
  have hCx := O.l
  have hCs := O.s
  have hCw := O.w
  have hww := right_width hok O.ofl
  obtain ⟨wd, hwd⟩ := Int.eq_ofNat_of_zero_le hww.1
  rw [hwd] at hCw
  have hnm := right_names hok
  have hbl := bodyL_len hok O.ofl
  have hr4 : ∀ x : Value, List.replicate 4 x = [x, x, x, x] := fun _ => rfl
  have hr1 : ∀ x : Value, List.replicate 1 x = [x] := fun _ => rfl
  have hr2 : ∀ x : Value, List.replicate 2 x = [x, x] := fun _ => rfl
  have hby : ∀ n : Nat, Value.int .u8 (IntKind.u8.wrap ((n : Nat) : Int)) = byteV (UInt8.ofNat n) := u8_byte
  obtain ⟨z0, hz0⟩ : ∃ z, IntKind.u8.wrap ((d.names.length : Nat) : Int) = z := ⟨_, rfl⟩
  refine FnT.sep ?_
  refine FnT.body tok [0, 1, 2, 3, 4, 5, 6, 7, 8, 9, 22, 42, 56, 82, 97] Try.func21 rfl (by kernel_rfl) (by kernel_rfl) (by show _ ≤ 120; simp) fun hsep => ?_
  rw [Try.results21]
  have hsE := hsep
  try simp only [keys_cons, keys_app, keys_nil, Sep_cons, Sep_nil, NotIn_cons, NotIn_app, NotIn_nil, List.cons_append, List.nil_append, List.append_assoc, and_assoc, and_true, true_and] at hsE
  repeat (obtain ⟨hsx, hsE⟩ := hsE)
  repeat' first
    | with_reducible refine Br.yes ?_
    | with_reducible refine Br.no ?_
    | with_reducible refine Br.dec (fun _ => ?_) (fun _ => ?_)
    | with_reducible refine Br.beqB (fun _ => ?_) (fun _ => ?_)
    | with_reducible refine Br.beqb (fun _ => ?_) (fun _ => ?_)
    | with_reducible refine Br.mk (fun _ => ?_) (fun _ => ?_)
    | with_reducible refine foundO.mk (fun _ _ => ?_) (fun _ => ?_)
    | with_reducible refine appV.zero ?_
    | with_reducible refine appV.own ?_
    | ((with_reducible refine NewB.mk fun nb hnb => ?_); have hnb1 := hnb.1.1; have hnb2 := hnb.1.2; try simp only [keys_cons, keys_app, keys_nil, NotIn_cons, NotIn_app, NotIn_nil, and_true] at hnb2)
    | ((with_reducible refine NewRow.mk fun nb nsp ncap hnb hncap => ?_); have hnb1 := hnb.1.1; have hnb2 := hnb.1.2; try simp only [keys_cons, keys_app, keys_nil, NotIn_cons, NotIn_app, NotIn_nil, and_true] at hnb2)
    | simp (dsimp := false) (implicitDefEqProofs := false) (disch := first | assumption | (simp only [List.mem_cons, List.mem_append, true_or, or_true, eq_self]; done) | omega | (with_reducible refine Row.adr (by assumption) ?_; simp only [List.length_map, List.length_take, List.length_drop]; omega) | (simp only [List.length_cons, List.length_nil, List.length_map, List.length_append, List.length_replicate, Nat.reduceAdd, true_and, and_true, and_self]; first | done | omega)) only [go_sem, ↓reduceIte, Nat.reduceEqDiff, Nat.reduceAdd, Nat.reduceSub, Nat.reduceMul, Nat.reduceBEq, Nat.reduceLT, Nat.reduceLeDiff, Nat.reduceMod, Nat.reducePow, List.reduceReplicate, UInt8.reduceOfNat, Int.reducePow, Int.reduceDiv, Int.reduceMod, Nat.reduceDiv, Int.reduceNeg, Int.reduceAdd, Int.reduceSub, Int.reduceMul, Int.reduceLE, Int.reduceLT, Int.reduceEq, Int.reduceToNat, reduceCtorEq, -List.reduceReplicate, List.toList_toArray, hCl, hCa, hCs, hr4, hr1, hz0]
  rename_i b1 a1 a2 a3 b9 a4 a5 a6 b8 a7 a8 a9
  obtain ⟨l1, hl1⟩ : ∃ l, l = frontL ++ beB 1 d.names.length := ⟨_, rfl⟩
  have hl1l : l1.length = 5 := by rw [hl1, List.length_append, beB_len]; rfl
  have hl1m : l1.map byteV = [Value.int .u8 68, Value.int .u8 66, Value.int .u8 76, Value.int .u8 49, Value.int .u8 z0] := by
    rw [hl1, beB_one, List.map_append, ← hz0, hby]; rfl
  have hnl := namesE_len d.names hnm.2
  obtain ⟨x0, e0⟩ : ∃ x, x = nb := ⟨_, rfl⟩
  subst e0
  refine Tri.loopU tok [0, 1, 2, 3, 4, 5, 6, 7, 8, 9, 22, 42, 56, 82, 97] (by kernel_rfl) [1, 2, 3, 4] (fun q G' fr H' => ∃ (i : Nat) (v : Value) (kb : Heap), i + q = d.names.length ∧ G' = G ∧ Buf v kb (l1 ++ namesE (d.names.take i)) ∧ H' = kb ++ ((b1, .cells C [] 28) :: H) ∧ fr = [(1, .pointer (some ⟨b1, 0, none⟩)), (2, .slice none 0 0), (3, v), (4, .int .i64 (i : Nat))]) (d.names.length) ?_ ?_
  · exact Upd.go (H' := [(x0, .cells [Value.int .u8 68, Value.int .u8 66, Value.int .u8 76, Value.int .u8 49, Value.int .u8 z0] nsp 5)] ++ ((b1, .cells C [] 28) :: H)) (by intro fsum; simp only [List.map_append, List.map_cons, List.map_nil, List.sum_append, List.sum_cons, List.sum_nil, List.cons_append, List.nil_append]; omega) (Upd.now ⟨0, _, _, by omega, rfl, by rw [List.take_zero]; show Buf _ _ (l1 ++ []); rw [List.append_nil]; exact .inr ⟨x0, ncap, nsp, by rw [hl1l], by rw [hl1m], by rw [List.length_map, Nat.mul_one], by rw [List.length_map, hl1l]; simp at hncap ⊢; omega⟩, rfl, rfl⟩)
  · rintro q G1 fr H' hle hs2 ⟨i, v, kb, hiq, rfl, hbf, rfl, rfl⟩
    obtain ⟨p, hp⟩ : ∃ p, p = l1 ++ namesE (d.names.take i) := ⟨_, rfl⟩
    have hle1 : (namesE (d.names.take i)).length ≤ 33 * (d.names.take i).length := namesE_len _ fun x hx => hnm.2 x (List.mem_of_mem_take hx)
    rw [List.length_take] at hle1
    have hpl : p.length ≤ 5 + 33 * 64 ∧ 0 < p.length := by rw [hp, List.length_append]; omega
    rw [← hp] at hbf
    obtain ⟨x2, c2, sp2, rfl, rfl, hc2⟩ := hbf.own (by omega)
    have hsE := hs2
    try simp only [keys_cons, keys_app, keys_nil, Sep_cons, Sep_nil, NotIn_cons, NotIn_app, NotIn_nil, List.cons_append, List.nil_append, List.append_assoc, and_assoc, and_true, true_and] at hsE
    repeat (obtain ⟨hsx, hsE⟩ := hsE)
    by_cases hil : i < d.names.length
    · have had : Adr ay := O.ry.adr (by rw [List.length_map]; omega)
      have hsl := hnm.2 _ (List.getElem_mem hil)
      have hnext : l1 ++ namesE (d.names.take (i + 1)) = p ++ (beB 1 (d.names[i]).length ++ d.names[i]) := by rw [namesE_snoc _ hil, hp]; unfold nameE; simp only [List.append_assoc]
      obtain ⟨z, hz⟩ : ∃ z, IntKind.u8.wrap (((d.names[i]).length : Nat) : Int) = z := ⟨_, rfl⟩
      have hzm : (beB 1 (d.names[i]).length).map byteV = [Value.int .u8 z] := by rw [beB_one, ← hz, hby]; rfl
      repeat' first
        | with_reducible refine Br.yes ?_
        | with_reducible refine Br.no ?_
        | with_reducible refine Br.dec (fun _ => ?_) (fun _ => ?_)
        | with_reducible refine Br.beqB (fun _ => ?_) (fun _ => ?_)
        | with_reducible refine Br.beqb (fun _ => ?_) (fun _ => ?_)
        | with_reducible refine Br.mk (fun _ => ?_) (fun _ => ?_)
        | with_reducible refine foundO.mk (fun _ _ => ?_) (fun _ => ?_)
        | with_reducible refine appV.zero ?_
        | with_reducible refine appV.own ?_
        | ((with_reducible refine NewB.mk fun nb hnb => ?_); have hnb1 := hnb.1.1; have hnb2 := hnb.1.2; try simp only [keys_cons, keys_app, keys_nil, NotIn_cons, NotIn_app, NotIn_nil, and_true] at hnb2)
        | ((with_reducible refine NewRow.mk fun nb nsp ncap hnb hncap => ?_); have hnb1 := hnb.1.1; have hnb2 := hnb.1.2; try simp only [keys_cons, keys_app, keys_nil, NotIn_cons, NotIn_app, NotIn_nil, and_true] at hnb2)
        | simp (dsimp := false) (implicitDefEqProofs := false) (disch := first | assumption | (simp only [List.mem_cons, List.mem_append, true_or, or_true, eq_self]; done) | omega | (with_reducible refine Row.adr (by assumption) ?_; simp only [List.length_map, List.length_take, List.length_drop]; omega) | (simp only [List.length_cons, List.length_nil, List.length_map, List.length_append, List.length_replicate, Nat.reduceAdd, true_and, and_true, and_self]; first | done | omega)) only [go_sem, ↓reduceIte, Nat.reduceEqDiff, Nat.reduceAdd, Nat.reduceSub, Nat.reduceMul, Nat.reduceBEq, Nat.reduceLT, Nat.reduceLeDiff, Nat.reduceMod, Nat.reducePow, List.reduceReplicate, UInt8.reduceOfNat, Int.reducePow, Int.reduceDiv, Int.reduceMod, Nat.reduceDiv, Int.reduceNeg, Int.reduceAdd, Int.reduceSub, Int.reduceMul, Int.reduceLE, Int.reduceLT, Int.reduceEq, Int.reduceToNat, reduceCtorEq, -List.reduceReplicate, hr1, hCs, hCl, Row.obj O.ry, List.getElem_map, hz, List.length_map]
        | with_reducible refine Tri.drawS tok mixed [0, 1, 2, 3, 4, 5, 6, 7, 8, 9, 22, 42, 56, 82, 97] 5 [2, 5, 11, 14] (.op 0 .plain (.op 1 .plain (.op 2 .held (.op 3 .plain (.op 4 .plain (.op 5 .held (.op 6 .plain (.op 7 .plain (.op 10 .plain (.op 11 .held (.op 12 .plain (.op 13 .plain (.op 14 .held (.op 8 .keeps (.op 9 .keeps (.op 15 .keeps (.op 16 .plain .nil))))))))))))))))) (by kernel_rfl) [(b1, .cells C [] 28)] (by intro fsum; first | exact Nat.le_refl _ | (simp only [List.map_append, List.map_cons, List.map_nil, List.sum_append, List.sum_cons, List.sum_nil, List.cons_append, List.nil_append]; omega)) ?_
      refine Upd.go (H' := [(nb, .cells (p.map byteV ++ [Value.int .u8 z] ++ (d.names[i]).map byteV) nsp 5)] ++ ((b1, .cells C [] 28) :: H)) (by intro fsum; simp only [List.map_append, List.map_cons, List.map_nil, List.sum_append, List.sum_cons, List.sum_nil, List.cons_append, List.nil_append]; omega) (Upd.now ⟨q - 1, by omega, i + 1, _, _, by omega, rfl, ?_, rfl, rfl⟩)
      rw [hnext]
      exact .inr ⟨nb, ncap, nsp, by rw [List.length_append, List.length_append, beB_len, Nat.add_assoc], by rw [List.map_append, List.map_append, hzm, List.append_assoc], by simp, by simp [beB_len] at hncap ⊢; omega⟩
    · obtain rfl : i = d.names.length := by omega
      rw [List.take_length] at hp
      repeat' first
        | with_reducible refine Br.yes ?_
        | with_reducible refine Br.no ?_
        | with_reducible refine Br.dec (fun _ => ?_) (fun _ => ?_)
        | with_reducible refine Br.beqB (fun _ => ?_) (fun _ => ?_)
        | with_reducible refine Br.beqb (fun _ => ?_) (fun _ => ?_)
        | with_reducible refine Br.mk (fun _ => ?_) (fun _ => ?_)
        | with_reducible refine foundO.mk (fun _ _ => ?_) (fun _ => ?_)
        | with_reducible refine appV.zero ?_
        | with_reducible refine appV.own ?_
        | ((with_reducible refine NewB.mk fun nb hnb => ?_); have hnb1 := hnb.1.1; have hnb2 := hnb.1.2; try simp only [keys_cons, keys_app, keys_nil, NotIn_cons, NotIn_app, NotIn_nil, and_true] at hnb2)
        | ((with_reducible refine NewRow.mk fun nb nsp ncap hnb hncap => ?_); have hnb1 := hnb.1.1; have hnb2 := hnb.1.2; try simp only [keys_cons, keys_app, keys_nil, NotIn_cons, NotIn_app, NotIn_nil, and_true] at hnb2)
        | simp (dsimp := false) (implicitDefEqProofs := false) (disch := first | assumption | (simp only [List.mem_cons, List.mem_append, true_or, or_true, eq_self]; done) | omega | (with_reducible refine Row.adr (by assumption) ?_; simp only [List.length_map, List.length_take, List.length_drop]; omega) | (simp only [List.length_cons, List.length_nil, List.length_map, List.length_append, List.length_replicate, Nat.reduceAdd, true_and, and_true, and_self]; first | done | omega)) only [go_sem, ↓reduceIte, Nat.reduceEqDiff, Nat.reduceAdd, Nat.reduceSub, Nat.reduceMul, Nat.reduceBEq, Nat.reduceLT, Nat.reduceLeDiff, Nat.reduceMod, Nat.reducePow, List.reduceReplicate, UInt8.reduceOfNat, Int.reducePow, Int.reduceDiv, Int.reduceMod, Nat.reduceDiv, Int.reduceNeg, Int.reduceAdd, Int.reduceSub, Int.reduceMul, Int.reduceLE, Int.reduceLT, Int.reduceEq, Int.reduceToNat, reduceCtorEq, -List.reduceReplicate, hCs, hCl]
      refine Tri.loopU tok [0, 1, 2, 3, 4, 5, 6, 7, 8, 9, 22, 42, 56, 82, 97] (by kernel_rfl) [1, 2, 3, 5] (fun q G' fr H' => ∃ (c : Nat) (v : Value) (kb : Heap), c + q = 256 ∧ G' = G1 ∧ (c < 256 → startL d.of c = c) ∧ Buf v kb (p ++ runsT d.of c) ∧ H' = kb ++ ((b1, .cells C [] 28) :: H) ∧ fr = [(1, .pointer (some ⟨b1, 0, none⟩)), (2, .slice none 0 0), (3, v), (5, .int .i64 (c : Nat))]) (256) ?_ ?_
      · exact Upd.now ⟨0, _, [(x2, .cells (p.map byteV) sp2 5)], by omega, rfl, fun _ => rfl, by show Buf _ _ (p ++ []); rw [List.append_nil]; exact hbf, rfl, rfl⟩
      · rintro q G2 fr H' hle3 hs4 ⟨c, v, kb, hcq, rfl, hst, hbf, rfl, rfl⟩
        have hrl := runsT_len d.of c
        obtain ⟨p1, hp1⟩ : ∃ p1, p1 = p ++ runsT d.of c := ⟨_, rfl⟩
        have hp1l : p1.length ≤ 5 + 33 * 64 + 512 ∧ 0 < p1.length := by rw [hp1, List.length_append]; omega
        rw [← hp1] at hbf
        obtain ⟨x3, c3, sp3, rfl, rfl, hc3⟩ := hbf.own (by omega)
        have hsE := hs4
        try simp only [keys_cons, keys_app, keys_nil, Sep_cons, Sep_nil, NotIn_cons, NotIn_app, NotIn_nil, List.cons_append, List.nil_append, List.append_assoc, and_assoc, and_true, true_and] at hsE
        repeat (obtain ⟨hsx, hsE⟩ := hsE)
        by_cases hcl : c < 256
        · have hst := hst hcl
          obtain ⟨y, hy1, hy2, hy3⟩ := O.ofAt hcl
          repeat' first
            | with_reducible refine Br.yes ?_
            | with_reducible refine Br.no ?_
            | with_reducible refine Br.dec (fun _ => ?_) (fun _ => ?_)
            | with_reducible refine Br.beqB (fun _ => ?_) (fun _ => ?_)
            | with_reducible refine Br.beqb (fun _ => ?_) (fun _ => ?_)
            | with_reducible refine Br.mk (fun _ => ?_) (fun _ => ?_)
            | with_reducible refine foundO.mk (fun _ _ => ?_) (fun _ => ?_)
            | with_reducible refine appV.zero ?_
            | with_reducible refine appV.own ?_
            | ((with_reducible refine NewB.mk fun nb hnb => ?_); have hnb1 := hnb.1.1; have hnb2 := hnb.1.2; try simp only [keys_cons, keys_app, keys_nil, NotIn_cons, NotIn_app, NotIn_nil, and_true] at hnb2)
            | ((with_reducible refine NewRow.mk fun nb nsp ncap hnb hncap => ?_); have hnb1 := hnb.1.1; have hnb2 := hnb.1.2; try simp only [keys_cons, keys_app, keys_nil, NotIn_cons, NotIn_app, NotIn_nil, and_true] at hnb2)
            | simp (dsimp := false) (implicitDefEqProofs := false) (disch := first | assumption | (simp only [List.mem_cons, List.mem_append, true_or, or_true, eq_self]; done) | omega | (with_reducible refine Row.adr (by assumption) ?_; simp only [List.length_map, List.length_take, List.length_drop]; omega) | (simp only [List.length_cons, List.length_nil, List.length_map, List.length_append, List.length_replicate, Nat.reduceAdd, true_and, and_true, and_self]; first | done | omega)) only [go_sem, ↓reduceIte, Nat.reduceEqDiff, Nat.reduceAdd, Nat.reduceSub, Nat.reduceMul, Nat.reduceBEq, Nat.reduceLT, Nat.reduceLeDiff, Nat.reduceMod, Nat.reducePow, List.reduceReplicate, UInt8.reduceOfNat, Int.reducePow, Int.reduceDiv, Int.reduceMod, Nat.reduceDiv, Int.reduceNeg, Int.reduceAdd, Int.reduceSub, Int.reduceMul, Int.reduceLE, Int.reduceLT, Int.reduceEq, Int.reduceToNat, reduceCtorEq, -List.reduceReplicate, hCl]
          refine Tri.loopU tok [0, 1, 2, 3, 4, 5, 6, 7, 8, 9, 22, 42, 56, 82, 97] (by kernel_rfl) [1, 2, 3, 5, 6] (fun q2 G' fr H' => ∃ (n : Nat), n + q2 = 256 ∧ c ≤ n ∧ G' = G2 ∧ (∀ i, c ≤ i → i < n → d.of.getD i 0 = d.of.getD c 0) ∧ H' = (x3, .cells (p1.map byteV) sp3 5) :: (b1, .cells C [] 28) :: H ∧ fr = [(1, .pointer (some ⟨b1, 0, none⟩)), (2, .slice none 0 0), (3, .slice (some ⟨x3, 0, none⟩) p1.length c3), (5, .int .i64 (c : Nat)), (6, .int .i64 (n : Nat))]) ((256 - c)) ?_ ?_
          · exact Upd.now ⟨c, by omega, Nat.le_refl _, rfl, fun i h1 h2 => by omega, rfl, rfl⟩
          · rintro q2 G3 fr H' hle4 hs5 ⟨n, hnq, hcn, rfl, heq, rfl, rfl⟩
            have hsE := hs5
            try simp only [keys_cons, keys_app, keys_nil, Sep_cons, Sep_nil, NotIn_cons, NotIn_app, NotIn_nil, List.cons_append, List.nil_append, List.append_assoc, and_assoc, and_true, true_and] at hsE
            repeat (obtain ⟨hsx, hsE⟩ := hsE)
            by_cases hgo : n < 256 ∧ d.of.getD n 0 = d.of.getD c 0
            · obtain ⟨hn, hge⟩ := hgo
              obtain ⟨z, hz1, hz2, hz3⟩ := O.ofAt hn
              have hzy : z = y := by rw [hz2, hy2] at hge; omega
              subst hzy
              repeat' first
                | with_reducible refine Br.yes ?_
                | with_reducible refine Br.no ?_
                | with_reducible refine Br.dec (fun _ => ?_) (fun _ => ?_)
                | with_reducible refine Br.beqB (fun _ => ?_) (fun _ => ?_)
                | with_reducible refine Br.beqb (fun _ => ?_) (fun _ => ?_)
                | with_reducible refine Br.mk (fun _ => ?_) (fun _ => ?_)
                | with_reducible refine foundO.mk (fun _ _ => ?_) (fun _ => ?_)
                | with_reducible refine appV.zero ?_
                | with_reducible refine appV.own ?_
                | ((with_reducible refine NewB.mk fun nb hnb => ?_); have hnb1 := hnb.1.1; have hnb2 := hnb.1.2; try simp only [keys_cons, keys_app, keys_nil, NotIn_cons, NotIn_app, NotIn_nil, and_true] at hnb2)
                | ((with_reducible refine NewRow.mk fun nb nsp ncap hnb hncap => ?_); have hnb1 := hnb.1.1; have hnb2 := hnb.1.2; try simp only [keys_cons, keys_app, keys_nil, NotIn_cons, NotIn_app, NotIn_nil, and_true] at hnb2)
                | with_reducible refine Tri.drawH tok mixed [0, 1, 2, 3, 4, 5, 6, 7, 8, 9, 22, 42, 56, 82, 97] 9 [6, 10] (.op 0 .plain (.op 1 .plain (.op 2 .plain (.op 3 .plain (.op 4 .plain (.op 5 .plain (.op 6 .held (.op 7 .plain (.op 8 .plain (.op 9 .plain (.op 10 .held (.op 11 .plain (.op 12 .plain .nil))))))))))))) (by kernel_rfl) [1] ?_
                | simp (dsimp := false) (implicitDefEqProofs := false) (disch := first | assumption | (simp only [List.mem_cons, List.mem_append, true_or, or_true, eq_self]; done) | omega | (with_reducible refine Row.adr (by assumption) ?_; simp only [List.length_map, List.length_take, List.length_drop]; omega) | (simp only [List.length_cons, List.length_nil, List.length_map, List.length_append, List.length_replicate, Nat.reduceAdd, true_and, and_true, and_self]; first | done | omega)) only [go_sem, ↓reduceIte, Nat.reduceEqDiff, Nat.reduceAdd, Nat.reduceSub, Nat.reduceMul, Nat.reduceBEq, Nat.reduceLT, Nat.reduceLeDiff, Nat.reduceMod, Nat.reducePow, List.reduceReplicate, UInt8.reduceOfNat, Int.reducePow, Int.reduceDiv, Int.reduceMod, Nat.reduceDiv, Int.reduceNeg, Int.reduceAdd, Int.reduceSub, Int.reduceMul, Int.reduceLE, Int.reduceLT, Int.reduceEq, Int.reduceToNat, reduceCtorEq, -List.reduceReplicate, hCl, hy3, hz3]
              exact Upd.now ⟨q2 - 1, by omega, n + 1, by omega, by omega, rfl, fun i h1 h2 => by
                by_cases e : i = n
                · subst e; exact hge
                · exact heq i h1 (by omega), rfl, rfl⟩
            · have hn2 : c < n := by
                rcases Nat.lt_or_ge c n with h | h
                · exact h
                · obtain rfl : n = c := by omega
                  exact absurd ⟨hcl, rfl⟩ hgo
              have hend : n = 256 ∨ d.of.getD n 0 ≠ d.of.getD c 0 := by
                by_cases h : n = 256
                · exact Or.inl h
                · exact Or.inr fun h2 => hgo ⟨by omega, h2⟩
              obtain ⟨hrun, hst2⟩ := run_end hst hn2 (by omega) heq hend
              rw [hy2, Int.toNat_natCast] at hrun
              have hsub : ((n : Nat) : Int) - (c : Nat) - 1 = ((n - c - 1 : Nat) : Int) := by omega
              obtain ⟨w1, hw1⟩ : ∃ z, IntKind.u8.wrap ((n - c - 1 : Nat) : Int) = z := ⟨_, rfl⟩
              have hwm : (beB 1 y ++ beB 1 (n - c - 1)).map byteV = [Value.int .u8 (y : Nat), Value.int .u8 w1] := by
                rw [beB_one, beB_one, List.map_append, ← hw1, hby]
                have : byteV (UInt8.ofNat y) = Value.int .u8 (y : Nat) := by
                  rw [← hby, wrap_nat (k := .u8) rfl (by show y < 256; exact hy1)]
                show [byteV (UInt8.ofNat y)] ++ _ = _
                rw [this]; rfl
              by_cases h256 : n < 256
              · obtain ⟨z, hz1, hz2, hz3⟩ := O.ofAt h256
                have hzy : ¬ (z : Int) = y := by rcases hend with h | h; omega; rw [hz2, hy2] at h; exact h
                repeat' first
                  | with_reducible refine Br.yes ?_
                  | with_reducible refine Br.no ?_
                  | with_reducible refine Br.dec (fun _ => ?_) (fun _ => ?_)
                  | with_reducible refine Br.beqB (fun _ => ?_) (fun _ => ?_)
                  | with_reducible refine Br.beqb (fun _ => ?_) (fun _ => ?_)
                  | with_reducible refine Br.mk (fun _ => ?_) (fun _ => ?_)
                  | with_reducible refine foundO.mk (fun _ _ => ?_) (fun _ => ?_)
                  | with_reducible refine appV.zero ?_
                  | with_reducible refine appV.own ?_
                  | ((with_reducible refine NewB.mk fun nb hnb => ?_); have hnb1 := hnb.1.1; have hnb2 := hnb.1.2; try simp only [keys_cons, keys_app, keys_nil, NotIn_cons, NotIn_app, NotIn_nil, and_true] at hnb2)
                  | ((with_reducible refine NewRow.mk fun nb nsp ncap hnb hncap => ?_); have hnb1 := hnb.1.1; have hnb2 := hnb.1.2; try simp only [keys_cons, keys_app, keys_nil, NotIn_cons, NotIn_app, NotIn_nil, and_true] at hnb2)
                  | with_reducible refine Tri.drawH tok mixed [0, 1, 2, 3, 4, 5, 6, 7, 8, 9, 22, 42, 56, 82, 97] 9 [6, 10] (.op 0 .plain (.op 1 .plain (.op 2 .plain (.op 3 .plain (.op 4 .plain (.op 5 .plain (.op 6 .held (.op 7 .plain (.op 8 .plain (.op 9 .plain (.op 10 .held (.op 11 .plain (.op 12 .plain .nil))))))))))))) (by kernel_rfl) [1] ?_
                  | simp (dsimp := false) (implicitDefEqProofs := false) (disch := first | assumption | (simp only [List.mem_cons, List.mem_append, true_or, or_true, eq_self]; done) | omega | (with_reducible refine Row.adr (by assumption) ?_; simp only [List.length_map, List.length_take, List.length_drop]; omega) | (simp only [List.length_cons, List.length_nil, List.length_map, List.length_append, List.length_replicate, Nat.reduceAdd, true_and, and_true, and_self]; first | done | omega)) only [go_sem, ↓reduceIte, Nat.reduceEqDiff, Nat.reduceAdd, Nat.reduceSub, Nat.reduceMul, Nat.reduceBEq, Nat.reduceLT, Nat.reduceLeDiff, Nat.reduceMod, Nat.reducePow, List.reduceReplicate, UInt8.reduceOfNat, Int.reducePow, Int.reduceDiv, Int.reduceMod, Nat.reduceDiv, Int.reduceNeg, Int.reduceAdd, Int.reduceSub, Int.reduceMul, Int.reduceLE, Int.reduceLT, Int.reduceEq, Int.reduceToNat, reduceCtorEq, -List.reduceReplicate, hCl, hy3, hz3, hsub, hr2, hw1]
                refine Upd.go (H' := [(nb, .cells (p1.map byteV ++ [Value.int .u8 (y : Nat), Value.int .u8 w1]) nsp 5)] ++ ((b1, .cells C [] 28) :: H)) (by intro fsum; simp only [List.map_append, List.map_cons, List.map_nil, List.sum_append, List.sum_cons, List.sum_nil, List.cons_append, List.nil_append]; omega) (Upd.now ⟨256 - n, by omega, n, _, _, by omega, rfl, hst2, ?_, rfl, rfl⟩)
                rw [hrun, ← List.append_assoc, ← hp1]
                exact .inr ⟨nb, ncap, nsp, by rw [List.length_append, List.length_append, beB_len, beB_len], by rw [List.map_append, hwm], by simp [beB_len], by simp [beB_len] at hncap ⊢; omega⟩
              · obtain rfl : n = 256 := by omega
                have hsub5 : (256 : Int) - (c : Nat) - 1 = ((256 - c - 1 : Nat) : Int) := by omega
                repeat' first
                  | with_reducible refine Br.yes ?_
                  | with_reducible refine Br.no ?_
                  | with_reducible refine Br.dec (fun _ => ?_) (fun _ => ?_)
                  | with_reducible refine Br.beqB (fun _ => ?_) (fun _ => ?_)
                  | with_reducible refine Br.beqb (fun _ => ?_) (fun _ => ?_)
                  | with_reducible refine Br.mk (fun _ => ?_) (fun _ => ?_)
                  | with_reducible refine foundO.mk (fun _ _ => ?_) (fun _ => ?_)
                  | with_reducible refine appV.zero ?_
                  | with_reducible refine appV.own ?_
                  | ((with_reducible refine NewB.mk fun nb hnb => ?_); have hnb1 := hnb.1.1; have hnb2 := hnb.1.2; try simp only [keys_cons, keys_app, keys_nil, NotIn_cons, NotIn_app, NotIn_nil, and_true] at hnb2)
                  | ((with_reducible refine NewRow.mk fun nb nsp ncap hnb hncap => ?_); have hnb1 := hnb.1.1; have hnb2 := hnb.1.2; try simp only [keys_cons, keys_app, keys_nil, NotIn_cons, NotIn_app, NotIn_nil, and_true] at hnb2)
                  | with_reducible refine Tri.drawH tok mixed [0, 1, 2, 3, 4, 5, 6, 7, 8, 9, 22, 42, 56, 82, 97] 9 [6, 10] (.op 0 .plain (.op 1 .plain (.op 2 .plain (.op 3 .plain (.op 4 .plain (.op 5 .plain (.op 6 .held (.op 7 .plain (.op 8 .plain (.op 9 .plain (.op 10 .held (.op 11 .plain (.op 12 .plain .nil))))))))))))) (by kernel_rfl) [1] ?_
                  | simp (dsimp := false) (implicitDefEqProofs := false) (disch := first | assumption | (simp only [List.mem_cons, List.mem_append, true_or, or_true, eq_self]; done) | omega | (with_reducible refine Row.adr (by assumption) ?_; simp only [List.length_map, List.length_take, List.length_drop]; omega) | (simp only [List.length_cons, List.length_nil, List.length_map, List.length_append, List.length_replicate, Nat.reduceAdd, true_and, and_true, and_self]; first | done | omega)) only [go_sem, ↓reduceIte, Nat.reduceEqDiff, Nat.reduceAdd, Nat.reduceSub, Nat.reduceMul, Nat.reduceBEq, Nat.reduceLT, Nat.reduceLeDiff, Nat.reduceMod, Nat.reducePow, List.reduceReplicate, UInt8.reduceOfNat, Int.reducePow, Int.reduceDiv, Int.reduceMod, Nat.reduceDiv, Int.reduceNeg, Int.reduceAdd, Int.reduceSub, Int.reduceMul, Int.reduceLE, Int.reduceLT, Int.reduceEq, Int.reduceToNat, reduceCtorEq, -List.reduceReplicate, hCl, hy3, hsub, hsub5, hr2, hw1]
                refine Upd.go (H' := [(nb, .cells (p1.map byteV ++ [Value.int .u8 (y : Nat), Value.int .u8 w1]) nsp 5)] ++ ((b1, .cells C [] 28) :: H)) (by intro fsum; simp only [List.map_append, List.map_cons, List.map_nil, List.sum_append, List.sum_cons, List.sum_nil, List.cons_append, List.nil_append]; omega) (Upd.now ⟨0, by omega, 256, _, _, by omega, rfl, hst2, ?_, rfl, rfl⟩)
                rw [hrun, ← List.append_assoc, ← hp1]
                exact .inr ⟨nb, ncap, nsp, by rw [List.length_append, List.length_append, beB_len, beB_len], by rw [List.map_append, hwm], by simp [beB_len], by simp [beB_len] at hncap ⊢; omega⟩
        · obtain rfl : c = 256 := by omega
          have hlsub : ((d.label.length : Nat) : Int) - 1 = ((d.label.length - 1 : Nat) : Int) := by omega
          repeat' first
            | with_reducible refine Br.yes ?_
            | with_reducible refine Br.no ?_
            | with_reducible refine Br.dec (fun _ => ?_) (fun _ => ?_)
            | with_reducible refine Br.beqB (fun _ => ?_) (fun _ => ?_)
            | with_reducible refine Br.beqb (fun _ => ?_) (fun _ => ?_)
            | with_reducible refine Br.mk (fun _ => ?_) (fun _ => ?_)
            | with_reducible refine foundO.mk (fun _ _ => ?_) (fun _ => ?_)
            | with_reducible refine appV.zero ?_
            | with_reducible refine appV.own ?_
            | ((with_reducible refine NewB.mk fun nb hnb => ?_); have hnb1 := hnb.1.1; have hnb2 := hnb.1.2; try simp only [keys_cons, keys_app, keys_nil, NotIn_cons, NotIn_app, NotIn_nil, and_true] at hnb2)
            | ((with_reducible refine NewRow.mk fun nb nsp ncap hnb hncap => ?_); have hnb1 := hnb.1.1; have hnb2 := hnb.1.2; try simp only [keys_cons, keys_app, keys_nil, NotIn_cons, NotIn_app, NotIn_nil, and_true] at hnb2)
            | with_reducible refine Tri.drawH tok mixed [0, 1, 2, 3, 4, 5, 6, 7, 8, 9, 22, 42, 56, 82, 97] 9 [6, 10] (.op 0 .plain (.op 1 .plain (.op 2 .plain (.op 3 .plain (.op 4 .plain (.op 5 .plain (.op 6 .held (.op 7 .plain (.op 8 .plain (.op 9 .plain (.op 10 .held (.op 11 .plain (.op 12 .plain .nil))))))))))))) (by kernel_rfl) [1] ?_
            | simp (dsimp := false) (implicitDefEqProofs := false) (disch := first | assumption | (simp only [List.mem_cons, List.mem_append, true_or, or_true, eq_self]; done) | omega | (with_reducible refine Row.adr (by assumption) ?_; simp only [List.length_map, List.length_take, List.length_drop]; omega) | (simp only [List.length_cons, List.length_nil, List.length_map, List.length_append, List.length_replicate, Nat.reduceAdd, true_and, and_true, and_self]; first | done | omega)) only [go_sem, ↓reduceIte, Nat.reduceEqDiff, Nat.reduceAdd, Nat.reduceSub, Nat.reduceMul, Nat.reduceBEq, Nat.reduceLT, Nat.reduceLeDiff, Nat.reduceMod, Nat.reducePow, List.reduceReplicate, UInt8.reduceOfNat, Int.reducePow, Int.reduceDiv, Int.reduceMod, Nat.reduceDiv, Int.reduceNeg, Int.reduceAdd, Int.reduceSub, Int.reduceMul, Int.reduceLE, Int.reduceLT, Int.reduceEq, Int.reduceToNat, reduceCtorEq, -List.reduceReplicate, hCl, hCx, hlsub]
          refine rtwo_t (n := d.label.length - 1) (by omega) (by omega) hbf fun v5 kb5 hbf5 hs5 => ?_
          rw [two_be] at hbf5
          obtain ⟨p5, hp5⟩ : ∃ p5, p5 = p1 ++ beB 2 (d.label.length - 1) := ⟨_, rfl⟩
          have hp5l : p5.length = p1.length + 2 := by rw [hp5, List.length_append, beB_len]
          rw [← hp5] at hbf5
          obtain ⟨x5, c5, sp5, rfl, rfl, hc5⟩ := hbf5.own (by omega)
          have hsE := hs5
          try simp only [keys_cons, keys_app, keys_nil, Sep_cons, Sep_nil, NotIn_cons, NotIn_app, NotIn_nil, List.cons_append, List.nil_append, List.append_assoc, and_assoc, and_true, true_and] at hsE
          repeat (obtain ⟨hsx, hsE⟩ := hsE)
          repeat' first
            | with_reducible refine Br.yes ?_
            | with_reducible refine Br.no ?_
            | with_reducible refine Br.dec (fun _ => ?_) (fun _ => ?_)
            | with_reducible refine Br.beqB (fun _ => ?_) (fun _ => ?_)
            | with_reducible refine Br.beqb (fun _ => ?_) (fun _ => ?_)
            | with_reducible refine Br.mk (fun _ => ?_) (fun _ => ?_)
            | with_reducible refine foundO.mk (fun _ _ => ?_) (fun _ => ?_)
            | with_reducible refine appV.zero ?_
            | with_reducible refine appV.own ?_
            | ((with_reducible refine NewB.mk fun nb hnb => ?_); have hnb1 := hnb.1.1; have hnb2 := hnb.1.2; try simp only [keys_cons, keys_app, keys_nil, NotIn_cons, NotIn_app, NotIn_nil, and_true] at hnb2)
            | ((with_reducible refine NewRow.mk fun nb nsp ncap hnb hncap => ?_); have hnb1 := hnb.1.1; have hnb2 := hnb.1.2; try simp only [keys_cons, keys_app, keys_nil, NotIn_cons, NotIn_app, NotIn_nil, and_true] at hnb2)
            | with_reducible refine Tri.drawH tok mixed [0, 1, 2, 3, 4, 5, 6, 7, 8, 9, 22, 42, 56, 82, 97] 9 [6, 10] (.op 0 .plain (.op 1 .plain (.op 2 .plain (.op 3 .plain (.op 4 .plain (.op 5 .plain (.op 6 .held (.op 7 .plain (.op 8 .plain (.op 9 .plain (.op 10 .held (.op 11 .plain (.op 12 .plain .nil))))))))))))) (by kernel_rfl) [1] ?_
            | simp (dsimp := false) (implicitDefEqProofs := false) (disch := first | assumption | (simp only [List.mem_cons, List.mem_append, true_or, or_true, eq_self]; done) | omega | (with_reducible refine Row.adr (by assumption) ?_; simp only [List.length_map, List.length_take, List.length_drop]; omega) | (simp only [List.length_cons, List.length_nil, List.length_map, List.length_append, List.length_replicate, Nat.reduceAdd, true_and, and_true, and_self]; first | done | omega)) only [go_sem, ↓reduceIte, Nat.reduceEqDiff, Nat.reduceAdd, Nat.reduceSub, Nat.reduceMul, Nat.reduceBEq, Nat.reduceLT, Nat.reduceLeDiff, Nat.reduceMod, Nat.reducePow, List.reduceReplicate, UInt8.reduceOfNat, Int.reducePow, Int.reduceDiv, Int.reduceMod, Nat.reduceDiv, Int.reduceNeg, Int.reduceAdd, Int.reduceSub, Int.reduceMul, Int.reduceLE, Int.reduceLT, Int.reduceEq, Int.reduceToNat, reduceCtorEq, -List.reduceReplicate, hCl, hCx]
          have hrnl := O.rnl
          refine Tri.loopU tok [0, 1, 2, 3, 4, 5, 6, 7, 8, 9, 22, 42, 56, 82, 97] (by kernel_rfl) [1, 2, 3, 7] (fun q G' fr H' => ∃ (k : Nat) (v : Value) (kb : Heap), k + q = d.label.length ∧ G' = G2 ∧ Buf v kb (p5 ++ statesT d k) ∧ H' = kb ++ ((b1, .cells C [] 28) :: H) ∧ fr = [(1, .pointer (some ⟨b1, 0, none⟩)), (2, .slice none 0 0), (3, v), (7, .int .i64 (k : Nat))]) (d.label.length) ?_ ?_
          · exact Upd.now ⟨0, _, [(x5, .cells (p5.map byteV) sp5 5)], by omega, rfl, by show Buf _ _ (p5 ++ []); rw [List.append_nil]; exact hbf5, rfl, rfl⟩
          · rintro q G3 fr H' hle4 hs6 ⟨k, v, kb, hkq, rfl, hbf, rfl, rfl⟩
            obtain ⟨p6, hp6⟩ : ∃ p6, p6 = p5 ++ statesT d k := ⟨_, rfl⟩
            have hstl := statesT_len hok O.ofl k (by omega)
            have hp6l : p6.length ≤ 50000000 ∧ 0 < p6.length := by rw [hp6, List.length_append]; omega
            rw [← hp6] at hbf
            obtain ⟨x6, c6, sp6, rfl, rfl, hc6⟩ := hbf.own (by omega)
            have hsE := hs6
            try simp only [keys_cons, keys_app, keys_nil, Sep_cons, Sep_nil, NotIn_cons, NotIn_app, NotIn_nil, List.cons_append, List.nil_append, List.append_assoc, and_assoc, and_true, true_and] at hsE
            repeat (obtain ⟨hsx, hsE⟩ := hsE)
            by_cases hkl2 : k < d.label.length
            · have hkl : k < d.next.length := by omega
              have had : Adr an := O.rn.adr (by omega)
              obtain ⟨b, cc, e1, e2, e3⟩ := O.rs k hkl (by omega)
              obtain ⟨hw1, hw2, hw3, hw4⟩ := hk7 k hkl (by omega)
              have had2 : Adr al := O.rl.adr (by rw [List.length_map]; omega)
              obtain ⟨lb, hlb⟩ := Int.eq_ofNat_of_zero_le hw2
              have hse := stE_at hkl hkl2
              rw [hlb, Int.toNat_natCast] at hse
              obtain ⟨row, hrow⟩ : ∃ row, row = d.next[k] := ⟨_, rfl⟩
              rw [← hrow] at e1 e2 e3 hw1 hw4 hse
              have hrw : row.length = wd := by omega
              obtain ⟨z, hz⟩ : ∃ z, IntKind.u8.wrap ((lb : Nat) : Int) = z := ⟨_, rfl⟩
              have hzm : (beB 1 lb).map byteV = [Value.int .u8 z] := by rw [beB_one, ← hz, hby]; rfl
              have hnext : p5 ++ statesT d (k + 1) = (p6 ++ beB 1 lb) ++ rowE row := by rw [statesT_succ, hse, hp6]; simp only [List.append_assoc]
              repeat' first
                | with_reducible refine Br.yes ?_
                | with_reducible refine Br.no ?_
                | with_reducible refine Br.dec (fun _ => ?_) (fun _ => ?_)
                | with_reducible refine Br.beqB (fun _ => ?_) (fun _ => ?_)
                | with_reducible refine Br.beqb (fun _ => ?_) (fun _ => ?_)
                | with_reducible refine Br.mk (fun _ => ?_) (fun _ => ?_)
                | with_reducible refine foundO.mk (fun _ _ => ?_) (fun _ => ?_)
                | with_reducible refine appV.zero ?_
                | with_reducible refine appV.own ?_
                | ((with_reducible refine NewB.mk fun nb hnb => ?_); have hnb1 := hnb.1.1; have hnb2 := hnb.1.2; try simp only [keys_cons, keys_app, keys_nil, NotIn_cons, NotIn_app, NotIn_nil, and_true] at hnb2)
                | ((with_reducible refine NewRow.mk fun nb nsp ncap hnb hncap => ?_); have hnb1 := hnb.1.1; have hnb2 := hnb.1.2; try simp only [keys_cons, keys_app, keys_nil, NotIn_cons, NotIn_app, NotIn_nil, and_true] at hnb2)
                | simp (dsimp := false) (implicitDefEqProofs := false) (disch := first | assumption | (simp only [List.mem_cons, List.mem_append, true_or, or_true, eq_self]; done) | omega | (with_reducible refine Row.adr (by assumption) ?_; simp only [List.length_map, List.length_take, List.length_drop]; omega) | (simp only [List.length_cons, List.length_nil, List.length_map, List.length_append, List.length_replicate, Nat.reduceAdd, true_and, and_true, and_self]; first | done | omega)) only [go_sem, ↓reduceIte, Nat.reduceEqDiff, Nat.reduceAdd, Nat.reduceSub, Nat.reduceMul, Nat.reduceBEq, Nat.reduceLT, Nat.reduceLeDiff, Nat.reduceMod, Nat.reducePow, List.reduceReplicate, UInt8.reduceOfNat, Int.reducePow, Int.reduceDiv, Int.reduceMod, Nat.reduceDiv, Int.reduceNeg, Int.reduceAdd, Int.reduceSub, Int.reduceMul, Int.reduceLE, Int.reduceLT, Int.reduceEq, Int.reduceToNat, reduceCtorEq, -List.reduceReplicate, hr1, hCl, hCx, Row.obj O.rl, List.getElem_map, hlb, hz]
              obtain ⟨p7, hp7⟩ : ∃ p7, p7 = p6 ++ beB 1 lb := ⟨_, rfl⟩
              have hp7l : p7.length = p6.length + 1 := by rw [hp7, List.length_append, beB_len]
              rw [← hp7] at hnext
              obtain ⟨x7, e0⟩ : ∃ x, x = nb := ⟨_, rfl⟩
              subst e0
              have hbf7 : Buf (.slice (some ⟨x7, 0, none⟩) (p6.length + 1) ncap) [(x7, .cells (p6.map byteV ++ [Value.int .u8 z]) nsp 5)] p7 := .inr ⟨x7, ncap, nsp, by rw [hp7l], by rw [hp7, List.map_append, hzm], by simp [hp7, beB_len], by simp [hp7, beB_len] at hncap ⊢; omega⟩
              refine Tri.loopU tok [0, 1, 2, 3, 4, 5, 6, 7, 8, 9, 22, 42, 56, 82, 97] (by kernel_rfl) [1, 2, 3, 7, 8] (fun q2 G' fr H' => ∃ (j : Nat) (v : Value) (kb : Heap), j + q2 = wd ∧ G' = G3 ∧ Buf v kb (p7 ++ rowE (row.take j)) ∧ H' = kb ++ ((b1, .cells C [] 28) :: H) ∧ fr = [(1, .pointer (some ⟨b1, 0, none⟩)), (2, .slice none 0 0), (3, v), (7, .int .i64 (k : Nat)), (8, .int .i64 (j : Nat))]) (wd) ?_ ?_
              · exact Upd.go (H' := [(x7, .cells (p6.map byteV ++ [Value.int .u8 z]) nsp 5)] ++ ((b1, .cells C [] 28) :: H)) (by intro fsum; simp only [List.map_append, List.map_cons, List.map_nil, List.sum_append, List.sum_cons, List.sum_nil, List.cons_append, List.nil_append]; omega) (Upd.now ⟨0, _, _, by omega, rfl, by rw [List.take_zero]; show Buf _ _ (p7 ++ []); rw [List.append_nil]; exact hbf7, rfl, rfl⟩)
              · rintro q2 G4 fr H' hle5 hs8 ⟨j, v, kb, hjq, rfl, hbf, rfl, rfl⟩
                have hrl := rowE_len (row.take j)
                rw [List.length_take] at hrl
                obtain ⟨p8, hp8⟩ : ∃ p8, p8 = p7 ++ rowE (row.take j) := ⟨_, rfl⟩
                have hp8l : p8.length ≤ 100000000 ∧ 0 < p8.length := by rw [hp8, List.length_append]; omega
                by_cases hjl : j < row.length
                · have hadb : Adr b := e2.adr (by rw [List.length_map]; omega)
                  have ht := hw4 _ (List.getElem_mem hjl)
                  obtain ⟨t, htn⟩ := Int.eq_ofNat_of_zero_le ht.1
                  have hnx := rowE_snoc row hjl
                  rw [htn, Int.toNat_natCast] at hnx
                  rw [← hp8] at hbf
                  obtain ⟨x8, c8, sp8, rfl, rfl, hc8⟩ := hbf.own (by omega)
                  have hsE := hs8
                  try simp only [keys_cons, keys_app, keys_nil, Sep_cons, Sep_nil, NotIn_cons, NotIn_app, NotIn_nil, List.cons_append, List.nil_append, List.append_assoc, and_assoc, and_true, true_and] at hsE
                  repeat (obtain ⟨hsx, hsE⟩ := hsE)
                  repeat' first
                    | with_reducible refine Br.yes ?_
                    | with_reducible refine Br.no ?_
                    | with_reducible refine Br.dec (fun _ => ?_) (fun _ => ?_)
                    | with_reducible refine Br.beqB (fun _ => ?_) (fun _ => ?_)
                    | with_reducible refine Br.beqb (fun _ => ?_) (fun _ => ?_)
                    | with_reducible refine Br.mk (fun _ => ?_) (fun _ => ?_)
                    | with_reducible refine foundO.mk (fun _ _ => ?_) (fun _ => ?_)
                    | with_reducible refine appV.zero ?_
                    | with_reducible refine appV.own ?_
                    | ((with_reducible refine NewB.mk fun nb hnb => ?_); have hnb1 := hnb.1.1; have hnb2 := hnb.1.2; try simp only [keys_cons, keys_app, keys_nil, NotIn_cons, NotIn_app, NotIn_nil, and_true] at hnb2)
                    | ((with_reducible refine NewRow.mk fun nb nsp ncap hnb hncap => ?_); have hnb1 := hnb.1.1; have hnb2 := hnb.1.2; try simp only [keys_cons, keys_app, keys_nil, NotIn_cons, NotIn_app, NotIn_nil, and_true] at hnb2)
                    | simp (dsimp := false) (implicitDefEqProofs := false) (disch := first | assumption | (simp only [List.mem_cons, List.mem_append, true_or, or_true, eq_self]; done) | omega | (with_reducible refine Row.adr (by assumption) ?_; simp only [List.length_map, List.length_take, List.length_drop]; omega) | (simp only [List.length_cons, List.length_nil, List.length_map, List.length_append, List.length_replicate, Nat.reduceAdd, true_and, and_true, and_self]; first | done | omega)) only [go_sem, ↓reduceIte, Nat.reduceEqDiff, Nat.reduceAdd, Nat.reduceSub, Nat.reduceMul, Nat.reduceBEq, Nat.reduceLT, Nat.reduceLeDiff, Nat.reduceMod, Nat.reducePow, List.reduceReplicate, UInt8.reduceOfNat, Int.reducePow, Int.reduceDiv, Int.reduceMod, Nat.reduceDiv, Int.reduceNeg, Int.reduceAdd, Int.reduceSub, Int.reduceMul, Int.reduceLE, Int.reduceLT, Int.reduceEq, Int.reduceToNat, reduceCtorEq, -List.reduceReplicate, hCl, hCn, hCw, Row.obj O.rn, e1, Row.obj e2, List.getElem_map, htn]
                  refine rtwo_t (n := t) (by omega) (by omega) hbf fun v9 kb9 hbf9 hs9 => ?_
                  rw [two_be] at hbf9
                  obtain ⟨x9, c9, sp9, rfl, rfl, hc9⟩ := hbf9.own (by rw [List.length_append]; omega)
                  have hsE := hs9
                  try simp only [keys_cons, keys_app, keys_nil, Sep_cons, Sep_nil, NotIn_cons, NotIn_app, NotIn_nil, List.cons_append, List.nil_append, List.append_assoc, and_assoc, and_true, true_and] at hsE
                  repeat (obtain ⟨hsx, hsE⟩ := hsE)
                  repeat' first
                    | with_reducible refine Br.yes ?_
                    | with_reducible refine Br.no ?_
                    | with_reducible refine Br.dec (fun _ => ?_) (fun _ => ?_)
                    | with_reducible refine Br.beqB (fun _ => ?_) (fun _ => ?_)
                    | with_reducible refine Br.beqb (fun _ => ?_) (fun _ => ?_)
                    | with_reducible refine Br.mk (fun _ => ?_) (fun _ => ?_)
                    | with_reducible refine foundO.mk (fun _ _ => ?_) (fun _ => ?_)
                    | with_reducible refine appV.zero ?_
                    | with_reducible refine appV.own ?_
                    | ((with_reducible refine NewB.mk fun nb hnb => ?_); have hnb1 := hnb.1.1; have hnb2 := hnb.1.2; try simp only [keys_cons, keys_app, keys_nil, NotIn_cons, NotIn_app, NotIn_nil, and_true] at hnb2)
                    | ((with_reducible refine NewRow.mk fun nb nsp ncap hnb hncap => ?_); have hnb1 := hnb.1.1; have hnb2 := hnb.1.2; try simp only [keys_cons, keys_app, keys_nil, NotIn_cons, NotIn_app, NotIn_nil, and_true] at hnb2)
                    | simp (dsimp := false) (implicitDefEqProofs := false) (disch := first | assumption | (simp only [List.mem_cons, List.mem_append, true_or, or_true, eq_self]; done) | omega | (with_reducible refine Row.adr (by assumption) ?_; simp only [List.length_map, List.length_take, List.length_drop]; omega) | (simp only [List.length_cons, List.length_nil, List.length_map, List.length_append, List.length_replicate, Nat.reduceAdd, true_and, and_true, and_self]; first | done | omega)) only [go_sem, ↓reduceIte, Nat.reduceEqDiff, Nat.reduceAdd, Nat.reduceSub, Nat.reduceMul, Nat.reduceBEq, Nat.reduceLT, Nat.reduceLeDiff, Nat.reduceMod, Nat.reducePow, List.reduceReplicate, UInt8.reduceOfNat, Int.reducePow, Int.reduceDiv, Int.reduceMod, Nat.reduceDiv, Int.reduceNeg, Int.reduceAdd, Int.reduceSub, Int.reduceMul, Int.reduceLE, Int.reduceLT, Int.reduceEq, Int.reduceToNat, reduceCtorEq, -List.reduceReplicate]
                  refine Upd.now ⟨q2 - 1, by omega, j + 1, _, [(x9, .cells ((p8 ++ beB 2 t).map byteV) sp9 5)], by omega, rfl, ?_, rfl, rfl⟩
                  rw [hnx, ← List.append_assoc, ← hp8]
                  exact hbf9
                · have hjw : j = wd := by omega
                  subst hjw
                  rw [← hrw, List.take_length] at hp8
                  rw [← hrw, List.take_length, ← hp8] at hbf
                  obtain ⟨x8, c8, sp8, rfl, rfl, hc8⟩ := hbf.own (by omega)
                  have hsE := hs8
                  try simp only [keys_cons, keys_app, keys_nil, Sep_cons, Sep_nil, NotIn_cons, NotIn_app, NotIn_nil, List.cons_append, List.nil_append, List.append_assoc, and_assoc, and_true, true_and] at hsE
                  repeat (obtain ⟨hsx, hsE⟩ := hsE)
                  repeat' first
                    | with_reducible refine Br.yes ?_
                    | with_reducible refine Br.no ?_
                    | with_reducible refine Br.dec (fun _ => ?_) (fun _ => ?_)
                    | with_reducible refine Br.beqB (fun _ => ?_) (fun _ => ?_)
                    | with_reducible refine Br.beqb (fun _ => ?_) (fun _ => ?_)
                    | with_reducible refine Br.mk (fun _ => ?_) (fun _ => ?_)
                    | with_reducible refine foundO.mk (fun _ _ => ?_) (fun _ => ?_)
                    | with_reducible refine appV.zero ?_
                    | with_reducible refine appV.own ?_
                    | ((with_reducible refine NewB.mk fun nb hnb => ?_); have hnb1 := hnb.1.1; have hnb2 := hnb.1.2; try simp only [keys_cons, keys_app, keys_nil, NotIn_cons, NotIn_app, NotIn_nil, and_true] at hnb2)
                    | ((with_reducible refine NewRow.mk fun nb nsp ncap hnb hncap => ?_); have hnb1 := hnb.1.1; have hnb2 := hnb.1.2; try simp only [keys_cons, keys_app, keys_nil, NotIn_cons, NotIn_app, NotIn_nil, and_true] at hnb2)
                    | simp (dsimp := false) (implicitDefEqProofs := false) (disch := first | assumption | (simp only [List.mem_cons, List.mem_append, true_or, or_true, eq_self]; done) | omega | (with_reducible refine Row.adr (by assumption) ?_; simp only [List.length_map, List.length_take, List.length_drop]; omega) | (simp only [List.length_cons, List.length_nil, List.length_map, List.length_append, List.length_replicate, Nat.reduceAdd, true_and, and_true, and_self]; first | done | omega)) only [go_sem, ↓reduceIte, Nat.reduceEqDiff, Nat.reduceAdd, Nat.reduceSub, Nat.reduceMul, Nat.reduceBEq, Nat.reduceLT, Nat.reduceLeDiff, Nat.reduceMod, Nat.reducePow, List.reduceReplicate, UInt8.reduceOfNat, Int.reducePow, Int.reduceDiv, Int.reduceMod, Nat.reduceDiv, Int.reduceNeg, Int.reduceAdd, Int.reduceSub, Int.reduceMul, Int.reduceLE, Int.reduceLT, Int.reduceEq, Int.reduceToNat, reduceCtorEq, -List.reduceReplicate, hCl, hCw]
                  refine Upd.now ⟨q - 1, by omega, k + 1, _, [(x8, .cells (p8.map byteV) sp8 5)], by omega, rfl, ?_, rfl, rfl⟩
                  rw [hnext, ← hp8]
                  exact hbf
            · obtain rfl : k = d.label.length := by omega
              have hbody : p6 = bodyL d := by rw [hp6, hp5, hp1, hp, hl1]; rfl
              have hsum := sumL_lt (bodyL d)
              rw [hbody] at hbf hs6 hc6 hp6l ⊢
              have hwr : IntKind.i64.wrap ((sumL (bodyL d) : Nat) : Int) = (sumL (bodyL d) : Nat) := wrap_i64 (by omega) (by omega)
              repeat' first
                | with_reducible refine Br.yes ?_
                | with_reducible refine Br.no ?_
                | with_reducible refine Br.dec (fun _ => ?_) (fun _ => ?_)
                | with_reducible refine Br.beqB (fun _ => ?_) (fun _ => ?_)
                | with_reducible refine Br.beqb (fun _ => ?_) (fun _ => ?_)
                | with_reducible refine Br.mk (fun _ => ?_) (fun _ => ?_)
                | with_reducible refine foundO.mk (fun _ _ => ?_) (fun _ => ?_)
                | with_reducible refine appV.zero ?_
                | with_reducible refine appV.own ?_
                | ((with_reducible refine NewB.mk fun nb hnb => ?_); have hnb1 := hnb.1.1; have hnb2 := hnb.1.2; try simp only [keys_cons, keys_app, keys_nil, NotIn_cons, NotIn_app, NotIn_nil, and_true] at hnb2)
                | ((with_reducible refine NewRow.mk fun nb nsp ncap hnb hncap => ?_); have hnb1 := hnb.1.1; have hnb2 := hnb.1.2; try simp only [keys_cons, keys_app, keys_nil, NotIn_cons, NotIn_app, NotIn_nil, and_true] at hnb2)
                | simp (dsimp := false) (implicitDefEqProofs := false) (disch := first | assumption | (simp only [List.mem_cons, List.mem_append, true_or, or_true, eq_self]; done) | omega | (with_reducible refine Row.adr (by assumption) ?_; simp only [List.length_map, List.length_take, List.length_drop]; omega) | (simp only [List.length_cons, List.length_nil, List.length_map, List.length_append, List.length_replicate, Nat.reduceAdd, true_and, and_true, and_self]; first | done | omega)) only [go_sem, ↓reduceIte, Nat.reduceEqDiff, Nat.reduceAdd, Nat.reduceSub, Nat.reduceMul, Nat.reduceBEq, Nat.reduceLT, Nat.reduceLeDiff, Nat.reduceMod, Nat.reducePow, List.reduceReplicate, UInt8.reduceOfNat, Int.reducePow, Int.reduceDiv, Int.reduceMod, Nat.reduceDiv, Int.reduceNeg, Int.reduceAdd, Int.reduceSub, Int.reduceMul, Int.reduceLE, Int.reduceLT, Int.reduceEq, Int.reduceToNat, reduceCtorEq, -List.reduceReplicate, hCl, hCx]
              refine rsumO_t (by omega) ?_
              generalize hS : sumL (bodyL d) = S at *
              have hdv : ((S : Nat) : Int) / 65536 = ((S / 65536 : Nat) : Int) := rfl
              have hmd : ((S : Nat) : Int) % 65536 = ((S % 65536 : Nat) : Int) := rfl
              repeat' first
                | with_reducible refine Br.yes ?_
                | with_reducible refine Br.no ?_
                | with_reducible refine Br.dec (fun _ => ?_) (fun _ => ?_)
                | with_reducible refine Br.beqB (fun _ => ?_) (fun _ => ?_)
                | with_reducible refine Br.beqb (fun _ => ?_) (fun _ => ?_)
                | with_reducible refine Br.mk (fun _ => ?_) (fun _ => ?_)
                | with_reducible refine foundO.mk (fun _ _ => ?_) (fun _ => ?_)
                | with_reducible refine appV.zero ?_
                | with_reducible refine appV.own ?_
                | ((with_reducible refine NewB.mk fun nb hnb => ?_); have hnb1 := hnb.1.1; have hnb2 := hnb.1.2; try simp only [keys_cons, keys_app, keys_nil, NotIn_cons, NotIn_app, NotIn_nil, and_true] at hnb2)
                | ((with_reducible refine NewRow.mk fun nb nsp ncap hnb hncap => ?_); have hnb1 := hnb.1.1; have hnb2 := hnb.1.2; try simp only [keys_cons, keys_app, keys_nil, NotIn_cons, NotIn_app, NotIn_nil, and_true] at hnb2)
                | simp (dsimp := false) (implicitDefEqProofs := false) (disch := first | assumption | (simp only [List.mem_cons, List.mem_append, true_or, or_true, eq_self]; done) | omega | (with_reducible refine Row.adr (by assumption) ?_; simp only [List.length_map, List.length_take, List.length_drop]; omega) | (simp only [List.length_cons, List.length_nil, List.length_map, List.length_append, List.length_replicate, Nat.reduceAdd, true_and, and_true, and_self]; first | done | omega)) only [go_sem, ↓reduceIte, Nat.reduceEqDiff, Nat.reduceAdd, Nat.reduceSub, Nat.reduceMul, Nat.reduceBEq, Nat.reduceLT, Nat.reduceLeDiff, Nat.reduceMod, Nat.reducePow, List.reduceReplicate, UInt8.reduceOfNat, Int.reducePow, Int.reduceDiv, Int.reduceMod, Nat.reduceDiv, Int.reduceNeg, Int.reduceAdd, Int.reduceSub, Int.reduceMul, Int.reduceLE, Int.reduceLT, Int.reduceEq, Int.reduceToNat, reduceCtorEq, -List.reduceReplicate, hwr, hdv, hmd]
              refine rtwo_t (n := S / 65536) (by omega) (by omega) hbf fun v7 kb7 hbf7 hs7 => ?_
              rw [two_be] at hbf7
              obtain ⟨x7, c7, sp7, rfl, rfl, hc7⟩ := hbf7.own (by rw [List.length_append]; omega)
              have hsE := hs7
              try simp only [keys_cons, keys_app, keys_nil, Sep_cons, Sep_nil, NotIn_cons, NotIn_app, NotIn_nil, List.cons_append, List.nil_append, List.append_assoc, and_assoc, and_true, true_and] at hsE
              repeat (obtain ⟨hsx, hsE⟩ := hsE)
              repeat' first
                | with_reducible refine Br.yes ?_
                | with_reducible refine Br.no ?_
                | with_reducible refine Br.dec (fun _ => ?_) (fun _ => ?_)
                | with_reducible refine Br.beqB (fun _ => ?_) (fun _ => ?_)
                | with_reducible refine Br.beqb (fun _ => ?_) (fun _ => ?_)
                | with_reducible refine Br.mk (fun _ => ?_) (fun _ => ?_)
                | with_reducible refine foundO.mk (fun _ _ => ?_) (fun _ => ?_)
                | with_reducible refine appV.zero ?_
                | with_reducible refine appV.own ?_
                | ((with_reducible refine NewB.mk fun nb hnb => ?_); have hnb1 := hnb.1.1; have hnb2 := hnb.1.2; try simp only [keys_cons, keys_app, keys_nil, NotIn_cons, NotIn_app, NotIn_nil, and_true] at hnb2)
                | ((with_reducible refine NewRow.mk fun nb nsp ncap hnb hncap => ?_); have hnb1 := hnb.1.1; have hnb2 := hnb.1.2; try simp only [keys_cons, keys_app, keys_nil, NotIn_cons, NotIn_app, NotIn_nil, and_true] at hnb2)
                | simp (dsimp := false) (implicitDefEqProofs := false) (disch := first | assumption | (simp only [List.mem_cons, List.mem_append, true_or, or_true, eq_self]; done) | omega | (with_reducible refine Row.adr (by assumption) ?_; simp only [List.length_map, List.length_take, List.length_drop]; omega) | (simp only [List.length_cons, List.length_nil, List.length_map, List.length_append, List.length_replicate, Nat.reduceAdd, true_and, and_true, and_self]; first | done | omega)) only [go_sem, ↓reduceIte, Nat.reduceEqDiff, Nat.reduceAdd, Nat.reduceSub, Nat.reduceMul, Nat.reduceBEq, Nat.reduceLT, Nat.reduceLeDiff, Nat.reduceMod, Nat.reducePow, List.reduceReplicate, UInt8.reduceOfNat, Int.reducePow, Int.reduceDiv, Int.reduceMod, Nat.reduceDiv, Int.reduceNeg, Int.reduceAdd, Int.reduceSub, Int.reduceMul, Int.reduceLE, Int.reduceLT, Int.reduceEq, Int.reduceToNat, reduceCtorEq, -List.reduceReplicate, hwr, hdv, hmd]
              refine rtwo_t (n := S % 65536) (by rw [List.length_append, beB_len]; omega) (by omega) hbf7 fun v9 kb9 hbf9 hs9 => ?_
              rw [two_be, List.append_assoc, ← four_be, ← hS] at hbf9
              obtain ⟨x9, c9, sp9, rfl, rfl, hc9⟩ := hbf9.own (by rw [List.length_append]; omega)
              have hsE := hs9
              try simp only [keys_cons, keys_app, keys_nil, Sep_cons, Sep_nil, NotIn_cons, NotIn_app, NotIn_nil, List.cons_append, List.nil_append, List.append_assoc, and_assoc, and_true, true_and] at hsE
              repeat (obtain ⟨hsx, hsE⟩ := hsE)
              repeat' first
                | with_reducible refine Br.yes ?_
                | with_reducible refine Br.no ?_
                | with_reducible refine Br.dec (fun _ => ?_) (fun _ => ?_)
                | with_reducible refine Br.beqB (fun _ => ?_) (fun _ => ?_)
                | with_reducible refine Br.beqb (fun _ => ?_) (fun _ => ?_)
                | with_reducible refine Br.mk (fun _ => ?_) (fun _ => ?_)
                | with_reducible refine foundO.mk (fun _ _ => ?_) (fun _ => ?_)
                | with_reducible refine appV.zero ?_
                | with_reducible refine appV.own ?_
                | ((with_reducible refine NewB.mk fun nb hnb => ?_); have hnb1 := hnb.1.1; have hnb2 := hnb.1.2; try simp only [keys_cons, keys_app, keys_nil, NotIn_cons, NotIn_app, NotIn_nil, and_true] at hnb2)
                | ((with_reducible refine NewRow.mk fun nb nsp ncap hnb hncap => ?_); have hnb1 := hnb.1.1; have hnb2 := hnb.1.2; try simp only [keys_cons, keys_app, keys_nil, NotIn_cons, NotIn_app, NotIn_nil, and_true] at hnb2)
                | simp (dsimp := false) (implicitDefEqProofs := false) (disch := first | assumption | (simp only [List.mem_cons, List.mem_append, true_or, or_true, eq_self]; done) | omega | (with_reducible refine Row.adr (by assumption) ?_; simp only [List.length_map, List.length_take, List.length_drop]; omega) | (simp only [List.length_cons, List.length_nil, List.length_map, List.length_append, List.length_replicate, Nat.reduceAdd, true_and, and_true, and_self]; first | done | omega)) only [go_sem, ↓reduceIte, Nat.reduceEqDiff, Nat.reduceAdd, Nat.reduceSub, Nat.reduceMul, Nat.reduceBEq, Nat.reduceLT, Nat.reduceLeDiff, Nat.reduceMod, Nat.reducePow, List.reduceReplicate, UInt8.reduceOfNat, Int.reducePow, Int.reduceDiv, Int.reduceMod, Nat.reduceDiv, Int.reduceNeg, Int.reduceAdd, Int.reduceSub, Int.reduceMul, Int.reduceLE, Int.reduceLT, Int.reduceEq, Int.reduceToNat, reduceCtorEq, -List.reduceReplicate]
              unfold UpdR
              refine Upd.leave (H' := [(x9, .cells ((bodyL d ++ beB 4 (sumL (bodyL d))).map byteV) sp9 5)] ++ H) (by intro fsum; simp only [List.map_append, List.map_cons, List.map_nil, List.sum_append, List.sum_cons, List.sum_nil, List.cons_append, List.nil_append]; omega) ?_
              exact fun _ hs => hR _ _ hbf9 hs
end Go.Proofs.Ytomdbjfdbkejoaa
