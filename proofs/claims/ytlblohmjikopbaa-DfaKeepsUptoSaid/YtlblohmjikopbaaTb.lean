/- Where a machine goes on from a state. -/
import Derived.Test.YtlblohmjikopbaaSl
set_option linter.unusedSimpArgs false
set_option linter.unusedVariables false
namespace Go.Proofs.Ytlblohmjikopbaa
open Go Go.V Go.Proofs

/-- where a machine goes on -/
def toD (d : DfaT) (s : Int) (c : Nat) : Int := atL (d.next.getD s.toNat []) (d.of.getD c 0)
theorem of_bound {d : DfaT} (hok : RightP d) {x : Int} (hx : x ∈ d.of) : 0 ≤ x ∧ x < d.width := by
  obtain ⟨hk1, hk2, hk3, hk4, hk5, hk6, hk7⟩ := hok
  rw [← hk4] at hx
  have := nums_bound hx
  omega
/-- what is known of a step -/
theorem to_facts {d : DfaT} (hok : RightP d) {C : List Value} {an al ay : Option Addr} {cn cl cs : Nat} {rs : List Value} {G : PHeap} (O : OpenD G d C an al ay cn cl cs rs) {t c : Nat} (ht : t < d.label.length) (hc : c < 256) :
    ∃ (y : Nat) (z : Int) (b : Option Addr) (cc : Nat) (htn : t < d.next.length) (htv : t < rs.length) (hyk : y < d.next[t].length), y < 256 ∧ C[c]? = some (.int .u8 y) ∧ rs[t] = .slice b d.next[t].length cc ∧ Row G b (d.next[t].map (Value.int .i64)) ∧ d.next[t].length ≤ cc ∧ d.next[t][y] = z ∧ toD d (t : Nat) c = z ∧ 0 ≤ z ∧ z < d.label.length ∧ Adr an ∧ Adr b := by
  obtain ⟨hk1, hk2, hk3, hk4, hk5, hk6, hk7⟩ := id hok
  have htn : t < d.next.length := by omega
  have htv : t < rs.length := by have := O.rnl; omega
  obtain ⟨b, cc, e1, e2, e3⟩ := O.rs t htn htv
  obtain ⟨hw0, _, _, hrng⟩ := hk7 t htn ht
  have hco : c < d.of.length := by rw [O.ofl]; exact hc
  have hox := of_bound hok (List.getElem_mem hco)
  have hob := O.ofb _ (List.getElem_mem hco)
  obtain ⟨y, hy⟩ := Int.eq_ofNat_of_zero_le hox.1
  have hyk : y < (d.next[t]).length := by omega
  have hCc : C[c]? = some (.int .u8 d.of[c]) := by
    have h1 : (C.take 256)[c]? = C[c]? := by rw [List.getElem?_take, if_pos hc]
    rw [← h1, O.of]
    unfold u8L
    rw [List.getElem?_map, List.getElem?_eq_getElem hco]; rfl
  rw [hy] at hCc
  have hval : toD d (t : Nat) c = (d.next[t])[y] := by
    unfold toD
    rw [Int.toNat_natCast, List.getD_eq_getElem?_getD, List.getElem?_eq_getElem htn, List.getD_eq_getElem?_getD, List.getElem?_eq_getElem hco]
    show atL d.next[t] d.of[c] = _
    rw [hy, atL_get (by simpa using hyk)]
    simp only [Int.toNat_natCast]
  have hz := hrng _ (List.getElem_mem hyk)
  exact ⟨y, d.next[t][y], b, cc, htn, htv, hyk, by omega, hCc, e1, e2, e3, rfl, hval, hz.1, hz.2, O.rn.adr (by omega), e2.adr (by rw [List.length_map]; omega)⟩
set_option maxHeartbeats 8000000 in
theorem to_t {d : DfaT} (hsm : SmallD d) (hok : RightP d) {s : Int} (hs : 0 ≤ s ∧ s < d.label.length) {c : Nat} (hc : c < 256) {G : PHeap} {H : Heap} {R : Value → PHeap → Heap → Prop} {v : Value} (hv : IsD G d v)
    (hR : R (.int .i64 (toD d s c)) G H) : FnT Try.prog 17 [v, .int .i64 s, .int .u8 (c : Nat)] G H R := by
  obtain ⟨C, an, al, ay, cn, cl, cs, rs, rfl, O⟩ := hv.opened
  have hCl := O.len
  have hCa := O.all
  have hCx := O.l
  have hCn := O.n
  have hk2 := hok.2.1
  have hb := boolOf_yes hok
  obtain ⟨t, rfl⟩ := Int.eq_ofNat_of_zero_le hs.1
  obtain ⟨y, z, b, cc, htn, htv, hyk, hyb, hCc, e1, e2, e3, hz, hval, hz0, hz1, had, had2⟩ := to_facts hok O (t := t) (by omega) hc
  have hrnl := O.rnl
  have hrl := hsm.2.1 _ (List.getElem_mem htn)
  refine FnT.body tok [0, 1, 2, 3, 6, 20] Try.func17 rfl (by kernel_rfl) (by kernel_rfl) (by show _ ≤ 32; simp) fun hsep => ?_
  rw [Try.results17]
  have hsE := hsep
  try simp only [keys_cons, keys_app, keys_nil, Sep_cons, Sep_nil, NotIn_cons, NotIn_app, NotIn_nil, List.cons_append, List.nil_append, List.append_assoc, and_assoc, and_true, true_and] at hsE
  repeat (obtain ⟨hsx, hsE⟩ := hsE)
  repeat' first
    | with_reducible refine Br.yes ?_
    | with_reducible refine Br.no ?_
    | with_reducible refine Br.dec (fun _ => ?_) (fun _ => ?_)
    | with_reducible refine Br.beqB (fun _ => ?_) (fun _ => ?_)
    | with_reducible refine Br.beqb (fun _ => ?_) (fun _ => ?_)
    | with_reducible refine Br.mk (fun _ => ?_) (fun _ => ?_)
    | with_reducible refine foundO.mk (fun _ _ => ?_) (fun _ => ?_)
    | with_reducible refine appV.zero ?_
    | with_reducible refine appV.own ?_
    | ((with_reducible refine NewB.mk fun nb hnb => ?_); have hnb1 := hnb.1.1; have hnb2 := hnb.1.2; try simp only [keys_cons, keys_app, keys_nil, NotIn_cons, NotIn_app, NotIn_nil, and_true] at hnb2)
    | ((with_reducible refine NewRow.mk fun nb nsp ncap hnb hncap => ?_); have hnb1 := hnb.1.1; have hnb2 := hnb.1.2; try simp only [keys_cons, keys_app, keys_nil, NotIn_cons, NotIn_app, NotIn_nil, and_true] at hnb2)
    | with_reducible refine Tri.drawM tok mixed [0, 1, 2, 3, 6, 20] 3 [1, 4, 8, 10] (.op 0 .plain (.op 1 .held (.op 2 .plain (.op 3 .plain (.op 4 .held (.op 5 .plain (.op 6 .plain (.op 7 .plain (.op 8 .held (.op 9 .plain (.op 10 .held (.op 11 .plain .nil)))))))))))) (by kernel_rfl) _ (List.Sublist.refl _) ?_
    | simp (dsimp := false) (implicitDefEqProofs := false) (disch := first | assumption | (simp only [List.mem_cons, List.mem_append, true_or, or_true, eq_self]; done) | omega | (with_reducible refine Row.adr (by assumption) ?_; simp only [List.length_map, List.length_take, List.length_drop]; omega) | (simp only [List.length_cons, List.length_nil, List.length_map, List.length_append, List.length_replicate, Nat.reduceAdd, true_and, and_true, and_self]; first | done | omega)) only [go_sem, ↓reduceIte, Nat.reduceEqDiff, Nat.reduceAdd, Nat.reduceSub, Nat.reduceMul, Nat.reduceBEq, Nat.reduceLT, Nat.reduceLeDiff, Nat.reduceMod, Nat.reducePow, List.reduceReplicate, UInt8.reduceOfNat, Int.reducePow, Int.reduceDiv, Int.reduceMod, Nat.reduceDiv, Int.reduceNeg, Int.reduceAdd, Int.reduceSub, Int.reduceMul, Int.reduceLE, Int.reduceLT, Int.reduceEq, Int.reduceToNat, reduceCtorEq, -List.reduceReplicate, List.toList_toArray, hCl, hCa, hCx, hCn, hCc, hb, Row.obj O.rn, e1, Row.obj e2, List.getElem_map, hz]
    | with_reducible refine right_t hsm O.is ?_
  all_goals try (exfalso; omega)
  all_goals rw [hval] at hR
  all_goals refine Upd.finL ?_ hR ?_
  any_goals (intro fsum; first | exact Nat.le_refl _ | (simp only [List.map_append, List.map_cons, List.map_nil, List.sum_append, List.sum_cons, List.sum_nil, List.cons_append, List.nil_append]; omega))
  all_goals rfl
/-- of any machine, from any number -/
noncomputable def toB (d : DfaT) (s : Int) (c : Nat) : Int := if boolOf (RightP d) = true ∧ 0 ≤ s ∧ s < d.label.length then toD d s c else -1
theorem toB_no {d : DfaT} {s : Int} {c : Nat} (h : ¬ (RightP d ∧ 0 ≤ s ∧ s < d.label.length)) : toB d s c = -1 := by
  unfold toB; rw [if_neg fun h2 => h ⟨boolOf_iff.1 h2.1, h2.2⟩]
theorem toB_yes {d : DfaT} {s : Int} {c : Nat} (h1 : RightP d) (h2 : 0 ≤ s ∧ s < d.label.length) : toB d s c = toD d s c := by
  unfold toB; rw [if_pos ⟨boolOf_yes h1, h2⟩]
theorem toB_t {d : DfaT} (hsm : SmallD d) {s : Int} {c : Nat} (hc : c < 256) {G : PHeap} {H : Heap} {R : Value → PHeap → Heap → Prop} {v : Value} (hv : IsD G d v)
    (hR : R (.int .i64 (toB d s c)) G H) : FnT Try.prog 17 [v, .int .i64 s, .int .u8 (c : Nat)] G H R := by
  by_cases h : RightP d ∧ 0 ≤ s ∧ s < d.label.length
  · rw [toB_yes h.1 h.2] at hR
    exact to_t hsm h.1 h.2 hc hv hR
  · rw [toB_no h] at hR
    obtain ⟨C, an, al, ay, cn, cl, cs, rs, rfl, O⟩ := hv.opened
    have hCl := O.len
    have hCa := O.all
    have hCx := O.l
    by_cases hok : RightP d
    · have hb := boolOf_yes hok
      have hs : ¬ (0 ≤ s ∧ s < d.label.length) := fun h2 => h ⟨hok, h2⟩
      refine FnT.body tok [0, 1, 2, 3, 6, 20] Try.func17 rfl (by kernel_rfl) (by kernel_rfl) (by show _ ≤ 32; simp) fun hsep => ?_
      rw [Try.results17]
      have hsE := hsep
      try simp only [keys_cons, keys_app, keys_nil, Sep_cons, Sep_nil, NotIn_cons, NotIn_app, NotIn_nil, List.cons_append, List.nil_append, List.append_assoc, and_assoc, and_true, true_and] at hsE
      repeat (obtain ⟨hsx, hsE⟩ := hsE)
      repeat' first
        | with_reducible refine Br.yes ?_
        | with_reducible refine Br.no ?_
        | with_reducible refine Br.dec (fun _ => ?_) (fun _ => ?_)
        | with_reducible refine Br.beqB (fun _ => ?_) (fun _ => ?_)
        | with_reducible refine Br.beqb (fun _ => ?_) (fun _ => ?_)
        | with_reducible refine Br.mk (fun _ => ?_) (fun _ => ?_)
        | with_reducible refine foundO.mk (fun _ _ => ?_) (fun _ => ?_)
        | with_reducible refine appV.zero ?_
        | with_reducible refine appV.own ?_
        | ((with_reducible refine NewB.mk fun nb hnb => ?_); have hnb1 := hnb.1.1; have hnb2 := hnb.1.2; try simp only [keys_cons, keys_app, keys_nil, NotIn_cons, NotIn_app, NotIn_nil, and_true] at hnb2)
        | ((with_reducible refine NewRow.mk fun nb nsp ncap hnb hncap => ?_); have hnb1 := hnb.1.1; have hnb2 := hnb.1.2; try simp only [keys_cons, keys_app, keys_nil, NotIn_cons, NotIn_app, NotIn_nil, and_true] at hnb2)
        | simp (dsimp := false) (implicitDefEqProofs := false) (disch := first | assumption | (simp only [List.mem_cons, List.mem_append, true_or, or_true, eq_self]; done) | omega | (with_reducible refine Row.adr (by assumption) ?_; simp only [List.length_map, List.length_take, List.length_drop]; omega) | (simp only [List.length_cons, List.length_nil, List.length_map, List.length_append, List.length_replicate, Nat.reduceAdd, true_and, and_true, and_self]; first | done | omega)) only [go_sem, ↓reduceIte, Nat.reduceEqDiff, Nat.reduceAdd, Nat.reduceSub, Nat.reduceMul, Nat.reduceBEq, Nat.reduceLT, Nat.reduceLeDiff, Nat.reduceMod, Nat.reducePow, List.reduceReplicate, UInt8.reduceOfNat, Int.reducePow, Int.reduceDiv, Int.reduceMod, Nat.reduceDiv, Int.reduceNeg, Int.reduceAdd, Int.reduceSub, Int.reduceMul, Int.reduceLE, Int.reduceLT, Int.reduceEq, Int.reduceToNat, reduceCtorEq, -List.reduceReplicate, List.toList_toArray, hCl, hCa, hCx, hb]
        | with_reducible refine right_t hsm O.is ?_
      all_goals try (exfalso; omega)
      all_goals refine Upd.finL ?_ hR ?_
      any_goals (intro fsum; first | exact Nat.le_refl _ | (simp only [List.map_append, List.map_cons, List.map_nil, List.sum_append, List.sum_cons, List.sum_nil, List.cons_append, List.nil_append]; omega))
      all_goals rfl
    · have hb := boolOf_no hok
      refine FnT.body tok [0, 1, 2, 3, 6, 20] Try.func17 rfl (by kernel_rfl) (by kernel_rfl) (by show _ ≤ 32; simp) fun hsep => ?_
      rw [Try.results17]
      have hsE := hsep
      try simp only [keys_cons, keys_app, keys_nil, Sep_cons, Sep_nil, NotIn_cons, NotIn_app, NotIn_nil, List.cons_append, List.nil_append, List.append_assoc, and_assoc, and_true, true_and] at hsE
      repeat (obtain ⟨hsx, hsE⟩ := hsE)
      repeat' first
        | with_reducible refine Br.yes ?_
        | with_reducible refine Br.no ?_
        | with_reducible refine Br.dec (fun _ => ?_) (fun _ => ?_)
        | with_reducible refine Br.beqB (fun _ => ?_) (fun _ => ?_)
        | with_reducible refine Br.beqb (fun _ => ?_) (fun _ => ?_)
        | with_reducible refine Br.mk (fun _ => ?_) (fun _ => ?_)
        | with_reducible refine foundO.mk (fun _ _ => ?_) (fun _ => ?_)
        | with_reducible refine appV.zero ?_
        | with_reducible refine appV.own ?_
        | ((with_reducible refine NewB.mk fun nb hnb => ?_); have hnb1 := hnb.1.1; have hnb2 := hnb.1.2; try simp only [keys_cons, keys_app, keys_nil, NotIn_cons, NotIn_app, NotIn_nil, and_true] at hnb2)
        | ((with_reducible refine NewRow.mk fun nb nsp ncap hnb hncap => ?_); have hnb1 := hnb.1.1; have hnb2 := hnb.1.2; try simp only [keys_cons, keys_app, keys_nil, NotIn_cons, NotIn_app, NotIn_nil, and_true] at hnb2)
        | simp (dsimp := false) (implicitDefEqProofs := false) (disch := first | assumption | (simp only [List.mem_cons, List.mem_append, true_or, or_true, eq_self]; done) | omega | (with_reducible refine Row.adr (by assumption) ?_; simp only [List.length_map, List.length_take, List.length_drop]; omega) | (simp only [List.length_cons, List.length_nil, List.length_map, List.length_append, List.length_replicate, Nat.reduceAdd, true_and, and_true, and_self]; first | done | omega)) only [go_sem, ↓reduceIte, Nat.reduceEqDiff, Nat.reduceAdd, Nat.reduceSub, Nat.reduceMul, Nat.reduceBEq, Nat.reduceLT, Nat.reduceLeDiff, Nat.reduceMod, Nat.reducePow, List.reduceReplicate, UInt8.reduceOfNat, Int.reducePow, Int.reduceDiv, Int.reduceMod, Nat.reduceDiv, Int.reduceNeg, Int.reduceAdd, Int.reduceSub, Int.reduceMul, Int.reduceLE, Int.reduceLT, Int.reduceEq, Int.reduceToNat, reduceCtorEq, -List.reduceReplicate, List.toList_toArray, hCl, hCa, hCx, hb]
        | with_reducible refine right_t hsm O.is ?_
      all_goals refine Upd.finL ?_ hR ?_
      any_goals (intro fsum; first | exact Nat.le_refl _ | (simp only [List.map_append, List.map_cons, List.map_nil, List.sum_append, List.sum_cons, List.sum_nil, List.cons_append, List.nil_append]; omega))
      all_goals rfl
end Go.Proofs.Ytlblohmjikopbaa
