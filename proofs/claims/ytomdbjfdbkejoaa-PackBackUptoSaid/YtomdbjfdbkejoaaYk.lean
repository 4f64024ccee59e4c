/- Machines as bytes: what is read of any bytes; the comparison of bytes. -/
import Derived.Test.YtomdbjfdbkejoaaYj
set_option linter.unusedSimpArgs false
set_option linter.unusedVariables false
namespace Go.Proofs.Ytomdbjfdbkejoaa
open Go Go.V Go.Proofs

def Fit (d : DfaT) : Prop := RightP d ∧ d.of.length = 256 ∧ ∀ x ∈ d.of, 0 ≤ x ∧ x ≤ 255
theorem bodyL_front (d : DfaT) : bodyL d = frontL ++ (bodyL d).drop 4 := by
  unfold bodyL
  simp only [List.append_assoc]
  rw [show (4 : Nat) = frontL.length from rfl, List.drop_left]
theorem bodyL_pos (d : DfaT) : 8 ≤ (layL d).length ∧ (layL d).take 4 = frontL ∧ (layL d).take ((layL d).length - 4) = bodyL d ∧ (layL d).drop ((layL d).length - 4) = beB 4 (sumL (bodyL d)) := by
  have h1 := bodyL_front d
  have hl : (layL d).length = (bodyL d).length + 4 := by unfold layL; rw [List.length_append, beB_len]
  have hb : (bodyL d).length = 4 + ((bodyL d).drop 4).length := by
    have := congrArg List.length h1
    rw [List.length_append] at this
    exact this
  refine ⟨by omega, ?_, ?_, ?_⟩
  · unfold layL
    rw [h1, List.append_assoc, show (4 : Nat) = frontL.length from rfl, List.take_left]
  · rw [hl, Nat.add_sub_cancel]; unfold layL; rw [List.take_left]
  · rw [hl, Nat.add_sub_cancel]; unfold layL; rw [List.drop_left]
theorem lay_dec {d : DfaT} (h : Fit d) : machD (false, ((layL d).take ((layL d).length - 4)).drop 4) = d ∧ (machRest (false, ((layL d).take ((layL d).length - 4)).drop 4)).s = (false, []) := by
  have := mach_dec h.1 h.2.1 h.2.2 []
  rw [List.append_nil] at this
  rw [(bodyL_pos d).2.2.1]
  exact this
theorem machD_fit {s : Rdr} (h : RightP (machD s)) : Fit (machD s) := by
  refine ⟨h, ofF_len _, fun x hx => ?_⟩
  have hx : x ∈ ofF (clsP (namesP s).2).f := hx
  unfold ofF at hx
  obtain ⟨k, _, rfl⟩ := List.mem_map.1 hx
  exact (clsP_w (namesP s).2).2 k
theorem lay_inj {d e : DfaT} (hd : Fit d) (he : Fit e) (h : layL d = layL e) : d = e := by
  have h1 := (lay_dec hd).1
  have h2 := (lay_dec he).1
  rw [h] at h1
  exact h1.symm.trans h2
def frontOk (b : List UInt8) : Prop := 8 ≤ b.length ∧ b.take 4 = frontL
def sumOk (b : List UInt8) : Prop := beV (b.drop (b.length - 4)) = sumL (b.take (b.length - 4))
def isLay (b : List UInt8) : Prop := ∃ d, Fit d ∧ layL d = b
/-- what is read -/
noncomputable def readR (b : List UInt8) : DfaT × Int :=
  haveI := Classical.propDecidable
  if frontOk b then if sumOk b then if h : isLay b then (Classical.choose h, 0) else (zeroD, 3) else (zeroD, 19) else (zeroD, 3)
theorem readR_front {b : List UInt8} (h : ¬ frontOk b) : readR b = (zeroD, 3) := by unfold readR; rw [if_neg h]
theorem readR_sum {b : List UInt8} (h : frontOk b) (h2 : ¬ sumOk b) : readR b = (zeroD, 19) := by unfold readR; rw [if_pos h, if_neg h2]
theorem readR_no {b : List UInt8} (h : frontOk b) (h2 : sumOk b) (h3 : ¬ isLay b) : readR b = (zeroD, 3) := by unfold readR; rw [if_pos h, if_pos h2, dif_neg h3]
theorem isLay_ok {d : DfaT} (hd : Fit d) : frontOk (layL d) ∧ sumOk (layL d) := by
  obtain ⟨h1, h2, h3, h4⟩ := bodyL_pos d
  refine ⟨⟨h1, h2⟩, ?_⟩
  unfold sumOk
  rw [h3, h4, beV_four (sumL_lt _)]
theorem readR_yes {d : DfaT} (hd : Fit d) : readR (layL d) = (d, 0) := by
  obtain ⟨h1, h2⟩ := isLay_ok hd
  have h3 : isLay (layL d) := ⟨d, hd, rfl⟩
  unfold readR
  rw [if_pos h1, if_pos h2, dif_pos h3]
  obtain ⟨h4, h5⟩ := Classical.choose_spec h3
  rw [lay_inj h4 hd h5]
theorem readR_cases (b : List UInt8) : (∃ d, Fit d ∧ b = layL d ∧ readR b = (d, 0)) ∨ readR b = (zeroD, 3) ∨ readR b = (zeroD, 19) := by
  by_cases h1 : frontOk b
  · by_cases h2 : sumOk b
    · by_cases h3 : isLay b
      · obtain ⟨d, hd, e⟩ := h3
        exact .inl ⟨d, hd, e.symm, by rw [← e]; exact readR_yes hd⟩
      · exact .inr (.inl (readR_no h1 h2 h3))
    · exact .inr (.inr (readR_sum h1 h2))
  · exact .inr (.inl (readR_front h1))
theorem equalb_t (xs ys : List UInt8) (hlen : xs.length ≤ 200000000) {G : PHeap} {H : Heap} {R : Value → PHeap → Heap → Prop} {v w : Value} (hv : Sl G byteV v xs) (hw : Sl G byteV w ys) (hR : R (.bool (decide (xs = ys))) G H) : FnT Try.prog 16 [v, w] G H R := by
  obtain ⟨a, cap, rfl, hrow, hcap⟩ := hv
  obtain ⟨a', cap', rfl, hrow', hcap'⟩ := hw
  refine FnT.body tok [0, 1, 4, 5, 10, 12, 13, 14, 24] Try.func16 rfl (by kernel_rfl) (by kernel_rfl) (by show _ ≤ 26; simp) fun hsep => ?_
  rw [Try.results16]
  have hsE := hsep
  try simp only [keys_cons, keys_app, keys_nil, Sep_cons, Sep_nil, NotIn_cons, NotIn_app, NotIn_nil, List.cons_append, List.nil_append, List.append_assoc, and_assoc, and_true, true_and] at hsE
  repeat (obtain ⟨hsx, hsE⟩ := hsE)
  repeat' first
    | with_reducible refine Br.yes ?_
    | with_reducible refine Br.no ?_
    | with_reducible refine Br.dec (fun _ => ?_) (fun _ => ?_)
    | with_reducible refine Br.beqB (fun _ => ?_) (fun _ => ?_)
    | with_reducible refine Br.beqb (fun _ => ?_) (fun _ => ?_)
    | with_reducible refine Br.mk (fun _ => ?_) (fun _ => ?_)
    | with_reducible refine foundO.mk (fun _ _ => ?_) (fun _ => ?_)
    | with_reducible refine appV.zero ?_
    | with_reducible refine appV.own ?_
    | ((with_reducible refine NewB.mk fun nb hnb => ?_); have hnb1 := hnb.1.1; have hnb2 := hnb.1.2; try simp only [keys_cons, keys_app, keys_nil, NotIn_cons, NotIn_app, NotIn_nil, and_true] at hnb2)
    | ((with_reducible refine NewRow.mk fun nb nsp ncap hnb hncap => ?_); have hnb1 := hnb.1.1; have hnb2 := hnb.1.2; try simp only [keys_cons, keys_app, keys_nil, NotIn_cons, NotIn_app, NotIn_nil, and_true] at hnb2)
    | simp (dsimp := false) (implicitDefEqProofs := false) (disch := first | assumption | (simp only [List.mem_cons, List.mem_append, true_or, or_true, eq_self]; done) | omega | (with_reducible refine Row.adr (by assumption) ?_; simp only [List.length_map, List.length_take, List.length_drop]; omega) | (simp only [List.length_cons, List.length_nil, List.length_map, List.length_append, List.length_replicate, Nat.reduceAdd, true_and, and_true, and_self]; first | done | omega)) only [go_sem, ↓reduceIte, Nat.reduceEqDiff, Nat.reduceAdd, Nat.reduceSub, Nat.reduceMul, Nat.reduceBEq, Nat.reduceLT, Nat.reduceLeDiff, Nat.reduceMod, Nat.reducePow, List.reduceReplicate, UInt8.reduceOfNat, Int.reducePow, Int.reduceDiv, Int.reduceMod, Nat.reduceDiv, Int.reduceNeg, Int.reduceAdd, Int.reduceSub, Int.reduceMul, Int.reduceLE, Int.reduceLT, Int.reduceEq, Int.reduceToNat, reduceCtorEq]
  · rename_i hne
    have hxy : xs.length = ys.length := by omega
    refine Tri.loopU tok [0, 1, 4, 5, 10, 12, 13, 14, 24] (by kernel_rfl) [0, 1, 4, 12, 13] (fun n G' l H' => ∃ i : Nat, i + n = xs.length ∧ (∀ j (h : j < xs.length), j < i → xs[j] = ys[j]) ∧ G' = G ∧ H' = H ∧ l = [(0, .slice a xs.length cap), (1, .slice a' ys.length cap'), (4, .bool false), (12, .int .i64 xs.length), (13, .int .i64 i)]) (xs.length) (Upd.now ?_) ?_
    · exact ⟨0, by omega, fun j _ h => by omega, rfl, rfl, rfl⟩
    · rintro n G' l H' hle hs ⟨i, hi, hno, rfl, rfl, rfl⟩
      by_cases hil : i < xs.length
      · have hil' : i < ys.length := by omega
        have had : Adr a := hrow.adr (by rw [List.length_map]; omega)
        have had' : Adr a' := hrow'.adr (by rw [List.length_map]; omega)
        repeat' first
          | with_reducible refine Br.yes ?_
          | with_reducible refine Br.no ?_
          | with_reducible refine Br.dec (fun _ => ?_) (fun _ => ?_)
          | with_reducible refine Br.beqB (fun _ => ?_) (fun _ => ?_)
          | with_reducible refine Br.beqb (fun _ => ?_) (fun _ => ?_)
          | with_reducible refine Br.mk (fun _ => ?_) (fun _ => ?_)
          | with_reducible refine foundO.mk (fun _ _ => ?_) (fun _ => ?_)
          | with_reducible refine appV.zero ?_
          | with_reducible refine appV.own ?_
          | ((with_reducible refine NewB.mk fun nb hnb => ?_); have hnb1 := hnb.1.1; have hnb2 := hnb.1.2; try simp only [keys_cons, keys_app, keys_nil, NotIn_cons, NotIn_app, NotIn_nil, and_true] at hnb2)
          | ((with_reducible refine NewRow.mk fun nb nsp ncap hnb hncap => ?_); have hnb1 := hnb.1.1; have hnb2 := hnb.1.2; try simp only [keys_cons, keys_app, keys_nil, NotIn_cons, NotIn_app, NotIn_nil, and_true] at hnb2)
          | with_reducible refine Tri.drawH tok mixed [0, 1, 4, 5, 10, 12, 13, 14, 24] 6 [3, 7] (.op 0 .plain (.op 1 .plain (.op 2 .plain (.op 3 .held (.op 4 .plain (.op 5 .plain (.op 6 .plain (.op 7 .held (.op 8 .plain .nil))))))))) (by kernel_rfl) [0, 1] ?_
          | simp (dsimp := false) (implicitDefEqProofs := false) (disch := first | assumption | (simp only [List.mem_cons, List.mem_append, true_or, or_true, eq_self]; done) | omega | (with_reducible refine Row.adr (by assumption) ?_; simp only [List.length_map, List.length_take, List.length_drop]; omega) | (simp only [List.length_cons, List.length_nil, List.length_map, List.length_append, List.length_replicate, Nat.reduceAdd, true_and, and_true, and_self]; first | done | omega)) only [go_sem, ↓reduceIte, Nat.reduceEqDiff, Nat.reduceAdd, Nat.reduceSub, Nat.reduceMul, Nat.reduceBEq, Nat.reduceLT, Nat.reduceLeDiff, Nat.reduceMod, Nat.reducePow, List.reduceReplicate, UInt8.reduceOfNat, Int.reducePow, Int.reduceDiv, Int.reduceMod, Nat.reduceDiv, Int.reduceNeg, Int.reduceAdd, Int.reduceSub, Int.reduceMul, Int.reduceLE, Int.reduceLT, Int.reduceEq, Int.reduceToNat, reduceCtorEq, Row.obj hrow, Row.obj hrow', List.getElem_map, byteV]
        · rename_i he
          exact Upd.now ⟨n - 1, by omega, i + 1, by omega, fun j h hj => by
            by_cases e : j = i
            · subst e; exact UInt8.toNat_inj.1 (by omega)
            · exact hno j h (by omega), rfl, rfl, rfl⟩
        · rename_i he
          rw [decide_eq_false (fun e => he (by subst e; rfl))] at hR
          all_goals refine Upd.finL ?_ hR ?_
          any_goals (intro fsum; first | exact Nat.le_refl _ | (simp only [List.map_append, List.map_cons, List.map_nil, List.sum_append, List.sum_cons, List.sum_nil, List.cons_append, List.nil_append]; omega))
          rfl
      · obtain rfl : i = xs.length := by omega
        rw [decide_eq_true (List.ext_getElem hxy fun j h1 h2 => hno j h1 h1)] at hR
        repeat' first
          | with_reducible refine Br.yes ?_
          | with_reducible refine Br.no ?_
          | with_reducible refine Br.dec (fun _ => ?_) (fun _ => ?_)
          | with_reducible refine Br.beqB (fun _ => ?_) (fun _ => ?_)
          | with_reducible refine Br.beqb (fun _ => ?_) (fun _ => ?_)
          | with_reducible refine Br.mk (fun _ => ?_) (fun _ => ?_)
          | with_reducible refine foundO.mk (fun _ _ => ?_) (fun _ => ?_)
          | with_reducible refine appV.zero ?_
          | with_reducible refine appV.own ?_
          | ((with_reducible refine NewB.mk fun nb hnb => ?_); have hnb1 := hnb.1.1; have hnb2 := hnb.1.2; try simp only [keys_cons, keys_app, keys_nil, NotIn_cons, NotIn_app, NotIn_nil, and_true] at hnb2)
          | ((with_reducible refine NewRow.mk fun nb nsp ncap hnb hncap => ?_); have hnb1 := hnb.1.1; have hnb2 := hnb.1.2; try simp only [keys_cons, keys_app, keys_nil, NotIn_cons, NotIn_app, NotIn_nil, and_true] at hnb2)
          | simp (dsimp := false) (implicitDefEqProofs := false) (disch := first | assumption | (simp only [List.mem_cons, List.mem_append, true_or, or_true, eq_self]; done) | omega | (with_reducible refine Row.adr (by assumption) ?_; simp only [List.length_map, List.length_take, List.length_drop]; omega) | (simp only [List.length_cons, List.length_nil, List.length_map, List.length_append, List.length_replicate, Nat.reduceAdd, true_and, and_true, and_self]; first | done | omega)) only [go_sem, ↓reduceIte, Nat.reduceEqDiff, Nat.reduceAdd, Nat.reduceSub, Nat.reduceMul, Nat.reduceBEq, Nat.reduceLT, Nat.reduceLeDiff, Nat.reduceMod, Nat.reducePow, List.reduceReplicate, UInt8.reduceOfNat, Int.reducePow, Int.reduceDiv, Int.reduceMod, Nat.reduceDiv, Int.reduceNeg, Int.reduceAdd, Int.reduceSub, Int.reduceMul, Int.reduceLE, Int.reduceLT, Int.reduceEq, Int.reduceToNat, reduceCtorEq]
        all_goals refine Upd.finL ?_ hR ?_
        any_goals (intro fsum; first | exact Nat.le_refl _ | (simp only [List.map_append, List.map_cons, List.map_nil, List.sum_append, List.sum_cons, List.sum_nil, List.cons_append, List.nil_append]; omega))
        rfl
  · rename_i hne
    rw [decide_eq_false (fun e => hne (by subst e; rfl))] at hR
    all_goals refine Upd.finL ?_ hR ?_
    any_goals (intro fsum; first | exact Nat.le_refl _ | (simp only [List.map_append, List.map_cons, List.map_nil, List.sum_append, List.sum_cons, List.sum_nil, List.cons_append, List.nil_append]; omega))
    rfl
end Go.Proofs.Ytomdbjfdbkejoaa
