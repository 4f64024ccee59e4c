/- Law 22: LabelTells' walk. -/
import Derived.Test.YtpagkndgjihbbaaVn
import Derived.Test.YtpagkndgjihbbaaVj
import Derived.Test.YtpagkndgjihbbaaFa
set_option linter.unusedSimpArgs false
set_option linter.unusedVariables false
namespace Go.Proofs.Ytpagkndgjihbbaa
open Go Go.V Go.Proofs

theorem calleeUnion22 : V.Callee Try.prog 10 := ⟨_, _, Try.func10, rfl, by kernel_rfl⟩
theorem str_eq (a b : Tx) : (str a = str b) ↔ a = b := by
  constructor
  · intro h
    simpa using h
  · intro h; rw [h]
set_option maxHeartbeats 32000000 in
theorem t8_t {d : DfaT} (hsm : SmallD d) {w : List UInt8} (hwl : w.length ≤ 2000000) {G : PHeap} {H : Heap} {R : Value → PHeap → Heap → Prop} {C : List Value} {an al ay : Option Addr} {cn cl cs : Nat} {rs : List Value} (O : OpenD G d C an al ay cn cl cs rs) {aw : Option Addr} {cw : Nat} (hw : Sl G byteV (.slice aw w.length cw) w) (hok : RightP d) {b1 : Nat}
    (hR : ∀ G', PLe G G' → R (.bool true) G' H) :
    Tri Try.prog Try.f6.ntmps (piece [1, 1, 1, 1, 1, 1, 1, 1] Try.f6) G [(1, .slice aw w.length cw), (3, .pointer (some ⟨b1, 0, none⟩)), (6, .bool false), (7, str (nameD d (tellB d w)))] ((b1, .cells C [] 27) :: H) (endK T #[Go.ResultVar.tmp 6].toList (UpdR R) .mk) := by
  have hCl := O.len
  have hCa := O.all
  refine Tri.sepT fun hs0 => ?_
  have hsE := hs0
  try simp only [keys_cons, keys_app, keys_nil, Sep_cons, Sep_nil, NotIn_cons, NotIn_app, NotIn_nil, List.cons_append, List.nil_append, List.append_assoc, and_assoc, and_true, true_and] at hsE
  repeat (obtain ⟨hsx, hsE⟩ := hsE)
  by_cases hbig : ¬ d.label.headD 0 = 0 ∧ d.label.length = 65536
  · have he := plusR_big hok hbig.1 hbig.2
    refine Tri.piece (f := Try.f6) rfl ?_
    refine Tri.run tok [0, 1, 2, 3, 6, 7, 8, 9, 10, 11, 12, 13, 14, 15, 18, 78, 102, 109, 117] (by kernel_rfl) ?_
    repeat' first
      | with_reducible refine Br.yes ?_
      | with_reducible refine Br.no ?_
      | with_reducible refine Br.dec (fun _ => ?_) (fun _ => ?_)
      | with_reducible refine Br.beqB (fun _ => ?_) (fun _ => ?_)
      | with_reducible refine Br.beqb (fun _ => ?_) (fun _ => ?_)
      | with_reducible refine Br.mk (fun _ => ?_) (fun _ => ?_)
      | with_reducible refine foundO.mk (fun _ _ => ?_) (fun _ => ?_)
      | with_reducible refine appV.zero ?_
      | with_reducible refine appV.own ?_
      | ((with_reducible refine NewB.mk fun nb hnb => ?_); have hnb1 := hnb.1.1; have hnb2 := hnb.1.2; try simp only [keys_cons, keys_app, keys_nil, NotIn_cons, NotIn_app, NotIn_nil, and_true] at hnb2)
      | ((with_reducible refine NewRow.mk fun nb nsp ncap hnb hncap => ?_); have hnb1 := hnb.1.1; have hnb2 := hnb.1.2; try simp only [keys_cons, keys_app, keys_nil, NotIn_cons, NotIn_app, NotIn_nil, and_true] at hnb2)
      | simp (dsimp := false) (implicitDefEqProofs := false) (disch := first | assumption | (simp only [List.mem_cons, List.mem_append, true_or, or_true, eq_self]; done) | omega | (with_reducible refine Row.adr (by assumption) ?_; simp only [List.length_map, List.length_take, List.length_drop]; omega) | (simp only [List.length_cons, List.length_nil, List.length_map, List.length_append, List.length_replicate, Nat.reduceAdd, true_and, and_true, and_self]; first | done | omega)) only [go_sem, ↓reduceIte, Nat.reduceEqDiff, Nat.reduceAdd, Nat.reduceSub, Nat.reduceMul, Nat.reduceBEq, Nat.reduceLT, Nat.reduceLeDiff, Nat.reduceMod, Nat.reducePow, List.reduceReplicate, UInt8.reduceOfNat, Int.reducePow, Int.reduceDiv, Int.reduceMod, Nat.reduceDiv, Int.reduceNeg, Int.reduceAdd, Int.reduceSub, Int.reduceMul, Int.reduceLE, Int.reduceLT, Int.reduceEq, Int.reduceToNat, reduceCtorEq, -List.reduceReplicate, List.toList_toArray, hCl, hCa]
    refine lplus_t hsm O.is fun G1 v1 hle1 hs1 hI1 => ?_
    rw [he] at hI1 ⊢
    obtain ⟨C1, an1, al1, ay1, cn1, cl1, cs1, rs1, rfl, O1⟩ := hI1.opened
    have hC1l := O1.len
    have hone1 := wdf_one O1.is
    have hput1 := wdf_put hC1l
    have htk1 : List.take 260 C1 = C1 := List.take_of_length_le (by omega)
    have hsE := hs1
    try simp only [keys_cons, keys_app, keys_nil, Sep_cons, Sep_nil, NotIn_cons, NotIn_app, NotIn_nil, List.cons_append, List.nil_append, List.append_assoc, and_assoc, and_true, true_and] at hsE
    repeat (obtain ⟨hsx, hsE⟩ := hsE)
    repeat' first
      | with_reducible refine Br.yes ?_
      | with_reducible refine Br.no ?_
      | with_reducible refine Br.dec (fun _ => ?_) (fun _ => ?_)
      | with_reducible refine Br.beqB (fun _ => ?_) (fun _ => ?_)
      | with_reducible refine Br.beqb (fun _ => ?_) (fun _ => ?_)
      | with_reducible refine Br.mk (fun _ => ?_) (fun _ => ?_)
      | with_reducible refine foundO.mk (fun _ _ => ?_) (fun _ => ?_)
      | with_reducible refine appV.zero ?_
      | with_reducible refine appV.own ?_
      | ((with_reducible refine NewB.mk fun nb hnb => ?_); have hnb1 := hnb.1.1; have hnb2 := hnb.1.2; try simp only [keys_cons, keys_app, keys_nil, NotIn_cons, NotIn_app, NotIn_nil, and_true] at hnb2)
      | ((with_reducible refine NewRow.mk fun nb nsp ncap hnb hncap => ?_); have hnb1 := hnb.1.1; have hnb2 := hnb.1.2; try simp only [keys_cons, keys_app, keys_nil, NotIn_cons, NotIn_app, NotIn_nil, and_true] at hnb2)
      | simp (dsimp := false) (implicitDefEqProofs := false) (disch := first | assumption | (simp only [List.mem_cons, List.mem_append, true_or, or_true, eq_self]; done) | omega | (with_reducible refine Row.adr (by assumption) ?_; simp only [List.length_map, List.length_take, List.length_drop]; omega) | (simp only [List.length_cons, List.length_nil, List.length_map, List.length_append, List.length_replicate, Nat.reduceAdd, true_and, and_true, and_self]; first | done | omega)) only [go_sem, ↓reduceIte, Nat.reduceEqDiff, Nat.reduceAdd, Nat.reduceSub, Nat.reduceMul, Nat.reduceBEq, Nat.reduceLT, Nat.reduceLeDiff, Nat.reduceMod, Nat.reducePow, List.reduceReplicate, UInt8.reduceOfNat, Int.reducePow, Int.reduceDiv, Int.reduceMod, Nat.reduceDiv, Int.reduceNeg, Int.reduceAdd, Int.reduceSub, Int.reduceMul, Int.reduceLE, Int.reduceLT, Int.reduceEq, Int.reduceToNat, reduceCtorEq, -List.reduceReplicate, List.toList_toArray, hCl, hCa, hC1l, hone1, hput1, htk1, zeroC_len]
      | ((with_reducible refine knows_t fun G7 hle7 hs7 => ?_); (have hsE := hs7; try simp only [keys_cons, keys_app, keys_nil, Sep_cons, Sep_nil, NotIn_cons, NotIn_app, NotIn_nil, List.cons_append, List.nil_append, List.append_assoc, and_assoc, and_true, true_and] at hsE; repeat (obtain ⟨hsx, hsE⟩ := hsE)))
    all_goals refine Upd.finL ?_ (hR G7 (hle1.trans hle7)) ?_
    any_goals (intro fsum; first | exact Nat.le_refl _ | (simp only [List.map_append, List.map_cons, List.map_nil, List.sum_append, List.sum_cons, List.sum_nil, List.cons_append, List.nil_append]; omega))
    all_goals rfl
  · obtain ⟨p, he, hpr, hps, hpn⟩ : ∃ p, plusR d = (p, 0) ∧ RightP p ∧ SmallD p ∧ ∀ w' : List UInt8, nameD p (tellB p w') = if w' = [] then [] else nameD d (tellB d w') := by
      by_cases h0 : d.label.headD 0 = 0
      · refine ⟨d, plusR_none hok h0, hok, hsm, fun w' => ?_⟩
        split
        · rename_i e; rw [e]; exact first_name hok h0
        · rfl
      · have hnb : ¬ d.label.length = 65536 := fun e => hbig ⟨h0, e⟩
        have hlt : d.label.length < 65536 := by have := hok.2.1; omega
        exact ⟨plusD d, plusR_ok hok h0 hnb, plusD_right hok O.ofl hlt, plusD_small hsm hok, fun w' => plus_name hok O.ofl hlt w'⟩
    refine Tri.piece (f := Try.f6) rfl ?_
    refine Tri.run tok [0, 1, 2, 3, 6, 7, 8, 9, 10, 11, 12, 13, 14, 15, 18, 78, 102, 109, 117] (by kernel_rfl) ?_
    repeat' first
      | with_reducible refine Br.yes ?_
      | with_reducible refine Br.no ?_
      | with_reducible refine Br.dec (fun _ => ?_) (fun _ => ?_)
      | with_reducible refine Br.beqB (fun _ => ?_) (fun _ => ?_)
      | with_reducible refine Br.beqb (fun _ => ?_) (fun _ => ?_)
      | with_reducible refine Br.mk (fun _ => ?_) (fun _ => ?_)
      | with_reducible refine foundO.mk (fun _ _ => ?_) (fun _ => ?_)
      | with_reducible refine appV.zero ?_
      | with_reducible refine appV.own ?_
      | ((with_reducible refine NewB.mk fun nb hnb => ?_); have hnb1 := hnb.1.1; have hnb2 := hnb.1.2; try simp only [keys_cons, keys_app, keys_nil, NotIn_cons, NotIn_app, NotIn_nil, and_true] at hnb2)
      | ((with_reducible refine NewRow.mk fun nb nsp ncap hnb hncap => ?_); have hnb1 := hnb.1.1; have hnb2 := hnb.1.2; try simp only [keys_cons, keys_app, keys_nil, NotIn_cons, NotIn_app, NotIn_nil, and_true] at hnb2)
      | simp (dsimp := false) (implicitDefEqProofs := false) (disch := first | assumption | (simp only [List.mem_cons, List.mem_append, true_or, or_true, eq_self]; done) | omega | (with_reducible refine Row.adr (by assumption) ?_; simp only [List.length_map, List.length_take, List.length_drop]; omega) | (simp only [List.length_cons, List.length_nil, List.length_map, List.length_append, List.length_replicate, Nat.reduceAdd, true_and, and_true, and_self]; first | done | omega)) only [go_sem, ↓reduceIte, Nat.reduceEqDiff, Nat.reduceAdd, Nat.reduceSub, Nat.reduceMul, Nat.reduceBEq, Nat.reduceLT, Nat.reduceLeDiff, Nat.reduceMod, Nat.reducePow, List.reduceReplicate, UInt8.reduceOfNat, Int.reducePow, Int.reduceDiv, Int.reduceMod, Nat.reduceDiv, Int.reduceNeg, Int.reduceAdd, Int.reduceSub, Int.reduceMul, Int.reduceLE, Int.reduceLT, Int.reduceEq, Int.reduceToNat, reduceCtorEq, -List.reduceReplicate, List.toList_toArray, hCl, hCa]
    refine lplus_t hsm O.is fun G1 v1 hle1 hs1 hI1 => ?_
    rw [he] at hI1 ⊢
    obtain ⟨C1, an1, al1, ay1, cn1, cl1, cs1, rs1, rfl, O1⟩ := hI1.opened
    have hC1l := O1.len
    have hone1 := wdf_one O1.is
    have hput1 := wdf_put hC1l
    have htk1 : List.take 260 C1 = C1 := List.take_of_length_le (by omega)
    have hsE := hs1
    try simp only [keys_cons, keys_app, keys_nil, Sep_cons, Sep_nil, NotIn_cons, NotIn_app, NotIn_nil, List.cons_append, List.nil_append, List.append_assoc, and_assoc, and_true, true_and] at hsE
    repeat (obtain ⟨hsx, hsE⟩ := hsE)
    have hbp := boolOf_yes hpr
    have hw1 := hw.mono hle1
    have hnil : Sl G1 byteV (.slice none 0 0) [] := ⟨none, 0, rfl, Row.nil _ _, Nat.le_refl 0⟩
    have hz0 : ([] : List UInt8).length ≤ 2000000 := by decide
    have hp0 := hpn []
    rw [if_pos rfl] at hp0
    by_cases hw0 : w = []
    · subst hw0
      rw [List.length_nil] at hw1
      repeat' first
        | with_reducible refine Br.yes ?_
        | with_reducible refine Br.no ?_
        | with_reducible refine Br.dec (fun _ => ?_) (fun _ => ?_)
        | with_reducible refine Br.beqB (fun _ => ?_) (fun _ => ?_)
        | with_reducible refine Br.beqb (fun _ => ?_) (fun _ => ?_)
        | with_reducible refine Br.mk (fun _ => ?_) (fun _ => ?_)
        | with_reducible refine foundO.mk (fun _ _ => ?_) (fun _ => ?_)
        | with_reducible refine appV.zero ?_
        | with_reducible refine appV.own ?_
        | ((with_reducible refine NewB.mk fun nb hnb => ?_); have hnb1 := hnb.1.1; have hnb2 := hnb.1.2; try simp only [keys_cons, keys_app, keys_nil, NotIn_cons, NotIn_app, NotIn_nil, and_true] at hnb2)
        | ((with_reducible refine NewRow.mk fun nb nsp ncap hnb hncap => ?_); have hnb1 := hnb.1.1; have hnb2 := hnb.1.2; try simp only [keys_cons, keys_app, keys_nil, NotIn_cons, NotIn_app, NotIn_nil, and_true] at hnb2)
        | simp (dsimp := false) (implicitDefEqProofs := false) (disch := first | assumption | (simp only [List.mem_cons, List.mem_append, true_or, or_true, eq_self]; done) | omega | (with_reducible refine Row.adr (by assumption) ?_; simp only [List.length_map, List.length_take, List.length_drop]; omega) | (simp only [List.length_cons, List.length_nil, List.length_map, List.length_append, List.length_replicate, Nat.reduceAdd, true_and, and_true, and_self]; first | done | omega)) only [go_sem, ↓reduceIte, Nat.reduceEqDiff, Nat.reduceAdd, Nat.reduceSub, Nat.reduceMul, Nat.reduceBEq, Nat.reduceLT, Nat.reduceLeDiff, Nat.reduceMod, Nat.reducePow, List.reduceReplicate, UInt8.reduceOfNat, Int.reducePow, Int.reduceDiv, Int.reduceMod, Nat.reduceDiv, Int.reduceNeg, Int.reduceAdd, Int.reduceSub, Int.reduceMul, Int.reduceLE, Int.reduceLT, Int.reduceEq, Int.reduceToNat, reduceCtorEq, -List.reduceReplicate, List.toList_toArray, hCl, hCa, hC1l, hone1, hput1, htk1, zeroC_len, hbp, hp0]
        | with_reducible refine right_t hps O1.is ?_
        | with_reducible refine dname_t hps hz0 O1.is hw1 ?_
        | with_reducible refine dname_t hps hz0 O1.is hnil ?_
        | ((with_reducible refine knows_t fun G7 hle7 hs7 => ?_); (have hsE := hs7; try simp only [keys_cons, keys_app, keys_nil, Sep_cons, Sep_nil, NotIn_cons, NotIn_app, NotIn_nil, List.cons_append, List.nil_append, List.append_assoc, and_assoc, and_true, true_and] at hsE; repeat (obtain ⟨hsx, hsE⟩ := hsE)))
      all_goals refine Upd.finL ?_ (hR G7 (hle1.trans hle7)) ?_
      any_goals (intro fsum; first | exact Nat.le_refl _ | (simp only [List.map_append, List.map_cons, List.map_nil, List.sum_append, List.sum_cons, List.sum_nil, List.cons_append, List.nil_append]; omega))
      all_goals rfl
    · have hpw := hpn w
      rw [if_neg hw0] at hpw
      have hwp : 0 < w.length := List.length_pos_iff.2 hw0
      repeat' first
        | with_reducible refine Br.yes ?_
        | with_reducible refine Br.no ?_
        | with_reducible refine Br.dec (fun _ => ?_) (fun _ => ?_)
        | with_reducible refine Br.beqB (fun _ => ?_) (fun _ => ?_)
        | with_reducible refine Br.beqb (fun _ => ?_) (fun _ => ?_)
        | with_reducible refine Br.mk (fun _ => ?_) (fun _ => ?_)
        | with_reducible refine foundO.mk (fun _ _ => ?_) (fun _ => ?_)
        | with_reducible refine appV.zero ?_
        | with_reducible refine appV.own ?_
        | ((with_reducible refine NewB.mk fun nb hnb => ?_); have hnb1 := hnb.1.1; have hnb2 := hnb.1.2; try simp only [keys_cons, keys_app, keys_nil, NotIn_cons, NotIn_app, NotIn_nil, and_true] at hnb2)
        | ((with_reducible refine NewRow.mk fun nb nsp ncap hnb hncap => ?_); have hnb1 := hnb.1.1; have hnb2 := hnb.1.2; try simp only [keys_cons, keys_app, keys_nil, NotIn_cons, NotIn_app, NotIn_nil, and_true] at hnb2)
        | simp (dsimp := false) (implicitDefEqProofs := false) (disch := first | assumption | (simp only [List.mem_cons, List.mem_append, true_or, or_true, eq_self]; done) | omega | (with_reducible refine Row.adr (by assumption) ?_; simp only [List.length_map, List.length_take, List.length_drop]; omega) | (simp only [List.length_cons, List.length_nil, List.length_map, List.length_append, List.length_replicate, Nat.reduceAdd, true_and, and_true, and_self]; first | done | omega)) only [go_sem, ↓reduceIte, Nat.reduceEqDiff, Nat.reduceAdd, Nat.reduceSub, Nat.reduceMul, Nat.reduceBEq, Nat.reduceLT, Nat.reduceLeDiff, Nat.reduceMod, Nat.reducePow, List.reduceReplicate, UInt8.reduceOfNat, Int.reducePow, Int.reduceDiv, Int.reduceMod, Nat.reduceDiv, Int.reduceNeg, Int.reduceAdd, Int.reduceSub, Int.reduceMul, Int.reduceLE, Int.reduceLT, Int.reduceEq, Int.reduceToNat, reduceCtorEq, -List.reduceReplicate, List.toList_toArray, hCl, hCa, hC1l, hone1, hput1, htk1, zeroC_len, hbp, hp0, hpw]
        | with_reducible refine right_t hps O1.is ?_
        | with_reducible refine dname_t hps hwl O1.is hw1 ?_
        | with_reducible refine dname_t hps hz0 O1.is hnil ?_
        | ((with_reducible refine knows_t fun G7 hle7 hs7 => ?_); (have hsE := hs7; try simp only [keys_cons, keys_app, keys_nil, Sep_cons, Sep_nil, NotIn_cons, NotIn_app, NotIn_nil, List.cons_append, List.nil_append, List.append_assoc, and_assoc, and_true, true_and] at hsE; repeat (obtain ⟨hsx, hsE⟩ := hsE)))
      · all_goals refine Upd.finL ?_ (hR G7 (hle1.trans hle7)) ?_
        any_goals (intro fsum; first | exact Nat.le_refl _ | (simp only [List.map_append, List.map_cons, List.map_nil, List.sum_append, List.sum_cons, List.sum_nil, List.cons_append, List.nil_append]; omega))
        all_goals rfl
      · rename_i h; exact absurd (by simp) h
set_option maxHeartbeats 32000000 in
theorem t6_t {d : DfaT} (hsm : SmallD d) {w : List UInt8} (hwl : w.length ≤ 2000000) {name : Tx} (hnl : name.length ≤ 2000000) {G : PHeap} {H : Heap} {R : Value → PHeap → Heap → Prop} {C : List Value} {an al ay : Option Addr} {cn cl cs : Nat} {rs : List Value} (O : OpenD G d C an al ay cn cl cs rs) {aw : Option Addr} {cw : Nat} (hw : Sl G byteV (.slice aw w.length cw) w) (hok : RightP d) {b1 : Nat}
    (hR : ∀ G', PLe G G' → R (.bool true) G' H) :
    Tri Try.prog Try.f6.ntmps (piece [1, 1, 1, 1, 1, 1] Try.f6) G [(1, .slice aw w.length cw), (2, str name), (3, .pointer (some ⟨b1, 0, none⟩)), (6, .bool false), (7, str (nameD d (tellB d w)))] ((b1, .cells C [] 27) :: H) (endK T #[Go.ResultVar.tmp 6].toList (UpdR R) .mk) := by
  have hCl := O.len
  have hCa := O.all
  refine Tri.sepT fun hs0 => ?_
  have hsE := hs0
  try simp only [keys_cons, keys_app, keys_nil, Sep_cons, Sep_nil, NotIn_cons, NotIn_app, NotIn_nil, List.cons_append, List.nil_append, List.append_assoc, and_assoc, and_true, true_and] at hsE
  repeat (obtain ⟨hsx, hsE⟩ := hsE)
  cases hf : nameB name with
  | true =>
    have he : onlyR d name = (onlyN1 d name, 0) := onlyR_ok hok hf
    have hzr := only_right hok hf
    have hzb := boolOf_yes hzr
    have hzs : SmallD (onlyN1 d name) := by have := onlyR_small hsm hnl (name := name); rw [he] at this; exact this
    have hzn := only_name hok O.ofl hf w
    have hzB : ((nameD (onlyN1 d name) (tellB (onlyN1 d name) w) == name) == (nameD d (tellB d w) == name)) = true := by
      rw [beq_iff_eq, Bool.eq_iff_iff, beq_iff_eq, beq_iff_eq]
      exact hzn
    refine Tri.piece (f := Try.f6) rfl ?_
    refine Tri.runS tok [0, 1, 2, 3, 6, 7, 8, 9, 10, 11, 12, 13, 14, 15, 18, 78, 102, 109, 117] (.seq .run (.seq .run .cut)) (by kernel_rfl) ?_
    repeat' first
      | with_reducible refine Br.yes ?_
      | with_reducible refine Br.no ?_
      | with_reducible refine Br.dec (fun _ => ?_) (fun _ => ?_)
      | with_reducible refine Br.beqB (fun _ => ?_) (fun _ => ?_)
      | with_reducible refine Br.beqb (fun _ => ?_) (fun _ => ?_)
      | with_reducible refine Br.mk (fun _ => ?_) (fun _ => ?_)
      | with_reducible refine foundO.mk (fun _ _ => ?_) (fun _ => ?_)
      | with_reducible refine appV.zero ?_
      | with_reducible refine appV.own ?_
      | ((with_reducible refine NewB.mk fun nb hnb => ?_); have hnb1 := hnb.1.1; have hnb2 := hnb.1.2; try simp only [keys_cons, keys_app, keys_nil, NotIn_cons, NotIn_app, NotIn_nil, and_true] at hnb2)
      | ((with_reducible refine NewRow.mk fun nb nsp ncap hnb hncap => ?_); have hnb1 := hnb.1.1; have hnb2 := hnb.1.2; try simp only [keys_cons, keys_app, keys_nil, NotIn_cons, NotIn_app, NotIn_nil, and_true] at hnb2)
      | simp (dsimp := false) (implicitDefEqProofs := false) (disch := first | assumption | (simp only [List.mem_cons, List.mem_append, true_or, or_true, eq_self]; done) | omega | (with_reducible refine Row.adr (by assumption) ?_; simp only [List.length_map, List.length_take, List.length_drop]; omega) | (simp only [List.length_cons, List.length_nil, List.length_map, List.length_append, List.length_replicate, Nat.reduceAdd, true_and, and_true, and_self]; first | done | omega)) only [go_sem, ↓reduceIte, Nat.reduceEqDiff, Nat.reduceAdd, Nat.reduceSub, Nat.reduceMul, Nat.reduceBEq, Nat.reduceLT, Nat.reduceLeDiff, Nat.reduceMod, Nat.reducePow, List.reduceReplicate, UInt8.reduceOfNat, Int.reducePow, Int.reduceDiv, Int.reduceMod, Nat.reduceDiv, Int.reduceNeg, Int.reduceAdd, Int.reduceSub, Int.reduceMul, Int.reduceLE, Int.reduceLT, Int.reduceEq, Int.reduceToNat, reduceCtorEq, -List.reduceReplicate, List.toList_toArray, hCl, hCa]
    refine lonly_t hsm hnl O.is fun G1 v1 hle1 hs1 hI1 => ?_
    rw [he] at hI1 ⊢
    have hI1 : IsD G1 (onlyN1 d name) v1 := hI1
    obtain ⟨C1, an1, al1, ay1, cn1, cl1, cs1, rs1, rfl, O1⟩ := hI1.opened
    have hC1l := O1.len
    have hone1 := wdf_one O1.is
    have hput1 := wdf_put hC1l
    have htk1 : List.take 260 C1 = C1 := List.take_of_length_le (by omega)
    have hsE := hs1
    try simp only [keys_cons, keys_app, keys_nil, Sep_cons, Sep_nil, NotIn_cons, NotIn_app, NotIn_nil, List.cons_append, List.nil_append, List.append_assoc, and_assoc, and_true, true_and] at hsE
    repeat (obtain ⟨hsx, hsE⟩ := hsE)
    have hw1 := hw.mono hle1
    repeat' first
      | with_reducible refine Br.yes ?_
      | with_reducible refine Br.no ?_
      | with_reducible refine Br.dec (fun _ => ?_) (fun _ => ?_)
      | with_reducible refine Br.beqB (fun _ => ?_) (fun _ => ?_)
      | with_reducible refine Br.beqb (fun _ => ?_) (fun _ => ?_)
      | with_reducible refine Br.mk (fun _ => ?_) (fun _ => ?_)
      | with_reducible refine foundO.mk (fun _ _ => ?_) (fun _ => ?_)
      | with_reducible refine appV.zero ?_
      | with_reducible refine appV.own ?_
      | ((with_reducible refine NewB.mk fun nb hnb => ?_); have hnb1 := hnb.1.1; have hnb2 := hnb.1.2; try simp only [keys_cons, keys_app, keys_nil, NotIn_cons, NotIn_app, NotIn_nil, and_true] at hnb2)
      | ((with_reducible refine NewRow.mk fun nb nsp ncap hnb hncap => ?_); have hnb1 := hnb.1.1; have hnb2 := hnb.1.2; try simp only [keys_cons, keys_app, keys_nil, NotIn_cons, NotIn_app, NotIn_nil, and_true] at hnb2)
      | simp (dsimp := false) (implicitDefEqProofs := false) (disch := first | assumption | (simp only [List.mem_cons, List.mem_append, true_or, or_true, eq_self]; done) | omega | (with_reducible refine Row.adr (by assumption) ?_; simp only [List.length_map, List.length_take, List.length_drop]; omega) | (simp only [List.length_cons, List.length_nil, List.length_map, List.length_append, List.length_replicate, Nat.reduceAdd, true_and, and_true, and_self]; first | done | omega)) only [go_sem, ↓reduceIte, Nat.reduceEqDiff, Nat.reduceAdd, Nat.reduceSub, Nat.reduceMul, Nat.reduceBEq, Nat.reduceLT, Nat.reduceLeDiff, Nat.reduceMod, Nat.reducePow, List.reduceReplicate, UInt8.reduceOfNat, Int.reducePow, Int.reduceDiv, Int.reduceMod, Nat.reduceDiv, Int.reduceNeg, Int.reduceAdd, Int.reduceSub, Int.reduceMul, Int.reduceLE, Int.reduceLT, Int.reduceEq, Int.reduceToNat, reduceCtorEq, -List.reduceReplicate, List.toList_toArray, hCl, hCa, hC1l, hone1, hput1, htk1, zeroC_len, hzb, hzB]
      | with_reducible refine right_t hzs O1.is ?_
      | with_reducible refine dname_t hzs hwl O1.is hw1 ?_
    refine Tri.live [1, 3, 6, 7] ?_
    refine Tri.upd (Upd.go (H' := (b1, .cells C [] 27) :: H) (by intro fsum; simp only [List.map_append, List.map_cons, List.map_nil, List.sum_append, List.sum_cons, List.sum_nil, List.cons_append, List.nil_append]; omega) (Upd.now ?_))
    refine Tri.isPiece [1, 1, 1, 1, 1, 1, 1, 1] Try.f6 (by kernel_rfl) ?_
    exact t8_t hsm hwl (O.mono hle1) (hw.mono hle1) hok fun G' hle => hR G' (hle1.trans hle)
  | false =>
    have he : onlyR d name = (zeroD, 1) := onlyR_not hok hf
    refine Tri.piece (f := Try.f6) rfl ?_
    refine Tri.runS tok [0, 1, 2, 3, 6, 7, 8, 9, 10, 11, 12, 13, 14, 15, 18, 78, 102, 109, 117] (.seq .run (.seq .run .cut)) (by kernel_rfl) ?_
    repeat' first
      | with_reducible refine Br.yes ?_
      | with_reducible refine Br.no ?_
      | with_reducible refine Br.dec (fun _ => ?_) (fun _ => ?_)
      | with_reducible refine Br.beqB (fun _ => ?_) (fun _ => ?_)
      | with_reducible refine Br.beqb (fun _ => ?_) (fun _ => ?_)
      | with_reducible refine Br.mk (fun _ => ?_) (fun _ => ?_)
      | with_reducible refine foundO.mk (fun _ _ => ?_) (fun _ => ?_)
      | with_reducible refine appV.zero ?_
      | with_reducible refine appV.own ?_
      | ((with_reducible refine NewB.mk fun nb hnb => ?_); have hnb1 := hnb.1.1; have hnb2 := hnb.1.2; try simp only [keys_cons, keys_app, keys_nil, NotIn_cons, NotIn_app, NotIn_nil, and_true] at hnb2)
      | ((with_reducible refine NewRow.mk fun nb nsp ncap hnb hncap => ?_); have hnb1 := hnb.1.1; have hnb2 := hnb.1.2; try simp only [keys_cons, keys_app, keys_nil, NotIn_cons, NotIn_app, NotIn_nil, and_true] at hnb2)
      | simp (dsimp := false) (implicitDefEqProofs := false) (disch := first | assumption | (simp only [List.mem_cons, List.mem_append, true_or, or_true, eq_self]; done) | omega | (with_reducible refine Row.adr (by assumption) ?_; simp only [List.length_map, List.length_take, List.length_drop]; omega) | (simp only [List.length_cons, List.length_nil, List.length_map, List.length_append, List.length_replicate, Nat.reduceAdd, true_and, and_true, and_self]; first | done | omega)) only [go_sem, ↓reduceIte, Nat.reduceEqDiff, Nat.reduceAdd, Nat.reduceSub, Nat.reduceMul, Nat.reduceBEq, Nat.reduceLT, Nat.reduceLeDiff, Nat.reduceMod, Nat.reducePow, List.reduceReplicate, UInt8.reduceOfNat, Int.reducePow, Int.reduceDiv, Int.reduceMod, Nat.reduceDiv, Int.reduceNeg, Int.reduceAdd, Int.reduceSub, Int.reduceMul, Int.reduceLE, Int.reduceLT, Int.reduceEq, Int.reduceToNat, reduceCtorEq, -List.reduceReplicate, List.toList_toArray, hCl, hCa]
    refine lonly_t hsm hnl O.is fun G1 v1 hle1 hs1 hI1 => ?_
    rw [he] at hI1 ⊢
    obtain ⟨C1, an1, al1, ay1, cn1, cl1, cs1, rs1, rfl, O1⟩ := hI1.opened
    have hC1l := O1.len
    have hone1 := wdf_one O1.is
    have hput1 := wdf_put hC1l
    have hsE := hs1
    try simp only [keys_cons, keys_app, keys_nil, Sep_cons, Sep_nil, NotIn_cons, NotIn_app, NotIn_nil, List.cons_append, List.nil_append, List.append_assoc, and_assoc, and_true, true_and] at hsE
    repeat (obtain ⟨hsx, hsE⟩ := hsE)
    repeat' first
      | with_reducible refine Br.yes ?_
      | with_reducible refine Br.no ?_
      | with_reducible refine Br.dec (fun _ => ?_) (fun _ => ?_)
      | with_reducible refine Br.beqB (fun _ => ?_) (fun _ => ?_)
      | with_reducible refine Br.beqb (fun _ => ?_) (fun _ => ?_)
      | with_reducible refine Br.mk (fun _ => ?_) (fun _ => ?_)
      | with_reducible refine foundO.mk (fun _ _ => ?_) (fun _ => ?_)
      | with_reducible refine appV.zero ?_
      | with_reducible refine appV.own ?_
      | ((with_reducible refine NewB.mk fun nb hnb => ?_); have hnb1 := hnb.1.1; have hnb2 := hnb.1.2; try simp only [keys_cons, keys_app, keys_nil, NotIn_cons, NotIn_app, NotIn_nil, and_true] at hnb2)
      | ((with_reducible refine NewRow.mk fun nb nsp ncap hnb hncap => ?_); have hnb1 := hnb.1.1; have hnb2 := hnb.1.2; try simp only [keys_cons, keys_app, keys_nil, NotIn_cons, NotIn_app, NotIn_nil, and_true] at hnb2)
      | simp (dsimp := false) (implicitDefEqProofs := false) (disch := first | assumption | (simp only [List.mem_cons, List.mem_append, true_or, or_true, eq_self]; done) | omega | (with_reducible refine Row.adr (by assumption) ?_; simp only [List.length_map, List.length_take, List.length_drop]; omega) | (simp only [List.length_cons, List.length_nil, List.length_map, List.length_append, List.length_replicate, Nat.reduceAdd, true_and, and_true, and_self]; first | done | omega)) only [go_sem, ↓reduceIte, Nat.reduceEqDiff, Nat.reduceAdd, Nat.reduceSub, Nat.reduceMul, Nat.reduceBEq, Nat.reduceLT, Nat.reduceLeDiff, Nat.reduceMod, Nat.reducePow, List.reduceReplicate, UInt8.reduceOfNat, Int.reducePow, Int.reduceDiv, Int.reduceMod, Nat.reduceDiv, Int.reduceNeg, Int.reduceAdd, Int.reduceSub, Int.reduceMul, Int.reduceLE, Int.reduceLT, Int.reduceEq, Int.reduceToNat, reduceCtorEq, -List.reduceReplicate, List.toList_toArray, hCl, hCa, hC1l, hone1, hput1, zeroC_len]
    refine Tri.live [1, 3, 6, 7] ?_
    refine Tri.upd (Upd.go (H' := (b1, .cells C [] 27) :: H) (by intro fsum; simp only [List.map_append, List.map_cons, List.map_nil, List.sum_append, List.sum_cons, List.sum_nil, List.cons_append, List.nil_append]; omega) (Upd.now ?_))
    refine Tri.isPiece [1, 1, 1, 1, 1, 1, 1, 1] Try.f6 (by kernel_rfl) ?_
    exact t8_t hsm hwl (O.mono hle1) (hw.mono hle1) hok fun G' hle => hR G' (hle1.trans hle)
theorem SlT.duo {G : PHeap} {b : Nat} {x y : List Tx} {v w : Value} (h : Row G (some ⟨b, 0, none⟩) [v, w]) (hv : Sl G str v x) (hw : Sl G str w y) : SlT G (.slice (some ⟨b, 0, none⟩) 2 2) [x, y] := by
  obtain ⟨av, cv, rfl, hrv, hcv⟩ := hv
  obtain ⟨aw, cw, rfl, hrw, hcw⟩ := hw
  refine ⟨_, 2, _, rfl, h, rfl, Nat.le_refl 2, fun i h1 h2 => ?_⟩
  have h3 : i < 2 := h1
  match i, h3 with
  | 0, _ => exact ⟨_, _, rfl, hrv, hcv⟩
  | 1, _ => exact ⟨_, _, rfl, hrw, hcw⟩
theorem sum_erase {H : Heap} {b : Nat} {r : Res} (h : findH H b = some r) (f : Nat × Res → Nat) : (H.map f).sum = f (b, r) + ((eraseH H b).map f).sum := by
  induction H with
  | nil => simp [findH] at h
  | cons p H ih =>
    obtain ⟨k, s⟩ := p
    simp only [findH] at h
    simp only [eraseH]
    split at h
    · rename_i hk
      cases h
      rw [if_pos hk, ← hk]
      simp
    · rename_i hk
      have := ih h
      rw [if_neg hk]
      simp only [List.map_cons, List.sum_cons]
      omega
theorem find_erase {H : Heap} {b c : Nat} (h : c ≠ b) : findH (eraseH H b) c = findH H c := by
  induction H with
  | nil => rfl
  | cons p H ih =>
    obtain ⟨k, s⟩ := p
    simp only [eraseH]
    split
    · rename_i hk
      simp only [findH]
      rw [if_neg (fun e => h (by rw [← e, hk]))]
    · simp only [findH]
      split
      · rfl
      · exact ih
theorem unionTwo {u : List Tx} (hul : u.length ≤ 7000000) {a2 : Option Addr} {n2 c2 b39 b38 : Nat} {e1 e2 : TypeId} {G : PHeap} {H : Heap} {R : Value → PHeap → Heap → Prop} (hI : Sl G str (.slice a2 n2 c2) u)
    (h1 : findH H b39 = some (.cells [.slice a2 n2 c2, .slice (some ⟨b38, 0, none⟩) 1 1] [] e1)) (h2 : findH H b38 = some (.cells [.string ⟨#[111, 116, 104, 101, 114]⟩] [] e2)) (hne : b38 ≠ b39)
    (hR : ∀ G' v', PLe G G' → Sep G' (keys (eraseH (eraseH H b39) b38)) → Sl G' str v' (unionS [u, [other]].flatten) → R v' G' (eraseH (eraseH H b39) b38)) : FnT Try.prog 10 [.slice (some ⟨b39, 0, none⟩) 2 2] G H R := by
  intro E w hw
  have h2 : findH H b38 = some (.cells [str other] [] e2) := h2
  have s1 := sum_erase h1
  have s2 := sum_erase ((find_erase hne).trans h2)
  have hg := hw.none h1
  refine (FnT.pre (R := R) calleeUnion22 (Upd.go (H' := (b39, .cells [.slice a2 n2 c2, .slice (some ⟨b38, 0, none⟩) 1 1] [] e1) :: (b38, .cells [str other] [] e2) :: eraseH (eraseH H b39) b38) ?_ ?_)) w hw
  · intro f
    have h1 := s1 f
    have h2 := s2 f
    simp only [List.map_cons, List.sum_cons]
    omega
  refine Upd.trans (Upd.shareRow hg fun G3 hle3 hs3 hr3 => ?_)
  refine Upd.shareRow hs3.1.1 fun G4 hle4 hs4 hr4 => ?_
  have hl : [u, [other]].flatten.length ≤ 8000000 := by simp; omega
  refine punion_t hl (by show 2 ≤ _; omega) (SlT.duo (hr3.mono hle4) (hI.mono (hle3.trans hle4)) ⟨_, 1, rfl, hr4, Nat.le_refl 1⟩) fun G5 v5 hle5 hs5 hI5 => ?_
  exact hR G5 v5 (hle3.trans (hle4.trans hle5)) hs5 hI5
set_option maxHeartbeats 64000000 in
theorem t5_t {d : DfaT} (hsm : SmallD d) {w : List UInt8} (hwl : w.length ≤ 2000000) {name : Tx} (hnl : name.length ≤ 2000000) {G : PHeap} {H : Heap} {R : Value → PHeap → Heap → Prop} {C : List Value} {an al ay : Option Addr} {cn cl cs : Nat} {rs : List Value} (O : OpenD G d C an al ay cn cl cs rs) {aw : Option Addr} {cw : Nat} (hw : Sl G byteV (.slice aw w.length cw) w) (hok : RightP d) {b1 b8 b10 : Nat}
    {C1 : List Value} (hI1 : IsD G (withN d (usedS d)) (.agg C1.toArray)) {Y : DfaT} {y : Int} (hY : (y = 0 ∧ Y = withN d (unionS [usedS d, [other]].flatten) ∧ namesOk (unionS [usedS d, [other]].flatten)) ∨ (y = 1 ∧ ¬ (usedS d).length < 64)) {C2 : List Value} (hI2 : IsD G Y (.agg C2.toArray)) (hYs : SmallD Y)
    (hR : ∀ G', PLe G G' → R (.bool true) G' H) :
    Tri Try.prog Try.f6.ntmps (piece [1, 1, 1, 1, 1] Try.f6) G [(1, .slice aw w.length cw), (2, str name), (3, .pointer (some ⟨b1, 0, none⟩)), (6, .bool false), (7, str (nameD d (tellB d w))), (8, .pointer (some ⟨b8, 0, none⟩)), (9, .int .i64 0), (10, .pointer (some ⟨b10, 0, none⟩)), (11, .int .i64 y)] ((b8, .cells C1 [] 27) :: (b10, .cells C2 [] 27) :: (b1, .cells C [] 27) :: H) (endK T #[Go.ResultVar.tmp 6].toList (UpdR R) .mk) := by
  have hCl := O.len
  have hCa := O.all
  have hun := usedS_names hok
  have hxr := withN_right hok hun
  have hxb := boolOf_yes hxr
  have hxn := withN_name hok O.ofl hun (fun s h => h) w
  have hur := usedR_ok hok
  have hxs : SmallD (withN d (usedS d)) := by have := normR_small hsm; rw [norm_tells hok] at this; exact this
  obtain ⟨_, an1, al1, ay1, cn1, cl1, cs1, rs1, e1, O1⟩ := hI1.opened
  obtain rfl : C1 = _ := by simpa using e1
  obtain ⟨_, an2, al2, ay2, cn2, cl2, cs2, rs2, e2, O2⟩ := hI2.opened
  obtain rfl : C2 = _ := by simpa using e2
  have hC1l := O1.len
  have hC2l := O2.len
  have htk1 : List.take 260 C1 = C1 := List.take_of_length_le (by omega)
  have htk2 : List.take 260 C2 = C2 := List.take_of_length_le (by omega)
  have hul := usedS_len d
  have hdn := hsm.2.2.2.1
  refine Tri.sepT fun hs0 => ?_
  have hsE := hs0
  try simp only [keys_cons, keys_app, keys_nil, Sep_cons, Sep_nil, NotIn_cons, NotIn_app, NotIn_nil, List.cons_append, List.nil_append, List.append_assoc, and_assoc, and_true, true_and] at hsE
  repeat (obtain ⟨hsx, hsE⟩ := hsE)
  have hxx : (nameD d (tellB d w) == nameD d (tellB d w)) = true := by simp
  rcases hY with ⟨rfl, rfl, hUok⟩ | ⟨rfl, hge⟩
  · have hUs : ∀ s ∈ usedS d, s ∈ unionS [usedS d, [other]].flatten := fun s hs => by
      rw [mem_unionS]
      simp [hs]
    have hyn := withN_name hok O.ofl hUok hUs w
    refine Tri.piece (f := Try.f6) rfl ?_
    refine Tri.runS tok [0, 1, 2, 3, 6, 7, 8, 9, 10, 11, 12, 13, 14, 15, 18, 78, 102, 109, 117] (.seq .run .cut) (by kernel_rfl) ?_
    repeat' first
      | with_reducible refine Br.yes ?_
      | with_reducible refine Br.no ?_
      | with_reducible refine Br.dec (fun _ => ?_) (fun _ => ?_)
      | with_reducible refine Br.beqB (fun _ => ?_) (fun _ => ?_)
      | with_reducible refine Br.beqb (fun _ => ?_) (fun _ => ?_)
      | with_reducible refine Br.mk (fun _ => ?_) (fun _ => ?_)
      | with_reducible refine foundO.mk (fun _ _ => ?_) (fun _ => ?_)
      | with_reducible refine appV.zero ?_
      | with_reducible refine appV.own ?_
      | ((with_reducible refine NewB.mk fun nb hnb => ?_); have hnb1 := hnb.1.1; have hnb2 := hnb.1.2; try simp only [keys_cons, keys_app, keys_nil, NotIn_cons, NotIn_app, NotIn_nil, and_true] at hnb2)
      | ((with_reducible refine NewRow.mk fun nb nsp ncap hnb hncap => ?_); have hnb1 := hnb.1.1; have hnb2 := hnb.1.2; try simp only [keys_cons, keys_app, keys_nil, NotIn_cons, NotIn_app, NotIn_nil, and_true] at hnb2)
      | simp (dsimp := false) (implicitDefEqProofs := false) (disch := first | assumption | (simp only [List.mem_cons, List.mem_append, true_or, or_true, eq_self]; done) | omega | (with_reducible refine Row.adr (by assumption) ?_; simp only [List.length_map, List.length_take, List.length_drop]; omega) | (simp only [List.length_cons, List.length_nil, List.length_map, List.length_append, List.length_replicate, Nat.reduceAdd, true_and, and_true, and_self]; first | done | omega)) only [go_sem, ↓reduceIte, Nat.reduceEqDiff, Nat.reduceAdd, Nat.reduceSub, Nat.reduceMul, Nat.reduceBEq, Nat.reduceLT, Nat.reduceLeDiff, Nat.reduceMod, Nat.reducePow, List.reduceReplicate, UInt8.reduceOfNat, Int.reducePow, Int.reduceDiv, Int.reduceMod, Nat.reduceDiv, Int.reduceNeg, Int.reduceAdd, Int.reduceSub, Int.reduceMul, Int.reduceLE, Int.reduceLT, Int.reduceEq, Int.reduceToNat, reduceCtorEq, -List.reduceReplicate, List.toList_toArray, hCl, hCa, hC1l, hC2l, htk1, htk2, hxb, hxn, hyn, hxx]
      | with_reducible refine right_t hxs O1.is ?_
      | with_reducible refine dname_t hxs hwl O1.is hw ?_
      | with_reducible refine dname_t hYs hwl O2.is hw ?_
    refine Tri.live [1, 2, 3, 6, 7] ?_
    refine Tri.upd (Upd.go (H' := (b1, .cells C [] 27) :: H) (by intro fsum; simp only [List.map_append, List.map_cons, List.map_nil, List.sum_append, List.sum_cons, List.sum_nil, List.cons_append, List.nil_append]; omega) (Upd.now ?_))
    refine Tri.isPiece [1, 1, 1, 1, 1, 1] Try.f6 (by kernel_rfl) ?_
    exact t6_t hsm hwl hnl O hw hok hR
  · have hge' : decide (((usedS d).length : Int) < 64) = false := decide_eq_false (by omega)
    refine Tri.piece (f := Try.f6) rfl ?_
    refine Tri.runS tok [0, 1, 2, 3, 6, 7, 8, 9, 10, 11, 12, 13, 14, 15, 18, 78, 102, 109, 117] (.seq .run .cut) (by kernel_rfl) ?_
    repeat' first
      | with_reducible refine Br.yes ?_
      | with_reducible refine Br.no ?_
      | with_reducible refine Br.dec (fun _ => ?_) (fun _ => ?_)
      | with_reducible refine Br.beqB (fun _ => ?_) (fun _ => ?_)
      | with_reducible refine Br.beqb (fun _ => ?_) (fun _ => ?_)
      | with_reducible refine Br.mk (fun _ => ?_) (fun _ => ?_)
      | with_reducible refine foundO.mk (fun _ _ => ?_) (fun _ => ?_)
      | with_reducible refine appV.zero ?_
      | with_reducible refine appV.own ?_
      | ((with_reducible refine NewB.mk fun nb hnb => ?_); have hnb1 := hnb.1.1; have hnb2 := hnb.1.2; try simp only [keys_cons, keys_app, keys_nil, NotIn_cons, NotIn_app, NotIn_nil, and_true] at hnb2)
      | ((with_reducible refine NewRow.mk fun nb nsp ncap hnb hncap => ?_); have hnb1 := hnb.1.1; have hnb2 := hnb.1.2; try simp only [keys_cons, keys_app, keys_nil, NotIn_cons, NotIn_app, NotIn_nil, and_true] at hnb2)
      | simp (dsimp := false) (implicitDefEqProofs := false) (disch := first | assumption | (simp only [List.mem_cons, List.mem_append, true_or, or_true, eq_self]; done) | omega | (with_reducible refine Row.adr (by assumption) ?_; simp only [List.length_map, List.length_take, List.length_drop]; omega) | (simp only [List.length_cons, List.length_nil, List.length_map, List.length_append, List.length_replicate, Nat.reduceAdd, true_and, and_true, and_self]; first | done | omega)) only [go_sem, ↓reduceIte, Nat.reduceEqDiff, Nat.reduceAdd, Nat.reduceSub, Nat.reduceMul, Nat.reduceBEq, Nat.reduceLT, Nat.reduceLeDiff, Nat.reduceMod, Nat.reducePow, List.reduceReplicate, UInt8.reduceOfNat, Int.reducePow, Int.reduceDiv, Int.reduceMod, Nat.reduceDiv, Int.reduceNeg, Int.reduceAdd, Int.reduceSub, Int.reduceMul, Int.reduceLE, Int.reduceLT, Int.reduceEq, Int.reduceToNat, reduceCtorEq, -List.reduceReplicate, List.toList_toArray, hCl, hCa, hC1l, hC2l, htk1, htk2, hxb, hxn, hxx, hge']
      | ((with_reducible refine used_t hsm O.is fun G3 v3 hle3 hs3 hI3 => ?_); rw [hur] at hI3; obtain ⟨a3, c3, rfl, hr3, hc3⟩ := hI3; (have hsE := hs3; try simp only [keys_cons, keys_app, keys_nil, Sep_cons, Sep_nil, NotIn_cons, NotIn_app, NotIn_nil, List.cons_append, List.nil_append, List.append_assoc, and_assoc, and_true, true_and] at hsE; repeat (obtain ⟨hsx, hsE⟩ := hsE)))
      | with_reducible refine right_t hxs (O1.is.mono hle3) ?_
      | with_reducible refine dname_t hxs hwl (O1.is.mono hle3) (hw.mono hle3) ?_
    refine Tri.live [1, 2, 3, 6, 7] ?_
    refine Tri.upd (Upd.go (H' := (b1, .cells C [] 27) :: H) (by intro fsum; simp only [List.map_append, List.map_cons, List.map_nil, List.sum_append, List.sum_cons, List.sum_nil, List.cons_append, List.nil_append]; omega) (Upd.now ?_))
    refine Tri.isPiece [1, 1, 1, 1, 1, 1] Try.f6 (by kernel_rfl) ?_
    exact t6_t hsm hwl hnl (O.mono hle3) (hw.mono hle3) hok fun G' hle => hR G' (hle3.trans hle)
set_option maxHeartbeats 64000000 in
theorem labelTells_t {d : DfaT} (hsm : SmallD d) {w : List UInt8} (hwl : w.length ≤ 2000000) {name : Tx} (hnl : name.length ≤ 2000000) {G : PHeap} {H : Heap} {R : Value → PHeap → Heap → Prop} {v vw : Value} (hv : IsD G d v) (hw : Sl G byteV vw w)
    (hR : ∀ G', PLe G G' → R (.bool true) G' H) : FnT Try.prog 6 [v, vw, str name] G H R := by
  obtain ⟨C, an, al, ay, cn, cl, cs, rs, rfl, O⟩ := hv.opened
  have hw0 := hw
  obtain ⟨aw, cw, rfl, hwr, hwc⟩ := hw
  have hCl := O.len
  have hCa := O.all
  obtain ⟨hu1, hu2⟩ := usedR_small hsm
  have hr2 : ∀ x : Value, List.replicate 2 x = [x, x] := fun _ => rfl
  have hr1 : ∀ x : Value, List.replicate 1 x = [x] := fun _ => rfl
  by_cases hok : RightP d
  · have hb := boolOf_yes hok
    have hur := usedR_ok hok
    have hnr := norm_tells hok
    have hul := usedS_len d
    have h64 := hok.2.2.2.2.2.1.1
    obtain ⟨u, hu⟩ : ∃ u, u = usedS d := ⟨_, rfl⟩
    have hun := usedS_names hok
    have hxr := withN_right hok hun
    have hxb := boolOf_yes hxr
    have hxn := withN_name hok O.ofl hun (fun s h => h) w
    have hxs : SmallD (withN d (usedS d)) := by have := normR_small hsm; rw [hnr] at this; exact this
    obtain ⟨U, hU⟩ : ∃ U, U = unionS [usedS d, [other]].flatten := ⟨_, rfl⟩
    have hUs : ∀ s ∈ usedS d, s ∈ U := fun s hs => by
      rw [hU, mem_unionS]
      simp [hs]
    have hUl : U.length ≤ 2000000 := by
      have h1 := unionS_len [usedS d, [other]].flatten
      have h2 : [usedS d, [other]].flatten.length = (usedS d).length + 1 := by simp
      rw [hU]; omega
    have hUls : ∀ s ∈ U, s.length ≤ 2000000 := fun s hs => by
      rw [hU, mem_unionS] at hs
      simp only [List.flatten_cons, List.flatten_nil, List.append_nil, List.mem_append, List.mem_singleton] at hs
      rcases hs with hs | rfl
      · exact hu2 s (by rw [hur]; exact hs)
      · decide
    refine FnT.bodyS tok [0, 1, 2, 3, 6, 7, 8, 9, 10, 11, 12, 13, 14, 15, 18, 78, 102, 109, 117] (.seq .run (.seq .run (.seq .run (.seq .run (.seq .run .cut))))) Try.func6 rfl (by kernel_rfl) (by kernel_rfl) (by show _ ≤ 135; simp) fun hsep => ?_
    rw [Try.results6]
    have hsE := hsep
    try simp only [keys_cons, keys_app, keys_nil, Sep_cons, Sep_nil, NotIn_cons, NotIn_app, NotIn_nil, List.cons_append, List.nil_append, List.append_assoc, and_assoc, and_true, true_and] at hsE
    repeat (obtain ⟨hsx, hsE⟩ := hsE)
    repeat' first
      | with_reducible refine Br.yes ?_
      | with_reducible refine Br.no ?_
      | with_reducible refine Br.dec (fun _ => ?_) (fun _ => ?_)
      | with_reducible refine Br.beqB (fun _ => ?_) (fun _ => ?_)
      | with_reducible refine Br.beqb (fun _ => ?_) (fun _ => ?_)
      | with_reducible refine Br.mk (fun _ => ?_) (fun _ => ?_)
      | with_reducible refine foundO.mk (fun _ _ => ?_) (fun _ => ?_)
      | with_reducible refine appV.zero ?_
      | with_reducible refine appV.own ?_
      | ((with_reducible refine NewB.mk fun nb hnb => ?_); have hnb1 := hnb.1.1; have hnb2 := hnb.1.2; try simp only [keys_cons, keys_app, keys_nil, NotIn_cons, NotIn_app, NotIn_nil, and_true] at hnb2)
      | ((with_reducible refine NewRow.mk fun nb nsp ncap hnb hncap => ?_); have hnb1 := hnb.1.1; have hnb2 := hnb.1.2; try simp only [keys_cons, keys_app, keys_nil, NotIn_cons, NotIn_app, NotIn_nil, and_true] at hnb2)
      | simp (dsimp := false) (implicitDefEqProofs := false) (disch := first | assumption | (simp only [List.mem_cons, List.mem_append, true_or, or_true, eq_self]; done) | omega | (with_reducible refine Row.adr (by assumption) ?_; simp only [List.length_map, List.length_take, List.length_drop]; omega) | (simp only [List.length_cons, List.length_nil, List.length_map, List.length_append, List.length_replicate, Nat.reduceAdd, true_and, and_true, and_self]; first | done | omega)) only [go_sem, ↓reduceIte, Nat.reduceEqDiff, Nat.reduceAdd, Nat.reduceSub, Nat.reduceMul, Nat.reduceBEq, Nat.reduceLT, Nat.reduceLeDiff, Nat.reduceMod, Nat.reducePow, List.reduceReplicate, UInt8.reduceOfNat, Int.reducePow, Int.reduceDiv, Int.reduceMod, Nat.reduceDiv, Int.reduceNeg, Int.reduceAdd, Int.reduceSub, Int.reduceMul, Int.reduceLE, Int.reduceLT, Int.reduceEq, Int.reduceToNat, reduceCtorEq, -List.reduceReplicate, List.toList_toArray, hCl, hCa, hb]
      | with_reducible refine right_t hsm O.is ?_
      | with_reducible refine dname_t hsm hwl O.is hw0 ?_
    obtain ⟨b3, e30⟩ : ∃ x, x = nb := ⟨_, rfl⟩
    subst e30
    refine lnorm_t hsm O.is fun G1 v1 hle1 hs1 hI1 => ?_
    rw [hnr] at hI1 ⊢
    have hI1 : IsD G1 (withN d (usedS d)) v1 := hI1
    obtain ⟨C1, an1, al1, ay1, cn1, cl1, cs1, rs1, rfl, O1⟩ := hI1.opened
    have hC1l := O1.len
    have hone1 := wdf_one O1.is
    have hput1 := wdf_put hC1l
    have htk1 : List.take 260 C1 = C1 := List.take_of_length_le (by omega)
    have hsE := hs1
    try simp only [keys_cons, keys_app, keys_nil, Sep_cons, Sep_nil, NotIn_cons, NotIn_app, NotIn_nil, List.cons_append, List.nil_append, List.append_assoc, and_assoc, and_true, true_and] at hsE
    repeat (obtain ⟨hsx, hsE⟩ := hsE)
    have hul7 : (usedS d).length ≤ 7000000 := by omega
    obtain ⟨Y, y, hYe, hYc⟩ : ∃ Y y, namesR d (unionS [usedS d, [other]].flatten) = (Y, y) ∧ ((y = 0 ∧ Y = withN d (unionS [usedS d, [other]].flatten) ∧ namesOk (unionS [usedS d, [other]].flatten)) ∨ (y = 1 ∧ ¬ (usedS d).length < 64)) := by
      by_cases hU64 : namesOk (unionS [usedS d, [other]].flatten)
      · exact ⟨_, _, namesR_ok hok hU64 (by rw [← hU]; exact hUs), .inl ⟨rfl, rfl, hU64⟩⟩
      · exact ⟨_, _, namesR_not hok hU64, .inr ⟨rfl, fun h => hU64 (union_names hok h)⟩⟩
    have hYs : SmallD Y := by have := namesR_small hsm hUl hUls; rw [hU, hYe] at this; exact this
    rw [hU] at hUl hUls
    repeat' first
      | with_reducible refine Br.yes ?_
      | with_reducible refine Br.no ?_
      | with_reducible refine Br.dec (fun _ => ?_) (fun _ => ?_)
      | with_reducible refine Br.beqB (fun _ => ?_) (fun _ => ?_)
      | with_reducible refine Br.beqb (fun _ => ?_) (fun _ => ?_)
      | with_reducible refine Br.mk (fun _ => ?_) (fun _ => ?_)
      | with_reducible refine foundO.mk (fun _ _ => ?_) (fun _ => ?_)
      | with_reducible refine appV.zero ?_
      | with_reducible refine appV.own ?_
      | ((with_reducible refine NewB.mk fun nb hnb => ?_); have hnb1 := hnb.1.1; have hnb2 := hnb.1.2; try simp only [keys_cons, keys_app, keys_nil, NotIn_cons, NotIn_app, NotIn_nil, and_true] at hnb2)
      | ((with_reducible refine NewRow.mk fun nb nsp ncap hnb hncap => ?_); have hnb1 := hnb.1.1; have hnb2 := hnb.1.2; try simp only [keys_cons, keys_app, keys_nil, NotIn_cons, NotIn_app, NotIn_nil, and_true] at hnb2)
      | simp (dsimp := false) (implicitDefEqProofs := false) (disch := first | assumption | (simp only [List.mem_cons, List.mem_append, true_or, or_true, eq_self]; done) | omega | (with_reducible refine Row.adr (by assumption) ?_; simp only [List.length_map, List.length_take, List.length_drop]; omega) | (simp only [List.length_cons, List.length_nil, List.length_map, List.length_append, List.length_replicate, Nat.reduceAdd, true_and, and_true, and_self]; first | done | omega)) only [go_sem, ↓reduceIte, Nat.reduceEqDiff, Nat.reduceAdd, Nat.reduceSub, Nat.reduceMul, Nat.reduceBEq, Nat.reduceLT, Nat.reduceLeDiff, Nat.reduceMod, Nat.reducePow, List.reduceReplicate, UInt8.reduceOfNat, Int.reducePow, Int.reduceDiv, Int.reduceMod, Nat.reduceDiv, Int.reduceNeg, Int.reduceAdd, Int.reduceSub, Int.reduceMul, Int.reduceLE, Int.reduceLT, Int.reduceEq, Int.reduceToNat, reduceCtorEq, -List.reduceReplicate, List.toList_toArray, hCl, hCa, hC1l, hone1, hput1, zeroC_len, hr1, hr2]
      | with_reducible refine Tri.drawS tok mixed [0, 1, 2, 3, 6, 7, 8, 9, 10, 11, 12, 13, 14, 15, 18, 78, 102, 109, 117] 5 [0, 1] (.op 0 .held (.op 1 .held (.both (.op 2 .keeps (.both (.op 3 .keeps (.both (.op 4 .keeps (.both (.op 5 .keeps (.both (.op 6 .keeps (.op 7 .plain (.op 8 .plain (.op 9 .plain (.op 10 .keeps (.op 11 .plain (.op 12 .plain .nil))))))) (.op 10 .keeps (.op 6 .keeps (.op 7 .plain (.op 8 .plain (.op 9 .plain (.op 11 .plain (.op 12 .plain .nil))))))))) (.op 10 .keeps (.op 5 .keeps (.op 6 .keeps (.op 7 .plain (.op 8 .plain (.op 9 .plain (.op 11 .plain (.op 12 .plain .nil)))))))))) (.op 10 .keeps (.op 4 .keeps (.op 5 .keeps (.op 6 .keeps (.op 7 .plain (.op 8 .plain (.op 9 .plain (.op 11 .plain (.op 12 .plain .nil))))))))))) (.op 10 .keeps (.op 3 .keeps (.op 4 .keeps (.op 5 .keeps (.op 6 .keeps (.op 7 .plain (.op 8 .plain (.op 9 .plain (.op 11 .plain (.op 12 .plain .nil)))))))))))) (.both (.op 3 .keeps (.both (.op 2 .keeps (.both (.op 4 .keeps (.both (.op 5 .keeps (.both (.op 6 .keeps (.op 7 .plain (.op 8 .plain (.op 9 .plain (.op 10 .keeps (.op 11 .plain (.op 12 .plain .nil))))))) (.op 10 .keeps (.op 6 .keeps (.op 7 .plain (.op 8 .plain (.op 9 .plain (.op 11 .plain (.op 12 .plain .nil))))))))) (.op 10 .keeps (.op 5 .keeps (.op 6 .keeps (.op 7 .plain (.op 8 .plain (.op 9 .plain (.op 11 .plain (.op 12 .plain .nil)))))))))) (.op 10 .keeps (.op 4 .keeps (.op 5 .keeps (.op 6 .keeps (.op 7 .plain (.op 8 .plain (.op 9 .plain (.op 11 .plain (.op 12 .plain .nil))))))))))) (.op 10 .keeps (.op 2 .keeps (.op 4 .keeps (.op 5 .keeps (.op 6 .keeps (.op 7 .plain (.op 8 .plain (.op 9 .plain (.op 11 .plain (.op 12 .plain .nil)))))))))))) (.op 10 .keeps (.both (.op 2 .keeps (.op 3 .keeps (.op 4 .keeps (.op 5 .keeps (.op 6 .keeps (.op 7 .plain (.op 8 .plain (.op 9 .plain (.op 11 .plain (.op 12 .plain .nil)))))))))) (.op 3 .keeps (.op 2 .keeps (.op 4 .keeps (.op 5 .keeps (.op 6 .keeps (.op 7 .plain (.op 8 .plain (.op 9 .plain (.op 11 .plain (.op 12 .plain .nil)))))))))))))))) (by kernel_rfl) [(b3, .cells C [] 27)] (by intro fsum; first | exact Nat.le_refl _ | (simp only [List.map_append, List.map_cons, List.map_nil, List.sum_append, List.sum_cons, List.sum_nil, List.cons_append, List.nil_append]; omega)) ?_
      | with_reducible refine And.intro ?_ ?_
      | ((with_reducible refine used_t hsm (O.is.mono hle1) fun G2 v2 hle2 hs2 hI2 => ?_); rw [hur] at hI2; obtain ⟨a2, c2, rfl, hr2', hc2⟩ := id hI2; (have hsE := hs2; try simp only [keys_cons, keys_app, keys_nil, Sep_cons, Sep_nil, NotIn_cons, NotIn_app, NotIn_nil, List.cons_append, List.nil_append, List.append_assoc, and_assoc, and_true, true_and] at hsE; repeat (obtain ⟨hsx, hsE⟩ := hsE)))
      | ((with_reducible refine unionTwo (b38 := ?_) (e1 := 25) (e2 := 9) hul7 hI2 ?_ ?_ ?_ ?_); rotate_left; (focus (first | rfl | ((repeat rw [findH_ne (by omega)]); first | rfl | (rw [findH_same])))); (focus ((repeat rw [findH_ne (by omega)]); first | rfl | (rw [findH_same]))); (focus omega); intro G3 v3 hle3 hs3 hI3; (repeat rw [eraseH_ne (by omega)] at hs3); (try rw [eraseH_same] at hs3); (have hsE := hs3; try simp only [keys_cons, keys_app, keys_nil, Sep_cons, Sep_nil, NotIn_cons, NotIn_app, NotIn_nil, List.cons_append, List.nil_append, List.append_assoc, and_assoc, and_true, true_and] at hsE; repeat (obtain ⟨hsx, hsE⟩ := hsE)); obtain ⟨a3, c3, rfl, hr3, hc3⟩ := id hI3)
    all_goals
      refine lnames_t hsm hUl hUls (O.is.mono (hle1.trans (hle2.trans hle3))) hI3 fun G4 v4 hle4 hs4 hI4 => ?_
      rw [hYe] at hI4 ⊢
      have hI4 : IsD G4 Y v4 := hI4
      obtain ⟨C2, an2, al2, ay2, cn2, cl2, cs2, rs2, rfl, O2⟩ := hI4.opened
      have hC2l := O2.len
      have hone2 := wdf_one O2.is
      have hput2 := wdf_put hC2l
      have hsE := hs4
      try simp only [keys_cons, keys_app, keys_nil, Sep_cons, Sep_nil, NotIn_cons, NotIn_app, NotIn_nil, List.cons_append, List.nil_append, List.append_assoc, and_assoc, and_true, true_and] at hsE
      repeat (obtain ⟨hsx, hsE⟩ := hsE)
      repeat' first
        | with_reducible refine Br.yes ?_
        | with_reducible refine Br.no ?_
        | with_reducible refine Br.dec (fun _ => ?_) (fun _ => ?_)
        | with_reducible refine Br.beqB (fun _ => ?_) (fun _ => ?_)
        | with_reducible refine Br.beqb (fun _ => ?_) (fun _ => ?_)
        | with_reducible refine Br.mk (fun _ => ?_) (fun _ => ?_)
        | with_reducible refine foundO.mk (fun _ _ => ?_) (fun _ => ?_)
        | with_reducible refine appV.zero ?_
        | with_reducible refine appV.own ?_
        | ((with_reducible refine NewB.mk fun nb hnb => ?_); have hnb1 := hnb.1.1; have hnb2 := hnb.1.2; try simp only [keys_cons, keys_app, keys_nil, NotIn_cons, NotIn_app, NotIn_nil, and_true] at hnb2)
        | ((with_reducible refine NewRow.mk fun nb nsp ncap hnb hncap => ?_); have hnb1 := hnb.1.1; have hnb2 := hnb.1.2; try simp only [keys_cons, keys_app, keys_nil, NotIn_cons, NotIn_app, NotIn_nil, and_true] at hnb2)
        | simp (dsimp := false) (implicitDefEqProofs := false) (disch := first | assumption | (simp only [List.mem_cons, List.mem_append, true_or, or_true, eq_self]; done) | omega | (with_reducible refine Row.adr (by assumption) ?_; simp only [List.length_map, List.length_take, List.length_drop]; omega) | (simp only [List.length_cons, List.length_nil, List.length_map, List.length_append, List.length_replicate, Nat.reduceAdd, true_and, and_true, and_self]; first | done | omega)) only [go_sem, ↓reduceIte, Nat.reduceEqDiff, Nat.reduceAdd, Nat.reduceSub, Nat.reduceMul, Nat.reduceBEq, Nat.reduceLT, Nat.reduceLeDiff, Nat.reduceMod, Nat.reducePow, List.reduceReplicate, UInt8.reduceOfNat, Int.reducePow, Int.reduceDiv, Int.reduceMod, Nat.reduceDiv, Int.reduceNeg, Int.reduceAdd, Int.reduceSub, Int.reduceMul, Int.reduceLE, Int.reduceLT, Int.reduceEq, Int.reduceToNat, reduceCtorEq, -List.reduceReplicate, List.toList_toArray, hCl, hCa, hC1l, hone1, hput1, zeroC_len, hC2l, hone2, hput2]
      have k4 := hle1.trans (hle2.trans (hle3.trans hle4))
      refine Tri.live [1, 2, 3, 6, 7, 8, 9, 10, 11] ?_
      refine Tri.upd (Upd.go (H' := (_, .cells C1 [] 27) :: (_, .cells C2 [] 27) :: (b3, .cells C [] 27) :: H) ?_ (Upd.now (Tri.isPiece [1, 1, 1, 1, 1] Try.f6 (by kernel_rfl) (t5_t hsm hwl hnl (O.mono k4) (hw0.mono k4) hok (O1.is.mono (hle2.trans (hle3.trans hle4))) hYc O2.is hYs fun G' hle => hR G' (k4.trans hle)))))
      exact (by intro fsum; simp only [List.map_append, List.map_cons, List.map_nil, List.sum_append, List.sum_cons, List.sum_nil, List.cons_append, List.nil_append]; omega)
  · have hb := boolOf_no hok
    have hur : usedR d = [] := by unfold usedR; rw [if_neg (by rw [hb]; exact Bool.false_ne_true)]
    refine FnT.body tok [0, 1, 2, 3, 6, 7, 8, 9, 10, 11, 12, 13, 14, 15, 18, 78, 102, 109, 117] Try.func6 rfl (by kernel_rfl) (by kernel_rfl) (by show _ ≤ 135; simp) fun hsep => ?_
    rw [Try.results6]
    have hsE := hsep
    try simp only [keys_cons, keys_app, keys_nil, Sep_cons, Sep_nil, NotIn_cons, NotIn_app, NotIn_nil, List.cons_append, List.nil_append, List.append_assoc, and_assoc, and_true, true_and] at hsE
    repeat (obtain ⟨hsx, hsE⟩ := hsE)
    repeat' first
      | with_reducible refine Br.yes ?_
      | with_reducible refine Br.no ?_
      | with_reducible refine Br.dec (fun _ => ?_) (fun _ => ?_)
      | with_reducible refine Br.beqB (fun _ => ?_) (fun _ => ?_)
      | with_reducible refine Br.beqb (fun _ => ?_) (fun _ => ?_)
      | with_reducible refine Br.mk (fun _ => ?_) (fun _ => ?_)
      | with_reducible refine foundO.mk (fun _ _ => ?_) (fun _ => ?_)
      | with_reducible refine appV.zero ?_
      | with_reducible refine appV.own ?_
      | ((with_reducible refine NewB.mk fun nb hnb => ?_); have hnb1 := hnb.1.1; have hnb2 := hnb.1.2; try simp only [keys_cons, keys_app, keys_nil, NotIn_cons, NotIn_app, NotIn_nil, and_true] at hnb2)
      | ((with_reducible refine NewRow.mk fun nb nsp ncap hnb hncap => ?_); have hnb1 := hnb.1.1; have hnb2 := hnb.1.2; try simp only [keys_cons, keys_app, keys_nil, NotIn_cons, NotIn_app, NotIn_nil, and_true] at hnb2)
      | simp (dsimp := false) (implicitDefEqProofs := false) (disch := first | assumption | (simp only [List.mem_cons, List.mem_append, true_or, or_true, eq_self]; done) | omega | (with_reducible refine Row.adr (by assumption) ?_; simp only [List.length_map, List.length_take, List.length_drop]; omega) | (simp only [List.length_cons, List.length_nil, List.length_map, List.length_append, List.length_replicate, Nat.reduceAdd, true_and, and_true, and_self]; first | done | omega)) only [go_sem, ↓reduceIte, Nat.reduceEqDiff, Nat.reduceAdd, Nat.reduceSub, Nat.reduceMul, Nat.reduceBEq, Nat.reduceLT, Nat.reduceLeDiff, Nat.reduceMod, Nat.reducePow, List.reduceReplicate, UInt8.reduceOfNat, Int.reducePow, Int.reduceDiv, Int.reduceMod, Nat.reduceDiv, Int.reduceNeg, Int.reduceAdd, Int.reduceSub, Int.reduceMul, Int.reduceLE, Int.reduceLT, Int.reduceEq, Int.reduceToNat, reduceCtorEq, -List.reduceReplicate, List.toList_toArray, hCl, hCa, hb]
      | with_reducible refine right_t hsm O.is ?_
    refine used_t hsm O.is fun G1 v1 hle1 hs1 hI1 => ?_
    rw [hur] at hI1
    obtain ⟨a1, c1, rfl, hr1, hc1⟩ := hI1
    have hsE := hs1
    try simp only [keys_cons, keys_app, keys_nil, Sep_cons, Sep_nil, NotIn_cons, NotIn_app, NotIn_nil, List.cons_append, List.nil_append, List.append_assoc, and_assoc, and_true, true_and] at hsE
    repeat (obtain ⟨hsx, hsE⟩ := hsE)
    repeat' first
      | with_reducible refine Br.yes ?_
      | with_reducible refine Br.no ?_
      | with_reducible refine Br.dec (fun _ => ?_) (fun _ => ?_)
      | with_reducible refine Br.beqB (fun _ => ?_) (fun _ => ?_)
      | with_reducible refine Br.beqb (fun _ => ?_) (fun _ => ?_)
      | with_reducible refine Br.mk (fun _ => ?_) (fun _ => ?_)
      | with_reducible refine foundO.mk (fun _ _ => ?_) (fun _ => ?_)
      | with_reducible refine appV.zero ?_
      | with_reducible refine appV.own ?_
      | ((with_reducible refine NewB.mk fun nb hnb => ?_); have hnb1 := hnb.1.1; have hnb2 := hnb.1.2; try simp only [keys_cons, keys_app, keys_nil, NotIn_cons, NotIn_app, NotIn_nil, and_true] at hnb2)
      | ((with_reducible refine NewRow.mk fun nb nsp ncap hnb hncap => ?_); have hnb1 := hnb.1.1; have hnb2 := hnb.1.2; try simp only [keys_cons, keys_app, keys_nil, NotIn_cons, NotIn_app, NotIn_nil, and_true] at hnb2)
      | simp (dsimp := false) (implicitDefEqProofs := false) (disch := first | assumption | (simp only [List.mem_cons, List.mem_append, true_or, or_true, eq_self]; done) | omega | (with_reducible refine Row.adr (by assumption) ?_; simp only [List.length_map, List.length_take, List.length_drop]; omega) | (simp only [List.length_cons, List.length_nil, List.length_map, List.length_append, List.length_replicate, Nat.reduceAdd, true_and, and_true, and_self]; first | done | omega)) only [go_sem, ↓reduceIte, Nat.reduceEqDiff, Nat.reduceAdd, Nat.reduceSub, Nat.reduceMul, Nat.reduceBEq, Nat.reduceLT, Nat.reduceLeDiff, Nat.reduceMod, Nat.reducePow, List.reduceReplicate, UInt8.reduceOfNat, Int.reducePow, Int.reduceDiv, Int.reduceMod, Nat.reduceDiv, Int.reduceNeg, Int.reduceAdd, Int.reduceSub, Int.reduceMul, Int.reduceLE, Int.reduceLT, Int.reduceEq, Int.reduceToNat, reduceCtorEq, -List.reduceReplicate, List.toList_toArray, hCl, hCa, hb, List.length_nil]
      | ((with_reducible refine knows_t fun G7 hle7 hs7 => ?_); (have hsE := hs7; try simp only [keys_cons, keys_app, keys_nil, Sep_cons, Sep_nil, NotIn_cons, NotIn_app, NotIn_nil, List.cons_append, List.nil_append, List.append_assoc, and_assoc, and_true, true_and] at hsE; repeat (obtain ⟨hsx, hsE⟩ := hsE)))
    all_goals refine Upd.finL ?_ (hR G7 (hle1.trans hle7)) ?_
    any_goals (intro fsum; first | exact Nat.le_refl _ | (simp only [List.map_append, List.map_cons, List.map_nil, List.sum_append, List.sum_cons, List.sum_nil, List.cons_append, List.nil_append]; omega))
    all_goals rfl
end Go.Proofs.Ytpagkndgjihbbaa
