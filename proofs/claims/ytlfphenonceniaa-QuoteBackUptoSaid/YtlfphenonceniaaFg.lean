/- The fourth law: contract. -/
import Derived.Test.YtlfphenonceniaaFf
set_option linter.unusedSimpArgs false
set_option linter.unusedVariables false
namespace Go.Proofs.Ytlfphenonceniaa
open Go Go.V Go.Proofs

theorem quoteF_len (a : List UInt8) : (quoteF a).length ≤ 4 * a.length + 2 := by
  unfold quoteF; split
  · simp
  · have := flat_len a; omega

theorem uF_len : ∀ (n : Nat) {s l : List UInt8}, s.length ≤ n → uF s = some l → l.length ≤ s.length
  | 0, [], l, _, h => by rw [uF] at h; cases h; simp
  | n + 1, [], l, _, h => by rw [uF] at h; cases h; simp
  | 0, c :: s, l, hn, h => by simp at hn
  | n + 1, c :: s, l, hn, h => by
    simp only [List.length_cons] at hn
    rcases uF_cases h with ⟨_, l', h', rfl⟩ | ⟨_, a, b, r, l', rfl, _, h', rfl⟩
    · have := uF_len n (by omega) h'
      simp; omega
    · simp only [List.length_cons] at hn
      have := uF_len n (by omega) h'
      simp; omega
theorem unq_len (s : List UInt8) : (unq s).1.length ≤ s.length := by
  unfold unq; split
  · simp
  · cases h : uF s with
    | none => simp
    | some l => exact uF_len s.length (Nat.le_refl _) h

theorem back_t (a b s : List UInt8) (ha : a.length + b.length ≤ 1048576) (hs : s.length ≤ 1048576) {G : PHeap} {H : Heap} {R : Value → PHeap → Heap → Prop} {va vb : Value} (hva : SliceB G va a) (hvb : SliceB G vb b)
    (hR : ∀ G', PLe G G' → Sep G' (keys H) → R (.bool true) G' H) : FnT Try.prog 6 [va, vb, str s] G H R := by
  refine FnT.body tok [0, 1, 2, 6, 7, 8, 9, 10, 11, 30, 42] Try.func6 rfl (by kernel_rfl) (by kernel_rfl) (by show _ ≤ 66; simp) fun hsep => ?_
  rw [Try.results6]
  have hl := quoteF_len a
  have hlb := quoteF_len b
  repeat' first
    | with_reducible refine Br.yes ?_
    | with_reducible refine Br.no ?_
    | with_reducible refine Br.dec (fun _ => ?_) (fun _ => ?_)
    | with_reducible refine Br.beqB (fun _ => ?_) (fun _ => ?_)
    | with_reducible refine Br.beqb (fun _ => ?_) (fun _ => ?_)
    | with_reducible refine Br.mk (fun _ => ?_) (fun _ => ?_)
    | ((with_reducible refine NewB.mk fun nb hnb => ?_); have hnb1 := hnb.1.1; have hnb2 := hnb.1.2; try simp only [keys_cons, keys_nil, NotIn_cons, NotIn_nil, and_true] at hnb2)
    | ((with_reducible refine NewRow.mk fun nb nsp ncap hnb hncap => ?_); have hnb1 := hnb.1.1; have hnb2 := hnb.1.2; try simp only [keys_cons, keys_nil, NotIn_cons, NotIn_nil, and_true] at hnb2)
    | simp (dsimp := false) (implicitDefEqProofs := false) (disch := first | assumption | omega | (with_reducible refine Row.adr (by assumption) ?_; simp only [List.length_map, List.length_take, List.length_drop]; omega) | (simp only [List.length_cons, List.length_nil, List.length_map, List.length_append, List.length_replicate, Nat.reduceAdd, true_and, and_true, and_self]; first | done | omega)) only [go_sem, ↓reduceIte, Nat.reduceEqDiff, Nat.reduceAdd, Nat.reduceSub, Nat.reduceMul, Nat.reduceBEq, Nat.reduceLT, Nat.reduceLeDiff, Nat.reduceMod, Nat.reducePow, List.reduceReplicate, UInt8.reduceOfNat, Int.reducePow, Int.reduceDiv, Int.reduceMod, Nat.reduceDiv, Int.reduceNeg, Int.reduceAdd, Int.reduceSub, Int.reduceMul, Int.reduceLE, Int.reduceLT, Int.reduceEq, Int.reduceToNat, decide_true, decide_false, reduceCtorEq, ne_eq, not_false_eq_true, not_true_eq_false, and_true, true_and, and_self, or_true, true_or, or_false, false_or, or_self, eq_self, Nat.zero_add, Nat.add_zero, Nat.mul_one, Nat.one_mul, Nat.zero_mul, List.length_cons, List.length_nil, List.getElem?_cons_zero, List.getElem?_cons_succ, List.map_cons, List.map_nil, List.append_nil]
    | refine quote_t a (by omega) hva ?_
  refine unquote_t (quoteF a) (by omega) fun v G2 hle2 hs2 hc => ?_
  rw [unq_quote] at hc ⊢
  obtain ⟨a1, capa, rfl, hrowa, hcapa⟩ := hva.mono hle2
  obtain ⟨b1, capb, rfl, hrowb, hcapb⟩ := hvb.mono hle2
  obtain ⟨c1, capc, rfl, hrowc, hcapc⟩ := hc
  repeat' first
    | with_reducible refine Br.yes ?_
    | with_reducible refine Br.no ?_
    | with_reducible refine Br.dec (fun _ => ?_) (fun _ => ?_)
    | with_reducible refine Br.beqB (fun _ => ?_) (fun _ => ?_)
    | with_reducible refine Br.beqb (fun _ => ?_) (fun _ => ?_)
    | with_reducible refine Br.mk (fun _ => ?_) (fun _ => ?_)
    | ((with_reducible refine NewB.mk fun nb hnb => ?_); have hnb1 := hnb.1.1; have hnb2 := hnb.1.2; try simp only [keys_cons, keys_nil, NotIn_cons, NotIn_nil, and_true] at hnb2)
    | ((with_reducible refine NewRow.mk fun nb nsp ncap hnb hncap => ?_); have hnb1 := hnb.1.1; have hnb2 := hnb.1.2; try simp only [keys_cons, keys_nil, NotIn_cons, NotIn_nil, and_true] at hnb2)
    | simp (dsimp := false) (implicitDefEqProofs := false) (disch := first | assumption | omega | (with_reducible refine Row.adr (by assumption) ?_; simp only [List.length_map, List.length_take, List.length_drop]; omega) | (simp only [List.length_cons, List.length_nil, List.length_map, List.length_append, List.length_replicate, Nat.reduceAdd, true_and, and_true, and_self]; first | done | omega)) only [go_sem, ↓reduceIte, Nat.reduceEqDiff, Nat.reduceAdd, Nat.reduceSub, Nat.reduceMul, Nat.reduceBEq, Nat.reduceLT, Nat.reduceLeDiff, Nat.reduceMod, Nat.reducePow, List.reduceReplicate, UInt8.reduceOfNat, Int.reducePow, Int.reduceDiv, Int.reduceMod, Nat.reduceDiv, Int.reduceNeg, Int.reduceAdd, Int.reduceSub, Int.reduceMul, Int.reduceLE, Int.reduceLT, Int.reduceEq, Int.reduceToNat, decide_true, decide_false, reduceCtorEq, ne_eq, not_false_eq_true, not_true_eq_false, and_true, true_and, and_self, or_true, true_or, or_false, false_or, or_self, eq_self, Nat.zero_add, Nat.add_zero, Nat.mul_one, Nat.one_mul, Nat.zero_mul, List.length_cons, List.length_nil, List.getElem?_cons_zero, List.getElem?_cons_succ, List.map_cons, List.map_nil, List.append_nil, Row.rdSlAll hrowc, Row.rdSlAll hrowa, str]
    | refine knows_t fun G3 hle3 hs3 => ?_
  any_goals (rename_i h; exact absurd rfl h)
  refine unquote_t s (by omega) fun vd G4 hle4 hs4 hd => ?_
  have hdl := unq_len s
  have hva4 : SliceB G4 (.slice a1 a.length capa) a := ⟨_, _, rfl, hrowa.mono (hle3.trans hle4), hcapa⟩
  have hvb4 : SliceB G4 (.slice b1 b.length capb) b := ⟨_, _, rfl, hrowb.mono (hle3.trans hle4), hcapb⟩
  have hrowa4 := hrowa.mono (hle3.trans hle4)
  have hrowb4 := hrowb.mono (hle3.trans hle4)
  have hqs := quote_unq s
  have hle : PLe G G4 := hle2.trans (hle3.trans hle4)
  repeat' first
    | with_reducible refine Br.yes ?_
    | with_reducible refine Br.no ?_
    | with_reducible refine Br.dec (fun _ => ?_) (fun _ => ?_)
    | with_reducible refine Br.beqB (fun _ => ?_) (fun _ => ?_)
    | with_reducible refine Br.beqb (fun _ => ?_) (fun _ => ?_)
    | with_reducible refine Br.mk (fun _ => ?_) (fun _ => ?_)
    | ((with_reducible refine NewB.mk fun nb hnb => ?_); have hnb1 := hnb.1.1; have hnb2 := hnb.1.2; try simp only [keys_cons, keys_nil, NotIn_cons, NotIn_nil, and_true] at hnb2)
    | ((with_reducible refine NewRow.mk fun nb nsp ncap hnb hncap => ?_); have hnb1 := hnb.1.1; have hnb2 := hnb.1.2; try simp only [keys_cons, keys_nil, NotIn_cons, NotIn_nil, and_true] at hnb2)
    | simp (dsimp := false) (implicitDefEqProofs := false) (disch := first | assumption | omega | (with_reducible refine Row.adr (by assumption) ?_; simp only [List.length_map, List.length_take, List.length_drop]; omega) | (simp only [List.length_cons, List.length_nil, List.length_map, List.length_append, List.length_replicate, Nat.reduceAdd, true_and, and_true, and_self]; first | done | omega)) only [go_sem, ↓reduceIte, Nat.reduceEqDiff, Nat.reduceAdd, Nat.reduceSub, Nat.reduceMul, Nat.reduceBEq, Nat.reduceLT, Nat.reduceLeDiff, Nat.reduceMod, Nat.reducePow, List.reduceReplicate, UInt8.reduceOfNat, Int.reducePow, Int.reduceDiv, Int.reduceMod, Nat.reduceDiv, Int.reduceNeg, Int.reduceAdd, Int.reduceSub, Int.reduceMul, Int.reduceLE, Int.reduceLT, Int.reduceEq, Int.reduceToNat, decide_true, decide_false, reduceCtorEq, ne_eq, not_false_eq_true, not_true_eq_false, and_true, true_and, and_self, or_true, true_or, or_false, false_or, or_self, eq_self, Nat.zero_add, Nat.add_zero, Nat.mul_one, Nat.one_mul, Nat.zero_mul, List.length_cons, List.length_nil, List.getElem?_cons_zero, List.getElem?_cons_succ, List.map_cons, List.map_nil, List.append_nil, Row.rdSlAll hrowa4, Row.rdSlAll hrowb4, str]
    | (with_reducible refine quote_t _ ?_ (by assumption) ?_ <;> try omega)
    | (refine SlO.call (H := H) (xs := a ++ b) (v := .slice (some ⟨nb, 0, none⟩) (a.length + b.length) ncap) callee14 (.inr ⟨nb, ncap, nsp, by rw [List.length_append], by rw [List.map_append], by rw [List.length_append]; omega⟩) (by assumption) fun G5 hle5 hs5 hb5 => ?_; have hva5 := hva4.mono hle5; have hvb5 := hvb4.mono hle5; refine quote_t (a ++ b) (by rw [List.length_append]; omega) hb5 ?_)
  all_goals first
    | exact Upd.finS (show List.Sublist _ _ from List.sublist_cons_self _ _) (hR G4 hle hs4) rfl
    | exact Upd.finS (show List.Sublist _ _ from List.Sublist.refl _) (hR G4 hle hs4) rfl
    | (exfalso; apply ‹¬ quoteF (unq s).1 = s›; exact hqs (by assumption))
    | skip
  all_goals
    have e := quote_app a b (by intro e; subst e; simp at *) (by intro e; subst e; simp at *)
    exact Upd.finS (show List.Sublist _ _ from List.Sublist.refl _) (hR G5 (hle.trans hle5) hs5) (by rw [e]; simp)
end Go.Proofs.Ytlfphenonceniaa
