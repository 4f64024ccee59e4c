/- The writers of text: contracts. -/
import Derived.Test.YtlfphenonceniaaFa
set_option linter.unusedSimpArgs false
set_option linter.unusedVariables false
namespace Go.Proofs.Ytlfphenonceniaa
open Go Go.V Go.Proofs

def digU (n : Nat) : UInt8 := digitsF.getD n 0
def oneF (c : UInt8) : List UInt8 := if plainF c.toNat then [c] else [92, 120, digU (c.toNat / 16), digU (c.toNat % 16)]

theorem rone_t (c : UInt8) : Gives Try.prog 18 [.int .u8 c.toNat] (.string ⟨(oneF c).toArray⟩) := by
  intro G H R hR
  have hc := c.toNat_lt
  refine FnT.body tok [0, 2, 4] Try.func18 rfl (by kernel_rfl) (by kernel_rfl) (by show _ ≤ 16; simp) fun hsep => ?_
  rw [Try.results18]
  repeat' first
    | with_reducible refine Br.yes ?_
    | with_reducible refine Br.no ?_
    | with_reducible refine Br.dec (fun _ => ?_) (fun _ => ?_)
    | with_reducible refine Br.beqB (fun _ => ?_) (fun _ => ?_)
    | with_reducible refine Br.beqb (fun _ => ?_) (fun _ => ?_)
    | with_reducible refine Br.mk (fun _ => ?_) (fun _ => ?_)
    | ((with_reducible refine NewB.mk fun nb hnb => ?_); have hnb1 := hnb.1.1; have hnb2 := hnb.1.2; try simp only [keys_cons, keys_nil, NotIn_cons, NotIn_nil, and_true] at hnb2)
    | ((with_reducible refine NewRow.mk fun nb nsp ncap hnb hncap => ?_); have hnb1 := hnb.1.1; have hnb2 := hnb.1.2; try simp only [keys_cons, keys_nil, NotIn_cons, NotIn_nil, and_true] at hnb2)
    | with_reducible refine Tri.drawM tok mixed [0, 2, 4] 3 [] (.op 0 .plain (.op 1 .plain (.op 2 .plain (.op 3 .plain (.op 4 .plain (.op 5 .plain (.op 6 .keeps (.op 7 .keeps (.op 8 .plain .nil))))))))) (by kernel_rfl) [] (List.nil_sublist _) ?_
    | simp (dsimp := false) (implicitDefEqProofs := false) (disch := first | assumption | omega | (with_reducible refine Row.adr (by assumption) ?_; simp only [List.length_map, List.length_take, List.length_drop]; omega) | (simp only [List.length_cons, List.length_nil, List.length_map, List.length_append, List.length_replicate, Nat.reduceAdd, true_and, and_true, and_self]; first | done | omega)) only [go_sem, ↓reduceIte, Nat.reduceEqDiff, Nat.reduceAdd, Nat.reduceSub, Nat.reduceMul, Nat.reduceBEq, Nat.reduceLT, Nat.reduceLeDiff, Nat.reduceMod, Nat.reducePow, List.reduceReplicate, UInt8.reduceOfNat, Int.reducePow, Int.reduceDiv, Int.reduceMod, Nat.reduceDiv, Int.reduceNeg, Int.reduceAdd, Int.reduceSub, Int.reduceMul, Int.reduceLE, Int.reduceLT, Int.reduceEq, Int.reduceToNat, decide_true, decide_false, reduceCtorEq, ne_eq, not_false_eq_true, not_true_eq_false, and_true, true_and, and_self, or_true, true_or, or_false, false_or, or_self, eq_self, Nat.zero_add, Nat.add_zero, Nat.mul_one, Nat.one_mul, Nat.zero_mul, List.length_cons, List.length_nil, List.getElem?_cons_zero, List.getElem?_cons_succ, List.map_cons, List.map_nil, List.append_nil]
    | refine rplain_t _ (by omega) (by omega) ?_
  all_goals refine Upd.finS (show List.Sublist _ _ from ?_) hR ?_
  any_goals repeat (first | exact List.Sublist.refl _ | refine List.Sublist.cons_cons _ ?_ | refine List.Sublist.cons _ ?_)
  · congr 2; unfold oneF; rw [if_pos (by assumption)]
  · congr 2; unfold oneF; rw [if_neg (by simp [*])]
    have e : ∀ (m : Nat) (z : Int) (h : z.toNat < digitsF.length), z = m → digitsF[z.toNat] = digU m := fun m z h e => by
      subst e; unfold digU
      rw [List.getD_eq_getElem?_getD, List.getElem?_eq_getElem (show m < digitsF.length from h)]; rfl
    rw [← e (c.toNat / 16) (c.toNat / 16) (by show _ < 16; omega) (by omega), ← e (c.toNat % 16) (c.toNat % 16) (by show _ < 16; omega) (by omega)]
    rfl

theorem oneF_len (c : UInt8) : (oneF c).length ≤ 4 := by unfold oneF; split <;> simp
theorem flat_len (bs : List UInt8) : (bs.flatMap oneF).length ≤ 4 * bs.length := by
  induction bs with
  | nil => simp
  | cons c bs ih => simp only [List.flatMap_cons, List.length_append, List.length_cons]; have := oneF_len c; omega
theorem flat_step (bs : List UInt8) (i : Nat) (h : i < bs.length) : (bs.take i).flatMap oneF ++ oneF bs[i] = (bs.take (i + 1)).flatMap oneF := by
  rw [List.take_succ_eq_append_getElem h, List.flatMap_append]; simp

abbrev SliceB (G : PHeap) (v : Value) (bs : List UInt8) : Prop := Sl G byteV v bs
def quoteF (bs : List UInt8) : List UInt8 := if bs = [] then [92, 101] else bs.flatMap oneF

theorem rquote_t (bs : List UInt8) (hlen : bs.length ≤ 1048576) {G : PHeap} {H : Heap} {R : Value → PHeap → Heap → Prop} {v : Value} (hv : SliceB G v bs) (hR : R (str (quoteF bs)) G H) : FnT Try.prog 15 [v] G H R := by
  obtain ⟨a, cap, rfl, hrow, hcap⟩ := hv
  refine FnT.body tok [0, 2, 3, 4, 7, 13] Try.func15 rfl (by kernel_rfl) (by kernel_rfl) (by show _ ≤ 24; simp) fun hsep => ?_
  rw [Try.results15]
  repeat' first
    | with_reducible refine Br.yes ?_
    | with_reducible refine Br.no ?_
    | with_reducible refine Br.dec (fun _ => ?_) (fun _ => ?_)
    | with_reducible refine Br.beqB (fun _ => ?_) (fun _ => ?_)
    | with_reducible refine Br.beqb (fun _ => ?_) (fun _ => ?_)
    | with_reducible refine Br.mk (fun _ => ?_) (fun _ => ?_)
    | ((with_reducible refine NewB.mk fun nb hnb => ?_); have hnb1 := hnb.1.1; have hnb2 := hnb.1.2; try simp only [keys_cons, keys_nil, NotIn_cons, NotIn_nil, and_true] at hnb2)
    | ((with_reducible refine NewRow.mk fun nb nsp ncap hnb hncap => ?_); have hnb1 := hnb.1.1; have hnb2 := hnb.1.2; try simp only [keys_cons, keys_nil, NotIn_cons, NotIn_nil, and_true] at hnb2)
    | simp (dsimp := false) (implicitDefEqProofs := false) (disch := first | assumption | omega | (with_reducible refine Row.adr (by assumption) ?_; simp only [List.length_map, List.length_take, List.length_drop]; omega) | (simp only [List.length_cons, List.length_nil, List.length_map, List.length_append, List.length_replicate, Nat.reduceAdd, true_and, and_true, and_self]; first | done | omega)) only [go_sem, ↓reduceIte, Nat.reduceEqDiff, Nat.reduceAdd, Nat.reduceSub, Nat.reduceMul, Nat.reduceBEq, Nat.reduceLT, Nat.reduceLeDiff, Nat.reduceMod, Nat.reducePow, List.reduceReplicate, UInt8.reduceOfNat, Int.reducePow, Int.reduceDiv, Int.reduceMod, Nat.reduceDiv, Int.reduceNeg, Int.reduceAdd, Int.reduceSub, Int.reduceMul, Int.reduceLE, Int.reduceLT, Int.reduceEq, Int.reduceToNat, decide_true, decide_false, reduceCtorEq, ne_eq, not_false_eq_true, not_true_eq_false, and_true, true_and, and_self, or_true, true_or, or_false, false_or, or_self, eq_self, Nat.zero_add, Nat.add_zero, Nat.mul_one, Nat.one_mul, Nat.zero_mul, List.length_cons, List.length_nil, List.getElem?_cons_zero, List.getElem?_cons_succ, List.map_cons, List.map_nil, List.append_nil, Row.obj hrow, List.getElem_map]
  · rename_i h0
    have : bs = [] := List.eq_nil_of_length_eq_zero (by omega)
    subst this
    all_goals refine Upd.finS (show List.Sublist _ _ from ?_) hR ?_
    any_goals repeat (first | exact List.Sublist.refl _ | refine List.Sublist.cons_cons _ ?_ | refine List.Sublist.cons _ ?_)
    rfl
  · rename_i h0
    refine Tri.loopU tok [0, 2, 3, 4, 7, 13] (by kernel_rfl) [0, 2, 3, 4] (fun n G' l H' => ∃ i : Nat, i + n = bs.length ∧ G' = G ∧ H' = H ∧ l = [(0, .slice a bs.length cap), (2, .string ⟨#[]⟩), (3, .string ⟨((bs.take i).flatMap oneF).toArray⟩), (4, .int .i64 i)]) (bs.length) (Upd.now ?_) ?_
    · exact ⟨0, by omega, rfl, rfl, rfl⟩
    · rintro n G' l H' hle hs ⟨i, hi, rfl, rfl, rfl⟩
      have hl := flat_len (bs.take i)
      rw [List.length_take] at hl
      repeat' first
        | with_reducible refine Br.yes ?_
        | with_reducible refine Br.no ?_
        | with_reducible refine Br.dec (fun _ => ?_) (fun _ => ?_)
        | with_reducible refine Br.beqB (fun _ => ?_) (fun _ => ?_)
        | with_reducible refine Br.beqb (fun _ => ?_) (fun _ => ?_)
        | with_reducible refine Br.mk (fun _ => ?_) (fun _ => ?_)
        | ((with_reducible refine NewB.mk fun nb hnb => ?_); have hnb1 := hnb.1.1; have hnb2 := hnb.1.2; try simp only [keys_cons, keys_nil, NotIn_cons, NotIn_nil, and_true] at hnb2)
        | ((with_reducible refine NewRow.mk fun nb nsp ncap hnb hncap => ?_); have hnb1 := hnb.1.1; have hnb2 := hnb.1.2; try simp only [keys_cons, keys_nil, NotIn_cons, NotIn_nil, and_true] at hnb2)
        | simp (dsimp := false) (implicitDefEqProofs := false) (disch := first | assumption | omega | (with_reducible refine Row.adr (by assumption) ?_; simp only [List.length_map, List.length_take, List.length_drop]; omega) | (simp only [List.length_cons, List.length_nil, List.length_map, List.length_append, List.length_replicate, Nat.reduceAdd, true_and, and_true, and_self]; first | done | omega)) only [go_sem, ↓reduceIte, Nat.reduceEqDiff, Nat.reduceAdd, Nat.reduceSub, Nat.reduceMul, Nat.reduceBEq, Nat.reduceLT, Nat.reduceLeDiff, Nat.reduceMod, Nat.reducePow, List.reduceReplicate, UInt8.reduceOfNat, Int.reducePow, Int.reduceDiv, Int.reduceMod, Nat.reduceDiv, Int.reduceNeg, Int.reduceAdd, Int.reduceSub, Int.reduceMul, Int.reduceLE, Int.reduceLT, Int.reduceEq, Int.reduceToNat, decide_true, decide_false, reduceCtorEq, ne_eq, not_false_eq_true, not_true_eq_false, and_true, true_and, and_self, or_true, true_or, or_false, false_or, or_self, eq_self, Nat.zero_add, Nat.add_zero, Nat.mul_one, Nat.one_mul, Nat.zero_mul, List.length_cons, List.length_nil, List.getElem?_cons_zero, List.getElem?_cons_succ, List.map_cons, List.map_nil, List.append_nil, Row.obj hrow, List.getElem_map]
        | refine rone_t _ ?_
        | refine Ob.mk (by have := oneF_len (bs[i]'(by omega)); omega) ?_
      · refine Upd.now ⟨n - 1, by omega, i + 1, by omega, rfl, rfl, ?_⟩
        rw [← flat_step bs i (by omega)]; rfl
      · have : i = bs.length := by omega
        subst this
        all_goals refine Upd.finS (show List.Sublist _ _ from ?_) hR ?_
        any_goals repeat (first | exact List.Sublist.refl _ | refine List.Sublist.cons_cons _ ?_ | refine List.Sublist.cons _ ?_)
        unfold quoteF str
        rw [if_neg (by intro e; subst e; exact h0 rfl), List.take_length]

theorem digitF_nat {z : Int} {m : Nat} (h : m < 16) (e : z = m) : Value.int .u8 (digitF z) = byteV (digU m) := by
  subst e; unfold digitF digU byteV
  rw [if_neg (by omega)]; simp

theorem quote_t (bs : List UInt8) (hlen : bs.length ≤ 1048576) {G : PHeap} {H : Heap} {R : Value → PHeap → Heap → Prop} {v : Value} (hv : SliceB G v bs) (hR : R (str (quoteF bs)) G H) : FnT Try.prog 14 [v] G H R := by
  obtain ⟨a, cap, rfl, hrow, hcap⟩ := hv
  refine FnT.body tok [0, 2, 3, 5, 8, 12, 13, 14, 15, 19] Try.func14 rfl (by kernel_rfl) (by kernel_rfl) (by show _ ≤ 38; simp) fun hsep => ?_
  rw [Try.results14]
  repeat' first
    | with_reducible refine Br.yes ?_
    | with_reducible refine Br.no ?_
    | with_reducible refine Br.dec (fun _ => ?_) (fun _ => ?_)
    | with_reducible refine Br.beqB (fun _ => ?_) (fun _ => ?_)
    | with_reducible refine Br.beqb (fun _ => ?_) (fun _ => ?_)
    | with_reducible refine Br.mk (fun _ => ?_) (fun _ => ?_)
    | ((with_reducible refine NewB.mk fun nb hnb => ?_); have hnb1 := hnb.1.1; have hnb2 := hnb.1.2; try simp only [keys_cons, keys_nil, NotIn_cons, NotIn_nil, and_true] at hnb2)
    | ((with_reducible refine NewRow.mk fun nb nsp ncap hnb hncap => ?_); have hnb1 := hnb.1.1; have hnb2 := hnb.1.2; try simp only [keys_cons, keys_nil, NotIn_cons, NotIn_nil, and_true] at hnb2)
    | simp (dsimp := false) (implicitDefEqProofs := false) (disch := first | assumption | omega | (with_reducible refine Row.adr (by assumption) ?_; simp only [List.length_map, List.length_take, List.length_drop]; omega) | (simp only [List.length_cons, List.length_nil, List.length_map, List.length_append, List.length_replicate, Nat.reduceAdd, true_and, and_true, and_self]; first | done | omega)) only [go_sem, ↓reduceIte, Nat.reduceEqDiff, Nat.reduceAdd, Nat.reduceSub, Nat.reduceMul, Nat.reduceBEq, Nat.reduceLT, Nat.reduceLeDiff, Nat.reduceMod, Nat.reducePow, List.reduceReplicate, UInt8.reduceOfNat, Int.reducePow, Int.reduceDiv, Int.reduceMod, Nat.reduceDiv, Int.reduceNeg, Int.reduceAdd, Int.reduceSub, Int.reduceMul, Int.reduceLE, Int.reduceLT, Int.reduceEq, Int.reduceToNat, decide_true, decide_false, reduceCtorEq, ne_eq, not_false_eq_true, not_true_eq_false, and_true, true_and, and_self, or_true, true_or, or_false, false_or, or_self, eq_self, Nat.zero_add, Nat.add_zero, Nat.mul_one, Nat.one_mul, Nat.zero_mul, List.length_cons, List.length_nil, List.getElem?_cons_zero, List.getElem?_cons_succ, List.map_cons, List.map_nil, List.append_nil, Row.obj hrow, List.getElem_map]
  · rename_i h0
    have : bs = [] := List.eq_nil_of_length_eq_zero (by omega)
    subst this
    all_goals refine Upd.finS (show List.Sublist _ _ from ?_) hR ?_
    any_goals repeat (first | exact List.Sublist.refl _ | refine List.Sublist.cons_cons _ ?_ | refine List.Sublist.cons _ ?_)
    rfl
  · rename_i h0
    refine Tri.loopU tok [0, 2, 3, 5, 8, 12, 13, 14, 15, 19] (by kernel_rfl) [0, 2, 3, 12, 13, 14] (fun n G' l H' => ∃ (i : Nat) (lb lc : Nat) (sp : List Value), i + n = bs.length ∧ G' = G ∧ H' = (lb, .cells (((bs.take i).flatMap oneF).map byteV) sp 5) :: H ∧ ((bs.take i).flatMap oneF).length + sp.length = lc ∧ l = [(0, .slice a bs.length cap), (2, .string ⟨#[]⟩), (3, .slice (some ⟨lb, 0, none⟩) ((bs.take i).flatMap oneF).length lc), (12, .slice a bs.length cap), (13, .int .i64 bs.length), (14, .int .i64 i)]) (bs.length) (Upd.now ?_) ?_
    · exact ⟨0, nb, bs.length, _, by omega, rfl, rfl, by simp, rfl⟩
    · rintro n G' l H' hle hs ⟨i, lb, lc, sp, hi, rfl, rfl, hsp, rfl⟩
      have hl := flat_len (bs.take i)
      rw [List.length_take] at hl
      have hs1 := hs.1.1
      have hs2 := hs.1.2
      by_cases hib : i < bs.length
      · have hc := bs[i].toNat_lt
        repeat' first
          | with_reducible refine Br.yes ?_
          | with_reducible refine Br.no ?_
          | with_reducible refine Br.dec (fun _ => ?_) (fun _ => ?_)
          | with_reducible refine Br.beqB (fun _ => ?_) (fun _ => ?_)
          | with_reducible refine Br.beqb (fun _ => ?_) (fun _ => ?_)
          | with_reducible refine Br.mk (fun _ => ?_) (fun _ => ?_)
          | ((with_reducible refine NewB.mk fun nb hnb => ?_); have hnb1 := hnb.1.1; have hnb2 := hnb.1.2; try simp only [keys_cons, keys_nil, NotIn_cons, NotIn_nil, and_true] at hnb2)
          | ((with_reducible refine NewRow.mk fun nb nsp ncap hnb hncap => ?_); have hnb1 := hnb.1.1; have hnb2 := hnb.1.2; try simp only [keys_cons, keys_nil, NotIn_cons, NotIn_nil, and_true] at hnb2)
          | simp (dsimp := false) (implicitDefEqProofs := false) (disch := first | assumption | omega | (with_reducible refine Row.adr (by assumption) ?_; simp only [List.length_map, List.length_take, List.length_drop]; omega) | (simp only [List.length_cons, List.length_nil, List.length_map, List.length_append, List.length_replicate, Nat.reduceAdd, true_and, and_true, and_self]; first | done | omega)) only [go_sem, ↓reduceIte, Nat.reduceEqDiff, Nat.reduceAdd, Nat.reduceSub, Nat.reduceMul, Nat.reduceBEq, Nat.reduceLT, Nat.reduceLeDiff, Nat.reduceMod, Nat.reducePow, List.reduceReplicate, UInt8.reduceOfNat, Int.reducePow, Int.reduceDiv, Int.reduceMod, Nat.reduceDiv, Int.reduceNeg, Int.reduceAdd, Int.reduceSub, Int.reduceMul, Int.reduceLE, Int.reduceLT, Int.reduceEq, Int.reduceToNat, decide_true, decide_false, reduceCtorEq, ne_eq, not_false_eq_true, not_true_eq_false, and_true, true_and, and_self, or_true, true_or, or_false, false_or, or_self, eq_self, Nat.zero_add, Nat.add_zero, Nat.mul_one, Nat.one_mul, Nat.zero_mul, List.length_cons, List.length_nil, List.getElem?_cons_zero, List.getElem?_cons_succ, List.map_cons, List.map_nil, List.append_nil, Row.obj hrow, List.getElem_map]
          | refine plain_t _ (by omega) (by omega) ?_
          | refine digit_t _ ?_
        all_goals have e := flat_step bs i hib
        · rw [show oneF bs[i] = [bs[i]] by unfold oneF; rw [if_pos (by assumption)]] at e
          have el := congrArg List.length e
          rw [List.length_append] at el
          simp only [List.length_cons, List.length_nil, Nat.reduceAdd] at el
          refine Upd.sub (H' := (nb, _) :: H) ((List.sublist_cons_self _ _).cons_cons _) ⟨n - 1, by omega, i + 1, nb, ncap, nsp, by omega, rfl, by rw [← e, List.map_append]; rfl, by rw [← el]; omega, by rw [← el]; rfl⟩
        · rw [show oneF bs[i] = [92, 120, digU (bs[i].toNat / 16), digU (bs[i].toNat % 16)] by unfold oneF; rw [if_neg (by simp [*])]] at e
          rw [digitF_nat (m := bs[i].toNat / 16) (by omega) (by omega), digitF_nat (m := bs[i].toNat % 16) (by omega) (by omega)]
          have el := congrArg List.length e
          rw [List.length_append] at el
          simp only [List.length_cons, List.length_nil, Nat.reduceAdd] at el
          refine Upd.sub (H' := (nb, _) :: H) ((List.sublist_cons_self _ _).cons_cons _) ⟨n - 1, by omega, i + 1, nb, ncap, nsp, by omega, rfl, by rw [← e, List.map_append]; rfl, by rw [← el]; omega, by rw [← el]; rfl⟩
      · repeat' first
          | with_reducible refine Br.yes ?_
          | with_reducible refine Br.no ?_
          | with_reducible refine Br.dec (fun _ => ?_) (fun _ => ?_)
          | with_reducible refine Br.beqB (fun _ => ?_) (fun _ => ?_)
          | with_reducible refine Br.beqb (fun _ => ?_) (fun _ => ?_)
          | with_reducible refine Br.mk (fun _ => ?_) (fun _ => ?_)
          | ((with_reducible refine NewB.mk fun nb hnb => ?_); have hnb1 := hnb.1.1; have hnb2 := hnb.1.2; try simp only [keys_cons, keys_nil, NotIn_cons, NotIn_nil, and_true] at hnb2)
          | ((with_reducible refine NewRow.mk fun nb nsp ncap hnb hncap => ?_); have hnb1 := hnb.1.1; have hnb2 := hnb.1.2; try simp only [keys_cons, keys_nil, NotIn_cons, NotIn_nil, and_true] at hnb2)
          | simp (dsimp := false) (implicitDefEqProofs := false) (disch := first | assumption | omega | (with_reducible refine Row.adr (by assumption) ?_; simp only [List.length_map, List.length_take, List.length_drop]; omega) | (simp only [List.length_cons, List.length_nil, List.length_map, List.length_append, List.length_replicate, Nat.reduceAdd, true_and, and_true, and_self]; first | done | omega)) only [go_sem, ↓reduceIte, Nat.reduceEqDiff, Nat.reduceAdd, Nat.reduceSub, Nat.reduceMul, Nat.reduceBEq, Nat.reduceLT, Nat.reduceLeDiff, Nat.reduceMod, Nat.reducePow, List.reduceReplicate, UInt8.reduceOfNat, Int.reducePow, Int.reduceDiv, Int.reduceMod, Nat.reduceDiv, Int.reduceNeg, Int.reduceAdd, Int.reduceSub, Int.reduceMul, Int.reduceLE, Int.reduceLT, Int.reduceEq, Int.reduceToNat, decide_true, decide_false, reduceCtorEq, ne_eq, not_false_eq_true, not_true_eq_false, and_true, true_and, and_self, or_true, true_or, or_false, false_or, or_self, eq_self, Nat.zero_add, Nat.add_zero, Nat.mul_one, Nat.one_mul, Nat.zero_mul, List.length_cons, List.length_nil, List.getElem?_cons_zero, List.getElem?_cons_succ, List.map_cons, List.map_nil, List.append_nil, Row.obj hrow, List.getElem_map]
        have : i = bs.length := by omega
        subst this
        all_goals refine Upd.finS (show List.Sublist _ _ from ?_) hR ?_
        any_goals repeat (first | exact List.Sublist.refl _ | refine List.Sublist.cons_cons _ ?_ | refine List.Sublist.cons _ ?_)
        unfold quoteF str
        rw [if_neg (by intro e; subst e; exact h0 rfl), List.take_length]

end Go.Proofs.Ytlfphenonceniaa
