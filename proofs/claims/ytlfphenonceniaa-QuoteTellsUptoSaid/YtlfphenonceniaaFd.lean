/- The document's reader: contract. -/
import Derived.Test.YtlfphenonceniaaFc
set_option linter.unusedSimpArgs false
set_option linter.unusedVariables false
namespace Go.Proofs.Ytlfphenonceniaa
open Go Go.V Go.Proofs

/-- what is read, byte by byte -/
def outF : List UInt8 → List UInt8
  | 92 :: 120 :: h :: l :: r => if 0 ≤ valueF h.toNat ∧ 0 ≤ valueF l.toNat then hexF h l :: outF r else 92 :: outF (120 :: h :: l :: r)
  | c :: s => c :: outF s
  | [] => []

def runq (s : List UInt8) : List UInt8 × Bool := if s = [92, 101] then ([], true) else if outF s = [] ∨ quoteF (outF s) ≠ s then ([], false) else (outF s, true)

theorem outF_hex {h l : UInt8} (r : List UInt8) (h1 : 0 ≤ valueF h.toNat) (h2 : 0 ≤ valueF l.toNat) : outF (92 :: 120 :: h :: l :: r) = hexF h l :: outF r := by
  simp [outF, h1, h2]
theorem outF_one {c : UInt8} (s : List UInt8) (hs : ∀ h l r, c = 92 → s = 120 :: h :: l :: r → ¬ (0 ≤ valueF h.toNat ∧ 0 ≤ valueF l.toNat)) : outF (c :: s) = c :: outF s := by
  by_cases hc : ∃ h l r, c = 92 ∧ s = 120 :: h :: l :: r
  · obtain ⟨h, l, r, rfl, rfl⟩ := hc
    have hn := hs h l r rfl rfl
    rw [outF.eq_def]
    show (if 0 ≤ valueF h.toNat ∧ 0 ≤ valueF l.toNat then _ else _) = _
    rw [if_neg hn]
  · rw [outF.eq_def]
    split
    · rename_i e
      simp only [List.cons.injEq] at e
      exact absurd ⟨_, _, _, e.1, e.2⟩ hc
    · rename_i e
      simp only [List.cons.injEq] at e
      rw [e.1, e.2]
    · rename_i e; cases e

theorem out_one {s : List UInt8} {i : Nat} (h : i < s.length) (hn : ∀ (h4 : i + 4 ≤ s.length), ((s[i].toNat : Nat) : Int) = 92 → ((s[i + 1].toNat : Nat) : Int) = 120 → 0 ≤ valueF s[i + 2].toNat → 0 ≤ valueF s[i + 3].toNat → False) :
    outF (s.drop i) = s[i] :: outF (s.drop (i + 1)) := by
  rw [List.drop_eq_getElem_cons h]
  refine outF_one _ fun a b r e1 e2 ⟨e3, e4⟩ => ?_
  have hl := congrArg List.length e2
  simp only [List.length_drop, List.length_cons] at hl
  have g : ∀ k : Nat, (s.drop (i + 1))[k]? = (120 :: a :: b :: r)[k]? := fun k => congrArg (fun (l : List UInt8) => l[k]?) e2
  have g0 := g 0; have g1 := g 1; have g2 := g 2
  simp only [List.getElem?_drop, List.getElem?_cons_zero, List.getElem?_cons_succ, Nat.add_zero] at g0 g1 g2
  rw [List.getElem?_eq_getElem (by omega), Option.some.injEq] at g0 g1 g2
  refine hn (by omega) (by rw [e1]; rfl) (by rw [g0]; rfl) ?_ ?_
  · rw [show s[i + 2] = a from g1]; exact e3
  · rw [show s[i + 3] = b from g2]; exact e4

theorem out_hex {s : List UInt8} {i : Nat} (h4 : i + 4 ≤ s.length) (e0 : ((s[i].toNat : Nat) : Int) = 92) (e1 : ((s[i + 1].toNat : Nat) : Int) = 120) (e2 : 0 ≤ valueF s[i + 2].toNat) (e3 : 0 ≤ valueF s[i + 3].toNat) :
    outF (s.drop i) = hexF s[i + 2] s[i + 3] :: outF (s.drop (i + 4)) := by
  rw [List.drop_eq_getElem_cons (show i < s.length by omega), List.drop_eq_getElem_cons (show i + 1 < s.length by omega), List.drop_eq_getElem_cons (show i + 1 + 1 < s.length by omega), List.drop_eq_getElem_cons (show i + 1 + 1 + 1 < s.length by omega)]
  rw [show s[i] = 92 from u8_eq e0, show s[i + 1] = 120 from u8_eq e1]
  exact outF_hex _ e2 e3

theorem callee15 : V.Callee Try.prog 15 := ⟨_, _, Try.func15, rfl, by kernel_rfl⟩
theorem SlO.call {P : Program} {f : FuncId} {args : List Value} {G : PHeap} {H H' : Heap} {R : Value → PHeap → Heap → Prop} {v : Value} {xs : List UInt8} (hc : V.Callee P f) (h : SlO H v xs H') (hsep : Sep G (keys H'))
    (hk : ∀ G', PLe G G' → Sep G' (keys H) → SliceB G' v xs → FnT P f args G' H R) : FnT P f args G H' R := FnT.pre hc (h.share hsep hk)

theorem runquote_t (s : List UInt8) (hlen : s.length ≤ 1048576) {G : PHeap} {H : Heap} {R : Value → PHeap → Heap → Prop}
    (hR : ∀ v G', PLe G G' → Sep G' (keys H) → SliceB G' v (runq s).1 → R (.tuple #[v, .bool (runq s).2]) G' H) : FnT Try.prog 17 [str s] G H R := by
  refine FnT.body tok [0, 2, 3, 4, 5, 10, 44, 73, 82] Try.func17 rfl (by kernel_rfl) (by kernel_rfl) (by show _ ≤ 84; simp) fun hsep => ?_
  rw [Try.results17]
  unfold str
  repeat' first
    | with_reducible refine Br.yes ?_
    | with_reducible refine Br.no ?_
    | with_reducible refine Br.dec (fun _ => ?_) (fun _ => ?_)
    | with_reducible refine Br.beqB (fun _ => ?_) (fun _ => ?_)
    | with_reducible refine Br.beqb (fun _ => ?_) (fun _ => ?_)
    | with_reducible refine Br.mk (fun _ => ?_) (fun _ => ?_)
    | ((with_reducible refine NewB.mk fun nb hnb => ?_); have hnb1 := hnb.1.1; have hnb2 := hnb.1.2; try simp only [keys_cons, keys_nil, NotIn_cons, NotIn_nil, and_true] at hnb2)
    | ((with_reducible refine NewRow.mk fun nb nsp ncap hnb hncap => ?_); have hnb1 := hnb.1.1; have hnb2 := hnb.1.2; try simp only [keys_cons, keys_nil, NotIn_cons, NotIn_nil, and_true] at hnb2)
    | with_reducible refine Tri.drawM tok mixed [0, 2, 3, 4, 5, 10, 44, 73, 82] 5 [] (.op 0 .plain (.op 1 .plain (.op 2 .plain (.op 3 .plain (.op 4 .plain (.op 7 .plain (.op 8 .plain (.op 9 .plain (.op 10 .plain (.op 5 .keeps (.op 6 .plain (.op 11 .keeps (.op 12 .plain (.op 13 .plain (.op 14 .keeps (.op 15 .keeps (.op 16 .plain .nil))))))))))))))))) (by kernel_rfl) [] (List.nil_sublist _) ?_
    | simp (dsimp := false) (implicitDefEqProofs := false) (disch := first | assumption | omega | (with_reducible refine Row.adr (by assumption) ?_; simp only [List.length_map, List.length_take, List.length_drop]; omega) | (simp only [List.length_cons, List.length_nil, List.length_map, List.length_append, List.length_replicate, Nat.reduceAdd, true_and, and_true, and_self]; first | done | omega)) only [go_sem, ↓reduceIte, Nat.reduceEqDiff, Nat.reduceAdd, Nat.reduceSub, Nat.reduceMul, Nat.reduceBEq, Nat.reduceLT, Nat.reduceLeDiff, Nat.reduceMod, Nat.reducePow, List.reduceReplicate, UInt8.reduceOfNat, Int.reducePow, Int.reduceDiv, Int.reduceMod, Nat.reduceDiv, Int.reduceNeg, Int.reduceAdd, Int.reduceSub, Int.reduceMul, Int.reduceLE, Int.reduceLT, Int.reduceEq, Int.reduceToNat, decide_true, decide_false, reduceCtorEq, ne_eq, not_false_eq_true, not_true_eq_false, and_true, true_and, and_self, or_true, true_or, or_false, false_or, or_self, eq_self, Nat.zero_add, Nat.add_zero, Nat.mul_one, Nat.one_mul, Nat.zero_mul, List.length_cons, List.length_nil, List.getElem?_cons_zero, List.getElem?_cons_succ, List.map_cons, List.map_nil, List.append_nil]
  refine Tri.loopU tok [0, 2, 3, 4, 5, 10, 44, 73, 82] (by kernel_rfl) [0, 2, 3, 4, 5] (fun n G' l H' => ∃ (i lb lc : Nat) (xs : List UInt8) (sp : List Value), i + n = s.length ∧ xs.length ≤ i ∧ G' = G ∧ outF s = xs ++ outF (s.drop i) ∧ H' = (lb, .cells (xs.map byteV) sp 5) :: H ∧ xs.length + sp.length = lc ∧ l = [(0, .string ⟨s.toArray⟩), (2, .slice none 0 0), (3, .bool false), (4, .slice (some ⟨lb, 0, none⟩) xs.length lc), (5, .int .i64 i)]) (s.length) (Upd.now ?_) ?_
  · exact ⟨0, nb, 0, [], [], by omega, by simp, rfl, by simp, rfl, rfl, rfl⟩
  · rintro n G' l H' hle hs ⟨i, lb, lc, xs, sp, hi, hx, rfl, hu, rfl, hsp, rfl⟩
    have hs1 := hs.1.1
    have hs2 := hs.1.2
    by_cases hib : i < s.length
    · have hc := s[i].toNat_lt
      have step : ∀ (c : UInt8) (j nb ncap : Nat) (nsp : List Value) (H2 : Heap) (l2 : Fr), outF (s.drop i) = c :: outF (s.drop j) → i < j → j ≤ s.length → (xs.length + 1) * 1 + nsp.length = ncap * 1 →
          ((nb, Res.cells (xs.map byteV ++ [byteV c]) nsp 5) :: H).Sublist H2 → l2 = [(0, .string ⟨s.toArray⟩), (2, .slice none 0 0), (3, .bool false), (4, .slice (some ⟨nb, 0, none⟩) (xs.length + 1) ncap), (5, .int .i64 j)] →
          Upd G' H2 fun G0 H0 => ∃ m, m < n ∧ ∃ (i lb lc : Nat) (xs : List UInt8) (sp : List Value), i + m = s.length ∧ xs.length ≤ i ∧ G0 = G' ∧ outF s = xs ++ outF (s.drop i) ∧ H0 = (lb, .cells (xs.map byteV) sp 5) :: H ∧ xs.length + sp.length = lc ∧ l2 = [(0, .string ⟨s.toArray⟩), (2, .slice none 0 0), (3, .bool false), (4, .slice (some ⟨lb, 0, none⟩) xs.length lc), (5, .int .i64 i)] := by
        intro c j nb ncap nsp H2 l2 e hj hjl hc hsub hl2
        refine Upd.sub hsub ⟨s.length - j, by omega, j, nb, ncap, xs ++ [c], nsp, by omega, by simp; omega, rfl, ?_, by simp, by simp; omega, ?_⟩
        · rw [hu, e]; simp
        · rw [hl2]; simp
      by_cases h4 : i + 4 ≤ s.length
      · have l1 := valueF_lo s[i + 2].toNat
        have l2 := valueF_lo s[i + 3].toNat
        have m1 := valueF_hi s[i + 2].toNat
        have m2 := valueF_hi s[i + 3].toNat
        repeat' first
          | with_reducible refine Br.yes ?_
          | with_reducible refine Br.no ?_
          | with_reducible refine Br.dec (fun _ => ?_) (fun _ => ?_)
          | with_reducible refine Br.beqB (fun _ => ?_) (fun _ => ?_)
          | with_reducible refine Br.beqb (fun _ => ?_) (fun _ => ?_)
          | with_reducible refine Br.mk (fun _ => ?_) (fun _ => ?_)
          | ((with_reducible refine NewB.mk fun nb hnb => ?_); have hnb1 := hnb.1.1; have hnb2 := hnb.1.2; try simp only [keys_cons, keys_nil, NotIn_cons, NotIn_nil, and_true] at hnb2)
          | ((with_reducible refine NewRow.mk fun nb nsp ncap hnb hncap => ?_); have hnb1 := hnb.1.1; have hnb2 := hnb.1.2; try simp only [keys_cons, keys_nil, NotIn_cons, NotIn_nil, and_true] at hnb2)
          | with_reducible refine Tri.drawM tok mixed [0, 2, 3, 4, 5, 10, 44, 73, 82] 5 [] (.op 0 .plain (.op 1 .plain (.op 2 .plain (.op 3 .plain (.op 4 .plain (.op 7 .plain (.op 8 .plain (.op 9 .plain (.op 10 .plain (.op 5 .keeps (.op 6 .plain (.op 11 .keeps (.op 12 .plain (.op 13 .plain (.op 14 .keeps (.op 15 .keeps (.op 16 .plain .nil))))))))))))))))) (by kernel_rfl) [] (List.nil_sublist _) ?_
          | simp (dsimp := false) (implicitDefEqProofs := false) (disch := first | assumption | omega | (with_reducible refine Row.adr (by assumption) ?_; simp only [List.length_map, List.length_take, List.length_drop]; omega) | (simp only [List.length_cons, List.length_nil, List.length_map, List.length_append, List.length_replicate, Nat.reduceAdd, true_and, and_true, and_self]; first | done | omega)) only [go_sem, ↓reduceIte, Nat.reduceEqDiff, Nat.reduceAdd, Nat.reduceSub, Nat.reduceMul, Nat.reduceBEq, Nat.reduceLT, Nat.reduceLeDiff, Nat.reduceMod, Nat.reducePow, List.reduceReplicate, UInt8.reduceOfNat, Int.reducePow, Int.reduceDiv, Int.reduceMod, Nat.reduceDiv, Int.reduceNeg, Int.reduceAdd, Int.reduceSub, Int.reduceMul, Int.reduceLE, Int.reduceLT, Int.reduceEq, Int.reduceToNat, decide_true, decide_false, reduceCtorEq, ne_eq, not_false_eq_true, not_true_eq_false, and_true, true_and, and_self, or_true, true_or, or_false, false_or, or_self, eq_self, Nat.zero_add, Nat.add_zero, Nat.mul_one, Nat.one_mul, Nat.zero_mul, List.length_cons, List.length_nil, List.getElem?_cons_zero, List.getElem?_cons_succ, List.map_cons, List.map_nil, List.append_nil]
          | refine rvalue_u _ ?_
        case' pos.refine_1.refine_1.refine_1.refine_1 =>
          refine step _ _ nb ncap nsp _ _ (out_hex h4 (by assumption) (by assumption) (by assumption) (by assumption)) (by omega) h4 hncap ?_ rfl
          rw [show byteV (hexF s[i + 2] s[i + 3]) = _ from congrArg (Value.int .u8) (hexF_int (by assumption) (by assumption))]
          exact (List.sublist_cons_self _ _).cons_cons _
        all_goals exact step _ _ nb ncap nsp _ _ (out_one hib (fun _ _ _ _ _ => by first | contradiction | omega)) (by omega) (by omega) hncap ((List.sublist_cons_self _ _).cons_cons _) rfl
      · repeat' first
          | with_reducible refine Br.yes ?_
          | with_reducible refine Br.no ?_
          | with_reducible refine Br.dec (fun _ => ?_) (fun _ => ?_)
          | with_reducible refine Br.beqB (fun _ => ?_) (fun _ => ?_)
          | with_reducible refine Br.beqb (fun _ => ?_) (fun _ => ?_)
          | with_reducible refine Br.mk (fun _ => ?_) (fun _ => ?_)
          | ((with_reducible refine NewB.mk fun nb hnb => ?_); have hnb1 := hnb.1.1; have hnb2 := hnb.1.2; try simp only [keys_cons, keys_nil, NotIn_cons, NotIn_nil, and_true] at hnb2)
          | ((with_reducible refine NewRow.mk fun nb nsp ncap hnb hncap => ?_); have hnb1 := hnb.1.1; have hnb2 := hnb.1.2; try simp only [keys_cons, keys_nil, NotIn_cons, NotIn_nil, and_true] at hnb2)
          | with_reducible refine Tri.drawM tok mixed [0, 2, 3, 4, 5, 10, 44, 73, 82] 5 [] (.op 0 .plain (.op 1 .plain (.op 2 .plain (.op 3 .plain (.op 4 .plain (.op 7 .plain (.op 8 .plain (.op 9 .plain (.op 10 .plain (.op 5 .keeps (.op 6 .plain (.op 11 .keeps (.op 12 .plain (.op 13 .plain (.op 14 .keeps (.op 15 .keeps (.op 16 .plain .nil))))))))))))))))) (by kernel_rfl) [] (List.nil_sublist _) ?_
          | simp (dsimp := false) (implicitDefEqProofs := false) (disch := first | assumption | omega | (with_reducible refine Row.adr (by assumption) ?_; simp only [List.length_map, List.length_take, List.length_drop]; omega) | (simp only [List.length_cons, List.length_nil, List.length_map, List.length_append, List.length_replicate, Nat.reduceAdd, true_and, and_true, and_self]; first | done | omega)) only [go_sem, ↓reduceIte, Nat.reduceEqDiff, Nat.reduceAdd, Nat.reduceSub, Nat.reduceMul, Nat.reduceBEq, Nat.reduceLT, Nat.reduceLeDiff, Nat.reduceMod, Nat.reducePow, List.reduceReplicate, UInt8.reduceOfNat, Int.reducePow, Int.reduceDiv, Int.reduceMod, Nat.reduceDiv, Int.reduceNeg, Int.reduceAdd, Int.reduceSub, Int.reduceMul, Int.reduceLE, Int.reduceLT, Int.reduceEq, Int.reduceToNat, decide_true, decide_false, reduceCtorEq, ne_eq, not_false_eq_true, not_true_eq_false, and_true, true_and, and_self, or_true, true_or, or_false, false_or, or_self, eq_self, Nat.zero_add, Nat.add_zero, Nat.mul_one, Nat.one_mul, Nat.zero_mul, List.length_cons, List.length_nil, List.getElem?_cons_zero, List.getElem?_cons_succ, List.map_cons, List.map_nil, List.append_nil]
          | refine rvalue_u _ ?_
        all_goals exact step _ _ nb ncap nsp _ _ (out_one hib (fun h _ _ _ _ => absurd h h4)) (by omega) (by omega) hncap ((List.sublist_cons_self _ _).cons_cons _) rfl
    · have : i = s.length := by omega
      subst this
      rw [List.drop_length, outF, List.append_nil] at hu
      have hq : quoteF [] = [92, 101] := rfl
      have hxl : xs.length ≤ 1048576 := by omega
      repeat' first
        | with_reducible refine Br.yes ?_
        | with_reducible refine Br.no ?_
        | with_reducible refine Br.dec (fun _ => ?_) (fun _ => ?_)
        | with_reducible refine Br.beqB (fun _ => ?_) (fun _ => ?_)
        | with_reducible refine Br.beqb (fun _ => ?_) (fun _ => ?_)
        | with_reducible refine Br.mk (fun _ => ?_) (fun _ => ?_)
        | ((with_reducible refine NewB.mk fun nb hnb => ?_); have hnb1 := hnb.1.1; have hnb2 := hnb.1.2; try simp only [keys_cons, keys_nil, NotIn_cons, NotIn_nil, and_true] at hnb2)
        | ((with_reducible refine NewRow.mk fun nb nsp ncap hnb hncap => ?_); have hnb1 := hnb.1.1; have hnb2 := hnb.1.2; try simp only [keys_cons, keys_nil, NotIn_cons, NotIn_nil, and_true] at hnb2)
        | with_reducible refine Tri.drawM tok mixed [0, 2, 3, 4, 5, 10, 44, 73, 82] 5 [] (.op 0 .plain (.op 1 .plain (.op 2 .plain (.op 3 .plain (.op 4 .plain (.op 7 .plain (.op 8 .plain (.op 9 .plain (.op 10 .plain (.op 5 .keeps (.op 6 .plain (.op 11 .keeps (.op 12 .plain (.op 13 .plain (.op 14 .keeps (.op 15 .keeps (.op 16 .plain .nil))))))))))))))))) (by kernel_rfl) [] (List.nil_sublist _) ?_
        | simp (dsimp := false) (implicitDefEqProofs := false) (disch := first | assumption | omega | (with_reducible refine Row.adr (by assumption) ?_; simp only [List.length_map, List.length_take, List.length_drop]; omega) | (simp only [List.length_cons, List.length_nil, List.length_map, List.length_append, List.length_replicate, Nat.reduceAdd, true_and, and_true, and_self]; first | done | omega)) only [go_sem, ↓reduceIte, Nat.reduceEqDiff, Nat.reduceAdd, Nat.reduceSub, Nat.reduceMul, Nat.reduceBEq, Nat.reduceLT, Nat.reduceLeDiff, Nat.reduceMod, Nat.reducePow, List.reduceReplicate, UInt8.reduceOfNat, Int.reducePow, Int.reduceDiv, Int.reduceMod, Nat.reduceDiv, Int.reduceNeg, Int.reduceAdd, Int.reduceSub, Int.reduceMul, Int.reduceLE, Int.reduceLT, Int.reduceEq, Int.reduceToNat, decide_true, decide_false, reduceCtorEq, ne_eq, not_false_eq_true, not_true_eq_false, and_true, true_and, and_self, or_true, true_or, or_false, false_or, or_self, eq_self, Nat.zero_add, Nat.add_zero, Nat.mul_one, Nat.one_mul, Nat.zero_mul, List.length_cons, List.length_nil, List.getElem?_cons_zero, List.getElem?_cons_succ, List.map_cons, List.map_nil, List.append_nil, str, hq]
        | refine rquote_t [] (by simp) (Sl.nil _ _) ?_
        | (refine SlO.call (H := H) (xs := xs) (v := .slice (some ⟨lb, 0, none⟩) xs.length lc) callee15 (.inr ⟨lb, lc, sp, rfl, rfl, hsp⟩) hs fun G2 hle2 hs2 hb => ?_; refine rquote_t xs hxl hb ?_)
      · rename_i he
        have e : runq s = ([], true) := by unfold runq; rw [if_pos he]
        rw [e] at hR
        all_goals refine Upd.finS (show List.Sublist _ _ from ?_) (hR _ G' (PLe.refl _) hsep (Sl.nil _ _)) ?_
        any_goals repeat (first | exact List.Sublist.refl _ | refine List.Sublist.cons_cons _ ?_ | refine List.Sublist.cons _ ?_)
        rfl
      · rename_i he h0
        have e : runq s = ([], false) := by unfold runq; rw [if_neg he, if_pos (.inl (by rw [hu]; exact List.eq_nil_of_length_eq_zero (by omega)))]
        rw [e] at hR
        all_goals refine Upd.finS (show List.Sublist _ _ from ?_) (hR _ G' (PLe.refl _) hsep (Sl.nil _ _)) ?_
        any_goals repeat (first | exact List.Sublist.refl _ | refine List.Sublist.cons_cons _ ?_ | refine List.Sublist.cons _ ?_)
        rfl
      · rename_i he h0 hne
        have e : runq s = (xs, true) := by
          unfold runq; rw [if_neg he, if_neg, hu]
          rintro (h | h)
          · rw [hu] at h; rw [h] at h0; exact h0 rfl
          · rw [hu] at h; exact h hne
        rw [e] at hR
        all_goals refine Upd.finS (show List.Sublist _ _ from ?_) (hR _ G2 hle2 hs2 hb) ?_
        any_goals repeat (first | exact List.Sublist.refl _ | refine List.Sublist.cons_cons _ ?_ | refine List.Sublist.cons _ ?_)
        rfl
      · rename_i he h0 hne
        have e : runq s = ([], false) := by unfold runq; rw [if_neg he, if_pos (.inr (by rw [hu]; exact hne))]
        rw [e] at hR
        all_goals refine Upd.finS (show List.Sublist _ _ from ?_) (hR _ G2 hle2 hs2 (Sl.nil _ _)) ?_
        any_goals repeat (first | exact List.Sublist.refl _ | refine List.Sublist.cons_cons _ ?_ | refine List.Sublist.cons _ ?_)
        rfl
end Go.Proofs.Ytlfphenonceniaa
