/- The document's table of states that are told apart. -/
import Derived.Test.YtmlmhcejdlljjaaNd
set_option linter.unusedSimpArgs false
set_option linter.unusedVariables false
namespace Go.Proofs.Ytmlmhcejdlljjaa
open Go Go.V Go.Proofs

/-- told apart by a word of so many bytes -/
def fL (d : DfaT) (i s t : Nat) : Bool := decide (¬ atL (lvl d i) s = atL (lvl d i) t)
theorem fL_iff {d : DfaT} (h : d.next.length = d.label.length) {i s t : Nat} (hs : s < d.label.length) (ht : t < d.label.length) : fL d i s t = true ↔ ¬ (lvl d i)[s]'(by rw [lvl_len h]; omega) = (lvl d i)[t]'(by rw [lvl_len h]; omega) := by
  unfold fL
  rw [decide_eq_true_iff, atL_get (l := lvl d i) (x := (s : Int)) (by rw [lvl_len h]; omega), atL_get (l := lvl d i) (x := (t : Int)) (by rw [lvl_len h]; omega)]
  simp only [Int.toNat_natCast]
theorem fZ_fL {d : DfaT} (h : d.next.length = d.label.length) {s t : Nat} (hs : s < d.label.length) (ht : t < d.label.length) : fZ d s t = fL d 0 s t := by
  rw [Bool.eq_iff_iff, fL_iff h hs ht, lvl_zero h hs ht]
  unfold fZ
  rw [decide_eq_true_iff, atL_get (l := d.label) (x := (s : Int)) (by omega), atL_get (l := d.label) (x := (t : Int)) (by omega)]
  simp only [Int.toNat_natCast]
theorem nx_cast {d : DfaT} (hok : RightP d) {s c : Nat} (hs : s < d.next.length) (hc : (c : Int) < d.width) : ((nxN d s c : Nat) : Int) = atL d.next[s] c := by
  obtain ⟨hk1, hk2, hk3, hk4, hk5, hk6, hk7⟩ := hok
  obtain ⟨h1, h2, h3, h4⟩ := hk7 s hs (by omega)
  unfold nxN
  rw [List.getD_eq_getElem?_getD, List.getElem?_eq_getElem hs, Option.getD_some]
  have hcl : c < d.next[s].length := by omega
  have h5 := h4 d.next[s][c] (List.getElem_mem _)
  rw [atL_get (l := d.next[s]) (x := (c : Int)) (by omega)]
  simp only [Int.toNat_natCast]
  exact Int.toNat_of_nonneg h5.1
theorem fL_succ {d : DfaT} (hok : RightP d) {i s t : Nat} (hs : s < d.label.length) (ht : t < d.label.length) : fL d (i + 1) s t = (fL d i s t || yB d (fL d i) s t) := by
  have h := hok.2.2.1
  have hsn : s < d.next.length := by omega
  have htn : t < d.next.length := by omega
  rw [Bool.eq_iff_iff, fL_iff h hs ht, lvl_succ h i hsn htn, Bool.or_eq_true, fL_iff h hs ht]
  unfold yB yTo
  rw [List.any_eq_true]
  constructor
  · intro hn
    by_cases e : (lvl d i)[s]'(by rw [lvl_len h]; omega) = (lvl d i)[t]'(by rw [lvl_len h]; omega)
    · refine .inr (Classical.byContradiction fun hc => hn ⟨e, fun c hcw => Classical.byContradiction fun hne => hc ⟨c, List.mem_range.2 hcw, ?_⟩⟩)
      unfold fL
      rw [decide_eq_true_iff, nx_cast hok hsn (by omega), nx_cast hok htn (by omega)]
      exact hne
    · exact .inl e
  · rintro (e | ⟨c, hc, e⟩) ⟨g1, g2⟩
    · exact e g1
    · have hcw := List.mem_range.1 hc
      unfold fL at e
      rw [decide_eq_true_iff, nx_cast hok hsn (by omega), nx_cast hok htn (by omega)] at e
      exact e (g2 c hcw)
/-- nothing more is told apart -/
theorem lvl_still {d : DfaT} (hok : RightP d) {i : Nat} (h : ((List.range d.label.length).any fun s => (List.range d.label.length).any fun t => !fL d i s t && yB d (fL d i) s t) = false) : lvl d (i + 1) = lvl d i := by
  have hl := hok.2.2.1
  rw [← lvl_norm d (i + 1), ← lvl_norm d i]
  refine nums_same (by rw [lvl_len hl, lvl_len hl]) fun s t hs ht => ?_
  rw [lvl_len hl] at hs ht
  have e1 := fL_succ hok (i := i) (s := s) (t := t) (by omega) (by omega)
  have h2 : (!fL d i s t && yB d (fL d i) s t) = false := by
    have h3 := List.any_eq_false.1 h s (List.mem_range.2 (by omega))
    have h4 := List.any_eq_false.1 (Bool.eq_false_iff.2 h3) t (List.mem_range.2 (by omega))
    exact Bool.eq_false_iff.2 h4
  have e2 : fL d (i + 1) s t = fL d i s t := by
    rw [e1]
    revert h2
    cases fL d i s t <;> cases yB d (fL d i) s t <;> simp
  have e3 := fL_iff hl (i := i + 1) (s := s) (t := t) (by omega) (by omega)
  have e4 := fL_iff hl (i := i) (s := s) (t := t) (by omega) (by omega)
  rw [e2] at e3
  have e5 := e3.symm.trans e4
  constructor
  · intro e; exact Classical.byContradiction fun hc => (e5.2 hc) e
  · intro e; exact Classical.byContradiction fun hc => (e5.1 hc) e
set_option maxHeartbeats 16000000 in
theorem apart_t {d : DfaT} (hsm : SmallD d) (hok : RightP d) {k : Int} (hk : k < 9223372036854775808) {n : Nat} (hn : n = d.label.length) {G : PHeap} {H : Heap} {R : Value → PHeap → Heap → Prop} {v : Value} (hv : IsD G d v)
    (hR : ∀ G' a c, PLe G G' → Sep G' (keys H) → WasO G' n (fL d k.toNat) a → n ≤ c → R (.slice a n c) G' H) : FnT Try.prog 25 [v, .int .i64 k] G H R := by
  obtain ⟨C, an, al, ay, cn, cl, cs, rs, rfl, O⟩ := hv.opened
  have hk1 := hok.1
  have hk2 := hok.2.1
  have hCl := O.len
  have hCa := O.all
  have hCx := O.l
  refine FnT.bodyS tok [0, 1, 2, 4, 5, 6, 7, 8, 9, 10, 11, 12, 13, 14, 15, 16, 23, 29, 52, 58, 72, 77, 93, 134] (.seq .run (.seq .run (.seq .run (.seq .cut .cut)))) Try.func25 rfl (by kernel_rfl) (by kernel_rfl) (by show _ ≤ 137; simp) fun hsep => ?_
  rw [Try.results25]
  have hsE := hsep
  try simp only [keys_cons, keys_app, keys_nil, Sep_cons, Sep_nil, NotIn_cons, NotIn_app, NotIn_nil, List.cons_append, List.nil_append, List.append_assoc, and_assoc, and_true, true_and] at hsE
  repeat (obtain ⟨hsx, hsE⟩ := hsE)
  repeat' first
    | with_reducible refine Br.yes ?_
    | with_reducible refine Br.no ?_
    | with_reducible refine Br.dec (fun _ => ?_) (fun _ => ?_)
    | with_reducible refine Br.beqB (fun _ => ?_) (fun _ => ?_)
    | with_reducible refine Br.beqb (fun _ => ?_) (fun _ => ?_)
    | with_reducible refine Br.mk (fun _ => ?_) (fun _ => ?_)
    | with_reducible refine foundO.mk (fun _ _ => ?_) (fun _ => ?_)
    | with_reducible refine appV.zero ?_
    | with_reducible refine appV.own ?_
    | ((with_reducible refine NewB.mk fun nb hnb => ?_); have hnb1 := hnb.1.1; have hnb2 := hnb.1.2; try simp only [keys_cons, keys_app, keys_nil, NotIn_cons, NotIn_app, NotIn_nil, and_true] at hnb2)
    | ((with_reducible refine NewRow.mk fun nb nsp ncap hnb hncap => ?_); have hnb1 := hnb.1.1; have hnb2 := hnb.1.2; try simp only [keys_cons, keys_app, keys_nil, NotIn_cons, NotIn_app, NotIn_nil, and_true] at hnb2)
    | simp (dsimp := false) (implicitDefEqProofs := false) (disch := first | assumption | (simp only [List.mem_cons, List.mem_append, true_or, or_true, eq_self]; done) | omega | (with_reducible refine Row.adr (by assumption) ?_; simp only [List.length_map, List.length_take, List.length_drop]; omega) | (simp only [List.length_cons, List.length_nil, List.length_map, List.length_append, List.length_replicate, Nat.reduceAdd, true_and, and_true, and_self]; first | done | omega)) only [go_sem, ↓reduceIte, Nat.reduceEqDiff, Nat.reduceAdd, Nat.reduceSub, Nat.reduceMul, Nat.reduceBEq, Nat.reduceLT, Nat.reduceLeDiff, Nat.reduceMod, Nat.reducePow, List.reduceReplicate, UInt8.reduceOfNat, Int.reducePow, Int.reduceDiv, Int.reduceMod, Nat.reduceDiv, Int.reduceNeg, Int.reduceAdd, Int.reduceSub, Int.reduceMul, Int.reduceLE, Int.reduceLT, Int.reduceEq, Int.reduceToNat, decide_true, decide_false, reduceCtorEq, ne_eq, not_false_eq_true, not_true_eq_false, and_true, true_and, and_self, or_true, true_or, or_false, false_or, or_self, eq_self, Option.isNone_some, Option.isNone_none, Nat.zero_add, Nat.add_zero, Nat.mul_one, Nat.one_mul, Nat.zero_mul, List.length_cons, List.length_nil, List.getElem?_cons_zero, List.getElem?_cons_succ, List.map_cons, List.map_nil, List.append_nil, -List.reduceReplicate, List.toList_toArray, hCl, hCa, hCx, Nat.sub_self]
  subst hn
  rename_i nb1 hx1 hx2 hx3
  refine Tri.live [1, 2, 4, 5, 6] ?_
  refine Tri.upd (Upd.sub (H' := (_, .cells C [] 27) :: H) (List.Sublist.cons _ (List.Sublist.refl _)) ?_)
  refine Tri.isPiece [1, 1, 1, 0] Try.f25 (by kernel_rfl) ?_
  refine Tri.onlyN (p1_t hok O rfl) fun G2 l2 H2 hle2 hs2 hM => ?_
  obtain ⟨ao, co, vs, F, hle3, hro, hco, hF, hfr', rfl⟩ := hM
  simp only [go_sem]
  refine Tri.live [1, 2, 4, 5, 6] ?_
  rw [hfr']
  refine Tri.run tok [0, 1, 2, 4, 5, 6, 7, 8, 9, 10, 11, 12, 13, 14, 15, 16, 23, 29, 52, 58, 72, 77, 93, 134] (by kernel_rfl) ?_
  repeat' first
    | with_reducible refine Br.yes ?_
    | with_reducible refine Br.no ?_
    | with_reducible refine Br.dec (fun _ => ?_) (fun _ => ?_)
    | with_reducible refine Br.beqB (fun _ => ?_) (fun _ => ?_)
    | with_reducible refine Br.beqb (fun _ => ?_) (fun _ => ?_)
    | with_reducible refine Br.mk (fun _ => ?_) (fun _ => ?_)
    | with_reducible refine foundO.mk (fun _ _ => ?_) (fun _ => ?_)
    | with_reducible refine appV.zero ?_
    | with_reducible refine appV.own ?_
    | ((with_reducible refine NewB.mk fun nb hnb => ?_); have hnb1 := hnb.1.1; have hnb2 := hnb.1.2; try simp only [keys_cons, keys_app, keys_nil, NotIn_cons, NotIn_app, NotIn_nil, and_true] at hnb2)
    | ((with_reducible refine NewRow.mk fun nb nsp ncap hnb hncap => ?_); have hnb1 := hnb.1.1; have hnb2 := hnb.1.2; try simp only [keys_cons, keys_app, keys_nil, NotIn_cons, NotIn_app, NotIn_nil, and_true] at hnb2)
    | simp (dsimp := false) (implicitDefEqProofs := false) (disch := first | assumption | (simp only [List.mem_cons, List.mem_append, true_or, or_true, eq_self]; done) | omega | (with_reducible refine Row.adr (by assumption) ?_; simp only [List.length_map, List.length_take, List.length_drop]; omega) | (simp only [List.length_cons, List.length_nil, List.length_map, List.length_append, List.length_replicate, Nat.reduceAdd, true_and, and_true, and_self]; first | done | omega)) only [go_sem, ↓reduceIte, Nat.reduceEqDiff, Nat.reduceAdd, Nat.reduceSub, Nat.reduceMul, Nat.reduceBEq, Nat.reduceLT, Nat.reduceLeDiff, Nat.reduceMod, Nat.reducePow, List.reduceReplicate, UInt8.reduceOfNat, Int.reducePow, Int.reduceDiv, Int.reduceMod, Nat.reduceDiv, Int.reduceNeg, Int.reduceAdd, Int.reduceSub, Int.reduceMul, Int.reduceLE, Int.reduceLT, Int.reduceEq, Int.reduceToNat, decide_true, decide_false, reduceCtorEq, ne_eq, not_false_eq_true, not_true_eq_false, and_true, true_and, and_self, or_true, true_or, or_false, false_or, or_self, eq_self, Option.isNone_some, Option.isNone_none, Nat.zero_add, Nat.add_zero, Nat.mul_one, Nat.one_mul, Nat.zero_mul, List.length_cons, List.length_nil, List.getElem?_cons_zero, List.getElem?_cons_succ, List.map_cons, List.map_nil, List.append_nil]
  refine Tri.loopS tok [0, 1, 2, 4, 5, 6, 7, 8, 9, 10, 11, 12, 13, 14, 15, 16, 23, 29, 52, 58, 72, 77, 93, 134] (.seq .run (.seq (.block (.seq .run (.seq .run (.seq .cut .cut)))) .cut)) (by kernel_rfl) [1, 2, 4, 5, 6, 10] (fun q G' fr H' => ∃ (i : Nat) (F' : Heap), i + q = k.toNat ∧ PLe G2 G' ∧ Fam 4 vs (matV d.label.length (fL d i)) F' ∧ H' = (nb1, .cells C [] 27) :: (F' ++ H) ∧ fr = [(1, .int .i64 k), (2, .pointer (some ⟨nb1, 0, none⟩)), (4, .slice none 0 0), (5, .int .i64 (d.label.length : Nat)), (6, .slice ao d.label.length co), (10, .int .i64 (i : Nat))]) (k.toNat) ?_ ?_
  · exact Upd.now ⟨0, F, by omega, PLe.refl _, by rw [matV_congr fun s t hs ht => (fZ_fL hok.2.2.1 hs ht).symm]; exact hF, rfl, rfl⟩
  · rintro q G1 fr H' hle hs1 ⟨i, F', hiq, hleG, hF', rfl, rfl⟩
    by_cases hik : (i : Int) < k
    · repeat' first
        | with_reducible refine Br.yes ?_
        | with_reducible refine Br.no ?_
        | with_reducible refine Br.dec (fun _ => ?_) (fun _ => ?_)
        | with_reducible refine Br.beqB (fun _ => ?_) (fun _ => ?_)
        | with_reducible refine Br.beqb (fun _ => ?_) (fun _ => ?_)
        | with_reducible refine Br.mk (fun _ => ?_) (fun _ => ?_)
        | with_reducible refine foundO.mk (fun _ _ => ?_) (fun _ => ?_)
        | with_reducible refine appV.zero ?_
        | with_reducible refine appV.own ?_
        | ((with_reducible refine NewB.mk fun nb hnb => ?_); have hnb1 := hnb.1.1; have hnb2 := hnb.1.2; try simp only [keys_cons, keys_app, keys_nil, NotIn_cons, NotIn_app, NotIn_nil, and_true] at hnb2)
        | ((with_reducible refine NewRow.mk fun nb nsp ncap hnb hncap => ?_); have hnb1 := hnb.1.1; have hnb2 := hnb.1.2; try simp only [keys_cons, keys_app, keys_nil, NotIn_cons, NotIn_app, NotIn_nil, and_true] at hnb2)
        | simp (dsimp := false) (implicitDefEqProofs := false) (disch := first | assumption | (simp only [List.mem_cons, List.mem_append, true_or, or_true, eq_self]; done) | omega | (with_reducible refine Row.adr (by assumption) ?_; simp only [List.length_map, List.length_take, List.length_drop]; omega) | (simp only [List.length_cons, List.length_nil, List.length_map, List.length_append, List.length_replicate, Nat.reduceAdd, true_and, and_true, and_self]; first | done | omega)) only [go_sem, ↓reduceIte, Nat.reduceEqDiff, Nat.reduceAdd, Nat.reduceSub, Nat.reduceMul, Nat.reduceBEq, Nat.reduceLT, Nat.reduceLeDiff, Nat.reduceMod, Nat.reducePow, List.reduceReplicate, UInt8.reduceOfNat, Int.reducePow, Int.reduceDiv, Int.reduceMod, Nat.reduceDiv, Int.reduceNeg, Int.reduceAdd, Int.reduceSub, Int.reduceMul, Int.reduceLE, Int.reduceLT, Int.reduceEq, Int.reduceToNat, decide_true, decide_false, reduceCtorEq, ne_eq, not_false_eq_true, not_true_eq_false, and_true, true_and, and_self, or_true, true_or, or_false, false_or, or_self, eq_self, Option.isNone_some, Option.isNone_none, Nat.zero_add, Nat.add_zero, Nat.mul_one, Nat.one_mul, Nat.zero_mul, List.length_cons, List.length_nil, List.getElem?_cons_zero, List.getElem?_cons_succ, List.map_cons, List.map_nil, List.append_nil, Nat.sub_self]
      all_goals try (exfalso; omega)
      refine Tri.live [1, 2, 4, 5, 6, 10, 11, 12] ?_
      refine Tri.upd (Upd.sub (H' := (nb1, .cells C [] 27) :: (F' ++ H)) (List.Sublist.cons _ (List.Sublist.refl _)) ?_)
      have hro1 := hro.mono hleG
      refine Tri.isPiece [1, 1, 1, 1, 0, 1, 0, 0, 1, 0, 0, 1, 1, 0] Try.f25 (by kernel_rfl) ?_
      refine Tri.onlyN (pw_t hok rfl hro1 hF') fun G3 l3 H3 hle3 hs3 hM => ?_
      obtain ⟨aw, cw, hle4, hW, hfr3, rfl⟩ := hM
      simp only [go_sem]
      refine Tri.live [1, 2, 4, 5, 6, 10, 11, 12] ?_
      rw [hfr3]
      refine Tri.runS tok [0, 1, 2, 4, 5, 6, 7, 8, 9, 10, 11, 12, 13, 14, 15, 16, 23, 29, 52, 58, 72, 77, 93, 134] (.seq .cut .cut) (by kernel_rfl) ?_
      repeat' first
        | with_reducible refine Br.yes ?_
        | with_reducible refine Br.no ?_
        | with_reducible refine Br.dec (fun _ => ?_) (fun _ => ?_)
        | with_reducible refine Br.beqB (fun _ => ?_) (fun _ => ?_)
        | with_reducible refine Br.beqb (fun _ => ?_) (fun _ => ?_)
        | with_reducible refine Br.mk (fun _ => ?_) (fun _ => ?_)
        | with_reducible refine foundO.mk (fun _ _ => ?_) (fun _ => ?_)
        | with_reducible refine appV.zero ?_
        | with_reducible refine appV.own ?_
        | ((with_reducible refine NewB.mk fun nb hnb => ?_); have hnb1 := hnb.1.1; have hnb2 := hnb.1.2; try simp only [keys_cons, keys_app, keys_nil, NotIn_cons, NotIn_app, NotIn_nil, and_true] at hnb2)
        | ((with_reducible refine NewRow.mk fun nb nsp ncap hnb hncap => ?_); have hnb1 := hnb.1.1; have hnb2 := hnb.1.2; try simp only [keys_cons, keys_app, keys_nil, NotIn_cons, NotIn_app, NotIn_nil, and_true] at hnb2)
        | simp (dsimp := false) (implicitDefEqProofs := false) (disch := first | assumption | (simp only [List.mem_cons, List.mem_append, true_or, or_true, eq_self]; done) | omega | (with_reducible refine Row.adr (by assumption) ?_; simp only [List.length_map, List.length_take, List.length_drop]; omega) | (simp only [List.length_cons, List.length_nil, List.length_map, List.length_append, List.length_replicate, Nat.reduceAdd, true_and, and_true, and_self]; first | done | omega)) only [go_sem, ↓reduceIte, Nat.reduceEqDiff, Nat.reduceAdd, Nat.reduceSub, Nat.reduceMul, Nat.reduceBEq, Nat.reduceLT, Nat.reduceLeDiff, Nat.reduceMod, Nat.reducePow, List.reduceReplicate, UInt8.reduceOfNat, Int.reducePow, Int.reduceDiv, Int.reduceMod, Nat.reduceDiv, Int.reduceNeg, Int.reduceAdd, Int.reduceSub, Int.reduceMul, Int.reduceLE, Int.reduceLT, Int.reduceEq, Int.reduceToNat, decide_true, decide_false, reduceCtorEq, ne_eq, not_false_eq_true, not_true_eq_false, and_true, true_and, and_self, or_true, true_or, or_false, false_or, or_self, eq_self, Option.isNone_some, Option.isNone_none, Nat.zero_add, Nat.add_zero, Nat.mul_one, Nat.one_mul, Nat.zero_mul, List.length_cons, List.length_nil, List.getElem?_cons_zero, List.getElem?_cons_succ, List.map_cons, List.map_nil, List.append_nil]
      have hro2 := hro1.mono hle4
      refine Tri.isPiece [1, 1, 1, 1, 0, 1, 0, 0, 1, 0, 0, 1, 1, 1, 0] Try.f25 (by kernel_rfl) ?_
      refine Tri.onlyN (ps_t hsm hok (O.mono (hle2.trans (hleG.trans hle4))) rfl hro2 hW hF') fun G4 l4 H4 hle5 hs4 hM => ?_
      obtain ⟨h', more', F2, hF2, hh', hmore, rfl, hfr4, rfl⟩ := hM
      rw [matV_congr fun s t hs ht => (hh' s t hs ht).trans (fL_succ hok hs ht).symm] at hF2
      simp only [go_sem]
      refine Tri.live [1, 2, 4, 5, 6, 10, 11, 12] ?_
      rw [hfr4]
      refine Tri.run tok [0, 1, 2, 4, 5, 6, 7, 8, 9, 10, 11, 12, 13, 14, 15, 16, 23, 29, 52, 58, 72, 77, 93, 134] (by kernel_rfl) ?_
      repeat' first
        | with_reducible refine Br.yes ?_
        | with_reducible refine Br.no ?_
        | with_reducible refine Br.dec (fun _ => ?_) (fun _ => ?_)
        | with_reducible refine Br.beqB (fun _ => ?_) (fun _ => ?_)
        | with_reducible refine Br.beqb (fun _ => ?_) (fun _ => ?_)
        | with_reducible refine Br.mk (fun _ => ?_) (fun _ => ?_)
        | with_reducible refine foundO.mk (fun _ _ => ?_) (fun _ => ?_)
        | with_reducible refine appV.zero ?_
        | with_reducible refine appV.own ?_
        | ((with_reducible refine NewB.mk fun nb hnb => ?_); have hnb1 := hnb.1.1; have hnb2 := hnb.1.2; try simp only [keys_cons, keys_app, keys_nil, NotIn_cons, NotIn_app, NotIn_nil, and_true] at hnb2)
        | ((with_reducible refine NewRow.mk fun nb nsp ncap hnb hncap => ?_); have hnb1 := hnb.1.1; have hnb2 := hnb.1.2; try simp only [keys_cons, keys_app, keys_nil, NotIn_cons, NotIn_app, NotIn_nil, and_true] at hnb2)
        | simp (dsimp := false) (implicitDefEqProofs := false) (disch := first | assumption | (simp only [List.mem_cons, List.mem_append, true_or, or_true, eq_self]; done) | omega | (with_reducible refine Row.adr (by assumption) ?_; simp only [List.length_map, List.length_take, List.length_drop]; omega) | (simp only [List.length_cons, List.length_nil, List.length_map, List.length_append, List.length_replicate, Nat.reduceAdd, true_and, and_true, and_self]; first | done | omega)) only [go_sem, ↓reduceIte, Nat.reduceEqDiff, Nat.reduceAdd, Nat.reduceSub, Nat.reduceMul, Nat.reduceBEq, Nat.reduceLT, Nat.reduceLeDiff, Nat.reduceMod, Nat.reducePow, List.reduceReplicate, UInt8.reduceOfNat, Int.reducePow, Int.reduceDiv, Int.reduceMod, Nat.reduceDiv, Int.reduceNeg, Int.reduceAdd, Int.reduceSub, Int.reduceMul, Int.reduceLE, Int.reduceLT, Int.reduceEq, Int.reduceToNat, decide_true, decide_false, reduceCtorEq, ne_eq, not_false_eq_true, not_true_eq_false, and_true, true_and, and_self, or_true, true_or, or_false, false_or, or_self, eq_self, Option.isNone_some, Option.isNone_none, Nat.zero_add, Nat.add_zero, Nat.mul_one, Nat.one_mul, Nat.zero_mul, List.length_cons, List.length_nil, List.getElem?_cons_zero, List.getElem?_cons_succ, List.map_cons, List.map_nil, List.append_nil]
      · refine Tri.run tok [0, 1, 2, 4, 5, 6, 7, 8, 9, 10, 11, 12, 13, 14, 15, 16, 23, 29, 52, 58, 72, 77, 93, 134] (by kernel_rfl) ?_
        repeat' first
          | with_reducible refine Br.yes ?_
          | with_reducible refine Br.no ?_
          | with_reducible refine Br.dec (fun _ => ?_) (fun _ => ?_)
          | with_reducible refine Br.beqB (fun _ => ?_) (fun _ => ?_)
          | with_reducible refine Br.beqb (fun _ => ?_) (fun _ => ?_)
          | with_reducible refine Br.mk (fun _ => ?_) (fun _ => ?_)
          | with_reducible refine foundO.mk (fun _ _ => ?_) (fun _ => ?_)
          | with_reducible refine appV.zero ?_
          | with_reducible refine appV.own ?_
          | ((with_reducible refine NewB.mk fun nb hnb => ?_); have hnb1 := hnb.1.1; have hnb2 := hnb.1.2; try simp only [keys_cons, keys_app, keys_nil, NotIn_cons, NotIn_app, NotIn_nil, and_true] at hnb2)
          | ((with_reducible refine NewRow.mk fun nb nsp ncap hnb hncap => ?_); have hnb1 := hnb.1.1; have hnb2 := hnb.1.2; try simp only [keys_cons, keys_app, keys_nil, NotIn_cons, NotIn_app, NotIn_nil, and_true] at hnb2)
          | simp (dsimp := false) (implicitDefEqProofs := false) (disch := first | assumption | (simp only [List.mem_cons, List.mem_append, true_or, or_true, eq_self]; done) | omega | (with_reducible refine Row.adr (by assumption) ?_; simp only [List.length_map, List.length_take, List.length_drop]; omega) | (simp only [List.length_cons, List.length_nil, List.length_map, List.length_append, List.length_replicate, Nat.reduceAdd, true_and, and_true, and_self]; first | done | omega)) only [go_sem, ↓reduceIte, Nat.reduceEqDiff, Nat.reduceAdd, Nat.reduceSub, Nat.reduceMul, Nat.reduceBEq, Nat.reduceLT, Nat.reduceLeDiff, Nat.reduceMod, Nat.reducePow, List.reduceReplicate, UInt8.reduceOfNat, Int.reducePow, Int.reduceDiv, Int.reduceMod, Nat.reduceDiv, Int.reduceNeg, Int.reduceAdd, Int.reduceSub, Int.reduceMul, Int.reduceLE, Int.reduceLT, Int.reduceEq, Int.reduceToNat, decide_true, decide_false, reduceCtorEq, ne_eq, not_false_eq_true, not_true_eq_false, and_true, true_and, and_self, or_true, true_or, or_false, false_or, or_self, eq_self, Option.isNone_some, Option.isNone_none, Nat.zero_add, Nat.add_zero, Nat.mul_one, Nat.one_mul, Nat.zero_mul, List.length_cons, List.length_nil, List.getElem?_cons_zero, List.getElem?_cons_succ, List.map_cons, List.map_nil, List.append_nil]
        exact Upd.now ⟨q - 1, by omega, i + 1, F2, by omega, hleG.trans hle4, hF2, rfl, rfl⟩
      · rename_i hmo
        have hmo : more' = false := by simpa using hmo
        rw [hmo, Bool.false_or] at hmore
        have hst := lvl_still hok hmore.symm
        have hfk : fL d (i + 1) = fL d k.toNat := by
          funext s t
          unfold fL
          rw [hst, lvl_stop' hst (j := k.toNat) (by omega)]
        rw [hfk] at hF2
        unfold UpdR
        refine Upd.trans (Upd.go (H' := F2 ++ H) (by intro fsum; first | exact Nat.le_refl _ | (simp only [List.map_append, List.map_cons, List.map_nil, List.sum_append, List.sum_cons, List.sum_nil, List.cons_append, List.nil_append]; omega)) (Upd.now ?_))
        refine hF2.share hs4.2 fun G5 hle6 hs5 hr5 => ?_
        exact hR G5 ao co (hle2.trans (hleG.trans (hle4.trans hle6))) hs5 ⟨vs, hro2.mono hle6, by rw [hF2.lenv, matV_len], fun s hs h1 => by
          obtain ⟨a, c, e1, e2, e3⟩ := hr5 s (by rw [matV_len]; exact hs) h1
          rw [matV_get _ hs] at e1 e2 e3
          rw [rowV_len] at e1 e3
          exact ⟨a, c, e1, e2, e3⟩⟩ hco
    · repeat' first
        | with_reducible refine Br.yes ?_
        | with_reducible refine Br.no ?_
        | with_reducible refine Br.dec (fun _ => ?_) (fun _ => ?_)
        | with_reducible refine Br.beqB (fun _ => ?_) (fun _ => ?_)
        | with_reducible refine Br.beqb (fun _ => ?_) (fun _ => ?_)
        | with_reducible refine Br.mk (fun _ => ?_) (fun _ => ?_)
        | with_reducible refine foundO.mk (fun _ _ => ?_) (fun _ => ?_)
        | with_reducible refine appV.zero ?_
        | with_reducible refine appV.own ?_
        | ((with_reducible refine NewB.mk fun nb hnb => ?_); have hnb1 := hnb.1.1; have hnb2 := hnb.1.2; try simp only [keys_cons, keys_app, keys_nil, NotIn_cons, NotIn_app, NotIn_nil, and_true] at hnb2)
        | ((with_reducible refine NewRow.mk fun nb nsp ncap hnb hncap => ?_); have hnb1 := hnb.1.1; have hnb2 := hnb.1.2; try simp only [keys_cons, keys_app, keys_nil, NotIn_cons, NotIn_app, NotIn_nil, and_true] at hnb2)
        | simp (dsimp := false) (implicitDefEqProofs := false) (disch := first | assumption | (simp only [List.mem_cons, List.mem_append, true_or, or_true, eq_self]; done) | omega | (with_reducible refine Row.adr (by assumption) ?_; simp only [List.length_map, List.length_take, List.length_drop]; omega) | (simp only [List.length_cons, List.length_nil, List.length_map, List.length_append, List.length_replicate, Nat.reduceAdd, true_and, and_true, and_self]; first | done | omega)) only [go_sem, ↓reduceIte, Nat.reduceEqDiff, Nat.reduceAdd, Nat.reduceSub, Nat.reduceMul, Nat.reduceBEq, Nat.reduceLT, Nat.reduceLeDiff, Nat.reduceMod, Nat.reducePow, List.reduceReplicate, UInt8.reduceOfNat, Int.reducePow, Int.reduceDiv, Int.reduceMod, Nat.reduceDiv, Int.reduceNeg, Int.reduceAdd, Int.reduceSub, Int.reduceMul, Int.reduceLE, Int.reduceLT, Int.reduceEq, Int.reduceToNat, decide_true, decide_false, reduceCtorEq, ne_eq, not_false_eq_true, not_true_eq_false, and_true, true_and, and_self, or_true, true_or, or_false, false_or, or_self, eq_self, Option.isNone_some, Option.isNone_none, Nat.zero_add, Nat.add_zero, Nat.mul_one, Nat.one_mul, Nat.zero_mul, List.length_cons, List.length_nil, List.getElem?_cons_zero, List.getElem?_cons_succ, List.map_cons, List.map_nil, List.append_nil]
      all_goals try (exfalso; omega)
      obtain rfl : i = k.toNat := by omega
      unfold UpdR
      refine Upd.trans (Upd.go (H' := F' ++ H) (by intro fsum; first | exact Nat.le_refl _ | (simp only [List.map_append, List.map_cons, List.map_nil, List.sum_append, List.sum_cons, List.sum_nil, List.cons_append, List.nil_append]; omega)) (Upd.now ?_))
      refine hF'.share hs1.2 fun G5 hle6 hs5 hr5 => ?_
      exact hR G5 ao co (hle2.trans (hleG.trans hle6)) hs5 ⟨vs, (hro.mono hleG).mono hle6, by rw [hF'.lenv, matV_len], fun s hs h1 => by
        obtain ⟨a, c, e1, e2, e3⟩ := hr5 s (by rw [matV_len]; exact hs) h1
        rw [matV_get _ hs] at e1 e2 e3
        rw [rowV_len] at e1 e3
        exact ⟨a, c, e1, e2, e3⟩⟩ hco
end Go.Proofs.Ytmlmhcejdlljjaa
