/- Blocks of two, and finer ones: contracts. -/
import Derived.Test.YtmnmihfinmcljaaDoorSd
set_option linter.unusedSimpArgs false
set_option linter.unusedVariables false
namespace Go.Proofs.YtmnmihfinmcljaaDoor
open Go Go.V Go.Proofs

section plain
variable {α : Type} [DecidableEq α]
def firsts (l : List α) : List Int := l.map (findF l)
theorem firsts_len (l : List α) : (firsts l).length = l.length := by simp [firsts]
theorem nums_firsts (l : List α) : nums (firsts l) = nums l :=
  nums_same (firsts_len l) fun i j hi hj => by
    simp only [firsts, List.getElem_map]
    constructor
    · exact findF_inj (List.getElem_mem _) (List.getElem_mem _)
    · intro h; rw [h]
theorem place_at {l : List α} {i p : Nat} (hi : i < l.length) (h1 : ∃ h : p < l.length, l[p] = l[i]) (h2 : ∀ j (h : j < l.length), j < p → l[j] ≠ l[i]) : place l l[i] = some p := by
  obtain ⟨hp, e⟩ := h1
  unfold place
  rw [List.findIdx?_eq_some_iff_getElem]
  exact ⟨hp, by simp [e], fun j hj => by have := h2 j (by omega) hj; simp; exact fun e => this e.symm⟩
end plain
theorem map_snoc {α β : Type} (f : α → β) {l : List α} {i : Nat} (h : i < l.length) : (l.take (i + 1)).map f = (l.take i).map f ++ [f l[i]] := by
  rw [List.take_succ_eq_append_getElem h, List.map_append]; rfl
def finerB (a b : List Int) : Bool := decide (a.length = b.length) && decide (nums (a.zip b) = nums a)
theorem finer_iff {a b : List Int} (h : a.length = b.length) : nums (a.zip b) = nums a ↔ ∀ i j (hi : i < a.length) (hj : j < a.length), a[i] = a[j] → b[i]'(h ▸ hi) = b[j]'(h ▸ hj) := by
  have hz : (a.zip b).length = a.length := by rw [List.length_zip]; omega
  constructor
  · intro e i j hi hj hij
    obtain ⟨_, hc⟩ := nums_conv e
    have := (hc i j (by omega) (by omega)).2 hij
    simp only [List.getElem_zip, Prod.mk.injEq] at this
    exact this.2
  · intro hc
    refine nums_same hz fun i j hi hj => ?_
    simp only [List.getElem_zip, Prod.mk.injEq]
    exact ⟨fun e => e.1, fun e => ⟨e, hc i j (by omega) (by omega) e⟩⟩
theorem finer_norm (a : List Int) : finerB a (nums a) = true := by
  unfold finerB
  rw [decide_eq_true (nums_len a).symm, Bool.true_and, decide_eq_true_eq, finer_iff (nums_len a).symm]
  exact fun i j hi hj e => (nums_iff hi hj).2 e
theorem finer_t {a b : List Int} (hla : a.length ≤ 2000000) (hlb : b.length ≤ 2000000) {G : PHeap} {H : Heap} {R : Value → PHeap → Heap → Prop} {v w : Value} (hv : Sl G (Value.int .i64) v a) (hw : Sl G (Value.int .i64) w b)
    (hR : ∀ G', PLe G G' → R (.bool (finerB a b)) G' H) : FnT Tryd.prog 16 [v, w] G H R := by
  have hv0 := hv
  have hw0 := hw
  obtain ⟨x, cap, rfl, hrow, hcap⟩ := hv
  obtain ⟨y, cap2, rfl, hrow2, hcap2⟩ := hw
  unfold finerB at hR
  by_cases he : a.length = b.length
  · rw [decide_eq_true he, Bool.true_and] at hR
    refine FnT.body tok [0, 1, 4] Tryd.func16 rfl (by kernel_rfl) (by kernel_rfl) (by show _ ≤ 18; simp) fun hsep => ?_
    rw [Tryd.results16]
    have hsE := hsep
    try simp only [keys_cons, keys_app, keys_nil, Sep_cons, Sep_nil, NotIn_cons, NotIn_app, NotIn_nil, List.cons_append, List.nil_append, List.append_assoc, and_assoc, and_true, true_and] at hsE
    repeat (obtain ⟨hsx, hsE⟩ := hsE)
    repeat' first
      | with_reducible refine Br.yes ?_
      | with_reducible refine Br.no ?_
      | with_reducible refine Br.dec (fun _ => ?_) (fun _ => ?_)
      | with_reducible refine Br.beqB (fun _ => ?_) (fun _ => ?_)
      | with_reducible refine Br.beqb (fun _ => ?_) (fun _ => ?_)
      | with_reducible refine Br.mk (fun _ => ?_) (fun _ => ?_)
      | with_reducible refine foundO.mk (fun _ _ => ?_) (fun _ => ?_)
      | with_reducible refine appV.zero ?_
      | with_reducible refine appV.own ?_
      | ((with_reducible refine NewB.mk fun nb hnb => ?_); have hnb1 := hnb.1.1; have hnb2 := hnb.1.2; try simp only [keys_cons, keys_app, keys_nil, NotIn_cons, NotIn_app, NotIn_nil, and_true] at hnb2)
      | ((with_reducible refine NewRow.mk fun nb nsp ncap hnb hncap => ?_); have hnb1 := hnb.1.1; have hnb2 := hnb.1.2; try simp only [keys_cons, keys_app, keys_nil, NotIn_cons, NotIn_app, NotIn_nil, and_true] at hnb2)
      | simp (dsimp := false) (implicitDefEqProofs := false) (disch := first | assumption | (simp only [List.mem_cons, List.mem_append, true_or, or_true, eq_self]; done) | omega | (with_reducible refine Row.adr (by assumption) ?_; simp only [List.length_map, List.length_take, List.length_drop]; omega) | (simp only [List.length_cons, List.length_nil, List.length_map, List.length_append, List.length_replicate, Nat.reduceAdd, true_and, and_true, and_self]; first | done | omega)) only [go_sem, ↓reduceIte, Nat.reduceEqDiff, Nat.reduceAdd, Nat.reduceSub, Nat.reduceMul, Nat.reduceBEq, Nat.reduceLT, Nat.reduceLeDiff, Nat.reduceMod, Nat.reducePow, List.reduceReplicate, UInt8.reduceOfNat, Int.reducePow, Int.reduceDiv, Int.reduceMod, Nat.reduceDiv, Int.reduceNeg, Int.reduceAdd, Int.reduceSub, Int.reduceMul, Int.reduceLE, Int.reduceLT, Int.reduceEq, Int.reduceToNat, reduceCtorEq]
      | ((with_reducible refine join_t hla hlb hv0 hw0 fun G2 v2 hle2 hs2 hsl2 => ?_); obtain ⟨a2, c2, rfl, hr2, hc2⟩ := hsl2; have hsl2 : Sl G2 (Value.int .i64) (.slice a2 (nums (a.zip b)).length c2) (nums (a.zip b)) := ⟨a2, c2, rfl, hr2, hc2⟩)
      | ((with_reducible refine norm_t hla (hv0.mono hle2) fun G3 v3 hle3 hs3 hsl3 => ?_); obtain ⟨a3, c3, rfl, hr3, hc3⟩ := hsl3; have hsl3 : Sl G3 (Value.int .i64) (.slice a3 (nums a).length c3) (nums a) := ⟨a3, c3, rfl, hr3, hc3⟩)
      | (with_reducible refine equal_t _ _ (by rw [nums_len, List.length_zip]; omega) (hsl2.mono hle3) hsl3 ?_)
    all_goals refine Upd.finL ?_ (hR G3 (hle2.trans hle3)) ?_
    any_goals (intro fsum; first | exact Nat.le_refl _ | (simp only [List.map_append, List.map_cons, List.map_nil, List.sum_append, List.sum_cons, List.sum_nil, List.cons_append, List.nil_append]; omega))
    rfl
  · rw [decide_eq_false he, Bool.false_and] at hR
    refine FnT.body tok [0, 1, 4] Tryd.func16 rfl (by kernel_rfl) (by kernel_rfl) (by show _ ≤ 18; simp) fun hsep => ?_
    rw [Tryd.results16]
    have hsE := hsep
    try simp only [keys_cons, keys_app, keys_nil, Sep_cons, Sep_nil, NotIn_cons, NotIn_app, NotIn_nil, List.cons_append, List.nil_append, List.append_assoc, and_assoc, and_true, true_and] at hsE
    repeat (obtain ⟨hsx, hsE⟩ := hsE)
    repeat' first
      | with_reducible refine Br.yes ?_
      | with_reducible refine Br.no ?_
      | with_reducible refine Br.dec (fun _ => ?_) (fun _ => ?_)
      | with_reducible refine Br.beqB (fun _ => ?_) (fun _ => ?_)
      | with_reducible refine Br.beqb (fun _ => ?_) (fun _ => ?_)
      | with_reducible refine Br.mk (fun _ => ?_) (fun _ => ?_)
      | with_reducible refine foundO.mk (fun _ _ => ?_) (fun _ => ?_)
      | with_reducible refine appV.zero ?_
      | with_reducible refine appV.own ?_
      | ((with_reducible refine NewB.mk fun nb hnb => ?_); have hnb1 := hnb.1.1; have hnb2 := hnb.1.2; try simp only [keys_cons, keys_app, keys_nil, NotIn_cons, NotIn_app, NotIn_nil, and_true] at hnb2)
      | ((with_reducible refine NewRow.mk fun nb nsp ncap hnb hncap => ?_); have hnb1 := hnb.1.1; have hnb2 := hnb.1.2; try simp only [keys_cons, keys_app, keys_nil, NotIn_cons, NotIn_app, NotIn_nil, and_true] at hnb2)
      | simp (dsimp := false) (implicitDefEqProofs := false) (disch := first | assumption | (simp only [List.mem_cons, List.mem_append, true_or, or_true, eq_self]; done) | omega | (with_reducible refine Row.adr (by assumption) ?_; simp only [List.length_map, List.length_take, List.length_drop]; omega) | (simp only [List.length_cons, List.length_nil, List.length_map, List.length_append, List.length_replicate, Nat.reduceAdd, true_and, and_true, and_self]; first | done | omega)) only [go_sem, ↓reduceIte, Nat.reduceEqDiff, Nat.reduceAdd, Nat.reduceSub, Nat.reduceMul, Nat.reduceBEq, Nat.reduceLT, Nat.reduceLeDiff, Nat.reduceMod, Nat.reducePow, List.reduceReplicate, UInt8.reduceOfNat, Int.reducePow, Int.reduceDiv, Int.reduceMod, Nat.reduceDiv, Int.reduceNeg, Int.reduceAdd, Int.reduceSub, Int.reduceMul, Int.reduceLE, Int.reduceLT, Int.reduceEq, Int.reduceToNat, reduceCtorEq]
    all_goals refine Upd.finL ?_ (hR G (PLe.refl _)) ?_
    any_goals (intro fsum; first | exact Nat.le_refl _ | (simp only [List.map_append, List.map_cons, List.map_nil, List.sum_append, List.sum_cons, List.sum_nil, List.cons_append, List.nil_append]; omega))
    rfl
end Go.Proofs.YtmnmihfinmcljaaDoor
