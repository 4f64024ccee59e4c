/- A machine with the classes of bytes that it tells apart: what it is. -/
import Derived.Test.YtmnmihfinmcljaaDoorXf
import Derived.Test.YtmnmihfinmcljaaDoorXg
import Derived.Test.YtmnmihfinmcljaaDoorSp
set_option linter.unusedSimpArgs false
set_option linter.unusedVariables false
namespace Go.Proofs.YtmnmihfinmcljaaDoor
open Go Go.V Go.Proofs

theorem cloneI_t (l : List Int) (hlen : l.length ≤ 2000000) {G : PHeap} {H : Heap} {R : Value → PHeap → Heap → Prop} {v : Value} (hv : Sl G (Value.int .i64) v l)
    (hR : ∀ G' v', PLe G G' → Sep G' (keys H) → Sl G' (Value.int .i64) v' l → R v' G' H) : FnT Tryd.prog 25 [v] G H R := by
  obtain ⟨a, cap, rfl, hrow, hcap⟩ := hv
  refine FnT.sep ?_
  rcases a with _ | a
  · have h0 : l = [] := List.eq_nil_of_length_eq_zero (by
      rcases Nat.eq_zero_or_pos l.length with h | h
      · exact h
      · have := hrow.adr (by rw [List.length_map]; exact h)
        cases this)
    subst h0
    refine FnT.body tok [0, 2, 4] Tryd.func25 rfl (by kernel_rfl) (by kernel_rfl) (by show _ ≤ 8; simp) fun hsep => ?_
    rw [Tryd.results25]
    have hsE := hsep
    try simp only [keys_cons, keys_app, keys_nil, Sep_cons, Sep_nil, NotIn_cons, NotIn_app, NotIn_nil, List.cons_append, List.nil_append, List.append_assoc, and_assoc, and_true, true_and] at hsE
    repeat (obtain ⟨hsx, hsE⟩ := hsE)
    repeat' first
      | with_reducible refine Br.yes ?_
      | with_reducible refine Br.no ?_
      | with_reducible refine Br.dec (fun _ => ?_) (fun _ => ?_)
      | with_reducible refine Br.beqB (fun _ => ?_) (fun _ => ?_)
      | with_reducible refine Br.beqb (fun _ => ?_) (fun _ => ?_)
      | with_reducible refine Br.mk (fun _ => ?_) (fun _ => ?_)
      | with_reducible refine foundO.mk (fun _ _ => ?_) (fun _ => ?_)
      | with_reducible refine appV.zero ?_
      | with_reducible refine appV.own ?_
      | ((with_reducible refine NewB.mk fun nb hnb => ?_); have hnb1 := hnb.1.1; have hnb2 := hnb.1.2; try simp only [keys_cons, keys_app, keys_nil, NotIn_cons, NotIn_app, NotIn_nil, and_true] at hnb2)
      | ((with_reducible refine NewRow.mk fun nb nsp ncap hnb hncap => ?_); have hnb1 := hnb.1.1; have hnb2 := hnb.1.2; try simp only [keys_cons, keys_app, keys_nil, NotIn_cons, NotIn_app, NotIn_nil, and_true] at hnb2)
      | simp (dsimp := false) (implicitDefEqProofs := false) (disch := first | assumption | (simp only [List.mem_cons, List.mem_append, true_or, or_true, eq_self]; done) | omega | (with_reducible refine Row.adr (by assumption) ?_; simp only [List.length_map, List.length_take, List.length_drop]; omega) | (simp only [List.length_cons, List.length_nil, List.length_map, List.length_append, List.length_replicate, Nat.reduceAdd, true_and, and_true, and_self]; first | done | omega)) only [go_sem, ↓reduceIte, Nat.reduceEqDiff, Nat.reduceAdd, Nat.reduceSub, Nat.reduceMul, Nat.reduceBEq, Nat.reduceLT, Nat.reduceLeDiff, Nat.reduceMod, Nat.reducePow, List.reduceReplicate, UInt8.reduceOfNat, Int.reducePow, Int.reduceDiv, Int.reduceMod, Nat.reduceDiv, Int.reduceNeg, Int.reduceAdd, Int.reduceSub, Int.reduceMul, Int.reduceLE, Int.reduceLT, Int.reduceEq, Int.reduceToNat, reduceCtorEq]
    unfold UpdR
    refine Upd.leave (H' := H) (by intro fsum; first | exact Nat.le_refl _ | (simp only [List.map_append, List.map_cons, List.map_nil, List.sum_append, List.sum_cons, List.sum_nil, List.cons_append, List.nil_append]; omega)) ?_
    exact fun hle hs => hR G _ (PLe.refl _) hs (Sl.nil _ _)
  · refine FnT.body tok [0, 2, 4] Tryd.func25 rfl (by kernel_rfl) (by kernel_rfl) (by show _ ≤ 8; simp) fun hsep => ?_
    rw [Tryd.results25]
    have hsE := hsep
    try simp only [keys_cons, keys_app, keys_nil, Sep_cons, Sep_nil, NotIn_cons, NotIn_app, NotIn_nil, List.cons_append, List.nil_append, List.append_assoc, and_assoc, and_true, true_and] at hsE
    repeat (obtain ⟨hsx, hsE⟩ := hsE)
    repeat' first
      | with_reducible refine Br.yes ?_
      | with_reducible refine Br.no ?_
      | with_reducible refine Br.dec (fun _ => ?_) (fun _ => ?_)
      | with_reducible refine Br.beqB (fun _ => ?_) (fun _ => ?_)
      | with_reducible refine Br.beqb (fun _ => ?_) (fun _ => ?_)
      | with_reducible refine Br.mk (fun _ => ?_) (fun _ => ?_)
      | with_reducible refine foundO.mk (fun _ _ => ?_) (fun _ => ?_)
      | with_reducible refine appV.zero ?_
      | with_reducible refine appV.own ?_
      | ((with_reducible refine NewB.mk fun nb hnb => ?_); have hnb1 := hnb.1.1; have hnb2 := hnb.1.2; try simp only [keys_cons, keys_app, keys_nil, NotIn_cons, NotIn_app, NotIn_nil, and_true] at hnb2)
      | ((with_reducible refine NewRow.mk fun nb nsp ncap hnb hncap => ?_); have hnb1 := hnb.1.1; have hnb2 := hnb.1.2; try simp only [keys_cons, keys_app, keys_nil, NotIn_cons, NotIn_app, NotIn_nil, and_true] at hnb2)
      | simp (dsimp := false) (implicitDefEqProofs := false) (disch := first | assumption | (simp only [List.mem_cons, List.mem_append, true_or, or_true, eq_self]; done) | omega | (with_reducible refine Row.adr (by assumption) ?_; simp only [List.length_map, List.length_take, List.length_drop]; omega) | (simp only [List.length_cons, List.length_nil, List.length_map, List.length_append, List.length_replicate, Nat.reduceAdd, true_and, and_true, and_self]; first | done | omega)) only [go_sem, ↓reduceIte, Nat.reduceEqDiff, Nat.reduceAdd, Nat.reduceSub, Nat.reduceMul, Nat.reduceBEq, Nat.reduceLT, Nat.reduceLeDiff, Nat.reduceMod, Nat.reducePow, List.reduceReplicate, UInt8.reduceOfNat, Int.reducePow, Int.reduceDiv, Int.reduceMod, Nat.reduceDiv, Int.reduceNeg, Int.reduceAdd, Int.reduceSub, Int.reduceMul, Int.reduceLE, Int.reduceLT, Int.reduceEq, Int.reduceToNat, reduceCtorEq, Row.rdSlAll hrow, List.length_map]
    · rename_i h0
      have h0 : l = [] := List.eq_nil_of_length_eq_zero h0
      subst h0
      unfold UpdR
      refine Upd.leave (H' := H) (by intro fsum; first | exact Nat.le_refl _ | (simp only [List.map_append, List.map_cons, List.map_nil, List.sum_append, List.sum_cons, List.sum_nil, List.cons_append, List.nil_append]; omega)) ?_
      exact fun hle hs => hR G _ (PLe.refl _) hs ⟨_, 0, rfl, Row.nil _ _, Nat.le_refl _⟩
    · unfold UpdR
      refine Upd.go (H' := (nb, .cells (l.map (Value.int .i64)) nsp 3) :: H) (by intro fsum; first | exact Nat.le_refl _ | (simp only [List.map_append, List.map_cons, List.map_nil, List.sum_append, List.sum_cons, List.sum_nil, List.cons_append, List.nil_append]; omega)) (Upd.shareRow (by assumption) fun G2 hle2 hs2 hr2 => ?_)
      exact fun hle hs => hR G2 _ hle2 hs ⟨some ⟨nb, 0, none⟩, ncap, rfl, hr2, by omega⟩
theorem nums_nums (l : List Int) : nums (nums l) = nums l := nums_same (nums_len l) fun i j hi hj => by
  rw [nums_len] at hi hj
  exact nums_iff hi hj
/-- a row of the machine with its classes of bytes -/
def rowM (d : DfaT) (row : List Int) : List Int := (leastL (nums (clL d))).map fun b => atL row (atL d.of b)
def rowsM (d : DfaT) : List (List Int) := d.next.map (rowM d)
def mergeD (d : DfaT) : DfaT := { of := nums (clL d), width := (tabO (clL d)).length, next := rowsM d, label := d.label, names := d.names }
noncomputable def mergeR (d : DfaT) : DfaT × Int := if boolOf (RightP d) = true then (mergeD d, 0) else (zeroD, 6)
theorem mergeR_ok {d : DfaT} (h : RightP d) : mergeR d = (mergeD d, 0) := by unfold mergeR; rw [if_pos (boolOf_yes h)]
theorem mergeR_bad {d : DfaT} (h : ¬ RightP d) : mergeR d = (zeroD, 6) := by unfold mergeR; rw [boolOf_no h, if_neg (by simp)]
theorem least_len (d : DfaT) : (leastL (nums (clL d))).length = (tabO (clL d)).length := by rw [leastL_len, tab_same (nums_nums (clL d))]
theorem least_bound {d : DfaT} (hl : d.of.length = 256) {k : Nat} (hk : k < (leastL (nums (clL d))).length) : ∃ x : Nat, (leastL (nums (clL d)))[k] = (x : Nat) ∧ x < 256 := by
  have hin : (tabO (nums (clL d)))[k]'(by rw [leastL_len] at hk; exact hk) ∈ nums (clL d) := (mem_tabO _).1 (List.getElem_mem _)
  obtain ⟨x, hx⟩ := place_mem hin
  obtain ⟨hx1, hx2⟩ := place_some hx
  exact ⟨x, by simp only [leastL, List.getElem_map]; exact findF_some hx, by rw [nums_len, clL_len hl] at hx1; exact hx1⟩
theorem rowM_len (d : DfaT) (row : List Int) : (rowM d row).length = (tabO (clL d)).length := by unfold rowM; rw [List.length_map, least_len]
/-- the rows that there are -/
def RowX (rows : List (List Int)) (G' : PHeap) (j : Nat) (vn : Value) (kn : Heap) : Prop :=
  (j = 0 ∧ vn = .slice none 0 0 ∧ kn = []) ∨ ∃ bn c1 rv sp1, vn = .slice (some ⟨bn, 0, none⟩) j c1 ∧ kn = [(bn, .cells rv sp1 24)] ∧ rv.length = j ∧ j + sp1.length = c1 ∧
    ∀ i (h : i < j) (h2 : i < rv.length) (h3 : i < rows.length), ∃ b c, rv[i] = .slice b rows[i].length c ∧ Row G' b (rows[i].map (Value.int .i64)) ∧ rows[i].length ≤ c
theorem RowX.vn {rows : List (List Int)} {G' : PHeap} {j : Nat} {vn : Value} {kn : Heap} (h : RowX rows G' j vn kn) : ∃ a c, vn = .slice a j c := by
  rcases h with ⟨rfl, rfl, _⟩ | ⟨bn, c1, rv, sp1, rfl, _⟩
  · exact ⟨none, 0, rfl⟩
  · exact ⟨_, _, rfl⟩
theorem RowX.mono {rows : List (List Int)} {G G' : PHeap} (hle : PLe G G') {j : Nat} {vn : Value} {kn : Heap} (h : RowX rows G j vn kn) : RowX rows G' j vn kn := by
  rcases h with h | ⟨bn, c1, rv, sp1, h1, h2, h3, h4, h5⟩
  · exact .inl h
  · exact .inr ⟨bn, c1, rv, sp1, h1, h2, h3, h4, fun i a b c => by
      obtain ⟨x, y, e1, e2, e3⟩ := h5 i a b c
      exact ⟨x, y, e1, e2.mono hle, e3⟩⟩
end Go.Proofs.YtmnmihfinmcljaaDoor
