/- The machine of blocks: what it is. -/
import Derived.Test.YtpagkndgjihbbaaSn
set_option linter.unusedSimpArgs false
set_option linter.unusedVariables false
namespace Go.Proofs.Ytpagkndgjihbbaa
open Go Go.V Go.Proofs

theorem clones_t (l : List (List UInt8)) (hlen : l.length ≤ 2000000) {G : PHeap} {H : Heap} {R : Value → PHeap → Heap → Prop} {v : Value} (hv : Sl G str v l)
    (hR : ∀ G' v', PLe G G' → Sep G' (keys H) → Sl G' str v' l → R v' G' H) : FnT Try.prog 51 [v] G H R := by
  obtain ⟨a, cap, rfl, hrow, hcap⟩ := hv
  refine FnT.sep ?_
  rcases a with _ | a
  · have h0 : l = [] := List.eq_nil_of_length_eq_zero (by
      rcases Nat.eq_zero_or_pos l.length with h | h
      · exact h
      · have := hrow.adr (by rw [List.length_map]; exact h)
        cases this)
    subst h0
    refine FnT.body tok [0, 2, 4] Try.func51 rfl (by kernel_rfl) (by kernel_rfl) (by show _ ≤ 8; simp) fun hsep => ?_
    rw [Try.results51]
    have hsE := hsep
    try simp only [keys_cons, keys_app, keys_nil, Sep_cons, Sep_nil, NotIn_cons, NotIn_app, NotIn_nil, List.cons_append, List.nil_append, List.append_assoc, and_assoc, and_true, true_and] at hsE
    repeat (obtain ⟨hsx, hsE⟩ := hsE)
    repeat' first
      | with_reducible refine Br.yes ?_
      | with_reducible refine Br.no ?_
      | with_reducible refine Br.dec (fun _ => ?_) (fun _ => ?_)
      | with_reducible refine Br.beqB (fun _ => ?_) (fun _ => ?_)
      | with_reducible refine Br.beqb (fun _ => ?_) (fun _ => ?_)
      | with_reducible refine Br.mk (fun _ => ?_) (fun _ => ?_)
      | with_reducible refine foundO.mk (fun _ _ => ?_) (fun _ => ?_)
      | with_reducible refine appV.zero ?_
      | with_reducible refine appV.own ?_
      | ((with_reducible refine NewB.mk fun nb hnb => ?_); have hnb1 := hnb.1.1; have hnb2 := hnb.1.2; try simp only [keys_cons, keys_app, keys_nil, NotIn_cons, NotIn_app, NotIn_nil, and_true] at hnb2)
      | ((with_reducible refine NewRow.mk fun nb nsp ncap hnb hncap => ?_); have hnb1 := hnb.1.1; have hnb2 := hnb.1.2; try simp only [keys_cons, keys_app, keys_nil, NotIn_cons, NotIn_app, NotIn_nil, and_true] at hnb2)
      | simp (dsimp := false) (implicitDefEqProofs := false) (disch := first | assumption | (simp only [List.mem_cons, List.mem_append, true_or, or_true, eq_self]; done) | omega | (with_reducible refine Row.adr (by assumption) ?_; simp only [List.length_map, List.length_take, List.length_drop]; omega) | (simp only [List.length_cons, List.length_nil, List.length_map, List.length_append, List.length_replicate, Nat.reduceAdd, true_and, and_true, and_self]; first | done | omega)) only [go_sem, ↓reduceIte, Nat.reduceEqDiff, Nat.reduceAdd, Nat.reduceSub, Nat.reduceMul, Nat.reduceBEq, Nat.reduceLT, Nat.reduceLeDiff, Nat.reduceMod, Nat.reducePow, List.reduceReplicate, UInt8.reduceOfNat, Int.reducePow, Int.reduceDiv, Int.reduceMod, Nat.reduceDiv, Int.reduceNeg, Int.reduceAdd, Int.reduceSub, Int.reduceMul, Int.reduceLE, Int.reduceLT, Int.reduceEq, Int.reduceToNat, reduceCtorEq]
    unfold UpdR
    refine Upd.leave (H' := H) (by intro fsum; first | exact Nat.le_refl _ | (simp only [List.map_append, List.map_cons, List.map_nil, List.sum_append, List.sum_cons, List.sum_nil, List.cons_append, List.nil_append]; omega)) ?_
    exact fun hle hs => hR G _ (PLe.refl _) hs (Sl.nil _ _)
  · refine FnT.body tok [0, 2, 4] Try.func51 rfl (by kernel_rfl) (by kernel_rfl) (by show _ ≤ 8; simp) fun hsep => ?_
    rw [Try.results51]
    have hsE := hsep
    try simp only [keys_cons, keys_app, keys_nil, Sep_cons, Sep_nil, NotIn_cons, NotIn_app, NotIn_nil, List.cons_append, List.nil_append, List.append_assoc, and_assoc, and_true, true_and] at hsE
    repeat (obtain ⟨hsx, hsE⟩ := hsE)
    repeat' first
      | with_reducible refine Br.yes ?_
      | with_reducible refine Br.no ?_
      | with_reducible refine Br.dec (fun _ => ?_) (fun _ => ?_)
      | with_reducible refine Br.beqB (fun _ => ?_) (fun _ => ?_)
      | with_reducible refine Br.beqb (fun _ => ?_) (fun _ => ?_)
      | with_reducible refine Br.mk (fun _ => ?_) (fun _ => ?_)
      | with_reducible refine foundO.mk (fun _ _ => ?_) (fun _ => ?_)
      | with_reducible refine appV.zero ?_
      | with_reducible refine appV.own ?_
      | ((with_reducible refine NewB.mk fun nb hnb => ?_); have hnb1 := hnb.1.1; have hnb2 := hnb.1.2; try simp only [keys_cons, keys_app, keys_nil, NotIn_cons, NotIn_app, NotIn_nil, and_true] at hnb2)
      | ((with_reducible refine NewRow.mk fun nb nsp ncap hnb hncap => ?_); have hnb1 := hnb.1.1; have hnb2 := hnb.1.2; try simp only [keys_cons, keys_app, keys_nil, NotIn_cons, NotIn_app, NotIn_nil, and_true] at hnb2)
      | simp (dsimp := false) (implicitDefEqProofs := false) (disch := first | assumption | (simp only [List.mem_cons, List.mem_append, true_or, or_true, eq_self]; done) | omega | (with_reducible refine Row.adr (by assumption) ?_; simp only [List.length_map, List.length_take, List.length_drop]; omega) | (simp only [List.length_cons, List.length_nil, List.length_map, List.length_append, List.length_replicate, Nat.reduceAdd, true_and, and_true, and_self]; first | done | omega)) only [go_sem, ↓reduceIte, Nat.reduceEqDiff, Nat.reduceAdd, Nat.reduceSub, Nat.reduceMul, Nat.reduceBEq, Nat.reduceLT, Nat.reduceLeDiff, Nat.reduceMod, Nat.reducePow, List.reduceReplicate, UInt8.reduceOfNat, Int.reducePow, Int.reduceDiv, Int.reduceMod, Nat.reduceDiv, Int.reduceNeg, Int.reduceAdd, Int.reduceSub, Int.reduceMul, Int.reduceLE, Int.reduceLT, Int.reduceEq, Int.reduceToNat, reduceCtorEq, Row.rdSlAll hrow, List.length_map]
    · rename_i h0
      have h0 : l = [] := List.eq_nil_of_length_eq_zero h0
      subst h0
      unfold UpdR
      refine Upd.leave (H' := H) (by intro fsum; first | exact Nat.le_refl _ | (simp only [List.map_append, List.map_cons, List.map_nil, List.sum_append, List.sum_cons, List.sum_nil, List.cons_append, List.nil_append]; omega)) ?_
      exact fun hle hs => hR G _ (PLe.refl _) hs ⟨_, 0, rfl, Row.nil _ _, Nat.le_refl _⟩
    · unfold UpdR
      refine Upd.go (H' := (nb, .cells (l.map str) nsp 9) :: H) (by intro fsum; first | exact Nat.le_refl _ | (simp only [List.map_append, List.map_cons, List.map_nil, List.sum_append, List.sum_cons, List.sum_nil, List.cons_append, List.nil_append]; omega)) (Upd.shareRow (by assumption) fun G2 hle2 hs2 hr2 => ?_)
      exact fun hle hs => hR G2 _ hle2 hs ⟨some ⟨nb, 0, none⟩, ncap, rfl, hr2, by omega⟩
/-- no machine -/
def zeroD : DfaT := ⟨List.replicate 256 0, 0, [], [], []⟩
abbrev zeroC : List Value := List.replicate 256 (Value.int .u8 0) ++ [Value.int .i64 0, Value.slice none 0 0, Value.slice none 0 0, Value.slice none 0 0]
theorem zeroC_len : zeroC.length = 260 := by rw [List.length_append, List.length_replicate]; rfl
theorem zeroC_one : zeroC.all oneV = true := by rw [List.all_append, List.all_replicate]; rfl
theorem zeroC_take : List.take 260 zeroC = zeroC := List.take_of_length_le (by rw [zeroC_len]; omega)
theorem zeroC_put : splice zeroC 0 zeroC = zeroC := by
  unfold splice
  rw [List.take_zero, List.nil_append, List.drop_of_length_le (by rw [zeroC_len]; omega), List.append_nil]
theorem zeroD_cells : cellsD zeroD (.slice none 0 0) (.slice none 0 0) (.slice none 0 0) = zeroC := by
  unfold cellsD zeroD u8L
  rw [List.map_replicate]
theorem zeroD_is (G : PHeap) : IsD G zeroD (.agg (List.toArray zeroC)) := by
  rw [← zeroD_cells]
  refine ⟨List.length_replicate .., fun x hx => ?_, _, _, _, rfl, ⟨none, 0, [], rfl, Row.nil _ _, rfl, Nat.le_refl _, fun i h => by cases h⟩, Sl.nil _ _, Sl.nil _ _⟩
  have : x = 0 := by
    unfold zeroD at hx
    exact List.eq_of_mem_replicate hx
  omega
/-- a state's row, by blocks -/
def rowB (d : DfaT) (m : List Int) (s : Nat) : List Int := (d.next.getD s []).map (atL (nums m))
/-- the machine of blocks -/
def ofD (d : DfaT) (m : List Int) : DfaT := ⟨d.of, d.width, (headsM m).map (fun s => rowB d m s.toNat), (headsM m).map (fun s => d.label.getD s.toNat 0), d.names⟩
noncomputable def ofR (d : DfaT) (m : List Int) : DfaT × Int :=
  haveI := Classical.propDecidable; if RightP d then if StableP d m then (ofD d m, 0) else (zeroD, 1) else (zeroD, 6)
theorem ofR_bad {d : DfaT} {m : List Int} (h : ¬ RightP d) : ofR d m = (zeroD, 6) := by unfold ofR; rw [if_neg h]
theorem ofR_not {d : DfaT} {m : List Int} (h : RightP d) (h2 : ¬ StableP d m) : ofR d m = (zeroD, 1) := by unfold ofR; rw [if_pos h, if_neg h2]
theorem ofR_ok {d : DfaT} {m : List Int} (h2 : StableP d m) : ofR d m = (ofD d m, 0) := by unfold ofR; rw [if_pos h2.1, if_pos h2]
theorem cellsD_putN {d : DfaT} (h : d.of.length = 256) (vn vl vs x : Value) : splice (cellsD d vn vl vs) 257 [x] = cellsD d x vl vs := by
  unfold splice cellsD
  have hl : (u8L d.of).length = 256 := by rw [List.length_map, h]
  rw [show 257 = (u8L d.of).length + 1 by omega, List.take_length_add_append, List.length_singleton, show (u8L d.of).length + 1 + 1 = (u8L d.of).length + 2 by omega, List.drop_length_add_append, List.append_assoc, List.append_assoc]
  rfl
theorem cellsD_putL {d : DfaT} (h : d.of.length = 256) (vn vl vs x : Value) : splice (cellsD d vn vl vs) 258 [x] = cellsD d vn x vs := by
  unfold splice cellsD
  have hl : (u8L d.of).length = 256 := by rw [List.length_map, h]
  rw [show 258 = (u8L d.of).length + 2 by omega, List.take_length_add_append, List.length_singleton, show (u8L d.of).length + 2 + 1 = (u8L d.of).length + 3 by omega, List.drop_length_add_append, List.append_assoc, List.append_assoc]
  rfl
end Go.Proofs.Ytpagkndgjihbbaa
