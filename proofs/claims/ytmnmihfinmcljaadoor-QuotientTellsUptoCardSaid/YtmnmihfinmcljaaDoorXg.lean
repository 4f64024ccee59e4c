/- The classes of bytes that a machine tells apart, as the document has them. -/
import Derived.Test.YtmnmihfinmcljaaDoorXb
import Derived.Test.YtmnmihfinmcljaaDoorUf
set_option linter.unusedSimpArgs false
set_option linter.unusedVariables false
namespace Go.Proofs.YtmnmihfinmcljaaDoor
open Go Go.V Go.Proofs

section
variable {α β : Type} [DecidableEq α] [DecidableEq β]
theorem tab_le {l : List α} {m : List β} (h : nums l = nums m) : (tabO m).length ≤ (tabO l).length := by
  rcases Nat.lt_or_ge (tabO l).length (tabO m).length with hlt | hge
  · obtain ⟨c, hc, e⟩ := List.getElem_of_mem ((mem_tabO m).1 (List.getElem_mem hlt))
    have hp := place_get (tabO_nodup m) hlt
    have hx : (nums m)[c]'(by rw [nums_len]; exact hc) = ((tabO l).length : Nat) := by rw [nums_get hc, e, findF_some hp]
    have hcl : c < (nums m).length := by rw [nums_len]; exact hc
    have hmem : (nums m)[c] ∈ nums l := by rw [h]; exact List.getElem_mem hcl
    have := nums_bound hmem
    omega
  · exact hge
theorem tab_same {l : List α} {m : List β} (h : nums l = nums m) : (tabO l).length = (tabO m).length := Nat.le_antisymm (tab_le h.symm) (tab_le h)
end
/-- of each class of steps the first that is alike -/
def mgL (d : DfaT) : List Int := (colL d).map (findF (colL d))
theorem mgL_len (d : DfaT) : (mgL d).length = (colL d).length := by simp [mgL]
theorem mgL_at {d : DfaT} {k : Nat} (h : k < (mgL d).length) : ∃ (x : Nat) (h2 : k < (colL d).length) (h3 : x < (colL d).length), (mgL d)[k] = (x : Nat) ∧ x ≤ k ∧ (colL d)[x] = (colL d)[k] ∧ ∀ y (h4 : y < x), (colL d)[y] ≠ (colL d)[k] := by
  have h2 : k < (colL d).length := by rw [mgL_len] at h; exact h
  obtain ⟨x, hx⟩ := place_mem (List.getElem_mem h2)
  obtain ⟨hx1, hx2⟩ := place_some hx
  rw [List.getElem?_eq_getElem hx1, Option.some.injEq] at hx2
  have hx' := hx
  unfold place at hx'
  rw [List.findIdx?_eq_some_iff_getElem] at hx'
  obtain ⟨h5, h6, h7⟩ := hx'
  have hne : ∀ y (h4 : y < x), (colL d)[y] ≠ (colL d)[k] := fun y h4 e => by
    have := h7 y h4
    simp only [e, decide_true, not_true_eq_false] at this
  refine ⟨x, h2, hx1, by simp only [mgL, List.getElem_map]; exact findF_some hx, ?_, hx2, hne⟩
  rcases Nat.lt_or_ge k x with h8 | h8
  · exact absurd rfl (hne k h8)
  · exact h8
def clR (d : DfaT) : List Int := d.of.map fun o => atL (mgL d) o
theorem clR_len {d : DfaT} (hl : d.of.length = 256) : (clR d).length = 256 := by unfold clR; rw [List.length_map, hl]
theorem clR_at {d : DfaT} (hok : RightP d) {i : Nat} (hi : i < d.of.length) : ∃ (h : (d.of[i]).toNat < (mgL d).length) (h2 : i < (clR d).length), (clR d)[i] = (mgL d)[(d.of[i]).toNat] ∧ 0 ≤ (clR d)[i] ∧ (clR d)[i] < (colL d).length := by
  obtain ⟨h1, h2⟩ := of_bound hok (List.getElem_mem hi)
  have hw := width_pos hok
  have h3 : (d.of[i]).toNat < (mgL d).length := by rw [mgL_len]; omega
  have h4 : i < (clR d).length := by unfold clR; rw [List.length_map]; exact hi
  have e : (clR d)[i] = (mgL d)[(d.of[i]).toNat] := by simp only [clR, List.getElem_map]; rw [atL_get h3]
  obtain ⟨x, q1, q2, q3, q4, q5, q6⟩ := mgL_at h3
  exact ⟨h3, h4, e, by rw [e, q3]; omega, by rw [e, q3]; omega⟩
theorem clR_nums {d : DfaT} (hok : RightP d) : nums (clR d) = nums (clL d) := by
  have hlen : (clR d).length = (clL d).length := by unfold clR clL; rw [List.length_map, List.length_map]
  refine nums_same hlen fun i j hi hj => ?_
  have hi2 : i < d.of.length := by unfold clR at hi; rwa [List.length_map] at hi
  have hj2 : j < d.of.length := by unfold clR at hj; rwa [List.length_map] at hj
  obtain ⟨a1, a2, a3, _⟩ := clR_at hok hi2
  obtain ⟨b1, b2, b3, _⟩ := clR_at hok hj2
  obtain ⟨c1, c2, c3, _⟩ := clL_at hok hi2
  obtain ⟨e1, e2, e3, _⟩ := clL_at hok hj2
  have g1 : (d.of[i]).toNat < (colL d).length := by rw [nums_len] at c1; exact c1
  have g2 : (d.of[j]).toNat < (colL d).length := by rw [nums_len] at e1; exact e1
  rw [a3, b3, c3, e3, nums_iff g1 g2]
  simp only [mgL, List.getElem_map]
  exact ⟨fun h => findF_inj (List.getElem_mem g1) (List.getElem_mem g2) h, fun h => by rw [h]⟩
def clV (d : DfaT) (c k : Nat) : Int := if k < c then atL (clR d) k else 0
theorem clV_zero (d : DfaT) : u8F (fun _ => 0) = u8F (clV d 0) := u8F_congr fun k _ => by unfold clV; rw [if_neg (by omega)]
theorem clV_succ {d : DfaT} {c : Nat} {x : Int} (h : x = atL (clR d) c) : u8F (upd (clV d c) c x) = u8F (clV d (c + 1)) := u8F_congr fun k _ => by
  by_cases e : k = c
  · subst e; simp only [clV, upd]; rw [if_pos (show k < k + 1 by omega), h]; simp
  · simp only [clV, upd]
    rw [if_neg e]
    by_cases hk : k < c
    · rw [if_pos hk, if_pos (by omega)]
    · rw [if_neg hk, if_neg (by omega)]
theorem clV_all {d : DfaT} (hl : d.of.length = 256) : u8F (clV d 256) = u8L (clR d) := by
  apply List.ext_getElem (by rw [u8F_len, List.length_map, clR_len hl])
  intro k h1 h2
  rw [u8F_len] at h1
  have h3 : k < (clR d).length := by rw [clR_len hl]; exact h1
  rw [u8F_at, List.getElem_map]
  unfold clV
  rw [if_pos h1, atL_get (by simpa using h3)]
  simp
set_option maxHeartbeats 8000000 in
theorem alike_t {d : DfaT} (hsm : SmallD d) (hok : RightP d) {C : List Value} {an al ay : Option Addr} {cn cl cs : Nat} {rs : List Value} {G : PHeap} (O : OpenD G d C an al ay cn cl cs rs) {j k : Nat} (hj : (j : Int) < d.width) (hk : (k : Int) < d.width)
    {H : Heap} {R : Value → PHeap → Heap → Prop} (hR : R (.bool (decide (colB d j = colB d k))) G H) : FnT Tryd.prog 46 [.agg C.toArray, .int .i64 (j : Nat), .int .i64 (k : Nat)] G H R := by
  obtain ⟨hk1, hk2, hk3, hk4, hk5, hk6, hk7⟩ := id hok
  have hCl := O.len
  have hCn := O.n
  have hCa := O.all
  have hrnl := O.rnl
  have hbnd : ∀ s (h : s < d.next.length), (atL d.next[s] j).toNat < 16777216 ∧ (atL d.next[s] k).toNat < 16777216 := fun s h => by
    obtain ⟨hw1, hw2, hw3, hw4⟩ := hk7 s h (by omega)
    have e1 : ((j : Int)).toNat < (d.next[s]).length := by omega
    have e2 : ((k : Int)).toNat < (d.next[s]).length := by omega
    rw [atL_get e1, atL_get e2]
    have x1 := hw4 _ (List.getElem_mem e1)
    have x2 := hw4 _ (List.getElem_mem e2)
    omega
  have hiff := colT_inj hbnd
  refine FnT.body tok [0, 1, 2, 3, 6, 7, 12, 31] Tryd.func46 rfl (by kernel_rfl) (by kernel_rfl) (by show _ ≤ 32; simp) fun hsep => ?_
  rw [Tryd.results46]
  have hsE := hsep
  try simp only [keys_cons, keys_app, keys_nil, Sep_cons, Sep_nil, NotIn_cons, NotIn_app, NotIn_nil, List.cons_append, List.nil_append, List.append_assoc, and_assoc, and_true, true_and] at hsE
  repeat (obtain ⟨hsx, hsE⟩ := hsE)
  repeat' first
    | with_reducible refine Br.yes ?_
    | with_reducible refine Br.no ?_
    | with_reducible refine Br.dec (fun _ => ?_) (fun _ => ?_)
    | with_reducible refine Br.beqB (fun _ => ?_) (fun _ => ?_)
    | with_reducible refine Br.beqb (fun _ => ?_) (fun _ => ?_)
    | with_reducible refine Br.mk (fun _ => ?_) (fun _ => ?_)
    | with_reducible refine foundO.mk (fun _ _ => ?_) (fun _ => ?_)
    | with_reducible refine appV.zero ?_
    | with_reducible refine appV.own ?_
    | ((with_reducible refine NewB.mk fun nb hnb => ?_); have hnb1 := hnb.1.1; have hnb2 := hnb.1.2; try simp only [keys_cons, keys_app, keys_nil, NotIn_cons, NotIn_app, NotIn_nil, and_true] at hnb2)
    | ((with_reducible refine NewRow.mk fun nb nsp ncap hnb hncap => ?_); have hnb1 := hnb.1.1; have hnb2 := hnb.1.2; try simp only [keys_cons, keys_app, keys_nil, NotIn_cons, NotIn_app, NotIn_nil, and_true] at hnb2)
    | simp (dsimp := false) (implicitDefEqProofs := false) (disch := first | assumption | (simp only [List.mem_cons, List.mem_append, true_or, or_true, eq_self]; done) | omega | (with_reducible refine Row.adr (by assumption) ?_; simp only [List.length_map, List.length_take, List.length_drop]; omega) | (simp only [List.length_cons, List.length_nil, List.length_map, List.length_append, List.length_replicate, Nat.reduceAdd, true_and, and_true, and_self]; first | done | omega)) only [go_sem, ↓reduceIte, Nat.reduceEqDiff, Nat.reduceAdd, Nat.reduceSub, Nat.reduceMul, Nat.reduceBEq, Nat.reduceLT, Nat.reduceLeDiff, Nat.reduceMod, Nat.reducePow, List.reduceReplicate, UInt8.reduceOfNat, Int.reducePow, Int.reduceDiv, Int.reduceMod, Nat.reduceDiv, Int.reduceNeg, Int.reduceAdd, Int.reduceSub, Int.reduceMul, Int.reduceLE, Int.reduceLT, Int.reduceEq, Int.reduceToNat, reduceCtorEq, -List.reduceReplicate, List.toList_toArray, hCl, hCa]
  refine Tri.loopU tok [0, 1, 2, 3, 6, 7, 12, 31] (by kernel_rfl) [1, 2, 3, 7] (fun q G' fr H' => ∃ (s : Nat), s + q = d.next.length ∧ colT d j s = colT d k s ∧ G' = G ∧ H' = (nb, .cells C [] 27) :: H ∧ fr = [(1, .int .i64 (j : Nat)), (2, .int .i64 (k : Nat)), (3, .pointer (some ⟨nb, 0, none⟩)), (7, .int .i64 (s : Nat))]) (d.next.length) ?_ ?_
  · exact Upd.now ⟨0, by omega, rfl, rfl, rfl, rfl⟩
  · rintro q G1 fr H' hle hs1 ⟨s, hsq, hpre, rfl, rfl, rfl⟩
    have hsE := hs1
    try simp only [keys_cons, keys_app, keys_nil, Sep_cons, Sep_nil, NotIn_cons, NotIn_app, NotIn_nil, List.cons_append, List.nil_append, List.append_assoc, and_assoc, and_true, true_and] at hsE
    repeat (obtain ⟨hsx, hsE⟩ := hsE)
    by_cases hsn : s < d.next.length
    · have had : Adr an := O.rn.adr (by omega)
      obtain ⟨b, cc, e1, e2, e3⟩ := O.rs s hsn (by omega)
      obtain ⟨hw1, hw2, hw3, hw4⟩ := hk7 s hsn (by omega)
      have hjr : j < (d.next[s]).length := by omega
      have hkr : k < (d.next[s]).length := by omega
      have had2 : Adr b := e2.adr (by rw [List.length_map]; omega)
      have haj : (atL d.next[s] j).toNat = ((d.next[s])[j]).toNat := by rw [atL_get (by simpa using hjr)]; simp only [Int.toNat_natCast]
      have hak : (atL d.next[s] k).toNat = ((d.next[s])[k]).toNat := by rw [atL_get (by simpa using hkr)]; simp only [Int.toNat_natCast]
      have x1 := hw4 _ (List.getElem_mem hjr)
      have x2 := hw4 _ (List.getElem_mem hkr)
      by_cases he : (d.next[s])[j] = (d.next[s])[k]
      · repeat' first
          | with_reducible refine Br.yes ?_
          | with_reducible refine Br.no ?_
          | with_reducible refine Br.dec (fun _ => ?_) (fun _ => ?_)
          | with_reducible refine Br.beqB (fun _ => ?_) (fun _ => ?_)
          | with_reducible refine Br.beqb (fun _ => ?_) (fun _ => ?_)
          | with_reducible refine Br.mk (fun _ => ?_) (fun _ => ?_)
          | with_reducible refine foundO.mk (fun _ _ => ?_) (fun _ => ?_)
          | with_reducible refine appV.zero ?_
          | with_reducible refine appV.own ?_
          | ((with_reducible refine NewB.mk fun nb hnb => ?_); have hnb1 := hnb.1.1; have hnb2 := hnb.1.2; try simp only [keys_cons, keys_app, keys_nil, NotIn_cons, NotIn_app, NotIn_nil, and_true] at hnb2)
          | ((with_reducible refine NewRow.mk fun nb nsp ncap hnb hncap => ?_); have hnb1 := hnb.1.1; have hnb2 := hnb.1.2; try simp only [keys_cons, keys_app, keys_nil, NotIn_cons, NotIn_app, NotIn_nil, and_true] at hnb2)
          | with_reducible refine Tri.drawM tok mixed [0, 1, 2, 3, 6, 7, 12, 31] 4 [1, 4, 7, 9, 12, 15] (.op 0 .plain (.op 1 .held (.op 2 .plain (.op 3 .plain (.op 4 .held (.op 5 .plain (.op 6 .plain (.op 7 .held (.op 8 .plain (.op 9 .held (.op 10 .plain (.op 11 .plain (.op 12 .held (.op 13 .plain (.op 14 .plain (.op 15 .held (.op 16 .plain .nil))))))))))))))))) (by kernel_rfl) _ (List.Sublist.refl _) ?_
          | simp (dsimp := false) (implicitDefEqProofs := false) (disch := first | assumption | (simp only [List.mem_cons, List.mem_append, true_or, or_true, eq_self]; done) | omega | (with_reducible refine Row.adr (by assumption) ?_; simp only [List.length_map, List.length_take, List.length_drop]; omega) | (simp only [List.length_cons, List.length_nil, List.length_map, List.length_append, List.length_replicate, Nat.reduceAdd, true_and, and_true, and_self]; first | done | omega)) only [go_sem, ↓reduceIte, Nat.reduceEqDiff, Nat.reduceAdd, Nat.reduceSub, Nat.reduceMul, Nat.reduceBEq, Nat.reduceLT, Nat.reduceLeDiff, Nat.reduceMod, Nat.reducePow, List.reduceReplicate, UInt8.reduceOfNat, Int.reducePow, Int.reduceDiv, Int.reduceMod, Nat.reduceDiv, Int.reduceNeg, Int.reduceAdd, Int.reduceSub, Int.reduceMul, Int.reduceLE, Int.reduceLT, Int.reduceEq, Int.reduceToNat, reduceCtorEq, -List.reduceReplicate, hCl, hCn, Row.obj O.rn, e1, Row.obj e2, List.getElem_map, he]
        exact Upd.now ⟨q - 1, by omega, s + 1, by omega, by rw [colT_succ d j hsn, colT_succ d k hsn, hpre, haj, hak, he], rfl, rfl, rfl⟩
      · have hne : ¬ colB d j = colB d k := fun h => by
          have := (hiff d.next.length (Nat.le_refl _)).1 h s hsn hsn
          rw [haj, hak] at this
          omega
        rw [decide_eq_false hne] at hR
        repeat' first
          | with_reducible refine Br.yes ?_
          | with_reducible refine Br.no ?_
          | with_reducible refine Br.dec (fun _ => ?_) (fun _ => ?_)
          | with_reducible refine Br.beqB (fun _ => ?_) (fun _ => ?_)
          | with_reducible refine Br.beqb (fun _ => ?_) (fun _ => ?_)
          | with_reducible refine Br.mk (fun _ => ?_) (fun _ => ?_)
          | with_reducible refine foundO.mk (fun _ _ => ?_) (fun _ => ?_)
          | with_reducible refine appV.zero ?_
          | with_reducible refine appV.own ?_
          | ((with_reducible refine NewB.mk fun nb hnb => ?_); have hnb1 := hnb.1.1; have hnb2 := hnb.1.2; try simp only [keys_cons, keys_app, keys_nil, NotIn_cons, NotIn_app, NotIn_nil, and_true] at hnb2)
          | ((with_reducible refine NewRow.mk fun nb nsp ncap hnb hncap => ?_); have hnb1 := hnb.1.1; have hnb2 := hnb.1.2; try simp only [keys_cons, keys_app, keys_nil, NotIn_cons, NotIn_app, NotIn_nil, and_true] at hnb2)
          | with_reducible refine Tri.drawM tok mixed [0, 1, 2, 3, 6, 7, 12, 31] 4 [1, 4, 7, 9, 12, 15] (.op 0 .plain (.op 1 .held (.op 2 .plain (.op 3 .plain (.op 4 .held (.op 5 .plain (.op 6 .plain (.op 7 .held (.op 8 .plain (.op 9 .held (.op 10 .plain (.op 11 .plain (.op 12 .held (.op 13 .plain (.op 14 .plain (.op 15 .held (.op 16 .plain .nil))))))))))))))))) (by kernel_rfl) _ (List.Sublist.refl _) ?_
          | simp (dsimp := false) (implicitDefEqProofs := false) (disch := first | assumption | (simp only [List.mem_cons, List.mem_append, true_or, or_true, eq_self]; done) | omega | (with_reducible refine Row.adr (by assumption) ?_; simp only [List.length_map, List.length_take, List.length_drop]; omega) | (simp only [List.length_cons, List.length_nil, List.length_map, List.length_append, List.length_replicate, Nat.reduceAdd, true_and, and_true, and_self]; first | done | omega)) only [go_sem, ↓reduceIte, Nat.reduceEqDiff, Nat.reduceAdd, Nat.reduceSub, Nat.reduceMul, Nat.reduceBEq, Nat.reduceLT, Nat.reduceLeDiff, Nat.reduceMod, Nat.reducePow, List.reduceReplicate, UInt8.reduceOfNat, Int.reducePow, Int.reduceDiv, Int.reduceMod, Nat.reduceDiv, Int.reduceNeg, Int.reduceAdd, Int.reduceSub, Int.reduceMul, Int.reduceLE, Int.reduceLT, Int.reduceEq, Int.reduceToNat, reduceCtorEq, -List.reduceReplicate, hCl, hCn, Row.obj O.rn, e1, Row.obj e2, List.getElem_map, he]
        all_goals refine Upd.finL ?_ hR ?_
        any_goals (intro fsum; first | exact Nat.le_refl _ | (simp only [List.map_append, List.map_cons, List.map_nil, List.sum_append, List.sum_cons, List.sum_nil, List.cons_append, List.nil_append]; omega))
        rfl
    · obtain rfl : s = d.next.length := by omega
      have hy : colB d j = colB d k := hpre
      rw [decide_eq_true hy] at hR
      repeat' first
        | with_reducible refine Br.yes ?_
        | with_reducible refine Br.no ?_
        | with_reducible refine Br.dec (fun _ => ?_) (fun _ => ?_)
        | with_reducible refine Br.beqB (fun _ => ?_) (fun _ => ?_)
        | with_reducible refine Br.beqb (fun _ => ?_) (fun _ => ?_)
        | with_reducible refine Br.mk (fun _ => ?_) (fun _ => ?_)
        | with_reducible refine foundO.mk (fun _ _ => ?_) (fun _ => ?_)
        | with_reducible refine appV.zero ?_
        | with_reducible refine appV.own ?_
        | ((with_reducible refine NewB.mk fun nb hnb => ?_); have hnb1 := hnb.1.1; have hnb2 := hnb.1.2; try simp only [keys_cons, keys_app, keys_nil, NotIn_cons, NotIn_app, NotIn_nil, and_true] at hnb2)
        | ((with_reducible refine NewRow.mk fun nb nsp ncap hnb hncap => ?_); have hnb1 := hnb.1.1; have hnb2 := hnb.1.2; try simp only [keys_cons, keys_app, keys_nil, NotIn_cons, NotIn_app, NotIn_nil, and_true] at hnb2)
        | simp (dsimp := false) (implicitDefEqProofs := false) (disch := first | assumption | (simp only [List.mem_cons, List.mem_append, true_or, or_true, eq_self]; done) | omega | (with_reducible refine Row.adr (by assumption) ?_; simp only [List.length_map, List.length_take, List.length_drop]; omega) | (simp only [List.length_cons, List.length_nil, List.length_map, List.length_append, List.length_replicate, Nat.reduceAdd, true_and, and_true, and_self]; first | done | omega)) only [go_sem, ↓reduceIte, Nat.reduceEqDiff, Nat.reduceAdd, Nat.reduceSub, Nat.reduceMul, Nat.reduceBEq, Nat.reduceLT, Nat.reduceLeDiff, Nat.reduceMod, Nat.reducePow, List.reduceReplicate, UInt8.reduceOfNat, Int.reducePow, Int.reduceDiv, Int.reduceMod, Nat.reduceDiv, Int.reduceNeg, Int.reduceAdd, Int.reduceSub, Int.reduceMul, Int.reduceLE, Int.reduceLT, Int.reduceEq, Int.reduceToNat, reduceCtorEq, -List.reduceReplicate, hCl, hCn]
      all_goals refine Upd.finL ?_ hR ?_
      any_goals (intro fsum; first | exact Nat.le_refl _ | (simp only [List.map_append, List.map_cons, List.map_nil, List.sum_append, List.sum_cons, List.sum_nil, List.cons_append, List.nil_append]; omega))
      rfl
set_option maxHeartbeats 8000000 in
theorem merged_t {d : DfaT} (hsm : SmallD d) (hok : RightP d) {C : List Value} {an al ay : Option Addr} {cn cl cs : Nat} {rs : List Value} {G : PHeap} (O : OpenD G d C an al ay cn cl cs rs)
    {H : Heap} {R : Value → PHeap → Heap → Prop} (hR : ∀ G' v, PLe G G' → Sep G' (keys H) → Sl G' (Value.int .i64) v (mgL d) → R v G' H) : FnT Tryd.prog 22 [.agg C.toArray] G H R := by
  have hCl := O.len
  have hCw := O.w
  have hCa := O.all
  have hw := width_pos hok
  have hwl := width_le hok O.ofl
  have hml := mgL_len d
  have hw' := hw
  rw [hw] at hCw
  refine FnT.sep ?_
  refine FnT.body tok [0, 1, 2, 3, 4, 5, 10, 17] Tryd.func22 rfl (by kernel_rfl) (by kernel_rfl) (by show _ ≤ 25; simp) fun hsep => ?_
  rw [Tryd.results22]
  have hsE := hsep
  try simp only [keys_cons, keys_app, keys_nil, Sep_cons, Sep_nil, NotIn_cons, NotIn_app, NotIn_nil, List.cons_append, List.nil_append, List.append_assoc, and_assoc, and_true, true_and] at hsE
  repeat (obtain ⟨hsx, hsE⟩ := hsE)
  repeat' first
    | with_reducible refine Br.yes ?_
    | with_reducible refine Br.no ?_
    | with_reducible refine Br.dec (fun _ => ?_) (fun _ => ?_)
    | with_reducible refine Br.beqB (fun _ => ?_) (fun _ => ?_)
    | with_reducible refine Br.beqb (fun _ => ?_) (fun _ => ?_)
    | with_reducible refine Br.mk (fun _ => ?_) (fun _ => ?_)
    | with_reducible refine foundO.mk (fun _ _ => ?_) (fun _ => ?_)
    | with_reducible refine appV.zero ?_
    | with_reducible refine appV.own ?_
    | ((with_reducible refine NewB.mk fun nb hnb => ?_); have hnb1 := hnb.1.1; have hnb2 := hnb.1.2; try simp only [keys_cons, keys_app, keys_nil, NotIn_cons, NotIn_app, NotIn_nil, and_true] at hnb2)
    | ((with_reducible refine NewRow.mk fun nb nsp ncap hnb hncap => ?_); have hnb1 := hnb.1.1; have hnb2 := hnb.1.2; try simp only [keys_cons, keys_app, keys_nil, NotIn_cons, NotIn_app, NotIn_nil, and_true] at hnb2)
    | simp (dsimp := false) (implicitDefEqProofs := false) (disch := first | assumption | (simp only [List.mem_cons, List.mem_append, true_or, or_true, eq_self]; done) | omega | (with_reducible refine Row.adr (by assumption) ?_; simp only [List.length_map, List.length_take, List.length_drop]; omega) | (simp only [List.length_cons, List.length_nil, List.length_map, List.length_append, List.length_replicate, Nat.reduceAdd, true_and, and_true, and_self]; first | done | omega)) only [go_sem, ↓reduceIte, Nat.reduceEqDiff, Nat.reduceAdd, Nat.reduceSub, Nat.reduceMul, Nat.reduceBEq, Nat.reduceLT, Nat.reduceLeDiff, Nat.reduceMod, Nat.reducePow, List.reduceReplicate, UInt8.reduceOfNat, Int.reducePow, Int.reduceDiv, Int.reduceMod, Nat.reduceDiv, Int.reduceNeg, Int.reduceAdd, Int.reduceSub, Int.reduceMul, Int.reduceLE, Int.reduceLT, Int.reduceEq, Int.reduceToNat, reduceCtorEq, -List.reduceReplicate, List.toList_toArray, hCl, hCa, hCw]
  rename_i b1 hb1 hb11 hb12
  revert nb
  intro b0 hb0 hb01 hb02
  refine Tri.loopU tok [0, 1, 2, 3, 4, 5, 10, 17] (by kernel_rfl) [1, 2, 3, 4] (fun q G' fr H' => ∃ (k b3 c3 : Nat) (sp : List Value), k + q = (colL d).length ∧ G' = G ∧ k + sp.length = c3 ∧ H' = (b3, .cells (((mgL d).take k).map (Value.int .i64)) sp 3) :: (b1, .cells C [] 27) :: H ∧ fr = [(1, .pointer (some ⟨b1, 0, none⟩)), (2, .slice none 0 0), (3, .slice (some ⟨b3, 0, none⟩) k c3), (4, .int .i64 (k : Nat))]) ((colL d).length) ?_ ?_
  · exact Upd.now ⟨0, b0, 0, [], by omega, rfl, rfl, rfl, rfl⟩
  · rintro q G1 fr H' hle hs1 ⟨k, b3, c3, sp, hkq, rfl, hsp, rfl, rfl⟩
    have hsE := hs1
    try simp only [keys_cons, keys_app, keys_nil, Sep_cons, Sep_nil, NotIn_cons, NotIn_app, NotIn_nil, List.cons_append, List.nil_append, List.append_assoc, and_assoc, and_true, true_and] at hsE
    repeat (obtain ⟨hsx, hsE⟩ := hsE)
    have hlt : k ≤ (colL d).length → ((mgL d).take k).length = k := fun h => by rw [List.length_take]; omega
    by_cases hkn : k < (colL d).length
    · have hlt0 := hlt (by omega)
      obtain ⟨x, q1, q2, q3, q4, q5, q6⟩ := mgL_at (d := d) (k := k) (by omega)
      have hkw : (k : Int) < d.width := by omega
      repeat' first
        | with_reducible refine Br.yes ?_
        | with_reducible refine Br.no ?_
        | with_reducible refine Br.dec (fun _ => ?_) (fun _ => ?_)
        | with_reducible refine Br.beqB (fun _ => ?_) (fun _ => ?_)
        | with_reducible refine Br.beqb (fun _ => ?_) (fun _ => ?_)
        | with_reducible refine Br.mk (fun _ => ?_) (fun _ => ?_)
        | with_reducible refine foundO.mk (fun _ _ => ?_) (fun _ => ?_)
        | with_reducible refine appV.zero ?_
        | with_reducible refine appV.own ?_
        | ((with_reducible refine NewB.mk fun nb hnb => ?_); have hnb1 := hnb.1.1; have hnb2 := hnb.1.2; try simp only [keys_cons, keys_app, keys_nil, NotIn_cons, NotIn_app, NotIn_nil, and_true] at hnb2)
        | ((with_reducible refine NewRow.mk fun nb nsp ncap hnb hncap => ?_); have hnb1 := hnb.1.1; have hnb2 := hnb.1.2; try simp only [keys_cons, keys_app, keys_nil, NotIn_cons, NotIn_app, NotIn_nil, and_true] at hnb2)
        | simp (dsimp := false) (implicitDefEqProofs := false) (disch := first | assumption | (simp only [List.mem_cons, List.mem_append, true_or, or_true, eq_self]; done) | omega | (with_reducible refine Row.adr (by assumption) ?_; simp only [List.length_map, List.length_take, List.length_drop]; omega) | (simp only [List.length_cons, List.length_nil, List.length_map, List.length_append, List.length_replicate, Nat.reduceAdd, true_and, and_true, and_self]; first | done | omega)) only [go_sem, ↓reduceIte, Nat.reduceEqDiff, Nat.reduceAdd, Nat.reduceSub, Nat.reduceMul, Nat.reduceBEq, Nat.reduceLT, Nat.reduceLeDiff, Nat.reduceMod, Nat.reducePow, List.reduceReplicate, UInt8.reduceOfNat, Int.reducePow, Int.reduceDiv, Int.reduceMod, Nat.reduceDiv, Int.reduceNeg, Int.reduceAdd, Int.reduceSub, Int.reduceMul, Int.reduceLE, Int.reduceLT, Int.reduceEq, Int.reduceToNat, reduceCtorEq, -List.reduceReplicate, hCl, hCw]
      refine Tri.loopU tok [0, 1, 2, 3, 4, 5, 10, 17] (by kernel_rfl) [1, 2, 3, 4, 5] (fun q2 G' fr H' => ∃ (j : Nat), j + q2 = x + 1 ∧ j ≤ x ∧ G' = G1 ∧ H' = (b3, .cells (((mgL d).take k).map (Value.int .i64)) sp 3) :: (b1, .cells C [] 27) :: H ∧ fr = [(1, .pointer (some ⟨b1, 0, none⟩)), (2, .slice none 0 0), (3, .slice (some ⟨b3, 0, none⟩) k c3), (4, .int .i64 (k : Nat)), (5, .int .i64 (j : Nat))]) ((x + 1)) ?_ ?_
      · exact Upd.now ⟨0, by omega, by omega, rfl, rfl, rfl⟩
      · rintro q2 G2 fr H' hle2 hs2 ⟨j, hjq, hjx, rfl, rfl, rfl⟩
        have hsE := hs2
        try simp only [keys_cons, keys_app, keys_nil, Sep_cons, Sep_nil, NotIn_cons, NotIn_app, NotIn_nil, List.cons_append, List.nil_append, List.append_assoc, and_assoc, and_true, true_and] at hsE
        repeat (obtain ⟨hsx, hsE⟩ := hsE)
        have hjw : (j : Int) < d.width := by omega
        have hjc : j < (colL d).length := by omega
        by_cases e : j = x
        · subst e
          have hdec : decide (colB d j = colB d k) = true := decide_eq_true (by rw [← colL_at hjc, ← colL_at hkn]; exact q5)
          have hmk : ((mgL d).take (k + 1)).map (Value.int .i64) = ((mgL d).take k).map (Value.int .i64) ++ [Value.int .i64 (j : Nat)] := by
            rw [List.take_succ_eq_append_getElem (by omega), List.map_append, q3]; rfl
          have hr1 : ∀ v : Value, List.replicate 1 v = [v] := fun _ => rfl
          repeat' first
            | with_reducible refine Br.yes ?_
            | with_reducible refine Br.no ?_
            | with_reducible refine Br.dec (fun _ => ?_) (fun _ => ?_)
            | with_reducible refine Br.beqB (fun _ => ?_) (fun _ => ?_)
            | with_reducible refine Br.beqb (fun _ => ?_) (fun _ => ?_)
            | with_reducible refine Br.mk (fun _ => ?_) (fun _ => ?_)
            | with_reducible refine foundO.mk (fun _ _ => ?_) (fun _ => ?_)
            | with_reducible refine appV.zero ?_
            | with_reducible refine appV.own ?_
            | ((with_reducible refine NewB.mk fun nb hnb => ?_); have hnb1 := hnb.1.1; have hnb2 := hnb.1.2; try simp only [keys_cons, keys_app, keys_nil, NotIn_cons, NotIn_app, NotIn_nil, and_true] at hnb2)
            | ((with_reducible refine NewRow.mk fun nb nsp ncap hnb hncap => ?_); have hnb1 := hnb.1.1; have hnb2 := hnb.1.2; try simp only [keys_cons, keys_app, keys_nil, NotIn_cons, NotIn_app, NotIn_nil, and_true] at hnb2)
            | simp (dsimp := false) (implicitDefEqProofs := false) (disch := first | assumption | (simp only [List.mem_cons, List.mem_append, true_or, or_true, eq_self]; done) | omega | (with_reducible refine Row.adr (by assumption) ?_; simp only [List.length_map, List.length_take, List.length_drop]; omega) | (simp only [List.length_cons, List.length_nil, List.length_map, List.length_append, List.length_replicate, Nat.reduceAdd, true_and, and_true, and_self]; first | done | omega)) only [go_sem, ↓reduceIte, Nat.reduceEqDiff, Nat.reduceAdd, Nat.reduceSub, Nat.reduceMul, Nat.reduceBEq, Nat.reduceLT, Nat.reduceLeDiff, Nat.reduceMod, Nat.reducePow, List.reduceReplicate, UInt8.reduceOfNat, Int.reducePow, Int.reduceDiv, Int.reduceMod, Nat.reduceDiv, Int.reduceNeg, Int.reduceAdd, Int.reduceSub, Int.reduceMul, Int.reduceLE, Int.reduceLT, Int.reduceEq, Int.reduceToNat, reduceCtorEq, -List.reduceReplicate, hCl, hCa, List.toList_toArray, hdec, hr1, List.length_map, hlt0]
            | with_reducible refine alike_t hsm hok O hjw hkw ?_
          rw [← hmk]
          exact Upd.go (H' := (nb, .cells (((mgL d).take (k + 1)).map (Value.int .i64)) nsp 3) :: (b1, .cells C [] 27) :: H) (by intro fsum; first | exact Nat.le_refl _ | (simp only [List.map_append, List.map_cons, List.map_nil, List.sum_append, List.sum_cons, List.sum_nil, List.cons_append, List.nil_append]; omega)) (Upd.now ⟨q - 1, by omega, k + 1, nb, ncap, nsp, by omega, rfl, by omega, rfl, rfl⟩)
        · have hdec : decide (colB d j = colB d k) = false := decide_eq_false (by rw [← colL_at hjc, ← colL_at hkn]; exact q6 j (by omega))
          repeat' first
            | with_reducible refine Br.yes ?_
            | with_reducible refine Br.no ?_
            | with_reducible refine Br.dec (fun _ => ?_) (fun _ => ?_)
            | with_reducible refine Br.beqB (fun _ => ?_) (fun _ => ?_)
            | with_reducible refine Br.beqb (fun _ => ?_) (fun _ => ?_)
            | with_reducible refine Br.mk (fun _ => ?_) (fun _ => ?_)
            | with_reducible refine foundO.mk (fun _ _ => ?_) (fun _ => ?_)
            | with_reducible refine appV.zero ?_
            | with_reducible refine appV.own ?_
            | ((with_reducible refine NewB.mk fun nb hnb => ?_); have hnb1 := hnb.1.1; have hnb2 := hnb.1.2; try simp only [keys_cons, keys_app, keys_nil, NotIn_cons, NotIn_app, NotIn_nil, and_true] at hnb2)
            | ((with_reducible refine NewRow.mk fun nb nsp ncap hnb hncap => ?_); have hnb1 := hnb.1.1; have hnb2 := hnb.1.2; try simp only [keys_cons, keys_app, keys_nil, NotIn_cons, NotIn_app, NotIn_nil, and_true] at hnb2)
            | simp (dsimp := false) (implicitDefEqProofs := false) (disch := first | assumption | (simp only [List.mem_cons, List.mem_append, true_or, or_true, eq_self]; done) | omega | (with_reducible refine Row.adr (by assumption) ?_; simp only [List.length_map, List.length_take, List.length_drop]; omega) | (simp only [List.length_cons, List.length_nil, List.length_map, List.length_append, List.length_replicate, Nat.reduceAdd, true_and, and_true, and_self]; first | done | omega)) only [go_sem, ↓reduceIte, Nat.reduceEqDiff, Nat.reduceAdd, Nat.reduceSub, Nat.reduceMul, Nat.reduceBEq, Nat.reduceLT, Nat.reduceLeDiff, Nat.reduceMod, Nat.reducePow, List.reduceReplicate, UInt8.reduceOfNat, Int.reducePow, Int.reduceDiv, Int.reduceMod, Nat.reduceDiv, Int.reduceNeg, Int.reduceAdd, Int.reduceSub, Int.reduceMul, Int.reduceLE, Int.reduceLT, Int.reduceEq, Int.reduceToNat, reduceCtorEq, -List.reduceReplicate, hCl, hCa, List.toList_toArray, hdec]
            | with_reducible refine alike_t hsm hok O hjw hkw ?_
          exact Upd.now ⟨q2 - 1, by omega, j + 1, by omega, by omega, rfl, rfl, rfl⟩
    · obtain rfl : k = (colL d).length := by omega
      have hall : (mgL d).take (colL d).length = mgL d := List.take_of_length_le (by omega)
      rw [hall]
      repeat' first
        | with_reducible refine Br.yes ?_
        | with_reducible refine Br.no ?_
        | with_reducible refine Br.dec (fun _ => ?_) (fun _ => ?_)
        | with_reducible refine Br.beqB (fun _ => ?_) (fun _ => ?_)
        | with_reducible refine Br.beqb (fun _ => ?_) (fun _ => ?_)
        | with_reducible refine Br.mk (fun _ => ?_) (fun _ => ?_)
        | with_reducible refine foundO.mk (fun _ _ => ?_) (fun _ => ?_)
        | with_reducible refine appV.zero ?_
        | with_reducible refine appV.own ?_
        | ((with_reducible refine NewB.mk fun nb hnb => ?_); have hnb1 := hnb.1.1; have hnb2 := hnb.1.2; try simp only [keys_cons, keys_app, keys_nil, NotIn_cons, NotIn_app, NotIn_nil, and_true] at hnb2)
        | ((with_reducible refine NewRow.mk fun nb nsp ncap hnb hncap => ?_); have hnb1 := hnb.1.1; have hnb2 := hnb.1.2; try simp only [keys_cons, keys_app, keys_nil, NotIn_cons, NotIn_app, NotIn_nil, and_true] at hnb2)
        | simp (dsimp := false) (implicitDefEqProofs := false) (disch := first | assumption | (simp only [List.mem_cons, List.mem_append, true_or, or_true, eq_self]; done) | omega | (with_reducible refine Row.adr (by assumption) ?_; simp only [List.length_map, List.length_take, List.length_drop]; omega) | (simp only [List.length_cons, List.length_nil, List.length_map, List.length_append, List.length_replicate, Nat.reduceAdd, true_and, and_true, and_self]; first | done | omega)) only [go_sem, ↓reduceIte, Nat.reduceEqDiff, Nat.reduceAdd, Nat.reduceSub, Nat.reduceMul, Nat.reduceBEq, Nat.reduceLT, Nat.reduceLeDiff, Nat.reduceMod, Nat.reducePow, List.reduceReplicate, UInt8.reduceOfNat, Int.reducePow, Int.reduceDiv, Int.reduceMod, Nat.reduceDiv, Int.reduceNeg, Int.reduceAdd, Int.reduceSub, Int.reduceMul, Int.reduceLE, Int.reduceLT, Int.reduceEq, Int.reduceToNat, reduceCtorEq, -List.reduceReplicate, hCl, hCw]
      unfold UpdR
      refine Upd.go (H' := (b3, .cells ((mgL d).map (Value.int .i64)) sp 3) :: H) (by intro fsum; first | exact Nat.le_refl _ | (simp only [List.map_append, List.map_cons, List.map_nil, List.sum_append, List.sum_cons, List.sum_nil, List.cons_append, List.nil_append]; omega)) (Upd.shareRow (by assumption) fun G3 hle3 hs3 hr3 => ?_)
      exact fun hle hs => hR _ _ hle3 hs ⟨some ⟨b3, 0, none⟩, c3, by rw [hml], hr3, by omega⟩
set_option maxHeartbeats 8000000 in
theorem rClasses_t {d : DfaT} (hsm : SmallD d) {G : PHeap} {H : Heap} {R : Value → PHeap → Heap → Prop} {v : Value} (hv : IsD G d v)
    (hR : ∀ G', PLe G G' → Sep G' (keys H) → R (if boolOf (RightP d) = true then .tuple #[agg8 (nums (clL d)), .int .i64 (tabO (clL d)).length] else .tuple #[agg8 (List.replicate 256 0), .int .i64 0]) G' H) : FnT Tryd.prog 7 [v] G H R := by
  obtain ⟨C, an, al, ay, cn, cl, cs, rs, rfl, O⟩ := hv.opened
  have hCl := O.len
  have hCa := O.all
  have hCo := O.of
  refine FnT.sep ?_
  by_cases hok : RightP d
  · have hb := boolOf_yes hok
    rw [if_pos hb, ← clR_nums hok, ← tab_same (clR_nums hok)] at hR
    have hcl := clR_len O.ofl
    have hclb : ∀ x ∈ clR d, 0 ≤ x ∧ x ≤ 255 := fun x hx => by
      obtain ⟨i, hi, e⟩ := List.getElem_of_mem hx
      obtain ⟨h3, h4, e', e1, e2⟩ := clR_at hok (i := i) (by rw [O.ofl]; omega)
      have := width_le hok O.ofl
      rw [← e]; omega
    have hu8 : (u8L (clR d)).length = 256 := by rw [List.length_map, hcl]
    have htk : List.take 256 (u8L (clR d)) = u8L (clR d) := List.take_of_length_le (by omega)
    refine FnT.body tok [0, 1, 2, 3, 4, 5, 6, 10, 15] Tryd.func7 rfl (by kernel_rfl) (by kernel_rfl) (by show _ ≤ 32; simp) fun hsep => ?_
    rw [Tryd.results7]
    have hsE := hsep
    try simp only [keys_cons, keys_app, keys_nil, Sep_cons, Sep_nil, NotIn_cons, NotIn_app, NotIn_nil, List.cons_append, List.nil_append, List.append_assoc, and_assoc, and_true, true_and] at hsE
    repeat (obtain ⟨hsx, hsE⟩ := hsE)
    repeat' first
      | with_reducible refine Br.yes ?_
      | with_reducible refine Br.no ?_
      | with_reducible refine Br.dec (fun _ => ?_) (fun _ => ?_)
      | with_reducible refine Br.beqB (fun _ => ?_) (fun _ => ?_)
      | with_reducible refine Br.beqb (fun _ => ?_) (fun _ => ?_)
      | with_reducible refine Br.mk (fun _ => ?_) (fun _ => ?_)
      | with_reducible refine foundO.mk (fun _ _ => ?_) (fun _ => ?_)
      | with_reducible refine appV.zero ?_
      | with_reducible refine appV.own ?_
      | ((with_reducible refine NewB.mk fun nb hnb => ?_); have hnb1 := hnb.1.1; have hnb2 := hnb.1.2; try simp only [keys_cons, keys_app, keys_nil, NotIn_cons, NotIn_app, NotIn_nil, and_true] at hnb2)
      | ((with_reducible refine NewRow.mk fun nb nsp ncap hnb hncap => ?_); have hnb1 := hnb.1.1; have hnb2 := hnb.1.2; try simp only [keys_cons, keys_app, keys_nil, NotIn_cons, NotIn_app, NotIn_nil, and_true] at hnb2)
      | simp (dsimp := false) (implicitDefEqProofs := false) (disch := first | assumption | (simp only [List.mem_cons, List.mem_append, true_or, or_true, eq_self]; done) | omega | (with_reducible refine Row.adr (by assumption) ?_; simp only [List.length_map, List.length_take, List.length_drop]; omega) | (simp only [List.length_cons, List.length_nil, List.length_map, List.length_append, List.length_replicate, Nat.reduceAdd, true_and, and_true, and_self]; first | done | omega)) only [go_sem, ↓reduceIte, Nat.reduceEqDiff, Nat.reduceAdd, Nat.reduceSub, Nat.reduceMul, Nat.reduceBEq, Nat.reduceLT, Nat.reduceLeDiff, Nat.reduceMod, Nat.reducePow, List.reduceReplicate, UInt8.reduceOfNat, Int.reducePow, Int.reduceDiv, Int.reduceMod, Nat.reduceDiv, Int.reduceNeg, Int.reduceAdd, Int.reduceSub, Int.reduceMul, Int.reduceLE, Int.reduceLT, Int.reduceEq, Int.reduceToNat, reduceCtorEq, -List.reduceReplicate, List.toList_toArray, hCl, hCa, hCo, hb, u8F_zero, u8F_len, u8F_one, u8F_over, u8F_take]
    rename_i b1 hb1 hb11 hb12 b2 hb2 hb21 hb22
    revert nb
    intro b4 hb4 hb41 hb42
    refine rright_t hsm O.is fun G2 hle2 hs2 => ?_
    rw [hb]
    have O2 := O.mono hle2
    have hsE := hs2
    try simp only [keys_cons, keys_app, keys_nil, Sep_cons, Sep_nil, NotIn_cons, NotIn_app, NotIn_nil, List.cons_append, List.nil_append, List.append_assoc, and_assoc, and_true, true_and] at hsE
    repeat (obtain ⟨hsx, hsE⟩ := hsE)
    repeat' first
      | with_reducible refine Br.yes ?_
      | with_reducible refine Br.no ?_
      | with_reducible refine Br.dec (fun _ => ?_) (fun _ => ?_)
      | with_reducible refine Br.beqB (fun _ => ?_) (fun _ => ?_)
      | with_reducible refine Br.beqb (fun _ => ?_) (fun _ => ?_)
      | with_reducible refine Br.mk (fun _ => ?_) (fun _ => ?_)
      | with_reducible refine foundO.mk (fun _ _ => ?_) (fun _ => ?_)
      | with_reducible refine appV.zero ?_
      | with_reducible refine appV.own ?_
      | ((with_reducible refine NewB.mk fun nb hnb => ?_); have hnb1 := hnb.1.1; have hnb2 := hnb.1.2; try simp only [keys_cons, keys_app, keys_nil, NotIn_cons, NotIn_app, NotIn_nil, and_true] at hnb2)
      | ((with_reducible refine NewRow.mk fun nb nsp ncap hnb hncap => ?_); have hnb1 := hnb.1.1; have hnb2 := hnb.1.2; try simp only [keys_cons, keys_app, keys_nil, NotIn_cons, NotIn_app, NotIn_nil, and_true] at hnb2)
      | simp (dsimp := false) (implicitDefEqProofs := false) (disch := first | assumption | (simp only [List.mem_cons, List.mem_append, true_or, or_true, eq_self]; done) | omega | (with_reducible refine Row.adr (by assumption) ?_; simp only [List.length_map, List.length_take, List.length_drop]; omega) | (simp only [List.length_cons, List.length_nil, List.length_map, List.length_append, List.length_replicate, Nat.reduceAdd, true_and, and_true, and_self]; first | done | omega)) only [go_sem, ↓reduceIte, Nat.reduceEqDiff, Nat.reduceAdd, Nat.reduceSub, Nat.reduceMul, Nat.reduceBEq, Nat.reduceLT, Nat.reduceLeDiff, Nat.reduceMod, Nat.reducePow, List.reduceReplicate, UInt8.reduceOfNat, Int.reducePow, Int.reduceDiv, Int.reduceMod, Nat.reduceDiv, Int.reduceNeg, Int.reduceAdd, Int.reduceSub, Int.reduceMul, Int.reduceLE, Int.reduceLT, Int.reduceEq, Int.reduceToNat, reduceCtorEq, -List.reduceReplicate, List.toList_toArray, hCl, hCa, hCo, hb, u8F_zero, u8F_len, u8F_one, u8F_over, u8F_take]
    refine merged_t hsm hok O2 fun G3 v3 hle3 hs3 hsl3 => ?_
    obtain ⟨a2, c2, rfl, hr2, hc2⟩ := hsl3
    have hsE := hs3
    try simp only [keys_cons, keys_app, keys_nil, Sep_cons, Sep_nil, NotIn_cons, NotIn_app, NotIn_nil, List.cons_append, List.nil_append, List.append_assoc, and_assoc, and_true, true_and] at hsE
    repeat (obtain ⟨hsx, hsE⟩ := hsE)
    repeat' first
      | with_reducible refine Br.yes ?_
      | with_reducible refine Br.no ?_
      | with_reducible refine Br.dec (fun _ => ?_) (fun _ => ?_)
      | with_reducible refine Br.beqB (fun _ => ?_) (fun _ => ?_)
      | with_reducible refine Br.beqb (fun _ => ?_) (fun _ => ?_)
      | with_reducible refine Br.mk (fun _ => ?_) (fun _ => ?_)
      | with_reducible refine foundO.mk (fun _ _ => ?_) (fun _ => ?_)
      | with_reducible refine appV.zero ?_
      | with_reducible refine appV.own ?_
      | ((with_reducible refine NewB.mk fun nb hnb => ?_); have hnb1 := hnb.1.1; have hnb2 := hnb.1.2; try simp only [keys_cons, keys_app, keys_nil, NotIn_cons, NotIn_app, NotIn_nil, and_true] at hnb2)
      | ((with_reducible refine NewRow.mk fun nb nsp ncap hnb hncap => ?_); have hnb1 := hnb.1.1; have hnb2 := hnb.1.2; try simp only [keys_cons, keys_app, keys_nil, NotIn_cons, NotIn_app, NotIn_nil, and_true] at hnb2)
      | simp (dsimp := false) (implicitDefEqProofs := false) (disch := first | assumption | (simp only [List.mem_cons, List.mem_append, true_or, or_true, eq_self]; done) | omega | (with_reducible refine Row.adr (by assumption) ?_; simp only [List.length_map, List.length_take, List.length_drop]; omega) | (simp only [List.length_cons, List.length_nil, List.length_map, List.length_append, List.length_replicate, Nat.reduceAdd, true_and, and_true, and_self]; first | done | omega)) only [go_sem, ↓reduceIte, Nat.reduceEqDiff, Nat.reduceAdd, Nat.reduceSub, Nat.reduceMul, Nat.reduceBEq, Nat.reduceLT, Nat.reduceLeDiff, Nat.reduceMod, Nat.reducePow, List.reduceReplicate, UInt8.reduceOfNat, Int.reducePow, Int.reduceDiv, Int.reduceMod, Nat.reduceDiv, Int.reduceNeg, Int.reduceAdd, Int.reduceSub, Int.reduceMul, Int.reduceLE, Int.reduceLT, Int.reduceEq, Int.reduceToNat, reduceCtorEq, -List.reduceReplicate, List.toList_toArray, hCl, hCa, hCo, hb, u8F_zero, u8F_len, u8F_one, u8F_over, u8F_take]
    have hnl := mgL_len d
    have hnu8 : (u8L (nums (clR d))).length = 256 := by rw [List.length_map, nums_len, hcl]
    have hno1 : (u8L (nums (clR d))).all oneV = true := by rw [List.all_map]; exact List.all_eq_true.2 fun _ _ => rfl
    have hns : splice (u8F fun _ => 0) 0 (u8L (nums (clR d))) = u8L (nums (clR d)) := by rw [← u8F_nums hcl, u8F_over]
    have hnt : List.take 256 (u8L (nums (clR d))) = u8L (nums (clR d)) := List.take_of_length_le (by omega)
    have had : Adr a2 := hr2.adr (by rw [List.length_map, hnl]; have := width_pos hok; have := of_bound hok (List.getElem_mem (l := d.of) (n := 0) (by rw [O.ofl]; omega)); omega)
    have hofl := O.ofl
    have hu8o : (u8L d.of).length = 256 := by rw [List.length_map, hofl]
    have hw8 := width_le hok O.ofl
    refine Tri.loopU tok [0, 1, 2, 3, 4, 5, 6, 10, 15] (by kernel_rfl) [1, 2, 3, 4, 5, 6] (fun q G' fr H' => ∃ (c : Nat), c + q = 256 ∧ G' = G3 ∧ H' = (b4, .cells (u8F (clV d c)) [] 22) :: (b2, .cells (u8F fun _ => 0) [] 22) :: (b1, .cells C [] 27) :: H ∧ fr = [(1, .pointer (some ⟨b1, 0, none⟩)), (2, .pointer (some ⟨b2, 0, none⟩)), (3, .int .i64 0), (4, .pointer (some ⟨b4, 0, none⟩)), (5, .slice a2 (mgL d).length c2), (6, .int .i64 (c : Nat))]) (256) ?_ ?_
    · exact Upd.now ⟨0, by omega, rfl, by rw [clV_zero], rfl⟩
    · rintro q G1 fr H' hle hs1 ⟨c, hc, rfl, rfl, rfl⟩
      have hsE := hs1
      try simp only [keys_cons, keys_app, keys_nil, Sep_cons, Sep_nil, NotIn_cons, NotIn_app, NotIn_nil, List.cons_append, List.nil_append, List.append_assoc, and_assoc, and_true, true_and] at hsE
      repeat (obtain ⟨hsx, hsE⟩ := hsE)
      by_cases hc2 : c < 256
      · obtain ⟨h3, h4, e, e1, e2⟩ := clR_at hok (i := c) (by omega)
        obtain ⟨q1, q2⟩ := O.ofb _ (List.getElem_mem (l := d.of) (n := c) (by omega))
        have hw : IntKind.u8.wrap ((mgL d)[(d.of[c]).toNat]) = (clR d)[c] := by
          rw [e]; obtain ⟨t, ht⟩ := Int.eq_ofNat_of_zero_le (e ▸ e1); rw [ht]; exact u8_wrap (by omega)
        have hput : splice (u8F (clV d c)) c [.int .u8 (clR d)[c]] = u8F (clV d (c + 1)) := by
          rw [u8F_putS hc2]; exact clV_succ (by rw [atL_get (by simpa using h4)]; simp)
        have hget : (C.take 256)[c]? = some (.int .u8 d.of[c]) := by rw [hCo, List.getElem?_map, List.getElem?_eq_getElem (by omega)]; rfl
        have hgetC : C[c]? = some (.int .u8 d.of[c]) := by rw [← hget, List.getElem?_take, if_pos hc2]
        repeat' first
          | with_reducible refine Br.yes ?_
          | with_reducible refine Br.no ?_
          | with_reducible refine Br.dec (fun _ => ?_) (fun _ => ?_)
          | with_reducible refine Br.beqB (fun _ => ?_) (fun _ => ?_)
          | with_reducible refine Br.beqb (fun _ => ?_) (fun _ => ?_)
          | with_reducible refine Br.mk (fun _ => ?_) (fun _ => ?_)
          | with_reducible refine foundO.mk (fun _ _ => ?_) (fun _ => ?_)
          | with_reducible refine appV.zero ?_
          | with_reducible refine appV.own ?_
          | ((with_reducible refine NewB.mk fun nb hnb => ?_); have hnb1 := hnb.1.1; have hnb2 := hnb.1.2; try simp only [keys_cons, keys_app, keys_nil, NotIn_cons, NotIn_app, NotIn_nil, and_true] at hnb2)
          | ((with_reducible refine NewRow.mk fun nb nsp ncap hnb hncap => ?_); have hnb1 := hnb.1.1; have hnb2 := hnb.1.2; try simp only [keys_cons, keys_app, keys_nil, NotIn_cons, NotIn_app, NotIn_nil, and_true] at hnb2)
          | simp (dsimp := false) (implicitDefEqProofs := false) (disch := first | assumption | (simp only [List.mem_cons, List.mem_append, true_or, or_true, eq_self]; done) | omega | (with_reducible refine Row.adr (by assumption) ?_; simp only [List.length_map, List.length_take, List.length_drop]; omega) | (simp only [List.length_cons, List.length_nil, List.length_map, List.length_append, List.length_replicate, Nat.reduceAdd, true_and, and_true, and_self]; first | done | omega)) only [go_sem, ↓reduceIte, Nat.reduceEqDiff, Nat.reduceAdd, Nat.reduceSub, Nat.reduceMul, Nat.reduceBEq, Nat.reduceLT, Nat.reduceLeDiff, Nat.reduceMod, Nat.reducePow, List.reduceReplicate, UInt8.reduceOfNat, Int.reducePow, Int.reduceDiv, Int.reduceMod, Nat.reduceDiv, Int.reduceNeg, Int.reduceAdd, Int.reduceSub, Int.reduceMul, Int.reduceLE, Int.reduceLT, Int.reduceEq, Int.reduceToNat, reduceCtorEq, -List.reduceReplicate, List.toList_toArray, hCl, hCa, hCo, hb, u8F_len, u8F_one, u8F_over, u8F_take, hu8o, List.getElem_map, hofl, Row.obj hr2, hw, hput, hgetC]
        exact Upd.now ⟨q - 1, by omega, c + 1, by omega, rfl, rfl, rfl⟩
      · obtain rfl : c = 256 := by omega
        rw [clV_all hofl]
        repeat' first
          | with_reducible refine Br.yes ?_
          | with_reducible refine Br.no ?_
          | with_reducible refine Br.dec (fun _ => ?_) (fun _ => ?_)
          | with_reducible refine Br.beqB (fun _ => ?_) (fun _ => ?_)
          | with_reducible refine Br.beqb (fun _ => ?_) (fun _ => ?_)
          | with_reducible refine Br.mk (fun _ => ?_) (fun _ => ?_)
          | with_reducible refine foundO.mk (fun _ _ => ?_) (fun _ => ?_)
          | with_reducible refine appV.zero ?_
          | with_reducible refine appV.own ?_
          | ((with_reducible refine NewB.mk fun nb hnb => ?_); have hnb1 := hnb.1.1; have hnb2 := hnb.1.2; try simp only [keys_cons, keys_app, keys_nil, NotIn_cons, NotIn_app, NotIn_nil, and_true] at hnb2)
          | ((with_reducible refine NewRow.mk fun nb nsp ncap hnb hncap => ?_); have hnb1 := hnb.1.1; have hnb2 := hnb.1.2; try simp only [keys_cons, keys_app, keys_nil, NotIn_cons, NotIn_app, NotIn_nil, and_true] at hnb2)
          | simp (dsimp := false) (implicitDefEqProofs := false) (disch := first | assumption | (simp only [List.mem_cons, List.mem_append, true_or, or_true, eq_self]; done) | omega | (with_reducible refine Row.adr (by assumption) ?_; simp only [List.length_map, List.length_take, List.length_drop]; omega) | (simp only [List.length_cons, List.length_nil, List.length_map, List.length_append, List.length_replicate, Nat.reduceAdd, true_and, and_true, and_self]; first | done | omega)) only [go_sem, ↓reduceIte, Nat.reduceEqDiff, Nat.reduceAdd, Nat.reduceSub, Nat.reduceMul, Nat.reduceBEq, Nat.reduceLT, Nat.reduceLeDiff, Nat.reduceMod, Nat.reducePow, List.reduceReplicate, UInt8.reduceOfNat, Int.reducePow, Int.reduceDiv, Int.reduceMod, Nat.reduceDiv, Int.reduceNeg, Int.reduceAdd, Int.reduceSub, Int.reduceMul, Int.reduceLE, Int.reduceLT, Int.reduceEq, Int.reduceToNat, reduceCtorEq, -List.reduceReplicate, List.toList_toArray, hCl, hCa, hCo, hb, u8F_len, u8F_one, u8F_over, u8F_take, hu8, htk, hnu8, hno1, hns, hnt]
        refine rpnorm_t hcl hclb fun G4 hle4 hs4 => ?_
        have hsE := hs4
        try simp only [keys_cons, keys_app, keys_nil, Sep_cons, Sep_nil, NotIn_cons, NotIn_app, NotIn_nil, List.cons_append, List.nil_append, List.append_assoc, and_assoc, and_true, true_and] at hsE
        repeat (obtain ⟨hsx, hsE⟩ := hsE)
        repeat' first
          | with_reducible refine Br.yes ?_
          | with_reducible refine Br.no ?_
          | with_reducible refine Br.dec (fun _ => ?_) (fun _ => ?_)
          | with_reducible refine Br.beqB (fun _ => ?_) (fun _ => ?_)
          | with_reducible refine Br.beqb (fun _ => ?_) (fun _ => ?_)
          | with_reducible refine Br.mk (fun _ => ?_) (fun _ => ?_)
          | with_reducible refine foundO.mk (fun _ _ => ?_) (fun _ => ?_)
          | with_reducible refine appV.zero ?_
          | with_reducible refine appV.own ?_
          | ((with_reducible refine NewB.mk fun nb hnb => ?_); have hnb1 := hnb.1.1; have hnb2 := hnb.1.2; try simp only [keys_cons, keys_app, keys_nil, NotIn_cons, NotIn_app, NotIn_nil, and_true] at hnb2)
          | ((with_reducible refine NewRow.mk fun nb nsp ncap hnb hncap => ?_); have hnb1 := hnb.1.1; have hnb2 := hnb.1.2; try simp only [keys_cons, keys_app, keys_nil, NotIn_cons, NotIn_app, NotIn_nil, and_true] at hnb2)
          | simp (dsimp := false) (implicitDefEqProofs := false) (disch := first | assumption | (simp only [List.mem_cons, List.mem_append, true_or, or_true, eq_self]; done) | omega | (with_reducible refine Row.adr (by assumption) ?_; simp only [List.length_map, List.length_take, List.length_drop]; omega) | (simp only [List.length_cons, List.length_nil, List.length_map, List.length_append, List.length_replicate, Nat.reduceAdd, true_and, and_true, and_self]; first | done | omega)) only [go_sem, ↓reduceIte, Nat.reduceEqDiff, Nat.reduceAdd, Nat.reduceSub, Nat.reduceMul, Nat.reduceBEq, Nat.reduceLT, Nat.reduceLeDiff, Nat.reduceMod, Nat.reducePow, List.reduceReplicate, UInt8.reduceOfNat, Int.reducePow, Int.reduceDiv, Int.reduceMod, Nat.reduceDiv, Int.reduceNeg, Int.reduceAdd, Int.reduceSub, Int.reduceMul, Int.reduceLE, Int.reduceLT, Int.reduceEq, Int.reduceToNat, reduceCtorEq, -List.reduceReplicate, List.toList_toArray, hCl, hCa, hCo, hb, u8F_len, u8F_one, u8F_over, u8F_take, hu8, htk, hnu8, hno1, hns, hnt]
        unfold UpdR
        refine Upd.go (H' := H) (by intro fsum; first | exact Nat.le_refl _ | (simp only [List.map_append, List.map_cons, List.map_nil, List.sum_append, List.sum_cons, List.sum_nil, List.cons_append, List.nil_append]; omega)) (Upd.now ?_)
        exact fun _ hs => hR G4 ((hle2.trans hle3).trans hle4) hs
  · have hb := boolOf_no hok
    rw [hb, if_neg (by simp)] at hR
    have h8 : (List.replicate 256 (Value.int .u8 0)) = u8L (List.replicate 256 0) := by rw [u8L, List.map_replicate]
    refine FnT.body tok [0, 1, 2, 3, 4, 5, 6, 10, 15] Tryd.func7 rfl (by kernel_rfl) (by kernel_rfl) (by show _ ≤ 32; simp) fun hsep => ?_
    rw [Tryd.results7]
    have hsE := hsep
    try simp only [keys_cons, keys_app, keys_nil, Sep_cons, Sep_nil, NotIn_cons, NotIn_app, NotIn_nil, List.cons_append, List.nil_append, List.append_assoc, and_assoc, and_true, true_and] at hsE
    repeat (obtain ⟨hsx, hsE⟩ := hsE)
    repeat' first
      | with_reducible refine Br.yes ?_
      | with_reducible refine Br.no ?_
      | with_reducible refine Br.dec (fun _ => ?_) (fun _ => ?_)
      | with_reducible refine Br.beqB (fun _ => ?_) (fun _ => ?_)
      | with_reducible refine Br.beqb (fun _ => ?_) (fun _ => ?_)
      | with_reducible refine Br.mk (fun _ => ?_) (fun _ => ?_)
      | with_reducible refine foundO.mk (fun _ _ => ?_) (fun _ => ?_)
      | with_reducible refine appV.zero ?_
      | with_reducible refine appV.own ?_
      | ((with_reducible refine NewB.mk fun nb hnb => ?_); have hnb1 := hnb.1.1; have hnb2 := hnb.1.2; try simp only [keys_cons, keys_app, keys_nil, NotIn_cons, NotIn_app, NotIn_nil, and_true] at hnb2)
      | ((with_reducible refine NewRow.mk fun nb nsp ncap hnb hncap => ?_); have hnb1 := hnb.1.1; have hnb2 := hnb.1.2; try simp only [keys_cons, keys_app, keys_nil, NotIn_cons, NotIn_app, NotIn_nil, and_true] at hnb2)
      | simp (dsimp := false) (implicitDefEqProofs := false) (disch := first | assumption | (simp only [List.mem_cons, List.mem_append, true_or, or_true, eq_self]; done) | omega | (with_reducible refine Row.adr (by assumption) ?_; simp only [List.length_map, List.length_take, List.length_drop]; omega) | (simp only [List.length_cons, List.length_nil, List.length_map, List.length_append, List.length_replicate, Nat.reduceAdd, true_and, and_true, and_self]; first | done | omega)) only [go_sem, ↓reduceIte, Nat.reduceEqDiff, Nat.reduceAdd, Nat.reduceSub, Nat.reduceMul, Nat.reduceBEq, Nat.reduceLT, Nat.reduceLeDiff, Nat.reduceMod, Nat.reducePow, List.reduceReplicate, UInt8.reduceOfNat, Int.reducePow, Int.reduceDiv, Int.reduceMod, Nat.reduceDiv, Int.reduceNeg, Int.reduceAdd, Int.reduceSub, Int.reduceMul, Int.reduceLE, Int.reduceLT, Int.reduceEq, Int.reduceToNat, reduceCtorEq, -List.reduceReplicate, List.toList_toArray, hCl, hCa, hCo, hb, u8F_zero, u8F_len, u8F_one, u8F_over, u8F_take]
    refine rright_t hsm O.is fun G2 hle2 hs2 => ?_
    rw [hb]
    have hsE := hs2
    try simp only [keys_cons, keys_app, keys_nil, Sep_cons, Sep_nil, NotIn_cons, NotIn_app, NotIn_nil, List.cons_append, List.nil_append, List.append_assoc, and_assoc, and_true, true_and] at hsE
    repeat (obtain ⟨hsx, hsE⟩ := hsE)
    repeat' first
      | with_reducible refine Br.yes ?_
      | with_reducible refine Br.no ?_
      | with_reducible refine Br.dec (fun _ => ?_) (fun _ => ?_)
      | with_reducible refine Br.beqB (fun _ => ?_) (fun _ => ?_)
      | with_reducible refine Br.beqb (fun _ => ?_) (fun _ => ?_)
      | with_reducible refine Br.mk (fun _ => ?_) (fun _ => ?_)
      | with_reducible refine foundO.mk (fun _ _ => ?_) (fun _ => ?_)
      | with_reducible refine appV.zero ?_
      | with_reducible refine appV.own ?_
      | ((with_reducible refine NewB.mk fun nb hnb => ?_); have hnb1 := hnb.1.1; have hnb2 := hnb.1.2; try simp only [keys_cons, keys_app, keys_nil, NotIn_cons, NotIn_app, NotIn_nil, and_true] at hnb2)
      | ((with_reducible refine NewRow.mk fun nb nsp ncap hnb hncap => ?_); have hnb1 := hnb.1.1; have hnb2 := hnb.1.2; try simp only [keys_cons, keys_app, keys_nil, NotIn_cons, NotIn_app, NotIn_nil, and_true] at hnb2)
      | simp (dsimp := false) (implicitDefEqProofs := false) (disch := first | assumption | (simp only [List.mem_cons, List.mem_append, true_or, or_true, eq_self]; done) | omega | (with_reducible refine Row.adr (by assumption) ?_; simp only [List.length_map, List.length_take, List.length_drop]; omega) | (simp only [List.length_cons, List.length_nil, List.length_map, List.length_append, List.length_replicate, Nat.reduceAdd, true_and, and_true, and_self]; first | done | omega)) only [go_sem, ↓reduceIte, Nat.reduceEqDiff, Nat.reduceAdd, Nat.reduceSub, Nat.reduceMul, Nat.reduceBEq, Nat.reduceLT, Nat.reduceLeDiff, Nat.reduceMod, Nat.reducePow, List.reduceReplicate, UInt8.reduceOfNat, Int.reducePow, Int.reduceDiv, Int.reduceMod, Nat.reduceDiv, Int.reduceNeg, Int.reduceAdd, Int.reduceSub, Int.reduceMul, Int.reduceLE, Int.reduceLT, Int.reduceEq, Int.reduceToNat, reduceCtorEq, -List.reduceReplicate, List.toList_toArray, hCl, hCa, hCo, hb, u8F_zero, u8F_len, u8F_one, u8F_over, u8F_take]
    unfold UpdR
    refine Upd.go (H' := H) (by intro fsum; first | exact Nat.le_refl _ | (simp only [List.map_append, List.map_cons, List.map_nil, List.sum_append, List.sum_cons, List.sum_nil, List.cons_append, List.nil_append]; omega)) (Upd.now ?_)
    rw [← u8F_zero, h8]
    exact fun _ hs => hR G2 hle2 hs
end Go.Proofs.YtmnmihfinmcljaaDoor
