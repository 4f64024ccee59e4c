/- The sets of classes, as the document has them: contracts. -/
import Derived.Test.YtpagkndgjihbbaaUb
import Derived.Test.YtpagkndgjihbbaaSk
set_option linter.unusedSimpArgs false
set_option linter.unusedVariables false
namespace Go.Proofs.Ytpagkndgjihbbaa
open Go Go.V Go.Proofs

def boolsU (n : Nat) (f : Nat → Bool) : List Value := (List.range n).map fun k => Value.bool (f k)
theorem boolsU_len (n : Nat) (f : Nat → Bool) : (boolsU n f).length = n := by simp [boolsU]
theorem boolsU_at {n : Nat} {f : Nat → Bool} {i : Nat} (h : i < (boolsU n f).length) : (boolsU n f)[i] = .bool (f i) := by simp [boolsU]
theorem boolsU_get {n : Nat} {f : Nat → Bool} {i : Nat} (h : i < n) : (boolsU n f)[i]? = some (.bool (f i)) := by
  rw [List.getElem?_eq_getElem (by rw [boolsU_len]; exact h), boolsU_at]
theorem boolsU_putS {n : Nat} {f : Nat → Bool} {i : Nat} (h : i < n) (x : Bool) : splice (boolsU n f) i [.bool x] = boolsU n (upd f i x) := by
  rw [splice_one' (by rw [boolsU_len]; exact h)]
  apply List.ext_getElem (by rw [List.length_set, boolsU_len, boolsU_len])
  intro k h1 h2
  rw [boolsU_at, List.getElem_set]
  by_cases hk : i = k
  · subst hk; rw [if_pos rfl, upd_same]
  · rw [if_neg hk, boolsU_at, upd_ne _ _ (Ne.symm hk)]
theorem boolsU_zero (n : Nat) : List.replicate n (Value.bool false) = boolsU n (fun _ => false) := by
  unfold boolsU; rw [List.map_const', List.length_range]
theorem boolsU_one (n : Nat) (f : Nat → Bool) : (boolsU n f).all oneV = true := by unfold boolsU; rw [List.all_map]; exact List.all_eq_true.2 fun _ _ => rfl
theorem boolsU_over (n : Nat) (f g : Nat → Bool) : splice (boolsU n f) 0 (boolsU n g) = boolsU n g := by
  unfold splice
  rw [List.take_zero, List.nil_append, List.drop_of_length_le (by rw [boolsU_len, boolsU_len]; omega), List.append_nil]
theorem boolsU_congr {n : Nat} {f g : Nat → Bool} (h : ∀ k, k < n → f k = g k) : boolsU n f = boolsU n g := by
  unfold boolsU
  exact List.map_congr_left fun k hk => by rw [h k (List.mem_range.1 hk)]
/-- sets that are classes -/
def SetsOf (l : List Int) (c : Nat) (W : List (Nat → Nat)) : Prop :=
  W.length = (tabO (l.take c)).length ∧ (∀ ws ∈ W, ∀ k, ws k < 18446744073709551616) ∧ ∀ i d (hi : i < W.length) (hd : d < l.length) (h2 : i < (tabO (l.take c)).length), mem W[i] d = decide (l[d] = (tabO (l.take c))[i])
def numsOf : (Nat → Nat) → List Value := numsU 4
theorem numsOf_len (ws : Nat → Nat) : (numsOf ws).length = 4 := numsU_len 4 ws
theorem mem_none (i : Nat) : mem (fun _ => 0) i = false := by unfold mem; exact Nat.zero_testBit _
theorem zero4 : [Value.int .u64 0, Value.int .u64 0, Value.int .u64 0, Value.int .u64 0] = numsU 4 (fun _ => 0) := rfl
set_option maxHeartbeats 16000000 in
theorem sets_t {l : List Int} (hl : l.length = 256) (hlb : ∀ x ∈ l, 0 ≤ x ∧ x ≤ 255) {G : PHeap} {H : Heap} {R : Value → PHeap → Heap → Prop}
    (hR : ∀ G' v' W, PLe G G' → Sep G' (keys H) → SlM G' numsOf v' W → SetsOf l 256 W → R v' G' H) : FnT Try.prog 84 [agg8 l] G H R := by
  have hu8 : (u8L l).length = 256 := by rw [List.length_map, hl]
  refine FnT.sep ?_
  refine FnT.body tok [0, 1, 2, 3, 4, 5, 6, 7, 11, 18, 26, 35] Try.func84 rfl (by kernel_rfl) (by kernel_rfl) (by show _ ≤ 44; simp) fun hsep => ?_
  rw [Try.results84]
  have hsE := hsep
  try simp only [keys_cons, keys_app, keys_nil, Sep_cons, Sep_nil, NotIn_cons, NotIn_app, NotIn_nil, List.cons_append, List.nil_append, List.append_assoc, and_assoc, and_true, true_and] at hsE
  repeat (obtain ⟨hsx, hsE⟩ := hsE)
  repeat' first
    | with_reducible refine Br.yes ?_
    | with_reducible refine Br.no ?_
    | with_reducible refine Br.dec (fun _ => ?_) (fun _ => ?_)
    | with_reducible refine Br.beqB (fun _ => ?_) (fun _ => ?_)
    | with_reducible refine Br.beqb (fun _ => ?_) (fun _ => ?_)
    | with_reducible refine Br.mk (fun _ => ?_) (fun _ => ?_)
    | with_reducible refine foundO.mk (fun _ _ => ?_) (fun _ => ?_)
    | with_reducible refine appV.zero ?_
    | with_reducible refine appV.own ?_
    | ((with_reducible refine NewB.mk fun nb hnb => ?_); have hnb1 := hnb.1.1; have hnb2 := hnb.1.2; try simp only [keys_cons, keys_app, keys_nil, NotIn_cons, NotIn_app, NotIn_nil, and_true] at hnb2)
    | ((with_reducible refine NewRow.mk fun nb nsp ncap hnb hncap => ?_); have hnb1 := hnb.1.1; have hnb2 := hnb.1.2; try simp only [keys_cons, keys_app, keys_nil, NotIn_cons, NotIn_app, NotIn_nil, and_true] at hnb2)
    | simp (dsimp := false) (implicitDefEqProofs := false) (disch := first | assumption | (simp only [List.mem_cons, List.mem_append, true_or, or_true, eq_self]; done) | omega | (with_reducible refine Row.adr (by assumption) ?_; simp only [List.length_map, List.length_take, List.length_drop]; omega) | (simp only [List.length_cons, List.length_nil, List.length_map, List.length_append, List.length_replicate, Nat.reduceAdd, true_and, and_true, and_self]; first | done | omega)) only [go_sem, ↓reduceIte, Nat.reduceEqDiff, Nat.reduceAdd, Nat.reduceSub, Nat.reduceMul, Nat.reduceBEq, Nat.reduceLT, Nat.reduceLeDiff, Nat.reduceMod, Nat.reducePow, List.reduceReplicate, UInt8.reduceOfNat, Int.reducePow, Int.reduceDiv, Int.reduceMod, Nat.reduceDiv, Int.reduceNeg, Int.reduceAdd, Int.reduceSub, Int.reduceMul, Int.reduceLE, Int.reduceLT, Int.reduceEq, Int.reduceToNat, reduceCtorEq, -List.reduceReplicate, List.toList_toArray, boolsU_zero, boolsU_len, boolsU_one, boolsU_over]
  rename_i b1 hb10 hb11 hb12 bo0 ho0 ho1 ho2
  revert nb
  intro bd hbd hbd1 hbd2
  refine Tri.loopU tok [0, 1, 2, 3, 4, 5, 6, 7, 11, 18, 26, 35] (by kernel_rfl) [1, 2, 3, 4, 5] (fun q G' fr H' => ∃ (c bo cap : Nat) (W : List (Nat → Nat)) (sp : List Value), c + q = 256 ∧ G' = G ∧ SetsOf l c W ∧ W.length * 4 + sp.length = cap * 4 ∧ H' = (bd, .cells (boolsU 256 (fun x => decide ((x : Int) ∈ l.take c))) [] 108) :: (bo, .cells (W.flatMap numsOf) sp 107) :: (b1, .cells (u8L l) [] 22) :: H ∧ fr = [(1, .pointer (some ⟨b1, 0, none⟩)), (2, .slice none 0 0), (3, .slice (some ⟨bo, 0, none⟩) W.length cap), (4, .pointer (some ⟨bd, 0, none⟩)), (5, .int .i64 (c : Nat))]) (256) ?_ ?_
  · refine Upd.now ⟨0, bo0, 0, [], [], by omega, rfl, ⟨rfl, (fun ws h => by cases h), (fun i d h => by cases h)⟩, rfl, ?_, rfl⟩
    rw [show boolsU 256 (fun x => decide ((x : Int) ∈ l.take 0)) = boolsU 256 (fun _ => false) from boolsU_congr fun k _ => by simp]
    rfl
  · rintro q G1 fr H' hle hs ⟨c, bo, cap, W, sp, hc, rfl, hW, hcap, rfl, rfl⟩
    have hsE := hs
    try simp only [keys_cons, keys_app, keys_nil, Sep_cons, Sep_nil, NotIn_cons, NotIn_app, NotIn_nil, List.cons_append, List.nil_append, List.append_assoc, and_assoc, and_true, true_and] at hsE
    repeat (obtain ⟨hsx, hsE⟩ := hsE)
    obtain ⟨hW1, hW2, hW3⟩ := id hW
    have htl := tabO_len (l.take c)
    rw [List.length_take] at htl
    have hfl := flatMap_len (enc := numsOf) (m := 4) numsOf_len W
    by_cases hcl : c < 256
    · have hcl2 : c < l.length := by omega
      have hx := hlb _ (List.getElem_mem hcl2)
      obtain ⟨y, hy⟩ := Int.eq_ofNat_of_zero_le hx.1
      have hy2 : y < 256 := by omega
      have htk := List.take_succ_eq_append_getElem hcl2
      by_cases hold : l[c] ∈ l.take c
      · have hdo : decide ((y : Int) ∈ l.take c) = true := by rw [← hy]; exact decide_eq_true hold
        have ht : tabO (l.take (c + 1)) = tabO (l.take c) := by rw [htk, tabO_snoc, if_pos ((mem_tabO _).2 hold)]
        repeat' first
          | with_reducible refine Br.yes ?_
          | with_reducible refine Br.no ?_
          | with_reducible refine Br.dec (fun _ => ?_) (fun _ => ?_)
          | with_reducible refine Br.beqB (fun _ => ?_) (fun _ => ?_)
          | with_reducible refine Br.beqb (fun _ => ?_) (fun _ => ?_)
          | with_reducible refine Br.mk (fun _ => ?_) (fun _ => ?_)
          | with_reducible refine foundO.mk (fun _ _ => ?_) (fun _ => ?_)
          | with_reducible refine appV.zero ?_
          | with_reducible refine appV.own ?_
          | ((with_reducible refine NewB.mk fun nb hnb => ?_); have hnb1 := hnb.1.1; have hnb2 := hnb.1.2; try simp only [keys_cons, keys_app, keys_nil, NotIn_cons, NotIn_app, NotIn_nil, and_true] at hnb2)
          | ((with_reducible refine NewRow.mk fun nb nsp ncap hnb hncap => ?_); have hnb1 := hnb.1.1; have hnb2 := hnb.1.2; try simp only [keys_cons, keys_app, keys_nil, NotIn_cons, NotIn_app, NotIn_nil, and_true] at hnb2)
          | simp (dsimp := false) (implicitDefEqProofs := false) (disch := first | assumption | (simp only [List.mem_cons, List.mem_append, true_or, or_true, eq_self]; done) | omega | (with_reducible refine Row.adr (by assumption) ?_; simp only [List.length_map, List.length_take, List.length_drop]; omega) | (simp only [List.length_cons, List.length_nil, List.length_map, List.length_append, List.length_replicate, Nat.reduceAdd, true_and, and_true, and_self]; first | done | omega)) only [go_sem, ↓reduceIte, Nat.reduceEqDiff, Nat.reduceAdd, Nat.reduceSub, Nat.reduceMul, Nat.reduceBEq, Nat.reduceLT, Nat.reduceLeDiff, Nat.reduceMod, Nat.reducePow, List.reduceReplicate, UInt8.reduceOfNat, Int.reducePow, Int.reduceDiv, Int.reduceMod, Nat.reduceDiv, Int.reduceNeg, Int.reduceAdd, Int.reduceSub, Int.reduceMul, Int.reduceLE, Int.reduceLT, Int.reduceEq, Int.reduceToNat, reduceCtorEq, -List.reduceReplicate, hu8, List.getElem_map, hy, boolsU_len, boolsU_at, boolsU_get, hdo, Int.toNat_natCast]
        rw [show boolsU 256 (fun x => decide ((x : Int) ∈ l.take c)) = boolsU 256 (fun x => decide ((x : Int) ∈ l.take (c + 1))) from boolsU_congr fun k _ => decide_eq_decide.2 (by
          rw [htk, List.mem_append, List.mem_singleton]
          exact ⟨.inl, fun h => by
            rcases h with h | h
            · exact h
            · rw [h]; exact hold⟩)]
        exact Upd.now ⟨q - 1, by omega, c + 1, bo, cap, W, sp, by omega, rfl, by unfold SetsOf; rw [ht]; exact hW, hcap, rfl, rfl⟩
      · have hdo : decide ((y : Int) ∈ l.take c) = false := by rw [← hy]; exact decide_eq_false hold
        repeat' first
          | with_reducible refine Br.yes ?_
          | with_reducible refine Br.no ?_
          | with_reducible refine Br.dec (fun _ => ?_) (fun _ => ?_)
          | with_reducible refine Br.beqB (fun _ => ?_) (fun _ => ?_)
          | with_reducible refine Br.beqb (fun _ => ?_) (fun _ => ?_)
          | with_reducible refine Br.mk (fun _ => ?_) (fun _ => ?_)
          | with_reducible refine foundO.mk (fun _ _ => ?_) (fun _ => ?_)
          | with_reducible refine appV.zero ?_
          | with_reducible refine appV.own ?_
          | ((with_reducible refine NewB.mk fun nb hnb => ?_); have hnb1 := hnb.1.1; have hnb2 := hnb.1.2; try simp only [keys_cons, keys_app, keys_nil, NotIn_cons, NotIn_app, NotIn_nil, and_true] at hnb2)
          | ((with_reducible refine NewRow.mk fun nb nsp ncap hnb hncap => ?_); have hnb1 := hnb.1.1; have hnb2 := hnb.1.2; try simp only [keys_cons, keys_app, keys_nil, NotIn_cons, NotIn_app, NotIn_nil, and_true] at hnb2)
          | simp (dsimp := false) (implicitDefEqProofs := false) (disch := first | assumption | (simp only [List.mem_cons, List.mem_append, true_or, or_true, eq_self]; done) | omega | (with_reducible refine Row.adr (by assumption) ?_; simp only [List.length_map, List.length_take, List.length_drop]; omega) | (simp only [List.length_cons, List.length_nil, List.length_map, List.length_append, List.length_replicate, Nat.reduceAdd, true_and, and_true, and_self]; first | done | omega)) only [go_sem, ↓reduceIte, Nat.reduceEqDiff, Nat.reduceAdd, Nat.reduceSub, Nat.reduceMul, Nat.reduceBEq, Nat.reduceLT, Nat.reduceLeDiff, Nat.reduceMod, Nat.reducePow, List.reduceReplicate, UInt8.reduceOfNat, Int.reducePow, Int.reduceDiv, Int.reduceMod, Nat.reduceDiv, Int.reduceNeg, Int.reduceAdd, Int.reduceSub, Int.reduceMul, Int.reduceLE, Int.reduceLT, Int.reduceEq, Int.reduceToNat, reduceCtorEq, -List.reduceReplicate, hu8, List.getElem_map, hy, boolsU_len, boolsU_at, boolsU_get, boolsU_putS, hdo, Int.toNat_natCast]
        revert nb
        intro bs hbs hbs1 hbs2
        rw [show boolsU 256 (upd (fun x => decide ((x : Int) ∈ l.take c)) y true) = boolsU 256 (fun x => decide ((x : Int) ∈ l.take (c + 1))) from boolsU_congr fun k _ => by
          unfold upd
          rw [htk]
          by_cases e : k = y
          · subst e
            rw [if_pos rfl]
            exact (decide_eq_true (by rw [List.mem_append, List.mem_singleton]; exact .inr hy.symm)).symm
          · rw [if_neg e]
            exact decide_eq_decide.2 (by
              rw [List.mem_append, List.mem_singleton]
              exact ⟨.inl, fun h => by
                rcases h with h | h
                · exact h
                · exact absurd (by omega) e⟩)]
        have ht : tabO (l.take (c + 1)) = tabO (l.take c) ++ [l[c]] := by
          rw [htk, tabO_snoc, if_neg fun h => hold ((mem_tabO _).1 h)]
        refine Tri.loopU tok [0, 1, 2, 3, 4, 5, 6, 7, 11, 18, 26, 35] (by kernel_rfl) [1, 2, 3, 4, 5, 6, 7] (fun q2 G' fr H' => ∃ (d : Nat) (ws : Nat → Nat), d + q2 = 256 ∧ c ≤ d ∧ (∀ k, ws k < 18446744073709551616) ∧ (∀ x (hx : x < l.length), mem ws x = decide (c ≤ x ∧ x < d ∧ l[x] = l[c])) ∧ G' = G1 ∧ H' = (bs, .cells (numsU 4 ws) [] 107) :: (bd, .cells (boolsU 256 (fun x => decide ((x : Int) ∈ l.take (c + 1)))) [] 108) :: (bo, .cells (W.flatMap numsOf) sp 107) :: (b1, .cells (u8L l) [] 22) :: H ∧ fr = [(1, .pointer (some ⟨b1, 0, none⟩)), (2, .slice none 0 0), (3, .slice (some ⟨bo, 0, none⟩) W.length cap), (4, .pointer (some ⟨bd, 0, none⟩)), (5, .int .i64 (c : Nat)), (6, .pointer (some ⟨bs, 0, none⟩)), (7, .int .i64 (d : Nat))]) ((256 - c)) ?_ ?_
        · exact Upd.now ⟨c, fun _ => 0, by omega, Nat.le_refl _, (fun _ => Nat.zero_lt_succ _), fun x hx => by rw [mem_none]; exact (decide_eq_false (by omega)).symm, rfl, rfl, rfl⟩
        · rintro q2 G2 fr H' hle2 hs2 ⟨d, ws, hd, hcd, hws, hmem, rfl, rfl, rfl⟩
          have hsE := hs2
          try simp only [keys_cons, keys_app, keys_nil, Sep_cons, Sep_nil, NotIn_cons, NotIn_app, NotIn_nil, List.cons_append, List.nil_append, List.append_assoc, and_assoc, and_true, true_and] at hsE
          repeat (obtain ⟨hsx, hsE⟩ := hsE)
          have h4 := numsU_len 4 ws
          have hov : ∀ f : Nat → Nat, splice (numsU 4 ws) 0 (numsU 4 f) = numsU 4 f := fun f => by
            unfold splice
            rw [List.take_zero, List.nil_append, List.drop_of_length_le (by rw [h4, numsU_len]; omega), List.append_nil]
          by_cases hdl : d < 256
          · have hdl2 : d < l.length := by omega
            by_cases hhit : l[d] = l[c]
            · repeat' first
                | with_reducible refine Br.yes ?_
                | with_reducible refine Br.no ?_
                | with_reducible refine Br.dec (fun _ => ?_) (fun _ => ?_)
                | with_reducible refine Br.beqB (fun _ => ?_) (fun _ => ?_)
                | with_reducible refine Br.beqb (fun _ => ?_) (fun _ => ?_)
                | with_reducible refine Br.mk (fun _ => ?_) (fun _ => ?_)
                | with_reducible refine foundO.mk (fun _ _ => ?_) (fun _ => ?_)
                | with_reducible refine appV.zero ?_
                | with_reducible refine appV.own ?_
                | ((with_reducible refine NewB.mk fun nb hnb => ?_); have hnb1 := hnb.1.1; have hnb2 := hnb.1.2; try simp only [keys_cons, keys_app, keys_nil, NotIn_cons, NotIn_app, NotIn_nil, and_true] at hnb2)
                | ((with_reducible refine NewRow.mk fun nb nsp ncap hnb hncap => ?_); have hnb1 := hnb.1.1; have hnb2 := hnb.1.2; try simp only [keys_cons, keys_app, keys_nil, NotIn_cons, NotIn_app, NotIn_nil, and_true] at hnb2)
                | with_reducible refine Tri.drawH tok mixed [0, 1, 2, 3, 4, 5, 6, 7, 11, 18, 26, 35] 12 [2, 5] (.op 0 .plain (.op 1 .plain (.op 2 .held (.op 3 .plain (.op 4 .plain (.op 5 .held (.op 6 .plain .nil))))))) (by kernel_rfl) [1] ?_
                | simp (dsimp := false) (implicitDefEqProofs := false) (disch := first | assumption | (simp only [List.mem_cons, List.mem_append, true_or, or_true, eq_self]; done) | omega | (with_reducible refine Row.adr (by assumption) ?_; simp only [List.length_map, List.length_take, List.length_drop]; omega) | (simp only [List.length_cons, List.length_nil, List.length_map, List.length_append, List.length_replicate, Nat.reduceAdd, true_and, and_true, and_self]; first | done | omega)) only [go_sem, ↓reduceIte, Nat.reduceEqDiff, Nat.reduceAdd, Nat.reduceSub, Nat.reduceMul, Nat.reduceBEq, Nat.reduceLT, Nat.reduceLeDiff, Nat.reduceMod, Nat.reducePow, List.reduceReplicate, UInt8.reduceOfNat, Int.reducePow, Int.reduceDiv, Int.reduceMod, Nat.reduceDiv, Int.reduceNeg, Int.reduceAdd, Int.reduceSub, Int.reduceMul, Int.reduceLE, Int.reduceLT, Int.reduceEq, Int.reduceToNat, reduceCtorEq, -List.reduceReplicate, hu8, List.getElem_map, hhit, h4, numsU_all, numsU_one, numsU_len, hov, List.toList_toArray]
                | with_reducible refine bwith_t ws hws d hdl ?_
              refine Upd.now ⟨q2 - 1, by omega, d + 1, _, by omega, by omega, fun k => ?_, fun x hx => ?_, rfl, rfl, rfl⟩
              · unfold upd; split
                · exact put_lt (hws _) (by omega)
                · exact hws k
              · rw [put_mem, hmem x hx, Bool.eq_iff_iff]
                simp only [Bool.or_eq_true, decide_eq_true_eq]
                constructor
                · rintro (⟨h1, h2, h3⟩ | h)
                  · exact ⟨h1, by omega, h3⟩
                  · subst h; exact ⟨hcd, by omega, hhit⟩
                · rintro ⟨h1, h2, h3⟩
                  by_cases e : x = d
                  · exact .inr e
                  · exact .inl ⟨h1, by omega, h3⟩
            · repeat' first
                | with_reducible refine Br.yes ?_
                | with_reducible refine Br.no ?_
                | with_reducible refine Br.dec (fun _ => ?_) (fun _ => ?_)
                | with_reducible refine Br.beqB (fun _ => ?_) (fun _ => ?_)
                | with_reducible refine Br.beqb (fun _ => ?_) (fun _ => ?_)
                | with_reducible refine Br.mk (fun _ => ?_) (fun _ => ?_)
                | with_reducible refine foundO.mk (fun _ _ => ?_) (fun _ => ?_)
                | with_reducible refine appV.zero ?_
                | with_reducible refine appV.own ?_
                | ((with_reducible refine NewB.mk fun nb hnb => ?_); have hnb1 := hnb.1.1; have hnb2 := hnb.1.2; try simp only [keys_cons, keys_app, keys_nil, NotIn_cons, NotIn_app, NotIn_nil, and_true] at hnb2)
                | ((with_reducible refine NewRow.mk fun nb nsp ncap hnb hncap => ?_); have hnb1 := hnb.1.1; have hnb2 := hnb.1.2; try simp only [keys_cons, keys_app, keys_nil, NotIn_cons, NotIn_app, NotIn_nil, and_true] at hnb2)
                | with_reducible refine Tri.drawH tok mixed [0, 1, 2, 3, 4, 5, 6, 7, 11, 18, 26, 35] 12 [2, 5] (.op 0 .plain (.op 1 .plain (.op 2 .held (.op 3 .plain (.op 4 .plain (.op 5 .held (.op 6 .plain .nil))))))) (by kernel_rfl) [1] ?_
                | simp (dsimp := false) (implicitDefEqProofs := false) (disch := first | assumption | (simp only [List.mem_cons, List.mem_append, true_or, or_true, eq_self]; done) | omega | (with_reducible refine Row.adr (by assumption) ?_; simp only [List.length_map, List.length_take, List.length_drop]; omega) | (simp only [List.length_cons, List.length_nil, List.length_map, List.length_append, List.length_replicate, Nat.reduceAdd, true_and, and_true, and_self]; first | done | omega)) only [go_sem, ↓reduceIte, Nat.reduceEqDiff, Nat.reduceAdd, Nat.reduceSub, Nat.reduceMul, Nat.reduceBEq, Nat.reduceLT, Nat.reduceLeDiff, Nat.reduceMod, Nat.reducePow, List.reduceReplicate, UInt8.reduceOfNat, Int.reducePow, Int.reduceDiv, Int.reduceMod, Nat.reduceDiv, Int.reduceNeg, Int.reduceAdd, Int.reduceSub, Int.reduceMul, Int.reduceLE, Int.reduceLT, Int.reduceEq, Int.reduceToNat, reduceCtorEq, -List.reduceReplicate, hu8, List.getElem_map]
              refine Upd.now ⟨q2 - 1, by omega, d + 1, ws, by omega, by omega, hws, fun x hx => ?_, rfl, rfl, rfl⟩
              rw [hmem x hx]
              refine decide_eq_decide.2 ⟨fun h => ⟨h.1, by omega, h.2.2⟩, fun h => ⟨h.1, ?_, h.2.2⟩⟩
              rcases Nat.lt_or_ge x d with h1 | h1
              · exact h1
              · obtain rfl : x = d := by omega
                exact absurd h.2.2 hhit
          · obtain rfl : d = 256 := by omega
            repeat' first
              | with_reducible refine Br.yes ?_
              | with_reducible refine Br.no ?_
              | with_reducible refine Br.dec (fun _ => ?_) (fun _ => ?_)
              | with_reducible refine Br.beqB (fun _ => ?_) (fun _ => ?_)
              | with_reducible refine Br.beqb (fun _ => ?_) (fun _ => ?_)
              | with_reducible refine Br.mk (fun _ => ?_) (fun _ => ?_)
              | with_reducible refine foundO.mk (fun _ _ => ?_) (fun _ => ?_)
              | with_reducible refine appV.zero ?_
              | with_reducible refine appV.own ?_
              | ((with_reducible refine NewB.mk fun nb hnb => ?_); have hnb1 := hnb.1.1; have hnb2 := hnb.1.2; try simp only [keys_cons, keys_app, keys_nil, NotIn_cons, NotIn_app, NotIn_nil, and_true] at hnb2)
              | ((with_reducible refine NewRow.mk fun nb nsp ncap hnb hncap => ?_); have hnb1 := hnb.1.1; have hnb2 := hnb.1.2; try simp only [keys_cons, keys_app, keys_nil, NotIn_cons, NotIn_app, NotIn_nil, and_true] at hnb2)
              | simp (dsimp := false) (implicitDefEqProofs := false) (disch := first | assumption | (simp only [List.mem_cons, List.mem_append, true_or, or_true, eq_self]; done) | omega | (with_reducible refine Row.adr (by assumption) ?_; simp only [List.length_map, List.length_take, List.length_drop]; omega) | (simp only [List.length_cons, List.length_nil, List.length_map, List.length_append, List.length_replicate, Nat.reduceAdd, true_and, and_true, and_self]; first | done | omega)) only [go_sem, ↓reduceIte, Nat.reduceEqDiff, Nat.reduceAdd, Nat.reduceSub, Nat.reduceMul, Nat.reduceBEq, Nat.reduceLT, Nat.reduceLeDiff, Nat.reduceMod, Nat.reducePow, List.reduceReplicate, UInt8.reduceOfNat, Int.reducePow, Int.reduceDiv, Int.reduceMod, Nat.reduceDiv, Int.reduceNeg, Int.reduceAdd, Int.reduceSub, Int.reduceMul, Int.reduceLE, Int.reduceLT, Int.reduceEq, Int.reduceToNat, reduceCtorEq, -List.reduceReplicate, h4, numsU_all, numsU_one, numsU_over, List.toList_toArray]
            have hfl2 : (W ++ [ws]).flatMap numsOf = W.flatMap numsOf ++ numsU 4 ws := by rw [List.flatMap_append]; simp [numsOf]
            have hnew : SetsOf l (c + 1) (W ++ [ws]) := by
              refine ⟨by rw [ht, List.length_append, List.length_append, hW1]; rfl, fun f hf => ?_, fun i d hi hd h2 => ?_⟩
              · rcases List.mem_append.1 hf with h | h
                · exact hW2 f h
                · rw [List.mem_singleton.1 h]; exact hws
              · have h3 : (tabO (l.take (c + 1)))[i] = (tabO (l.take c) ++ [l[c]])[i]'(by rw [← ht]; exact h2) := by simp only [ht]
                rw [h3]
                rcases Nat.lt_or_ge i W.length with hiw | hiw
                · rw [List.getElem_append_left hiw, List.getElem_append_left (by omega)]
                  exact hW3 i d hiw hd (by omega)
                · have hi2 : i = W.length := by rw [List.length_append, List.length_singleton] at hi; omega
                  subst hi2
                  rw [List.getElem_append_right (Nat.le_refl _), List.getElem_append_right (by omega)]
                  simp only [hW1, Nat.sub_self, List.getElem_singleton]
                  rw [hmem d hd]
                  refine decide_eq_decide.2 ⟨fun h => h.2.2, fun h => ⟨?_, by omega, h⟩⟩
                  rcases Nat.lt_or_ge d c with h1 | h1
                  · exact absurd (by rw [← h]; exact mem_take_of h1 (by omega)) hold
                  · exact h1
            rw [← hfl2]
            exact Upd.go (H' := (bd, .cells (boolsU 256 (fun x => decide ((x : Int) ∈ l.take (c + 1)))) [] 108) :: (nb, .cells ((W ++ [ws]).flatMap numsOf) nsp 107) :: (b1, .cells (u8L l) [] 22) :: H) (by intro fsum; first | exact Nat.le_refl _ | (simp only [List.map_append, List.map_cons, List.map_nil, List.sum_append, List.sum_cons, List.sum_nil, List.cons_append, List.nil_append]; omega)) (Upd.now ⟨q - 1, by omega, c + 1, nb, ncap, W ++ [ws], nsp, by omega, rfl, hnew, by rw [List.length_append]; simp at hncap ⊢; omega, rfl, by rw [List.length_append]; rfl⟩)
    · obtain rfl : c = 256 := by omega
      repeat' first
        | with_reducible refine Br.yes ?_
        | with_reducible refine Br.no ?_
        | with_reducible refine Br.dec (fun _ => ?_) (fun _ => ?_)
        | with_reducible refine Br.beqB (fun _ => ?_) (fun _ => ?_)
        | with_reducible refine Br.beqb (fun _ => ?_) (fun _ => ?_)
        | with_reducible refine Br.mk (fun _ => ?_) (fun _ => ?_)
        | with_reducible refine foundO.mk (fun _ _ => ?_) (fun _ => ?_)
        | with_reducible refine appV.zero ?_
        | with_reducible refine appV.own ?_
        | ((with_reducible refine NewB.mk fun nb hnb => ?_); have hnb1 := hnb.1.1; have hnb2 := hnb.1.2; try simp only [keys_cons, keys_app, keys_nil, NotIn_cons, NotIn_app, NotIn_nil, and_true] at hnb2)
        | ((with_reducible refine NewRow.mk fun nb nsp ncap hnb hncap => ?_); have hnb1 := hnb.1.1; have hnb2 := hnb.1.2; try simp only [keys_cons, keys_app, keys_nil, NotIn_cons, NotIn_app, NotIn_nil, and_true] at hnb2)
        | simp (dsimp := false) (implicitDefEqProofs := false) (disch := first | assumption | (simp only [List.mem_cons, List.mem_append, true_or, or_true, eq_self]; done) | omega | (with_reducible refine Row.adr (by assumption) ?_; simp only [List.length_map, List.length_take, List.length_drop]; omega) | (simp only [List.length_cons, List.length_nil, List.length_map, List.length_append, List.length_replicate, Nat.reduceAdd, true_and, and_true, and_self]; first | done | omega)) only [go_sem, ↓reduceIte, Nat.reduceEqDiff, Nat.reduceAdd, Nat.reduceSub, Nat.reduceMul, Nat.reduceBEq, Nat.reduceLT, Nat.reduceLeDiff, Nat.reduceMod, Nat.reducePow, List.reduceReplicate, UInt8.reduceOfNat, Int.reducePow, Int.reduceDiv, Int.reduceMod, Nat.reduceDiv, Int.reduceNeg, Int.reduceAdd, Int.reduceSub, Int.reduceMul, Int.reduceLE, Int.reduceLT, Int.reduceEq, Int.reduceToNat, reduceCtorEq, -List.reduceReplicate]
      unfold UpdR
      refine Upd.go (H' := (bo, .cells (W.flatMap numsOf) sp 107) :: H) (by intro fsum; first | exact Nat.le_refl _ | (simp only [List.map_append, List.map_cons, List.map_nil, List.sum_append, List.sum_cons, List.sum_nil, List.cons_append, List.nil_append]; omega)) (Upd.shareRow (by assumption) fun G2 hle2 hs2 hr2 => ?_)
      exact fun _ hs => hR G2 _ W hle2 hs ⟨some ⟨bo, 0, none⟩, cap, rfl, hr2, by omega⟩ hW
end Go.Proofs.Ytpagkndgjihbbaa
