/- Law 25, HopcroftSame: the blocks of any machine are those that are found in rounds: the law answers true. -/
import Derived.Test.YtdeableflgakdaaJ9
import Derived.Test.YtdeableflgakdaaProg
import Derived.Test.YtdeableflgakdaaRows
set_option linter.unusedSimpArgs false
set_option linter.unusedVariables false
set_option linter.unusedSectionVars false
namespace Go.Proofs.Ytdeableflgakdaa
open Go Go.V Go.Proofs
def boolsU (n : Nat) (f : Nat → Bool) : List Value := (List.range n).map fun k => Value.bool (f k)
theorem boolsU_len (n : Nat) (f : Nat → Bool) : (boolsU n f).length = n := by simp [boolsU]
theorem boolsU_at {n : Nat} {f : Nat → Bool} {i : Nat} (h : i < (boolsU n f).length) : (boolsU n f)[i] = .bool (f i) := by simp [boolsU]
theorem boolsU_get {n : Nat} {f : Nat → Bool} {i : Nat} (h : i < n) : (boolsU n f)[i]? = some (.bool (f i)) := by
  rw [List.getElem?_eq_getElem (by rw [boolsU_len]; exact h), boolsU_at]
theorem boolsU_putS {n : Nat} {f : Nat → Bool} {i : Nat} (h : i < n) (x : Bool) : splice (boolsU n f) i [.bool x] = boolsU n (upd f i x) := by
  rw [splice_oneU (by rw [boolsU_len]; exact h)]
  apply List.ext_getElem (by rw [List.length_set, boolsU_len, boolsU_len])
  intro k h1 h2
  rw [boolsU_at, List.getElem_set]
  by_cases hk : i = k
  · subst hk; rw [if_pos rfl, upd_same]
  · rw [if_neg hk, boolsU_at, upd_ne _ _ (Ne.symm hk)]
theorem boolsU_zero (n : Nat) : List.replicate n (Value.bool false) = boolsU n (fun _ => false) := by
  unfold boolsU; rw [List.map_const', List.length_range]
theorem boolsU_one (n : Nat) (f : Nat → Bool) : (boolsU n f).all oneV = true := by unfold boolsU; rw [List.all_map]; exact List.all_eq_true.2 fun _ _ => rfl
theorem boolsU_over (n : Nat) (f g : Nat → Bool) : splice (boolsU n f) 0 (boolsU n g) = boolsU n g := by
  unfold splice
  rw [List.take_zero, List.nil_append, List.drop_of_length_le (by rw [boolsU_len, boolsU_len]; omega), List.append_nil]
theorem boolsU_congr {n : Nat} {f g : Nat → Bool} (h : ∀ k, k < n → f k = g k) : boolsU n f = boolsU n g := by
  unfold boolsU
  exact List.map_congr_left fun k hk => by rw [h k (List.mem_range.1 hk)]
/-- sets that are classes -/
def SetsOf (l : List Int) (c : Nat) (W : List (Nat → Nat)) : Prop :=
  W.length = (tabO (l.take c)).length ∧ (∀ ws ∈ W, ∀ k, ws k < 18446744073709551616) ∧ ∀ i d (hi : i < W.length) (hd : d < l.length) (h2 : i < (tabO (l.take c)).length), mem W[i] d = decide (l[d] = (tabO (l.take c))[i])
def numsOf : (Nat → Nat) → List Value := numsU 4
theorem numsOf_len (ws : Nat → Nat) : (numsOf ws).length = 4 := numsU_len 4 ws
theorem mem_none (i : Nat) : mem (fun _ => 0) i = false := by unfold mem; exact Nat.zero_testBit _
set_option maxHeartbeats 16000000 in
theorem sets_t {l : List Int} (hl : l.length = 256) (hlb : ∀ x ∈ l, 0 ≤ x ∧ x ≤ 255) {G : PHeap} {H : Heap} {R : Value → PHeap → Heap → Prop}
    (hR : ∀ G' v' W, PLe G G' → Sep G' (keys H) → SlM G' numsOf v' W → SetsOf l 256 W → R v' G' H) : FnT Try.prog 93 [agg8 l] G H R := by
  have hu8 : (u8L l).length = 256 := by rw [List.length_map, hl]
  refine FnT.sep ?_
  refine FnT.body tok [0, 1, 2, 3, 4, 5, 6, 7, 11, 18, 26, 35] Try.func93 rfl (by kernel_rfl) (by kernel_rfl) (by show _ ≤ 44; simp) fun hsep => ?_
  rw [Try.results93]
  have hsE := hsep
  try simp only [zzs] at hsE
  repeat (obtain ⟨hsx, hsE⟩ := hsE)
  repeat' first
    | (with_reducible first | refine Br.yes ?_ | refine Br.no ?_ | refine Br.dec (fun _ => ?_) (fun _ => ?_) | refine Br.beqB (fun _ => ?_) (fun _ => ?_) | refine Br.beqb (fun _ => ?_) (fun _ => ?_) | refine Br.mk (fun _ => ?_) (fun _ => ?_) | refine appV.zero ?_ | refine appV.own ?_)
    | ((with_reducible first | refine NewB.mk (fun nb hnb => ?_) | refine NewRow.mk (fun nb nsp ncap hnb hncap => ?_)); have hnb1 := hnb.1.1; have hnb2 := hnb.1.2; try simp only [zzn] at hnb2)
    | simp (dsimp := false) (implicitDefEqProofs := false) (disch := first | assumption | (simp only [zzm]; done) | omega | (with_reducible refine Row.adr (by assumption) ?_; simp only [zzk]; omega) | (simp only [zzl, Nat.reduceAdd]; first | done | omega)) only [go_sem, ↓reduceIte, seval, -List.reduceReplicate, List.toList_toArray, boolsU_zero, boolsU_len, boolsU_one, boolsU_over]
  rename_i b1 hb10 hb11 hb12 bo0 ho0 ho1 ho2
  revert nb
  intro bd hbd hbd1 hbd2
  refine Tri.loopU tok [0, 1, 2, 3, 4, 5, 6, 7, 11, 18, 26, 35] (by kernel_rfl) [1, 2, 3, 4, 5] (fun q G' fr H' => ∃ (c bo cap : Nat) (W : List (Nat → Nat)) (sp : List Value), c + q = 256 ∧ G' = G ∧ SetsOf l c W ∧ W.length * 4 + sp.length = cap * 4 ∧ H' = (bd, .cells (boolsU 256 (fun x => decide ((x : Int) ∈ l.take c))) [] 121) :: (bo, .cells (W.flatMap numsOf) sp 120) :: (b1, .cells (u8L l) [] 22) :: H ∧ fr = [(1, .pointer (some ⟨b1, 0, none⟩)), (2, .slice none 0 0), (3, .slice (some ⟨bo, 0, none⟩) W.length cap), (4, .pointer (some ⟨bd, 0, none⟩)), (5, .int .i64 (c : Nat))]) (256) ?_ ?_
  · refine Upd.now ⟨0, bo0, 0, [], [], by omega, rfl, ⟨rfl, (fun ws h => by cases h), (fun i d h => by cases h)⟩, rfl, ?_, rfl⟩
    rw [show boolsU 256 (fun x => decide ((x : Int) ∈ l.take 0)) = boolsU 256 (fun _ => false) from boolsU_congr fun k _ => by simp]
    rfl
  · rintro q G1 fr H' hle hs ⟨c, bo, cap, W, sp, hc, rfl, hW, hcap, rfl, rfl⟩
    have hsE := hs
    try simp only [zzs] at hsE
    repeat (obtain ⟨hsx, hsE⟩ := hsE)
    obtain ⟨hW1, hW2, hW3⟩ := id hW
    have htl := tabO_len (l.take c)
    rw [List.length_take] at htl
    have hfl := flatMap_len (enc := numsOf) (m := 4) numsOf_len W
    by_cases hcl : c < 256
    · have hcl2 : c < l.length := by omega
      have hx := hlb _ (List.getElem_mem hcl2)
      obtain ⟨y, hy⟩ := Int.eq_ofNat_of_zero_le hx.1
      have hy2 : y < 256 := by omega
      have htk := List.take_succ_eq_append_getElem hcl2
      by_cases hold : l[c] ∈ l.take c
      · have hdo : decide ((y : Int) ∈ l.take c) = true := by rw [← hy]; exact decide_eq_true hold
        have ht : tabO (l.take (c + 1)) = tabO (l.take c) := by rw [htk, tabO_snoc, if_pos ((mem_tabO _).2 hold)]
        repeat' first
          | (with_reducible first | refine Br.yes ?_ | refine Br.no ?_ | refine Br.dec (fun _ => ?_) (fun _ => ?_) | refine Br.beqB (fun _ => ?_) (fun _ => ?_) | refine Br.beqb (fun _ => ?_) (fun _ => ?_) | refine Br.mk (fun _ => ?_) (fun _ => ?_) | refine appV.zero ?_ | refine appV.own ?_)
          | ((with_reducible first | refine NewB.mk (fun nb hnb => ?_) | refine NewRow.mk (fun nb nsp ncap hnb hncap => ?_)); have hnb1 := hnb.1.1; have hnb2 := hnb.1.2; try simp only [zzn] at hnb2)
          | simp (dsimp := false) (implicitDefEqProofs := false) (disch := first | assumption | (simp only [zzm]; done) | omega | (with_reducible refine Row.adr (by assumption) ?_; simp only [zzk]; omega) | (simp only [zzl, Nat.reduceAdd]; first | done | omega)) only [go_sem, ↓reduceIte, seval, -List.reduceReplicate, hu8, List.getElem_map, hy, boolsU_len, boolsU_at, boolsU_get, hdo, Int.toNat_natCast]
        rw [show boolsU 256 (fun x => decide ((x : Int) ∈ l.take c)) = boolsU 256 (fun x => decide ((x : Int) ∈ l.take (c + 1))) from boolsU_congr fun k _ => decide_eq_decide.2 (by
          rw [htk, List.mem_append, List.mem_singleton]
          exact ⟨.inl, fun h => by
            rcases h with h | h
            · exact h
            · rw [h]; exact hold⟩)]
        exact Upd.now ⟨q - 1, by omega, c + 1, bo, cap, W, sp, by omega, rfl, by unfold SetsOf; rw [ht]; exact hW, hcap, rfl, rfl⟩
      · have hdo : decide ((y : Int) ∈ l.take c) = false := by rw [← hy]; exact decide_eq_false hold
        repeat' first
          | (with_reducible first | refine Br.yes ?_ | refine Br.no ?_ | refine Br.dec (fun _ => ?_) (fun _ => ?_) | refine Br.beqB (fun _ => ?_) (fun _ => ?_) | refine Br.beqb (fun _ => ?_) (fun _ => ?_) | refine Br.mk (fun _ => ?_) (fun _ => ?_) | refine appV.zero ?_ | refine appV.own ?_)
          | ((with_reducible first | refine NewB.mk (fun nb hnb => ?_) | refine NewRow.mk (fun nb nsp ncap hnb hncap => ?_)); have hnb1 := hnb.1.1; have hnb2 := hnb.1.2; try simp only [zzn] at hnb2)
          | simp (dsimp := false) (implicitDefEqProofs := false) (disch := first | assumption | (simp only [zzm]; done) | omega | (with_reducible refine Row.adr (by assumption) ?_; simp only [zzk]; omega) | (simp only [zzl, Nat.reduceAdd]; first | done | omega)) only [go_sem, ↓reduceIte, seval, -List.reduceReplicate, hu8, List.getElem_map, hy, boolsU_len, boolsU_at, boolsU_get, boolsU_putS, hdo, Int.toNat_natCast]
        revert nb
        intro bs hbs hbs1 hbs2
        rw [show boolsU 256 (upd (fun x => decide ((x : Int) ∈ l.take c)) y true) = boolsU 256 (fun x => decide ((x : Int) ∈ l.take (c + 1))) from boolsU_congr fun k _ => by
          unfold upd
          rw [htk]
          by_cases e : k = y
          · subst e
            rw [if_pos rfl]
            exact (decide_eq_true (by rw [List.mem_append, List.mem_singleton]; exact .inr hy.symm)).symm
          · rw [if_neg e]
            exact decide_eq_decide.2 (by
              rw [List.mem_append, List.mem_singleton]
              exact ⟨.inl, fun h => by
                rcases h with h | h
                · exact h
                · exact absurd (by omega) e⟩)]
        have ht : tabO (l.take (c + 1)) = tabO (l.take c) ++ [l[c]] := by
          rw [htk, tabO_snoc, if_neg fun h => hold ((mem_tabO _).1 h)]
        refine Tri.loopU tok [0, 1, 2, 3, 4, 5, 6, 7, 11, 18, 26, 35] (by kernel_rfl) [1, 2, 3, 4, 5, 6, 7] (fun q2 G' fr H' => ∃ (d : Nat) (ws : Nat → Nat), d + q2 = 256 ∧ c ≤ d ∧ (∀ k, ws k < 18446744073709551616) ∧ (∀ x (hx : x < l.length), mem ws x = decide (c ≤ x ∧ x < d ∧ l[x] = l[c])) ∧ G' = G1 ∧ H' = (bs, .cells (numsU 4 ws) [] 120) :: (bd, .cells (boolsU 256 (fun x => decide ((x : Int) ∈ l.take (c + 1)))) [] 121) :: (bo, .cells (W.flatMap numsOf) sp 120) :: (b1, .cells (u8L l) [] 22) :: H ∧ fr = [(1, .pointer (some ⟨b1, 0, none⟩)), (2, .slice none 0 0), (3, .slice (some ⟨bo, 0, none⟩) W.length cap), (4, .pointer (some ⟨bd, 0, none⟩)), (5, .int .i64 (c : Nat)), (6, .pointer (some ⟨bs, 0, none⟩)), (7, .int .i64 (d : Nat))]) ((256 - c)) ?_ ?_
        · exact Upd.now ⟨c, fun _ => 0, by omega, Nat.le_refl _, (fun _ => Nat.zero_lt_succ _), fun x hx => by rw [mem_none]; exact (decide_eq_false (by omega)).symm, rfl, rfl, rfl⟩
        · rintro q2 G2 fr H' hle2 hs2 ⟨d, ws, hd, hcd, hws, hmem, rfl, rfl, rfl⟩
          have hsE := hs2
          try simp only [zzs] at hsE
          repeat (obtain ⟨hsx, hsE⟩ := hsE)
          have h4 := numsU_len 4 ws
          have hov : ∀ f : Nat → Nat, splice (numsU 4 ws) 0 (numsU 4 f) = numsU 4 f := fun f => by
            unfold splice
            rw [List.take_zero, List.nil_append, List.drop_of_length_le (by rw [h4, numsU_len]; omega), List.append_nil]
          by_cases hdl : d < 256
          · have hdl2 : d < l.length := by omega
            by_cases hhit : l[d] = l[c]
            · repeat' first
                | (with_reducible first | refine Br.yes ?_ | refine Br.no ?_ | refine Br.dec (fun _ => ?_) (fun _ => ?_) | refine Br.beqB (fun _ => ?_) (fun _ => ?_) | refine Br.beqb (fun _ => ?_) (fun _ => ?_) | refine Br.mk (fun _ => ?_) (fun _ => ?_) | refine appV.zero ?_ | refine appV.own ?_)
                | ((with_reducible first | refine NewB.mk (fun nb hnb => ?_) | refine NewRow.mk (fun nb nsp ncap hnb hncap => ?_)); have hnb1 := hnb.1.1; have hnb2 := hnb.1.2; try simp only [zzn] at hnb2)
                | with_reducible refine Tri.drawH tok mixed [0, 1, 2, 3, 4, 5, 6, 7, 11, 18, 26, 35] 12 [2, 5] (.op 0 .plain (.op 1 .plain (.op 2 .held (.op 3 .plain (.op 4 .plain (.op 5 .held (.op 6 .plain .nil))))))) (by kernel_rfl) [1] ?_
                | simp (dsimp := false) (implicitDefEqProofs := false) (disch := first | assumption | (simp only [zzm]; done) | omega | (with_reducible refine Row.adr (by assumption) ?_; simp only [zzk]; omega) | (simp only [zzl, Nat.reduceAdd]; first | done | omega)) only [go_sem, ↓reduceIte, seval, -List.reduceReplicate, hu8, List.getElem_map, hhit, h4, numsU_all, numsU_one, numsU_len, hov, List.toList_toArray]
                | with_reducible refine bwith_t ws hws d hdl ?_
              refine Upd.now ⟨q2 - 1, by omega, d + 1, _, by omega, by omega, fun k => ?_, fun x hx => ?_, rfl, rfl, rfl⟩
              · unfold upd; split
                · exact put_lt (hws _) (by omega)
                · exact hws k
              · rw [put_mem, hmem x hx, Bool.eq_iff_iff]
                simp only [Bool.or_eq_true, decide_eq_true_eq]
                constructor
                · rintro (⟨h1, h2, h3⟩ | h)
                  · exact ⟨h1, by omega, h3⟩
                  · subst h; exact ⟨hcd, by omega, hhit⟩
                · rintro ⟨h1, h2, h3⟩
                  by_cases e : x = d
                  · exact .inr e
                  · exact .inl ⟨h1, by omega, h3⟩
            · repeat' first
                | (with_reducible first | refine Br.yes ?_ | refine Br.no ?_ | refine Br.dec (fun _ => ?_) (fun _ => ?_) | refine Br.beqB (fun _ => ?_) (fun _ => ?_) | refine Br.beqb (fun _ => ?_) (fun _ => ?_) | refine Br.mk (fun _ => ?_) (fun _ => ?_) | refine appV.zero ?_ | refine appV.own ?_)
                | ((with_reducible first | refine NewB.mk (fun nb hnb => ?_) | refine NewRow.mk (fun nb nsp ncap hnb hncap => ?_)); have hnb1 := hnb.1.1; have hnb2 := hnb.1.2; try simp only [zzn] at hnb2)
                | with_reducible refine Tri.drawH tok mixed [0, 1, 2, 3, 4, 5, 6, 7, 11, 18, 26, 35] 12 [2, 5] (.op 0 .plain (.op 1 .plain (.op 2 .held (.op 3 .plain (.op 4 .plain (.op 5 .held (.op 6 .plain .nil))))))) (by kernel_rfl) [1] ?_
                | simp (dsimp := false) (implicitDefEqProofs := false) (disch := first | assumption | (simp only [zzm]; done) | omega | (with_reducible refine Row.adr (by assumption) ?_; simp only [zzk]; omega) | (simp only [zzl, Nat.reduceAdd]; first | done | omega)) only [go_sem, ↓reduceIte, seval, -List.reduceReplicate, hu8, List.getElem_map]
              refine Upd.now ⟨q2 - 1, by omega, d + 1, ws, by omega, by omega, hws, fun x hx => ?_, rfl, rfl, rfl⟩
              rw [hmem x hx]
              refine decide_eq_decide.2 ⟨fun h => ⟨h.1, by omega, h.2.2⟩, fun h => ⟨h.1, ?_, h.2.2⟩⟩
              rcases Nat.lt_or_ge x d with h1 | h1
              · exact h1
              · obtain rfl : x = d := by omega
                exact absurd h.2.2 hhit
          · obtain rfl : d = 256 := by omega
            repeat' first
              | (with_reducible first | refine Br.yes ?_ | refine Br.no ?_ | refine Br.dec (fun _ => ?_) (fun _ => ?_) | refine Br.beqB (fun _ => ?_) (fun _ => ?_) | refine Br.beqb (fun _ => ?_) (fun _ => ?_) | refine Br.mk (fun _ => ?_) (fun _ => ?_) | refine appV.zero ?_ | refine appV.own ?_)
              | ((with_reducible first | refine NewB.mk (fun nb hnb => ?_) | refine NewRow.mk (fun nb nsp ncap hnb hncap => ?_)); have hnb1 := hnb.1.1; have hnb2 := hnb.1.2; try simp only [zzn] at hnb2)
              | simp (dsimp := false) (implicitDefEqProofs := false) (disch := first | assumption | (simp only [zzm]; done) | omega | (with_reducible refine Row.adr (by assumption) ?_; simp only [zzk]; omega) | (simp only [zzl, Nat.reduceAdd]; first | done | omega)) only [go_sem, ↓reduceIte, seval, -List.reduceReplicate, h4, numsU_all, numsU_one, numsU_over, List.toList_toArray]
            have hfl2 : (W ++ [ws]).flatMap numsOf = W.flatMap numsOf ++ numsU 4 ws := by rw [List.flatMap_append]; simp [numsOf]
            have hnew : SetsOf l (c + 1) (W ++ [ws]) := by
              refine ⟨by rw [ht, List.length_append, List.length_append, hW1]; rfl, fun f hf => ?_, fun i d hi hd h2 => ?_⟩
              · rcases List.mem_append.1 hf with h | h
                · exact hW2 f h
                · rw [List.mem_singleton.1 h]; exact hws
              · have h3 : (tabO (l.take (c + 1)))[i] = (tabO (l.take c) ++ [l[c]])[i]'(by rw [← ht]; exact h2) := by simp only [ht]
                rw [h3]
                rcases Nat.lt_or_ge i W.length with hiw | hiw
                · rw [List.getElem_append_left hiw, List.getElem_append_left (by omega)]
                  exact hW3 i d hiw hd (by omega)
                · have hi2 : i = W.length := by rw [List.length_append, List.length_singleton] at hi; omega
                  subst hi2
                  rw [List.getElem_append_right (Nat.le_refl _), List.getElem_append_right (by omega)]
                  simp only [hW1, Nat.sub_self, List.getElem_singleton]
                  rw [hmem d hd]
                  refine decide_eq_decide.2 ⟨fun h => h.2.2, fun h => ⟨?_, by omega, h⟩⟩
                  rcases Nat.lt_or_ge d c with h1 | h1
                  · exact absurd (by rw [← h]; exact mem_take_of h1 (by omega)) hold
                  · exact h1
            rw [← hfl2]
            exact Upd.go (H' := (bd, .cells (boolsU 256 (fun x => decide ((x : Int) ∈ l.take (c + 1)))) [] 121) :: (nb, .cells ((W ++ [ws]).flatMap numsOf) nsp 120) :: (b1, .cells (u8L l) [] 22) :: H) (by intro fsum; first | exact Nat.le_refl _ | (simp only [zzq]; omega)) (Upd.now ⟨q - 1, by omega, c + 1, nb, ncap, W ++ [ws], nsp, by omega, rfl, hnew, by rw [List.length_append]; simp at hncap ⊢; omega, rfl, by rw [List.length_append]; rfl⟩)
    · obtain rfl : c = 256 := by omega
      repeat' first
        | (with_reducible first | refine Br.yes ?_ | refine Br.no ?_ | refine Br.dec (fun _ => ?_) (fun _ => ?_) | refine Br.beqB (fun _ => ?_) (fun _ => ?_) | refine Br.beqb (fun _ => ?_) (fun _ => ?_) | refine Br.mk (fun _ => ?_) (fun _ => ?_) | refine appV.zero ?_ | refine appV.own ?_)
        | ((with_reducible first | refine NewB.mk (fun nb hnb => ?_) | refine NewRow.mk (fun nb nsp ncap hnb hncap => ?_)); have hnb1 := hnb.1.1; have hnb2 := hnb.1.2; try simp only [zzn] at hnb2)
        | simp (dsimp := false) (implicitDefEqProofs := false) (disch := first | assumption | (simp only [zzm]; done) | omega | (with_reducible refine Row.adr (by assumption) ?_; simp only [zzk]; omega) | (simp only [zzl, Nat.reduceAdd]; first | done | omega)) only [go_sem, ↓reduceIte, seval, -List.reduceReplicate]
      unfold UpdR
      refine Upd.go (H' := (bo, .cells (W.flatMap numsOf) sp 120) :: H) (by intro fsum; first | exact Nat.le_refl _ | (simp only [zzq]; omega)) (Upd.shareRow (by assumption) fun G2 hle2 hs2 hr2 => ?_)
      exact fun _ hs => hR G2 _ W hle2 hs ⟨some ⟨bo, 0, none⟩, cap, rfl, hr2, by omega⟩ hW
end Go.Proofs.Ytdeableflgakdaa
namespace Go.Proofs.Ytdeableflgakdaa
open Go Go.V Go.Proofs
def u8F (f : Nat → Int) : List Value := (List.range 256).map fun k => Value.int .u8 (f k)
theorem u8F_len (f : Nat → Int) : (u8F f).length = 256 := by simp [u8F]
theorem u8F_at {f : Nat → Int} {i : Nat} (h : i < (u8F f).length) : (u8F f)[i] = .int .u8 (f i) := by simp [u8F]
theorem u8F_putS {f : Nat → Int} {i : Nat} (h : i < 256) (x : Int) : splice (u8F f) i [.int .u8 x] = u8F (upd f i x) := by
  rw [splice_oneU (by rw [u8F_len]; exact h)]
  apply List.ext_getElem (by rw [List.length_set, u8F_len, u8F_len])
  intro k h1 h2
  rw [u8F_at, List.getElem_set]
  by_cases hk : i = k
  · subst hk; rw [if_pos rfl, upd_same]
  · rw [if_neg hk, u8F_at, upd_ne _ _ (Ne.symm hk)]
theorem u8F_one (f : Nat → Int) : (u8F f).all oneV = true := by unfold u8F; rw [List.all_map]; exact List.all_eq_true.2 fun _ _ => rfl
theorem u8F_over (f g : Nat → Int) : splice (u8F f) 0 (u8F g) = u8F g := by
  unfold splice
  rw [List.take_zero, List.nil_append, List.drop_of_length_le (by rw [u8F_len, u8F_len]; omega), List.append_nil]
theorem u8F_zero : List.replicate 256 (Value.int .u8 0) = u8F (fun _ => 0) := by
  unfold u8F; rw [List.map_const', List.length_range]
theorem u8F_take (f : Nat → Int) : List.take 256 (u8F f) = u8F f := List.take_of_length_le (by rw [u8F_len]; omega)
theorem u8F_congr {f g : Nat → Int} (h : ∀ k, k < 256 → f k = g k) : u8F f = u8F g := by
  unfold u8F
  exact List.map_congr_left fun k hk => by rw [h k (List.mem_range.1 hk)]
def nD (l : List Int) (k : Nat) : Int := (nums l).getD k 0
theorem u8F_nums {l : List Int} (hl : l.length = 256) : u8F (nD l) = u8L (nums l) := by
  apply List.ext_getElem (by rw [u8F_len, List.length_map, nums_len, hl])
  intro k h1 h2
  have h3 : k < (nums l).length := by rw [List.length_map] at h2; exact h2
  rw [u8F_at, List.getElem_map, nD, List.getD_eq_getElem?_getD, List.getElem?_eq_getElem h3]; rfl
theorem class_iff {l : List Int} {c i : Nat} (hc : c < l.length) (hi : i < (tabO l).length) : l[c] = (tabO l)[i] ↔ nD l c = i := by
  have h3 : c < (nums l).length := by rw [nums_len]; exact hc
  unfold nD
  rw [List.getD_eq_getElem?_getD, List.getElem?_eq_getElem h3, Option.getD_some, nums_get hc]
  have hp := place_get (tabO_nodup l) hi
  constructor
  · intro e; rw [e, findF_some hp]
  · intro e
    refine findF_inj ((mem_tabO l).2 (List.getElem_mem hc)) (List.getElem_mem hi) ?_
    rw [e, findF_some hp]
def fU (l : List Int) (i c k : Nat) : Int := if nD l k < i ∨ (nD l k = i ∧ k < c) then nD l k else 0
set_option maxHeartbeats 16000000 in
theorem numbers_t {l : List Int} (hl : l.length = 256) {W : List (Nat → Nat)} (hW : SetsOf l 256 W) {G : PHeap} {H : Heap} {R : Value → PHeap → Heap → Prop} {v : Value} (hv : SlM G numsOf v W)
    (hR : R (.tuple #[agg8 (nums l), .int .i64 (tabO l).length]) G H) : FnT Try.prog 92 [v] G H R := by
  obtain ⟨a, cap, rfl, hrow, hcap⟩ := hv
  obtain ⟨hW1, hW2, hW3⟩ := hW
  have hlt : l.take 256 = l := List.take_of_length_le (by omega)
  simp only [hlt] at hW1 hW3
  have htl := tabO_len l
  have hfl := flatMap_len (enc := numsOf) (m := 4) numsOf_len W
  refine FnT.body tok [0, 2, 3, 4, 5, 6, 11, 15, 23] Try.func92 rfl (by kernel_rfl) (by kernel_rfl) (by show _ ≤ 31; simp) fun hsep => ?_
  rw [Try.results92]
  have hsE := hsep
  try simp only [zzs] at hsE
  repeat (obtain ⟨hsx, hsE⟩ := hsE)
  repeat' first
    | (with_reducible first | refine Br.yes ?_ | refine Br.no ?_ | refine Br.dec (fun _ => ?_) (fun _ => ?_) | refine Br.mk (fun _ => ?_) (fun _ => ?_))
    | ((with_reducible first | refine NewB.mk (fun nb hnb => ?_) | refine NewRow.mk (fun nb nsp ncap hnb hncap => ?_)); have hnb1 := hnb.1.1; have hnb2 := hnb.1.2; try simp only [zzn] at hnb2)
    | simp (dsimp := false) (implicitDefEqProofs := false) (disch := first | assumption | (simp only [zzm]; done) | omega | (with_reducible refine Row.adr (by assumption) ?_; simp only [zzk]; omega) | (simp only [zzl, Nat.reduceAdd]; first | done | omega)) only [go_sem, ↓reduceIte, seval, -List.reduceReplicate, List.toList_toArray, u8F_zero, u8F_len, u8F_one, u8F_over]
  rename_i b2 hb20 hb21 hb22
  revert nb
  intro b4 hb40 hb41 hb42
  refine Tri.loopU tok [0, 2, 3, 4, 5, 6, 11, 15, 23] (by kernel_rfl) [0, 2, 3, 4, 5] (fun q G' fr H' => ∃ i : Nat, i + q = W.length ∧ G' = G ∧ H' = (b4, .cells (u8F (fU l i 0)) [] 22) :: (b2, .cells (u8F (fun _ => 0)) [] 22) :: H ∧ fr = [(0, .slice a W.length cap), (2, .pointer (some ⟨b2, 0, none⟩)), (3, .int .i64 0), (4, .pointer (some ⟨b4, 0, none⟩)), (5, .int .i64 (i : Nat))]) (W.length) ?_ ?_
  · refine Upd.now ⟨0, by omega, rfl, ?_, rfl⟩
    rw [show u8F (fU l 0 0) = u8F (fun _ => 0) from u8F_congr fun k hk => by
      have : ¬ (nD l k < (0 : Nat) ∨ (nD l k = (0 : Nat) ∧ k < 0)) := by
        have hk2 : k < (nums l).length := by rw [nums_len]; omega
        have := (nums_bound (List.getElem_mem hk2)).1
        have e : nD l k = (nums l)[k] := by unfold nD; rw [List.getD_eq_getElem?_getD, List.getElem?_eq_getElem hk2]; rfl
        omega
      unfold fU; rw [if_neg this]]
  · rintro q G1 fr H' hle hs ⟨i, hi, rfl, rfl, rfl⟩
    have hsE := hs
    try simp only [zzs] at hsE
    repeat (obtain ⟨hsx, hsE⟩ := hsE)
    by_cases hil : i < W.length
    · have had : Adr a := hrow.adr (by omega)
      have hit : i < (tabO l).length := by omega
      have hw := u8_wrap (n := i) (by omega)
      have hws := hW2 _ (List.getElem_mem hil)
      repeat' first
        | (with_reducible first | refine Br.yes ?_ | refine Br.no ?_ | refine Br.dec (fun _ => ?_) (fun _ => ?_) | refine Br.mk (fun _ => ?_) (fun _ => ?_))
        | ((with_reducible first | refine NewB.mk (fun nb hnb => ?_) | refine NewRow.mk (fun nb nsp ncap hnb hncap => ?_)); have hnb1 := hnb.1.1; have hnb2 := hnb.1.2; try simp only [zzn] at hnb2)
        | simp (dsimp := false) (implicitDefEqProofs := false) (disch := first | assumption | (simp only [zzm]; done) | omega | (with_reducible refine Row.adr (by assumption) ?_; simp only [zzk]; omega) | (simp only [zzl, Nat.reduceAdd]; first | done | omega)) only [go_sem, ↓reduceIte, seval, -List.reduceReplicate]
      refine Tri.loopU tok [0, 2, 3, 4, 5, 6, 11, 15, 23] (by kernel_rfl) [0, 2, 3, 4, 5, 6] (fun q2 G' fr H' => ∃ c : Nat, c + q2 = 256 ∧ G' = G1 ∧ H' = (b4, .cells (u8F (fU l i c)) [] 22) :: (b2, .cells (u8F (fun _ => 0)) [] 22) :: H ∧ fr = [(0, .slice a W.length cap), (2, .pointer (some ⟨b2, 0, none⟩)), (3, .int .i64 0), (4, .pointer (some ⟨b4, 0, none⟩)), (5, .int .i64 (i : Nat)), (6, .int .i64 (c : Nat))]) (256) ?_ ?_
      · exact Upd.now ⟨0, by omega, rfl, rfl, rfl⟩
      · rintro q2 G2 fr H' hle2 hs2 ⟨c, hc, rfl, rfl, rfl⟩
        have hsE := hs2
        try simp only [zzs] at hsE
        repeat (obtain ⟨hsx, hsE⟩ := hsE)
        by_cases hcl : c < 256
        · have hcl2 : c < l.length := by omega
          have hmem := hW3 i c hil hcl2 hit
          have hcls := class_iff hcl2 hit
          by_cases hhit : nD l c = i
          · rw [decide_eq_true (hcls.2 hhit)] at hmem
            repeat' first
              | (with_reducible first | refine Br.yes ?_ | refine Br.no ?_ | refine Br.dec (fun _ => ?_) (fun _ => ?_) | refine Br.mk (fun _ => ?_) (fun _ => ?_))
              | ((with_reducible first | refine NewB.mk (fun nb hnb => ?_) | refine NewRow.mk (fun nb nsp ncap hnb hncap => ?_)); have hnb1 := hnb.1.1; have hnb2 := hnb.1.2; try simp only [zzn] at hnb2)
              | simp (dsimp := false) (implicitDefEqProofs := false) (disch := first | assumption | (simp only [zzm]; done) | omega | (with_reducible refine Row.adr (by assumption) ?_; simp only [zzk]; omega) | (simp only [zzl, Nat.reduceAdd]; first | done | omega)) only [go_sem, ↓reduceIte, seval, -List.reduceReplicate, Row.objsM hrow numsOf_len (by decide) hil, numsOf, hmem, hw, u8F_putS, u8F_len]
              | with_reducible refine bhas_t _ hws c hcl ?_
            rw [show u8F (upd (fU l i c) c i) = u8F (fU l i (c + 1)) from u8F_congr fun k _ => by
              unfold upd fU
              by_cases e : k = c
              · subst e
                rw [if_pos rfl, if_pos (by omega), hhit]
              · rw [if_neg e]
                by_cases h : nD l k < i ∨ (nD l k = i ∧ k < c)
                · rw [if_pos h, if_pos (by omega)]
                · rw [if_neg h, if_neg (by omega)]]
            exact Upd.now ⟨q2 - 1, by omega, c + 1, by omega, rfl, rfl, rfl⟩
          · rw [decide_eq_false fun e => hhit (hcls.1 e)] at hmem
            repeat' first
              | (with_reducible first | refine Br.yes ?_ | refine Br.no ?_ | refine Br.dec (fun _ => ?_) (fun _ => ?_) | refine Br.mk (fun _ => ?_) (fun _ => ?_))
              | ((with_reducible first | refine NewB.mk (fun nb hnb => ?_) | refine NewRow.mk (fun nb nsp ncap hnb hncap => ?_)); have hnb1 := hnb.1.1; have hnb2 := hnb.1.2; try simp only [zzn] at hnb2)
              | simp (dsimp := false) (implicitDefEqProofs := false) (disch := first | assumption | (simp only [zzm]; done) | omega | (with_reducible refine Row.adr (by assumption) ?_; simp only [zzk]; omega) | (simp only [zzl, Nat.reduceAdd]; first | done | omega)) only [go_sem, ↓reduceIte, seval, -List.reduceReplicate, Row.objsM hrow numsOf_len (by decide) hil, numsOf, hmem]
              | with_reducible refine bhas_t _ hws c hcl ?_
            rw [show u8F (fU l i c) = u8F (fU l i (c + 1)) from u8F_congr fun k _ => by
              unfold fU
              by_cases e : k = c
              · subst e
                by_cases h : nD l k < i
                · rw [if_pos (by omega), if_pos (by omega)]
                · rw [if_neg (by omega), if_neg (by omega)]
              · by_cases h : nD l k < i ∨ (nD l k = i ∧ k < c)
                · rw [if_pos h, if_pos (by omega)]
                · rw [if_neg h, if_neg (by omega)]]
            exact Upd.now ⟨q2 - 1, by omega, c + 1, by omega, rfl, rfl, rfl⟩
        · obtain rfl : c = 256 := by omega
          repeat' first
            | (with_reducible first | refine Br.yes ?_ | refine Br.no ?_ | refine Br.dec (fun _ => ?_) (fun _ => ?_) | refine Br.mk (fun _ => ?_) (fun _ => ?_))
            | ((with_reducible first | refine NewB.mk (fun nb hnb => ?_) | refine NewRow.mk (fun nb nsp ncap hnb hncap => ?_)); have hnb1 := hnb.1.1; have hnb2 := hnb.1.2; try simp only [zzn] at hnb2)
            | simp (dsimp := false) (implicitDefEqProofs := false) (disch := first | assumption | (simp only [zzm]; done) | omega | (with_reducible refine Row.adr (by assumption) ?_; simp only [zzk]; omega) | (simp only [zzl, Nat.reduceAdd]; first | done | omega)) only [go_sem, ↓reduceIte, seval, -List.reduceReplicate]
          rw [show u8F (fU l i 256) = u8F (fU l (i + 1) 0) from u8F_congr fun k hk => by
            unfold fU
            by_cases h : nD l k < i ∨ (nD l k = i ∧ k < 256)
            · rw [if_pos h, if_pos (by omega)]
            · rw [if_neg h, if_neg (by omega)]]
          exact Upd.now ⟨q - 1, by omega, i + 1, by omega, rfl, rfl, rfl⟩
    · obtain rfl : i = W.length := by omega
      repeat' first
        | (with_reducible first | refine Br.yes ?_ | refine Br.no ?_ | refine Br.dec (fun _ => ?_) (fun _ => ?_) | refine Br.mk (fun _ => ?_) (fun _ => ?_))
        | ((with_reducible first | refine NewB.mk (fun nb hnb => ?_) | refine NewRow.mk (fun nb nsp ncap hnb hncap => ?_)); have hnb1 := hnb.1.1; have hnb2 := hnb.1.2; try simp only [zzn] at hnb2)
        | simp (dsimp := false) (implicitDefEqProofs := false) (disch := first | assumption | (simp only [zzm]; done) | omega | (with_reducible refine Row.adr (by assumption) ?_; simp only [zzk]; omega) | (simp only [zzl, Nat.reduceAdd]; first | done | omega)) only [go_sem, ↓reduceIte, seval, -List.reduceReplicate, u8F_take, u8F_one, u8F_over, u8F_len, List.toList_toArray]
      rw [show u8F (fU l W.length 0) = u8L (nums l) by
        rw [← u8F_nums hl]
        refine u8F_congr fun k hk => ?_
        have hk2 : k < (nums l).length := by rw [nums_len]; omega
        have := (nums_bound (List.getElem_mem hk2)).2
        have e : nD l k = (nums l)[k] := by unfold nD; rw [List.getD_eq_getElem?_getD, List.getElem?_eq_getElem hk2]; rfl
        unfold fU; rw [if_pos (by omega)]]
      rw [← hW1] at hR
      all_goals refine Upd.finL ?_ hR ?_
      any_goals (intro fsum; first | exact Nat.le_refl _ | (simp only [zzq]; omega))
      rfl
theorem rpnorm_t {l : List Int} (hl : l.length = 256) (hlb : ∀ x ∈ l, 0 ≤ x ∧ x ≤ 255) {G : PHeap} {H : Heap} {R : Value → PHeap → Heap → Prop}
    (hR : ∀ G', PLe G G' → Sep G' (keys H) → R (.tuple #[agg8 (nums l), .int .i64 (tabO l).length]) G' H) : FnT Try.prog 82 [agg8 l] G H R := by
  have hnl : (nums l).length = 256 := by rw [nums_len, hl]
  have hu8 : (u8L l).length = 256 := by rw [List.length_map, hl]
  have hu9 : (u8L (nums l)).length = 256 := by rw [List.length_map, hnl]
  have hspl : splice (List.replicate 256 (Value.int .u8 0)) 0 (u8L (nums l)) = u8L (nums l) := by
    unfold splice
    rw [List.take_zero, List.nil_append, List.drop_of_length_le (by rw [List.length_replicate, List.length_map, hnl]; exact Nat.le_refl _), List.append_nil]
  have htake : List.take 256 (u8L (nums l)) = u8L (nums l) := List.take_of_length_le (by rw [List.length_map, hnl]; omega)
  have htake2 : List.take 256 (u8L l) = u8L l := List.take_of_length_le (by rw [List.length_map, hl]; omega)
  refine FnT.sep ?_
  refine FnT.body tok [0, 1, 2, 3] Try.func82 rfl (by kernel_rfl) (by kernel_rfl) (by show _ ≤ 9; simp) fun hsep => ?_
  rw [Try.results82]
  have hsE := hsep
  try simp only [zzs] at hsE
  repeat (obtain ⟨hsx, hsE⟩ := hsE)
  repeat' first
    | (with_reducible first | refine Br.yes ?_ | refine Br.no ?_ | refine Br.dec (fun _ => ?_) (fun _ => ?_) | refine Br.mk (fun _ => ?_) (fun _ => ?_))
    | ((with_reducible first | refine NewB.mk (fun nb hnb => ?_)); have hnb1 := hnb.1.1; have hnb2 := hnb.1.2; try simp only [zzn] at hnb2)
    | simp (dsimp := false) (implicitDefEqProofs := false) (disch := first | assumption | (simp only [zzm]; done) | omega | (with_reducible refine Row.adr (by assumption) ?_; simp only [zzk]; omega) | (simp only [zzl, Nat.reduceAdd]; first | done | omega)) only [go_sem, ↓reduceIte, seval, -List.reduceReplicate, List.toList_toArray, hu8, htake2]
  refine sets_t hl hlb fun G2 v2 W hle2 hs2 hsl hW => ?_
  obtain ⟨a, cap, rfl, hr, hc⟩ := hsl
  have hsE := hs2
  try simp only [zzs] at hsE
  repeat (obtain ⟨hsx, hsE⟩ := hsE)
  repeat' first
    | (with_reducible first | refine Br.yes ?_ | refine Br.no ?_ | refine Br.dec (fun _ => ?_) (fun _ => ?_) | refine Br.mk (fun _ => ?_) (fun _ => ?_))
    | ((with_reducible first | refine NewB.mk (fun nb hnb => ?_)); have hnb1 := hnb.1.1; have hnb2 := hnb.1.2; try simp only [zzn] at hnb2)
    | simp (dsimp := false) (implicitDefEqProofs := false) (disch := first | assumption | (simp only [zzm]; done) | omega | (with_reducible refine Row.adr (by assumption) ?_; simp only [zzk]; omega) | (simp only [zzl, Nat.reduceAdd]; first | done | omega)) only [go_sem, ↓reduceIte, seval, -List.reduceReplicate, List.toList_toArray]
  refine numbers_t hl hW ⟨a, cap, rfl, hr, hc⟩ ?_
  repeat' first
    | (with_reducible first | refine Br.yes ?_ | refine Br.no ?_ | refine Br.dec (fun _ => ?_) (fun _ => ?_) | refine Br.mk (fun _ => ?_) (fun _ => ?_))
    | ((with_reducible first | refine NewB.mk (fun nb hnb => ?_)); have hnb1 := hnb.1.1; have hnb2 := hnb.1.2; try simp only [zzn] at hnb2)
    | simp (dsimp := false) (implicitDefEqProofs := false) (disch := first | assumption | (simp only [zzm]; done) | omega | (with_reducible refine Row.adr (by assumption) ?_; simp only [zzk]; omega) | (simp only [zzl, Nat.reduceAdd]; first | done | omega)) only [go_sem, ↓reduceIte, seval, -List.reduceReplicate, List.toList_toArray, hspl, htake, hu9, List.length_replicate]
  unfold UpdR
  refine Upd.leave (H' := H) (by intro fsum; first | exact Nat.le_refl _ | (simp only [zzq]; omega)) ?_
  exact fun _ hs => hR G2 hle2 hs
theorem rpright_t {l : List Int} (hl : l.length = 256) (hlb : ∀ x ∈ l, 0 ≤ x ∧ x ≤ 255) (w : Int) {G : PHeap} {H : Heap} {R : Value → PHeap → Heap → Prop}
    (hR : ∀ G', PLe G G' → Sep G' (keys H) → R (.bool (decide (nums l = l) && decide (((tabO l).length : Int) = w))) G' H) : FnT Try.prog 62 [agg8 l, .int .i64 w] G H R := by
  have hnl : (nums l).length = 256 := by rw [nums_len, hl]
  have hspl : splice (List.replicate 256 (Value.int .u8 0)) 0 (u8L (nums l)) = u8L (nums l) := by
    unfold splice
    rw [List.take_zero, List.nil_append, List.drop_of_length_le (by rw [List.length_replicate, List.length_map, hnl]; exact Nat.le_refl _), List.append_nil]
  have htake : List.take 256 (u8L (nums l)) = u8L (nums l) := List.take_of_length_le (by rw [List.length_map, hnl]; omega)
  have htake2 : List.take 256 (u8L l) = u8L l := List.take_of_length_le (by rw [List.length_map, hl]; omega)
  have heq : eqT T 9 22 (agg8 (nums l)) (agg8 l) = some (decide (nums l = l)) := eqT_ints (d := 7) (t := 22) (e := 5) (n := 256) (k := .u8) rfl rfl rfl hnl hl
  refine FnT.sep ?_
  refine FnT.body tok [0, 1, 2, 4, 5, 6] Try.func62 rfl (by kernel_rfl) (by kernel_rfl) (by show _ ≤ 20; simp) fun hsep => ?_
  rw [Try.results62]
  have hsE := hsep
  try simp only [zzs] at hsE
  repeat (obtain ⟨hsx, hsE⟩ := hsE)
  repeat' first
    | (with_reducible first | refine Br.yes ?_ | refine Br.no ?_ | refine Br.dec (fun _ => ?_) (fun _ => ?_) | refine Br.beqB (fun _ => ?_) (fun _ => ?_) | refine Br.beqb (fun _ => ?_) (fun _ => ?_) | refine Br.mk (fun _ => ?_) (fun _ => ?_))
    | ((with_reducible first | refine NewB.mk (fun nb hnb => ?_)); have hnb1 := hnb.1.1; have hnb2 := hnb.1.2; try simp only [zzn] at hnb2)
    | simp (dsimp := false) (implicitDefEqProofs := false) (disch := first | assumption | (simp only [zzm]; done) | omega | (with_reducible refine Row.adr (by assumption) ?_; simp only [zzk]; omega) | (simp only [zzl, Nat.reduceAdd]; first | done | omega)) only [go_sem, ↓reduceIte, seval, -List.reduceReplicate, List.toList_toArray, List.length_map, hl, hnl, htake, htake2]
  refine rpnorm_t hl hlb fun G2 hle2 hs2 => ?_
  have hsE := hs2
  try simp only [zzs] at hsE
  repeat (obtain ⟨hsx, hsE⟩ := hsE)
  repeat' first
    | (with_reducible first | refine Br.yes ?_ | refine Br.no ?_ | refine Br.dec (fun _ => ?_) (fun _ => ?_) | refine Br.beqB (fun _ => ?_) (fun _ => ?_) | refine Br.beqb (fun _ => ?_) (fun _ => ?_) | refine Br.mk (fun _ => ?_) (fun _ => ?_))
    | ((with_reducible first | refine NewB.mk (fun nb hnb => ?_)); have hnb1 := hnb.1.1; have hnb2 := hnb.1.2; try simp only [zzn] at hnb2)
    | simp (dsimp := false) (implicitDefEqProofs := false) (disch := first | assumption | (simp only [zzm]; done) | omega | (with_reducible refine Row.adr (by assumption) ?_; simp only [zzk]; omega) | (simp only [zzl, Nat.reduceAdd]; first | done | omega)) only [go_sem, ↓reduceIte, seval, -List.reduceReplicate, List.toList_toArray, List.length_map, hl, hnl, htake, htake2, hspl, heq, List.length_replicate]
  · rename_i he
    rw [decide_eq_true he] at hR
    simp only [Bool.true_and] at hR
    unfold UpdR
    refine Upd.leave (H' := H) (by intro fsum; first | exact Nat.le_refl _ | (simp only [zzq]; omega)) ?_
    exact fun _ hs => hR G2 hle2 hs
  · rename_i he
    rw [decide_eq_false he] at hR
    simp only [Bool.false_and] at hR
    unfold UpdR
    refine Upd.leave (H' := H) (by intro fsum; first | exact Nat.le_refl _ | (simp only [zzq]; omega)) ?_
    exact fun _ hs => hR G2 hle2 hs
end Go.Proofs.Ytdeableflgakdaa
namespace Go.Proofs.Ytdeableflgakdaa
open Go Go.V Go.Proofs
theorem may_t (n : Nat) (hn : n < 256) (first : Bool) {G : PHeap} {H : Heap} {R : Value → PHeap → Heap → Prop} (hR : R (.bool (mayN n first)) G H) : FnT Try.prog 83 [.int .u8 (n : Nat), .bool first] G H R := by
  unfold mayN at hR
  by_cases h : 48 ≤ n ∧ n ≤ 57
  · rw [if_pos h] at hR
    refine FnT.body tok [0, 1, 4, 10] Try.func83 rfl (by kernel_rfl) (by kernel_rfl) (by show _ ≤ 31; simp) fun hsep => ?_
    rw [Try.results83]
    have hsE := hsep
    try simp only [zzs] at hsE
    repeat (obtain ⟨hsx, hsE⟩ := hsE)
    repeat' first
      | (with_reducible first | refine Br.yes ?_ | refine Br.no ?_ | refine Br.dec (fun _ => ?_) (fun _ => ?_) | refine Br.beqB (fun _ => ?_) (fun _ => ?_) | refine Br.beqb (fun _ => ?_) (fun _ => ?_) | refine Br.mk (fun _ => ?_) (fun _ => ?_))
      | simp (dsimp := false) (implicitDefEqProofs := false) (disch := first | assumption | (simp only [zzm]; done) | omega | (with_reducible refine Row.adr (by assumption) ?_; simp only [zzk]; omega) | (simp only [zzl, Nat.reduceAdd]; first | done | omega)) only [go_sem, ↓reduceIte, seval]
    all_goals try (exfalso; omega)
    all_goals refine Upd.finL ?_ hR ?_
    any_goals (intro fsum; first | exact Nat.le_refl _ | (simp only [zzq]; omega))
    rfl
  · rw [if_neg h] at hR
    unfold letterN at hR
    refine FnT.body tok [0, 1, 4, 10] Try.func83 rfl (by kernel_rfl) (by kernel_rfl) (by show _ ≤ 31; simp) fun hsep => ?_
    rw [Try.results83]
    have hsE := hsep
    try simp only [zzs] at hsE
    repeat (obtain ⟨hsx, hsE⟩ := hsE)
    repeat' first
      | (with_reducible first | refine Br.yes ?_ | refine Br.no ?_ | refine Br.dec (fun _ => ?_) (fun _ => ?_) | refine Br.beqB (fun _ => ?_) (fun _ => ?_) | refine Br.beqb (fun _ => ?_) (fun _ => ?_) | refine Br.mk (fun _ => ?_) (fun _ => ?_))
      | simp (dsimp := false) (implicitDefEqProofs := false) (disch := first | assumption | (simp only [zzm]; done) | omega | (with_reducible refine Row.adr (by assumption) ?_; simp only [zzk]; omega) | (simp only [zzl, Nat.reduceAdd]; first | done | omega)) only [go_sem, ↓reduceIte, seval]
    all_goals try (exfalso; omega)
    all_goals refine Upd.finL ?_ hR ?_
    any_goals (intro fsum; first | exact Nat.le_refl _ | (simp only [zzq]; omega))
    all_goals (simp only [Value.bool.injEq]; rw [Bool.eq_iff_iff]; simp; omega)
set_option maxHeartbeats 4000000 in
theorem rname_t (s : List UInt8) (hlen : s.length ≤ 2000000) {G : PHeap} {H : Heap} {R : Value → PHeap → Heap → Prop} (hR : R (.bool (nameB s)) G H) : FnT Try.prog 63 [str s] G H R := by
  refine FnT.body tok [0, 2, 3, 7, 16] Try.func63 rfl (by kernel_rfl) (by kernel_rfl) (by show _ ≤ 25; simp) fun hsep => ?_
  rw [Try.results63]
  have hsE := hsep
  try simp only [zzs] at hsE
  repeat (obtain ⟨hsx, hsE⟩ := hsE)
  repeat' first
    | (with_reducible first | refine Br.yes ?_ | refine Br.no ?_ | refine Br.dec (fun _ => ?_) (fun _ => ?_) | refine Br.beqB (fun _ => ?_) (fun _ => ?_) | refine Br.beqb (fun _ => ?_) (fun _ => ?_) | refine Br.mk (fun _ => ?_) (fun _ => ?_))
    | ((with_reducible first | refine NewB.mk (fun nb hnb => ?_)); have hnb1 := hnb.1.1; have hnb2 := hnb.1.2; try simp only [zzn] at hnb2)
    | simp (dsimp := false) (implicitDefEqProofs := false) (disch := first | assumption | (simp only [zzm]; done) | omega | (with_reducible refine Row.adr (by assumption) ?_; simp only [zzk]; omega) | (simp only [zzl, Nat.reduceAdd]; first | done | omega)) only [go_sem, ↓reduceIte, seval]
  refine Tri.loopU tok [0, 2, 3, 7, 16] (by kernel_rfl) [0, 2, 3] (fun q G' fr H' => ∃ i : Nat, i + q = s.length ∧ (∀ j (h : j < s.length), j < i → mayN s[j].toNat (decide (j = 0)) = true) ∧ G' = G ∧ H' = H ∧ fr = [(0, str s), (2, .bool false), (3, .int .i64 i)]) (s.length) (Upd.now ?_) ?_
  · exact ⟨0, by omega, fun j _ h => by omega, rfl, rfl, rfl⟩
  · rintro q G' fr H' hle hs ⟨i, hi, hno, rfl, rfl, rfl⟩
    by_cases hil : i < s.length
    · have hb : s[i].toNat < 256 := s[i].toNat_lt
      have hd : decide ((i : Int) = 0) = decide (i = 0) := decide_eq_decide.2 (by omega)
      repeat' first
        | (with_reducible first | refine Br.yes ?_ | refine Br.no ?_ | refine Br.dec (fun _ => ?_) (fun _ => ?_) | refine Br.beqB (fun _ => ?_) (fun _ => ?_) | refine Br.beqb (fun _ => ?_) (fun _ => ?_) | refine Br.mk (fun _ => ?_) (fun _ => ?_))
        | ((with_reducible first | refine NewB.mk (fun nb hnb => ?_)); have hnb1 := hnb.1.1; have hnb2 := hnb.1.2; try simp only [zzn] at hnb2)
        | simp (dsimp := false) (implicitDefEqProofs := false) (disch := first | assumption | (simp only [zzm]; done) | omega | (with_reducible refine Row.adr (by assumption) ?_; simp only [zzk]; omega) | (simp only [zzl, Nat.reduceAdd]; first | done | omega)) only [go_sem, ↓reduceIte, seval, hd]
        | with_reducible refine may_t _ hb _ ?_
      · rename_i hm
        exact Upd.now ⟨q - 1, by omega, i + 1, by omega, fun j h hj => by
          by_cases e : j = i
          · subst e; exact hm
          · exact hno j h (by omega), rfl, rfl, rfl⟩
      · rename_i hm
        rw [nameB_no fun h => by have := h.2.2 i hil; rw [hm] at this; cases this] at hR
        all_goals refine Upd.finL ?_ hR ?_
        any_goals (intro fsum; first | exact Nat.le_refl _ | (simp only [zzq]; omega))
        rfl
    · obtain rfl : i = s.length := by omega
      have hok : okS s := fun j h => hno j h h
      repeat' first
        | (with_reducible first | refine Br.yes ?_ | refine Br.no ?_ | refine Br.dec (fun _ => ?_) (fun _ => ?_) | refine Br.beqB (fun _ => ?_) (fun _ => ?_) | refine Br.beqb (fun _ => ?_) (fun _ => ?_) | refine Br.mk (fun _ => ?_) (fun _ => ?_))
        | ((with_reducible first | refine NewB.mk (fun nb hnb => ?_)); have hnb1 := hnb.1.1; have hnb2 := hnb.1.2; try simp only [zzn] at hnb2)
        | simp (dsimp := false) (implicitDefEqProofs := false) (disch := first | assumption | (simp only [zzm]; done) | omega | (with_reducible refine Row.adr (by assumption) ?_; simp only [zzk]; omega) | (simp only [zzl, Nat.reduceAdd]; first | done | omega)) only [go_sem, ↓reduceIte, seval]
      all_goals (
        refine Upd.finL (by intro fsum; first | exact Nat.le_refl _ | (simp only [zzq]; omega)) hR ?_
        simp only [Value.bool.injEq]
        rw [Bool.eq_iff_iff, nameB_iff]
        simp [hok]
        try omega)
end Go.Proofs.Ytdeableflgakdaa
namespace Go.Proofs.Ytdeableflgakdaa
open Go Go.V Go.Proofs
set_option maxHeartbeats 32000000 in
theorem rright_t {d : DfaT} (hsm : SmallD d) {G : PHeap} {H : Heap} {R : Value → PHeap → Heap → Prop} {v : Value} (hv : IsD G d v) (hR : ∀ G', PLe G G' → Sep G' (keys H) → R (.bool (boolOf (RightP d))) G' H) : FnT Try.prog 33 [v] G H R := by
  obtain ⟨C, an, al, ay, cn, cl, cs, rs, rfl, O⟩ := hv.opened
  obtain ⟨hm1, hm2, hm3, hm4, hm5⟩ := id hsm
  have hCl := O.len
  have hCw := O.w
  have hCn := O.n
  have hCx := O.l
  have hCs := O.s
  have hCo := O.of
  refine FnT.sep ?_
  by_cases h1 : 1 ≤ d.label.length ∧ d.label.length ≤ 65536 ∧ d.next.length = d.label.length ∧ d.names.length ≤ 64
  · obtain ⟨h1a, h1b, h1c, h1d⟩ := h1
    refine FnT.body tok [0, 1, 2, 3, 4, 5, 6, 7, 37, 42, 51, 54, 67, 70, 100, 104, 127] Try.func33 rfl (by kernel_rfl) (by kernel_rfl) (by show _ ≤ 128; simp) fun hsep => ?_
    rw [Try.results33]
    have hsE := hsep
    try simp only [zzs] at hsE
    repeat (obtain ⟨hsx, hsE⟩ := hsE)
    repeat' first
      | (with_reducible first | refine Br.yes ?_ | refine Br.no ?_ | refine Br.dec (fun _ => ?_) (fun _ => ?_) | refine Br.beqB (fun _ => ?_) (fun _ => ?_) | refine Br.beqb (fun _ => ?_) (fun _ => ?_) | refine Br.mk (fun _ => ?_) (fun _ => ?_))
      | ((with_reducible first | refine NewB.mk (fun nb hnb => ?_)); have hnb1 := hnb.1.1; have hnb2 := hnb.1.2; try simp only [zzn] at hnb2)
      | simp (dsimp := false) (implicitDefEqProofs := false) (disch := first | assumption | (simp only [zzm]; done) | omega | (with_reducible refine Row.adr (by assumption) ?_; simp only [zzk]; omega) | (simp only [zzl, Nat.reduceAdd]; first | done | omega)) only [go_sem, ↓reduceIte, seval, -List.reduceReplicate, List.toList_toArray, hCl, hCw, hCn, hCx, hCs, hCo]
    all_goals try (exfalso; omega)
    revert nb
    intro b1 hb1 hb11 hb12
    refine rpright_t O.ofl O.ofb d.width fun G2 hle2 hs2 => ?_
    have hsE := hs2
    try simp only [zzs] at hsE
    repeat (obtain ⟨hsx, hsE⟩ := hsE)
    have O2 := OpenD.mono hle2 O
    by_cases hp : nums d.of = d.of ∧ ((tabO d.of).length : Int) = d.width
    · rw [decide_eq_true hp.1, decide_eq_true hp.2]
      repeat' first
        | (with_reducible first | refine Br.yes ?_ | refine Br.no ?_ | refine Br.dec (fun _ => ?_) (fun _ => ?_) | refine Br.beqB (fun _ => ?_) (fun _ => ?_) | refine Br.beqb (fun _ => ?_) (fun _ => ?_) | refine Br.mk (fun _ => ?_) (fun _ => ?_))
        | ((with_reducible first | refine NewB.mk (fun nb hnb => ?_)); have hnb1 := hnb.1.1; have hnb2 := hnb.1.2; try simp only [zzn] at hnb2)
        | simp (dsimp := false) (implicitDefEqProofs := false) (disch := first | assumption | (simp only [zzm]; done) | omega | (with_reducible refine Row.adr (by assumption) ?_; simp only [zzk]; omega) | (simp only [zzl, Nat.reduceAdd]; first | done | omega)) only [go_sem, ↓reduceIte, seval, -List.reduceReplicate, Bool.true_and]
      have hry := O2.ry
      have hrn := O2.rn
      have hrl := O2.rl
      have hrnl := O2.rnl
      have hny : d.names.length ≤ 64 := h1d
      refine Tri.loopU tok [0, 1, 2, 3, 4, 5, 6, 7, 37, 42, 51, 54, 67, 70, 100, 104, 127] (by kernel_rfl) [1, 2, 3, 4] (fun q G' fr H' => ∃ i : Nat, i + q = d.names.length ∧ (∀ j (h : j < d.names.length), j < i → nameB d.names[j] = true ∧ d.names[j] ∉ d.names.take j) ∧ G' = G2 ∧ H' = (b1, .cells C [] 27) :: H ∧ fr = [(1, .pointer (some ⟨b1, 0, none⟩)), (2, .bool false), (3, .int .i64 d.label.length), (4, .int .i64 (i : Nat))]) (d.names.length) ?_ ?_
      · exact Upd.now ⟨0, by omega, fun j _ h => by omega, rfl, rfl, rfl⟩
      · rintro q G3 fr H' hle hs ⟨i, hi, hno, rfl, rfl, rfl⟩
        have hsE := hs
        try simp only [zzs] at hsE
        repeat (obtain ⟨hsx, hsE⟩ := hsE)
        by_cases hil : i < d.names.length
        · have had : Adr ay := hry.adr (by rw [List.length_map]; omega)
          have hsi := hm5 _ (List.getElem_mem hil)
          cases hnm : nameB d.names[i] with
          | false =>
            repeat' first
              | (with_reducible first | refine Br.yes ?_ | refine Br.no ?_ | refine Br.dec (fun _ => ?_) (fun _ => ?_) | refine Br.beqB (fun _ => ?_) (fun _ => ?_) | refine Br.beqb (fun _ => ?_) (fun _ => ?_) | refine Br.mk (fun _ => ?_) (fun _ => ?_))
              | ((with_reducible first | refine NewB.mk (fun nb hnb => ?_)); have hnb1 := hnb.1.1; have hnb2 := hnb.1.2; try simp only [zzn] at hnb2)
              | simp (dsimp := false) (implicitDefEqProofs := false) (disch := first | assumption | (simp only [zzm]; done) | omega | (with_reducible refine Row.adr (by assumption) ?_; simp only [zzk]; omega) | (simp only [zzl, Nat.reduceAdd]; first | done | omega)) only [go_sem, ↓reduceIte, seval, -List.reduceReplicate, List.toList_toArray, hCl, hCw, hCn, hCx, hCs, Row.obj hry, Row.obj hrn, Row.obj hrl, List.getElem_map, hnm]
              | with_reducible refine rname_t _ hsi ?_
            (unfold UpdR
             refine Upd.leave (H' := H) (by intro fsum; first | exact Nat.le_refl _ | (simp only [zzq]; omega)) ?_
             rw [boolOf_no (p := RightP d) fun h => by have := (h.2.2.2.2.2.1.2 i hil).1; rw [hnm] at this; cases this] at hR
             exact fun _ hs => hR _ hle2 hs)
          | true =>
            repeat' first
              | (with_reducible first | refine Br.yes ?_ | refine Br.no ?_ | refine Br.dec (fun _ => ?_) (fun _ => ?_) | refine Br.beqB (fun _ => ?_) (fun _ => ?_) | refine Br.beqb (fun _ => ?_) (fun _ => ?_) | refine Br.mk (fun _ => ?_) (fun _ => ?_))
              | ((with_reducible first | refine NewB.mk (fun nb hnb => ?_)); have hnb1 := hnb.1.1; have hnb2 := hnb.1.2; try simp only [zzn] at hnb2)
              | simp (dsimp := false) (implicitDefEqProofs := false) (disch := first | assumption | (simp only [zzm]; done) | omega | (with_reducible refine Row.adr (by assumption) ?_; simp only [zzk]; omega) | (simp only [zzl, Nat.reduceAdd]; first | done | omega)) only [go_sem, ↓reduceIte, seval, -List.reduceReplicate, List.toList_toArray, hCl, hCw, hCn, hCx, hCs, Row.obj hry, Row.obj hrn, Row.obj hrl, List.getElem_map, hnm]
              | with_reducible refine rname_t _ hsi ?_
            refine Tri.loopU tok [0, 1, 2, 3, 4, 5, 6, 7, 37, 42, 51, 54, 67, 70, 100, 104, 127] (by kernel_rfl) [1, 2, 3, 4, 5] (fun q2 G' fr H' => ∃ k : Nat, k + q2 = i ∧ (∀ j (h : j < d.names.length), j < k → d.names[j] ≠ d.names[i]) ∧ G' = G3 ∧ H' = (b1, .cells C [] 27) :: H ∧ fr = [(1, .pointer (some ⟨b1, 0, none⟩)), (2, .bool false), (3, .int .i64 d.label.length), (4, .int .i64 (i : Nat)), (5, .int .i64 (k : Nat))]) (i) ?_ ?_
            · exact Upd.now ⟨0, by omega, fun j _ h => by omega, rfl, rfl, rfl⟩
            · rintro q2 G4 fr H' hle4 hs4 ⟨k, hk, hno2, rfl, rfl, rfl⟩
              have hsE := hs4
              try simp only [zzs] at hsE
              repeat (obtain ⟨hsx, hsE⟩ := hsE)
              by_cases hkl : k < i
              · have hkn : k < d.names.length := by omega
                repeat' first
                  | (with_reducible first | refine Br.yes ?_ | refine Br.no ?_ | refine Br.dec (fun _ => ?_) (fun _ => ?_) | refine Br.beqB (fun _ => ?_) (fun _ => ?_) | refine Br.beqb (fun _ => ?_) (fun _ => ?_) | refine Br.mk (fun _ => ?_) (fun _ => ?_))
                  | ((with_reducible first | refine NewB.mk (fun nb hnb => ?_)); have hnb1 := hnb.1.1; have hnb2 := hnb.1.2; try simp only [zzn] at hnb2)
                  | with_reducible refine Tri.drawM tok mixed [0, 1, 2, 3, 4, 5, 6, 7, 37, 42, 51, 54, 67, 70, 100, 104, 127] 12 [1, 4, 6, 9] (.op 0 .plain (.op 1 .held (.op 2 .plain (.op 3 .plain (.op 4 .held (.op 5 .plain (.op 6 .held (.op 7 .plain (.op 8 .plain (.op 9 .held (.op 10 .plain .nil))))))))))) (by kernel_rfl) _ (List.Sublist.refl _) ?_
                  | simp (dsimp := false) (implicitDefEqProofs := false) (disch := first | assumption | (simp only [zzm]; done) | omega | (with_reducible refine Row.adr (by assumption) ?_; simp only [zzk]; omega) | (simp only [zzl, Nat.reduceAdd]; first | done | omega)) only [go_sem, ↓reduceIte, seval, -List.reduceReplicate, List.toList_toArray, hCl, hCw, hCn, hCx, hCs, Row.obj hry, Row.obj hrn, Row.obj hrl, List.getElem_map]
                · rename_i hsame
                  unfold UpdR
                  refine Upd.leave (H' := H) (by intro fsum; first | exact Nat.le_refl _ | (simp only [zzq]; omega)) ?_
                  rw [boolOf_no (p := RightP d) fun h => (h.2.2.2.2.2.1.2 i hil).2 ((mem_take_iff hil).2 ⟨k, hkl, hsame⟩)] at hR
                  exact fun _ hs => hR _ hle2 hs
                · rename_i hsame
                  exact Upd.now ⟨q2 - 1, by omega, k + 1, by omega, fun j h hj => by
                    by_cases e : j = k
                    · subst e; exact hsame
                    · exact hno2 j h (by omega), rfl, rfl, rfl⟩
              · obtain rfl : k = i := by omega
                repeat' first
                  | (with_reducible first | refine Br.yes ?_ | refine Br.no ?_ | refine Br.dec (fun _ => ?_) (fun _ => ?_) | refine Br.beqB (fun _ => ?_) (fun _ => ?_) | refine Br.beqb (fun _ => ?_) (fun _ => ?_) | refine Br.mk (fun _ => ?_) (fun _ => ?_))
                  | ((with_reducible first | refine NewB.mk (fun nb hnb => ?_)); have hnb1 := hnb.1.1; have hnb2 := hnb.1.2; try simp only [zzn] at hnb2)
                  | simp (dsimp := false) (implicitDefEqProofs := false) (disch := first | assumption | (simp only [zzm]; done) | omega | (with_reducible refine Row.adr (by assumption) ?_; simp only [zzk]; omega) | (simp only [zzl, Nat.reduceAdd]; first | done | omega)) only [go_sem, ↓reduceIte, seval, -List.reduceReplicate]
                exact Upd.now ⟨q - 1, by omega, k + 1, by omega, fun j h hj => by
                  by_cases e : j = k
                  · subst e
                    refine ⟨hnm, fun hm => ?_⟩
                    obtain ⟨t, ht, e⟩ := (mem_take_iff h).1 hm
                    exact hno2 t (by omega) ht e
                  · exact hno j h (by omega), rfl, rfl, rfl⟩
        · obtain rfl : i = d.names.length := by omega
          have hnok : namesOk d.names := ⟨h1d, fun i h => hno i h h⟩
          repeat' first
            | (with_reducible first | refine Br.yes ?_ | refine Br.no ?_ | refine Br.dec (fun _ => ?_) (fun _ => ?_) | refine Br.beqB (fun _ => ?_) (fun _ => ?_) | refine Br.beqb (fun _ => ?_) (fun _ => ?_) | refine Br.mk (fun _ => ?_) (fun _ => ?_))
            | ((with_reducible first | refine NewB.mk (fun nb hnb => ?_)); have hnb1 := hnb.1.1; have hnb2 := hnb.1.2; try simp only [zzn] at hnb2)
            | simp (dsimp := false) (implicitDefEqProofs := false) (disch := first | assumption | (simp only [zzm]; done) | omega | (with_reducible refine Row.adr (by assumption) ?_; simp only [zzk]; omega) | (simp only [zzl, Nat.reduceAdd]; first | done | omega)) only [go_sem, ↓reduceIte, seval, -List.reduceReplicate, List.toList_toArray, hCl, hCw, hCn, hCx, hCs, Row.obj hry, Row.obj hrn, Row.obj hrl, List.getElem_map]
          refine Tri.loopU tok [0, 1, 2, 3, 4, 5, 6, 7, 37, 42, 51, 54, 67, 70, 100, 104, 127] (by kernel_rfl) [1, 2, 3, 6] (fun q G' fr H' => ∃ s : Nat, s + q = d.next.length ∧ (∀ j, j < s → rowOk d j) ∧ G' = G3 ∧ H' = (b1, .cells C [] 27) :: H ∧ fr = [(1, .pointer (some ⟨b1, 0, none⟩)), (2, .bool false), (3, .int .i64 d.label.length), (6, .int .i64 (s : Nat))]) (d.next.length) ?_ ?_
          · exact Upd.now ⟨0, by omega, fun j h => by omega, rfl, rfl, rfl⟩
          · rintro q3 G5 fr H' hle5 hs5 ⟨s, hi3, hno3, rfl, rfl, rfl⟩
            have hsE := hs5
            try simp only [zzs] at hsE
            repeat (obtain ⟨hsx, hsE⟩ := hsE)
            by_cases hsl : s < d.next.length
            · have hsv : s < rs.length := by omega
              have hsL : s < d.label.length := by omega
              obtain ⟨b, c, e1, e2, e3⟩ := O2.rs s hsl hsv
              have hrm := hm2 _ (List.getElem_mem hsl)
              have had : Adr an := hrn.adr (by omega)
              have had2 : Adr al := hrl.adr (by rw [List.length_map]; omega)
              repeat' first
                | (with_reducible first | refine Br.yes ?_ | refine Br.no ?_ | refine Br.dec (fun _ => ?_) (fun _ => ?_) | refine Br.beqB (fun _ => ?_) (fun _ => ?_) | refine Br.beqb (fun _ => ?_) (fun _ => ?_) | refine Br.mk (fun _ => ?_) (fun _ => ?_))
                | ((with_reducible first | refine NewB.mk (fun nb hnb => ?_)); have hnb1 := hnb.1.1; have hnb2 := hnb.1.2; try simp only [zzn] at hnb2)
                | simp (dsimp := false) (implicitDefEqProofs := false) (disch := first | assumption | (simp only [zzm]; done) | omega | (with_reducible refine Row.adr (by assumption) ?_; simp only [zzk]; omega) | (simp only [zzl, Nat.reduceAdd]; first | done | omega)) only [go_sem, ↓reduceIte, seval, -List.reduceReplicate, List.toList_toArray, hCl, hCw, hCn, hCx, hCs, Row.obj hry, Row.obj hrn, Row.obj hrl, List.getElem_map, e1]
                | with_reducible refine Tri.drawM tok mixed [0, 1, 2, 3, 4, 5, 6, 7, 37, 42, 51, 54, 67, 70, 100, 104, 127] 17 [1, 4, 7, 11, 14, 19, 22, 24] (.op 0 .plain (.op 1 .held (.op 2 .plain (.op 3 .plain (.op 4 .held (.op 5 .plain (.op 6 .plain (.op 7 .held (.op 8 .plain (.op 9 .plain (.op 10 .plain (.op 11 .held (.op 12 .plain (.op 13 .plain (.op 14 .held (.op 15 .plain (.op 16 .plain (.op 17 .plain (.op 18 .plain (.op 19 .held (.op 20 .plain (.op 21 .plain (.op 22 .held (.op 23 .plain (.op 24 .held (.op 25 .plain (.op 26 .plain (.op 27 .plain .nil)))))))))))))))))))))))))))) (by kernel_rfl) _ (List.Sublist.refl _) ?_
              all_goals try (
                have hcontra : ¬ RightP d := fun h => by
                  obtain ⟨r1, r2, r3, r4⟩ := h.2.2.2.2.2.2 s hsl hsL
                  omega
                unfold UpdR
                refine Upd.leave (H' := H) (by intro fsum; first | exact Nat.le_refl _ | (simp only [zzq]; omega)) ?_
                rw [boolOf_no hcontra] at hR
                exact fun _ hs => hR _ hle2 hs)
              obtain ⟨row, hrow⟩ : ∃ row, row = d.next[s] := ⟨_, rfl⟩
              have hrw : (row.length : Int) = d.width ∧ 0 ≤ d.label[s] ∧ d.label[s] ≤ d.names.length := by rw [hrow]; omega
              rw [← hrow] at e1 e2 e3 hrm
              refine Tri.loopU tok [0, 1, 2, 3, 4, 5, 6, 7, 37, 42, 51, 54, 67, 70, 100, 104, 127] (by kernel_rfl) [1, 2, 3, 6, 7] (fun q4 G' fr H' => ∃ k : Nat, k + q4 = row.length ∧ (∀ j (h : j < row.length), j < k → 0 ≤ row[j] ∧ row[j] < d.label.length) ∧ G' = G5 ∧ H' = (b1, .cells C [] 27) :: H ∧ fr = [(1, .pointer (some ⟨b1, 0, none⟩)), (2, .bool false), (3, .int .i64 d.label.length), (6, .int .i64 (s : Nat)), (7, .int .i64 (k : Nat))]) (row.length) ?_ ?_
              · exact Upd.now ⟨0, by omega, fun j _ h => by omega, rfl, rfl, rfl⟩
              · rintro q4 G6 fr H' hle6 hs6 ⟨k, hk, hno4, rfl, rfl, rfl⟩
                have hsE := hs6
                try simp only [zzs] at hsE
                repeat (obtain ⟨hsx, hsE⟩ := hsE)
                by_cases hkl : k < row.length
                · have had3 : Adr b := e2.adr (by rw [List.length_map]; omega)
                  repeat' first
                    | (with_reducible first | refine Br.yes ?_ | refine Br.no ?_ | refine Br.dec (fun _ => ?_) (fun _ => ?_) | refine Br.beqB (fun _ => ?_) (fun _ => ?_) | refine Br.beqb (fun _ => ?_) (fun _ => ?_) | refine Br.mk (fun _ => ?_) (fun _ => ?_))
                    | ((with_reducible first | refine NewB.mk (fun nb hnb => ?_)); have hnb1 := hnb.1.1; have hnb2 := hnb.1.2; try simp only [zzn] at hnb2)
                    | simp (dsimp := false) (implicitDefEqProofs := false) (disch := first | assumption | (simp only [zzm]; done) | omega | (with_reducible refine Row.adr (by assumption) ?_; simp only [zzk]; omega) | (simp only [zzl, Nat.reduceAdd]; first | done | omega)) only [go_sem, ↓reduceIte, seval, -List.reduceReplicate, List.toList_toArray, hCl, hCw, hCn, hCx, hCs, Row.obj hry, Row.obj hrn, Row.obj hrl, List.getElem_map, e1, Row.obj e2]
                  all_goals try (exfalso; omega)
                  all_goals first
                    | (have hcontra : ¬ RightP d := fun h => by
                        obtain ⟨r1, r2, r3, r4⟩ := h.2.2.2.2.2.2 s hsl hsL
                        have := r4 row[k] (by rw [← hrow]; exact List.getElem_mem hkl)
                        omega
                       unfold UpdR
                       refine Upd.leave (H' := H) (by intro fsum; first | exact Nat.le_refl _ | (simp only [zzq]; omega)) ?_
                       rw [boolOf_no hcontra] at hR
                       exact fun _ hs => hR _ hle2 hs)
                    | exact Upd.now ⟨q4 - 1, by omega, k + 1, by omega, fun j h hj => by
                        by_cases e : j = k
                        · subst e; omega
                        · exact hno4 j h (by omega), rfl, rfl, rfl⟩
                · obtain rfl : k = row.length := by omega
                  repeat' first
                    | (with_reducible first | refine Br.yes ?_ | refine Br.no ?_ | refine Br.dec (fun _ => ?_) (fun _ => ?_) | refine Br.beqB (fun _ => ?_) (fun _ => ?_) | refine Br.beqb (fun _ => ?_) (fun _ => ?_) | refine Br.mk (fun _ => ?_) (fun _ => ?_))
                    | ((with_reducible first | refine NewB.mk (fun nb hnb => ?_)); have hnb1 := hnb.1.1; have hnb2 := hnb.1.2; try simp only [zzn] at hnb2)
                    | simp (dsimp := false) (implicitDefEqProofs := false) (disch := first | assumption | (simp only [zzm]; done) | omega | (with_reducible refine Row.adr (by assumption) ?_; simp only [zzk]; omega) | (simp only [zzl, Nat.reduceAdd]; first | done | omega)) only [go_sem, ↓reduceIte, seval, -List.reduceReplicate, List.toList_toArray, hCl, hCw, hCn, hCx, hCs, Row.obj hry, Row.obj hrn, Row.obj hrl, List.getElem_map]
                  all_goals try (exfalso; omega)
                  exact Upd.now ⟨q3 - 1, by omega, s + 1, by omega, fun j hj => by
                    by_cases e : j = s
                    · subst e
                      exact fun h1 h2 => ⟨by rw [← hrow]; omega, by omega, by omega, fun t ht => by
                        rw [← hrow] at ht
                        obtain ⟨j, hj, rfl⟩ := List.getElem_of_mem ht
                        exact hno4 j hj hj⟩
                    · exact hno3 j (by omega), rfl, rfl, rfl⟩
            · obtain rfl : s = d.next.length := by omega
              repeat' first
                | (with_reducible first | refine Br.yes ?_ | refine Br.no ?_ | refine Br.dec (fun _ => ?_) (fun _ => ?_) | refine Br.beqB (fun _ => ?_) (fun _ => ?_) | refine Br.beqb (fun _ => ?_) (fun _ => ?_) | refine Br.mk (fun _ => ?_) (fun _ => ?_))
                | ((with_reducible first | refine NewB.mk (fun nb hnb => ?_)); have hnb1 := hnb.1.1; have hnb2 := hnb.1.2; try simp only [zzn] at hnb2)
                | simp (dsimp := false) (implicitDefEqProofs := false) (disch := first | assumption | (simp only [zzm]; done) | omega | (with_reducible refine Row.adr (by assumption) ?_; simp only [zzk]; omega) | (simp only [zzl, Nat.reduceAdd]; first | done | omega)) only [go_sem, ↓reduceIte, seval, -List.reduceReplicate]
              unfold UpdR
              refine Upd.leave (H' := H) (by intro fsum; first | exact Nat.le_refl _ | (simp only [zzq]; omega)) ?_
              rw [boolOf_yes (p := RightP d) ⟨h1a, h1b, h1c, hp.1, hp.2, hnok, fun s => by
                rcases Nat.lt_or_ge s d.next.length with h | h
                · exact hno3 s h
                · exact fun h2 => by omega⟩] at hR
              exact fun _ hs => hR _ hle2 hs
    · have hpf : (decide (nums d.of = d.of) && decide (((tabO d.of).length : Int) = d.width)) = false := by
        cases h : (decide (nums d.of = d.of) && decide (((tabO d.of).length : Int) = d.width)) with
        | false => rfl
        | true =>
          rw [Bool.and_eq_true, decide_eq_true_eq, decide_eq_true_eq] at h
          exact absurd h hp
      rw [hpf]
      repeat' first
        | (with_reducible first | refine Br.yes ?_ | refine Br.no ?_ | refine Br.dec (fun _ => ?_) (fun _ => ?_) | refine Br.beqB (fun _ => ?_) (fun _ => ?_) | refine Br.beqb (fun _ => ?_) (fun _ => ?_) | refine Br.mk (fun _ => ?_) (fun _ => ?_))
        | ((with_reducible first | refine NewB.mk (fun nb hnb => ?_)); have hnb1 := hnb.1.1; have hnb2 := hnb.1.2; try simp only [zzn] at hnb2)
        | simp (dsimp := false) (implicitDefEqProofs := false) (disch := first | assumption | (simp only [zzm]; done) | omega | (with_reducible refine Row.adr (by assumption) ?_; simp only [zzk]; omega) | (simp only [zzl, Nat.reduceAdd]; first | done | omega)) only [go_sem, ↓reduceIte, seval, -List.reduceReplicate]
      unfold UpdR
      refine Upd.leave (H' := H) (by intro fsum; first | exact Nat.le_refl _ | (simp only [zzq]; omega)) ?_
      rw [boolOf_no fun h => hp ⟨h.2.2.2.1, h.2.2.2.2.1⟩] at hR
      exact fun _ hs => hR G2 hle2 hs
  · rw [boolOf_no fun h => h1 ⟨h.1, h.2.1, h.2.2.1, h.2.2.2.2.2.1.1⟩] at hR
    refine FnT.body tok [0, 1, 2, 3, 4, 5, 6, 7, 37, 42, 51, 54, 67, 70, 100, 104, 127] Try.func33 rfl (by kernel_rfl) (by kernel_rfl) (by show _ ≤ 128; simp) fun hsep => ?_
    rw [Try.results33]
    have hsE := hsep
    try simp only [zzs] at hsE
    repeat (obtain ⟨hsx, hsE⟩ := hsE)
    repeat' first
      | (with_reducible first | refine Br.yes ?_ | refine Br.no ?_ | refine Br.dec (fun _ => ?_) (fun _ => ?_) | refine Br.beqB (fun _ => ?_) (fun _ => ?_) | refine Br.beqb (fun _ => ?_) (fun _ => ?_) | refine Br.mk (fun _ => ?_) (fun _ => ?_))
      | ((with_reducible first | refine NewB.mk (fun nb hnb => ?_)); have hnb1 := hnb.1.1; have hnb2 := hnb.1.2; try simp only [zzn] at hnb2)
      | simp (dsimp := false) (implicitDefEqProofs := false) (disch := first | assumption | (simp only [zzm]; done) | omega | (with_reducible refine Row.adr (by assumption) ?_; simp only [zzk]; omega) | (simp only [zzl, Nat.reduceAdd]; first | done | omega)) only [go_sem, ↓reduceIte, seval, -List.reduceReplicate, List.toList_toArray, hCl, hCw, hCn, hCx, hCs, hCo]
    all_goals try (exfalso; omega)
    all_goals (
      unfold UpdR
      refine Upd.leave (H' := H) (by intro fsum; first | exact Nat.le_refl _ | (simp only [zzq]; omega)) ?_
      exact fun _ hs => hR G (PLe.refl _) hs)
end Go.Proofs.Ytdeableflgakdaa
namespace Go.Proofs.Ytdeableflgakdaa
open Go Go.V Go.Proofs
noncomputable def right24 (d : DfaT) (n : Int) : Bool := boolOf (RightP d) && decide ((d.label.length : Int) ≤ n)
theorem right24_t {d : DfaT} (hsm : SmallD d) {n : Int} {G : PHeap} {H : Heap} {R : Value → PHeap → Heap → Prop} {v : Value} (hv : IsD G d v)
    (hR : ∀ G', PLe G G' → Sep G' (keys H) → R (.bool (right24 d n)) G' H) : FnT Try.prog 11 [v, .int .i64 n] G H R := by
  obtain ⟨C, an, al, ay, cn, cl, cs, rs, rfl, O⟩ := hv.opened
  have hCl := O.len
  have hCa := O.all
  have hCx := O.l
  unfold right24 at hR
  refine FnT.sep ?_
  by_cases hok : RightP d
  · have hb := boolOf_yes hok
    rw [hb, Bool.true_and] at hR
    refine FnT.body tok [0, 1, 2, 4] Try.func11 rfl (by kernel_rfl) (by kernel_rfl) (by show _ ≤ 14; simp) fun hsep => ?_
    rw [Try.results11]
    have hsE := hsep
    try simp only [zzs] at hsE
    repeat (obtain ⟨hsx, hsE⟩ := hsE)
    repeat' first
      | (with_reducible first | refine Br.yes ?_ | refine Br.no ?_ | refine Br.dec (fun _ => ?_) (fun _ => ?_) | refine Br.mk (fun _ => ?_) (fun _ => ?_))
      | ((with_reducible first | refine NewB.mk (fun nb hnb => ?_)); have hnb1 := hnb.1.1; have hnb2 := hnb.1.2; try simp only [zzn] at hnb2)
      | simp (dsimp := false) (implicitDefEqProofs := false) (disch := first | assumption | (simp only [zzm]; done) | omega | (with_reducible refine Row.adr (by assumption) ?_; simp only [zzk]; omega) | (simp only [zzl, Nat.reduceAdd]; first | done | omega)) only [go_sem, ↓reduceIte, seval, -List.reduceReplicate, List.toList_toArray, hCl, hCa]
    refine rright_t hsm O.is fun G2 hle2 hs2 => ?_
    have hsE := hs2
    try simp only [zzs] at hsE
    repeat (obtain ⟨hsx, hsE⟩ := hsE)
    repeat' first
      | (with_reducible first | refine Br.yes ?_ | refine Br.no ?_ | refine Br.dec (fun _ => ?_) (fun _ => ?_) | refine Br.mk (fun _ => ?_) (fun _ => ?_))
      | ((with_reducible first | refine NewB.mk (fun nb hnb => ?_)); have hnb1 := hnb.1.1; have hnb2 := hnb.1.2; try simp only [zzn] at hnb2)
      | simp (dsimp := false) (implicitDefEqProofs := false) (disch := first | assumption | (simp only [zzm]; done) | omega | (with_reducible refine Row.adr (by assumption) ?_; simp only [zzk]; omega) | (simp only [zzl, Nat.reduceAdd]; first | done | omega)) only [go_sem, ↓reduceIte, seval, -List.reduceReplicate, List.toList_toArray, hCl, hCa, hCx, hb]
    unfold UpdR
    refine Upd.leave (H' := H) (by intro fsum; first | exact Nat.le_refl _ | (simp only [zzq]; omega)) ?_
    exact fun _ hs => hR G2 hle2 hs
  · have hb := boolOf_no hok
    rw [hb, Bool.false_and] at hR
    refine FnT.body tok [0, 1, 2, 4] Try.func11 rfl (by kernel_rfl) (by kernel_rfl) (by show _ ≤ 14; simp) fun hsep => ?_
    rw [Try.results11]
    have hsE := hsep
    try simp only [zzs] at hsE
    repeat (obtain ⟨hsx, hsE⟩ := hsE)
    repeat' first
      | (with_reducible first | refine Br.yes ?_ | refine Br.no ?_ | refine Br.dec (fun _ => ?_) (fun _ => ?_) | refine Br.mk (fun _ => ?_) (fun _ => ?_))
      | ((with_reducible first | refine NewB.mk (fun nb hnb => ?_)); have hnb1 := hnb.1.1; have hnb2 := hnb.1.2; try simp only [zzn] at hnb2)
      | simp (dsimp := false) (implicitDefEqProofs := false) (disch := first | assumption | (simp only [zzm]; done) | omega | (with_reducible refine Row.adr (by assumption) ?_; simp only [zzk]; omega) | (simp only [zzl, Nat.reduceAdd]; first | done | omega)) only [go_sem, ↓reduceIte, seval, -List.reduceReplicate, List.toList_toArray, hCl, hCa]
    refine rright_t hsm O.is fun G2 hle2 hs2 => ?_
    have hsE := hs2
    try simp only [zzs] at hsE
    repeat (obtain ⟨hsx, hsE⟩ := hsE)
    repeat' first
      | (with_reducible first | refine Br.yes ?_ | refine Br.no ?_ | refine Br.dec (fun _ => ?_) (fun _ => ?_) | refine Br.mk (fun _ => ?_) (fun _ => ?_))
      | ((with_reducible first | refine NewB.mk (fun nb hnb => ?_)); have hnb1 := hnb.1.1; have hnb2 := hnb.1.2; try simp only [zzn] at hnb2)
      | simp (dsimp := false) (implicitDefEqProofs := false) (disch := first | assumption | (simp only [zzm]; done) | omega | (with_reducible refine Row.adr (by assumption) ?_; simp only [zzk]; omega) | (simp only [zzl, Nat.reduceAdd]; first | done | omega)) only [go_sem, ↓reduceIte, seval, -List.reduceReplicate, List.toList_toArray, hCl, hCa, hCx, hb]
    unfold UpdR
    refine Upd.leave (H' := H) (by intro fsum; first | exact Nat.le_refl _ | (simp only [zzq]; omega)) ?_
    exact fun _ hs => hR G2 hle2 hs
end Go.Proofs.Ytdeableflgakdaa
namespace Go.Proofs.Ytdeableflgakdaa
open Go Go.V Go.Proofs
set_option maxHeartbeats 32000000 in
theorem hopSame_t {d : DfaT} (hsm : SmallD d) {G : PHeap} {H : Heap} {R : Value → PHeap → Heap → Prop} {v : Value} (hv : IsD G d v)
    (hR : ∀ G', PLe G G' → R (.bool true) G' H) : FnT Try.prog 4 [v] G H R := by
  obtain ⟨C, an, al, ay, cn, cl, cs, rs, rfl, O⟩ := hv.opened
  have hCl := O.len
  have hCa := O.all
  cases hb : right24 d 500 with
  | false =>
    refine FnT.body tok [0, 1, 2] Try.func4 rfl (by kernel_rfl) (by kernel_rfl) (by show _ ≤ 16; simp) fun hsep => ?_
    rw [Try.results4]
    have hsE := hsep
    try simp only [zzs] at hsE
    repeat (obtain ⟨hsx, hsE⟩ := hsE)
    repeat' first
      | (with_reducible first | refine Br.yes ?_ | refine Br.no ?_ | refine Br.dec (fun _ => ?_) (fun _ => ?_) | refine Br.mk (fun _ => ?_) (fun _ => ?_))
      | ((with_reducible first | refine NewB.mk (fun nb hnb => ?_)); have hnb1 := hnb.1.1; have hnb2 := hnb.1.2; try simp only [zzn] at hnb2)
      | simp (dsimp := false) (implicitDefEqProofs := false) (disch := first | assumption | (simp only [zzm]; done) | omega | (with_reducible refine Row.adr (by assumption) ?_; simp only [zzk]; omega) | (simp only [zzl, Nat.reduceAdd]; first | done | omega)) only [go_sem, ↓reduceIte, seval, -List.reduceReplicate, List.toList_toArray, hCl, hCa, hb]
      | with_reducible refine Tri.drawH tok mixed [0, 1, 2] 1 [0, 4, 6] (.op 0 .held (.op 1 .keeps (.op 2 .plain (.op 3 .plain (.op 4 .held (.op 6 .held (.op 5 .keeps (.op 7 .keeps (.op 8 .keeps (.op 9 .plain (.op 10 .keeps (.op 11 .plain (.op 12 .plain (.op 13 .plain .nil)))))))))))))) (by kernel_rfl) [1] ?_
      | ((with_reducible refine right24_t hsm O.is fun G1 hle1 hs1 => ?_); rw [hb]; (have hsE := hs1; try simp only [zzs] at hsE; repeat (obtain ⟨hsx, hsE⟩ := hsE)))
    all_goals refine Upd.finL ?_ (hR G1 hle1) ?_
    any_goals (intro fsum; first | exact Nat.le_refl _ | (simp only [zzq]; omega))
    all_goals rfl
  | true =>
    have hlen : (aftD d 65536).length ≤ 2000000 := by
      by_cases hok : RightP d
      · rw [aftD_len hok]; exact hsm.2.2.1
      · rw [aftD_no hok]; simp
    have htt : decide (aftD d 65536 = aftD d 65536) = true := decide_eq_true rfl
    refine FnT.body tok [0, 1, 2] Try.func4 rfl (by kernel_rfl) (by kernel_rfl) (by show _ ≤ 16; simp) fun hsep => ?_
    rw [Try.results4]
    have hsE := hsep
    try simp only [zzs] at hsE
    repeat (obtain ⟨hsx, hsE⟩ := hsE)
    repeat' first
      | (with_reducible first | refine Br.yes ?_ | refine Br.no ?_ | refine Br.dec (fun _ => ?_) (fun _ => ?_) | refine Br.mk (fun _ => ?_) (fun _ => ?_))
      | ((with_reducible first | refine NewB.mk (fun nb hnb => ?_)); have hnb1 := hnb.1.1; have hnb2 := hnb.1.2; try simp only [zzn] at hnb2)
      | simp (dsimp := false) (implicitDefEqProofs := false) (disch := first | assumption | (simp only [zzm]; done) | omega | (with_reducible refine Row.adr (by assumption) ?_; simp only [zzk]; omega) | (simp only [zzl, Nat.reduceAdd]; first | done | omega)) only [go_sem, ↓reduceIte, seval, -List.reduceReplicate, List.toList_toArray, hCl, hCa, hb, htt]
      | with_reducible refine Tri.drawH tok mixed [0, 1, 2] 1 [0, 4, 6] (.op 0 .held (.op 1 .keeps (.op 2 .plain (.op 3 .plain (.op 4 .held (.op 6 .held (.op 5 .keeps (.op 7 .keeps (.op 8 .keeps (.op 9 .plain (.op 10 .keeps (.op 11 .plain (.op 12 .plain (.op 13 .plain .nil)))))))))))))) (by kernel_rfl) [1] ?_
      | ((with_reducible refine right24_t hsm O.is fun G1 hle1 hs1 => ?_); rw [hb]; (have hsE := hs1; try simp only [zzs] at hsE; repeat (obtain ⟨hsx, hsE⟩ := hsE)))
      | ((with_reducible refine hblocks_t hsm (O.is.mono hle1) fun G2 v2 hle2 hs2 hsl2 => ?_); (have hsE := hs2; try simp only [zzs] at hsE; repeat (obtain ⟨hsx, hsE⟩ := hsE)))
      | ((with_reducible refine blocks_t hsm (O.is.mono (hle1.trans hle2)) fun G3 v3 hle3 hs3 hsl3 => ?_); (have hsE := hs3; try simp only [zzs] at hsE; repeat (obtain ⟨hsx, hsE⟩ := hsE)))
      | ((with_reducible refine same17_t _ _ hlen (hsl2.mono hle3) hsl3 ?_); rw [htt])
      | ((with_reducible refine knows_t fun G7 hle7 => ?_))
    all_goals refine Upd.finL ?_ (hR G7 (hle1.trans (hle2.trans (hle3.trans hle7)))) ?_
    any_goals (intro fsum; first | exact Nat.le_refl _ | (simp only [zzq]; omega))
    all_goals rfl
end Go.Proofs.Ytdeableflgakdaa
namespace Go.Proofs.Ytdeableflgakdaa.lawHopcroftSame
open Go Go.V Go.Proofs Go.ChangeShapes Go.WideShapes Go.RowKit
theorem own : ownKnob Try.prog.godebug = none := by kernel_rfl
mutual
theorem bulk {H : Type} : ∀ d : DataW H, bulkV d ≤ Rows.uptoBulk d
  | .lit l => by cases l <;> simp [bulkV, Rows.uptoBulk]
  | .nil => by simp [bulkV, Rows.uptoBulk]
  | .ptr d => by have := bulk d; simp only [bulkV, Rows.uptoBulk]; omega
  | .slice elems spare => by have := bulks elems; have := bulks spare; simp only [bulkV, Rows.uptoBulk]; omega
  | .agg parts => by have := bulks parts; simp only [bulkV, Rows.uptoBulk]; omega
  | .iface _ d => by have := bulk d; simp only [bulkV, Rows.uptoBulk]; omega
  | .map entries => by simp [bulkV]
  | .held _ => by simp [bulkV, Rows.uptoBulk]
theorem bulks {H : Type} : ∀ l : List (DataW H), bulkVs l ≤ Rows.uptoBulkAll l
  | [] => by simp [bulkVs]
  | d :: l => by have := bulk d; have := bulks l; simp only [bulkVs, Rows.uptoBulkAll]; omega
end
set_option maxRecDepth 100000 in
theorem contract (H : Type) (enc : TypeId × Value → H) (W : World) (base : Nat) (args : Array Value) (ds gs : List (DataW H)) (before : List MemPlace)
    (hval : ∀ (j : Nat) t v, Try.f4.params[j]? = some t → args[j]? = some v → Value.okWide Try.prog W .any base t v)
    (hW : DataW.Whole enc Try.prog Try.f4.params.toList Rows.hopcroftSameSpec.vars false W args.toList ds gs before) (hk : Rows.uptoSmall H (ds ++ gs) = true) :
    Calls Try.prog 4 args W fun e W' => ∃ v, e = .returned v ∧ Rows.hopcroftSameSpec.post enc Try.prog Try.f4 false true false false W args v W' := by
  refine door (tb := 4) seatok ⟨_, _, Try.func4, rfl, by kernel_rfl⟩ rfl (by kernel_rfl) Try.underlying4 (fun t ht => ?_) (fun ds hd => ?_) hW ?_
  · have := List.all_eq_true.1 (show (Try.f4.params.toList.all fun t => decide (t < Try.prog.types.size)) = true by kernel_rfl) t ht
    simpa using this
  · rw [Try.params4] at hd
    rcases ds with _ | ⟨e0, _ | ⟨e9, ds⟩⟩ <;> first | rfl | (simp at hd)
  obtain ⟨p, q, hA, hV, rfl, hfz, hnd⟩ := hW
  rw [Try.params4] at hA hval
  obtain ⟨v0, vs0, d0, ds0, p0, q0, hargs0, rfl, rfl, h0, r_0⟩ := trodAll_cons hA
  obtain ⟨rfl, rfl, rfl⟩ := trodAll_nil r_0
  obtain rfl : args = #[v0] := by cases args; simp_all
  obtain ⟨rfl, rfl⟩ := trodVars_none hV
  have hb : bulkVs [d0] ≤ 1048576 := Nat.le_trans (bulks _) (of_decide_eq_true hk)
  simp only [bulkVs] at hb
  obtain ⟨a0, s0, w0⟩ := rd_dfa (hval 0 27 v0 rfl rfl) h0
  exact hopSame_t (w0 (by omega)) s0 fun _ _ => rfl
set_option maxRecDepth 100000 in
theorem lifted (os : Os) (started : os.Started) (H : Type) (enc : TypeId × Value → H) (F : Stop.Interp) :
    ReturnsInHanded {} Try.checked os 4 .any ((Rows.OpenSpec.upto Rows.hopcroftSameSpec).pre6 enc Try.prog Try.f4 Rows.hopcroftSameUptoRow.domain false) (((Rows.OpenSpec.upto Rows.hopcroftSameSpec).at F).post enc Try.prog Try.f4 false true false false) := by
  refine returnsInHanded_of_cond (C := Try.checked) (s := Rows.OpenSpec.upto Rows.hopcroftSameSpec) (k := Rows.uptoSmall) rfl own started (by kernel_rfl) Try.func4
    (OpenSpec.witness (enc := enc) (C := Try.checked) (s := Rows.OpenSpec.upto Rows.hopcroftSameSpec) (k := Rows.uptoSmall) rfl false ⟨#[], #[.agg (List.replicate 256 (Value.int .u8 0) ++ [Value.int .i64 0, Value.slice none 0 0, Value.slice none 0 0, Value.slice none 0 0]).toArray], []⟩ 8 (by kernel_rfl) (by kernel_rfl) (by kernel_rfl)
      (x := ([.agg [.agg (List.replicate 256 (.lit (.int .u8 0))), .lit (.int .i64 0), .nil, .nil, .nil]], [], [])) (by kernel_rfl) rfl (by kernel_rfl)) ?_
  intro W base args ds gs before hval hW _ hk _
  exact contract H enc W base args ds gs before hval hW hk
theorem over : Rows.hopcroftSameUptoRow.holds Try.pinned (Rows.OpenSpec.upto Rows.hopcroftSameSpec) :=
  OpenClaim.holds_of_cond 4 Try.f4 rfl rfl rfl rfl rfl rfl rfl ⟨rfl, rfl, rfl, rfl, rfl⟩ rfl rfl rfl rfl rfl (by kernel_rfl) Try.func4 (by kernel_rfl)
    (of_decide_eq_true (by kernel_rfl)) (by unfold Func.isWrapper; first | (rw [if_pos (by decide +kernel)]; kernel_rfl) | (rw [if_neg (by decide +kernel)]; exact ⟨rfl, rfl⟩))
    (fun os started H enc _ F => lifted os started H enc F)
theorem proved : Rows.HopcroftSameUptoSaid :=
  over
end Go.Proofs.Ytdeableflgakdaa.lawHopcroftSame
