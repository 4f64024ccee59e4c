/- Machines as bytes: classes read. -/
import Derived.Test.YtomdbjfdbkejoaaYd
import Derived.Test.YtomdbjfdbkejoaaUd
set_option linter.unusedSimpArgs false
set_option linter.unusedVariables false
namespace Go.Proofs.Ytomdbjfdbkejoaa
open Go Go.V Go.Proofs

structure ClsS where
  c : Nat
  w : Nat
  f : Nat → Int
  s : Rdr
def fillF (f : Nat → Int) (c n : Nat) (k : Int) : Nat → Int := fun i => if c ≤ i ∧ i < c + n then k else f i
def clsStep (t : ClsS) : ClsS :=
  if 256 ≤ t.c ∨ t.s.1 = true then t
  else if 256 - t.c < (numP 1 (numP 1 t.s).2).1 + 1 then ⟨t.c, t.w, t.f, (true, (numP 1 (numP 1 t.s).2).2.2)⟩
  else ⟨t.c + ((numP 1 (numP 1 t.s).2).1 + 1), max t.w ((numP 1 t.s).1 + 1), fillF t.f t.c ((numP 1 (numP 1 t.s).2).1 + 1) ((numP 1 t.s).1 : Nat), (numP 1 (numP 1 t.s).2).2⟩
def clsR : Nat → ClsS → ClsS
  | 0, t => t
  | k + 1, t => clsR k (clsStep t)
def clsP (s : Rdr) : ClsS := clsR 256 ⟨0, 0, fun _ => 0, s⟩
theorem clsP_eq (s : Rdr) : clsR 256 ⟨0, 0, fun _ => 0, s⟩ = clsP s := (clsP.eq_1 s).symm
theorem clsR_succ (k : Nat) (t : ClsS) : clsR (k + 1) t = clsR k (clsStep t) := rfl
theorem clsR_zero (t : ClsS) : clsR 0 t = t := rfl
theorem clsStep_id {t : ClsS} (h : 256 ≤ t.c ∨ t.s.1 = true) : clsStep t = t := by unfold clsStep; rw [if_pos h]
theorem clsR_id {t : ClsS} (h : 256 ≤ t.c ∨ t.s.1 = true) : ∀ k, clsR k t = t
  | 0 => rfl
  | k + 1 => by show clsR k (clsStep t) = t; rw [clsStep_id h]; exact clsR_id h k
theorem clsStep_le (t : ClsS) : (clsStep t).s.2.length ≤ t.s.2.length := by
  unfold clsStep
  split
  · exact Nat.le_refl _
  · have := numP_le 1 (numP 1 t.s).2
    have := numP_le 1 t.s
    split
    · show (numP 1 (numP 1 t.s).2).2.2.length ≤ _; omega
    · show (numP 1 (numP 1 t.s).2).2.2.length ≤ _; omega
theorem clsR_le : ∀ (k : Nat) (t : ClsS), (clsR k t).s.2.length ≤ t.s.2.length
  | 0, _ => Nat.le_refl _
  | k + 1, t => Nat.le_trans (clsR_le k (clsStep t)) (clsStep_le t)
theorem clsStep_w {t : ClsS} (h : t.w ≤ 256 ∧ ∀ i, 0 ≤ t.f i ∧ t.f i ≤ 255) : (clsStep t).w ≤ 256 ∧ ∀ i, 0 ≤ (clsStep t).f i ∧ (clsStep t).f i ≤ 255 := by
  have := numP1 t.s
  unfold clsStep
  split
  · exact h
  · split
    · exact h
    · refine ⟨by show max _ _ ≤ _; omega, fun i => ?_⟩
      show 0 ≤ fillF _ _ _ _ i ∧ fillF _ _ _ _ i ≤ 255
      unfold fillF
      split
      · omega
      · exact h.2 i
theorem clsR_w : ∀ (k : Nat) {t : ClsS}, (t.w ≤ 256 ∧ ∀ i, 0 ≤ t.f i ∧ t.f i ≤ 255) → (clsR k t).w ≤ 256 ∧ ∀ i, 0 ≤ (clsR k t).f i ∧ (clsR k t).f i ≤ 255
  | 0, _, h => h
  | k + 1, _, h => clsR_w k (clsStep_w h)
theorem fillF_zero (f : Nat → Int) (c : Nat) (k : Int) : fillF f c 0 k = f := by
  funext i; unfold fillF; rw [if_neg (by omega)]
theorem fillF_succ (f : Nat → Int) (c n : Nat) (k : Int) : upd (fillF f c n k) (c + n) k = fillF f c (n + 1) k := by
  funext i
  unfold upd fillF
  by_cases e : i = c + n
  · subst e; rw [if_pos rfl, if_pos (by omega)]
  · rw [if_neg e]
    by_cases h : c ≤ i ∧ i < c + n
    · rw [if_pos h, if_pos (by omega)]
    · rw [if_neg h, if_neg (by omega)]
attribute [irreducible] clsR
set_option maxHeartbeats 8000000 in
theorem classes_t {s : Rdr} (hsl : s.2.length ≤ 200000000) {bR : Nat} {sv : Value} {G : PHeap} {H : Heap} {R : Value → PHeap → Heap → Prop} (hs : Sl G byteV sv s.2)
    (hR : ∀ G' sv', PLe G G' → Sep G' (keys ((bR, Res.cells [sv', .bool (clsP s).s.1] [] 43) :: H)) → Sl G' byteV sv' (clsP s).s.2 → R (.tuple #[.agg (u8F (clsP s).f).toArray, .int .i64 ((clsP s).w : Nat)]) G' ((bR, .cells [sv', .bool (clsP s).s.1] [] 43) :: H)) :
    FnT Try.prog 32 [.pointer (some ⟨bR, 0, none⟩)] G ((bR, .cells [sv, .bool s.1] [] 43) :: H) R := by
  refine FnT.sep ?_
  refine FnT.body tok [0, 2, 3, 4, 5, 6, 7, 8, 17, 26, 30, 31, 32] Try.func32 rfl (by kernel_rfl) (by kernel_rfl) (by show _ ≤ 46; simp) fun hsep => ?_
  rw [Try.results32]
  have hsE := hsep
  try simp only [keys_cons, keys_app, keys_nil, Sep_cons, Sep_nil, NotIn_cons, NotIn_app, NotIn_nil, List.cons_append, List.nil_append, List.append_assoc, and_assoc, and_true, true_and] at hsE
  repeat (obtain ⟨hsx, hsE⟩ := hsE)
  repeat' first
    | with_reducible refine Br.yes ?_
    | with_reducible refine Br.no ?_
    | with_reducible refine Br.dec (fun _ => ?_) (fun _ => ?_)
    | with_reducible refine Br.beqB (fun _ => ?_) (fun _ => ?_)
    | with_reducible refine Br.beqb (fun _ => ?_) (fun _ => ?_)
    | with_reducible refine Br.mk (fun _ => ?_) (fun _ => ?_)
    | with_reducible refine foundO.mk (fun _ _ => ?_) (fun _ => ?_)
    | with_reducible refine appV.zero ?_
    | with_reducible refine appV.own ?_
    | ((with_reducible refine NewB.mk fun nb hnb => ?_); have hnb1 := hnb.1.1; have hnb2 := hnb.1.2; try simp only [keys_cons, keys_app, keys_nil, NotIn_cons, NotIn_app, NotIn_nil, and_true] at hnb2)
    | ((with_reducible refine NewRow.mk fun nb nsp ncap hnb hncap => ?_); have hnb1 := hnb.1.1; have hnb2 := hnb.1.2; try simp only [keys_cons, keys_app, keys_nil, NotIn_cons, NotIn_app, NotIn_nil, and_true] at hnb2)
    | simp (dsimp := false) (implicitDefEqProofs := false) (disch := first | assumption | (simp only [List.mem_cons, List.mem_append, true_or, or_true, eq_self]; done) | omega | (with_reducible refine Row.adr (by assumption) ?_; simp only [List.length_map, List.length_take, List.length_drop]; omega) | (simp only [List.length_cons, List.length_nil, List.length_map, List.length_append, List.length_replicate, Nat.reduceAdd, true_and, and_true, and_self]; first | done | omega)) only [go_sem, ↓reduceIte, Nat.reduceEqDiff, Nat.reduceAdd, Nat.reduceSub, Nat.reduceMul, Nat.reduceBEq, Nat.reduceLT, Nat.reduceLeDiff, Nat.reduceMod, Nat.reducePow, List.reduceReplicate, UInt8.reduceOfNat, Int.reducePow, Int.reduceDiv, Int.reduceMod, Nat.reduceDiv, Int.reduceNeg, Int.reduceAdd, Int.reduceSub, Int.reduceMul, Int.reduceLE, Int.reduceLT, Int.reduceEq, Int.reduceToNat, reduceCtorEq, -List.reduceReplicate, u8F_zero]
  rename_i b2 hb2 hb21 hb22
  revert nb
  intro b4 hb4 hb41 hb42
  refine Tri.loopU tok [0, 2, 3, 4, 5, 6, 7, 8, 17, 26, 30, 31, 32] (by kernel_rfl) [0, 2, 3, 4, 5, 6] (fun q G' fr H' => ∃ (t : ClsS) (sv' : Value), PLe G G' ∧ clsR q t = clsP s ∧ 256 - t.c ≤ q ∧ t.c ≤ 256 ∧ t.w ≤ 256 ∧ t.s.2.length ≤ 200000000 ∧ Sl G' byteV sv' t.s.2 ∧ H' = (b4, .cells (u8F t.f) [] 23) :: (b2, .cells (u8F fun _ => 0) [] 23) :: (bR, .cells [sv', .bool t.s.1] [] 43) :: H ∧ fr = [(0, .pointer (some ⟨bR, 0, none⟩)), (2, .pointer (some ⟨b2, 0, none⟩)), (3, .int .i64 0), (4, .pointer (some ⟨b4, 0, none⟩)), (5, .int .i64 (t.w : Nat)), (6, .int .i64 (t.c : Nat))]) (256) ?_ ?_
  · exact Upd.now ⟨⟨0, 0, fun _ => 0, s⟩, sv, PLe.refl _, clsP_eq s, by simp, Nat.zero_le _, Nat.zero_le _, hsl, hs, rfl, rfl⟩
  · rintro q G2 fr H' hle2 hs2 ⟨t, sv2, hle02, hst, hq, hc, hw, hstl, hsv2, rfl, rfl⟩
    have hsE := hs2
    try simp only [keys_cons, keys_app, keys_nil, Sep_cons, Sep_nil, NotIn_cons, NotIn_app, NotIn_nil, List.cons_append, List.nil_append, List.append_assoc, and_assoc, and_true, true_and] at hsE
    repeat (obtain ⟨hsx, hsE⟩ := hsE)
    by_cases hfin : 256 ≤ t.c ∨ t.s.1 = true
    · rw [clsR_id hfin] at hst
      subst hst
      by_cases h1 : 256 ≤ (clsP s).c
      · repeat' first
          | with_reducible refine Br.yes ?_
          | with_reducible refine Br.no ?_
          | with_reducible refine Br.dec (fun _ => ?_) (fun _ => ?_)
          | with_reducible refine Br.beqB (fun _ => ?_) (fun _ => ?_)
          | with_reducible refine Br.beqb (fun _ => ?_) (fun _ => ?_)
          | with_reducible refine Br.mk (fun _ => ?_) (fun _ => ?_)
          | with_reducible refine foundO.mk (fun _ _ => ?_) (fun _ => ?_)
          | with_reducible refine appV.zero ?_
          | with_reducible refine appV.own ?_
          | ((with_reducible refine NewB.mk fun nb hnb => ?_); have hnb1 := hnb.1.1; have hnb2 := hnb.1.2; try simp only [keys_cons, keys_app, keys_nil, NotIn_cons, NotIn_app, NotIn_nil, and_true] at hnb2)
          | ((with_reducible refine NewRow.mk fun nb nsp ncap hnb hncap => ?_); have hnb1 := hnb.1.1; have hnb2 := hnb.1.2; try simp only [keys_cons, keys_app, keys_nil, NotIn_cons, NotIn_app, NotIn_nil, and_true] at hnb2)
          | simp (dsimp := false) (implicitDefEqProofs := false) (disch := first | assumption | (simp only [List.mem_cons, List.mem_append, true_or, or_true, eq_self]; done) | omega | (with_reducible refine Row.adr (by assumption) ?_; simp only [List.length_map, List.length_take, List.length_drop]; omega) | (simp only [List.length_cons, List.length_nil, List.length_map, List.length_append, List.length_replicate, Nat.reduceAdd, true_and, and_true, and_self]; first | done | omega)) only [go_sem, ↓reduceIte, Nat.reduceEqDiff, Nat.reduceAdd, Nat.reduceSub, Nat.reduceMul, Nat.reduceBEq, Nat.reduceLT, Nat.reduceLeDiff, Nat.reduceMod, Nat.reducePow, List.reduceReplicate, UInt8.reduceOfNat, Int.reducePow, Int.reduceDiv, Int.reduceMod, Nat.reduceDiv, Int.reduceNeg, Int.reduceAdd, Int.reduceSub, Int.reduceMul, Int.reduceLE, Int.reduceLT, Int.reduceEq, Int.reduceToNat, reduceCtorEq, -List.reduceReplicate, u8F_len, u8F_over, u8F_take, u8F_one]
        all_goals try (exfalso; omega)
        unfold UpdR
        refine Upd.leave (H' := (bR, .cells [sv2, .bool (clsP s).s.1] [] 43) :: H) (by intro fsum; first | exact Nat.le_refl _ | (simp only [List.map_append, List.map_cons, List.map_nil, List.sum_append, List.sum_cons, List.sum_nil, List.cons_append, List.nil_append]; omega)) ?_
        exact fun _ hs => hR _ sv2 hle02 hs hsv2
      · have h2 : (clsP s).s.1 = true := hfin.resolve_left h1
        rw [h2] at hR
        repeat' first
          | with_reducible refine Br.yes ?_
          | with_reducible refine Br.no ?_
          | with_reducible refine Br.dec (fun _ => ?_) (fun _ => ?_)
          | with_reducible refine Br.beqB (fun _ => ?_) (fun _ => ?_)
          | with_reducible refine Br.beqb (fun _ => ?_) (fun _ => ?_)
          | with_reducible refine Br.mk (fun _ => ?_) (fun _ => ?_)
          | with_reducible refine foundO.mk (fun _ _ => ?_) (fun _ => ?_)
          | with_reducible refine appV.zero ?_
          | with_reducible refine appV.own ?_
          | ((with_reducible refine NewB.mk fun nb hnb => ?_); have hnb1 := hnb.1.1; have hnb2 := hnb.1.2; try simp only [keys_cons, keys_app, keys_nil, NotIn_cons, NotIn_app, NotIn_nil, and_true] at hnb2)
          | ((with_reducible refine NewRow.mk fun nb nsp ncap hnb hncap => ?_); have hnb1 := hnb.1.1; have hnb2 := hnb.1.2; try simp only [keys_cons, keys_app, keys_nil, NotIn_cons, NotIn_app, NotIn_nil, and_true] at hnb2)
          | simp (dsimp := false) (implicitDefEqProofs := false) (disch := first | assumption | (simp only [List.mem_cons, List.mem_append, true_or, or_true, eq_self]; done) | omega | (with_reducible refine Row.adr (by assumption) ?_; simp only [List.length_map, List.length_take, List.length_drop]; omega) | (simp only [List.length_cons, List.length_nil, List.length_map, List.length_append, List.length_replicate, Nat.reduceAdd, true_and, and_true, and_self]; first | done | omega)) only [go_sem, ↓reduceIte, Nat.reduceEqDiff, Nat.reduceAdd, Nat.reduceSub, Nat.reduceMul, Nat.reduceBEq, Nat.reduceLT, Nat.reduceLeDiff, Nat.reduceMod, Nat.reducePow, List.reduceReplicate, UInt8.reduceOfNat, Int.reducePow, Int.reduceDiv, Int.reduceMod, Nat.reduceDiv, Int.reduceNeg, Int.reduceAdd, Int.reduceSub, Int.reduceMul, Int.reduceLE, Int.reduceLT, Int.reduceEq, Int.reduceToNat, reduceCtorEq, -List.reduceReplicate, u8F_len, u8F_over, u8F_take, u8F_one, h2]
        all_goals try (exfalso; omega)
        unfold UpdR
        refine Upd.leave (H' := (bR, .cells [sv2, .bool true] [] 43) :: H) (by intro fsum; first | exact Nat.le_refl _ | (simp only [List.map_append, List.map_cons, List.map_nil, List.sum_append, List.sum_cons, List.sum_nil, List.cons_append, List.nil_append]; omega)) ?_
        exact fun _ hs => hR _ sv2 hle02 hs hsv2
    · have hc2 : t.c < 256 := by omega
      have hbad : t.s.1 = false := by cases e : t.s.1 with | false => rfl | true => exact absurd (Or.inr e) hfin
      obtain ⟨q, rfl⟩ : ∃ p, q = p + 1 := ⟨q - 1, by omega⟩
      have hno : clsR q (clsStep t) = clsP s := (clsR_succ q t).symm.trans hst
      obtain ⟨c, w, f, bad, l⟩ := t
      simp only at hc2 hbad hc hw hstl hsv2 hq
      subst hbad
      have hstep : clsStep ⟨c, w, f, (false, l)⟩ = if 256 - c < (numP 1 (numP 1 (false, l)).2).1 + 1 then ⟨c, w, f, (true, (numP 1 (numP 1 (false, l)).2).2.2)⟩ else ⟨c + ((numP 1 (numP 1 (false, l)).2).1 + 1), max w ((numP 1 (false, l)).1 + 1), fillF f c ((numP 1 (numP 1 (false, l)).2).1 + 1) ((numP 1 (false, l)).1 : Nat), (numP 1 (numP 1 (false, l)).2).2⟩ := by
        unfold clsStep; rw [if_neg hfin]
      have hn1 := numP1 (false, l)
      have hl1 := numP_le 1 (false, l)
      have hn2 := numP1 (numP 1 (false, l)).2
      have hl2 := numP_le 1 (numP 1 (false, l)).2
      obtain ⟨r1, hr1⟩ : ∃ r, r = numP 1 (false, l) := ⟨_, rfl⟩
      obtain ⟨r2, hr2⟩ : ∃ r, r = numP 1 r1.2 := ⟨_, rfl⟩
      obtain ⟨k, hk⟩ : ∃ k, k = r1.1 := ⟨_, rfl⟩
      obtain ⟨n, hn⟩ : ∃ n, n = r2.1 := ⟨_, rfl⟩
      rw [← hr1, ← hr2, ← hk, ← hn] at hstep
      rw [← hr1] at hn1 hl1 hn2 hl2
      rw [← hr2] at hn2 hl2
      rw [← hk] at hn1
      rw [← hn] at hn2
      simp only at hl1
      repeat' first
        | with_reducible refine Br.yes ?_
        | with_reducible refine Br.no ?_
        | with_reducible refine Br.dec (fun _ => ?_) (fun _ => ?_)
        | with_reducible refine Br.beqB (fun _ => ?_) (fun _ => ?_)
        | with_reducible refine Br.beqb (fun _ => ?_) (fun _ => ?_)
        | with_reducible refine Br.mk (fun _ => ?_) (fun _ => ?_)
        | with_reducible refine foundO.mk (fun _ _ => ?_) (fun _ => ?_)
        | with_reducible refine appV.zero ?_
        | with_reducible refine appV.own ?_
        | ((with_reducible refine NewB.mk fun nb hnb => ?_); have hnb1 := hnb.1.1; have hnb2 := hnb.1.2; try simp only [keys_cons, keys_app, keys_nil, NotIn_cons, NotIn_app, NotIn_nil, and_true] at hnb2)
        | ((with_reducible refine NewRow.mk fun nb nsp ncap hnb hncap => ?_); have hnb1 := hnb.1.1; have hnb2 := hnb.1.2; try simp only [keys_cons, keys_app, keys_nil, NotIn_cons, NotIn_app, NotIn_nil, and_true] at hnb2)
        | simp (dsimp := false) (implicitDefEqProofs := false) (disch := first | assumption | (simp only [List.mem_cons, List.mem_append, true_or, or_true, eq_self]; done) | omega | (with_reducible refine Row.adr (by assumption) ?_; simp only [List.length_map, List.length_take, List.length_drop]; omega) | (simp only [List.length_cons, List.length_nil, List.length_map, List.length_append, List.length_replicate, Nat.reduceAdd, true_and, and_true, and_self]; first | done | omega)) only [go_sem, ↓reduceIte, Nat.reduceEqDiff, Nat.reduceAdd, Nat.reduceSub, Nat.reduceMul, Nat.reduceBEq, Nat.reduceLT, Nat.reduceLeDiff, Nat.reduceMod, Nat.reducePow, List.reduceReplicate, UInt8.reduceOfNat, Int.reducePow, Int.reduceDiv, Int.reduceMod, Nat.reduceDiv, Int.reduceNeg, Int.reduceAdd, Int.reduceSub, Int.reduceMul, Int.reduceLE, Int.reduceLT, Int.reduceEq, Int.reduceToNat, reduceCtorEq, -List.reduceReplicate]
      refine FnT.leave (H' := (bR, .cells [sv2, .bool false] [] 43) :: (b4, .cells (u8F f) [] 23) :: (b2, .cells (u8F fun _ => 0) [] 23) :: H) (number_t (s := (false, l)) hstl (n := 1) (by omega) hsv2 fun G3 sv3 hle3 hs3 hsv3 => ?_) (by intro fsum; first | exact Nat.le_refl _ | (simp only [List.map_append, List.map_cons, List.map_nil, List.sum_append, List.sum_cons, List.sum_nil, List.cons_append, List.nil_append]; omega))
      rw [← hr1] at hs3 hsv3 ⊢
      rw [← hk]
      have hsE := hs3
      try simp only [keys_cons, keys_app, keys_nil, Sep_cons, Sep_nil, NotIn_cons, NotIn_app, NotIn_nil, List.cons_append, List.nil_append, List.append_assoc, and_assoc, and_true, true_and] at hsE
      repeat (obtain ⟨hsx, hsE⟩ := hsE)
      repeat' first
        | with_reducible refine Br.yes ?_
        | with_reducible refine Br.no ?_
        | with_reducible refine Br.dec (fun _ => ?_) (fun _ => ?_)
        | with_reducible refine Br.beqB (fun _ => ?_) (fun _ => ?_)
        | with_reducible refine Br.beqb (fun _ => ?_) (fun _ => ?_)
        | with_reducible refine Br.mk (fun _ => ?_) (fun _ => ?_)
        | with_reducible refine foundO.mk (fun _ _ => ?_) (fun _ => ?_)
        | with_reducible refine appV.zero ?_
        | with_reducible refine appV.own ?_
        | ((with_reducible refine NewB.mk fun nb hnb => ?_); have hnb1 := hnb.1.1; have hnb2 := hnb.1.2; try simp only [keys_cons, keys_app, keys_nil, NotIn_cons, NotIn_app, NotIn_nil, and_true] at hnb2)
        | ((with_reducible refine NewRow.mk fun nb nsp ncap hnb hncap => ?_); have hnb1 := hnb.1.1; have hnb2 := hnb.1.2; try simp only [keys_cons, keys_app, keys_nil, NotIn_cons, NotIn_app, NotIn_nil, and_true] at hnb2)
        | simp (dsimp := false) (implicitDefEqProofs := false) (disch := first | assumption | (simp only [List.mem_cons, List.mem_append, true_or, or_true, eq_self]; done) | omega | (with_reducible refine Row.adr (by assumption) ?_; simp only [List.length_map, List.length_take, List.length_drop]; omega) | (simp only [List.length_cons, List.length_nil, List.length_map, List.length_append, List.length_replicate, Nat.reduceAdd, true_and, and_true, and_self]; first | done | omega)) only [go_sem, ↓reduceIte, Nat.reduceEqDiff, Nat.reduceAdd, Nat.reduceSub, Nat.reduceMul, Nat.reduceBEq, Nat.reduceLT, Nat.reduceLeDiff, Nat.reduceMod, Nat.reducePow, List.reduceReplicate, UInt8.reduceOfNat, Int.reducePow, Int.reduceDiv, Int.reduceMod, Nat.reduceDiv, Int.reduceNeg, Int.reduceAdd, Int.reduceSub, Int.reduceMul, Int.reduceLE, Int.reduceLT, Int.reduceEq, Int.reduceToNat, reduceCtorEq, -List.reduceReplicate]
      refine number_t (s := r1.2) (by omega) (n := 1) (by omega) hsv3 fun G4 sv4 hle4 hs4 hsv4 => ?_
      rw [← hr2] at hs4 hsv4 ⊢
      rw [← hn]
      have hsE := hs4
      try simp only [keys_cons, keys_app, keys_nil, Sep_cons, Sep_nil, NotIn_cons, NotIn_app, NotIn_nil, List.cons_append, List.nil_append, List.append_assoc, and_assoc, and_true, true_and] at hsE
      repeat (obtain ⟨hsx, hsE⟩ := hsE)
      by_cases hbig : 256 - c < n + 1
      · rw [if_pos hbig] at hstep
        repeat' first
          | with_reducible refine Br.yes ?_
          | with_reducible refine Br.no ?_
          | with_reducible refine Br.dec (fun _ => ?_) (fun _ => ?_)
          | with_reducible refine Br.beqB (fun _ => ?_) (fun _ => ?_)
          | with_reducible refine Br.beqb (fun _ => ?_) (fun _ => ?_)
          | with_reducible refine Br.mk (fun _ => ?_) (fun _ => ?_)
          | with_reducible refine foundO.mk (fun _ _ => ?_) (fun _ => ?_)
          | with_reducible refine appV.zero ?_
          | with_reducible refine appV.own ?_
          | ((with_reducible refine NewB.mk fun nb hnb => ?_); have hnb1 := hnb.1.1; have hnb2 := hnb.1.2; try simp only [keys_cons, keys_app, keys_nil, NotIn_cons, NotIn_app, NotIn_nil, and_true] at hnb2)
          | ((with_reducible refine NewRow.mk fun nb nsp ncap hnb hncap => ?_); have hnb1 := hnb.1.1; have hnb2 := hnb.1.2; try simp only [keys_cons, keys_app, keys_nil, NotIn_cons, NotIn_app, NotIn_nil, and_true] at hnb2)
          | simp (dsimp := false) (implicitDefEqProofs := false) (disch := first | assumption | (simp only [List.mem_cons, List.mem_append, true_or, or_true, eq_self]; done) | omega | (with_reducible refine Row.adr (by assumption) ?_; simp only [List.length_map, List.length_take, List.length_drop]; omega) | (simp only [List.length_cons, List.length_nil, List.length_map, List.length_append, List.length_replicate, Nat.reduceAdd, true_and, and_true, and_self]; first | done | omega)) only [go_sem, ↓reduceIte, Nat.reduceEqDiff, Nat.reduceAdd, Nat.reduceSub, Nat.reduceMul, Nat.reduceBEq, Nat.reduceLT, Nat.reduceLeDiff, Nat.reduceMod, Nat.reducePow, List.reduceReplicate, UInt8.reduceOfNat, Int.reducePow, Int.reduceDiv, Int.reduceMod, Nat.reduceDiv, Int.reduceNeg, Int.reduceAdd, Int.reduceSub, Int.reduceMul, Int.reduceLE, Int.reduceLT, Int.reduceEq, Int.reduceToNat, reduceCtorEq, -List.reduceReplicate, u8F_len, u8F_over, u8F_take, u8F_one]
        all_goals try (exfalso; omega)
        rw [hstep, clsR_id (Or.inr rfl)] at hno
        rw [← hno] at hR
        unfold UpdR
        refine Upd.leave (H' := (bR, .cells [sv4, .bool true] [] 43) :: H) (by intro fsum; first | exact Nat.le_refl _ | (simp only [List.map_append, List.map_cons, List.map_nil, List.sum_append, List.sum_cons, List.sum_nil, List.cons_append, List.nil_append]; omega)) ?_
        exact fun _ hs => hR _ sv4 (hle02.trans (hle3.trans hle4)) hs hsv4
      · rw [if_neg hbig] at hstep
        repeat' first
          | with_reducible refine Br.yes ?_
          | with_reducible refine Br.no ?_
          | with_reducible refine Br.dec (fun _ => ?_) (fun _ => ?_)
          | with_reducible refine Br.beqB (fun _ => ?_) (fun _ => ?_)
          | with_reducible refine Br.beqb (fun _ => ?_) (fun _ => ?_)
          | with_reducible refine Br.mk (fun _ => ?_) (fun _ => ?_)
          | with_reducible refine foundO.mk (fun _ _ => ?_) (fun _ => ?_)
          | with_reducible refine appV.zero ?_
          | with_reducible refine appV.own ?_
          | ((with_reducible refine NewB.mk fun nb hnb => ?_); have hnb1 := hnb.1.1; have hnb2 := hnb.1.2; try simp only [keys_cons, keys_app, keys_nil, NotIn_cons, NotIn_app, NotIn_nil, and_true] at hnb2)
          | ((with_reducible refine NewRow.mk fun nb nsp ncap hnb hncap => ?_); have hnb1 := hnb.1.1; have hnb2 := hnb.1.2; try simp only [keys_cons, keys_app, keys_nil, NotIn_cons, NotIn_app, NotIn_nil, and_true] at hnb2)
          | simp (dsimp := false) (implicitDefEqProofs := false) (disch := first | assumption | (simp only [List.mem_cons, List.mem_append, true_or, or_true, eq_self]; done) | omega | (with_reducible refine Row.adr (by assumption) ?_; simp only [List.length_map, List.length_take, List.length_drop]; omega) | (simp only [List.length_cons, List.length_nil, List.length_map, List.length_append, List.length_replicate, Nat.reduceAdd, true_and, and_true, and_self]; first | done | omega)) only [go_sem, ↓reduceIte, Nat.reduceEqDiff, Nat.reduceAdd, Nat.reduceSub, Nat.reduceMul, Nat.reduceBEq, Nat.reduceLT, Nat.reduceLeDiff, Nat.reduceMod, Nat.reducePow, List.reduceReplicate, UInt8.reduceOfNat, Int.reducePow, Int.reduceDiv, Int.reduceMod, Nat.reduceDiv, Int.reduceNeg, Int.reduceAdd, Int.reduceSub, Int.reduceMul, Int.reduceLE, Int.reduceLT, Int.reduceEq, Int.reduceToNat, reduceCtorEq, -List.reduceReplicate]
        all_goals try (exfalso; omega)
        refine Tri.loopU tok [0, 2, 3, 4, 5, 6, 7, 8, 17, 26, 30, 31, 32] (by kernel_rfl) [0, 2, 3, 4, 5, 6, 7, 30, 31] (fun q2 G' fr H' => ∃ (j : Nat), j + q2 = n + 1 ∧ G' = G4 ∧ H' = (bR, .cells [sv4, .bool r2.2.1] [] 43) :: (b4, .cells (u8F (fillF f c j (k : Nat))) [] 23) :: (b2, .cells (u8F fun _ => 0) [] 23) :: H ∧ fr = [(0, .pointer (some ⟨bR, 0, none⟩)), (2, .pointer (some ⟨b2, 0, none⟩)), (3, .int .i64 0), (4, .pointer (some ⟨b4, 0, none⟩)), (5, .int .i64 (w : Nat)), (6, .int .i64 ((c : Nat) + (j : Nat))), (7, .int .i64 (k : Nat)), (30, .int .i64 ((n : Nat) + 1)), (31, .int .i64 (j : Nat))]) ((n + 1)) ?_ ?_
        · exact Upd.now ⟨0, by omega, rfl, by rw [fillF_zero], by rw [show ((0 : Nat) : Int) = 0 from rfl, Int.add_zero]; rfl⟩
        · rintro q2 G5 fr H' hle5 hs5 ⟨j, hjq, rfl, rfl, rfl⟩
          have hsE := hs5
          try simp only [keys_cons, keys_app, keys_nil, Sep_cons, Sep_nil, NotIn_cons, NotIn_app, NotIn_nil, List.cons_append, List.nil_append, List.append_assoc, and_assoc, and_true, true_and] at hsE
          repeat (obtain ⟨hsx, hsE⟩ := hsE)
          by_cases hjn : j < n + 1
          · have hk8 : IntKind.u8.wrap ((k : Nat) : Int) = (k : Nat) := wrap_nat (k := .u8) rfl (by show _ < 256; omega)
            have hcj : ((c : Int) + (j : Nat)).toNat = c + j := by omega
            have hput := u8F_putS (f := fillF f c j (k : Nat)) (i := c + j) (by omega) (k : Nat)
            rw [fillF_succ] at hput
            repeat' first
              | with_reducible refine Br.yes ?_
              | with_reducible refine Br.no ?_
              | with_reducible refine Br.dec (fun _ => ?_) (fun _ => ?_)
              | with_reducible refine Br.beqB (fun _ => ?_) (fun _ => ?_)
              | with_reducible refine Br.beqb (fun _ => ?_) (fun _ => ?_)
              | with_reducible refine Br.mk (fun _ => ?_) (fun _ => ?_)
              | with_reducible refine foundO.mk (fun _ _ => ?_) (fun _ => ?_)
              | with_reducible refine appV.zero ?_
              | with_reducible refine appV.own ?_
              | ((with_reducible refine NewB.mk fun nb hnb => ?_); have hnb1 := hnb.1.1; have hnb2 := hnb.1.2; try simp only [keys_cons, keys_app, keys_nil, NotIn_cons, NotIn_app, NotIn_nil, and_true] at hnb2)
              | ((with_reducible refine NewRow.mk fun nb nsp ncap hnb hncap => ?_); have hnb1 := hnb.1.1; have hnb2 := hnb.1.2; try simp only [keys_cons, keys_app, keys_nil, NotIn_cons, NotIn_app, NotIn_nil, and_true] at hnb2)
              | simp (dsimp := false) (implicitDefEqProofs := false) (disch := first | assumption | (simp only [List.mem_cons, List.mem_append, true_or, or_true, eq_self]; done) | omega | (with_reducible refine Row.adr (by assumption) ?_; simp only [List.length_map, List.length_take, List.length_drop]; omega) | (simp only [List.length_cons, List.length_nil, List.length_map, List.length_append, List.length_replicate, Nat.reduceAdd, true_and, and_true, and_self]; first | done | omega)) only [go_sem, ↓reduceIte, Nat.reduceEqDiff, Nat.reduceAdd, Nat.reduceSub, Nat.reduceMul, Nat.reduceBEq, Nat.reduceLT, Nat.reduceLeDiff, Nat.reduceMod, Nat.reducePow, List.reduceReplicate, UInt8.reduceOfNat, Int.reducePow, Int.reduceDiv, Int.reduceMod, Nat.reduceDiv, Int.reduceNeg, Int.reduceAdd, Int.reduceSub, Int.reduceMul, Int.reduceLE, Int.reduceLT, Int.reduceEq, Int.reduceToNat, reduceCtorEq, -List.reduceReplicate, u8F_len, hk8, hcj, hput]
            exact Upd.now ⟨q2 - 1, by omega, j + 1, by omega, rfl, rfl, by rw [show ((j + 1 : Nat) : Int) = (j : Int) + 1 from rfl, ← Int.add_assoc]; rfl⟩
          · obtain rfl : j = n + 1 := by omega
            repeat' first
              | with_reducible refine Br.yes ?_
              | with_reducible refine Br.no ?_
              | with_reducible refine Br.dec (fun _ => ?_) (fun _ => ?_)
              | with_reducible refine Br.beqB (fun _ => ?_) (fun _ => ?_)
              | with_reducible refine Br.beqb (fun _ => ?_) (fun _ => ?_)
              | with_reducible refine Br.mk (fun _ => ?_) (fun _ => ?_)
              | with_reducible refine foundO.mk (fun _ _ => ?_) (fun _ => ?_)
              | with_reducible refine appV.zero ?_
              | with_reducible refine appV.own ?_
              | ((with_reducible refine NewB.mk fun nb hnb => ?_); have hnb1 := hnb.1.1; have hnb2 := hnb.1.2; try simp only [keys_cons, keys_app, keys_nil, NotIn_cons, NotIn_app, NotIn_nil, and_true] at hnb2)
              | ((with_reducible refine NewRow.mk fun nb nsp ncap hnb hncap => ?_); have hnb1 := hnb.1.1; have hnb2 := hnb.1.2; try simp only [keys_cons, keys_app, keys_nil, NotIn_cons, NotIn_app, NotIn_nil, and_true] at hnb2)
              | simp (dsimp := false) (implicitDefEqProofs := false) (disch := first | assumption | (simp only [List.mem_cons, List.mem_append, true_or, or_true, eq_self]; done) | omega | (with_reducible refine Row.adr (by assumption) ?_; simp only [List.length_map, List.length_take, List.length_drop]; omega) | (simp only [List.length_cons, List.length_nil, List.length_map, List.length_append, List.length_replicate, Nat.reduceAdd, true_and, and_true, and_self]; first | done | omega)) only [go_sem, ↓reduceIte, Nat.reduceEqDiff, Nat.reduceAdd, Nat.reduceSub, Nat.reduceMul, Nat.reduceBEq, Nat.reduceLT, Nat.reduceLeDiff, Nat.reduceMod, Nat.reducePow, List.reduceReplicate, UInt8.reduceOfNat, Int.reducePow, Int.reduceDiv, Int.reduceMod, Nat.reduceDiv, Int.reduceNeg, Int.reduceAdd, Int.reduceSub, Int.reduceMul, Int.reduceLE, Int.reduceLT, Int.reduceEq, Int.reduceToNat, reduceCtorEq, -List.reduceReplicate]
            rw [hstep] at hno
            refine Upd.go (H' := (b4, .cells (u8F (fillF f c (n + 1) (k : Nat))) [] 23) :: (b2, .cells (u8F fun _ => 0) [] 23) :: (bR, .cells [sv4, .bool r2.2.1] [] 43) :: H) (by intro fsum; first | exact Nat.le_refl _ | (simp only [List.map_append, List.map_cons, List.map_nil, List.sum_append, List.sum_cons, List.sum_nil, List.cons_append, List.nil_append]; omega)) (Upd.now ⟨q, by omega, _, sv4, hle02.trans (hle3.trans hle4), hno, ?_, ?_, ?_, ?_, hsv4, rfl, ?_⟩)
            · show 256 - (c + (n + 1)) ≤ q; omega
            · show c + (n + 1) ≤ 256; omega
            · show max w (k + 1) ≤ 256; omega
            · show r2.2.2.length ≤ _; omega
            · have hmx : maxI (w : Int) ((k : Nat) + 1) = ((max w (k + 1) : Nat) : Int) := by unfold maxI; split <;> omega
              rw [hmx]; rfl
end Go.Proofs.Ytomdbjfdbkejoaa
