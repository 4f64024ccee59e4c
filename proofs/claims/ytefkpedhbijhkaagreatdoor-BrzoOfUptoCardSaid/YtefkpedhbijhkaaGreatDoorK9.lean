/- A part of the proof, joined of several texts: the verification layer, contracts of functions, plain law. -/
import Derived.Test.YtefkpedhbijhkaaGreatDoorK8
set_option maxHeartbeats 64000000
set_option linter.unusedSimpArgs false
set_option linter.unusedVariables false
set_option linter.unusedSectionVars false
namespace Go.Proofs.YtefkpedhbijhkaaGreatDoor
open Go Go.V Go.Proofs
theorem low_bit (w : Nat) : 0 < w → ∃ t, w.testBit t = true ∧ (∀ j, j < t → w.testBit j = false) ∧ (∀ j, (w &&& (w - 1)).testBit j = (w.testBit j && decide (j ≠ t))) ∧ ∀ N, w < 2 ^ N → w &&& (2 ^ N - w) = 2 ^ t := by
 induction w using Nat.strongRecOn with
 | _ w ih =>
  intro hw
  by_cases ho : w % 2 = 1
  ·refine ⟨0, by rw [Nat.testBit_zero]; simpa using ho, fun j hj => absurd hj (Nat.not_lt_zero _), fun j => ?_, fun N hN => ?_⟩
   ·cases j with
    | zero => rw [Nat.testBit_and, Nat.testBit_zero, Nat.testBit_zero]; simp; omega
    | succ j => rw [Nat.testBit_and, Nat.testBit_succ, Nat.testBit_succ, show (w - 1) / 2 = w / 2 by omega]; simp
   ·cases N with
    | zero => omega
    | succ M =>
     have hp : 2 ^ (M + 1) = 2 * 2 ^ M := by rw [Nat.pow_succ]; omega
     apply Nat.eq_of_testBit_eq
     intro j
     cases j with
     | zero => rw [Nat.testBit_and, Nat.testBit_zero, Nat.testBit_zero]; simp; omega
     | succ j =>
      rw [Nat.testBit_and, Nat.testBit_succ, Nat.testBit_succ, show (2 ^ (M + 1) - w) / 2 = 2 ^ M - (w / 2 + 1) by omega, Nat.testBit_two_pow_sub_succ (by omega)]
      have : (2 ^ 0 : Nat).testBit (j + 1) = false := by rw [Nat.testBit_succ]; simp
      rw [this]
      cases (w / 2).testBit j <;> simp
  ·obtain ⟨t, h1, h2, h3, h4⟩ := ih (w / 2) (by omega) (by omega)
   refine ⟨t + 1, by rw [Nat.testBit_succ]; exact h1, fun j hj => ?_, fun j => ?_, fun N hN => ?_⟩
   ·cases j with
    | zero => rw [Nat.testBit_zero]; simpa using ho
    | succ j => rw [Nat.testBit_succ]; exact h2 j (by omega)
   ·cases j with
    | zero => rw [Nat.testBit_and, Nat.testBit_zero]; simp [ho]
    | succ j =>
     have := h3 j
     rw [Nat.testBit_and] at this ⊢
     rw [Nat.testBit_succ, Nat.testBit_succ, show (w - 1) / 2 = w / 2 - 1 by omega, this]
     congr 1
     rw [decide_eq_decide]; omega
   ·cases N with
    | zero => omega
    | succ M =>
     have hp : 2 ^ (M + 1) = 2 * 2 ^ M := by rw [Nat.pow_succ]; omega
     apply Nat.eq_of_testBit_eq
     intro j
     cases j with
     | zero =>
      rw [Nat.testBit_and, Nat.testBit_zero, Nat.testBit_zero]
      have : 2 ^ (t + 1) % 2 = 0 := by rw [Nat.pow_succ]; omega
      simp [ho, this]
     | succ j =>
      have := h4 M (by omega)
      rw [Nat.testBit_and, Nat.testBit_succ, Nat.testBit_succ, show (2 ^ (M + 1) - w) / 2 = 2 ^ M - w / 2 by omega, ← Nat.testBit_and, this, Nat.testBit_succ, show 2 ^ (t + 1) / 2 = 2 ^ t by rw [Nat.pow_succ]; omega]
def tabL : List Nat := [0, 1, 56, 2, 57, 49, 28, 3, 61, 58, 42, 50, 38, 29, 17, 4, 62, 47, 59, 36, 45, 43, 51, 22, 53, 39, 33, 30, 24, 18, 12, 5, 63, 55, 48, 27, 60, 41, 37, 16, 46, 35, 44, 21, 52, 32, 23, 11, 54, 26, 40, 15, 34, 20, 31, 10, 25, 14, 19, 9, 13, 8, 7, 6]
theorem tab_ok : ∀ t : Fin 64, tabL[(2 ^ t.val * 285870213051353865 % 18446744073709551616) / 288230376151711744]? = some t.val := by decide +kernel
theorem bit_lt {w t : Nat} (h : w < 18446744073709551616) (ht : w.testBit t = true) : t < 64 := by
 rcases Nat.lt_or_ge t 64 with h1 | h1
 ·exact h1
 ·rw [Nat.testBit_lt_two_pow (Nat.lt_of_lt_of_le (show w < 2 ^ 64 from h) (Nat.pow_le_pow_right (by decide) h1))] at ht
  cases ht
def tabV : List Value := tabL.map fun x => Value.int .u8 (x : Nat)
def HasTab (G : PHeap) : Prop := RowAt G 0 0 tabV
theorem HasTab.mono {G G' : PHeap} (h : HasTab G) (hle : PLe G G') : HasTab G' := by
 obtain ⟨c, e, fr, h1, h2, h3⟩ := h
 exact ⟨c, e, fr, hle _ _ h1, h2, h3⟩
theorem tz_t (w t : Nat) (hw : w < 18446744073709551616) (h0 : 0 < w) (ht : t < 64) (hb : w &&& (2 ^ 64 - w) = 2 ^ t) {G : PHeap} {H : Heap} {R : Value → PHeap → Heap → Prop} (hg : HasTab G)
  (hR : R (.int .i64 t) G H) : FnT Tryz.prog 136 [.int .u64 w] G H R := by
 obtain ⟨q, hq⟩ : ∃ q, q = 2 ^ t * 285870213051353865 % 18446744073709551616 / 288230376151711744 := ⟨_, rfl⟩
 have htab := tab_ok ⟨t, ht⟩
 simp only [] at htab
 rw [← hq] at htab
 obtain ⟨hq64, hqv⟩ := List.getElem?_eq_some_iff.1 htab
 have hq2 : q < 64 := hq64
 have hneg : IntKind.u64.wrap (0 - (w : Int)) = ((18446744073709551616 - w : Nat) : Int) := by
  simp only [IntKind.wrap, IntKind.bits, IntKind.signed]; simp; omega
 have hb2 : w &&& (18446744073709551616 - w) = 2 ^ t := hb
 have hx : IntKind.u64.wrap (((2 ^ t : Nat) : Int) * 285870213051353865) / 288230376151711744 = (q : Int) := by
  rw [hq]
  generalize 2 ^ t = z
  simp only [IntKind.wrap, IntKind.bits, IntKind.signed]
  simp
 have hvl : tabV.length = 64 := rfl
 have hget : tabV[q]'(by rw [hvl]; exact hq2) = .int .u8 (t : Nat) := by
  unfold tabV
  rw [List.getElem_map, hqv]
 have hw0 : (w : Int) ≠ 0 := by omega
 refine FnT.body tok [0, 2, 4] Tryz.func136 rfl (by kernel_rfl) (by kernel_rfl) (by show _ ≤ 14; simp) fun hsep => ?_
 rw [Tryz.results136]
 have hsE := hsep
 try simp only [zzs] at hsE
 repeat (obtain ⟨hsx, hsE⟩ := hsE)
 repeat' first
  | (with_reducible first | refine Nx.go ?_ | refine Bk.go (fun _ => ?_) fun _ => ?_)
  | ((with_reducible first | refine NewB.mk2 fun nb hnb hnb1 hnb2 => ?_ | refine NewRow.mk2 fun nb nsp ncap hnb hncap hnb1 hnb2 => ?_); try simp only [zzn] at hnb2)
  | simp -dsimp -implicitDefEqProofs (disch := first | assumption | (simp only [zzm]; done) | omega | (try with_reducible refine Row.adr (by assumption) ?_); simp only [zzl, Nat.reduceAdd]; first | done | omega) only [go_sem, ↓reduceIte, seval, hneg, hb2, hx, RowAt.obj0 hg, hget, hvl]
 all_goals refine Upd.finL ?_ hR ?_
 any_goals (intro fsum; first | exact Nat.le_refl _ | (simp only [zzq]; omega))
 rfl
def elems (n : Nat) (ws : Nat → Nat) : List Nat := (List.range n).filter (mem ws)
theorem elems_skip {ws : Nat → Nat} {a : Nat} : ∀ {b : Nat}, a ≤ b → (∀ i, a ≤ i → i < b → mem ws i = false) → elems b ws = elems a ws
 | b, hab, h => by
  unfold elems
  obtain ⟨d, rfl⟩ := Nat.exists_eq_add_of_le hab
  clear hab
  induction d with
  | zero => rfl
  | succ d ih =>
   rw [show a + (d + 1) = (a + d) + 1 by omega, List.range_succ, List.filter_append, ih fun i h1 h2 => h i h1 (by omega)]
   simp [h (a + d) (by omega) (by omega)]
theorem elems_hit {ws : Nat → Nat} {a : Nat} (h : mem ws a = true) : elems (a + 1) ws = elems a ws ++ [a] := by
 unfold elems; rw [List.range_succ, List.filter_append]; simp [h]
theorem seach1_t (lr bx : Nat) {ws : Nat → Nat} (hw : ∀ k, ws k < 18446744073709551616) {G : PHeap} {HC : Heap} {R : Value → PHeap → Heap → Prop} (hg : HasTab G)
  (J Jx : List Nat → PHeap → Heap → Prop)
  (hY : ∀ x G1 H1, PLe G G1 → Sep G1 (keys ((bx, Res.cells (numsU 4 ws) [] 97) :: H1)) → J (elems x ws) G1 H1 → x < 256 → mem ws x = true → YldT Tryz.prog lr [.int .u8 (x : Nat)] G1 ((bx, .cells (numsU 4 ws) [] 97) :: H1) fun v G2 H2 => ∃ H3, H2 = (bx, .cells (numsU 4 ws) [] 97) :: H3 ∧ ((v = .bool true ∧ J (elems x ws ++ [x]) G2 H3) ∨ (v = .bool false ∧ Jx (elems x ws ++ [x]) G2 H3)))
  (h0 : J [] G HC)
  (hR : ∀ G' H', PLe G G' → Sep G' (keys ((bx, Res.cells (numsU 4 ws) [] 97) :: H')) → (J (elems 256 ws) G' H' ∨ ∃ pre, Jx pre G' H') → R (.tuple #[]) G' ((bx, .cells (numsU 4 ws) [] 97) :: H')) :
  FnT Tryz.prog 135 [.func (.yield lr) #[] #[], .pointer (some ⟨bx, 0, none⟩)] G ((bx, .cells (numsU 4 ws) [] 97) :: HC) R := by
 have hl := numsU_len 4 ws
 refine FnT.body tok [0, 1, 3, 4, 5, 6, 7, 11, 24] Tryz.func135 rfl (by kernel_rfl) (by kernel_rfl) (by show _ ≤ 26; simp) fun hsep => ?_
 rw [Tryz.results135]
 have hsE := hsep
 try simp only [zzs] at hsE
 repeat (obtain ⟨hsx, hsE⟩ := hsE)
 repeat' first
  | (with_reducible first | refine Nx.go ?_ | refine Bk.go (fun _ => ?_) fun _ => ?_)
  | ((with_reducible first | refine NewB.mk2 fun nb hnb hnb1 hnb2 => ?_ | refine NewRow.mk2 fun nb nsp ncap hnb hncap hnb1 hnb2 => ?_); try simp only [zzn] at hnb2)
  | simp -dsimp -implicitDefEqProofs (disch := first | assumption | (simp only [zzm]; done) | omega | (try with_reducible refine Row.adr (by assumption) ?_); simp only [zzl, Nat.reduceAdd]; first | done | omega) only [go_sem, ↓reduceIte, seval, numsU_all, List.toList_toArray, hl]
 refine Tri.loopU tok [0, 1, 3, 4, 5, 6, 7, 11, 24] (by kernel_rfl) [0, 1, 5, 6] (fun q G' fr H' => ∃ (k : Nat) (H1 : Heap), k + q = 4 ∧ PLe G G' ∧ J (elems (k * 64) ws) G' H1 ∧ H' = (bx, .cells (numsU 4 ws) [] 97) :: H1 ∧ fr = [(0, .func (.yield lr) #[] #[]), (1, .pointer (some ⟨bx, 0, none⟩)), (5, .agg (numsU 4 ws).toArray), (6, .int .i64 k)]) (4) ?_ ?_
 ·exact Upd.now ⟨0, HC, by omega, PLe.refl _, h0, rfl, rfl⟩
 ·rintro q G1 fr H' hle hs ⟨k, H1, hk, hle1, hJ, rfl, rfl⟩
  have hsE := hs
  try simp only [zzs] at hsE
  repeat (obtain ⟨hsx, hsE⟩ := hsE)
  by_cases hkn : k < 4
  ·have hwk := hw k
   have hget2 : (numsU 4 ws)[k]? = some (.int .u64 (ws k)) := by rw [List.getElem?_eq_getElem (by rw [hl]; exact hkn), numsU_at]
   repeat' first
    | (with_reducible first | refine Nx.go ?_ | refine Bk.go (fun _ => ?_) fun _ => ?_)
    | ((with_reducible first | refine NewB.mk2 fun nb hnb hnb1 hnb2 => ?_ | refine NewRow.mk2 fun nb nsp ncap hnb hncap hnb1 hnb2 => ?_); try simp only [zzn] at hnb2)
    | simp -dsimp -implicitDefEqProofs (disch := first | assumption | (simp only [zzm]; done) | omega | (try with_reducible refine Row.adr (by assumption) ?_); simp only [zzl, Nat.reduceAdd]; first | done | omega) only [go_sem, ↓reduceIte, seval, hl, hget2, partL, List.toList_toArray]
   refine Tri.loopU tok [0, 1, 3, 4, 5, 6, 7, 11, 24] (by kernel_rfl) [0, 1, 3, 4, 5, 6] (fun q2 G' fr H' => ∃ (p w : Nat) (H2 : Heap), p + q2 = 64 ∧ w < 18446744073709551616 ∧ (∀ j, w.testBit j = ((ws k).testBit j && decide (p ≤ j))) ∧ PLe G G' ∧ J (elems (k * 64 + p) ws) G' H2 ∧ H' = (bx, .cells (numsU 4 ws) [] 97) :: H2 ∧ fr = [(0, .func (.yield lr) #[] #[]), (1, .pointer (some ⟨bx, 0, none⟩)), (3, .int .i64 k), (4, .int .u64 w), (5, .agg (numsU 4 ws).toArray), (6, .int .i64 k)]) (64) ?_ ?_
   ·exact Upd.now ⟨0, ws k, H1, by omega, hwk, fun j => by simp, hle1, hJ, rfl, rfl⟩
   ·rintro q2 G2 fr H' hle2 hs2 ⟨p, w, H2, hp, hwl, hwb, hle3, hJ2, rfl, rfl⟩
    have hg2 := hg.mono hle3
    by_cases hw0 : w = 0
    ·subst hw0
     have hnone : ∀ i, k * 64 + p ≤ i → i < (k + 1) * 64 → mem ws i = false := fun i h1 h2 => by
      have hb := hwb (i - k * 64)
      rw [Nat.zero_testBit, decide_eq_true (by omega), Bool.and_true] at hb
      rw [show i = k * 64 + (i - k * 64) by omega, mem_at _ _ _ (by omega)]
      exact hb.symm
     have he := elems_skip (b := (k + 1) * 64) (by omega) hnone
     rw [← he] at hJ2
     repeat' first
      | (with_reducible first | refine Nx.go ?_ | refine Bk.go (fun _ => ?_) fun _ => ?_)
      | ((with_reducible first | refine NewB.mk2 fun nb hnb hnb1 hnb2 => ?_ | refine NewRow.mk2 fun nb nsp ncap hnb hncap hnb1 hnb2 => ?_); try simp only [zzn] at hnb2)
      | simp -dsimp -implicitDefEqProofs (disch := first | assumption | (simp only [zzm]; done) | omega | (try with_reducible refine Row.adr (by assumption) ?_); simp only [zzl, Nat.reduceAdd]; first | done | omega) only [go_sem, ↓reduceIte, seval]
     exact Upd.now ⟨q - 1, by omega, k + 1, H2, by omega, hle3, hJ2, rfl, rfl⟩
    ·obtain ⟨t, ht1, ht2, ht3, ht4⟩ := low_bit w (by omega)
     have ht64 := bit_lt hwl ht1
     have hbt := hwb t
     rw [ht1] at hbt
     simp only [Bool.true_eq, Bool.and_eq_true, decide_eq_true_eq] at hbt
     have hmem : mem ws (k * 64 + t) = true := by rw [mem_at _ _ _ ht64]; exact hbt.1
     have hlt : k * 64 + t < 256 := by omega
     have hskip : elems (k * 64 + t) ws = elems (k * 64 + p) ws := elems_skip (by omega) fun i h1 h2 => by
      have hb := hwb (i - k * 64)
      rw [ht2 _ (by omega), decide_eq_true (by omega), Bool.and_true] at hb
      rw [show i = k * 64 + (i - k * 64) by omega, mem_at _ _ _ (by omega)]
      exact hb.symm
     have hhit := elems_hit hmem
     have hcast : ((k : Int) * 64 + t) = ((k * 64 + t : Nat) : Int) := by simp
     have hw1 : ((w : Int) - 1).toNat = w - 1 := by omega
     have hws : w &&& (w - 1) < 18446744073709551616 := Nat.lt_of_le_of_lt Nat.and_le_left hwl
     have hw0' : (w : Int) ≠ 0 := by omega
     repeat' first
      | (with_reducible first | refine Nx.go ?_ | refine Bk.go (fun _ => ?_) fun _ => ?_)
      | ((with_reducible first | refine NewB.mk2 fun nb hnb hnb1 hnb2 => ?_ | refine NewRow.mk2 fun nb nsp ncap hnb hncap hnb1 hnb2 => ?_); try simp only [zzn] at hnb2)
      | simp -dsimp -implicitDefEqProofs (disch := first | assumption | (simp only [zzm]; done) | omega | (try with_reducible refine Row.adr (by assumption) ?_); simp only [zzl, Nat.reduceAdd]; first | done | omega) only [go_sem, ↓reduceIte, seval, hw1]
      | with_reducible refine tz_t w t hwl (by omega) ht64 (ht4 64 hwl) hg2 ?_
     rw [hcast]
     rw [← hskip] at hJ2
     refine YldT.mono (hY (k * 64 + t) G2 H2 hle3 hs2 hJ2 hlt hmem) ?_
     rintro v G3 H3' hle4 hs4 ⟨H3, rfl, ⟨rfl, hJ3⟩ | ⟨rfl, hJ3⟩⟩
     ·rw [← hhit] at hJ3
      repeat' first
       | (with_reducible first | refine Nx.go ?_ | refine Bk.go (fun _ => ?_) fun _ => ?_)
       | ((with_reducible first | refine NewB.mk2 fun nb hnb hnb1 hnb2 => ?_ | refine NewRow.mk2 fun nb nsp ncap hnb hncap hnb1 hnb2 => ?_); try simp only [zzn] at hnb2)
       | simp -dsimp -implicitDefEqProofs (disch := first | assumption | (simp only [zzm]; done) | omega | (try with_reducible refine Row.adr (by assumption) ?_); simp only [zzl, Nat.reduceAdd]; first | done | omega) only [go_sem, ↓reduceIte, seval, hw1]
      exact Upd.now ⟨64 - (t + 1), by omega, t + 1, w &&& (w - 1), H3, by omega, hws, fun j => by
       rw [ht3]
       rcases Nat.lt_trichotomy j t with h | h | h
       ·rw [ht2 j h, decide_eq_false (show ¬ t + 1 ≤ j by omega)]; simp
       ·subst h; rw [decide_eq_false (show ¬ j + 1 ≤ j by omega)]; simp
       ·rw [hwb, decide_eq_true (show p ≤ j by omega), decide_eq_true (show j ≠ t by omega), decide_eq_true (show t + 1 ≤ j by omega)]; simp, hle3.trans hle4, hJ3, rfl, rfl⟩
     ·repeat' first
       | (with_reducible first | refine Nx.go ?_ | refine Bk.go (fun _ => ?_) fun _ => ?_)
       | ((with_reducible first | refine NewB.mk2 fun nb hnb hnb1 hnb2 => ?_ | refine NewRow.mk2 fun nb nsp ncap hnb hncap hnb1 hnb2 => ?_); try simp only [zzn] at hnb2)
       | simp -dsimp -implicitDefEqProofs (disch := first | assumption | (simp only [zzm]; done) | omega | (try with_reducible refine Row.adr (by assumption) ?_); simp only [zzl, Nat.reduceAdd]; first | done | omega) only [go_sem, ↓reduceIte, seval]
      all_goals refine Upd.finL ?_ (hR G3 H3 (hle3.trans hle4) hs4 (.inr ⟨_, hJ3⟩)) ?_
      any_goals (intro fsum; first | exact Nat.le_refl _ | (simp only [zzq]; omega))
      rfl
  ·obtain rfl : k = 4 := by omega
   repeat' first
    | (with_reducible first | refine Nx.go ?_ | refine Bk.go (fun _ => ?_) fun _ => ?_)
    | ((with_reducible first | refine NewB.mk2 fun nb hnb hnb1 hnb2 => ?_ | refine NewRow.mk2 fun nb nsp ncap hnb hncap hnb1 hnb2 => ?_); try simp only [zzn] at hnb2)
    | simp -dsimp -implicitDefEqProofs (disch := first | assumption | (simp only [zzm]; done) | omega | (try with_reducible refine Row.adr (by assumption) ?_); simp only [zzl, Nat.reduceAdd]; first | done | omega) only [go_sem, ↓reduceIte, seval]
   all_goals refine Upd.finL ?_ (hR G1 H1 hle1 hs (.inl hJ)) ?_
   any_goals (intro fsum; first | exact Nat.le_refl _ | (simp only [zzq]; omega))
   rfl
theorem calleeEach : V.Callee Tryz.prog 135 := ⟨_, _, Tryz.func135, rfl, by kernel_rfl⟩
theorem seach_t {ws : Nat → Nat} {G : PHeap} {H : Heap} {R : Value → PHeap → Heap → Prop} (hR : ∀ bx, Sep G (bx :: keys H) → R (.func (.func 135) #[] #[.pointer (some ⟨bx, 0, none⟩)]) G ((bx, .cells (numsU 4 ws) [] 97) :: H)) : FnT Tryz.prog 111 [.agg (numsU 4 ws).toArray] G H R := by
 have hl := numsU_len 4 ws
 refine FnT.body tok [0, 1, 2] Tryz.func111 rfl (by kernel_rfl) (by kernel_rfl) (by show _ ≤ 4; simp) fun hsep => ?_
 rw [Tryz.results111]
 have hsE := hsep
 try simp only [zzs] at hsE
 repeat (obtain ⟨hsx, hsE⟩ := hsE)
 repeat' first
  | (with_reducible first | refine Nx.go ?_ | refine Bk.go (fun _ => ?_) fun _ => ?_)
  | (with_reducible refine NewB.mk2 fun nb hnb hnb1 hnb2 => ?_; try simp only [zzn] at hnb2)
  | simp -dsimp -implicitDefEqProofs (disch := first | assumption | (simp only [zzm]; done) | omega | (try with_reducible refine Row.adr (by assumption) ?_); simp only [zzl, Nat.reduceAdd]; first | done | omega) only [go_sem, ↓reduceIte, seval, hl, numsU_all, numsU_one, numsU_over, numsU_over4, List.toList_toArray]
 exact Upd.fin (hR nb hnb) rfl
theorem sleast_t {ws : Nat → Nat} (hw : ∀ k, ws k < 18446744073709551616) {x : Nat} (hx : x < 256) (hm : mem ws x = true) (hmin : ∀ y, y < x → mem ws y = false) {G : PHeap} {H : Heap} {R : Value → PHeap → Heap → Prop} (hg : HasTab G)
  (hR : R (.int .i64 (x : Nat)) G H) : FnT Tryz.prog 81 [.agg (numsU 4 ws).toArray] G H R := by
 have hl := numsU_len 4 ws
 refine FnT.body tok [0, 1, 2, 3, 5, 6] Tryz.func81 rfl (by kernel_rfl) (by kernel_rfl) (by show _ ≤ 9; simp) fun hsep => ?_
 rw [Tryz.results81]
 have hsE := hsep
 try simp only [zzs] at hsE
 repeat (obtain ⟨hsx, hsE⟩ := hsE)
 repeat' first
  | (with_reducible first | refine Nx.go ?_ | refine Bk.go (fun _ => ?_) fun _ => ?_)
  | ((with_reducible first | refine NewB.mk2 fun nb hnb hnb1 hnb2 => ?_ | refine NewRow.mk2 fun nb nsp ncap hnb hncap hnb1 hnb2 => ?_); try simp only [zzn] at hnb2)
  | simp -dsimp -implicitDefEqProofs (disch := first | assumption | (simp only [zzm]; done) | omega | (try with_reducible refine Row.adr (by assumption) ?_); simp only [zzl, Nat.reduceAdd]; first | done | omega) only [go_sem, ↓reduceIte, seval, hl, numsU_all, numsU_one, numsU_over, numsU_over4, List.toList_toArray]
 rename_i b1 hb1 hb11 hb12
 revert nb
 intro b2 hb2 hb21 hb22
 refine seach_t fun bx hbx => ?_
 repeat' first
  | (with_reducible first | refine Nx.go ?_ | refine Bk.go (fun _ => ?_) fun _ => ?_)
  | ((with_reducible first | refine NewB.mk2 fun nb hnb hnb1 hnb2 => ?_ | refine NewRow.mk2 fun nb nsp ncap hnb hncap hnb1 hnb2 => ?_); try simp only [zzn] at hnb2)
  | simp -dsimp -implicitDefEqProofs (disch := first | assumption | (simp only [zzm]; done) | omega | (try with_reducible refine Row.adr (by assumption) ?_); simp only [zzl, Nat.reduceAdd]; first | done | omega) only [go_sem, ↓reduceIte, seval]
 refine Tri.rangeF2 tok [0, 1, 2, 3, 5, 6] rfl calleeEach (by kernel_rfl) fun lr Rr Rb hlr yl => ?_
 have hsE := hlr
 try simp only [zzs] at hsE
 repeat (obtain ⟨hsx, hsE⟩ := hsE)
 refine FnT.leave (H' := (bx, .cells (numsU 4 ws) [] 97) :: (lr, Rr .normal) :: (b2, .cells [.int .i64 0] [] 3) :: (b1, .cells (numsU 4 ws) [] 97) :: H) ?_ (by intro fsum; first | exact Nat.le_refl _ | (simp only [zzq]; omega))
 refine seach1_t lr bx hw hg (fun pre G' H' => G' = G ∧ pre = [] ∧ H' = (lr, Rr .normal) :: (b2, .cells [.int .i64 0] [] 3) :: (b1, .cells (numsU 4 ws) [] 97) :: H) (fun pre G' H' => G' = G ∧ H' = (lr, Rr .ret) :: (b2, .cells [.int .i64 (x : Nat)] [] 3) :: (b1, .cells (numsU 4 ws) [] 97) :: H) ?_ ⟨rfl, rfl, rfl⟩ ?_
 ·rintro y _ _ hle1 hs1 ⟨rfl, hpre, rfl⟩ hy hm1
  have hsE := hs1
  try simp only [zzs] at hsE
  repeat (obtain ⟨hsx, hsE⟩ := hsE)
  obtain rfl : y = x := by
   rcases Nat.lt_trichotomy y x with h | h | h
   ·rw [hmin y h] at hm1; cases hm1
   ·exact h
   ·have hin : x ∈ elems y ws := List.mem_filter.2 ⟨List.mem_range.2 h, hm⟩
    rw [hpre] at hin; cases hin
  refine yl rfl ?_ ?_
  ·simp -dsimp -implicitDefEqProofs (disch := first | assumption | (simp only [zzm]; done) | omega | (try with_reducible refine Row.adr (by assumption) ?_); simp only [zzl, Nat.reduceAdd]; first | done | omega) only [go_sem, ↓reduceIte, seval]
  ·repeat' first
    | (with_reducible first | refine Nx.go ?_ | refine Bk.go (fun _ => ?_) fun _ => ?_)
    | ((with_reducible first | refine NewB.mk2 fun nb hnb hnb1 hnb2 => ?_ | refine NewRow.mk2 fun nb nsp ncap hnb hncap hnb1 hnb2 => ?_); try simp only [zzn] at hnb2)
    | simp -dsimp -implicitDefEqProofs (disch := first | assumption | (simp only [zzm]; done) | omega | (try with_reducible refine Row.adr (by assumption) ?_); simp only [zzl, Nat.reduceAdd]; first | done | omega) only [go_sem, ↓reduceIte, seval]
   exact ⟨_, rfl, .inr rfl⟩
 ·rintro _ _ hle1 hs1 (⟨rfl, hpre, rfl⟩ | ⟨_, rfl, rfl⟩)
  ·have hin : x ∈ elems 256 ws := List.mem_filter.2 ⟨List.mem_range.2 hx, hm⟩
   rw [hpre] at hin; cases hin
  ·have hsE := hs1
   try simp only [zzs] at hsE
   repeat (obtain ⟨hsx, hsE⟩ := hsE)
   refine ⟨.ret, ?_, ?_⟩
   ·simp -dsimp -implicitDefEqProofs (disch := first | assumption | (simp only [zzm]; done) | omega | (try with_reducible refine Row.adr (by assumption) ?_); simp only [zzl, Nat.reduceAdd]; first | done | omega) only [go_sem, ↓reduceIte, seval]
   ·repeat' first
     | (with_reducible first | refine Nx.go ?_ | refine Bk.go (fun _ => ?_) fun _ => ?_)
     | ((with_reducible first | refine NewB.mk2 fun nb hnb hnb1 hnb2 => ?_ | refine NewRow.mk2 fun nb nsp ncap hnb hncap hnb1 hnb2 => ?_); try simp only [zzn] at hnb2)
     | simp -dsimp -implicitDefEqProofs (disch := first | assumption | (simp only [zzm]; done) | omega | (try with_reducible refine Row.adr (by assumption) ?_); simp only [zzl, Nat.reduceAdd]; first | done | omega) only [go_sem, ↓reduceIte, seval]
    all_goals refine Upd.finL ?_ hR ?_
    any_goals (intro fsum; first | exact Nat.le_refl _ | (simp only [zzq]; omega))
    rfl
end Go.Proofs.YtefkpedhbijhkaaGreatDoor
namespace Go.Proofs.YtefkpedhbijhkaaGreatDoor
open Go Go.V Go.Proofs
theorem splice_flat (W : List (Nat → Nat)) {k : Nat} (hk : k < W.length) (ws : Nat → Nat) : splice (W.flatMap numsOf) (k * 4) (numsU 4 ws) = (W.set k ws).flatMap numsOf := by
 have hd := flatMap_drop (enc := numsOf) (m := 4) numsOf_len W (k + 1)
 have hl := numsU_len 4 ws
 have ht : ∀ (V : List (Nat → Nat)) (i : Nat), (V.flatMap numsOf).take (i * 4) = (V.take i).flatMap numsOf := by
  intro V
  induction V with
  | nil => intro i; simp
  | cons v V ih =>
   intro i
   cases i with
   | zero => simp
   | succ i =>
    rw [List.flatMap_cons, List.take_succ_cons, List.flatMap_cons, show (i + 1) * 4 = (numsOf v).length + i * 4 by rw [numsOf_len]; omega, List.take_length_add_append, ih]
 unfold splice
 rw [ht, hl, show k * 4 + 4 = (k + 1) * 4 by omega, hd, List.set_eq_take_append_cons_drop, if_pos hk, List.flatMap_append, List.flatMap_cons]
 simp [numsOf]
def SetsTo (l : List Int) (c : Nat) (W : List (Nat → Nat)) : Prop :=
 W.length = (tabO l).length ∧ (∀ ws ∈ W, ∀ k, ws k < 18446744073709551616) ∧ ∀ i d (hi : i < W.length), mem W[i] d = decide (d < c ∧ nD l d = i)
theorem SetsTo.all {l : List Int} (hl : l.length = 256) {W : List (Nat → Nat)} (h : SetsTo l 256 W) : SetsOf l 256 W := by
 obtain ⟨h1, h2, h3⟩ := h
 have hlt : l.take 256 = l := List.take_of_length_le (by omega)
 unfold SetsOf
 simp only [hlt]
 refine ⟨h1, h2, fun i d hi hd h4 => ?_⟩
 rw [h3 i d hi]
 refine decide_eq_decide.2 ?_
 rw [class_iff hd h4]
 exact ⟨fun h => h.2, fun h => ⟨by omega, h⟩⟩
theorem SetsTo.zero (l : List Int) : SetsTo l 0 (List.replicate (tabO l).length fun _ => 0) := by
 refine ⟨List.length_replicate, fun ws hws k => ?_, fun i d hi => ?_⟩
 ·rw [(List.mem_replicate.1 hws).2]; exact Nat.zero_lt_succ _
 ·rw [List.getElem_replicate, mem_none, decide_eq_false (by omega)]
theorem SetsTo.succ {l : List Int} (hl : l.length = 256) {c : Nat} (hc : c < 256) {W : List (Nat → Nat)} (h : SetsTo l c W) {n : Nat} (hn : nD l c = n) (hnl : n < W.length) : SetsTo l (c + 1) (W.set n (uacc [W[n], oneW c])) := by
 obtain ⟨h1, h2, h3⟩ := h
 have hb : ∀ f ∈ [W[n], oneW c], ∀ k, f k < 18446744073709551616 := fun f hf k => by
  rcases List.mem_cons.1 hf with h | h
  ·rw [h]; exact h2 _ (List.getElem_mem hnl) k
  ·rw [List.mem_singleton.1 h]; exact oneW_lt c k
 refine ⟨by rw [List.length_set]; exact h1, fun ws hws k => ?_, fun i d hi => ?_⟩
 ·rcases List.mem_or_eq_of_mem_set hws with h | h
  ·exact h2 _ h k
  ·rw [h]; exact uacc_lt hb k
 ·rw [List.length_set] at hi
  rw [List.getElem_set]
  by_cases e : n = i
  ·subst e
   rw [if_pos rfl]
   have hu : uacc [W[n], oneW c] = twoW W[n] (oneW c) := by funext k; show 0 ||| _ ||| _ = _; rw [Nat.zero_or]; rfl
   rw [hu, twoW_mem, oneW_mem, h3 n d hnl, Bool.eq_iff_iff]
   simp only [Bool.or_eq_true, decide_eq_true_eq]
   constructor
   ·rintro (⟨q1, q2⟩ | q)
    ·exact ⟨by omega, q2⟩
    ·subst q; exact ⟨by omega, hn⟩
   ·rintro ⟨q1, q2⟩
    by_cases e : d = c
    ·exact .inr e
    ·exact .inl ⟨by omega, q2⟩
  ·rw [if_neg e, h3 i d hi]
   refine decide_eq_decide.2 ⟨fun q => ⟨by omega, q.2⟩, fun q => ⟨?_, q.2⟩⟩
   rcases Nat.lt_or_ge d c with q1 | q1
   ·exact q1
   ·obtain rfl : d = c := by omega
    rw [hn] at q; omega
theorem rep_zero4 (n : Nat) : rep n [Value.int .u64 0, Value.int .u64 0, Value.int .u64 0, Value.int .u64 0] = (List.replicate n (fun _ : Nat => 0)).flatMap numsOf := by
 induction n with
 | zero => rfl
 | succ n ih =>
  rw [List.replicate_succ, List.flatMap_cons, ← ih]
  rfl
theorem psets_t {l : List Int} (hl : l.length = 256) {G : PHeap} {H : Heap} {R : Value → PHeap → Heap → Prop}
  (hR : ∀ G' v' W, PLe G G' → Sep G' (keys H) → SlM G' numsOf v' W → SetsOf l 256 W → R v' G' H) : FnT Tryz.prog 80 [agg8 l] G H R := by
 have hu8 : (u8L l).length = 256 := by rw [List.length_map, hl]
 have htk : List.take 256 (u8L l) = u8L l := List.take_of_length_le (by omega)
 have hnl : (nums l).length = 256 := by rw [nums_len, hl]
 have hu9 : (u8L (nums l)).length = 256 := by rw [List.length_map, hnl]
 have htk9 : List.take 256 (u8L (nums l)) = u8L (nums l) := List.take_of_length_le (by omega)
 have hno1 : ∀ l : List Int, (u8L l).all oneV = true := fun l => by rw [List.all_map]; exact List.all_eq_true.2 fun _ _ => rfl
 have hov : ∀ f : Nat → Int, splice (u8F f) 0 (u8L (nums l)) = u8L (nums l) := fun f => by rw [← u8F_nums hl, u8F_over]
 have htl := tabO_len l
 refine FnT.sep ?_
 refine FnT.body tok [0, 1, 2, 3, 4, 5, 6, 7, 15, 16] Tryz.func80 rfl (by kernel_rfl) (by kernel_rfl) (by show _ ≤ 36; simp) fun hsep => ?_
 rw [Tryz.results80]
 have hsE := hsep
 try simp only [zzs] at hsE
 repeat (obtain ⟨hsx, hsE⟩ := hsE)
 repeat' first
  | (with_reducible first | refine Nx.go ?_ | refine Bk.go (fun _ => ?_) fun _ => ?_)
  | ((with_reducible first | refine NewB.mk2 fun nb hnb hnb1 hnb2 => ?_ | refine NewRow.mk2 fun nb nsp ncap hnb hncap hnb1 hnb2 => ?_); try simp only [zzn] at hnb2)
  | simp -dsimp -implicitDefEqProofs (disch := first | assumption | (simp only [zzm]; done) | omega | (try with_reducible refine Row.adr (by assumption) ?_); simp only [zzl, Nat.reduceAdd]; first | done | omega) only [go_sem, ↓reduceIte, seval, -List.reduceReplicate, List.toList_toArray, u8F_zero, u8F_len, hu8, htk]
  | with_reducible refine pnorm_t hl ?_
 rename_i b1 hb1 hb11 hb12 b3 hb3 hb31 hb32
 revert nb
 intro b5 hb5 hb51 hb52
 rw [hov, rep_zero4, Nat.sub_self, show rep 0 [Value.int .u64 0, Value.int .u64 0, Value.int .u64 0, Value.int .u64 0] = [] from rfl]
 refine Tri.loopU tok [0, 1, 2, 3, 4, 5, 6, 7, 15, 16] (by kernel_rfl) [2, 3, 5, 15] (fun q G' fr H' => ∃ (c : Nat) (W : List (Nat → Nat)), c + q = 256 ∧ G' = G ∧ SetsTo l c W ∧ H' = (b5, .cells (W.flatMap numsOf) [] 97) :: (b3, .cells (u8L (nums l)) [] 22) :: (b1, .cells (u8L l) [] 22) :: H ∧ fr = [(2, .slice none 0 0), (3, .pointer (some ⟨b3, 0, none⟩)), (5, .slice (some ⟨b5, 0, none⟩) (tabO l).length (tabO l).length), (15, .int .i64 (c : Nat))]) (256) ?_ ?_
 ·exact Upd.now ⟨0, _, by omega, rfl, SetsTo.zero l, rfl, rfl⟩
 ·rintro q G1 fr H' hle hs ⟨c, W, hc, rfl, hW, rfl, rfl⟩
  have hsE := hs
  try simp only [zzs] at hsE
  repeat (obtain ⟨hsx, hsE⟩ := hsE)
  obtain ⟨hW1, hW2, hW3⟩ := id hW
  have hfl := flatMap_len (enc := numsOf) (m := 4) numsOf_len W
  by_cases hcl : c < 256
  ·obtain ⟨q1, q2⟩ := nums_bound (List.getElem_mem (l := nums l) (n := c) (by omega))
   obtain ⟨n, hn⟩ := Int.eq_ofNat_of_zero_le q1
   have hnW : n < W.length := by omega
   have hnd : nD l c = n := by unfold nD; rw [List.getD_eq_getElem?_getD, List.getElem?_eq_getElem (by omega), ← hn]; rfl
   have hget := u8_get (l := nums l) (i := c) (by omega) []
   rw [List.append_nil, hn] at hget
   have hget2 := flatMap_get (enc := numsOf) (m := 4) numsOf_len W n hnW
   have hget3 : List.take 4 (List.drop (n * 4) (W.flatMap numsOf)) = numsU 4 W[n] := hget2
   have hmul : (n + 1) * 4 ≤ W.length * 4 := Nat.mul_le_mul_right _ hnW
   have hc8 : IntKind.u8.wrap (c : Int) = (c : Int) := u8_wrap hcl
   have hS := hW.succ hl hcl hnd hnW
   have hr1 : ∀ v : Value, List.replicate 1 v = [v] := fun _ => rfl
   have hr8 : ∀ v : Value, List.replicate 8 v = [v, v, v, v, v, v, v, v] := fun _ => rfl
   have hl4 := numsU_len 4
   obtain ⟨Z, hZ⟩ : ∃ Z, Z = rep 2 [Value.int .u64 0, Value.int .u64 0, Value.int .u64 0, Value.int .u64 0] := ⟨_, rfl⟩
   have hZl : Z.length = 8 := by rw [hZ]; rfl
   have hspl1 : ∀ f, splice Z 0 (numsU 4 f) = numsU 4 f ++ Z.drop 4 := fun f => by unfold splice; rw [List.take_zero, List.nil_append, hl4]
   have hspl2 : ∀ f g, splice (numsU 4 f ++ Z.drop 4) 4 (numsU 4 g) = [f, g].flatMap numsOf := fun f g => by
    unfold splice
    rw [List.take_append_of_le_length (by rw [hl4]; omega), List.take_of_length_le (by rw [hl4]; omega), List.drop_of_length_le (by rw [List.length_append, hl4, hl4, List.length_drop, hZl]; omega)]
    simp [numsOf]
   have hspll : ∀ f, (numsU 4 f ++ Z.drop 4).length = 8 := fun f => by rw [List.length_append, hl4, List.length_drop, hZl]
   repeat' first
    | (with_reducible first | refine Nx.go ?_ | refine Bk.go (fun _ => ?_) fun _ => ?_)
    | ((with_reducible first | refine NewB.mk2 fun nb hnb hnb1 hnb2 => ?_ | refine NewRow.mk2 fun nb nsp ncap hnb hncap hnb1 hnb2 => ?_); try simp only [zzn] at hnb2)
    | simp -dsimp -implicitDefEqProofs (disch := first | assumption | (simp only [zzm]; done) | omega | (try with_reducible refine Row.adr (by assumption) ?_); simp only [zzl, Nat.reduceAdd]; first | done | omega) only [go_sem, ↓reduceIte, seval, -List.reduceReplicate, hr1, List.toList_toArray, hu9, hget, hfl, hget3, hl4, hc8, numsU_one, Int.toNat_natCast]
    | with_reducible refine Tri.drawS tok mixed [0, 1, 2, 3, 4, 5, 6, 7, 15, 16] 7 [5] (.op 0 .plain (.op 1 .plain (.op 2 .plain (.op 3 .plain (.op 4 .plain (.op 5 .held (.op 6 .plain (.op 7 .plain (.op 8 .keeps (.op 9 .keeps (.op 10 .plain (.op 11 .keeps (.op 12 .plain (.op 13 .plain .nil)))))))))))))) (by kernel_rfl) [(b5, .cells (W.flatMap numsOf) [] 97)] (by intro fsum; first | exact Nat.le_refl _ | (simp only [zzq]; omega)) ?_
   refine sof_t (e := 5) hcl hnb1 (by simp [findH]) ?_
   repeat' first
    | (with_reducible first | refine Nx.go ?_ | refine Bk.go (fun _ => ?_) fun _ => ?_)
    | ((with_reducible first | refine NewB.mk2 fun nb hnb hnb1 hnb2 => ?_ | refine NewRow.mk2 fun nb nsp ncap hnb hncap hnb1 hnb2 => ?_); try simp only [zzn] at hnb2)
    | simp -dsimp -implicitDefEqProofs (disch := first | assumption | (simp only [zzm]; done) | omega | (try with_reducible refine Row.adr (by assumption) ?_); simp only [zzl, Nat.reduceAdd]; first | done | omega) only [go_sem, ↓reduceIte, seval, -List.reduceReplicate, hr1, hr8, List.toList_toArray, hu9, hget, hfl, hget3, hl4, hc8, numsU_one, Int.toNat_natCast, ← hZ, hZl, hspl1, hspll, hspl2]
   refine sunion_t (l := [W[n], oneW c]) (e := 97) (sp := []) (by simp) (fun f hf => ?_) (by assumption) (by simp [findH]) ?_
   ·rcases List.mem_cons.1 hf with h | h
    ·rw [h]; exact hW2 _ (List.getElem_mem hnW)
    ·rw [List.mem_singleton.1 h]; exact oneW_lt c
   have hfl2 := flatMap_len (enc := numsOf) (m := 4) numsOf_len (W.set n (uacc [W[n], oneW c]))
   have hspf := splice_flat W hnW (uacc [W[n], oneW c])
   repeat' first
    | (with_reducible first | refine Nx.go ?_ | refine Bk.go (fun _ => ?_) fun _ => ?_)
    | ((with_reducible first | refine NewB.mk2 fun nb hnb hnb1 hnb2 => ?_ | refine NewRow.mk2 fun nb nsp ncap hnb hncap hnb1 hnb2 => ?_); try simp only [zzn] at hnb2)
    | simp -dsimp -implicitDefEqProofs (disch := first | assumption | (simp only [zzm]; done) | omega | (try with_reducible refine Row.adr (by assumption) ?_); simp only [zzl, Nat.reduceAdd]; first | done | omega) only [go_sem, ↓reduceIte, seval, -List.reduceReplicate, List.toList_toArray, hfl, hl4, numsU_one, hspf]
   exact Upd.go (H' := (b5, .cells ((W.set n (uacc [W[n], oneW c])).flatMap numsOf) [] 97) :: (b3, .cells (u8L (nums l)) [] 22) :: (b1, .cells (u8L l) [] 22) :: H) (by intro fsum; first | exact Nat.le_refl _ | (simp only [zzq]; omega)) (Upd.now ⟨q - 1, by omega, c + 1, _, by omega, rfl, hS, rfl, rfl⟩)
  ·obtain rfl : c = 256 := by omega
   repeat' first
    | (with_reducible first | refine Nx.go ?_ | refine Bk.go (fun _ => ?_) fun _ => ?_)
    | ((with_reducible first | refine NewB.mk2 fun nb hnb hnb1 hnb2 => ?_ | refine NewRow.mk2 fun nb nsp ncap hnb hncap hnb1 hnb2 => ?_); try simp only [zzn] at hnb2)
    | simp -dsimp -implicitDefEqProofs (disch := first | assumption | (simp only [zzm]; done) | omega | (try with_reducible refine Row.adr (by assumption) ?_); simp only [zzl, Nat.reduceAdd]; first | done | omega) only [go_sem, ↓reduceIte, seval, -List.reduceReplicate]
   unfold UpdR
   refine Upd.go (H' := (b5, .cells (W.flatMap numsOf) [] 97) :: H) (by intro fsum; first | exact Nat.le_refl _ | (simp only [zzq]; omega)) (Upd.shareRow (by assumption) fun G2 hle2 hs2 hr2 => ?_)
   exact fun _ hs => hR G2 _ W hle2 hs ⟨some ⟨b5, 0, none⟩, _, by rw [hW1], hr2, by omega⟩ (hW.all hl)
end Go.Proofs.YtefkpedhbijhkaaGreatDoor
namespace Go.Proofs.YtefkpedhbijhkaaGreatDoor
open Go Go.V Go.Proofs
def leastL (l : List Int) : List Int := (tabO l).map (findF l)
theorem leastL_len (l : List Int) : (leastL l).length = (tabO l).length := by simp [leastL]
theorem least_at {l : List Int} (hl : l.length = 256) {W : List (Nat → Nat)} (hW : SetsOf l 256 W) {i : Nat} (hi : i < W.length) : ∃ (x : Nat) (h : i < (leastL l).length), (leastL l)[i] = (x : Nat) ∧ x < 256 ∧ mem W[i] x = true ∧ ∀ y, y < x → mem W[i] y = false := by
 obtain ⟨h1, h2, h3⟩ := hW
 have hlt : l.take 256 = l := List.take_of_length_le (by omega)
 simp only [hlt] at h1 h3
 have hit : i < (tabO l).length := by omega
 have hin : (tabO l)[i] ∈ l := (mem_tabO l).1 (List.getElem_mem hit)
 obtain ⟨x, hx⟩ := place_mem hin
 obtain ⟨hx1, hx2⟩ := place_some hx
 rw [List.getElem?_eq_getElem hx1, Option.some.injEq] at hx2
 refine ⟨x, by rw [leastL_len]; exact hit, by simp only [leastL, List.getElem_map]; exact findF_some hx, by omega, ?_, fun y hy => ?_⟩
 ·rw [h3 i x hi hx1 hit]; exact decide_eq_true hx2
 ·rw [h3 i y hi (by omega) hit]
  refine decide_eq_false fun e => ?_
  unfold place at hx
  rw [List.findIdx?_eq_some_iff_getElem] at hx
  obtain ⟨h5, h6, h7⟩ := hx
  have := h7 y hy
  simp only [e, decide_true, not_true_eq_false] at this
theorem take_snoc {l : List Int} {i : Nat} (h : i < l.length) : (l.take (i + 1)).map (Value.int .u8) = (l.take i).map (Value.int .u8) ++ [Value.int .u8 l[i]] := by
 rw [List.take_succ_eq_append_getElem h, List.map_append]; rfl
theorem pleasts_t {l : List Int} (hl : l.length = 256) {G : PHeap} {H : Heap} {R : Value → PHeap → Heap → Prop} (hg : HasTab G)
  (hR : ∀ G' v', PLe G G' → Sep G' (keys H) → Sl G' (Value.int .u8) v' (leastL l) → R v' G' H) : FnT Tryz.prog 50 [agg8 l] G H R := by
 have hu8 : (u8L l).length = 256 := by rw [List.length_map, hl]
 have htk : List.take 256 (u8L l) = u8L l := List.take_of_length_le (by omega)
 have hno1 : ∀ l : List Int, (u8L l).all oneV = true := fun l => by rw [List.all_map]; exact List.all_eq_true.2 fun _ _ => rfl
 have hll := leastL_len l
 have htl := tabO_len l
 refine FnT.sep ?_
 refine FnT.body tok [0, 1, 2, 3, 5, 7, 8, 9, 10] Tryz.func50 rfl (by kernel_rfl) (by kernel_rfl) (by show _ ≤ 21; simp) fun hsep => ?_
 rw [Tryz.results50]
 have hsE := hsep
 try simp only [zzs] at hsE
 repeat (obtain ⟨hsx, hsE⟩ := hsE)
 repeat' first
  | (with_reducible first | refine Nx.go ?_ | refine Bk.go (fun _ => ?_) fun _ => ?_)
  | ((with_reducible first | refine NewB.mk2 fun nb hnb hnb1 hnb2 => ?_ | refine NewRow.mk2 fun nb nsp ncap hnb hncap hnb1 hnb2 => ?_); try simp only [zzn] at hnb2)
  | simp -dsimp -implicitDefEqProofs (disch := first | assumption | (simp only [zzm]; done) | omega | (try with_reducible refine Row.adr (by assumption) ?_); simp only [zzl, Nat.reduceAdd]; first | done | omega) only [go_sem, ↓reduceIte, seval, -List.reduceReplicate, List.toList_toArray, u8F_zero, u8F_len, hu8, htk]
 revert nb
 intro b1 hb1 hb11 hb12
 refine psets_t hl fun G2 v2 W hle2 hs2 hsl hW => ?_
 obtain ⟨a, cap, rfl, hrow, hcap⟩ := hsl
 have hWl : W.length = (tabO l).length := by
  have := hW.1
  rwa [List.take_of_length_le (by omega)] at this
 have hg2 := hg.mono hle2
 have hsE := hs2
 try simp only [zzs] at hsE
 repeat (obtain ⟨hsx, hsE⟩ := hsE)
 repeat' first
  | (with_reducible first | refine Nx.go ?_ | refine Bk.go (fun _ => ?_) fun _ => ?_)
  | ((with_reducible first | refine NewB.mk2 fun nb hnb hnb1 hnb2 => ?_ | refine NewRow.mk2 fun nb nsp ncap hnb hncap hnb1 hnb2 => ?_); try simp only [zzn] at hnb2)
  | simp -dsimp -implicitDefEqProofs (disch := first | assumption | (simp only [zzm]; done) | omega | (try with_reducible refine Row.adr (by assumption) ?_); simp only [zzl, Nat.reduceAdd]; first | done | omega) only [go_sem, ↓reduceIte, seval, -List.reduceReplicate, List.toList_toArray]
 refine Tri.loopU tok [0, 1, 2, 3, 5, 7, 8, 9, 10] (by kernel_rfl) [2, 3, 7, 8, 9] (fun q G' fr H' => ∃ (i : Nat) (v : Value) (kb : Heap), i + q = W.length ∧ G' = G2 ∧ SliceO [] 5 1 v i ((leastL l).take i |>.map (Value.int .u8)) kb ∧ H' = (b1, .cells (u8L l) [] 22) :: (kb ++ H) ∧ fr = [(2, .slice none 0 0), (3, v), (7, .slice a W.length cap), (8, .int .i64 W.length), (9, .int .i64 i)]) (W.length) ?_ ?_
 ·exact Upd.now ⟨0, _, [], by omega, rfl, .inl ⟨none, rfl, rfl, rfl, rfl⟩, rfl, rfl⟩
 ·rintro q G1 fr H' hle hs ⟨i, v, kb, hi, rfl, hv, rfl, rfl⟩
  by_cases hil : i < W.length
  ·have had : Adr a := hrow.adr (by rw [flatMap_len numsOf_len]; omega)
   obtain ⟨x, hx1, hx2, hx3, hx4, hx5⟩ := least_at hl hW hil
   have hsn := take_snoc hx1
   rw [hx2] at hsn
   have hx8 : IntKind.u8.wrap (x : Int) = (x : Int) := u8_wrap hx3
   have hws := hW.2.1 _ (List.getElem_mem hil)
   have hl4 := numsU_len 4
   have hr1 : ∀ v : Value, List.replicate 1 v = [v] := fun _ => rfl
   have hob : numsOf = numsU 4 := rfl
   have hlt : ((leastL l).take i).length = i := by rw [List.length_take]; omega
   rcases hv with ⟨a0, rfl, hn, hx, rfl⟩ | ⟨b2, c2, sp, rfl, rfl, hx, hc⟩
   ·have hsE := hs
    try simp only [zzs] at hsE
    repeat (obtain ⟨hsx, hsE⟩ := hsE)
    repeat' first
     | (with_reducible first | refine Nx.go ?_ | refine Bk.go (fun _ => ?_) fun _ => ?_)
     | ((with_reducible first | refine NewB.mk2 fun nb hnb hnb1 hnb2 => ?_ | refine NewRow.mk2 fun nb nsp ncap hnb hncap hnb1 hnb2 => ?_); try simp only [zzn] at hnb2)
     | simp -dsimp -implicitDefEqProofs (disch := first | assumption | (simp only [zzm]; done) | omega | (try with_reducible refine Row.adr (by assumption) ?_); simp only [zzl, Nat.reduceAdd]; first | done | omega) only [go_sem, ↓reduceIte, seval, -List.reduceReplicate, hr1, List.toList_toArray, Row.objsM hrow numsOf_len (by decide) hil, hob, hl4, numsU_one, numsU_over, numsU_all, hx8]
     | with_reducible refine sleast_t hws hx3 hx4 hx5 hg2 ?_
    have hce : ((leastL l).take (i + 1)).map (Value.int .u8) = [Value.int .u8 (x : Nat)] := by rw [hsn, hx]; rfl
    rw [← hce]
    have hlt1 : ((leastL l).take (i + 1)).length = i + 1 := by rw [List.length_take]; omega
    exact Upd.go (H' := (b1, .cells (u8L l) [] 22) :: ([(nb, .cells (((leastL l).take (i + 1)).map (Value.int .u8)) nsp 5)] ++ H)) (by intro fsum; first | exact Nat.le_refl _ | (simp only [zzq]; omega)) (Upd.now ⟨q - 1, by omega, i + 1, .slice (some ⟨nb, 0, none⟩) (i + 1) ncap, [_], by omega, rfl, .inr ⟨nb, ncap, nsp, rfl, rfl, by rw [List.length_map, hlt1, Nat.mul_one], by rw [hce]; simp at hncap ⊢; omega⟩, rfl, by obtain rfl : i = 0 := hn; rfl⟩)
   ·have hsE := hs
    try simp only [zzs] at hsE
    repeat (obtain ⟨hsx, hsE⟩ := hsE)
    repeat' first
     | (with_reducible first | refine Nx.go ?_ | refine Bk.go (fun _ => ?_) fun _ => ?_)
     | ((with_reducible first | refine NewB.mk2 fun nb hnb hnb1 hnb2 => ?_ | refine NewRow.mk2 fun nb nsp ncap hnb hncap hnb1 hnb2 => ?_); try simp only [zzn] at hnb2)
     | simp -dsimp -implicitDefEqProofs (disch := first | assumption | (simp only [zzm]; done) | omega | (try with_reducible refine Row.adr (by assumption) ?_); simp only [zzl, Nat.reduceAdd]; first | done | omega) only [go_sem, ↓reduceIte, seval, -List.reduceReplicate, hr1, List.toList_toArray, Row.objsM hrow numsOf_len (by decide) hil, hob, hl4, numsU_one, numsU_over, numsU_all, hx8, List.length_map]
     | with_reducible refine sleast_t hws hx3 hx4 hx5 hg2 ?_
    have hlt1 : ((leastL l).take (i + 1)).length = i + 1 := by rw [List.length_take]; omega
    rw [← hsn]
    exact Upd.go (H' := (b1, .cells (u8L l) [] 22) :: ([(nb, .cells (((leastL l).take (i + 1)).map (Value.int .u8)) nsp 5)] ++ H)) (by intro fsum; first | exact Nat.le_refl _ | (simp only [zzq]; omega)) (Upd.now ⟨q - 1, by omega, i + 1, .slice (some ⟨nb, 0, none⟩) (i + 1) ncap, [_], by omega, rfl, .inr ⟨nb, ncap, nsp, rfl, rfl, by rw [List.length_map, hlt1, Nat.mul_one], by rw [List.length_map, hlt1]; simp [hlt] at hncap ⊢; omega⟩, rfl, rfl⟩)
  ·obtain rfl : i = W.length := by omega
   have hall : (leastL l).take W.length = leastL l := List.take_of_length_le (by omega)
   rw [hall] at hv
   repeat' first
    | (with_reducible first | refine Nx.go ?_ | refine Bk.go (fun _ => ?_) fun _ => ?_)
    | ((with_reducible first | refine NewB.mk2 fun nb hnb hnb1 hnb2 => ?_ | refine NewRow.mk2 fun nb nsp ncap hnb hncap hnb1 hnb2 => ?_); try simp only [zzn] at hnb2)
    | simp -dsimp -implicitDefEqProofs (disch := first | assumption | (simp only [zzm]; done) | omega | (try with_reducible refine Row.adr (by assumption) ?_); simp only [zzl, Nat.reduceAdd]; first | done | omega) only [go_sem, ↓reduceIte, seval]
   unfold UpdR
   refine Upd.go (H' := kb ++ H) (by intro fsum; first | exact Nat.le_refl _ | (simp only [zzq]; omega)) ?_
   rcases hv with ⟨a0, rfl, hn, hx, rfl⟩ | ⟨b2, c2, sp, rfl, rfl, hx, hc⟩
   ·have hl0 : leastL l = [] := List.eq_nil_of_length_eq_zero (by omega)
    rw [hl0] at hR
    refine Upd.now ?_
    exact fun hle hs => hR _ _ hle2 hs ⟨a0, 0, rfl, Row.nil _ _, Nat.le_refl _⟩
   ·have hsE := hs
    try simp only [zzs] at hsE
    repeat (obtain ⟨hsx, hsE⟩ := hsE)
    refine Upd.shareRow (by assumption) fun G3 hle3 hs3 hr3 => ?_
    exact fun hle hs => hR _ _ (hle2.trans hle3) hs ⟨some ⟨b2, 0, none⟩, c2, by rw [hll, ← hWl], hr3, by rw [List.length_map] at hx hc; omega⟩
theorem rleast_t {ws : Nat → Nat} (hw : ∀ k, ws k < 18446744073709551616) {x : Nat} (hx : x < 256) (hm : mem ws x = true) (hmin : ∀ y, y < x → mem ws y = false) {G : PHeap} {H : Heap} {R : Value → PHeap → Heap → Prop}
  (hR : R (.int .i64 (x : Nat)) G H) : FnT Tryz.prog 88 [.agg (numsU 4 ws).toArray] G H R := by
 have hl := numsU_len 4 ws
 refine FnT.body tok [0, 1, 2, 3, 5, 10] Tryz.func88 rfl (by kernel_rfl) (by kernel_rfl) (by show _ ≤ 12; simp) fun hsep => ?_
 rw [Tryz.results88]
 have hsE := hsep
 try simp only [zzs] at hsE
 repeat (obtain ⟨hsx, hsE⟩ := hsE)
 repeat' first
  | (with_reducible first | refine Nx.go ?_ | refine Bk.go (fun _ => ?_) fun _ => ?_)
  | (with_reducible refine NewB.mk2 fun nb hnb hnb1 hnb2 => ?_; try simp only [zzn] at hnb2)
  | simp -dsimp -implicitDefEqProofs (disch := first | assumption | (simp only [zzm]; done) | omega | (try with_reducible refine Row.adr (by assumption) ?_); simp only [zzl, Nat.reduceAdd]; first | done | omega) only [go_sem, ↓reduceIte, seval, hl, numsU_all, numsU_one, numsU_over, numsU_over4, List.toList_toArray]
 refine Tri.loopU tok [0, 1, 2, 3, 5, 10] (by kernel_rfl) [1, 3] (fun q G' fr H' => ∃ (y : Nat), y + q = x + 1 ∧ y ≤ x ∧ G' = G ∧ H' = (nb, .cells (numsU 4 ws) [] 97) :: H ∧ fr = [(1, .pointer (some ⟨nb, 0, none⟩)), (3, .int .i64 (y : Nat))]) ((x + 1)) ?_ ?_
 ·exact Upd.now ⟨0, by omega, by omega, rfl, rfl, rfl⟩
 ·rintro q G1 fr H' hle hs1 ⟨y, hy, hyx, rfl, rfl, rfl⟩
  have hsE := hs1
  try simp only [zzs] at hsE
  repeat (obtain ⟨hsx, hsE⟩ := hsE)
  by_cases e : y = x
  ·subst e
   repeat' first
    | (with_reducible first | refine Nx.go ?_ | refine Bk.go (fun _ => ?_) fun _ => ?_)
    | (with_reducible refine NewB.mk2 fun nb hnb hnb1 hnb2 => ?_; try simp only [zzn] at hnb2)
    | simp -dsimp -implicitDefEqProofs (disch := first | assumption | (simp only [zzm]; done) | omega | (try with_reducible refine Row.adr (by assumption) ?_); simp only [zzl, Nat.reduceAdd]; first | done | omega) only [go_sem, ↓reduceIte, seval, hl, numsU_all, hm, List.toList_toArray]
    | with_reducible refine bhas_t ws hw y (by omega) ?_
   all_goals refine Upd.finL ?_ hR ?_
   any_goals (intro fsum; first | exact Nat.le_refl _ | (simp only [zzq]; omega))
   rfl
  ·have hno := hmin y (by omega)
   repeat' first
    | (with_reducible first | refine Nx.go ?_ | refine Bk.go (fun _ => ?_) fun _ => ?_)
    | (with_reducible refine NewB.mk2 fun nb hnb hnb1 hnb2 => ?_; try simp only [zzn] at hnb2)
    | simp -dsimp -implicitDefEqProofs (disch := first | assumption | (simp only [zzm]; done) | omega | (try with_reducible refine Row.adr (by assumption) ?_); simp only [zzl, Nat.reduceAdd]; first | done | omega) only [go_sem, ↓reduceIte, seval, hl, numsU_all, hno, List.toList_toArray]
    | with_reducible refine bhas_t ws hw y (by omega) ?_
   exact Upd.now ⟨q - 1, by omega, y + 1, by omega, by omega, rfl, rfl, rfl⟩
theorem rpleasts_t {l : List Int} (hl : l.length = 256) (hlb : ∀ x ∈ l, 0 ≤ x ∧ x ≤ 255) {G : PHeap} {H : Heap} {R : Value → PHeap → Heap → Prop}
  (hR : ∀ G' v', PLe G G' → Sep G' (keys H) → Sl G' (Value.int .u8) v' (leastL l) → R v' G' H) : FnT Tryz.prog 57 [agg8 l] G H R := by
 have hu8 : (u8L l).length = 256 := by rw [List.length_map, hl]
 have htk : List.take 256 (u8L l) = u8L l := List.take_of_length_le (by omega)
 have hll := leastL_len l
 have htl := tabO_len l
 refine FnT.sep ?_
 refine FnT.body tok [0, 1, 2, 3, 4, 5, 12] Tryz.func57 rfl (by kernel_rfl) (by kernel_rfl) (by show _ ≤ 25; simp) fun hsep => ?_
 rw [Tryz.results57]
 have hsE := hsep
 try simp only [zzs] at hsE
 repeat (obtain ⟨hsx, hsE⟩ := hsE)
 repeat' first
  | (with_reducible first | refine Nx.go ?_ | refine Bk.go (fun _ => ?_) fun _ => ?_)
  | ((with_reducible first | refine NewB.mk2 fun nb hnb hnb1 hnb2 => ?_ | refine NewRow.mk2 fun nb nsp ncap hnb hncap hnb1 hnb2 => ?_); try simp only [zzn] at hnb2)
  | simp -dsimp -implicitDefEqProofs (disch := first | assumption | (simp only [zzm]; done) | omega | (try with_reducible refine Row.adr (by assumption) ?_); simp only [zzl, Nat.reduceAdd]; first | done | omega) only [go_sem, ↓reduceIte, seval, -List.reduceReplicate, List.toList_toArray, u8F_zero, u8F_len, hu8, htk]
 rename_i b1 hb1 hb11 hb12
 revert nb
 intro b0 hb0 hb01 hb02
 refine sets_t hl hlb fun G2 v2 W hle2 hs2 hsl hW => ?_
 obtain ⟨a, cap, rfl, hrow, hcap⟩ := hsl
 have hWl : W.length = (tabO l).length := by
  have := hW.1
  rwa [List.take_of_length_le (by omega)] at this
 have hsE := hs2
 try simp only [zzs] at hsE
 repeat (obtain ⟨hsx, hsE⟩ := hsE)
 repeat' first
  | (with_reducible first | refine Nx.go ?_ | refine Bk.go (fun _ => ?_) fun _ => ?_)
  | ((with_reducible first | refine NewB.mk2 fun nb hnb hnb1 hnb2 => ?_ | refine NewRow.mk2 fun nb nsp ncap hnb hncap hnb1 hnb2 => ?_); try simp only [zzn] at hnb2)
  | simp -dsimp -implicitDefEqProofs (disch := first | assumption | (simp only [zzm]; done) | omega | (try with_reducible refine Row.adr (by assumption) ?_); simp only [zzl, Nat.reduceAdd]; first | done | omega) only [go_sem, ↓reduceIte, seval, -List.reduceReplicate, List.toList_toArray]
 refine Tri.loopU tok [0, 1, 2, 3, 4, 5, 12] (by kernel_rfl) [2, 3, 4, 5] (fun q G' fr H' => ∃ (i b2 c2 : Nat) (sp : List Value), i + q = W.length ∧ G' = G2 ∧ i + sp.length = c2 ∧ H' = (b2, .cells ((leastL l).take i |>.map (Value.int .u8)) sp 5) :: (b1, .cells (u8L l) [] 22) :: H ∧ fr = [(2, .slice none 0 0), (3, .slice (some ⟨b2, 0, none⟩) i c2), (4, .slice a W.length cap), (5, .int .i64 i)]) (W.length) ?_ ?_
 ·exact Upd.now ⟨0, b0, 0, [], by omega, rfl, rfl, rfl, rfl⟩
 ·rintro q G1 fr H' hle hs ⟨i, b2, c2, sp, hi, rfl, hsp, rfl, rfl⟩
  have hsE := hs
  try simp only [zzs] at hsE
  repeat (obtain ⟨hsx, hsE⟩ := hsE)
  have hlt : i ≤ W.length → ((leastL l).take i).length = i := fun h => by rw [List.length_take]; omega
  by_cases hil : i < W.length
  ·have had : Adr a := hrow.adr (by rw [flatMap_len numsOf_len]; omega)
   obtain ⟨x, hx1, hx2, hx3, hx4, hx5⟩ := least_at hl hW hil
   have hsn := take_snoc hx1
   rw [hx2] at hsn
   have hx8 : IntKind.u8.wrap (x : Int) = (x : Int) := u8_wrap hx3
   have hws := hW.2.1 _ (List.getElem_mem hil)
   have hl4 := numsU_len 4
   have hr1 : ∀ v : Value, List.replicate 1 v = [v] := fun _ => rfl
   have hob : numsOf = numsU 4 := rfl
   have hlt0 := hlt (by omega)
   have hlt1 : ((leastL l).take (i + 1)).length = i + 1 := by rw [List.length_take]; omega
   repeat' first
    | (with_reducible first | refine Nx.go ?_ | refine Bk.go (fun _ => ?_) fun _ => ?_)
    | ((with_reducible first | refine NewB.mk2 fun nb hnb hnb1 hnb2 => ?_ | refine NewRow.mk2 fun nb nsp ncap hnb hncap hnb1 hnb2 => ?_); try simp only [zzn] at hnb2)
    | simp -dsimp -implicitDefEqProofs (disch := first | assumption | (simp only [zzm]; done) | omega | (try with_reducible refine Row.adr (by assumption) ?_); simp only [zzl, Nat.reduceAdd]; first | done | omega) only [go_sem, ↓reduceIte, seval, -List.reduceReplicate, hr1, List.toList_toArray, Row.objsM hrow numsOf_len (by decide) hil, hob, hl4, numsU_one, numsU_over, numsU_all, hx8, List.length_map, hlt0]
    | with_reducible refine rleast_t hws hx3 hx4 hx5 ?_
   rw [← hsn]
   exact Upd.go (H' := (nb, .cells (((leastL l).take (i + 1)).map (Value.int .u8)) nsp 5) :: (b1, .cells (u8L l) [] 22) :: H) (by intro fsum; first | exact Nat.le_refl _ | (simp only [zzq]; omega)) (Upd.now ⟨q - 1, by omega, i + 1, nb, ncap, nsp, by omega, rfl, by omega, rfl, rfl⟩)
  ·obtain rfl : i = W.length := by omega
   have hall : (leastL l).take W.length = leastL l := List.take_of_length_le (by omega)
   rw [hall]
   repeat' first
    | (with_reducible first | refine Nx.go ?_ | refine Bk.go (fun _ => ?_) fun _ => ?_)
    | ((with_reducible first | refine NewB.mk2 fun nb hnb hnb1 hnb2 => ?_ | refine NewRow.mk2 fun nb nsp ncap hnb hncap hnb1 hnb2 => ?_); try simp only [zzn] at hnb2)
    | simp -dsimp -implicitDefEqProofs (disch := first | assumption | (simp only [zzm]; done) | omega | (try with_reducible refine Row.adr (by assumption) ?_); simp only [zzl, Nat.reduceAdd]; first | done | omega) only [go_sem, ↓reduceIte, seval]
   unfold UpdR
   refine Upd.go (H' := (b2, .cells ((leastL l).map (Value.int .u8)) sp 5) :: H) (by intro fsum; first | exact Nat.le_refl _ | (simp only [zzq]; omega)) (Upd.shareRow (by assumption) fun G3 hle3 hs3 hr3 => ?_)
   exact fun hle hs => hR _ _ (hle2.trans hle3) hs ⟨some ⟨b2, 0, none⟩, c2, by rw [hll, ← hWl], hr3, by omega⟩
end Go.Proofs.YtefkpedhbijhkaaGreatDoor
namespace Go.Proofs.YtefkpedhbijhkaaGreatDoor
open Go Go.V Go.Proofs
theorem hes : KeyEnc T 9 str := keyEnc_str (T := T) (t := 9) rfl
theorem numS_t {l : List (List UInt8)} (hlen : l.length ≤ 2000000) {fid : FuncId} {XC : List Value} {tyX : TypeId} {b1 : Nat} {G : PHeap} {H : Heap} {R : Value → PHeap → Heap → Prop}
  (hkey : ∀ i (hi : i < l.length) (H1 : Heap) (R1 : Value → PHeap → Heap → Prop), G b1 = none → findH H1 b1 = some (.cells XC [] tyX) → R1 (str l[i]) G H1 → FnT Tryz.prog fid [.int .i64 (i : Nat), .pointer (some ⟨b1, 0, none⟩)] G H1 R1)
  (hR : ∀ G' v, PLe G G' → Sep G' (keys H) → Sl G' (Value.int .i64) v (nums l) → R v G' H) : FnT Tryz.prog 105 [.int .i64 l.length, .func (.func fid) #[] #[.pointer (some ⟨b1, 0, none⟩)]] G ((b1, .cells XC [] tyX) :: H) R := by
 refine FnT.sep ?_
 refine FnT.body tok [0, 1, 4, 5, 6, 7, 8, 10, 12, 13, 14, 26] Tryz.func105 rfl (by kernel_rfl) (by kernel_rfl) (by show _ ≤ 39; simp) fun hsep => ?_
 rw [Tryz.results105]
 have hsE := hsep
 try simp only [zzs] at hsE
 repeat (obtain ⟨hsx, hsE⟩ := hsE)
 repeat' first
  | (with_reducible first | refine Nx.go ?_ | refine Bk.go (fun _ => ?_) fun _ => ?_ | refine foundO.mk (fun _ _ => ?_) (fun _ => ?_))
  | ((with_reducible first | refine NewB.mk2 fun nb hnb hnb1 hnb2 => ?_ | refine NewRow.mk2 fun nb nsp ncap hnb hncap hnb1 hnb2 => ?_); try simp only [zzn] at hnb2)
  | simp -dsimp -implicitDefEqProofs (disch := first | assumption | (simp only [zzm]; done) | omega | (try with_reducible refine Row.adr (by assumption) ?_); simp only [zzl, Nat.reduceAdd]; first | done | omega) only [go_sem, ↓reduceIte, seval]
 revert nb
 intro bm hbm hbm1 hbm2
 refine Tri.loopU tok [0, 1, 4, 5, 6, 7, 8, 10, 12, 13, 14, 26] (by kernel_rfl) [0, 1, 4, 5, 6, 12, 13] (fun q G' fr H' => ∃ (i : Nat) (v : Value) (kb : Heap), i + q = l.length ∧ G' = G ∧ SliceO [] 3 1 v i ((nums (l.take i)).map (Value.int .i64)) kb ∧ H' = (bm, .map ((numb 0 (tabO (l.take i))).map fun p => (str p.1, Value.int .i64 p.2))) :: (b1, .cells XC [] tyX) :: (kb ++ H) ∧ fr = [(0, .int .i64 l.length), (1, .func (.func fid) #[] #[.pointer (some ⟨b1, 0, none⟩)]), (4, .slice none 0 0), (5, .map (some bm)), (6, v), (12, .int .i64 l.length), (13, .int .i64 i)]) (l.length) ?_ ?_
 ·exact Upd.now ⟨0, _, [], by omega, rfl, .inl ⟨none, rfl, rfl, rfl, rfl⟩, rfl, rfl⟩
 ·rintro q G1 fr H' hle hs ⟨i, v, kb, hi, rfl, hv, rfl, rfl⟩
  have hnl : (nums (l.take i)).length = i := by rw [nums_len, List.length_take]; omega
  have htl := tabO_len (l.take i)
  rw [List.length_take] at htl
  by_cases hil : i < l.length
  ·have htk := List.take_succ_eq_append_getElem hil
   rcases hp : place (tabO (l.take i)) l[i] with _ | n
   ·have hnn := nums_new hp
    have hpe := place_end (place_none hp)
    rw [← htk] at hnn
    rcases hv with ⟨a0, rfl, hn, hx, rfl⟩ | ⟨b2, c2, sp, rfl, rfl, hx, hc⟩
    ·have hsE := hs
     try simp only [zzs] at hsE
     repeat (obtain ⟨hsx, hsE⟩ := hsE)
     repeat' first
      | (with_reducible first | refine Nx.go ?_ | refine Bk.go (fun _ => ?_) fun _ => ?_ | refine foundO.mk (fun _ _ => ?_) (fun _ => ?_))
      | ((with_reducible first | refine NewB.mk2 fun nb hnb hnb1 hnb2 => ?_ | refine NewRow.mk2 fun nb nsp ncap hnb hncap hnb1 hnb2 => ?_); try simp only [zzn] at hnb2)
      | simp -dsimp -implicitDefEqProofs (disch := first | assumption | (simp only [zzm]; done) | omega | (try with_reducible refine Row.adr (by assumption) ?_); simp only [zzl, Nat.reduceAdd]; first | done | omega) only [go_sem, ↓reduceIte, seval, findV_enc hes (Value.int .i64), keyOk_enc hes, aget_numb0, Option.map_map, putV_enc hes (Value.int .i64), aput_new, hp, hpe, List.length_map, numb_len]
      | with_reducible refine hkey i hil _ _ (by assumption) ?_ ?_
     have hce : (nums (l.take (i + 1))).map (Value.int .i64) = [Value.int .i64 (tabO (l.take i)).length] := by rw [hnn.2, List.map_append, hx]; rfl
     rw [← hnn.1, ← hce]
     refine Upd.go (H' := (bm, .map ((numb 0 (tabO (l.take (i + 1)))).map fun p => (str p.1, Value.int .i64 p.2))) :: (b1, .cells XC [] tyX) :: ([(nb, .cells ((nums (l.take (i + 1))).map (Value.int .i64)) nsp 3)] ++ H)) (by intro fsum; first | exact Nat.le_refl _ | (simp only [zzq]; omega)) (Upd.now ⟨q - 1, by omega, i + 1, .slice (some ⟨nb, 0, none⟩) (i + 1) ncap, [_], by omega, rfl, .inr ⟨nb, ncap, nsp, rfl, rfl, by rw [hce]; simp [hn], by rw [hce]; simp at hncap ⊢; omega⟩, rfl, by obtain rfl : i = 0 := hn; rfl⟩)
    ·have hsE := hs
     try simp only [zzs] at hsE
     repeat (obtain ⟨hsx, hsE⟩ := hsE)
     repeat' first
      | (with_reducible first | refine Nx.go ?_ | refine Bk.go (fun _ => ?_) fun _ => ?_ | refine foundO.mk (fun _ _ => ?_) (fun _ => ?_))
      | ((with_reducible first | refine NewB.mk2 fun nb hnb hnb1 hnb2 => ?_ | refine NewRow.mk2 fun nb nsp ncap hnb hncap hnb1 hnb2 => ?_); try simp only [zzn] at hnb2)
      | simp -dsimp -implicitDefEqProofs (disch := first | assumption | (simp only [zzm]; done) | omega | (try with_reducible refine Row.adr (by assumption) ?_); simp only [zzl, Nat.reduceAdd]; first | done | omega) only [go_sem, ↓reduceIte, seval, findV_enc hes (Value.int .i64), keyOk_enc hes, aget_numb0, Option.map_map, putV_enc hes (Value.int .i64), aput_new, hp, hpe, List.length_map, numb_len]
      | with_reducible refine hkey i hil _ _ (by assumption) ?_ ?_
     have hce : (nums (l.take (i + 1))).map (Value.int .i64) = (nums (l.take i)).map (Value.int .i64) ++ [Value.int .i64 (tabO (l.take i)).length] := by rw [hnn.2, List.map_append]; rfl
     rw [← hnn.1, ← hce]
     refine Upd.go (H' := (bm, .map ((numb 0 (tabO (l.take (i + 1)))).map fun p => (str p.1, Value.int .i64 p.2))) :: (b1, .cells XC [] tyX) :: ([(nb, .cells ((nums (l.take (i + 1))).map (Value.int .i64)) nsp 3)] ++ H)) (by intro fsum; first | exact Nat.le_refl _ | (simp only [zzq]; omega)) (Upd.now ⟨q - 1, by omega, i + 1, .slice (some ⟨nb, 0, none⟩) (i + 1) ncap, [_], by omega, rfl, .inr ⟨nb, ncap, nsp, rfl, rfl, by rw [hce]; simp [hnl], by rw [hce]; simp [hnl] at hncap ⊢; omega⟩, rfl, rfl⟩)
   ·have hnn := nums_old hp
    rw [← htk] at hnn
    have hn0 : i ≠ 0 := fun e => by subst e; rw [List.take_zero, tabO_nil, place_nil] at hp; cases hp
    rcases hv with ⟨a0, rfl, hn, hx, rfl⟩ | ⟨b2, c2, sp, rfl, rfl, hx, hc⟩
    ·exact absurd hn hn0
    ·have hsE := hs
     try simp only [zzs] at hsE
     repeat (obtain ⟨hsx, hsE⟩ := hsE)
     repeat' first
      | (with_reducible first | refine Nx.go ?_ | refine Bk.go (fun _ => ?_) fun _ => ?_ | refine foundO.mk (fun _ _ => ?_) (fun _ => ?_))
      | ((with_reducible first | refine NewB.mk2 fun nb hnb hnb1 hnb2 => ?_ | refine NewRow.mk2 fun nb nsp ncap hnb hncap hnb1 hnb2 => ?_); try simp only [zzn] at hnb2)
      | simp -dsimp -implicitDefEqProofs (disch := first | assumption | (simp only [zzm]; done) | omega | (try with_reducible refine Row.adr (by assumption) ?_); simp only [zzl, Nat.reduceAdd]; first | done | omega) only [go_sem, ↓reduceIte, seval, findV_enc hes (Value.int .i64), keyOk_enc hes, aget_numb0, Option.map_map, putV_enc hes (Value.int .i64), aput_new, hp, List.length_map, numb_len]
      | with_reducible refine hkey i hil _ _ (by assumption) ?_ ?_
     have hce : (nums (l.take (i + 1))).map (Value.int .i64) = (nums (l.take i)).map (Value.int .i64) ++ [Value.int .i64 n] := by rw [hnn.2, List.map_append]; rfl
     rw [← hnn.1, ← hce]
     refine Upd.go (H' := (bm, .map ((numb 0 (tabO (l.take (i + 1)))).map fun p => (str p.1, Value.int .i64 p.2))) :: (b1, .cells XC [] tyX) :: ([(nb, .cells ((nums (l.take (i + 1))).map (Value.int .i64)) nsp 3)] ++ H)) (by intro fsum; first | exact Nat.le_refl _ | (simp only [zzq]; omega)) (Upd.now ⟨q - 1, by omega, i + 1, .slice (some ⟨nb, 0, none⟩) (i + 1) ncap, [_], by omega, rfl, .inr ⟨nb, ncap, nsp, rfl, rfl, by rw [hce]; simp [hnl], by rw [hce]; simp [hnl] at hncap ⊢; omega⟩, rfl, rfl⟩)
  ·obtain rfl : i = l.length := by omega
   rw [List.take_length] at hv ⊢
   repeat' first
    | (with_reducible first | refine Nx.go ?_ | refine Bk.go (fun _ => ?_) fun _ => ?_ | refine foundO.mk (fun _ _ => ?_) (fun _ => ?_))
    | ((with_reducible first | refine NewB.mk2 fun nb hnb hnb1 hnb2 => ?_ | refine NewRow.mk2 fun nb nsp ncap hnb hncap hnb1 hnb2 => ?_); try simp only [zzn] at hnb2)
    | simp -dsimp -implicitDefEqProofs (disch := first | assumption | (simp only [zzm]; done) | omega | (try with_reducible refine Row.adr (by assumption) ?_); simp only [zzl, Nat.reduceAdd]; first | done | omega) only [go_sem, ↓reduceIte, seval]
   unfold UpdR
   refine Upd.go (H' := kb ++ H) (by intro fsum; first | exact Nat.le_refl _ | (simp only [zzq]; omega)) ?_
   rcases hv with ⟨a0, rfl, hn, hx, rfl⟩ | ⟨b2, c2, sp, rfl, rfl, hx, hc⟩
   ·have hl0 : l = [] := List.eq_nil_of_length_eq_zero hn
    subst hl0
    refine Upd.now ?_
    exact fun hle hs => hR _ _ (PLe.refl _) hs ⟨a0, 0, rfl, Row.nil _ _, Nat.le_refl _⟩
   ·have hsE := hs
    try simp only [zzs] at hsE
    repeat (obtain ⟨hsx, hsE⟩ := hsE)
    refine Upd.shareRow (by assumption) fun G2 hle2 hs2 hr2 => ?_
    exact fun hle hs => hR _ _ hle2 hs ⟨some ⟨b2, 0, none⟩, c2, by rw [nums_len], hr2, by rw [nums_len]; rw [List.length_map, nums_len] at hx hc; omega⟩
def b3 (n : Nat) : List UInt8 := [UInt8.ofNat n, UInt8.ofNat (n / 256), UInt8.ofNat (n / 65536)]
def colT (d : DfaT) (k s : Nat) : List UInt8 := (d.next.take s).flatMap fun r => b3 (atL r k).toNat
def colB (d : DfaT) (k : Nat) : List UInt8 := colT d k d.next.length
theorem colT_succ (d : DfaT) (k : Nat) {s : Nat} (h : s < d.next.length) : colT d k (s + 1) = colT d k s ++ b3 (atL d.next[s] k).toNat := by
 unfold colT
 rw [List.take_succ_eq_append_getElem h, List.flatMap_append]; simp
theorem colT_len (d : DfaT) (k : Nat) : ∀ s, s ≤ d.next.length → (colT d k s).length = 3 * s
 | 0, _ => by simp [colT]
 | s + 1, h => by rw [colT_succ d k (by omega), List.length_append, colT_len d k s (by omega)]; simp [b3]; omega
theorem b3_inj {n m : Nat} (hn : n < 16777216) (hm : m < 16777216) (h : b3 n = b3 m) : n = m := by
 unfold b3 at h
 simp only [List.cons.injEq, and_true] at h
 obtain ⟨h1, h2, h3⟩ := h
 have g1 := congrArg UInt8.toNat h1
 have g2 := congrArg UInt8.toNat h2
 have g3 := congrArg UInt8.toNat h3
 simp only [UInt8.toNat_ofNat'] at g1 g2 g3
 omega
theorem colT_inj {d : DfaT} {k k' : Nat} (hs : ∀ s (h : s < d.next.length), (atL d.next[s] k).toNat < 16777216 ∧ (atL d.next[s] k').toNat < 16777216) : ∀ n, n ≤ d.next.length → (colT d k n = colT d k' n ↔ ∀ s (h : s < d.next.length), s < n → (atL d.next[s] k).toNat = (atL d.next[s] k').toNat)
 | 0, _ => ⟨fun _ s _ h => by omega, fun _ => rfl⟩
 | n + 1, hn => by
  have ih := colT_inj hs n (by omega)
  rw [colT_succ d k (by omega), colT_succ d k' (by omega)]
  constructor
  ·intro h
   have hl : (colT d k n).length = (colT d k' n).length := by rw [colT_len d k n (by omega), colT_len d k' n (by omega)]
   obtain ⟨h1, h2⟩ := List.append_inj h hl
   intro s hs1 hsn
   by_cases e : s = n
   ·subst e; exact b3_inj (hs s hs1).1 (hs s hs1).2 h2
   ·exact ih.1 h1 s hs1 (by omega)
  ·intro h
   rw [ih.2 fun s h1 h2 => h s h1 (by omega), h n (by omega) (by omega)]
theorem u8_nat (n : Nat) : IntKind.u8.wrap (n : Int) = ((UInt8.ofNat n).toNat : Int) := by
 rw [UInt8.toNat_ofNat']
 simp only [IntKind.wrap, IntKind.bits, IntKind.signed]
 simp
theorem col_t {d : DfaT} (hsm : SmallD d) (hok : RightP d) {C : List Value} {an al ay : Option Addr} {cn cl cs : Nat} {rs : List Value} {G : PHeap} (O : OpenD G d C an al ay cn cl cs rs) {b1 : Nat} {k : Nat} (hk : (k : Int) < d.width)
  {H : Heap} {R : Value → PHeap → Heap → Prop} (hg : G b1 = none) (hf : findH H b1 = some (.cells C [] 27)) (hR : R (str (colB d k)) G H) : FnT Tryz.prog 106 [.int .i64 (k : Nat), .pointer (some ⟨b1, 0, none⟩)] G H R := by
 obtain ⟨hk1, hk2, hk3, hk4, hk5, hk6, hk7⟩ := id hok
 have hCl := O.len
 have hCn := O.n
 have hrnl := O.rnl
 refine FnT.sep ?_
 refine FnT.body tok [0, 1, 3, 4, 6, 13, 14, 15, 16] Tryz.func106 rfl (by kernel_rfl) (by kernel_rfl) (by show _ ≤ 42; simp) fun hsep => ?_
 rw [Tryz.results106]
 have hsE := hsep
 try simp only [zzs] at hsE
 repeat (obtain ⟨hsx, hsE⟩ := hsE)
 repeat' first
  | (with_reducible first | refine Nx.go ?_ | refine Bk.go (fun _ => ?_) fun _ => ?_)
  | ((with_reducible first | refine NewB.mk2 fun nb hnb hnb1 hnb2 => ?_ | refine NewRow.mk2 fun nb nsp ncap hnb hncap hnb1 hnb2 => ?_); try simp only [zzn] at hnb2)
  | simp -dsimp -implicitDefEqProofs (disch := first | assumption | (simp only [zzm]; done) | omega | (try with_reducible refine Row.adr (by assumption) ?_); simp only [zzl, Nat.reduceAdd]; first | done | omega) only [go_sem, ↓reduceIte, seval, -List.reduceReplicate, hf, hCl, hCn, List.replicate_zero]
 have hne := NotIn.neFind hnb2 hf
 repeat' first
  | (with_reducible first | refine Nx.go ?_ | refine Bk.go (fun _ => ?_) fun _ => ?_)
  | ((with_reducible first | refine NewB.mk2 fun nb hnb hnb1 hnb2 => ?_ | refine NewRow.mk2 fun nb nsp ncap hnb hncap hnb1 hnb2 => ?_); try simp only [zzn] at hnb2)
  | simp -dsimp -implicitDefEqProofs (disch := first | assumption | (simp only [zzm]; done) | omega | (try with_reducible refine Row.adr (by assumption) ?_); simp only [zzl, Nat.reduceAdd]; first | done | omega) only [go_sem, ↓reduceIte, seval, -List.reduceReplicate, hf, hCl, hCn, List.replicate_zero]
 refine Tri.loopU tok [0, 1, 3, 4, 6, 13, 14, 15, 16] (by kernel_rfl) [0, 1, 3, 4, 13, 14, 15] (fun q G' fr H' => ∃ (s br c : Nat) (sp : List Value), s + q = d.next.length ∧ 3 * s + sp.length = c ∧ G' = G ∧ H' = (br, .cells ((colT d k s).map byteV) sp 5) :: H ∧ fr = [(0, .int .i64 (k : Nat)), (1, .pointer (some ⟨b1, 0, none⟩)), (3, .string ⟨#[]⟩), (4, .slice (some ⟨br, 0, none⟩) (3 * s) c), (13, .slice an d.next.length cn), (14, .int .i64 (d.next.length : Nat)), (15, .int .i64 (s : Nat))]) (d.next.length) ?_ ?_
 ·refine Upd.now ?_
  exact ⟨0, nb, _, _, by omega, by rw [List.length_replicate]; omega, rfl, rfl, rfl⟩
 ·rintro q G1 fr H' hle hs1 ⟨s, br, c, sp, hsq, hc, rfl, rfl, rfl⟩
  have hsE := hs1
  try simp only [zzs] at hsE
  repeat (obtain ⟨hsx, hsE⟩ := hsE)
  have hcl := colT_len d k s (by omega)
  have hml : ((colT d k s).map byteV).length = 3 * s := by rw [List.length_map, hcl]
  by_cases hsn : s < d.next.length
  ·have had : Adr an := O.rn.adr (by omega)
   obtain ⟨b, cc, e1, e2, e3⟩ := O.rs s hsn (by omega)
   obtain ⟨hw1, hw2, hw3, hw4⟩ := hk7 s hsn (by omega)
   have hrl := hsm.2.1 _ (List.getElem_mem hsn)
   have hkr : k < (d.next[s]).length := by omega
   have had2 : Adr b := e2.adr (by rw [List.length_map]; omega)
   have hx := hw4 _ (List.getElem_mem hkr)
   obtain ⟨t, ht⟩ := Int.eq_ofNat_of_zero_le hx.1
   have hat : (atL d.next[s] k).toNat = t := by rw [atL_get (by simpa using hkr)]; simp only [Int.toNat_natCast, ht]
   have hsucc := colT_succ d k hsn
   rw [hat] at hsucc
   have w0 := u8_nat t
   have w1 : IntKind.u8.wrap ((t : Int) / 256) = ((UInt8.ofNat (t / 256)).toNat : Int) := by rw [← u8_nat]; rfl
   have w2 : IntKind.u8.wrap ((t : Int) / 65536) = ((UInt8.ofNat (t / 65536)).toNat : Int) := by rw [← u8_nat]; rfl
   have hm2 : (colT d k s).map byteV ++ [.int .u8 ((UInt8.ofNat t).toNat : Int), .int .u8 ((UInt8.ofNat (t / 256)).toNat : Int), .int .u8 ((UInt8.ofNat (t / 65536)).toNat : Int)] = (colT d k (s + 1)).map byteV := by rw [hsucc, List.map_append]; rfl
   have hr3 : ∀ x : Value, List.replicate 3 x = [x, x, x] := fun _ => rfl
   repeat' first
    | (with_reducible first | refine Nx.go ?_ | refine Bk.go (fun _ => ?_) fun _ => ?_)
    | ((with_reducible first | refine NewB.mk2 fun nb hnb hnb1 hnb2 => ?_ | refine NewRow.mk2 fun nb nsp ncap hnb hncap hnb1 hnb2 => ?_); try simp only [zzn] at hnb2)
    | simp -dsimp -implicitDefEqProofs (disch := first | assumption | (simp only [zzm]; done) | omega | (try with_reducible refine Row.adr (by assumption) ?_); simp only [zzl, Nat.reduceAdd]; first | done | omega) only [go_sem, ↓reduceIte, seval, -List.reduceReplicate, Row.obj O.rn, e1, Row.obj e2, List.getElem_map, ht, w0, w1, w2, hr3]
    | with_reducible refine Tri.drawH tok mixed [0, 1, 3, 4, 6, 13, 14, 15, 16] 5 [4, 9, 15] (.op 0 .plain (.op 1 .plain (.op 2 .plain (.op 3 .plain (.op 4 .held (.op 5 .plain (.op 6 .plain (.op 7 .plain (.op 8 .plain (.op 9 .held (.op 10 .plain (.op 11 .plain (.op 12 .plain (.op 13 .plain (.op 14 .plain (.op 15 .held (.op 16 .plain (.op 17 .plain (.op 18 .keeps (.op 19 .keeps (.op 20 .plain .nil))))))))))))))))))))) (by kernel_rfl) [6] ?_
   rw [hm2]
   refine Upd.go (H' := (nb, .cells ((colT d k (s + 1)).map byteV) nsp 5) :: H) (by intro fsum; first | exact Nat.le_refl _ | (simp only [zzq]; omega)) (Upd.now ⟨q - 1, by omega, s + 1, nb, ncap, nsp, by omega, by omega, rfl, rfl, rfl⟩)
  ·obtain rfl : s = d.next.length := by omega
   repeat' first
    | (with_reducible first | refine Nx.go ?_ | refine Bk.go (fun _ => ?_) fun _ => ?_)
    | ((with_reducible first | refine NewB.mk2 fun nb hnb hnb1 hnb2 => ?_ | refine NewRow.mk2 fun nb nsp ncap hnb hncap hnb1 hnb2 => ?_); try simp only [zzn] at hnb2)
    | simp -dsimp -implicitDefEqProofs (disch := first | assumption | (simp only [zzm]; done) | omega | (try with_reducible refine Row.adr (by assumption) ?_); simp only [zzl, Nat.reduceAdd]; first | done | omega) only [go_sem, ↓reduceIte, seval, -List.reduceReplicate]
   unfold UpdR
   refine Upd.go (H' := H) (by intro fsum; first | exact Nat.le_refl _ | (simp only [zzq]; omega)) (Upd.now fun hle hs => hR)
end Go.Proofs.YtefkpedhbijhkaaGreatDoor
namespace Go.Proofs.YtefkpedhbijhkaaGreatDoor
open Go Go.V Go.Proofs
def colL (d : DfaT) : List (List UInt8) := (List.range d.width.toNat).map (colB d)
theorem colL_len (d : DfaT) : (colL d).length = d.width.toNat := by simp [colL]
theorem colL_at {d : DfaT} {k : Nat} (h : k < (colL d).length) : (colL d)[k] = colB d k := by simp [colL]
theorem width_pos {d : DfaT} (hok : RightP d) : d.width = ((colL d).length : Nat) := by
 obtain ⟨hk1, hk2, hk3, hk4, hk5, hk6, hk7⟩ := hok
 rw [colL_len]; omega
theorem width_le {d : DfaT} (hok : RightP d) (hl : d.of.length = 256) : (colL d).length ≤ 256 := by
 have := width_pos hok
 obtain ⟨hk1, hk2, hk3, hk4, hk5, hk6, hk7⟩ := hok
 have := tabO_len d.of
 omega
def clL (d : DfaT) : List Int := d.of.map fun o => atL (nums (colL d)) o
theorem clL_len {d : DfaT} (hl : d.of.length = 256) : (clL d).length = 256 := by unfold clL; rw [List.length_map, hl]
theorem clL_at {d : DfaT} (hok : RightP d) {i : Nat} (hi : i < d.of.length) : ∃ (h : (d.of[i]).toNat < (nums (colL d)).length) (h2 : i < (clL d).length), (clL d)[i] = (nums (colL d))[(d.of[i]).toNat] ∧ 0 ≤ (clL d)[i] ∧ (clL d)[i] < (colL d).length := by
 obtain ⟨h1, h2⟩ := of_bound hok (List.getElem_mem hi)
 have hw := width_pos hok
 have h3 : (d.of[i]).toNat < (nums (colL d)).length := by rw [nums_len]; omega
 have h4 : i < (clL d).length := by unfold clL; rw [List.length_map]; exact hi
 have e : (clL d)[i] = (nums (colL d))[(d.of[i]).toNat] := by simp only [clL, List.getElem_map]; rw [atL_get h3]
 obtain ⟨b1, b2⟩ := nums_bound (List.getElem_mem h3)
 have := tabO_len (colL d)
 exact ⟨h3, h4, e, by rw [e]; exact b1, by rw [e]; omega⟩
def clU (d : DfaT) (c k : Nat) : Int := if k < c then atL (clL d) k else 0
theorem clU_zero (d : DfaT) : u8F (fun _ => 0) = u8F (clU d 0) := u8F_congr fun k _ => by unfold clU; rw [if_neg (by omega)]
theorem clU_succ {d : DfaT} {c : Nat} {x : Int} (h : x = atL (clL d) c) : u8F (upd (clU d c) c x) = u8F (clU d (c + 1)) := u8F_congr fun k _ => by
 by_cases e : k = c
 ·subst e; simp only [clU, upd]; rw [if_pos (show k < k + 1 by omega), h]; simp
 ·simp only [clU, upd]
  rw [if_neg e]
  by_cases hk : k < c
  ·rw [if_pos hk, if_pos (by omega)]
  ·rw [if_neg hk, if_neg (by omega)]
theorem clU_all {d : DfaT} (hl : d.of.length = 256) : u8F (clU d 256) = u8L (clL d) := by
 apply List.ext_getElem (by rw [u8F_len, List.length_map, clL_len hl])
 intro k h1 h2
 rw [u8F_len] at h1
 have h3 : k < (clL d).length := by rw [clL_len hl]; exact h1
 rw [u8F_at, List.getElem_map]
 unfold clU
 rw [if_pos h1, atL_get (by simpa using h3)]
 simp
theorem cols_t {d : DfaT} (hsm : SmallD d) (hok : RightP d) {C : List Value} {an al ay : Option Addr} {cn cl cs : Nat} {rs : List Value} {G : PHeap} (O : OpenD G d C an al ay cn cl cs rs)
  {H : Heap} {R : Value → PHeap → Heap → Prop} (hR : ∀ G' v, PLe G G' → Sep G' (keys H) → Sl G' (Value.int .i64) v (nums (colL d)) → R v G' H) : FnT Tryz.prog 78 [.agg C.toArray] G H R := by
 have hCl := O.len
 have hCw := O.w
 have hCa := O.all
 have hw := width_pos hok
 have hle := width_le hok O.ofl
 rw [hw] at hCw
 refine FnT.sep ?_
 refine FnT.body tok [0, 1, 2] Tryz.func78 rfl (by kernel_rfl) (by kernel_rfl) (by show _ ≤ 7; simp) fun hsep => ?_
 rw [Tryz.results78]
 have hsE := hsep
 try simp only [zzs] at hsE
 repeat (obtain ⟨hsx, hsE⟩ := hsE)
 repeat' first
  | (with_reducible first | refine Nx.go ?_ | refine Bk.go (fun _ => ?_) fun _ => ?_)
  | (with_reducible refine NewB.mk2 fun nb hnb hnb1 hnb2 => ?_; try simp only [zzn] at hnb2)
  | simp -dsimp -implicitDefEqProofs (disch := first | assumption | (simp only [zzm]; done) | omega | (try with_reducible refine Row.adr (by assumption) ?_); simp only [zzl, Nat.reduceAdd]; first | done | omega) only [go_sem, ↓reduceIte, seval, -List.reduceReplicate, List.toList_toArray, hCl, hCw, hCa]
  | with_reducible refine numS_t (l := colL d) (by omega) (fun i hi H1 R1 hg hf hR1 => ?_) fun G2 v2 hle2 hs2 hsl2 => ?_
 ·refine col_t hsm hok O (by omega) hg hf ?_
  rw [← colL_at hi]; exact hR1
 ·unfold UpdR
  refine Upd.leave (H' := H) (by intro fsum; first | exact Nat.le_refl _ | (simp only [zzq]; omega)) ?_
  exact fun hle hs => hR G2 v2 hle2 hs2 hsl2
theorem Classes_t {d : DfaT} (hsm : SmallD d) {G : PHeap} {H : Heap} {R : Value → PHeap → Heap → Prop} {v : Value} (hv : IsD G d v)
  (hR : ∀ G', PLe G G' → Sep G' (keys H) → R (if boolOf (RightP d) = true then .tuple #[agg8 (nums (clL d)), .int .i64 (tabO (clL d)).length] else .tuple #[agg8 (List.replicate 256 0), .int .i64 0]) G' H) : FnT Tryz.prog 49 [v] G H R := by
 obtain ⟨C, an, al, ay, cn, cl, cs, rs, rfl, O⟩ := hv.opened
 have hCl := O.len
 have hCa := O.all
 have hCo := O.of
 refine FnT.sep ?_
 by_cases hok : RightP d
 ·have hb := boolOf_yes hok
  rw [if_pos hb] at hR
  have hcl := clL_len O.ofl
  have hu8 : (u8L (clL d)).length = 256 := by rw [List.length_map, hcl]
  have htk : List.take 256 (u8L (clL d)) = u8L (clL d) := List.take_of_length_le (by omega)
  refine FnT.body tok [0, 1, 2, 3, 4, 5, 6, 7, 10, 15, 16, 17] Tryz.func49 rfl (by kernel_rfl) (by kernel_rfl) (by show _ ≤ 32; simp) fun hsep => ?_
  rw [Tryz.results49]
  have hsE := hsep
  try simp only [zzs] at hsE
  repeat (obtain ⟨hsx, hsE⟩ := hsE)
  repeat' first
   | (with_reducible first | refine Nx.go ?_ | refine Bk.go (fun _ => ?_) fun _ => ?_)
   | ((with_reducible first | refine NewB.mk2 fun nb hnb hnb1 hnb2 => ?_ | refine NewRow.mk2 fun nb nsp ncap hnb hncap hnb1 hnb2 => ?_); try simp only [zzn] at hnb2)
   | simp -dsimp -implicitDefEqProofs (disch := first | assumption | (simp only [zzm]; done) | omega | (try with_reducible refine Row.adr (by assumption) ?_); simp only [zzl, Nat.reduceAdd]; first | done | omega) only [go_sem, ↓reduceIte, seval, -List.reduceReplicate, List.toList_toArray, hCl, hCa, hCo, hb, u8F_zero, u8F_len, u8F_one, u8F_over, u8F_take]
   | with_reducible refine right_t hsm O.is ?_
  rename_i b1 hb1 hb11 hb12 b2 hb2 hb21 hb22
  refine cols_t hsm hok O fun G2 v2 hle2 hs2 hsl2 => ?_
  obtain ⟨a2, c2, rfl, hr2, hc2⟩ := hsl2
  have hsE := hs2
  try simp only [zzs] at hsE
  repeat (obtain ⟨hsx, hsE⟩ := hsE)
  repeat' first
   | (with_reducible first | refine Nx.go ?_ | refine Bk.go (fun _ => ?_) fun _ => ?_)
   | ((with_reducible first | refine NewB.mk2 fun nb hnb hnb1 hnb2 => ?_ | refine NewRow.mk2 fun nb nsp ncap hnb hncap hnb1 hnb2 => ?_); try simp only [zzn] at hnb2)
   | simp -dsimp -implicitDefEqProofs (disch := first | assumption | (simp only [zzm]; done) | omega | (try with_reducible refine Row.adr (by assumption) ?_); simp only [zzl, Nat.reduceAdd]; first | done | omega) only [go_sem, ↓reduceIte, seval, -List.reduceReplicate, List.toList_toArray, hCl, hCa, hCo, hb, u8F_zero, u8F_len, u8F_one, u8F_over, u8F_take]
  have hnl := nums_len (colL d)
  have hnu8 : (u8L (nums (clL d))).length = 256 := by rw [List.length_map, nums_len, hcl]
  have hno1 : (u8L (nums (clL d))).all oneV = true := by rw [List.all_map]; exact List.all_eq_true.2 fun _ _ => rfl
  have hns : splice (u8F fun _ => 0) 0 (u8L (nums (clL d))) = u8L (nums (clL d)) := by rw [← u8F_nums hcl, u8F_over]
  have hnt : List.take 256 (u8L (nums (clL d))) = u8L (nums (clL d)) := List.take_of_length_le (by omega)
  have had : Adr a2 := hr2.adr (by rw [List.length_map, hnl]; have := width_pos hok; have := of_bound hok (List.getElem_mem (l := d.of) (n := 0) (by rw [O.ofl]; omega)); omega)
  have hofl := O.ofl
  have hu8o : (u8L d.of).length = 256 := by rw [List.length_map, hofl]
  have hw8 := width_le hok O.ofl
  refine Tri.loopU tok [0, 1, 2, 3, 4, 5, 6, 7, 10, 15, 16, 17] (by kernel_rfl) [1, 2, 3, 4, 5, 15, 16] (fun q G' fr H' => ∃ (c : Nat), c + q = 256 ∧ G' = G2 ∧ H' = (nb, .cells (u8F (clU d c)) [] 22) :: (b2, .cells (u8F fun _ => 0) [] 22) :: (b1, .cells C [] 27) :: H ∧ fr = [(1, .pointer (some ⟨b1, 0, none⟩)), (2, .pointer (some ⟨b2, 0, none⟩)), (3, .int .i64 0), (4, .pointer (some ⟨nb, 0, none⟩)), (5, .slice a2 (nums (colL d)).length c2), (15, agg8 d.of), (16, .int .i64 (c : Nat))]) (256) ?_ ?_
  ·exact Upd.now ⟨0, by omega, rfl, by rw [clU_zero], rfl⟩
  ·rintro q G1 fr H' hle hs1 ⟨c, hc, rfl, rfl, rfl⟩
   have hsE := hs1
   try simp only [zzs] at hsE
   repeat (obtain ⟨hsx, hsE⟩ := hsE)
   by_cases hc2 : c < 256
   ·obtain ⟨h3, h4, e, e1, e2⟩ := clL_at hok (i := c) (by omega)
    obtain ⟨q1, q2⟩ := O.ofb _ (List.getElem_mem (l := d.of) (n := c) (by omega))
    have hw : IntKind.u8.wrap ((nums (colL d))[(d.of[c]).toNat]) = (clL d)[c] := by
     rw [e]; obtain ⟨t, ht⟩ := Int.eq_ofNat_of_zero_le (e ▸ e1); rw [ht]; exact u8_wrap (by omega)
    have hput : splice (u8F (clU d c)) c [.int .u8 (clL d)[c]] = u8F (clU d (c + 1)) := by
     rw [u8F_putS hc2]; exact clU_succ (by rw [atL_get (by simpa using h4)]; simp)
    have hget : (u8L d.of)[c]? = some (.int .u8 d.of[c]) := by rw [List.getElem?_map, List.getElem?_eq_getElem (by omega)]; rfl
    repeat' first
     | (with_reducible first | refine Nx.go ?_ | refine Bk.go (fun _ => ?_) fun _ => ?_)
     | ((with_reducible first | refine NewB.mk2 fun nb hnb hnb1 hnb2 => ?_ | refine NewRow.mk2 fun nb nsp ncap hnb hncap hnb1 hnb2 => ?_); try simp only [zzn] at hnb2)
     | simp -dsimp -implicitDefEqProofs (disch := first | assumption | (simp only [zzm]; done) | omega | (try with_reducible refine Row.adr (by assumption) ?_); simp only [zzl, Nat.reduceAdd]; first | done | omega) only [go_sem, ↓reduceIte, seval, -List.reduceReplicate, List.toList_toArray, hCl, hCa, hCo, hb, u8F_len, u8F_one, u8F_over, u8F_take, hu8o, List.getElem_map, hofl, Row.obj hr2, hw, hput, hget, partL]
    exact Upd.now ⟨q - 1, by omega, c + 1, by omega, rfl, rfl, rfl⟩
   ·obtain rfl : c = 256 := by omega
    rw [clU_all hofl]
    repeat' first
     | (with_reducible first | refine Nx.go ?_ | refine Bk.go (fun _ => ?_) fun _ => ?_)
     | ((with_reducible first | refine NewB.mk2 fun nb hnb hnb1 hnb2 => ?_ | refine NewRow.mk2 fun nb nsp ncap hnb hncap hnb1 hnb2 => ?_); try simp only [zzn] at hnb2)
     | simp -dsimp -implicitDefEqProofs (disch := first | assumption | (simp only [zzm]; done) | omega | (try with_reducible refine Row.adr (by assumption) ?_); simp only [zzl, Nat.reduceAdd]; first | done | omega) only [go_sem, ↓reduceIte, seval, -List.reduceReplicate, List.toList_toArray, hCl, hCa, hCo, hb, u8F_len, u8F_one, u8F_over, u8F_take, hu8, htk, hnu8, hno1, hns, hnt]
     | with_reducible refine pnorm_t hcl ?_
    unfold UpdR
    refine Upd.leave (H' := H) (by intro fsum; first | exact Nat.le_refl _ | (simp only [zzq]; omega)) ?_
    exact fun _ hs => hR G1 hle2 hs
 ·have hb := boolOf_no hok
  rw [hb, if_neg (by simp)] at hR
  have h8 : (List.replicate 256 (Value.int .u8 0)) = u8L (List.replicate 256 0) := by rw [u8L, List.map_replicate]
  refine FnT.body tok [0, 1, 2, 3, 4, 5, 6, 7, 10, 15, 16, 17] Tryz.func49 rfl (by kernel_rfl) (by kernel_rfl) (by show _ ≤ 32; simp) fun hsep => ?_
  rw [Tryz.results49]
  have hsE := hsep
  try simp only [zzs] at hsE
  repeat (obtain ⟨hsx, hsE⟩ := hsE)
  repeat' first
   | (with_reducible first | refine Nx.go ?_ | refine Bk.go (fun _ => ?_) fun _ => ?_)
   | ((with_reducible first | refine NewB.mk2 fun nb hnb hnb1 hnb2 => ?_ | refine NewRow.mk2 fun nb nsp ncap hnb hncap hnb1 hnb2 => ?_); try simp only [zzn] at hnb2)
   | simp -dsimp -implicitDefEqProofs (disch := first | assumption | (simp only [zzm]; done) | omega | (try with_reducible refine Row.adr (by assumption) ?_); simp only [zzl, Nat.reduceAdd]; first | done | omega) only [go_sem, ↓reduceIte, seval, -List.reduceReplicate, List.toList_toArray, hCl, hCa, hCo, hb, u8F_zero, u8F_len, u8F_one, u8F_over, u8F_take]
   | with_reducible refine right_t hsm O.is ?_
  unfold UpdR
  refine Upd.leave (H' := H) (by intro fsum; first | exact Nat.le_refl _ | (simp only [zzq]; omega)) ?_
  rw [← u8F_zero, h8]
  exact fun _ hs => hR G (PLe.refl _) hs
end Go.Proofs.YtefkpedhbijhkaaGreatDoor
namespace Go.Proofs.YtefkpedhbijhkaaGreatDoor
open Go Go.V Go.Proofs
section
variable {α β : Type} [DecidableEq α] [DecidableEq β]
theorem tab_le {l : List α} {m : List β} (h : nums l = nums m) : (tabO m).length ≤ (tabO l).length := by
 rcases Nat.lt_or_ge (tabO l).length (tabO m).length with hlt | hge
 ·obtain ⟨c, hc, e⟩ := List.getElem_of_mem ((mem_tabO m).1 (List.getElem_mem hlt))
  have hp := place_get (tabO_nodup m) hlt
  have hx : (nums m)[c]'(by rw [nums_len]; exact hc) = ((tabO l).length : Nat) := by rw [nums_get hc, e, findF_some hp]
  have hcl : c < (nums m).length := by rw [nums_len]; exact hc
  have hmem : (nums m)[c] ∈ nums l := by rw [h]; exact List.getElem_mem hcl
  have := nums_bound hmem
  omega
 ·exact hge
theorem tab_same {l : List α} {m : List β} (h : nums l = nums m) : (tabO l).length = (tabO m).length := Nat.le_antisymm (tab_le h.symm) (tab_le h)
end
def mgL (d : DfaT) : List Int := (colL d).map (findF (colL d))
theorem mgL_len (d : DfaT) : (mgL d).length = (colL d).length := by simp [mgL]
theorem mgL_at {d : DfaT} {k : Nat} (h : k < (mgL d).length) : ∃ (x : Nat) (h2 : k < (colL d).length) (h3 : x < (colL d).length), (mgL d)[k] = (x : Nat) ∧ x ≤ k ∧ (colL d)[x] = (colL d)[k] ∧ ∀ y (h4 : y < x), (colL d)[y] ≠ (colL d)[k] := by
 have h2 : k < (colL d).length := by rw [mgL_len] at h; exact h
 obtain ⟨x, hx⟩ := place_mem (List.getElem_mem h2)
 obtain ⟨hx1, hx2⟩ := place_some hx
 rw [List.getElem?_eq_getElem hx1, Option.some.injEq] at hx2
 have hx' := hx
 unfold place at hx'
 rw [List.findIdx?_eq_some_iff_getElem] at hx'
 obtain ⟨h5, h6, h7⟩ := hx'
 have hne : ∀ y (h4 : y < x), (colL d)[y] ≠ (colL d)[k] := fun y h4 e => by
  have := h7 y h4
  simp only [e, decide_true, not_true_eq_false] at this
 refine ⟨x, h2, hx1, by simp only [mgL, List.getElem_map]; exact findF_some hx, ?_, hx2, hne⟩
 rcases Nat.lt_or_ge k x with h8 | h8
 ·exact absurd rfl (hne k h8)
 ·exact h8
def clR (d : DfaT) : List Int := d.of.map fun o => atL (mgL d) o
theorem clR_len {d : DfaT} (hl : d.of.length = 256) : (clR d).length = 256 := by unfold clR; rw [List.length_map, hl]
theorem clR_at {d : DfaT} (hok : RightP d) {i : Nat} (hi : i < d.of.length) : ∃ (h : (d.of[i]).toNat < (mgL d).length) (h2 : i < (clR d).length), (clR d)[i] = (mgL d)[(d.of[i]).toNat] ∧ 0 ≤ (clR d)[i] ∧ (clR d)[i] < (colL d).length := by
 obtain ⟨h1, h2⟩ := of_bound hok (List.getElem_mem hi)
 have hw := width_pos hok
 have h3 : (d.of[i]).toNat < (mgL d).length := by rw [mgL_len]; omega
 have h4 : i < (clR d).length := by unfold clR; rw [List.length_map]; exact hi
 have e : (clR d)[i] = (mgL d)[(d.of[i]).toNat] := by simp only [clR, List.getElem_map]; rw [atL_get h3]
 obtain ⟨x, q1, q2, q3, q4, q5, q6⟩ := mgL_at h3
 exact ⟨h3, h4, e, by rw [e, q3]; omega, by rw [e, q3]; omega⟩
theorem clR_nums {d : DfaT} (hok : RightP d) : nums (clR d) = nums (clL d) := by
 have hlen : (clR d).length = (clL d).length := by unfold clR clL; rw [List.length_map, List.length_map]
 refine nums_same hlen fun i j hi hj => ?_
 have hi2 : i < d.of.length := by unfold clR at hi; rwa [List.length_map] at hi
 have hj2 : j < d.of.length := by unfold clR at hj; rwa [List.length_map] at hj
 obtain ⟨a1, a2, a3, _⟩ := clR_at hok hi2
 obtain ⟨b1, b2, b3, _⟩ := clR_at hok hj2
 obtain ⟨c1, c2, c3, _⟩ := clL_at hok hi2
 obtain ⟨e1, e2, e3, _⟩ := clL_at hok hj2
 have g1 : (d.of[i]).toNat < (colL d).length := by rw [nums_len] at c1; exact c1
 have g2 : (d.of[j]).toNat < (colL d).length := by rw [nums_len] at e1; exact e1
 rw [a3, b3, c3, e3, nums_iff g1 g2]
 simp only [mgL, List.getElem_map]
 exact ⟨fun h => findF_inj (List.getElem_mem g1) (List.getElem_mem g2) h, fun h => by rw [h]⟩
def clV (d : DfaT) (c k : Nat) : Int := if k < c then atL (clR d) k else 0
theorem clV_zero (d : DfaT) : u8F (fun _ => 0) = u8F (clV d 0) := u8F_congr fun k _ => by unfold clV; rw [if_neg (by omega)]
theorem clV_succ {d : DfaT} {c : Nat} {x : Int} (h : x = atL (clR d) c) : u8F (upd (clV d c) c x) = u8F (clV d (c + 1)) := u8F_congr fun k _ => by
 by_cases e : k = c
 ·subst e; simp only [clV, upd]; rw [if_pos (show k < k + 1 by omega), h]; simp
 ·simp only [clV, upd]
  rw [if_neg e]
  by_cases hk : k < c
  ·rw [if_pos hk, if_pos (by omega)]
  ·rw [if_neg hk, if_neg (by omega)]
theorem clV_all {d : DfaT} (hl : d.of.length = 256) : u8F (clV d 256) = u8L (clR d) := by
 apply List.ext_getElem (by rw [u8F_len, List.length_map, clR_len hl])
 intro k h1 h2
 rw [u8F_len] at h1
 have h3 : k < (clR d).length := by rw [clR_len hl]; exact h1
 rw [u8F_at, List.getElem_map]
 unfold clV
 rw [if_pos h1, atL_get (by simpa using h3)]
 simp
theorem alike_t {d : DfaT} (hsm : SmallD d) (hok : RightP d) {C : List Value} {an al ay : Option Addr} {cn cl cs : Nat} {rs : List Value} {G : PHeap} (O : OpenD G d C an al ay cn cl cs rs) {j k : Nat} (hj : (j : Int) < d.width) (hk : (k : Int) < d.width)
  {H : Heap} {R : Value → PHeap → Heap → Prop} (hR : R (.bool (decide (colB d j = colB d k))) G H) : FnT Tryz.prog 112 [.agg C.toArray, .int .i64 (j : Nat), .int .i64 (k : Nat)] G H R := by
 obtain ⟨hk1, hk2, hk3, hk4, hk5, hk6, hk7⟩ := id hok
 have hCl := O.len
 have hCn := O.n
 have hCa := O.all
 have hrnl := O.rnl
 have hbnd : ∀ s (h : s < d.next.length), (atL d.next[s] j).toNat < 16777216 ∧ (atL d.next[s] k).toNat < 16777216 := fun s h => by
  obtain ⟨hw1, hw2, hw3, hw4⟩ := hk7 s h (by omega)
  have e1 : ((j : Int)).toNat < (d.next[s]).length := by omega
  have e2 : ((k : Int)).toNat < (d.next[s]).length := by omega
  rw [atL_get e1, atL_get e2]
  have x1 := hw4 _ (List.getElem_mem e1)
  have x2 := hw4 _ (List.getElem_mem e2)
  omega
 have hiff := colT_inj hbnd
 refine FnT.body tok [0, 1, 2, 3, 6, 7, 12, 31] Tryz.func112 rfl (by kernel_rfl) (by kernel_rfl) (by show _ ≤ 32; simp) fun hsep => ?_
 rw [Tryz.results112]
 have hsE := hsep
 try simp only [zzs] at hsE
 repeat (obtain ⟨hsx, hsE⟩ := hsE)
 repeat' first
  | (with_reducible first | refine Nx.go ?_ | refine Bk.go (fun _ => ?_) fun _ => ?_)
  | (with_reducible refine NewB.mk2 fun nb hnb hnb1 hnb2 => ?_; try simp only [zzn] at hnb2)
  | simp -dsimp -implicitDefEqProofs (disch := first | assumption | (simp only [zzm]; done) | omega | (try with_reducible refine Row.adr (by assumption) ?_); simp only [zzl, Nat.reduceAdd]; first | done | omega) only [go_sem, ↓reduceIte, seval, -List.reduceReplicate, List.toList_toArray, hCl, hCa]
 refine Tri.loopU tok [0, 1, 2, 3, 6, 7, 12, 31] (by kernel_rfl) [1, 2, 3, 7] (fun q G' fr H' => ∃ (s : Nat), s + q = d.next.length ∧ colT d j s = colT d k s ∧ G' = G ∧ H' = (nb, .cells C [] 27) :: H ∧ fr = [(1, .int .i64 (j : Nat)), (2, .int .i64 (k : Nat)), (3, .pointer (some ⟨nb, 0, none⟩)), (7, .int .i64 (s : Nat))]) (d.next.length) ?_ ?_
 ·exact Upd.now ⟨0, by omega, rfl, rfl, rfl, rfl⟩
 ·rintro q G1 fr H' hle hs1 ⟨s, hsq, hpre, rfl, rfl, rfl⟩
  have hsE := hs1
  try simp only [zzs] at hsE
  repeat (obtain ⟨hsx, hsE⟩ := hsE)
  by_cases hsn : s < d.next.length
  ·have had : Adr an := O.rn.adr (by omega)
   obtain ⟨b, cc, e1, e2, e3⟩ := O.rs s hsn (by omega)
   obtain ⟨hw1, hw2, hw3, hw4⟩ := hk7 s hsn (by omega)
   have hjr : j < (d.next[s]).length := by omega
   have hkr : k < (d.next[s]).length := by omega
   have had2 : Adr b := e2.adr (by rw [List.length_map]; omega)
   have haj : (atL d.next[s] j).toNat = ((d.next[s])[j]).toNat := by rw [atL_get (by simpa using hjr)]; simp only [Int.toNat_natCast]
   have hak : (atL d.next[s] k).toNat = ((d.next[s])[k]).toNat := by rw [atL_get (by simpa using hkr)]; simp only [Int.toNat_natCast]
   have x1 := hw4 _ (List.getElem_mem hjr)
   have x2 := hw4 _ (List.getElem_mem hkr)
   by_cases he : (d.next[s])[j] = (d.next[s])[k]
   ·repeat' first
     | (with_reducible first | refine Nx.go ?_ | refine Bk.go (fun _ => ?_) fun _ => ?_)
     | (with_reducible refine NewB.mk2 fun nb hnb hnb1 hnb2 => ?_; try simp only [zzn] at hnb2)
     | with_reducible refine Tri.drawM tok mixed [0, 1, 2, 3, 6, 7, 12, 31] 4 [1, 4, 7, 9, 12, 15] (.op 0 .plain (.op 1 .held (.op 2 .plain (.op 3 .plain (.op 4 .held (.op 5 .plain (.op 6 .plain (.op 7 .held (.op 8 .plain (.op 9 .held (.op 10 .plain (.op 11 .plain (.op 12 .held (.op 13 .plain (.op 14 .plain (.op 15 .held (.op 16 .plain .nil))))))))))))))))) (by kernel_rfl) _ (List.Sublist.refl _) ?_
     | simp -dsimp -implicitDefEqProofs (disch := first | assumption | (simp only [zzm]; done) | omega | (try with_reducible refine Row.adr (by assumption) ?_); simp only [zzl, Nat.reduceAdd]; first | done | omega) only [go_sem, ↓reduceIte, seval, -List.reduceReplicate, hCl, hCn, Row.obj O.rn, e1, Row.obj e2, List.getElem_map, he]
    exact Upd.now ⟨q - 1, by omega, s + 1, by omega, by rw [colT_succ d j hsn, colT_succ d k hsn, hpre, haj, hak, he], rfl, rfl, rfl⟩
   ·have hne : ¬ colB d j = colB d k := fun h => by
     have := (hiff d.next.length (Nat.le_refl _)).1 h s hsn hsn
     rw [haj, hak] at this
     omega
    rw [decide_eq_false hne] at hR
    repeat' first
     | (with_reducible first | refine Nx.go ?_ | refine Bk.go (fun _ => ?_) fun _ => ?_)
     | (with_reducible refine NewB.mk2 fun nb hnb hnb1 hnb2 => ?_; try simp only [zzn] at hnb2)
     | with_reducible refine Tri.drawM tok mixed [0, 1, 2, 3, 6, 7, 12, 31] 4 [1, 4, 7, 9, 12, 15] (.op 0 .plain (.op 1 .held (.op 2 .plain (.op 3 .plain (.op 4 .held (.op 5 .plain (.op 6 .plain (.op 7 .held (.op 8 .plain (.op 9 .held (.op 10 .plain (.op 11 .plain (.op 12 .held (.op 13 .plain (.op 14 .plain (.op 15 .held (.op 16 .plain .nil))))))))))))))))) (by kernel_rfl) _ (List.Sublist.refl _) ?_
     | simp -dsimp -implicitDefEqProofs (disch := first | assumption | (simp only [zzm]; done) | omega | (try with_reducible refine Row.adr (by assumption) ?_); simp only [zzl, Nat.reduceAdd]; first | done | omega) only [go_sem, ↓reduceIte, seval, -List.reduceReplicate, hCl, hCn, Row.obj O.rn, e1, Row.obj e2, List.getElem_map, he]
    all_goals refine Upd.finL ?_ hR ?_
    any_goals (intro fsum; first | exact Nat.le_refl _ | (simp only [zzq]; omega))
    rfl
  ·obtain rfl : s = d.next.length := by omega
   have hy : colB d j = colB d k := hpre
   rw [decide_eq_true hy] at hR
   repeat' first
    | (with_reducible first | refine Nx.go ?_ | refine Bk.go (fun _ => ?_) fun _ => ?_)
    | (with_reducible refine NewB.mk2 fun nb hnb hnb1 hnb2 => ?_; try simp only [zzn] at hnb2)
    | simp -dsimp -implicitDefEqProofs (disch := first | assumption | (simp only [zzm]; done) | omega | (try with_reducible refine Row.adr (by assumption) ?_); simp only [zzl, Nat.reduceAdd]; first | done | omega) only [go_sem, ↓reduceIte, seval, -List.reduceReplicate, hCl, hCn]
   all_goals refine Upd.finL ?_ hR ?_
   any_goals (intro fsum; first | exact Nat.le_refl _ | (simp only [zzq]; omega))
   rfl
theorem merged_t {d : DfaT} (hsm : SmallD d) (hok : RightP d) {C : List Value} {an al ay : Option Addr} {cn cl cs : Nat} {rs : List Value} {G : PHeap} (O : OpenD G d C an al ay cn cl cs rs)
  {H : Heap} {R : Value → PHeap → Heap → Prop} (hR : ∀ G' v, PLe G G' → Sep G' (keys H) → Sl G' (Value.int .i64) v (mgL d) → R v G' H) : FnT Tryz.prog 87 [.agg C.toArray] G H R := by
 have hCl := O.len
 have hCw := O.w
 have hCa := O.all
 have hw := width_pos hok
 have hwl := width_le hok O.ofl
 have hml := mgL_len d
 have hw' := hw
 rw [hw] at hCw
 refine FnT.sep ?_
 refine FnT.body tok [0, 1, 2, 3, 4, 5, 10, 17] Tryz.func87 rfl (by kernel_rfl) (by kernel_rfl) (by show _ ≤ 25; simp) fun hsep => ?_
 rw [Tryz.results87]
 have hsE := hsep
 try simp only [zzs] at hsE
 repeat (obtain ⟨hsx, hsE⟩ := hsE)
 repeat' first
  | (with_reducible first | refine Nx.go ?_ | refine Bk.go (fun _ => ?_) fun _ => ?_)
  | ((with_reducible first | refine NewB.mk2 fun nb hnb hnb1 hnb2 => ?_ | refine NewRow.mk2 fun nb nsp ncap hnb hncap hnb1 hnb2 => ?_); try simp only [zzn] at hnb2)
  | simp -dsimp -implicitDefEqProofs (disch := first | assumption | (simp only [zzm]; done) | omega | (try with_reducible refine Row.adr (by assumption) ?_); simp only [zzl, Nat.reduceAdd]; first | done | omega) only [go_sem, ↓reduceIte, seval, -List.reduceReplicate, List.toList_toArray, hCl, hCa, hCw]
 rename_i b1 hb1 hb11 hb12
 revert nb
 intro b0 hb0 hb01 hb02
 refine Tri.loopU tok [0, 1, 2, 3, 4, 5, 10, 17] (by kernel_rfl) [1, 2, 3, 4] (fun q G' fr H' => ∃ (k b3 c3 : Nat) (sp : List Value), k + q = (colL d).length ∧ G' = G ∧ k + sp.length = c3 ∧ H' = (b3, .cells (((mgL d).take k).map (Value.int .i64)) sp 3) :: (b1, .cells C [] 27) :: H ∧ fr = [(1, .pointer (some ⟨b1, 0, none⟩)), (2, .slice none 0 0), (3, .slice (some ⟨b3, 0, none⟩) k c3), (4, .int .i64 (k : Nat))]) ((colL d).length) ?_ ?_
 ·exact Upd.now ⟨0, b0, 0, [], by omega, rfl, rfl, rfl, rfl⟩
 ·rintro q G1 fr H' hle hs1 ⟨k, b3, c3, sp, hkq, rfl, hsp, rfl, rfl⟩
  have hsE := hs1
  try simp only [zzs] at hsE
  repeat (obtain ⟨hsx, hsE⟩ := hsE)
  have hlt : k ≤ (colL d).length → ((mgL d).take k).length = k := fun h => by rw [List.length_take]; omega
  by_cases hkn : k < (colL d).length
  ·have hlt0 := hlt (by omega)
   obtain ⟨x, q1, q2, q3, q4, q5, q6⟩ := mgL_at (d := d) (k := k) (by omega)
   have hkw : (k : Int) < d.width := by omega
   repeat' first
    | (with_reducible first | refine Nx.go ?_ | refine Bk.go (fun _ => ?_) fun _ => ?_)
    | ((with_reducible first | refine NewB.mk2 fun nb hnb hnb1 hnb2 => ?_ | refine NewRow.mk2 fun nb nsp ncap hnb hncap hnb1 hnb2 => ?_); try simp only [zzn] at hnb2)
    | simp -dsimp -implicitDefEqProofs (disch := first | assumption | (simp only [zzm]; done) | omega | (try with_reducible refine Row.adr (by assumption) ?_); simp only [zzl, Nat.reduceAdd]; first | done | omega) only [go_sem, ↓reduceIte, seval, -List.reduceReplicate, hCl, hCw]
   refine Tri.loopU tok [0, 1, 2, 3, 4, 5, 10, 17] (by kernel_rfl) [1, 2, 3, 4, 5] (fun q2 G' fr H' => ∃ (j : Nat), j + q2 = x + 1 ∧ j ≤ x ∧ G' = G1 ∧ H' = (b3, .cells (((mgL d).take k).map (Value.int .i64)) sp 3) :: (b1, .cells C [] 27) :: H ∧ fr = [(1, .pointer (some ⟨b1, 0, none⟩)), (2, .slice none 0 0), (3, .slice (some ⟨b3, 0, none⟩) k c3), (4, .int .i64 (k : Nat)), (5, .int .i64 (j : Nat))]) ((x + 1)) ?_ ?_
   ·exact Upd.now ⟨0, by omega, by omega, rfl, rfl, rfl⟩
   ·rintro q2 G2 fr H' hle2 hs2 ⟨j, hjq, hjx, rfl, rfl, rfl⟩
    have hsE := hs2
    try simp only [zzs] at hsE
    repeat (obtain ⟨hsx, hsE⟩ := hsE)
    have hjw : (j : Int) < d.width := by omega
    have hjc : j < (colL d).length := by omega
    by_cases e : j = x
    ·subst e
     have hdec : decide (colB d j = colB d k) = true := decide_eq_true (by rw [← colL_at hjc, ← colL_at hkn]; exact q5)
     have hmk : ((mgL d).take (k + 1)).map (Value.int .i64) = ((mgL d).take k).map (Value.int .i64) ++ [Value.int .i64 (j : Nat)] := by
      rw [List.take_succ_eq_append_getElem (by omega), List.map_append, q3]; rfl
     have hr1 : ∀ v : Value, List.replicate 1 v = [v] := fun _ => rfl
     repeat' first
      | (with_reducible first | refine Nx.go ?_ | refine Bk.go (fun _ => ?_) fun _ => ?_)
      | ((with_reducible first | refine NewB.mk2 fun nb hnb hnb1 hnb2 => ?_ | refine NewRow.mk2 fun nb nsp ncap hnb hncap hnb1 hnb2 => ?_); try simp only [zzn] at hnb2)
      | simp -dsimp -implicitDefEqProofs (disch := first | assumption | (simp only [zzm]; done) | omega | (try with_reducible refine Row.adr (by assumption) ?_); simp only [zzl, Nat.reduceAdd]; first | done | omega) only [go_sem, ↓reduceIte, seval, -List.reduceReplicate, hCl, hCa, List.toList_toArray, hdec, hr1, List.length_map, hlt0]
      | with_reducible refine alike_t hsm hok O hjw hkw ?_
     rw [← hmk]
     exact Upd.go (H' := (nb, .cells (((mgL d).take (k + 1)).map (Value.int .i64)) nsp 3) :: (b1, .cells C [] 27) :: H) (by intro fsum; first | exact Nat.le_refl _ | (simp only [zzq]; omega)) (Upd.now ⟨q - 1, by omega, k + 1, nb, ncap, nsp, by omega, rfl, by omega, rfl, rfl⟩)
    ·have hdec : decide (colB d j = colB d k) = false := decide_eq_false (by rw [← colL_at hjc, ← colL_at hkn]; exact q6 j (by omega))
     repeat' first
      | (with_reducible first | refine Nx.go ?_ | refine Bk.go (fun _ => ?_) fun _ => ?_)
      | ((with_reducible first | refine NewB.mk2 fun nb hnb hnb1 hnb2 => ?_ | refine NewRow.mk2 fun nb nsp ncap hnb hncap hnb1 hnb2 => ?_); try simp only [zzn] at hnb2)
      | simp -dsimp -implicitDefEqProofs (disch := first | assumption | (simp only [zzm]; done) | omega | (try with_reducible refine Row.adr (by assumption) ?_); simp only [zzl, Nat.reduceAdd]; first | done | omega) only [go_sem, ↓reduceIte, seval, -List.reduceReplicate, hCl, hCa, List.toList_toArray, hdec]
      | with_reducible refine alike_t hsm hok O hjw hkw ?_
     exact Upd.now ⟨q2 - 1, by omega, j + 1, by omega, by omega, rfl, rfl, rfl⟩
  ·obtain rfl : k = (colL d).length := by omega
   have hall : (mgL d).take (colL d).length = mgL d := List.take_of_length_le (by omega)
   rw [hall]
   repeat' first
    | (with_reducible first | refine Nx.go ?_ | refine Bk.go (fun _ => ?_) fun _ => ?_)
    | ((with_reducible first | refine NewB.mk2 fun nb hnb hnb1 hnb2 => ?_ | refine NewRow.mk2 fun nb nsp ncap hnb hncap hnb1 hnb2 => ?_); try simp only [zzn] at hnb2)
    | simp -dsimp -implicitDefEqProofs (disch := first | assumption | (simp only [zzm]; done) | omega | (try with_reducible refine Row.adr (by assumption) ?_); simp only [zzl, Nat.reduceAdd]; first | done | omega) only [go_sem, ↓reduceIte, seval, -List.reduceReplicate, hCl, hCw]
   unfold UpdR
   refine Upd.go (H' := (b3, .cells ((mgL d).map (Value.int .i64)) sp 3) :: H) (by intro fsum; first | exact Nat.le_refl _ | (simp only [zzq]; omega)) (Upd.shareRow (by assumption) fun G3 hle3 hs3 hr3 => ?_)
   exact fun hle hs => hR _ _ hle3 hs ⟨some ⟨b3, 0, none⟩, c3, by rw [hml], hr3, by omega⟩
theorem rClasses_t {d : DfaT} (hsm : SmallD d) {G : PHeap} {H : Heap} {R : Value → PHeap → Heap → Prop} {v : Value} (hv : IsD G d v)
  (hR : ∀ G', PLe G G' → Sep G' (keys H) → R (if boolOf (RightP d) = true then .tuple #[agg8 (nums (clL d)), .int .i64 (tabO (clL d)).length] else .tuple #[agg8 (List.replicate 256 0), .int .i64 0]) G' H) : FnT Tryz.prog 56 [v] G H R := by
 obtain ⟨C, an, al, ay, cn, cl, cs, rs, rfl, O⟩ := hv.opened
 have hCl := O.len
 have hCa := O.all
 have hCo := O.of
 refine FnT.sep ?_
 by_cases hok : RightP d
 ·have hb := boolOf_yes hok
  rw [if_pos hb, ← clR_nums hok, ← tab_same (clR_nums hok)] at hR
  have hcl := clR_len O.ofl
  have hclb : ∀ x ∈ clR d, 0 ≤ x ∧ x ≤ 255 := fun x hx => by
   obtain ⟨i, hi, e⟩ := List.getElem_of_mem hx
   obtain ⟨h3, h4, e', e1, e2⟩ := clR_at hok (i := i) (by rw [O.ofl]; omega)
   have := width_le hok O.ofl
   rw [← e]; omega
  have hu8 : (u8L (clR d)).length = 256 := by rw [List.length_map, hcl]
  have htk : List.take 256 (u8L (clR d)) = u8L (clR d) := List.take_of_length_le (by omega)
  refine FnT.body tok [0, 1, 2, 3, 4, 5, 6, 10, 15] Tryz.func56 rfl (by kernel_rfl) (by kernel_rfl) (by show _ ≤ 32; simp) fun hsep => ?_
  rw [Tryz.results56]
  have hsE := hsep
  try simp only [zzs] at hsE
  repeat (obtain ⟨hsx, hsE⟩ := hsE)
  repeat' first
   | (with_reducible first | refine Nx.go ?_ | refine Bk.go (fun _ => ?_) fun _ => ?_)
   | ((with_reducible first | refine NewB.mk2 fun nb hnb hnb1 hnb2 => ?_ | refine NewRow.mk2 fun nb nsp ncap hnb hncap hnb1 hnb2 => ?_); try simp only [zzn] at hnb2)
   | simp -dsimp -implicitDefEqProofs (disch := first | assumption | (simp only [zzm]; done) | omega | (try with_reducible refine Row.adr (by assumption) ?_); simp only [zzl, Nat.reduceAdd]; first | done | omega) only [go_sem, ↓reduceIte, seval, -List.reduceReplicate, List.toList_toArray, hCl, hCa, hCo, hb, u8F_zero, u8F_len, u8F_one, u8F_over, u8F_take]
  rename_i b1 hb1 hb11 hb12 b2 hb2 hb21 hb22
  revert nb
  intro b4 hb4 hb41 hb42
  refine rright_t hsm O.is fun G2 hle2 hs2 => ?_
  rw [hb]
  have O2 := O.mono hle2
  have hsE := hs2
  try simp only [zzs] at hsE
  repeat (obtain ⟨hsx, hsE⟩ := hsE)
  repeat' first
   | (with_reducible first | refine Nx.go ?_ | refine Bk.go (fun _ => ?_) fun _ => ?_)
   | ((with_reducible first | refine NewB.mk2 fun nb hnb hnb1 hnb2 => ?_ | refine NewRow.mk2 fun nb nsp ncap hnb hncap hnb1 hnb2 => ?_); try simp only [zzn] at hnb2)
   | simp -dsimp -implicitDefEqProofs (disch := first | assumption | (simp only [zzm]; done) | omega | (try with_reducible refine Row.adr (by assumption) ?_); simp only [zzl, Nat.reduceAdd]; first | done | omega) only [go_sem, ↓reduceIte, seval, -List.reduceReplicate, List.toList_toArray, hCl, hCa, hCo, hb, u8F_zero, u8F_len, u8F_one, u8F_over, u8F_take]
  refine merged_t hsm hok O2 fun G3 v3 hle3 hs3 hsl3 => ?_
  obtain ⟨a2, c2, rfl, hr2, hc2⟩ := hsl3
  have hsE := hs3
  try simp only [zzs] at hsE
  repeat (obtain ⟨hsx, hsE⟩ := hsE)
  repeat' first
   | (with_reducible first | refine Nx.go ?_ | refine Bk.go (fun _ => ?_) fun _ => ?_)
   | ((with_reducible first | refine NewB.mk2 fun nb hnb hnb1 hnb2 => ?_ | refine NewRow.mk2 fun nb nsp ncap hnb hncap hnb1 hnb2 => ?_); try simp only [zzn] at hnb2)
   | simp -dsimp -implicitDefEqProofs (disch := first | assumption | (simp only [zzm]; done) | omega | (try with_reducible refine Row.adr (by assumption) ?_); simp only [zzl, Nat.reduceAdd]; first | done | omega) only [go_sem, ↓reduceIte, seval, -List.reduceReplicate, List.toList_toArray, hCl, hCa, hCo, hb, u8F_zero, u8F_len, u8F_one, u8F_over, u8F_take]
  have hnl := mgL_len d
  have hnu8 : (u8L (nums (clR d))).length = 256 := by rw [List.length_map, nums_len, hcl]
  have hno1 : (u8L (nums (clR d))).all oneV = true := by rw [List.all_map]; exact List.all_eq_true.2 fun _ _ => rfl
  have hns : splice (u8F fun _ => 0) 0 (u8L (nums (clR d))) = u8L (nums (clR d)) := by rw [← u8F_nums hcl, u8F_over]
  have hnt : List.take 256 (u8L (nums (clR d))) = u8L (nums (clR d)) := List.take_of_length_le (by omega)
  have had : Adr a2 := hr2.adr (by rw [List.length_map, hnl]; have := width_pos hok; have := of_bound hok (List.getElem_mem (l := d.of) (n := 0) (by rw [O.ofl]; omega)); omega)
  have hofl := O.ofl
  have hu8o : (u8L d.of).length = 256 := by rw [List.length_map, hofl]
  have hw8 := width_le hok O.ofl
  refine Tri.loopU tok [0, 1, 2, 3, 4, 5, 6, 10, 15] (by kernel_rfl) [1, 2, 3, 4, 5, 6] (fun q G' fr H' => ∃ (c : Nat), c + q = 256 ∧ G' = G3 ∧ H' = (b4, .cells (u8F (clV d c)) [] 22) :: (b2, .cells (u8F fun _ => 0) [] 22) :: (b1, .cells C [] 27) :: H ∧ fr = [(1, .pointer (some ⟨b1, 0, none⟩)), (2, .pointer (some ⟨b2, 0, none⟩)), (3, .int .i64 0), (4, .pointer (some ⟨b4, 0, none⟩)), (5, .slice a2 (mgL d).length c2), (6, .int .i64 (c : Nat))]) (256) ?_ ?_
  ·exact Upd.now ⟨0, by omega, rfl, by rw [clV_zero], rfl⟩
  ·rintro q G1 fr H' hle hs1 ⟨c, hc, rfl, rfl, rfl⟩
   have hsE := hs1
   try simp only [zzs] at hsE
   repeat (obtain ⟨hsx, hsE⟩ := hsE)
   by_cases hc2 : c < 256
   ·obtain ⟨h3, h4, e, e1, e2⟩ := clR_at hok (i := c) (by omega)
    obtain ⟨q1, q2⟩ := O.ofb _ (List.getElem_mem (l := d.of) (n := c) (by omega))
    have hw : IntKind.u8.wrap ((mgL d)[(d.of[c]).toNat]) = (clR d)[c] := by
     rw [e]; obtain ⟨t, ht⟩ := Int.eq_ofNat_of_zero_le (e ▸ e1); rw [ht]; exact u8_wrap (by omega)
    have hput : splice (u8F (clV d c)) c [.int .u8 (clR d)[c]] = u8F (clV d (c + 1)) := by
     rw [u8F_putS hc2]; exact clV_succ (by rw [atL_get (by simpa using h4)]; simp)
    have hget : (C.take 256)[c]? = some (.int .u8 d.of[c]) := by rw [hCo, List.getElem?_map, List.getElem?_eq_getElem (by omega)]; rfl
    have hgetC : C[c]? = some (.int .u8 d.of[c]) := by rw [← hget, List.getElem?_take, if_pos hc2]
    repeat' first
     | (with_reducible first | refine Nx.go ?_ | refine Bk.go (fun _ => ?_) fun _ => ?_)
     | ((with_reducible first | refine NewB.mk2 fun nb hnb hnb1 hnb2 => ?_ | refine NewRow.mk2 fun nb nsp ncap hnb hncap hnb1 hnb2 => ?_); try simp only [zzn] at hnb2)
     | simp -dsimp -implicitDefEqProofs (disch := first | assumption | (simp only [zzm]; done) | omega | (try with_reducible refine Row.adr (by assumption) ?_); simp only [zzl, Nat.reduceAdd]; first | done | omega) only [go_sem, ↓reduceIte, seval, -List.reduceReplicate, List.toList_toArray, hCl, hCa, hCo, hb, u8F_len, u8F_one, u8F_over, u8F_take, hu8o, List.getElem_map, hofl, Row.obj hr2, hw, hput, hgetC]
    exact Upd.now ⟨q - 1, by omega, c + 1, by omega, rfl, rfl, rfl⟩
   ·obtain rfl : c = 256 := by omega
    rw [clV_all hofl]
    repeat' first
     | (with_reducible first | refine Nx.go ?_ | refine Bk.go (fun _ => ?_) fun _ => ?_)
     | ((with_reducible first | refine NewB.mk2 fun nb hnb hnb1 hnb2 => ?_ | refine NewRow.mk2 fun nb nsp ncap hnb hncap hnb1 hnb2 => ?_); try simp only [zzn] at hnb2)
     | simp -dsimp -implicitDefEqProofs (disch := first | assumption | (simp only [zzm]; done) | omega | (try with_reducible refine Row.adr (by assumption) ?_); simp only [zzl, Nat.reduceAdd]; first | done | omega) only [go_sem, ↓reduceIte, seval, -List.reduceReplicate, List.toList_toArray, hCl, hCa, hCo, hb, u8F_len, u8F_one, u8F_over, u8F_take, hu8, htk, hnu8, hno1, hns, hnt]
    refine rpnorm_t hcl hclb fun G4 hle4 hs4 => ?_
    have hsE := hs4
    try simp only [zzs] at hsE
    repeat (obtain ⟨hsx, hsE⟩ := hsE)
    repeat' first
     | (with_reducible first | refine Nx.go ?_ | refine Bk.go (fun _ => ?_) fun _ => ?_)
     | ((with_reducible first | refine NewB.mk2 fun nb hnb hnb1 hnb2 => ?_ | refine NewRow.mk2 fun nb nsp ncap hnb hncap hnb1 hnb2 => ?_); try simp only [zzn] at hnb2)
     | simp -dsimp -implicitDefEqProofs (disch := first | assumption | (simp only [zzm]; done) | omega | (try with_reducible refine Row.adr (by assumption) ?_); simp only [zzl, Nat.reduceAdd]; first | done | omega) only [go_sem, ↓reduceIte, seval, -List.reduceReplicate, List.toList_toArray, hCl, hCa, hCo, hb, u8F_len, u8F_one, u8F_over, u8F_take, hu8, htk, hnu8, hno1, hns, hnt]
    unfold UpdR
    refine Upd.go (H' := H) (by intro fsum; first | exact Nat.le_refl _ | (simp only [zzq]; omega)) (Upd.now ?_)
    exact fun _ hs => hR G4 ((hle2.trans hle3).trans hle4) hs
 ·have hb := boolOf_no hok
  rw [hb, if_neg (by simp)] at hR
  have h8 : (List.replicate 256 (Value.int .u8 0)) = u8L (List.replicate 256 0) := by rw [u8L, List.map_replicate]
  refine FnT.body tok [0, 1, 2, 3, 4, 5, 6, 10, 15] Tryz.func56 rfl (by kernel_rfl) (by kernel_rfl) (by show _ ≤ 32; simp) fun hsep => ?_
  rw [Tryz.results56]
  have hsE := hsep
  try simp only [zzs] at hsE
  repeat (obtain ⟨hsx, hsE⟩ := hsE)
  repeat' first
   | (with_reducible first | refine Nx.go ?_ | refine Bk.go (fun _ => ?_) fun _ => ?_)
   | ((with_reducible first | refine NewB.mk2 fun nb hnb hnb1 hnb2 => ?_ | refine NewRow.mk2 fun nb nsp ncap hnb hncap hnb1 hnb2 => ?_); try simp only [zzn] at hnb2)
   | simp -dsimp -implicitDefEqProofs (disch := first | assumption | (simp only [zzm]; done) | omega | (try with_reducible refine Row.adr (by assumption) ?_); simp only [zzl, Nat.reduceAdd]; first | done | omega) only [go_sem, ↓reduceIte, seval, -List.reduceReplicate, List.toList_toArray, hCl, hCa, hCo, hb, u8F_zero, u8F_len, u8F_one, u8F_over, u8F_take]
  refine rright_t hsm O.is fun G2 hle2 hs2 => ?_
  rw [hb]
  have hsE := hs2
  try simp only [zzs] at hsE
  repeat (obtain ⟨hsx, hsE⟩ := hsE)
  repeat' first
   | (with_reducible first | refine Nx.go ?_ | refine Bk.go (fun _ => ?_) fun _ => ?_)
   | ((with_reducible first | refine NewB.mk2 fun nb hnb hnb1 hnb2 => ?_ | refine NewRow.mk2 fun nb nsp ncap hnb hncap hnb1 hnb2 => ?_); try simp only [zzn] at hnb2)
   | simp -dsimp -implicitDefEqProofs (disch := first | assumption | (simp only [zzm]; done) | omega | (try with_reducible refine Row.adr (by assumption) ?_); simp only [zzl, Nat.reduceAdd]; first | done | omega) only [go_sem, ↓reduceIte, seval, -List.reduceReplicate, List.toList_toArray, hCl, hCa, hCo, hb, u8F_zero, u8F_len, u8F_one, u8F_over, u8F_take]
  unfold UpdR
  refine Upd.go (H' := H) (by intro fsum; first | exact Nat.le_refl _ | (simp only [zzq]; omega)) (Upd.now ?_)
  rw [← u8F_zero, h8]
  exact fun _ hs => hR G2 hle2 hs
end Go.Proofs.YtefkpedhbijhkaaGreatDoor
namespace Go.Proofs.YtefkpedhbijhkaaGreatDoor
open Go Go.V Go.Proofs
theorem cloneI_t (l : List Int) (hlen : l.length ≤ 2000000) {G : PHeap} {H : Heap} {R : Value → PHeap → Heap → Prop} {v : Value} (hv : Sl G (Value.int .i64) v l)
  (hR : ∀ G' v', PLe G G' → Sep G' (keys H) → Sl G' (Value.int .i64) v' l → R v' G' H) : FnT Tryz.prog 51 [v] G H R := by
 obtain ⟨a, cap, rfl, hrow, hcap⟩ := hv
 refine FnT.sep ?_
 rcases a with _ | a
 ·have h0 : l = [] := List.eq_nil_of_length_eq_zero (by
   rcases Nat.eq_zero_or_pos l.length with h | h
   ·exact h
   ·have := hrow.adr (by rw [List.length_map]; exact h)
    cases this)
  subst h0
  refine FnT.body tok [0, 2, 4] Tryz.func51 rfl (by kernel_rfl) (by kernel_rfl) (by show _ ≤ 8; simp) fun hsep => ?_
  rw [Tryz.results51]
  have hsE := hsep
  try simp only [zzs] at hsE
  repeat (obtain ⟨hsx, hsE⟩ := hsE)
  repeat' first
   | (with_reducible first | refine Nx.go ?_ | refine Bk.go (fun _ => ?_) fun _ => ?_)
   | ((with_reducible first | refine NewB.mk2 fun nb hnb hnb1 hnb2 => ?_ | refine NewRow.mk2 fun nb nsp ncap hnb hncap hnb1 hnb2 => ?_); try simp only [zzn] at hnb2)
   | simp -dsimp -implicitDefEqProofs (disch := first | assumption | (simp only [zzm]; done) | omega | (try with_reducible refine Row.adr (by assumption) ?_); simp only [zzl, Nat.reduceAdd]; first | done | omega) only [go_sem, ↓reduceIte, seval]
  unfold UpdR
  refine Upd.leave (H' := H) (by intro fsum; first | exact Nat.le_refl _ | (simp only [zzq]; omega)) ?_
  exact fun hle hs => hR G _ (PLe.refl _) hs (Sl.nil _ _)
 ·refine FnT.body tok [0, 2, 4] Tryz.func51 rfl (by kernel_rfl) (by kernel_rfl) (by show _ ≤ 8; simp) fun hsep => ?_
  rw [Tryz.results51]
  have hsE := hsep
  try simp only [zzs] at hsE
  repeat (obtain ⟨hsx, hsE⟩ := hsE)
  repeat' first
   | (with_reducible first | refine Nx.go ?_ | refine Bk.go (fun _ => ?_) fun _ => ?_)
   | ((with_reducible first | refine NewB.mk2 fun nb hnb hnb1 hnb2 => ?_ | refine NewRow.mk2 fun nb nsp ncap hnb hncap hnb1 hnb2 => ?_); try simp only [zzn] at hnb2)
   | simp -dsimp -implicitDefEqProofs (disch := first | assumption | (simp only [zzm]; done) | omega | (try with_reducible refine Row.adr (by assumption) ?_); simp only [zzl, Nat.reduceAdd]; first | done | omega) only [go_sem, ↓reduceIte, seval, Row.rdSlAll hrow, List.length_map]
  ·rename_i h0
   have h0 : l = [] := List.eq_nil_of_length_eq_zero h0
   subst h0
   unfold UpdR
   refine Upd.leave (H' := H) (by intro fsum; first | exact Nat.le_refl _ | (simp only [zzq]; omega)) ?_
   exact fun hle hs => hR G _ (PLe.refl _) hs ⟨_, 0, rfl, Row.nil _ _, Nat.le_refl _⟩
  ·unfold UpdR
   refine Upd.go (H' := (nb, .cells (l.map (Value.int .i64)) nsp 3) :: H) (by intro fsum; first | exact Nat.le_refl _ | (simp only [zzq]; omega)) (Upd.shareRow (by assumption) fun G2 hle2 hs2 hr2 => ?_)
   exact fun hle hs => hR G2 _ hle2 hs ⟨some ⟨nb, 0, none⟩, ncap, rfl, hr2, by omega⟩
theorem nums_nums (l : List Int) : nums (nums l) = nums l := nums_same (nums_len l) fun i j hi hj => by
 rw [nums_len] at hi hj
 exact nums_iff hi hj
def rowM (d : DfaT) (row : List Int) : List Int := (leastL (nums (clL d))).map fun b => atL row (atL d.of b)
def rowsM (d : DfaT) : List (List Int) := d.next.map (rowM d)
def mergeD (d : DfaT) : DfaT := { of := nums (clL d), width := (tabO (clL d)).length, next := rowsM d, label := d.label, names := d.names }
noncomputable def mergeR (d : DfaT) : DfaT × Int := if boolOf (RightP d) = true then (mergeD d, 0) else (zeroD, 6)
theorem mergeR_ok {d : DfaT} (h : RightP d) : mergeR d = (mergeD d, 0) := by unfold mergeR; rw [if_pos (boolOf_yes h)]
theorem mergeR_bad {d : DfaT} (h : ¬ RightP d) : mergeR d = (zeroD, 6) := by unfold mergeR; rw [boolOf_no h, if_neg (by simp)]
theorem least_len (d : DfaT) : (leastL (nums (clL d))).length = (tabO (clL d)).length := by rw [leastL_len, tab_same (nums_nums (clL d))]
theorem least_bound {d : DfaT} (hl : d.of.length = 256) {k : Nat} (hk : k < (leastL (nums (clL d))).length) : ∃ x : Nat, (leastL (nums (clL d)))[k] = (x : Nat) ∧ x < 256 := by
 have hin : (tabO (nums (clL d)))[k]'(by rw [leastL_len] at hk; exact hk) ∈ nums (clL d) := (mem_tabO _).1 (List.getElem_mem _)
 obtain ⟨x, hx⟩ := place_mem hin
 obtain ⟨hx1, hx2⟩ := place_some hx
 exact ⟨x, by simp only [leastL, List.getElem_map]; exact findF_some hx, by rw [nums_len, clL_len hl] at hx1; exact hx1⟩
theorem rowM_len (d : DfaT) (row : List Int) : (rowM d row).length = (tabO (clL d)).length := by unfold rowM; rw [List.length_map, least_len]
def RowX (rows : List (List Int)) (G' : PHeap) (j : Nat) (vn : Value) (kn : Heap) : Prop :=
 (j = 0 ∧ vn = .slice none 0 0 ∧ kn = []) ∨ ∃ bn c1 rv sp1, vn = .slice (some ⟨bn, 0, none⟩) j c1 ∧ kn = [(bn, .cells rv sp1 24)] ∧ rv.length = j ∧ j + sp1.length = c1 ∧
  ∀ i (h : i < j) (h2 : i < rv.length) (h3 : i < rows.length), ∃ b c, rv[i] = .slice b rows[i].length c ∧ Row G' b (rows[i].map (Value.int .i64)) ∧ rows[i].length ≤ c
theorem RowX.vn {rows : List (List Int)} {G' : PHeap} {j : Nat} {vn : Value} {kn : Heap} (h : RowX rows G' j vn kn) : ∃ a c, vn = .slice a j c := by
 rcases h with ⟨rfl, rfl, _⟩ | ⟨bn, c1, rv, sp1, rfl, _⟩
 ·exact ⟨none, 0, rfl⟩
 ·exact ⟨_, _, rfl⟩
theorem RowX.mono {rows : List (List Int)} {G G' : PHeap} (hle : PLe G G') {j : Nat} {vn : Value} {kn : Heap} (h : RowX rows G j vn kn) : RowX rows G' j vn kn := by
 rcases h with h | ⟨bn, c1, rv, sp1, h1, h2, h3, h4, h5⟩
 ·exact .inl h
 ·exact .inr ⟨bn, c1, rv, sp1, h1, h2, h3, h4, fun i a b c => by
   obtain ⟨x, y, e1, e2, e3⟩ := h5 i a b c
   exact ⟨x, y, e1, e2.mono hle, e3⟩⟩
end Go.Proofs.YtefkpedhbijhkaaGreatDoor
namespace Go.Proofs.YtefkpedhbijhkaaGreatDoor
open Go Go.V Go.Proofs
section
variable {α β : Type} [DecidableEq α] [DecidableEq β]
end
theorem merge_right {d : DfaT} (hok : RightP d) (hl : d.of.length = 256) : RightP (mergeD d) := by
 obtain ⟨hk1, hk2, hk3, hk4, hk5, hk6, hk7⟩ := id hok
 have hcl := clL_len hl
 have hnl : (rowsM d).length = d.next.length := by unfold rowsM; rw [List.length_map]
 refine ⟨hk1, hk2, hnl.trans hk3, nums_nums _, by show ((tabO (nums (clL d))).length : Int) = _; rw [tab_same (nums_nums (clL d))]; rfl, hk6, fun s h h2 => ?_⟩
 have hs : s < d.next.length := by have : s < (rowsM d).length := h; omega
 obtain ⟨hw1, hw2, hw3, hw4⟩ := hk7 s hs h2
 have g2 : (mergeD d).next[s] = rowM d d.next[s] := by simp only [mergeD, rowsM, List.getElem_map]
 rw [g2]
 refine ⟨by rw [rowM_len]; rfl, hw2, hw3, fun t ht => ?_⟩
 unfold rowM at ht
 obtain ⟨b, hb, rfl⟩ := List.mem_map.1 ht
 obtain ⟨i, hi, e⟩ := List.getElem_of_mem hb
 obtain ⟨x, e2, hx⟩ := least_bound hl hi
 rw [← e, e2]
 have hxd : x < d.of.length := by omega
 have hox := of_bound hok (List.getElem_mem hxd)
 rw [atL_get (x := ((x : Nat) : Int)) (by simpa using hxd)]
 simp only [Int.toNat_natCast]
 have f1 : (d.of[x]).toNat < (d.next[s]).length := by omega
 rw [atL_get f1]
 exact hw4 _ (List.getElem_mem f1)
end Go.Proofs.YtefkpedhbijhkaaGreatDoor
namespace Go.Proofs.YtefkpedhbijhkaaGreatDoor
open Go Go.V Go.Proofs
theorem merge_t {d : DfaT} (hsm : SmallD d) {G : PHeap} {H : Heap} {R : Value → PHeap → Heap → Prop} {v : Value} (hg : HasTab G) (hv : IsD G d v)
  (hR : ∀ G' v', PLe G G' → Sep G' (keys H) → IsD G' (mergeR d).1 v' → R (.tuple #[v', .int .i64 (mergeR d).2]) G' H) : FnT Tryz.prog 27 [v] G H R := by
 obtain ⟨C, an, al, ay, cn, cl, cs, rs, rfl, O⟩ := hv.opened
 obtain ⟨hm1, hm2, hm3, hm4, hm5⟩ := id hsm
 have hCl := O.len
 have hCa := O.all
 have hCn := O.n
 have hCx := O.l
 have hCs := O.s
 refine FnT.sep ?_
 by_cases hok : RightP d
 ·have hb := boolOf_yes hok
  rw [mergeR_ok hok] at hR
  have hol : (nums (clL d)).length = 256 := by rw [nums_len, clL_len O.ofl]
  have hu8 : (u8L (nums (clL d))).length = 256 := by rw [List.length_map, hol]
  have hno1 : (u8L (nums (clL d))).all oneV = true := by rw [List.all_map]; exact List.all_eq_true.2 fun _ _ => rfl
  have hns : splice (List.replicate 256 (Value.int .u8 0)) 0 (u8L (nums (clL d))) = u8L (nums (clL d)) := by rw [u8F_zero, ← u8F_nums (clL_len O.ofl), u8F_over]
  have bu1 : splice zeroC 0 (u8L (nums (clL d))) = u8L (nums (clL d)) ++ [Value.int .i64 0, Value.slice none 0 0, Value.slice none 0 0, Value.slice none 0 0] := build_of (d := mergeD d) hol
  have bu2 : splice (u8L (nums (clL d)) ++ [Value.int .i64 0, Value.slice none 0 0, Value.slice none 0 0, Value.slice none 0 0]) 256 [Value.int .i64 ((tabO (clL d)).length : Nat)] = cellsD (mergeD d) (.slice none 0 0) (.slice none 0 0) (.slice none 0 0) := build_w (d := mergeD d) hol
  have bu3 : ∀ x, splice (cellsD (mergeD d) (.slice none 0 0) (.slice none 0 0) (.slice none 0 0)) 258 [x] = cellsD (mergeD d) (.slice none 0 0) x (.slice none 0 0) := fun x => cellsD_putL (d := mergeD d) hol _ _ _ _
  have bu4 : ∀ vl x, splice (cellsD (mergeD d) (.slice none 0 0) vl (.slice none 0 0)) 259 [x] = cellsD (mergeD d) (.slice none 0 0) vl x := fun vl x => build_s (d := mergeD d) hol _ _ _ _
  have bu5 : ∀ vn vl vs x, splice (cellsD (mergeD d) vn vl vs) 257 [x] = cellsD (mergeD d) x vl vs := fun vn vl vs x => cellsD_putN (d := mergeD d) hol _ _ _ _
  have hl1 : (u8L (nums (clL d)) ++ [Value.int .i64 0, Value.slice none 0 0, Value.slice none 0 0, Value.slice none 0 0]).length = 260 := by rw [List.length_append, hu8]; rfl
  have hl2 : ∀ a b c : Value, (cellsD (mergeD d) a b c).length = 260 := fun a b c => cellsD_len (d := mergeD d) hol _ _ _
  have hg2 : ∀ a b c : Value, (cellsD (mergeD d) a b c)[257]? = some a := fun a b c => cellsD_n (d := mergeD d) hol _ _ _
  have hputz : ∀ vn vl vs, splice zeroC 0 (cellsD (mergeD d) vn vl vs) = cellsD (mergeD d) vn vl vs := fun vn vl vs => by
   unfold splice
   rw [List.take_zero, List.nil_append, List.drop_of_length_le (by rw [zeroC_len, hl2]; omega), List.append_nil]
  have hone : ∀ (a a' a'' : Option Addr) (b c b' c' b'' c'' : Nat), (cellsD (mergeD d) (.slice a'' b'' c'') (.slice a b c) (.slice a' b' c')).all oneV = true := fun a a' a'' b c b' c' b'' c'' => cellsD_one rfl rfl rfl
  have htk2 : ∀ vn vl vs, List.take 260 (cellsD (mergeD d) vn vl vs) = cellsD (mergeD d) vn vl vs := fun vn vl vs => List.take_of_length_le (by rw [hl2]; omega)
  have hnt : List.take 256 (u8L (nums (clL d))) = u8L (nums (clL d)) := List.take_of_length_le (by omega)
  refine FnT.body tok [0, 1, 2, 3, 4, 5, 6, 7, 9, 10, 11, 12, 15, 34, 35, 36, 37, 42, 43, 44, 45] Tryz.func27 rfl (by kernel_rfl) (by kernel_rfl) (by show _ ≤ 68; simp) fun hsep => ?_
  rw [Tryz.results27]
  have hsE := hsep
  try simp only [zzs] at hsE
  repeat (obtain ⟨hsx, hsE⟩ := hsE)
  repeat' first
   | (with_reducible first | refine Nx.go ?_ | refine Bk.go (fun _ => ?_) fun _ => ?_)
   | ((with_reducible first | refine NewB.mk2 fun nb hnb hnb1 hnb2 => ?_ | refine NewRow.mk2 fun nb nsp ncap hnb hncap hnb1 hnb2 => ?_); try simp only [zzn] at hnb2)
   | simp -dsimp -implicitDefEqProofs (disch := first | assumption | (simp only [zzm]; done) | omega | (try with_reducible refine Row.adr (by assumption) ?_); simp only [zzl, Nat.reduceAdd]; first | done | omega) only [go_sem, ↓reduceIte, seval, -List.reduceReplicate, List.toList_toArray, hCl, hCa, hb, zeroC_len]
   | with_reducible refine right_t hsm O.is ?_
  rename_i b1 hb1 hb11 hb12
  revert nb
  intro b2 hb2 hb21 hb22
  refine Classes_t hsm O.is fun G2 hle2 hs2 => ?_
  rw [if_pos hb]
  have hsE := hs2
  try simp only [zzs] at hsE
  repeat (obtain ⟨hsx, hsE⟩ := hsE)
  repeat' first
   | (with_reducible first | refine Nx.go ?_ | refine Bk.go (fun _ => ?_) fun _ => ?_)
   | ((with_reducible first | refine NewB.mk2 fun nb hnb hnb1 hnb2 => ?_ | refine NewRow.mk2 fun nb nsp ncap hnb hncap hnb1 hnb2 => ?_); try simp only [zzn] at hnb2)
   | simp -dsimp -implicitDefEqProofs (disch := first | assumption | (simp only [zzm]; done) | omega | (try with_reducible refine Row.adr (by assumption) ?_); simp only [zzl, Nat.reduceAdd]; first | done | omega) only [go_sem, ↓reduceIte, seval, -List.reduceReplicate, List.toList_toArray, hCl, hCa, hb, List.length_replicate, hns, hu8, hno1, hnt]
  revert nb
  intro b4 hb4 hb41 hb42
  refine pleasts_t hol (hg.mono hle2) fun G3 v3 hle3 hs3 hsl3 => ?_
  obtain ⟨a3, c3, rfl, hr3, hc3⟩ := hsl3
  have hsE := hs3
  try simp only [zzs] at hsE
  repeat (obtain ⟨hsx, hsE⟩ := hsE)
  have O3 := O.mono (hle2.trans hle3)
  have hlab3 := O3.label
  have hnam3 := O3.names
  repeat' first
   | (with_reducible first | refine Nx.go ?_ | refine Bk.go (fun _ => ?_) fun _ => ?_)
   | ((with_reducible first | refine NewB.mk2 fun nb hnb hnb1 hnb2 => ?_ | refine NewRow.mk2 fun nb nsp ncap hnb hncap hnb1 hnb2 => ?_); try simp only [zzn] at hnb2)
   | simp -dsimp -implicitDefEqProofs (disch := first | assumption | (simp only [zzm]; done) | omega | (try with_reducible refine Row.adr (by assumption) ?_); simp only [zzl, Nat.reduceAdd]; first | done | omega) only [go_sem, ↓reduceIte, seval, -List.reduceReplicate, List.toList_toArray, hCl, hCa, hCn, hCx, hCs, hnt, hu8, bu1, bu2, bu3, bu4, hl1, hl2, hputz, hone, zeroC_len]
   | with_reducible refine Tri.drawS tok mixed [0, 1, 2, 3, 4, 5, 6, 7, 9, 10, 11, 12, 15, 34, 35, 36, 37, 42, 43, 44, 45] 5 [0, 3, 6] (.op 0 .held (.op 1 .plain (.op 2 .plain (.op 3 .held (.op 5 .plain (.op 6 .held (.both (.op 4 .keeps (.both (.op 7 .keeps (.op 8 .plain (.op 9 .keeps (.op 10 .plain .nil)))) (.op 9 .keeps (.op 7 .keeps (.op 8 .plain (.op 10 .plain .nil)))))) (.op 9 .keeps (.op 4 .keeps (.op 7 .keeps (.op 8 .plain (.op 10 .plain .nil)))))))))))) (by kernel_rfl) [(b4, .cells (u8L (nums (clL d))) [] 22), (b1, .cells C [] 27)] (by intro fsum; first | exact Nat.le_refl _ | (simp only [zzq]; omega)) ?_
   | ((with_reducible refine cloneI_t d.label hm3 (by first | exact hlab3 | exact hlab3.mono (by assumption)) fun G8 v8 hle8 hs8 hsl8 => ?_); obtain ⟨a8, c8, rfl, hr8, hc8⟩ := hsl8; (have hsE := hs8; try simp only [zzs] at hsE; repeat (obtain ⟨hsx, hsE⟩ := hsE)))
   | ((with_reducible refine clones_t d.names hm4 (by first | exact hnam3 | exact hnam3.mono (by assumption)) fun G9 v9 hle9 hs9 hsl9 => ?_); obtain ⟨a9, c9, rfl, hr9, hc9⟩ := hsl9; (have hsE := hs9; try simp only [zzs] at hsE; repeat (obtain ⟨hsx, hsE⟩ := hsE)))
   | (with_reducible refine And.intro ?_ ?_)
  all_goals (first
   | (have hx9 : PLe G8 G9 := hle9; have hr8 := hr8.mono hle9; have hle5 : PLe G3 G9 := hle8.trans hle9; rename PHeap => G5)
   | (have hx9 : PLe G9 G8 := hle8; have hr9 := hr9.mono hle8; have hle5 : PLe G3 G8 := hle9.trans hle8; rename PHeap => G5))
  all_goals have O5 := O3.mono hle5
  all_goals have hr35 := hr3.mono hle5
  all_goals (revert nb; intro b7 hb7 hb71 hb72; intros)
  all_goals clear hr3 O3 hlab3 hnam3
  all_goals try clear hsE
  all_goals
   refine Tri.loopU tok [0, 1, 2, 3, 4, 5, 6, 7, 9, 10, 11, 12, 15, 34, 35, 36, 37, 42, 43, 44, 45] (by kernel_rfl) [1, 2, 5, 6, 7, 34, 35, 36] (fun q G' fr H' => ∃ (s : Nat) (vn : Value) (kn : Heap), s + q = d.next.length ∧ PLe G5 G' ∧ RowX (rowsM d) G' s vn kn ∧ H' = (b7, .cells (cellsD (mergeD d) vn (.slice a8 d.label.length c8) (.slice a9 d.names.length c9)) [] 27) :: (b4, .cells (u8L (nums (clL d))) [] 22) :: (b2, .cells zeroC [] 27) :: (b1, .cells C [] 27) :: (kn ++ H) ∧ fr = [(1, .pointer (some ⟨b1, 0, none⟩)), (2, .pointer (some ⟨b2, 0, none⟩)), (5, .int .i64 (tabO (clL d)).length), (6, .slice a3 (leastL (nums (clL d))).length c3), (7, .pointer (some ⟨b7, 0, none⟩)), (34, .slice an d.next.length cn), (35, .int .i64 d.next.length), (36, .int .i64 (s : Nat))]) (d.next.length) ?_ ?_
   ·exact Upd.now ⟨0, _, [], by omega, PLe.refl _, .inl ⟨rfl, rfl, rfl⟩, rfl, rfl⟩
   ·rintro q G1 fr H' hle hs1 ⟨s, vn, kn, hsq, hle6, hX, rfl, rfl⟩
    by_cases hsn : s < d.next.length
    ·have O6 := O5.mono hle6
     have hr36 := hr35.mono hle6
     have had : Adr an := O6.rn.adr (by have := O.rnl; omega)
     obtain ⟨b, cc, e1, e2, e3⟩ := O6.rs s hsn (by have := O.rnl; omega)
     obtain ⟨hw1, hw2, hw3, hw4⟩ := hok.2.2.2.2.2.2 s hsn (by have := hok.2.2.1; omega)
     obtain ⟨row, hrow⟩ : ∃ row, row = d.next[s] := ⟨_, rfl⟩
     rw [← hrow] at e1 e2 e3 hw1 hw4
     obtain ⟨r, hr⟩ : ∃ r, r = rowM d row := ⟨_, rfl⟩
     have hrl : r.length = (tabO (clL d)).length := by rw [hr, rowM_len]
     have hll := least_len d
     have hrnl := O.rnl
     have htl := tabO_len (clL d)
     have hcl := clL_len O.ofl
     have hrs : (rowsM d)[s]'(by unfold rowsM; rw [List.length_map]; exact hsn) = r := by simp only [rowsM, List.getElem_map]; rw [hr, hrow]
     have hsE := hs1
     try simp only [zzs] at hsE
     repeat (obtain ⟨hsx, hsE⟩ := hsE)
     repeat' first
      | (with_reducible first | refine Nx.go ?_ | refine Bk.go (fun _ => ?_) fun _ => ?_)
      | ((with_reducible first | refine NewB.mk2 fun nb hnb hnb1 hnb2 => ?_ | refine NewRow.mk2 fun nb nsp ncap hnb hncap hnb1 hnb2 => ?_); try simp only [zzn] at hnb2)
      | simp -dsimp -implicitDefEqProofs (disch := first | assumption | (simp only [zzm]; done) | omega | (try with_reducible refine Row.adr (by assumption) ?_); simp only [zzl, Nat.reduceAdd]; first | done | omega) only [go_sem, ↓reduceIte, seval, -List.reduceReplicate, Row.obj O6.rn, e1, Nat.sub_self, List.replicate_zero]
     revert nb
     intro br hbr hbr1 hbr2
     rw [show List.replicate (tabO (clL d)).length (Value.int .i64 0) = (partR r 0).map (Value.int .i64) by rw [← hrl, partR_zero]]
     refine Tri.loopU tok [0, 1, 2, 3, 4, 5, 6, 7, 9, 10, 11, 12, 15, 34, 35, 36, 37, 42, 43, 44, 45] (by kernel_rfl) [1, 2, 5, 6, 7, 9, 10, 34, 35, 36, 42, 43, 44] (fun q2 G' fr H' => ∃ k : Nat, k + q2 = r.length ∧ G' = G1 ∧ H' = (br, .cells ((partR r k).map (Value.int .i64)) [] 3) :: (b7, .cells (cellsD (mergeD d) vn (.slice a8 d.label.length c8) (.slice a9 d.names.length c9)) [] 27) :: (b4, .cells (u8L (nums (clL d))) [] 22) :: (b2, .cells zeroC [] 27) :: (b1, .cells C [] 27) :: (kn ++ H) ∧ fr = [(1, .pointer (some ⟨b1, 0, none⟩)), (2, .pointer (some ⟨b2, 0, none⟩)), (5, .int .i64 (tabO (clL d)).length), (6, .slice a3 (leastL (nums (clL d))).length c3), (7, .pointer (some ⟨b7, 0, none⟩)), (9, .slice b row.length cc), (10, .slice (some ⟨br, 0, none⟩) (tabO (clL d)).length (tabO (clL d)).length), (34, .slice an d.next.length cn), (35, .int .i64 d.next.length), (36, .int .i64 (s : Nat)), (42, .slice a3 (leastL (nums (clL d))).length c3), (43, .int .i64 (leastL (nums (clL d))).length), (44, .int .i64 (k : Nat))]) (r.length) ?_ ?_
     ·exact Upd.now ⟨0, by omega, rfl, rfl, rfl⟩
     ·rintro q2 G2' fr H' hle2' hs2' ⟨k, hkq, rfl, rfl, rfl⟩
      have hpl : (partR r k).length = r.length := partR_len r (by omega)
      by_cases hkl : k < r.length
      ·have hsE := hs2'
       try simp only [zzs] at hsE
       repeat (obtain ⟨hsx, hsE⟩ := hsE)
       obtain ⟨x, hx1, hx2⟩ := least_bound O.ofl (d := d) (k := k) (by omega)
       have hxl : x < d.of.length := by rw [O.ofl]; exact hx2
       have had3 : Adr a3 := hr36.adr (by rw [List.length_map, hll, ← hrl]; omega)
       have hoc := of_bound hok (List.getElem_mem (l := d.of) (n := x) (by rw [O.ofl]; exact hx2))
       obtain ⟨y, hy⟩ := Int.eq_ofNat_of_zero_le hoc.1
       have hyr : y < row.length := by omega
       have hadb : Adr b := e2.adr (by rw [List.length_map]; omega)
       have hgetC : C[x]? = some (.int .u8 (y : Nat)) := by
        have h1 : (C.take 256)[x]? = some (.int .u8 d.of[x]) := by rw [O.of, List.getElem?_map, List.getElem?_eq_getElem (by rw [O.ofl]; exact hx2)]; rfl
        rw [List.getElem?_take, if_pos hx2, hy] at h1
        exact h1
       have hval : row[y] = r[k] := by
        simp only [hr, rowM, List.getElem_map]
        have h1 : atL d.of ((x : Nat) : Int) = (y : Nat) := by rw [atL_get (by simp only [Int.toNat_natCast]; rw [O.ofl]; exact hx2)]; simp only [Int.toNat_natCast]; exact hy
        rw [hx1, h1, atL_get (by simpa using hyr)]; simp only [Int.toNat_natCast]
       have hput := partR_put hkl
       repeat' first
        | (with_reducible first | refine Nx.go ?_ | refine Bk.go (fun _ => ?_) fun _ => ?_)
        | ((with_reducible first | refine NewB.mk2 fun nb hnb hnb1 hnb2 => ?_ | refine NewRow.mk2 fun nb nsp ncap hnb hncap hnb1 hnb2 => ?_); try simp only [zzn] at hnb2)
        | simp -dsimp -implicitDefEqProofs (disch := first | assumption | (simp only [zzm]; done) | omega | (try with_reducible refine Row.adr (by assumption) ?_); simp only [zzl, Nat.reduceAdd]; first | done | omega) only [go_sem, ↓reduceIte, seval, -List.reduceReplicate, List.length_map, hCl, Row.obj hr36, Row.obj e2, List.getElem_map, hx1, hgetC, hval, hput, hpl, Int.toNat_natCast]
       exact Upd.now ⟨q2 - 1, by omega, k + 1, by omega, rfl, rfl, rfl⟩
      ·obtain rfl : k = r.length := by omega
       rw [partR_all r] at hs2' ⊢
       rcases hX with ⟨hj0, rfl, rfl⟩ | ⟨bn, c1, rv, sp1, rfl, rfl, hrv, hc1, hrws⟩
       ·have hsE := hs2'
        try simp only [zzs] at hsE
        repeat (obtain ⟨hsx, hsE⟩ := hsE)
        repeat' first
         | (with_reducible first | refine Nx.go ?_ | refine Bk.go (fun _ => ?_) fun _ => ?_)
         | ((with_reducible first | refine NewB.mk2 fun nb hnb hnb1 hnb2 => ?_ | refine NewRow.mk2 fun nb nsp ncap hnb hncap hnb1 hnb2 => ?_); try simp only [zzn] at hnb2)
         | simp -dsimp -implicitDefEqProofs (disch := first | assumption | (simp only [zzm]; done) | omega | (try with_reducible refine Row.adr (by assumption) ?_); simp only [zzl, Nat.reduceAdd]; first | done | omega) only [go_sem, ↓reduceIte, seval, -List.reduceReplicate, hl2, hg2, bu5, List.replicate_one]
        refine Upd.go (H' := (br, .cells (r.map (Value.int .i64)) [] 3) :: (b7, .cells (cellsD (mergeD d) (.slice (some ⟨nb, 0, none⟩) 1 ncap) (.slice a8 d.label.length c8) (.slice a9 d.names.length c9)) [] 27) :: (b4, .cells (u8L (nums (clL d))) [] 22) :: (b2, .cells zeroC [] 27) :: (b1, .cells C [] 27) :: ([(nb, .cells [.slice (some ⟨br, 0, none⟩) (tabO (clL d)).length (tabO (clL d)).length] nsp 24)] ++ H)) (by intro fsum; first | exact Nat.le_refl _ | (simp only [zzq]; omega)) (Upd.shareRow (by assumption) fun G6 hle7 hs7 hr7 => ?_)
        refine ⟨q - 1, by omega, s + 1, _, _, by omega, hle6.trans hle7, .inr ⟨nb, ncap, _, nsp, by rw [hj0], rfl, by rw [hj0]; rfl, by omega, fun i h h2 h3 => ?_⟩, rfl, rfl⟩
        obtain rfl : i = 0 := by omega
        obtain rfl : s = 0 := hj0
        refine ⟨some ⟨br, 0, none⟩, (tabO (clL d)).length, ?_, ?_, ?_⟩
        ·rw [hrs, hrl]; rfl
        ·rw [hrs]; exact hr7
        ·rw [hrs, hrl]; exact Nat.le_refl _
       ·have hsE := hs2'
        try simp only [zzs] at hsE
        repeat (obtain ⟨hsx, hsE⟩ := hsE)
        repeat' first
         | (with_reducible first | refine Nx.go ?_ | refine Bk.go (fun _ => ?_) fun _ => ?_)
         | ((with_reducible first | refine NewB.mk2 fun nb hnb hnb1 hnb2 => ?_ | refine NewRow.mk2 fun nb nsp ncap hnb hncap hnb1 hnb2 => ?_); try simp only [zzn] at hnb2)
         | simp -dsimp -implicitDefEqProofs (disch := first | assumption | (simp only [zzm]; done) | omega | (try with_reducible refine Row.adr (by assumption) ?_); simp only [zzl, Nat.reduceAdd]; first | done | omega) only [go_sem, ↓reduceIte, seval, -List.reduceReplicate, hl2, hg2, bu5, List.replicate_one]
        refine Upd.go (H' := (br, .cells (r.map (Value.int .i64)) [] 3) :: (b7, .cells (cellsD (mergeD d) (.slice (some ⟨nb, 0, none⟩) (s + 1) ncap) (.slice a8 d.label.length c8) (.slice a9 d.names.length c9)) [] 27) :: (b4, .cells (u8L (nums (clL d))) [] 22) :: (b2, .cells zeroC [] 27) :: (b1, .cells C [] 27) :: ([(nb, .cells (rv ++ [.slice (some ⟨br, 0, none⟩) (tabO (clL d)).length (tabO (clL d)).length]) nsp 24)] ++ H)) (by intro fsum; first | exact Nat.le_refl _ | (simp only [zzq]; omega)) (Upd.shareRow (by assumption) fun G6 hle7 hs7 hr7 => ?_)
        refine ⟨q - 1, by omega, s + 1, _, _, by omega, hle6.trans hle7, .inr ⟨nb, ncap, _, nsp, rfl, rfl, by rw [List.length_append, hrv]; rfl, by omega, fun i h h2 h3 => ?_⟩, rfl, rfl⟩
        rcases Nat.lt_or_ge i s with hij | hij
        ·obtain ⟨b', c', f1, f2, f3⟩ := hrws i hij (by omega) h3
         exact ⟨b', c', by rw [List.getElem_append_left (by omega)]; exact f1, f2.mono hle7, f3⟩
        ·obtain rfl : i = s := by omega
         refine ⟨some ⟨br, 0, none⟩, (tabO (clL d)).length, ?_, ?_, ?_⟩
         ·rw [hrs, hrl, List.getElem_append_right (by omega)]; simp [hrv]
         ·rw [hrs]; exact hr7
         ·rw [hrs, hrl]; exact Nat.le_refl _
    ·obtain rfl : s = d.next.length := by omega
     have hnl : (rowsM d).length = d.next.length := by unfold rowsM; rw [List.length_map]
     have hob : ∀ x ∈ (mergeD d).of, 0 ≤ x ∧ x ≤ 255 := fun x hx => by
      have h1 := nums_bound (l := clL d) hx
      have h2 := tabO_len (clL d)
      have h3 := clL_len O.ofl
      omega
     have hr86 := hr8.mono hle6
     have hr96 := hr9.mono hle6
     rcases hX with ⟨hj0, rfl, rfl⟩ | ⟨bn, c1, rv, sp1, rfl, rfl, hrv, hc1, hrws⟩
     ·have := hok.1
      have := hok.2.2.1
      omega
     ·have hsE := hs1
      try simp only [zzs] at hsE
      repeat (obtain ⟨hsx, hsE⟩ := hsE)
      repeat' first
       | (with_reducible first | refine Nx.go ?_ | refine Bk.go (fun _ => ?_) fun _ => ?_)
       | ((with_reducible first | refine NewB.mk2 fun nb hnb hnb1 hnb2 => ?_ | refine NewRow.mk2 fun nb nsp ncap hnb hncap hnb1 hnb2 => ?_); try simp only [zzn] at hnb2)
       | simp -dsimp -implicitDefEqProofs (disch := first | assumption | (simp only [zzm]; done) | omega | (try with_reducible refine Row.adr (by assumption) ?_); simp only [zzl, Nat.reduceAdd]; first | done | omega) only [go_sem, ↓reduceIte, seval, -List.reduceReplicate, List.toList_toArray, hl2, hputz, hone, htk2, zeroC_len]
      unfold UpdR
      refine Upd.go (H' := (bn, .cells rv sp1 24) :: H) (by intro fsum; first | exact Nat.le_refl _ | (simp only [zzq]; omega)) (Upd.shareRow (by assumption) fun G6 hle7 hs7 hr7 => ?_)
      exact fun _ hs => hR G6 _ (((hle2.trans hle3).trans hle5).trans (hle6.trans hle7)) hs ⟨hol, hob, _, _, _, rfl, ⟨some ⟨bn, 0, none⟩, c1, rv, by show _ = Value.slice _ (rowsM d).length _; rw [hnl], hr7, by show _ = (rowsM d).length; omega, by show (rowsM d).length ≤ _; omega, fun i h h2 => by
       obtain ⟨b', c', f1, f2, f3⟩ := hrws i (by have : i < (rowsM d).length := h; omega) h2 h
       exact ⟨b', c', f1, f2.mono hle7, f3⟩⟩, ⟨a8, c8, rfl, hr86.mono hle7, hc8⟩, ⟨a9, c9, rfl, hr96.mono hle7, hc9⟩⟩
 ·have hb := boolOf_no hok
  rw [mergeR_bad hok] at hR
  refine FnT.body tok [0, 1, 2, 3, 4, 5, 6, 7, 9, 10, 11, 12, 15, 34, 35, 36, 37, 42, 43, 44, 45] Tryz.func27 rfl (by kernel_rfl) (by kernel_rfl) (by show _ ≤ 68; simp) fun hsep => ?_
  rw [Tryz.results27]
  have hsE := hsep
  try simp only [zzs] at hsE
  repeat (obtain ⟨hsx, hsE⟩ := hsE)
  repeat' first
   | (with_reducible first | refine Nx.go ?_ | refine Bk.go (fun _ => ?_) fun _ => ?_)
   | ((with_reducible first | refine NewB.mk2 fun nb hnb hnb1 hnb2 => ?_ | refine NewRow.mk2 fun nb nsp ncap hnb hncap hnb1 hnb2 => ?_); try simp only [zzn] at hnb2)
   | simp -dsimp -implicitDefEqProofs (disch := first | assumption | (simp only [zzm]; done) | omega | (try with_reducible refine Row.adr (by assumption) ?_); simp only [zzl, Nat.reduceAdd]; first | done | omega) only [go_sem, ↓reduceIte, seval, -List.reduceReplicate, List.toList_toArray, hCl, hCa, hb, zeroC_len, zeroC_one, zeroC_take, zeroC_put]
   | with_reducible refine right_t hsm O.is ?_
  unfold UpdR
  refine Upd.leave (H' := H) (by intro fsum; first | exact Nat.le_refl _ | (simp only [zzq]; omega)) ?_
  exact fun _ hs => hR G _ (PLe.refl _) hs (zeroD_is _)
end Go.Proofs.YtefkpedhbijhkaaGreatDoor
namespace Go.Proofs.YtefkpedhbijhkaaGreatDoor
open Go Go.V Go.Proofs
theorem mergeD_small {d : DfaT} (hl : d.of.length = 256) (hsm : SmallD d) : SmallD (mergeD d) := by
 obtain ⟨h1, h2, h3, h4, h5⟩ := hsm
 refine ⟨?_, fun r hr => ?_, h3, h4, h5⟩
 ·show (rowsM d).length ≤ _
  unfold rowsM; rw [List.length_map]; exact h1
 ·have hr : r ∈ rowsM d := hr
  unfold rowsM at hr
  obtain ⟨row, _, rfl⟩ := List.mem_map.1 hr
  rw [rowM_len]
  have := tabO_len (clL d)
  rw [clL_len hl] at this
  omega
theorem turnM_small {d : DfaT} (hsm : SmallD d) {ls : List (List Int)} (h : ls.length ≤ 65536) (hw : d.width ≤ 256) : SmallD (turnM d ls) := by
 obtain ⟨h1, h2, h3, h4, h5⟩ := hsm
 refine ⟨?_, fun r hr => ?_, ?_, h4, h5⟩
 ·show (ls.map _).length ≤ _
  rw [List.length_map]; omega
 ·have hr : r ∈ ls.map (fun f => (behsA 0 d.next d.width.toNat f).map (findF ls)) := hr
  obtain ⟨f, _, rfl⟩ := List.mem_map.1 hr
  rw [List.length_map]
  unfold behsA
  rw [List.length_map, List.length_range]
  omega
 ·show (ls.map _).length ≤ _
  rw [List.length_map]; omega
theorem brz_width {d : DfaT} (hok : RightP d) (hof : d.of.length = 256) : 1 ≤ d.width ∧ d.width ≤ 256 := by
 have h5 := hok.2.2.2.2.1
 have h2 := tabO_len d.of
 have h0 : 0 < d.of.length := by omega
 have := List.length_pos_of_mem ((mem_tabO d.of).2 (List.getElem_mem h0))
 omega
theorem turnR_fine {d : DfaT} (hok : RightP d) (hof : d.of.length = 256) (hsm : SmallD d) {m : Nat} (hm : m ≤ 65536) (h : (turnR d m).2 = true) : (turnL d m).length ≤ m ∧ (turnR d m).1 = turnM d (turnL d m) ∧ RightP (turnR d m).1 ∧ SmallD (turnR d m).1 ∧ (turnR d m).1.of.length = 256 := by
 have hl : (turnL d m).length ≤ m := by
  unfold turnR at h
  split at h
  ·assumption
  ·cases h
 have he : (turnR d m).1 = turnM d (turnL d m) := by unfold turnR; rw [if_pos hl]
 rw [he]
 exact ⟨hl, rfl, turnM_right hok hof hm hl, turnM_small hsm (by omega) (brz_width hok hof).2, hof⟩
def tidyD (d : DfaT) : DfaT := trimD (mergeD (withN d (usedS d)))
def tidyI (d : DfaT) : Nat → DfaT
 | 0 => d
 | 1 => withN d (usedS d)
 | 2 => mergeD (withN d (usedS d))
 | _ => tidyD d
noncomputable def brzR (d : DfaT) (most : Int) : DfaT × Int := haveI := Classical.propDecidable
 if wrongR d most = 0 then
  if (revR (trimD d) most).2 = 0 then
   if (revR (revR (trimD d) most).1 65536).2 = 0 then (tidyD (revR (revR (trimD d) most).1 65536).1, 0) else (zeroD, (revR (revR (trimD d) most).1 65536).2)
  else (zeroD, (revR (trimD d) most).2)
 else (zeroD, wrongR d most)
theorem brzR_wrong {d : DfaT} {most : Int} (h : ¬ wrongR d most = 0) : brzR d most = (zeroD, wrongR d most) := by unfold brzR; rw [if_neg h]
theorem brzR_one {d : DfaT} {most : Int} (h : wrongR d most = 0) (h2 : ¬ (revR (trimD d) most).2 = 0) : brzR d most = (zeroD, (revR (trimD d) most).2) := by unfold brzR; rw [if_pos h, if_neg h2]
theorem brzR_two {d : DfaT} {most : Int} (h : wrongR d most = 0) (h2 : (revR (trimD d) most).2 = 0) (h3 : ¬ (revR (revR (trimD d) most).1 65536).2 = 0) : brzR d most = (zeroD, (revR (revR (trimD d) most).1 65536).2) := by unfold brzR; rw [if_pos h, if_pos h2, if_neg h3]
theorem brzR_ok {d : DfaT} {most : Int} (h : wrongR d most = 0) (h2 : (revR (trimD d) most).2 = 0) (h3 : (revR (revR (trimD d) most).1 65536).2 = 0) : brzR d most = (tidyD (revR (revR (trimD d) most).1 65536).1, 0) := by unfold brzR; rw [if_pos h, if_pos h2, if_pos h3]
theorem revR_fine {d : DfaT} (hok : RightP d) (hof : d.of.length = 256) (hsm : SmallD d) {most : Int} (h : (revR d most).2 = 0) : 1 ≤ most ∧ most ≤ 65536 ∧ (turnR d most.toNat).2 = true ∧ (revR d most).1 = (turnR d most.toNat).1 ∧ RightP (revR d most).1 ∧ SmallD (revR d most).1 ∧ (revR d most).1.of.length = 256 := by
 by_cases h1 : 1 ≤ most ∧ most ≤ 65536
 ·cases ht : (turnR d most.toNat).2 with
  | true =>
   rw [revR_ok hok h1 ht]
   obtain ⟨_, _, g1, g2, g3⟩ := turnR_fine hok hof hsm (by omega) ht
   exact ⟨h1.1, h1.2, rfl, rfl, g1, g2, g3⟩
  | false => rw [revR_big hok h1 ht] at h; cases h
 ·rw [revR_not hok h1] at h; cases h
theorem of_t2 {d : DfaT} (hsm : SmallD d) {most : Int} (hm : -9223372036854775808 ≤ most ∧ most < 9223372036854775808) {G : PHeap} {H : Heap} {R : Value → PHeap → Heap → Prop} (hg : HasTab G) {v : Value} (hv : IsD G d v)
  (hR : ∀ G' v', PLe G G' → Sep G' (keys H) → IsD G' (brzR d most).1 v' → R (.tuple #[v', .int .i64 (brzR d most).2]) G' H) : FnT Tryz.prog 11 [v, .int .i64 most] G H R := by
 obtain ⟨C, an, al, ay, cn, cl, cs, rs, rfl, O⟩ := hv.opened
 have hCl := O.len
 have hCa := O.all
 refine FnT.sep ?_
 by_cases hw0 : wrongR d most = 0
 ·have hok : RightP d := Classical.byContradiction fun h => by rw [wrongR_bad h] at hw0; cases hw0
  have htr := trimR_ok hok
  have htk : RightP (trimD d) := keep_right hok (reachL_keep hok)
  have hts := trim_small hsm hok
  refine FnT.bodyS tok [0, 1, 2, 4, 5, 6, 7, 9, 10, 12, 17, 32, 41, 44, 45, 46, 47, 57] (.seq .run (.seq .run (.seq .run (.seq .run (.seq .run (.seq .run .cut)))))) Tryz.func11 rfl (by kernel_rfl) (by kernel_rfl) (by show _ ≤ 62; simp) fun hsep => ?_
  rw [Tryz.results11]
  have hsE := hsep
  try simp only [zzs] at hsE
  repeat (obtain ⟨hsx, hsE⟩ := hsE)
  repeat' first
   | (with_reducible first | refine Nx.go ?_ | refine Bk.go (fun _ => ?_) fun _ => ?_)
   | ((with_reducible first | refine NewB.mk2 fun nb hnb hnb1 hnb2 => ?_ | refine NewRow.mk2 fun nb nsp ncap hnb hncap hnb1 hnb2 => ?_); try simp only [zzn] at hnb2)
   | simp -dsimp -implicitDefEqProofs (disch := first | assumption | (simp only [zzm]; done) | omega | (try with_reducible refine Row.adr (by assumption) ?_); simp only [zzl, Nat.reduceAdd]; first | done | omega) only [go_sem, ↓reduceIte, seval, -List.reduceReplicate, List.toList_toArray, hCl, hCa, hw0]
   | with_reducible refine wrong_t hsm hm O.is ?_
  rename_i b2 z1 z2 z3
  obtain ⟨b4, e40⟩ : ∃ x, x = nb := ⟨_, rfl⟩
  subst e40
  refine trim_t hsm O.is fun G1 v1 hle1 hs1 hI1 => ?_
  rw [htr] at hI1 ⊢
  have hI1 : IsD G1 (trimD d) v1 := hI1
  have hof1 : (trimD d).of.length = 256 := hI1.1
  obtain ⟨C1, an1, al1, ay1, cn1, cl1, cs1, rs1, rfl, O1⟩ := hI1.opened
  have hC1l := O1.len
  have hone1 := wdf_one O1.is
  have hput1 := wdf_put hC1l
  have htk1 : List.take 260 C1 = C1 := List.take_of_length_le (by omega)
  have hsE := hs1
  try simp only [zzs] at hsE
  repeat (obtain ⟨hsx, hsE⟩ := hsE)
  repeat' first
   | (with_reducible first | refine Nx.go ?_ | refine Bk.go (fun _ => ?_) fun _ => ?_)
   | ((with_reducible first | refine NewB.mk2 fun nb hnb hnb1 hnb2 => ?_ | refine NewRow.mk2 fun nb nsp ncap hnb hncap hnb1 hnb2 => ?_); try simp only [zzn] at hnb2)
   | simp -dsimp -implicitDefEqProofs (disch := first | assumption | (simp only [zzm]; done) | omega | (try with_reducible refine Row.adr (by assumption) ?_); simp only [zzl, Nat.reduceAdd]; first | done | omega) only [go_sem, ↓reduceIte, seval, -List.reduceReplicate, List.toList_toArray, hCl, hCa, hC1l, hone1, hput1, htk1, zeroC_len]
  obtain ⟨b7, e70⟩ : ∃ x, x = nb := ⟨_, rfl⟩
  subst e70
  refine rev_t hts hm O1.is fun G2 v2 hle2 hs2 hI2 => ?_
  obtain ⟨r1, hr1⟩ : ∃ r1, r1 = revR (trimD d) most := ⟨_, rfl⟩
  rw [← hr1] at hI2 ⊢
  obtain ⟨C2, an2, al2, ay2, cn2, cl2, cs2, rs2, rfl, O2⟩ := hI2.opened
  have hC2l := O2.len
  have hone2 := wdf_one O2.is
  have hput2 := wdf_put hC2l
  have htk2 : List.take 260 C2 = C2 := List.take_of_length_le (by omega)
  have hsE := hs2
  try simp only [zzs] at hsE
  repeat (obtain ⟨hsx, hsE⟩ := hsE)
  by_cases h1 : r1.2 = 0
  ·rw [h1]
   have hf1 := revR_fine htk hof1 hts (by rw [← hr1]; exact h1)
   rw [← hr1] at hf1
   obtain ⟨_, _, _, _, hk1, hsm1, hof2⟩ := hf1
   repeat' first
    | (with_reducible first | refine Nx.go ?_ | refine Bk.go (fun _ => ?_) fun _ => ?_)
    | ((with_reducible first | refine NewB.mk2 fun nb hnb hnb1 hnb2 => ?_ | refine NewRow.mk2 fun nb nsp ncap hnb hncap hnb1 hnb2 => ?_); try simp only [zzn] at hnb2)
    | simp -dsimp -implicitDefEqProofs (disch := first | assumption | (simp only [zzm]; done) | omega | (try with_reducible refine Row.adr (by assumption) ?_); simp only [zzl, Nat.reduceAdd]; first | done | omega) only [go_sem, ↓reduceIte, seval, -List.reduceReplicate, List.toList_toArray, hCl, hCa, hC1l, hC2l, hone2, hput2, htk2, zeroC_len]
   refine rev_t hsm1 (by decide) O2.is fun G3 v3 hle3 hs3 hI3 => ?_
   obtain ⟨r2, hr2⟩ : ∃ r2, r2 = revR r1.1 65536 := ⟨_, rfl⟩
   rw [← hr2] at hI3 ⊢
   obtain ⟨C3, an3, al3, ay3, cn3, cl3, cs3, rs3, rfl, O3⟩ := hI3.opened
   have hC3l := O3.len
   have hone3 := wdf_one O3.is
   have htk3 : List.take 260 C3 = C3 := List.take_of_length_le (by omega)
   have hput3 := wdf_over hC2l hC3l
   have hsE := hs3
   try simp only [zzs] at hsE
   repeat (obtain ⟨hsx, hsE⟩ := hsE)
   obtain ⟨b9, e90⟩ : ∃ x, x = nb := ⟨_, rfl⟩
   subst e90
   have hz : List.replicate 256 (Value.int .u8 0) ++ [Value.int .i64 0, Value.slice none 0 0, Value.slice none 0 0, Value.slice none 0 0] = zeroC := rfl
   rw [hz]
   by_cases h2 : r2.2 = 0
   ·rw [h2]
    have hf2 := revR_fine hk1 hof2 hsm1 (by rw [← hr2]; exact h2)
    rw [← hr2] at hf2
    obtain ⟨_, _, _, _, hkx, hsx2, hofx⟩ := hf2
    rw [brzR_ok hw0 (by rw [← hr1]; exact h1) (by rw [← hr1, ← hr2]; exact h2), ← hr1, ← hr2] at hR
    repeat' first
     | (with_reducible first | refine Nx.go ?_ | refine Bk.go (fun _ => ?_) fun _ => ?_)
     | ((with_reducible first | refine NewB.mk2 fun nb hnb hnb1 hnb2 => ?_ | refine NewRow.mk2 fun nb nsp ncap hnb hncap hnb1 hnb2 => ?_); try simp only [zzn] at hnb2)
     | simp -dsimp -implicitDefEqProofs (disch := first | assumption | (simp only [zzm]; done) | omega | (try with_reducible refine Row.adr (by assumption) ?_); simp only [zzl, Nat.reduceAdd]; first | done | omega) only [go_sem, ↓reduceIte, seval, -List.reduceReplicate, List.toList_toArray, hCl, hCa, hC1l, hC2l, hC3l, hone3, hput3, htk3]
    have hun := usedS_names hkx
    have k1r := withN_right hkx hun
    have k1s : SmallD (withN r2.1 (usedS r2.1)) := by have := normR_small hsx2; rw [norm_tells hkx] at this; exact this
    have k1o : (withN r2.1 (usedS r2.1)).of.length = 256 := hofx
    have k2r := merge_right k1r k1o
    have k2s := mergeD_small k1o k1s
    refine Tri.live [4, 9] ?_
    refine Tri.upd (Upd.go (H' := (b9, .cells C3 [] 27) :: (b4, .cells zeroC [] 27) :: H) (by intro fsum; simp only [zzq]; omega) (Upd.now ?_))
    refine Tri.run tok [0, 1, 2, 4, 5, 6, 7, 9, 10, 12, 17, 32, 41, 44, 45, 46, 47, 57] (by kernel_rfl) ?_
    have hr3 : ∀ x : Value, List.replicate 3 x = [x, x, x] := fun _ => rfl
    repeat' first
     | (with_reducible first | refine Nx.go ?_ | refine Bk.go (fun _ => ?_) fun _ => ?_)
     | ((with_reducible first | refine NewB.mk2 fun nb hnb hnb1 hnb2 => ?_ | refine NewRow.mk2 fun nb nsp ncap hnb hncap hnb1 hnb2 => ?_); try simp only [zzn] at hnb2)
     | simp -dsimp -implicitDefEqProofs (disch := first | assumption | (simp only [zzm]; done) | omega | (try with_reducible refine Row.adr (by assumption) ?_); simp only [zzl, Nat.reduceAdd]; first | done | omega) only [go_sem, ↓reduceIte, seval, -List.reduceReplicate, hr3]
    obtain ⟨bs, ebs⟩ : ∃ x, x = nb := ⟨_, rfl⟩
    subst ebs
    refine Tri.loopU tok [0, 1, 2, 4, 5, 6, 7, 9, 10, 12, 17, 32, 41, 44, 45, 46, 47, 57] (by kernel_rfl) [4, 9, 44, 45, 46] (fun q G' fr H' => ∃ (i : Nat) (Cx : List Value), i + q = 3 ∧ PLe G3 G' ∧ IsD G' (tidyI r2.1 i) (.agg Cx.toArray) ∧ H' = (bs, .cells [.func (.func 26) #[] #[], .func (.func 27) #[] #[], .func (.func 14) #[] #[]] [] 35) :: (b9, .cells Cx [] 27) :: (b4, .cells zeroC [] 27) :: H ∧ fr = [(4, .pointer (some ⟨b4, 0, none⟩)), (9, .pointer (some ⟨b9, 0, none⟩)), (44, .slice (some ⟨bs, 0, none⟩) 3 3), (45, .int .i64 3), (46, .int .i64 (i : Nat))]) (3) ?_ ?_
    ·exact Upd.now ⟨0, C3, by omega, PLe.refl _, O3.is, rfl, rfl⟩
    ·rintro q G4 fr H4 hle4 hs4 ⟨i, Cx, hiq, hle34, hIx, rfl, rfl⟩
     obtain ⟨_, anx, alx, ayx, cnx, clx, csx, rsx, ex, Ox⟩ := hIx.opened
     obtain rfl : Cx = _ := by simpa using ex
     have hCxl := Ox.len
     have htkx : List.take 260 Cx = Cx := List.take_of_length_le (by omega)
     have hgx := hg.mono (hle1.trans (hle2.trans (hle3.trans hle34)))
     have hsE := hs4
     try simp only [zzs] at hsE
     repeat (obtain ⟨hsx, hsE⟩ := hsE)
     by_cases hi3 : i < 3
     ·rcases (show i = 0 ∨ i = 1 ∨ i = 2 by omega) with rfl | rfl | rfl
      ·skip
       repeat' first
        | (with_reducible first | refine Nx.go ?_ | refine Bk.go (fun _ => ?_) fun _ => ?_)
        | ((with_reducible first | refine NewB.mk2 fun nb hnb hnb1 hnb2 => ?_ | refine NewRow.mk2 fun nb nsp ncap hnb hncap hnb1 hnb2 => ?_); try simp only [zzn] at hnb2)
        | simp -dsimp -implicitDefEqProofs (disch := first | assumption | (simp only [zzm]; done) | omega | (try with_reducible refine Row.adr (by assumption) ?_); simp only [zzl, Nat.reduceAdd]; first | done | omega) only [go_sem, ↓reduceIte, seval, -List.reduceReplicate, List.toList_toArray, hCxl, htkx]
       refine lnorm_t hsx2 Ox.is fun G5 v5 hle5 hs5 hI5 => ?_
       rw [norm_tells hkx] at hI5 ⊢
       have hI5 : IsD G5 (tidyI r2.1 1) v5 := hI5
       obtain ⟨C5, an5, al5, ay5, cn5, cl5, cs5, rs5, rfl, O5⟩ := hI5.opened
       have hC5l := O5.len
       have hone5 := wdf_one O5.is
       have htk5 : List.take 260 C5 = C5 := List.take_of_length_le (by omega)
       have hput5 := wdf_over hCxl hC5l
       have hsE := hs5
       try simp only [zzs] at hsE
       repeat (obtain ⟨hsx, hsE⟩ := hsE)
       repeat' first
        | (with_reducible first | refine Nx.go ?_ | refine Bk.go (fun _ => ?_) fun _ => ?_)
        | ((with_reducible first | refine NewB.mk2 fun nb hnb hnb1 hnb2 => ?_ | refine NewRow.mk2 fun nb nsp ncap hnb hncap hnb1 hnb2 => ?_); try simp only [zzn] at hnb2)
        | simp -dsimp -implicitDefEqProofs (disch := first | assumption | (simp only [zzm]; done) | omega | (try with_reducible refine Row.adr (by assumption) ?_); simp only [zzl, Nat.reduceAdd]; first | done | omega) only [go_sem, ↓reduceIte, seval, -List.reduceReplicate, List.toList_toArray, hCxl, hC5l, hone5, hput5, htk5]
       exact Upd.now ⟨2, by omega, 1, C5, by omega, hle34.trans hle5, O5.is, rfl, rfl⟩
      ·skip
       repeat' first
        | (with_reducible first | refine Nx.go ?_ | refine Bk.go (fun _ => ?_) fun _ => ?_)
        | ((with_reducible first | refine NewB.mk2 fun nb hnb hnb1 hnb2 => ?_ | refine NewRow.mk2 fun nb nsp ncap hnb hncap hnb1 hnb2 => ?_); try simp only [zzn] at hnb2)
        | simp -dsimp -implicitDefEqProofs (disch := first | assumption | (simp only [zzm]; done) | omega | (try with_reducible refine Row.adr (by assumption) ?_); simp only [zzl, Nat.reduceAdd]; first | done | omega) only [go_sem, ↓reduceIte, seval, -List.reduceReplicate, List.toList_toArray, hCxl, htkx]
       refine merge_t k1s hgx Ox.is fun G5 v5 hle5 hs5 hI5 => ?_
       rw [mergeR_ok k1r] at hI5 ⊢
       have hI5 : IsD G5 (tidyI r2.1 2) v5 := hI5
       obtain ⟨C5, an5, al5, ay5, cn5, cl5, cs5, rs5, rfl, O5⟩ := hI5.opened
       have hC5l := O5.len
       have hone5 := wdf_one O5.is
       have htk5 : List.take 260 C5 = C5 := List.take_of_length_le (by omega)
       have hput5 := wdf_over hCxl hC5l
       have hsE := hs5
       try simp only [zzs] at hsE
       repeat (obtain ⟨hsx, hsE⟩ := hsE)
       repeat' first
        | (with_reducible first | refine Nx.go ?_ | refine Bk.go (fun _ => ?_) fun _ => ?_)
        | ((with_reducible first | refine NewB.mk2 fun nb hnb hnb1 hnb2 => ?_ | refine NewRow.mk2 fun nb nsp ncap hnb hncap hnb1 hnb2 => ?_); try simp only [zzn] at hnb2)
        | simp -dsimp -implicitDefEqProofs (disch := first | assumption | (simp only [zzm]; done) | omega | (try with_reducible refine Row.adr (by assumption) ?_); simp only [zzl, Nat.reduceAdd]; first | done | omega) only [go_sem, ↓reduceIte, seval, -List.reduceReplicate, List.toList_toArray, hCxl, hC5l, hone5, hput5, htk5]
       exact Upd.now ⟨1, by omega, 2, C5, by omega, hle34.trans hle5, O5.is, rfl, rfl⟩
      ·skip
       repeat' first
        | (with_reducible first | refine Nx.go ?_ | refine Bk.go (fun _ => ?_) fun _ => ?_)
        | ((with_reducible first | refine NewB.mk2 fun nb hnb hnb1 hnb2 => ?_ | refine NewRow.mk2 fun nb nsp ncap hnb hncap hnb1 hnb2 => ?_); try simp only [zzn] at hnb2)
        | simp -dsimp -implicitDefEqProofs (disch := first | assumption | (simp only [zzm]; done) | omega | (try with_reducible refine Row.adr (by assumption) ?_); simp only [zzl, Nat.reduceAdd]; first | done | omega) only [go_sem, ↓reduceIte, seval, -List.reduceReplicate, List.toList_toArray, hCxl, htkx]
       refine trim_t k2s Ox.is fun G5 v5 hle5 hs5 hI5 => ?_
       rw [trimR_ok k2r] at hI5 ⊢
       have hI5 : IsD G5 (tidyI r2.1 3) v5 := hI5
       obtain ⟨C5, an5, al5, ay5, cn5, cl5, cs5, rs5, rfl, O5⟩ := hI5.opened
       have hC5l := O5.len
       have hone5 := wdf_one O5.is
       have htk5 : List.take 260 C5 = C5 := List.take_of_length_le (by omega)
       have hput5 := wdf_over hCxl hC5l
       have hsE := hs5
       try simp only [zzs] at hsE
       repeat (obtain ⟨hsx, hsE⟩ := hsE)
       repeat' first
        | (with_reducible first | refine Nx.go ?_ | refine Bk.go (fun _ => ?_) fun _ => ?_)
        | ((with_reducible first | refine NewB.mk2 fun nb hnb hnb1 hnb2 => ?_ | refine NewRow.mk2 fun nb nsp ncap hnb hncap hnb1 hnb2 => ?_); try simp only [zzn] at hnb2)
        | simp -dsimp -implicitDefEqProofs (disch := first | assumption | (simp only [zzm]; done) | omega | (try with_reducible refine Row.adr (by assumption) ?_); simp only [zzl, Nat.reduceAdd]; first | done | omega) only [go_sem, ↓reduceIte, seval, -List.reduceReplicate, List.toList_toArray, hCxl, hC5l, hone5, hput5, htk5]
       exact Upd.now ⟨0, by omega, 3, C5, by omega, hle34.trans hle5, O5.is, rfl, rfl⟩
     ·obtain rfl : i = 3 := by omega
      have honex := wdf_one Ox.is
      have hputx := wdf_put hCxl
      repeat' first
       | (with_reducible first | refine Nx.go ?_ | refine Bk.go (fun _ => ?_) fun _ => ?_)
       | ((with_reducible first | refine NewB.mk2 fun nb hnb hnb1 hnb2 => ?_ | refine NewRow.mk2 fun nb nsp ncap hnb hncap hnb1 hnb2 => ?_); try simp only [zzn] at hnb2)
       | simp -dsimp -implicitDefEqProofs (disch := first | assumption | (simp only [zzm]; done) | omega | (try with_reducible refine Row.adr (by assumption) ?_); simp only [zzl, Nat.reduceAdd]; first | done | omega) only [go_sem, ↓reduceIte, seval, -List.reduceReplicate, List.toList_toArray, hCxl, htkx, honex, hputx, zeroC_len]
      unfold UpdR
      refine Upd.leave (H' := H) (by intro fsum; simp only [zzq]; omega) ?_
      exact fun _ hs => hR G4 _ (hle1.trans (hle2.trans (hle3.trans hle34))) hs Ox.is
   ·rw [brzR_two hw0 (by rw [← hr1]; exact h1) (by rw [← hr1, ← hr2]; exact h2), ← hr1, ← hr2] at hR
    repeat' first
     | (with_reducible first | refine Nx.go ?_ | refine Bk.go (fun _ => ?_) fun _ => ?_)
     | ((with_reducible first | refine NewB.mk2 fun nb hnb hnb1 hnb2 => ?_ | refine NewRow.mk2 fun nb nsp ncap hnb hncap hnb1 hnb2 => ?_); try simp only [zzn] at hnb2)
     | simp -dsimp -implicitDefEqProofs (disch := first | assumption | (simp only [zzm]; done) | omega | (try with_reducible refine Row.adr (by assumption) ?_); simp only [zzl, Nat.reduceAdd]; first | done | omega) only [go_sem, ↓reduceIte, seval, -List.reduceReplicate, List.toList_toArray, hCl, hCa, hC1l, hC2l, hC3l, hone3, hput3, htk3, zeroC_len, zeroC_one, zeroC_take, zeroC_put]
    unfold UpdR
    refine Upd.leave (H' := H) (by intro fsum; simp only [zzq]; omega) ?_
    exact fun _ hs => hR G3 _ (hle1.trans (hle2.trans hle3)) hs (zeroD_is _)
  ·rw [brzR_one hw0 (by rw [← hr1]; exact h1), ← hr1] at hR
   repeat' first
    | (with_reducible first | refine Nx.go ?_ | refine Bk.go (fun _ => ?_) fun _ => ?_)
    | ((with_reducible first | refine NewB.mk2 fun nb hnb hnb1 hnb2 => ?_ | refine NewRow.mk2 fun nb nsp ncap hnb hncap hnb1 hnb2 => ?_); try simp only [zzn] at hnb2)
    | simp -dsimp -implicitDefEqProofs (disch := first | assumption | (simp only [zzm]; done) | omega | (try with_reducible refine Row.adr (by assumption) ?_); simp only [zzl, Nat.reduceAdd]; first | done | omega) only [go_sem, ↓reduceIte, seval, -List.reduceReplicate, List.toList_toArray, hCl, hCa, hC1l, hC2l, hone2, hput2, htk2, zeroC_len, zeroC_one, zeroC_take, zeroC_put]
   unfold UpdR
   refine Upd.leave (H' := H) (by intro fsum; simp only [zzq]; omega) ?_
   exact fun _ hs => hR G2 _ (hle1.trans hle2) hs (zeroD_is _)
 ·rw [brzR_wrong hw0] at hR
  refine FnT.body tok [0, 1, 2, 4, 5, 6, 7, 9, 10, 12, 17, 32, 41, 44, 45, 46, 47, 57] Tryz.func11 rfl (by kernel_rfl) (by kernel_rfl) (by show _ ≤ 62; simp) fun hsep => ?_
  rw [Tryz.results11]
  have hsE := hsep
  try simp only [zzs] at hsE
  repeat (obtain ⟨hsx, hsE⟩ := hsE)
  repeat' first
   | (with_reducible first | refine Nx.go ?_ | refine Bk.go (fun _ => ?_) fun _ => ?_)
   | ((with_reducible first | refine NewB.mk2 fun nb hnb hnb1 hnb2 => ?_ | refine NewRow.mk2 fun nb nsp ncap hnb hncap hnb1 hnb2 => ?_); try simp only [zzn] at hnb2)
   | simp -dsimp -implicitDefEqProofs (disch := first | assumption | (simp only [zzm]; done) | omega | (try with_reducible refine Row.adr (by assumption) ?_); simp only [zzl, Nat.reduceAdd]; first | done | omega) only [go_sem, ↓reduceIte, seval, -List.reduceReplicate, List.toList_toArray, hCl, hCa, zeroC_len, zeroC_one, zeroC_take, zeroC_put]
   | with_reducible refine wrong_t hsm hm O.is ?_
  unfold UpdR
  refine Upd.leave (H' := H) (by intro fsum; simp only [zzq]; omega) ?_
  exact fun _ hs => hR G _ (PLe.refl _) hs (zeroD_is _)
end Go.Proofs.YtefkpedhbijhkaaGreatDoor
namespace Go.Proofs.YtefkpedhbijhkaaGreatDoor
open Go Go.V Go.Proofs
end Go.Proofs.YtefkpedhbijhkaaGreatDoor
namespace Go.Proofs.YtefkpedhbijhkaaGreatDoor
open Go Go.V Go.Proofs
theorem equals_t (xs ys : List (List UInt8)) (hlen : xs.length ≤ 2000000) {G : PHeap} {H : Heap} {R : Value → PHeap → Heap → Prop} {v w : Value} (hv : Sl G str v xs) (hw : Sl G str w ys) (hR : R (.bool (decide (xs = ys))) G H) : FnT Tryz.prog 36 [v, w] G H R := by
 obtain ⟨a, cap, rfl, hrow, hcap⟩ := hv
 obtain ⟨a', cap', rfl, hrow', hcap'⟩ := hw
 refine FnT.body tok [0, 1, 4, 5, 10, 12, 13, 14, 24] Tryz.func36 rfl (by kernel_rfl) (by kernel_rfl) (by show _ ≤ 26; simp) fun hsep => ?_
 rw [Tryz.results36]
 have hsE := hsep
 try simp only [zzs] at hsE
 repeat (obtain ⟨hsx, hsE⟩ := hsE)
 repeat' first
  | (with_reducible first | refine Nx.go ?_ | refine Bk.go (fun _ => ?_) fun _ => ?_)
  | (with_reducible refine NewB.mk2 fun nb hnb hnb1 hnb2 => ?_; try simp only [zzn] at hnb2)
  | simp -dsimp -implicitDefEqProofs (disch := first | assumption | (simp only [zzm]; done) | omega | (try with_reducible refine Row.adr (by assumption) ?_); simp only [zzl, Nat.reduceAdd]; first | done | omega) only [go_sem, ↓reduceIte, seval]
 ·rename_i hne
  have hxy : xs.length = ys.length := by omega
  refine Tri.loopU tok [0, 1, 4, 5, 10, 12, 13, 14, 24] (by kernel_rfl) [0, 1, 4, 12, 13] (fun n G' l H' => ∃ i : Nat, i + n = xs.length ∧ (∀ j (h : j < xs.length), j < i → xs[j] = ys[j]) ∧ G' = G ∧ H' = H ∧ l = [(0, .slice a xs.length cap), (1, .slice a' ys.length cap'), (4, .bool false), (12, .int .i64 xs.length), (13, .int .i64 i)]) (xs.length) (Upd.now ?_) ?_
  ·exact ⟨0, by omega, fun j _ h => by omega, rfl, rfl, rfl⟩
  ·rintro n G' l H' hle hs ⟨i, hi, hno, rfl, rfl, rfl⟩
   by_cases hil : i < xs.length
   ·have hil' : i < ys.length := by omega
    repeat' first
     | (with_reducible first | refine Nx.go ?_ | refine Bk.go (fun _ => ?_) fun _ => ?_)
     | (with_reducible refine NewB.mk2 fun nb hnb hnb1 hnb2 => ?_; try simp only [zzn] at hnb2)
     | with_reducible refine Tri.drawH tok mixed [0, 1, 4, 5, 10, 12, 13, 14, 24] 6 [3, 7] (.op 0 .plain (.op 1 .plain (.op 2 .plain (.op 3 .held (.op 4 .plain (.op 5 .plain (.op 6 .plain (.op 7 .held (.op 8 .plain .nil))))))))) (by kernel_rfl) [0, 1] ?_
     | simp -dsimp -implicitDefEqProofs (disch := first | assumption | (simp only [zzm]; done) | omega | (try with_reducible refine Row.adr (by assumption) ?_); simp only [zzl, Nat.reduceAdd]; first | done | omega) only [go_sem, ↓reduceIte, seval, Row.obj hrow, Row.obj hrow', List.getElem_map]
    ·rename_i he
     exact Upd.now ⟨n - 1, by omega, i + 1, by omega, fun j h hj => by
      by_cases e : j = i
      ·subst e; exact he
      ·exact hno j h (by omega), rfl, rfl, rfl⟩
    ·rename_i he
     rw [decide_eq_false (fun e => he (by subst e; rfl))] at hR
     all_goals refine Upd.finL ?_ hR ?_
     any_goals (intro fsum; first | exact Nat.le_refl _ | (simp only [zzq]; omega))
     rfl
   ·obtain rfl : i = xs.length := by omega
    rw [decide_eq_true (List.ext_getElem hxy fun j h1 h2 => hno j h1 h1)] at hR
    repeat' first
     | (with_reducible first | refine Nx.go ?_ | refine Bk.go (fun _ => ?_) fun _ => ?_)
     | (with_reducible refine NewB.mk2 fun nb hnb hnb1 hnb2 => ?_; try simp only [zzn] at hnb2)
     | simp -dsimp -implicitDefEqProofs (disch := first | assumption | (simp only [zzm]; done) | omega | (try with_reducible refine Row.adr (by assumption) ?_); simp only [zzl, Nat.reduceAdd]; first | done | omega) only [go_sem, ↓reduceIte, seval]
    all_goals refine Upd.finL ?_ hR ?_
    any_goals (intro fsum; first | exact Nat.le_refl _ | (simp only [zzq]; omega))
    rfl
 ·rename_i hne
  rw [decide_eq_false (fun e => hne (by subst e; rfl))] at hR
  all_goals refine Upd.finL ?_ hR ?_
  any_goals (intro fsum; first | exact Nat.le_refl _ | (simp only [zzq]; omega))
  rfl
theorem eqrows_t {xs ys : List (List Int)} (hlen : xs.length ≤ 2000000) (hxl : ∀ x ∈ xs, x.length ≤ 2000000) {ax ay : Option Addr} {cx cy : Nat} {rs rs' : List Value} {G : PHeap} {H : Heap} {R : Value → PHeap → Heap → Prop}
  (hrx : Row G ax rs) (hrl : rs.length = xs.length) (hrs : ∀ i (h : i < xs.length) (h2 : i < rs.length), ∃ b c, rs[i] = .slice b xs[i].length c ∧ Row G b (xs[i].map (Value.int .i64)) ∧ xs[i].length ≤ c)
  (hry : Row G ay rs') (hrl' : rs'.length = ys.length) (hrs' : ∀ i (h : i < ys.length) (h2 : i < rs'.length), ∃ b c, rs'[i] = .slice b ys[i].length c ∧ Row G b (ys[i].map (Value.int .i64)) ∧ ys[i].length ≤ c)
  (hR : R (.bool (decide (xs = ys))) G H) : FnT Tryz.prog 37 [.slice ax xs.length cx, .slice ay ys.length cy, .func (.func 35) #[] #[]] G H R := by
 by_cases hxy : xs.length = ys.length
 ·refine FnT.body tok [0, 1, 2, 6, 7, 8, 9, 14, 15, 16, 17, 18, 30] Tryz.func37 rfl (by kernel_rfl) (by kernel_rfl) (by show _ ≤ 32; simp) fun hsep => ?_
  rw [Tryz.results37]
  have hsE := hsep
  try simp only [zzs] at hsE
  repeat (obtain ⟨hsx, hsE⟩ := hsE)
  repeat' first
   | (with_reducible first | refine Nx.go ?_ | refine Bk.go (fun _ => ?_) fun _ => ?_)
   | (with_reducible refine NewB.mk2 fun nb hnb hnb1 hnb2 => ?_; try simp only [zzn] at hnb2)
   | simp -dsimp -implicitDefEqProofs (disch := first | assumption | (simp only [zzm]; done) | omega | (try with_reducible refine Row.adr (by assumption) ?_); simp only [zzl, Nat.reduceAdd]; first | done | omega) only [go_sem, ↓reduceIte, seval]
  all_goals try (exfalso; omega)
  refine Tri.loopU tok [0, 1, 2, 6, 7, 8, 9, 14, 15, 16, 17, 18, 30] (by kernel_rfl) [0, 1, 2, 6, 15, 16, 17] (fun n G' l H' => ∃ i : Nat, i + n = xs.length ∧ (∀ j (h : j < xs.length), j < i → xs[j] = (ys[j]'(hxy ▸ h))) ∧ G' = G ∧ H' = H ∧ l = [(0, .slice ax xs.length cx), (1, .slice ay ys.length cy), (2, .func (.func 35) #[] #[]), (6, .bool false), (15, .slice ax xs.length cx), (16, .int .i64 xs.length), (17, .int .i64 i)]) (xs.length) (Upd.now ?_) ?_
  ·exact ⟨0, by omega, fun j _ h => by omega, rfl, rfl, rfl⟩
  ·rintro n G' l H' hle hs ⟨i, hi, hno, rfl, rfl, rfl⟩
   by_cases hil : i < xs.length
   ·have hil' : i < ys.length := by omega
    obtain ⟨b, c, e1, e2, e3⟩ := hrs i hil (by omega)
    obtain ⟨b', c', f1, f2, f3⟩ := hrs' i hil' (by omega)
    have had : Adr ax := hrx.adr (by omega)
    have had2 : Adr ay := hry.adr (by omega)
    have hs1 : Sl G' (Value.int .i64) (.slice b xs[i].length c) xs[i] := ⟨b, c, rfl, e2, e3⟩
    have hs2 : Sl G' (Value.int .i64) (.slice b' ys[i].length c') ys[i] := ⟨b', c', rfl, f2, f3⟩
    repeat' first
     | (with_reducible first | refine Nx.go ?_ | refine Bk.go (fun _ => ?_) fun _ => ?_)
     | (with_reducible refine NewB.mk2 fun nb hnb hnb1 hnb2 => ?_; try simp only [zzn] at hnb2)
     | simp -dsimp -implicitDefEqProofs (disch := first | assumption | (simp only [zzm]; done) | omega | (try with_reducible refine Row.adr (by assumption) ?_); simp only [zzl, Nat.reduceAdd]; first | done | omega) only [go_sem, ↓reduceIte, seval, Row.obj hrx, Row.obj hry, e1, f1]
     | with_reducible refine equal_t xs[i] ys[i] (hxl _ (List.getElem_mem hil)) hs1 hs2 ?_
    ·rename_i he
     exact Upd.now ⟨n - 1, by omega, i + 1, by omega, fun j h hj => by
      by_cases e : j = i
      ·subst e; exact he
      ·exact hno j h (by omega), rfl, rfl, rfl⟩
    ·rename_i he
     rw [decide_eq_false (fun e => he (by subst e; rfl))] at hR
     all_goals refine Upd.finL ?_ hR ?_
     any_goals (intro fsum; first | exact Nat.le_refl _ | (simp only [zzq]; omega))
     rfl
   ·obtain rfl : i = xs.length := by omega
    rw [decide_eq_true (List.ext_getElem hxy fun j h1 h2 => hno j h1 h1)] at hR
    repeat' first
     | (with_reducible first | refine Nx.go ?_ | refine Bk.go (fun _ => ?_) fun _ => ?_)
     | (with_reducible refine NewB.mk2 fun nb hnb hnb1 hnb2 => ?_; try simp only [zzn] at hnb2)
     | simp -dsimp -implicitDefEqProofs (disch := first | assumption | (simp only [zzm]; done) | omega | (try with_reducible refine Row.adr (by assumption) ?_); simp only [zzl, Nat.reduceAdd]; first | done | omega) only [go_sem, ↓reduceIte, seval]
    all_goals refine Upd.finL ?_ hR ?_
    any_goals (intro fsum; first | exact Nat.le_refl _ | (simp only [zzq]; omega))
    rfl
 ·rw [decide_eq_false fun h => hxy (congrArg List.length h)] at hR
  refine FnT.body tok [0, 1, 2, 6, 7, 8, 9, 14, 15, 16, 17, 18, 30] Tryz.func37 rfl (by kernel_rfl) (by kernel_rfl) (by show _ ≤ 32; simp) fun hsep => ?_
  rw [Tryz.results37]
  have hsE := hsep
  try simp only [zzs] at hsE
  repeat (obtain ⟨hsx, hsE⟩ := hsE)
  repeat' first
   | (with_reducible first | refine Nx.go ?_ | refine Bk.go (fun _ => ?_) fun _ => ?_)
   | (with_reducible refine NewB.mk2 fun nb hnb hnb1 hnb2 => ?_; try simp only [zzn] at hnb2)
   | simp -dsimp -implicitDefEqProofs (disch := first | assumption | (simp only [zzm]; done) | omega | (try with_reducible refine Row.adr (by assumption) ?_); simp only [zzl, Nat.reduceAdd]; first | done | omega) only [go_sem, ↓reduceIte, seval]
  all_goals try (exfalso; omega)
  all_goals refine Upd.finL ?_ hR ?_
  any_goals (intro fsum; first | exact Nat.le_refl _ | (simp only [zzq]; omega))
  rfl
theorem dsame_t {d e : DfaT} (hsm : SmallD d) {G : PHeap} {H : Heap} {R : Value → PHeap → Heap → Prop} {v w : Value} (hv : IsD G d v) (hw : IsD G e w) (hR : R (.bool (boolOf (d = e))) G H) : FnT Tryz.prog 16 [v, w] G H R := by
 obtain ⟨C, an, al, ay, cn, cl, cs, rs, rfl, O⟩ := hv.opened
 obtain ⟨C', an', al', ay', cn', cl', cs', rs', rfl, O'⟩ := hw.opened
 obtain ⟨hm1, hm2, hm3, hm4, hm5⟩ := id hsm
 have hCl := O.len
 have hCw := O.w
 have hCn := O.n
 have hCx := O.l
 have hCs := O.s
 have hCo := O.of
 have hDl := O'.len
 have hDw := O'.w
 have hDn := O'.n
 have hDx := O'.l
 have hDs := O'.s
 have hDo := O'.of
 have heq : eqT T 9 22 (agg8 d.of) (agg8 e.of) = some (decide (d.of = e.of)) := eqT_ints (d := 7) (t := 22) (e := 5) (n := 256) (k := .u8) rfl rfl rfl O.ofl O'.ofl
 by_cases h1 : d.of = e.of
 ·by_cases h2 : d.width = e.width
  ·by_cases h3 : d.label = e.label
   ·by_cases h4 : d.names = e.names
    ·by_cases h5 : d.next = e.next
     ·rw [boolOf_yes (DfaT.ext2 h1 h2 h5 h3 h4)] at hR
      refine FnT.body tok [0, 1, 2, 3, 4] Tryz.func16 rfl (by kernel_rfl) (by kernel_rfl) (by show _ ≤ 38; simp) fun hsep => ?_
      rw [Tryz.results16]
      have hsE := hsep
      try simp only [zzs] at hsE
      repeat (obtain ⟨hsx, hsE⟩ := hsE)
      repeat' first
       | (with_reducible first | refine Nx.go ?_ | refine Bk.go (fun _ => ?_) fun _ => ?_)
       | (with_reducible refine NewB.mk2 fun nb hnb hnb1 hnb2 => ?_; try simp only [zzn] at hnb2)
       | simp -dsimp -implicitDefEqProofs (disch := first | assumption | (simp only [zzm]; done) | omega | (try with_reducible refine Row.adr (by assumption) ?_); simp only [zzl, Nat.reduceAdd]; first | done | omega) only [go_sem, ↓reduceIte, seval, -List.reduceReplicate, List.toList_toArray, hCl, hCw, hCn, hCx, hCs, hCo, hDl, hDw, hDn, hDx, hDs, hDo, heq, decide_eq_true h1, decide_eq_true h2, decide_eq_true h3, decide_eq_true h4, decide_eq_true h5]
       | with_reducible refine equal_t _ _ hm3 O.label O'.label ?_
       | with_reducible refine equals_t _ _ hm4 O.names O'.names ?_
       | with_reducible refine eqrows_t hm1 hm2 O.rn O.rnl O.rs O'.rn O'.rnl O'.rs ?_
      all_goals refine Upd.finL ?_ hR ?_
      any_goals (intro fsum; first | exact Nat.le_refl _ | (simp only [zzq]; omega))
      all_goals rfl
     ·rw [boolOf_no fun h => h5 (congrArg DfaT.next h)] at hR
      refine FnT.body tok [0, 1, 2, 3, 4] Tryz.func16 rfl (by kernel_rfl) (by kernel_rfl) (by show _ ≤ 38; simp) fun hsep => ?_
      rw [Tryz.results16]
      have hsE := hsep
      try simp only [zzs] at hsE
      repeat (obtain ⟨hsx, hsE⟩ := hsE)
      repeat' first
       | (with_reducible first | refine Nx.go ?_ | refine Bk.go (fun _ => ?_) fun _ => ?_)
       | (with_reducible refine NewB.mk2 fun nb hnb hnb1 hnb2 => ?_; try simp only [zzn] at hnb2)
       | simp -dsimp -implicitDefEqProofs (disch := first | assumption | (simp only [zzm]; done) | omega | (try with_reducible refine Row.adr (by assumption) ?_); simp only [zzl, Nat.reduceAdd]; first | done | omega) only [go_sem, ↓reduceIte, seval, -List.reduceReplicate, List.toList_toArray, hCl, hCw, hCn, hCx, hCs, hCo, hDl, hDw, hDn, hDx, hDs, hDo, heq, decide_eq_true h1, decide_eq_true h2, decide_eq_true h3, decide_eq_true h4, decide_eq_false h5]
       | with_reducible refine equal_t _ _ hm3 O.label O'.label ?_
       | with_reducible refine equals_t _ _ hm4 O.names O'.names ?_
       | with_reducible refine eqrows_t hm1 hm2 O.rn O.rnl O.rs O'.rn O'.rnl O'.rs ?_
      all_goals refine Upd.finL ?_ hR ?_
      any_goals (intro fsum; first | exact Nat.le_refl _ | (simp only [zzq]; omega))
      all_goals rfl
    ·rw [boolOf_no fun h => h4 (congrArg DfaT.names h)] at hR
     refine FnT.body tok [0, 1, 2, 3, 4] Tryz.func16 rfl (by kernel_rfl) (by kernel_rfl) (by show _ ≤ 38; simp) fun hsep => ?_
     rw [Tryz.results16]
     have hsE := hsep
     try simp only [zzs] at hsE
     repeat (obtain ⟨hsx, hsE⟩ := hsE)
     repeat' first
      | (with_reducible first | refine Nx.go ?_ | refine Bk.go (fun _ => ?_) fun _ => ?_)
      | (with_reducible refine NewB.mk2 fun nb hnb hnb1 hnb2 => ?_; try simp only [zzn] at hnb2)
      | simp -dsimp -implicitDefEqProofs (disch := first | assumption | (simp only [zzm]; done) | omega | (try with_reducible refine Row.adr (by assumption) ?_); simp only [zzl, Nat.reduceAdd]; first | done | omega) only [go_sem, ↓reduceIte, seval, -List.reduceReplicate, List.toList_toArray, hCl, hCw, hCn, hCx, hCs, hCo, hDl, hDw, hDn, hDx, hDs, hDo, heq, decide_eq_true h1, decide_eq_true h2, decide_eq_true h3, decide_eq_false h4]
      | with_reducible refine equal_t _ _ hm3 O.label O'.label ?_
      | with_reducible refine equals_t _ _ hm4 O.names O'.names ?_
     all_goals refine Upd.finL ?_ hR ?_
     any_goals (intro fsum; first | exact Nat.le_refl _ | (simp only [zzq]; omega))
     all_goals rfl
   ·rw [boolOf_no fun h => h3 (congrArg DfaT.label h)] at hR
    refine FnT.body tok [0, 1, 2, 3, 4] Tryz.func16 rfl (by kernel_rfl) (by kernel_rfl) (by show _ ≤ 38; simp) fun hsep => ?_
    rw [Tryz.results16]
    have hsE := hsep
    try simp only [zzs] at hsE
    repeat (obtain ⟨hsx, hsE⟩ := hsE)
    repeat' first
     | (with_reducible first | refine Nx.go ?_ | refine Bk.go (fun _ => ?_) fun _ => ?_)
     | (with_reducible refine NewB.mk2 fun nb hnb hnb1 hnb2 => ?_; try simp only [zzn] at hnb2)
     | simp -dsimp -implicitDefEqProofs (disch := first | assumption | (simp only [zzm]; done) | omega | (try with_reducible refine Row.adr (by assumption) ?_); simp only [zzl, Nat.reduceAdd]; first | done | omega) only [go_sem, ↓reduceIte, seval, -List.reduceReplicate, List.toList_toArray, hCl, hCw, hCn, hCx, hCs, hCo, hDl, hDw, hDn, hDx, hDs, hDo, heq, decide_eq_true h1, decide_eq_true h2, decide_eq_false h3]
     | with_reducible refine equal_t _ _ hm3 O.label O'.label ?_
    all_goals refine Upd.finL ?_ hR ?_
    any_goals (intro fsum; first | exact Nat.le_refl _ | (simp only [zzq]; omega))
    all_goals rfl
  ·rw [boolOf_no fun h => h2 (congrArg DfaT.width h)] at hR
   refine FnT.body tok [0, 1, 2, 3, 4] Tryz.func16 rfl (by kernel_rfl) (by kernel_rfl) (by show _ ≤ 38; simp) fun hsep => ?_
   rw [Tryz.results16]
   have hsE := hsep
   try simp only [zzs] at hsE
   repeat (obtain ⟨hsx, hsE⟩ := hsE)
   repeat' first
    | (with_reducible first | refine Nx.go ?_ | refine Bk.go (fun _ => ?_) fun _ => ?_)
    | (with_reducible refine NewB.mk2 fun nb hnb hnb1 hnb2 => ?_; try simp only [zzn] at hnb2)
    | simp -dsimp -implicitDefEqProofs (disch := first | assumption | (simp only [zzm]; done) | omega | (try with_reducible refine Row.adr (by assumption) ?_); simp only [zzl, Nat.reduceAdd]; first | done | omega) only [go_sem, ↓reduceIte, seval, -List.reduceReplicate, List.toList_toArray, hCl, hCw, hCn, hCx, hCs, hCo, hDl, hDw, hDn, hDx, hDs, hDo, heq, decide_eq_true h1, decide_eq_false h2]
   all_goals refine Upd.finL ?_ hR ?_
   any_goals (intro fsum; first | exact Nat.le_refl _ | (simp only [zzq]; omega))
   all_goals rfl
 ·rw [boolOf_no fun h => h1 (congrArg DfaT.of h)] at hR
  refine FnT.body tok [0, 1, 2, 3, 4] Tryz.func16 rfl (by kernel_rfl) (by kernel_rfl) (by show _ ≤ 38; simp) fun hsep => ?_
  rw [Tryz.results16]
  have hsE := hsep
  try simp only [zzs] at hsE
  repeat (obtain ⟨hsx, hsE⟩ := hsE)
  repeat' first
   | (with_reducible first | refine Nx.go ?_ | refine Bk.go (fun _ => ?_) fun _ => ?_)
   | (with_reducible refine NewB.mk2 fun nb hnb hnb1 hnb2 => ?_; try simp only [zzn] at hnb2)
   | simp -dsimp -implicitDefEqProofs (disch := first | assumption | (simp only [zzm]; done) | omega | (try with_reducible refine Row.adr (by assumption) ?_); simp only [zzl, Nat.reduceAdd]; first | done | omega) only [go_sem, ↓reduceIte, seval, -List.reduceReplicate, List.toList_toArray, hCl, hCw, hCn, hCx, hCs, hCo, hDl, hDw, hDn, hDx, hDs, hDo, heq, decide_eq_false h1]
  all_goals refine Upd.finL ?_ hR ?_
  any_goals (intro fsum; first | exact Nat.le_refl _ | (simp only [zzq]; omega))
  all_goals rfl
end Go.Proofs.YtefkpedhbijhkaaGreatDoor
namespace Go.Proofs.YtefkpedhbijhkaaGreatDoor
open Go Go.V Go.Proofs
def of7 : List Int := (List.replicate 256 (0 : Int)).set 97 1
def d7 : DfaT := ⟨of7, 2, [[0, 1], [0, 1]], [0, 1], [[120]]⟩
def r7 : DfaT := ⟨of7, 2, [[1, 2], [1, 1], [2, 2]], [0, 0, 1], [[120]]⟩
theorem of7_len : of7.length = 256 := by unfold of7; rw [List.length_set, List.length_replicate]
theorem name120 : namesOk [[120]] := by
 refine ⟨by decide, fun i h => ?_⟩
 have h1 : i < 1 := h
 match i, h1 with
 | 0, _ => exact ⟨nameB_iff.2 ⟨by show 1 ≤ 1; omega, by show 1 ≤ 32; omega, fun i hi => by
   match i, (show i < 1 from hi) with
   | 0, _ => exact (by show mayN (120 : UInt8).toNat true = true; decide)⟩, (by decide : ¬ ([120] : List UInt8) ∈ ([] : List (List UInt8)))⟩
theorem d7_right : RightP d7 := by
 refine ⟨by decide, by decide, rfl, by decide +kernel, by decide +kernel, name120, fun s h1 h2 => ?_⟩
 have e : ∀ s : Fin 2, ((d7.next[s.val]'s.isLt).length : Int) = d7.width ∧ 0 ≤ d7.label[s.val]'s.isLt ∧ d7.label[s.val]'s.isLt ≤ d7.names.length ∧ ∀ t ∈ d7.next[s.val]'s.isLt, 0 ≤ t ∧ t < d7.label.length := by decide +kernel
 exact e ⟨s, h1⟩
theorem r7_right : RightP r7 := by
 refine ⟨by decide, by decide, rfl, by decide +kernel, by decide +kernel, name120, fun s h1 h2 => ?_⟩
 have e : ∀ s : Fin 3, ((r7.next[s.val]'s.isLt).length : Int) = r7.width ∧ 0 ≤ r7.label[s.val]'s.isLt ∧ r7.label[s.val]'s.isLt ≤ r7.names.length ∧ ∀ t ∈ r7.next[s.val]'s.isLt, 0 ≤ t ∧ t < r7.label.length := by decide +kernel
 exact e ⟨s, h1⟩
theorem d7_small : SmallD d7 := ⟨by decide, by decide, by decide, by decide, by decide⟩
theorem r7_small : SmallD r7 := ⟨by decide, by decide, by decide, by decide, by decide⟩
theorem d7_turn : turnR d7 9 = (r7, true) := by
 have hl : turnL d7 9 = [[0, 1], [0, 0], [1, 1]] := by decide +kernel
 unfold turnR
 rw [hl, if_pos (by decide)]
 have h1 : (turnM d7 [[0, 1], [0, 0], [1, 1]]).next = r7.next := by decide +kernel
 have h2 : (turnM d7 [[0, 1], [0, 0], [1, 1]]).label = r7.label := by decide +kernel
 rw [DfaT.ext2 (d := turnM d7 [[0, 1], [0, 0], [1, 1]]) (e := r7) rfl rfl h1 h2 rfl]
theorem r7_turn : turnR r7 65536 = (d7, true) := by
 have hl : turnL r7 2 = [[0, 0, 1], [1, 0, 1]] := by decide +kernel
 have hs : turnL r7 65536 = turnL r7 2 := lsA_stop (by show (turnL r7 2).length ≤ 2; rw [hl]; decide) 65536 (by omega)
 unfold turnR
 rw [hs, hl, if_pos (by decide)]
 have h1 : (turnM r7 [[0, 0, 1], [1, 0, 1]]).next = d7.next := by decide +kernel
 have h2 : (turnM r7 [[0, 0, 1], [1, 0, 1]]).label = d7.label := by decide +kernel
 rw [DfaT.ext2 (d := turnM r7 [[0, 0, 1], [1, 0, 1]]) (e := d7) rfl rfl h1 h2 rfl]
theorem d7_rev : revR d7 9 = (r7, 0) := by
 rw [revR_ok d7_right (by decide) (by show (turnR d7 9).2 = true; rw [d7_turn])]
 show ((turnR d7 9).1, (0 : Int)) = _
 rw [d7_turn]
theorem r7_rev : revR r7 65536 = (d7, 0) := by
 rw [revR_ok r7_right (by decide) (by show (turnR r7 65536).2 = true; rw [r7_turn])]
 show ((turnR r7 65536).1, (0 : Int)) = _
 rw [r7_turn]
theorem d7_trim : trimD d7 = d7 := by
 have h1 : (trimD d7).next = d7.next := by decide +kernel
 have h2 : (trimD d7).label = d7.label := by decide +kernel
 exact DfaT.ext2 (d := trimD d7) (e := d7) rfl rfl h1 h2 rfl
theorem d7_merge : mergeD d7 = d7 := by
 have h1 : (mergeD d7).of = d7.of := by decide +kernel
 have h2 : (mergeD d7).width = d7.width := by decide +kernel
 have h3 : (mergeD d7).next = d7.next := by decide +kernel
 exact DfaT.ext2 (d := mergeD d7) (e := d7) h1 h2 h3 rfl rfl
theorem d7_used : usedS d7 = d7.names := by
 refine rising_eq (usedS_rising d7_right) (List.pairwise_singleton _ _) fun x => ?_
 have h0 : usedN d7 d7.names.length = [[120]] := by decide +kernel
 unfold usedS
 rw [h0, mem_sortS]
 rfl
theorem d7_tidy : tidyD d7 = d7 := by
 unfold tidyD withN
 rw [d7_used, withD_same d7_right, d7_merge, d7_trim]
theorem d7_brz : brzR d7 9 = (d7, 0) := by
 have h1 : revR (trimD d7) 9 = (r7, 0) := by rw [d7_trim, d7_rev]
 have h2 : (revR (revR (trimD d7) 9).1 65536) = (d7, 0) := by rw [h1, r7_rev]
 rw [brzR_ok (wrongR_ok d7_right (by decide)) (by rw [h1]) (by rw [h2]), h2, d7_tidy]
theorem r7_name {w : List UInt8} {k : Int} (h : tellD r7 w = k) : nameD r7 (tellB r7 w) = nameD r7 k := by
 unfold tellB
 rw [if_pos (boolOf_yes r7_right), h]
theorem r7_ab : nameD r7 (tellB r7 [97, 98]) = [120] := by rw [r7_name (k := 1) (by decide +kernel)]; decide
theorem r7_ba : nameD r7 (tellB r7 [98, 97]) = [] := by rw [r7_name (k := 0) (by decide +kernel)]; decide
theorem d7_u8 : splice (List.replicate 256 (Value.int .u8 0)) 97 [Value.int .u8 1] = u8L d7.of := by
 rw [splice_one (by rw [List.length_replicate]; omega)]
 unfold u8L
 show _ = (of7).map (Value.int .u8)
 unfold of7
 rw [List.map_set, List.map_replicate]
theorem calleeRev : V.Callee Tryz.prog 8 := ⟨_, _, Tryz.func8, rfl, by kernel_rfl⟩
theorem calleeName27 : V.Callee Tryz.prog 19 := ⟨_, _, Tryz.func19, rfl, by kernel_rfl⟩
theorem knows_t {G : PHeap} {H : Heap} {R : Value → PHeap → Heap → Prop} (hg : HasTab G) (hR : ∀ G', PLe G G' → Sep G' (keys H) → R (.bool true) G' H) : FnT Tryz.prog 7 [] G H R := by
 have hd : d7.of.length = 256 := of7_len
 have hofl : (u8L d7.of).length = 256 := by rw [List.length_map, hd]
 have hoft : List.take 256 (u8L d7.of) = u8L d7.of := List.take_of_length_le (by omega)
 have hofo : (u8L d7.of).all oneV = true := by rw [List.all_map]; exact List.all_eq_true.2 fun _ _ => rfl
 have hzr : (List.replicate 256 (Value.int .u8 0)).length = 256 := List.length_replicate
 have hzo : (List.replicate 256 (Value.int .u8 0)).all oneV = true := List.all_eq_true.2 fun v hv => by rw [List.eq_of_mem_replicate hv]; rfl
 have hzz : splice (List.replicate 256 (Value.int .u8 0)) 0 (List.replicate 256 (Value.int .u8 0)) = List.replicate 256 (Value.int .u8 0) := by
  unfold splice
  rw [List.take_zero, List.nil_append, List.drop_of_length_le (by rw [List.length_replicate]; omega), List.append_nil]
 have hb1 := build_of (d := d7) hd
 have hb2 : splice (u8L d7.of ++ [Value.int .i64 0, Value.slice none 0 0, Value.slice none 0 0, Value.slice none 0 0]) 256 [Value.int .i64 2] = cellsD d7 (.slice none 0 0) (.slice none 0 0) (.slice none 0 0) := build_w (d := d7) hd
 have hl1 : (u8L d7.of ++ [Value.int .i64 0, Value.slice none 0 0, Value.slice none 0 0, Value.slice none 0 0]).length = 260 := by rw [List.length_append, hofl]; rfl
 have hr1 : ∀ x : Value, List.replicate 1 x = [x] := fun _ => rfl
 have hr2 : ∀ x : Value, List.replicate 2 x = [x, x] := fun _ => rfl
 have hl2 : ∀ a b c : Value, (cellsD d7 a b c).length = 260 := fun a b c => cellsD_len hd _ _ _
 have ht2 : ∀ a b c : Value, List.take 260 (cellsD d7 a b c) = cellsD d7 a b c := fun a b c => cellsD_all hd _ _ _
 have hputN : ∀ a b c x : Value, splice (cellsD d7 a b c) 257 [x] = cellsD d7 x b c := fun a b c x => cellsD_putN hd _ _ _ _
 have hputL : ∀ a b c x : Value, splice (cellsD d7 a b c) 258 [x] = cellsD d7 a x c := fun a b c x => cellsD_putL hd _ _ _ _
 have hputS : ∀ a b c x : Value, splice (cellsD d7 a b c) 259 [x] = cellsD d7 a b x := fun a b c x => build_s hd _ _ _ _
 have hputz : ∀ a b c : Value, splice zeroC 0 (cellsD d7 a b c) = cellsD d7 a b c := fun a b c => wdf_over zeroC_len (hl2 _ _ _)
 have hone : ∀ (a : Option Addr) (n c : Nat) (a' : Option Addr) (n' c' : Nat) (a2 : Option Addr) (n2 c2 : Nat), (cellsD d7 (.slice a n c) (.slice a' n' c') (.slice a2 n2 c2)).all oneV = true := fun _ _ _ _ _ _ _ _ _ => cellsD_one rfl rfl rfl
 have hw7 : d7.width = 2 := rfl
 refine FnT.sep ?_
 refine FnT.body tok [0, 1, 2, 3, 4, 5, 6] Tryz.func7 rfl (by kernel_rfl) (by kernel_rfl) (by show _ ≤ 57; simp) fun hsep => ?_
 rw [Tryz.results7]
 have hsE := hsep
 try simp only [zzs] at hsE
 repeat (obtain ⟨hsx, hsE⟩ := hsE)
 repeat' first
  | (with_reducible first | refine Nx.go ?_ | refine Bk.go (fun _ => ?_) fun _ => ?_)
  | ((with_reducible first | refine NewB.mk2 fun nb hnb hnb1 hnb2 => ?_ | refine NewRow.mk2 fun nb nsp ncap hnb hncap hnb1 hnb2 => ?_); try simp only [zzn] at hnb2)
  | simp -dsimp -implicitDefEqProofs (disch := first | assumption | (simp only [zzm]; done) | omega | (try with_reducible refine Row.adr (by assumption) ?_); simp only [zzl, Nat.reduceAdd]; first | done | omega) only [go_sem, ↓reduceIte, seval, -List.reduceReplicate, List.toList_toArray, hr1, hr2, zeroC_len, hzr, hzo, hzz, d7_u8, hofl, hoft, hofo, hb1, hb2, hl1, hl2, ht2, hputN, hputL, hputS, hputz, hone]
 rename_i b1 y1 y2 y3 c1 y4 y5 y6 c2 y7 y8 y9 c3 w1 w2 w3 c4 w4 w5 w6 c5 w7 w8 w9
 obtain ⟨b2, e20⟩ : ∃ x, x = nb := ⟨_, rfl⟩
 subst e20
 obtain ⟨D, hD⟩ : ∃ D, D = cellsD d7 (.slice (some ⟨c3, 0, none⟩) 2 2) (.slice (some ⟨c4, 0, none⟩) 2 2) (.slice (some ⟨c5, 0, none⟩) 1 1) := ⟨_, rfl⟩
 rw [← hD]
 refine FnT.pre calleeRev (Upd.go (H' := (c5, .cells [.string ⟨#[120]⟩] [] 9) :: (c4, .cells [.int .i64 0, .int .i64 1] [] 3) :: (c3, .cells [.slice (some ⟨c1, 0, none⟩) 2 2, .slice (some ⟨c2, 0, none⟩) 2 2] [] 24) :: (c2, .cells [.int .i64 0, .int .i64 1] [] 3) :: (c1, .cells [.int .i64 0, .int .i64 1] [] 3) :: (b2, .cells D [] 27) :: H) (by intro fsum; first | exact Nat.le_refl _ | (simp only [zzq]; omega)) ?_)
 refine Upd.trans (Upd.shareRow (by assumption) fun G1 hle1 hs1 r5 => ?_)
 refine Upd.trans (Upd.shareRow hs1.1.1 fun G2 hle2 hs2 r4 => ?_)
 refine Upd.trans (Upd.shareRow hs2.1.1 fun G3 hle3 hs3 r3 => ?_)
 refine Upd.trans (Upd.shareRow hs3.1.1 fun G4 hle4 hs4 r2 => ?_)
 refine Upd.shareRow hs4.1.1 fun G5 hle5 hs5 r1 => ?_
 have k4 := hle5
 have k3 := hle4.trans k4
 have k2 := hle3.trans k3
 have k1 := hle2.trans k2
 have k0 := hle1.trans k1
 have hI : IsD G5 d7 (.agg D.toArray) := by
  rw [hD]
  refine ⟨hd, fun x hx => ?_, _, _, _, rfl, ⟨some ⟨c3, 0, none⟩, 2, _, rfl, r3.mono k3, rfl, Nat.le_refl 2, fun i h h2 => ?_⟩, ⟨some ⟨c4, 0, none⟩, 2, rfl, r4.mono k2, Nat.le_refl 2⟩, ⟨some ⟨c5, 0, none⟩, 1, rfl, r5.mono k1, Nat.le_refl 1⟩⟩
  ·have hx : x ∈ of7 := hx
   unfold of7 at hx
   rcases List.mem_or_eq_of_mem_set hx with h | h
   ·have : x = 0 := List.eq_of_mem_replicate h
    omega
   ·omega
  ·have h3 : i < 2 := h
   match i, h3 with
   | 0, _ => exact ⟨_, _, rfl, r1, Nat.le_refl 2⟩
   | 1, _ => exact ⟨_, _, rfl, r2.mono k4, Nat.le_refl 2⟩
 have hDl : D.length = 260 := by rw [hD]; exact hl2 _ _ _
 have hDt : List.take 260 D = D := List.take_of_length_le (by omega)
 clear hD
 refine rev_t d7_small (by decide) hI fun G6 v6 hle6 hs6 hI6 => ?_
 rw [d7_rev] at hI6 ⊢
 have hI6 : IsD G6 r7 v6 := hI6
 obtain ⟨C6, an6, al6, ay6, cn6, cl6, cs6, rs6, rfl, O6⟩ := hI6.opened
 have hC6l := O6.len
 have hone6 := wdf_one O6.is
 have hput6 := wdf_put hC6l
 have htk6 : List.take 260 C6 = C6 := List.take_of_length_le (by omega)
 have hsE := hs6
 try simp only [zzs] at hsE
 repeat (obtain ⟨hsx, hsE⟩ := hsE)
 repeat' first
  | (with_reducible first | refine Nx.go ?_ | refine Bk.go (fun _ => ?_) fun _ => ?_)
  | ((with_reducible first | refine NewB.mk2 fun nb hnb hnb1 hnb2 => ?_ | refine NewRow.mk2 fun nb nsp ncap hnb hncap hnb1 hnb2 => ?_); try simp only [zzn] at hnb2)
  | simp -dsimp -implicitDefEqProofs (disch := first | assumption | (simp only [zzm]; done) | omega | (try with_reducible refine Row.adr (by assumption) ?_); simp only [zzl, Nat.reduceAdd]; first | done | omega) only [go_sem, ↓reduceIte, seval, -List.reduceReplicate, List.toList_toArray, hr1, hDl, hDt, hC6l, hone6, hput6, htk6, zeroC_len]
 obtain ⟨b3, e30⟩ : ∃ x, x = nb := ⟨_, rfl⟩
 subst e30
 refine of_t2 d7_small (by decide) (hg.mono (k0.trans hle6)) (hI.mono hle6) fun G7 v7 hle7 hs7 hI7 => ?_
 rw [d7_brz] at hI7 ⊢
 have hI7 : IsD G7 d7 v7 := hI7
 obtain ⟨C7, an7, al7, ay7, cn7, cl7, cs7, rs7, rfl, O7⟩ := hI7.opened
 have hC7l := O7.len
 have hone7 := wdf_one O7.is
 have hput7 := wdf_put hC7l
 have htk7 : List.take 260 C7 = C7 := List.take_of_length_le (by omega)
 have O67 := O6.mono hle7
 have hC6x := O6.l
 have hz1 : r7.label.length = 3 := rfl
 have hsE := hs7
 try simp only [zzs] at hsE
 repeat (obtain ⟨hsx, hsE⟩ := hsE)
 repeat' first
  | (with_reducible first | refine Nx.go ?_ | refine Bk.go (fun _ => ?_) fun _ => ?_)
  | ((with_reducible first | refine NewB.mk2 fun nb hnb hnb1 hnb2 => ?_ | refine NewRow.mk2 fun nb nsp ncap hnb hncap hnb1 hnb2 => ?_); try simp only [zzn] at hnb2)
  | simp -dsimp -implicitDefEqProofs (disch := first | assumption | (simp only [zzm]; done) | omega | (try with_reducible refine Row.adr (by assumption) ?_); simp only [zzl, Nat.reduceAdd]; first | done | omega) only [go_sem, ↓reduceIte, seval, -List.reduceReplicate, List.toList_toArray, hr1, hr2, hDl, hDt, hC6l, hC6x, htk6, hC7l, hone7, hput7, htk7, zeroC_len, hz1]
 obtain ⟨b5, e50⟩ : ∃ x, x = nb := ⟨_, rfl⟩
 subst e50
 refine FnT.pre calleeName27 (Upd.shareRow (by assumption) fun G8 hle8 hs8 r8 => ?_)
 refine dname_t r7_small (w := [97, 98]) (by decide) (O67.is.mono hle8) ⟨_, 2, rfl, r8, by decide⟩ ?_
 rw [r7_ab]
 have hsE := hs8
 try simp only [zzs] at hsE
 repeat (obtain ⟨hsx, hsE⟩ := hsE)
 have hq1 : (([120] : List UInt8) == [120]) = true := by decide
 have hq2 : (([] : List UInt8) == []) = true := by decide
 repeat' first
  | (with_reducible first | refine Nx.go ?_ | refine Bk.go (fun _ => ?_) fun _ => ?_)
  | ((with_reducible first | refine NewB.mk2 fun nb hnb hnb1 hnb2 => ?_ | refine NewRow.mk2 fun nb nsp ncap hnb hncap hnb1 hnb2 => ?_); try simp only [zzn] at hnb2)
  | simp -dsimp -implicitDefEqProofs (disch := first | assumption | (simp only [zzm]; done) | omega | (try with_reducible refine Row.adr (by assumption) ?_); simp only [zzl, Nat.reduceAdd]; first | done | omega) only [go_sem, ↓reduceIte, seval, -List.reduceReplicate, List.toList_toArray, hr1, hr2, hDl, hDt, hC6l, hC6x, htk6, hC7l, hone7, hput7, htk7, zeroC_len, hz1, hq1, hq2]
 refine FnT.pre calleeName27 (Upd.shareRow (by assumption) fun G9 hle9 hs9 r9 => ?_)
 have k89 := hle8.trans hle9
 refine dname_t r7_small (w := [98, 97]) (by decide) (O67.is.mono k89) ⟨_, 2, rfl, r9, by decide⟩ ?_
 rw [r7_ba]
 have hsE := hs9
 try simp only [zzs] at hsE
 repeat (obtain ⟨hsx, hsE⟩ := hsE)
 repeat' first
  | (with_reducible first | refine Nx.go ?_ | refine Bk.go (fun _ => ?_) fun _ => ?_)
  | ((with_reducible first | refine NewB.mk2 fun nb hnb hnb1 hnb2 => ?_ | refine NewRow.mk2 fun nb nsp ncap hnb hncap hnb1 hnb2 => ?_); try simp only [zzn] at hnb2)
  | simp -dsimp -implicitDefEqProofs (disch := first | assumption | (simp only [zzm]; done) | omega | (try with_reducible refine Row.adr (by assumption) ?_); simp only [zzl, Nat.reduceAdd]; first | done | omega) only [go_sem, ↓reduceIte, seval, -List.reduceReplicate, List.toList_toArray, hr1, hr2, hDl, hDt, hC6l, hC6x, htk6, hC7l, hone7, hput7, htk7, zeroC_len, hz1, hq1, hq2]
 refine dsame_t d7_small (O7.is.mono k89) (hI.mono (hle6.trans (hle7.trans k89))) ?_
 rw [boolOf_yes rfl]
 repeat' first
  | (with_reducible first | refine Nx.go ?_ | refine Bk.go (fun _ => ?_) fun _ => ?_)
  | ((with_reducible first | refine NewB.mk2 fun nb hnb hnb1 hnb2 => ?_ | refine NewRow.mk2 fun nb nsp ncap hnb hncap hnb1 hnb2 => ?_); try simp only [zzn] at hnb2)
  | simp -dsimp -implicitDefEqProofs (disch := first | assumption | (simp only [zzm]; done) | omega | (try with_reducible refine Row.adr (by assumption) ?_); simp only [zzl, Nat.reduceAdd]; first | done | omega) only [go_sem, ↓reduceIte, seval, -List.reduceReplicate, List.toList_toArray, hr1, hr2, hDl, hDt, hC6l, hC6x, htk6, hC7l, hone7, hput7, htk7, zeroC_len, hz1, hq1, hq2]
 unfold UpdR
 refine Upd.leave (H' := H) (by intro fsum; simp only [zzq]; omega) ?_
 exact fun _ hs => hR G9 (k0.trans (hle6.trans (hle7.trans k89))) hs
end Go.Proofs.YtefkpedhbijhkaaGreatDoor
namespace Go.Proofs.YtefkpedhbijhkaaGreatDoor
open Go Go.V Go.Proofs
def kolL (ls : List (List Int)) (t : Nat) : List Int := ls.map fun g => g.getD t 0
theorem turn_col {d : DfaT} (hok : RightP d) {m : Nat} (h : (turnL d m).length ≤ m) {t k : Nat} (ht : t < d.next.length) (hk : k < d.width.toNat) : behA 0 (turnM d (turnL d m)).next (kolL (turnL d m) t) k = kolL (turnL d m) ((d.next[t]).getD k 0).toNat := by
 show ((turnL d m).map fun f => (behsA 0 d.next d.width.toNat f).map (findF (turnL d m))).map (fun row => (kolL (turnL d m) t).getD (row.getD k 0).toNat 0) = (turnL d m).map _
 rw [List.map_map]
 refine List.map_congr_left fun g hg => ?_
 show (kolL (turnL d m) t).getD (((behsA 0 d.next d.width.toNat g).map (findF (turnL d m))).getD k 0).toNat 0 = _
 obtain ⟨i, hi, rfl⟩ := List.getElem_of_mem hg
 obtain ⟨n, hn⟩ := place_mem (turnL_closed h hi hk)
 obtain ⟨h1, h2⟩ := place_some hn
 have e1 : ((behsA 0 d.next d.width.toNat (turnL d m)[i]).map (findF (turnL d m))).getD k 0 = (n : Int) := by
  rw [List.getD_eq_getElem?_getD, List.getElem?_map]
  unfold behsA
  rw [List.getElem?_map, List.getElem?_range hk]
  exact findF_some hn
 rw [e1, Int.toNat_natCast, List.getD_eq_getElem?_getD]
 unfold kolL
 rw [List.getElem?_map, h2]
 show (behA 0 d.next (turnL d m)[i] k).getD t 0 = _
 unfold behA
 rw [List.getD_eq_getElem?_getD, List.getElem?_map, List.getElem?_eq_getElem ht]
 rfl
theorem turn_cols {d : DfaT} (hok : RightP d) {m : Nat} (h : (turnL d m).length ≤ m) : ∀ (ks : List Nat), (∀ k ∈ ks, k < d.width.toNat) → ∀ t, t < d.next.length → ∃ t', t' < d.next.length ∧ ks.foldl (behA 0 (turnM d (turnL d m)).next) (kolL (turnL d m) t) = kolL (turnL d m) t'
 | [], _, t, ht => ⟨t, ht, rfl⟩
 | k :: ks, hks, t, ht => by
  obtain ⟨hk1, hk2, hk3, hk4, hk5, hk6, hk7⟩ := id hok
  obtain ⟨w1, w2, w3, w4⟩ := hk7 t ht (by omega)
  have hk := hks k (List.mem_cons_self ..)
  have hkl : k < (d.next[t]).length := by omega
  have hb := w4 ((d.next[t])[k]) (List.getElem_mem hkl)
  rw [List.foldl_cons, turn_col hok h ht hk]
  refine turn_cols hok h ks (fun k hk => hks k (List.mem_cons_of_mem _ hk)) _ ?_
  rw [List.getD_eq_getElem?_getD, List.getElem?_eq_getElem hkl]
  show ((d.next[t])[k]).toNat < _
  omega
theorem nodupL {α : Type} : ∀ {a b : List α}, a.Nodup → (∀ x ∈ a, x ∈ b) → a.length ≤ b.length
 | [], _, _, _ => Nat.zero_le _
 | x :: a, b, hn, hs => by
  obtain ⟨l, r, rfl⟩ := List.append_of_mem (hs x (List.mem_cons_self ..))
  obtain ⟨hx, hn'⟩ := List.nodup_cons.1 hn
  have := nodupL (a := a) (b := l ++ r) hn' fun y hy => by
   have := hs y (List.mem_cons_of_mem _ hy)
   rcases List.mem_append.1 this with g | g
   ·exact List.mem_append_left _ g
   ·rcases List.mem_cons.1 g with rfl | g
    ·exact absurd hy hx
    ·exact List.mem_append_right _ g
  simp only [List.length_append, List.length_cons] at this ⊢
  omega
theorem twice_len {d : DfaT} (hok : RightP d) {m : Nat} (h : (turnL d m).length ≤ m) (m' : Nat) : (turnL (turnM d (turnL d m)) m').length ≤ d.label.length := by
 have hk3 := hok.2.2.1
 have hk2 := hok.2.1
 have : (turnL (turnM d (turnL d m)) m').length ≤ ((List.range d.next.length).map (kolL (turnL d m))).length := by
  refine nodupL (turnL_nodup _ _) fun f hf => ?_
  obtain ⟨ks, hks, rfl⟩ := lsA_word m' f hf
  have e0 : (turnM d (turnL d m)).label = kolL (turnL d m) 0 := by
   show (turnL d m).map (fun f => f.headD 0) = (turnL d m).map _
   refine List.map_congr_left fun g _ => ?_
   cases g <;> rfl
  have hk1 := hok.1
  obtain ⟨t, ht, e⟩ := turn_cols hok h ks hks 0 (by omega)
  rw [e0, e]
  exact List.mem_map.2 ⟨t, List.mem_range.2 ht, rfl⟩
 rw [List.length_map, List.length_range] at this
 omega
theorem twice_fine {d : DfaT} (hok : RightP d) {m : Nat} (h : (turnR d m).2 = true) : (turnR (turnR d m).1 65536).2 = true := by
 have hl : (turnL d m).length ≤ m := by
  unfold turnR at h
  split at h
  ·assumption
  ·cases h
 have he : (turnR d m).1 = turnM d (turnL d m) := by unfold turnR; rw [if_pos hl]
 rw [he]
 have := twice_len hok hl 65536
 have h6 : d.label.length ≤ 65536 := hok.2.1
 unfold turnR
 rw [if_pos (by omega)]
end Go.Proofs.YtefkpedhbijhkaaGreatDoor
namespace Go.Proofs.YtefkpedhbijhkaaGreatDoor
open Go Go.V Go.Proofs
def placeI (L : List (List Int)) (x : List Int) : Int := match place L x with | some n => (n : Int) | none => -1
theorem placeI_no {L : List (List Int)} {x : List Int} (h : x ∉ L) : placeI L x = -1 := by unfold placeI; rw [place_no h]
theorem placeI_at {L : List (List Int)} {x : List Int} {i : Nat} (hi : i < L.length) (e : L[i] = x) (h : ∀ j (hj : j < L.length), j < i → L[j] ≠ x) : placeI L x = (i : Int) := by
 subst e; unfold placeI; rw [place_at hi ⟨hi, rfl⟩ h]
theorem place27_t {L : List (List Int)} {vs sp : List Value} (hvl : vs.length = L.length) (hL : L.length ≤ 70000) (hlen : ∀ i (h : i < L.length), (L[i]).length ≤ 2000000) {x : List Int} {G : PHeap} {H : Heap} {R : Value → PHeap → Heap → Prop} {b cap : Nat}
  (hvs : ∀ i (h : i < L.length), Sl G (Value.int .i64) (vs[i]'(by omega)) L[i]) (hcap : vs.length + sp.length = cap) {w : Value} (hw : Sl G (Value.int .i64) w x)
  (hR : R (.int .i64 (placeI L x)) G ((b, .cells vs sp 24) :: H)) : FnT Tryz.prog 46 [.slice (some ⟨b, 0, none⟩) L.length cap, w] G ((b, .cells vs sp 24) :: H) R := by
 obtain ⟨a, c, rfl, hrow, hcp⟩ := hw
 refine FnT.body tok [0, 1, 4, 5, 9, 17] Tryz.func46 rfl (by kernel_rfl) (by kernel_rfl) (by show _ ≤ 19; simp) fun hsep => ?_
 rw [Tryz.results46]
 have hsE := hsep
 try simp only [zzs] at hsE
 repeat (obtain ⟨hsx, hsE⟩ := hsE)
 repeat' first
  | (with_reducible first | refine Nx.go ?_ | refine Bk.go (fun _ => ?_) fun _ => ?_)
  | (with_reducible refine NewB.mk2 fun nb hnb hnb1 hnb2 => ?_; try simp only [zzn] at hnb2)
  | simp -dsimp -implicitDefEqProofs (disch := first | assumption | (simp only [zzm]; done) | omega | (try with_reducible refine Row.adr (by assumption) ?_); simp only [zzl, Nat.reduceAdd]; first | done | omega) only [go_sem, ↓reduceIte, seval]
 refine Tri.loopU tok [0, 1, 4, 5, 9, 17] (by kernel_rfl) [0, 1, 4, 5] (fun n G' l H' => ∃ i : Nat, i + n = L.length ∧ (∀ j (h : j < L.length), j < i → L[j] ≠ x) ∧ G' = G ∧ H' = (b, .cells vs sp 24) :: H ∧ l = [(0, .slice (some ⟨b, 0, none⟩) L.length cap), (1, .slice a x.length c), (4, .int .i64 0), (5, .int .i64 i)]) (L.length) (Upd.now ?_) ?_
 ·exact ⟨0, by omega, fun j _ h => by omega, rfl, rfl, rfl⟩
 ·rintro n G' l H' hle hs ⟨i, hi, hno, rfl, rfl, rfl⟩
  by_cases hil : i < L.length
  ·have hil' : i < vs.length := by omega
   have hvi : Sl G' (Value.int .i64) ((vs ++ sp)[i]'(by rw [List.length_append]; omega)) L[i] := by rw [List.getElem_append_left hil']; exact hvs i hil
   have hw' : Sl G' (Value.int .i64) (.slice a x.length c) x := ⟨a, c, rfl, hrow, hcp⟩
   repeat' first
    | (with_reducible first | refine Nx.go ?_ | refine Bk.go (fun _ => ?_) fun _ => ?_)
    | (with_reducible refine NewB.mk2 fun nb hnb hnb1 hnb2 => ?_; try simp only [zzn] at hnb2)
    | simp -dsimp -implicitDefEqProofs (disch := first | assumption | (simp only [zzm]; done) | omega | (try with_reducible refine Row.adr (by assumption) ?_); simp only [zzl, Nat.reduceAdd]; first | done | omega) only [go_sem, ↓reduceIte, seval]
    | with_reducible refine same17_t _ _ (hlen i hil) hvi hw' ?_
   ·rename_i he
    rw [placeI_at hil (by simpa using he) hno] at hR
    all_goals refine Upd.finL ?_ hR ?_
    any_goals (intro fsum; first | exact Nat.le_refl _ | (simp only [zzq]; omega))
    rfl
   ·rename_i he
    exact Upd.now ⟨n - 1, by omega, i + 1, by omega, fun j h hj => by
     by_cases e : j = i
     ·subst e; simpa using he
     ·exact hno j h (by omega), rfl, rfl, rfl⟩
  ·obtain rfl : i = L.length := by omega
   rw [placeI_no (fun h => by obtain ⟨j, hj, e⟩ := List.getElem_of_mem h; exact hno j hj hj e)] at hR
   repeat' first
    | (with_reducible first | refine Nx.go ?_ | refine Bk.go (fun _ => ?_) fun _ => ?_)
    | (with_reducible refine NewB.mk2 fun nb hnb hnb1 hnb2 => ?_; try simp only [zzn] at hnb2)
    | simp -dsimp -implicitDefEqProofs (disch := first | assumption | (simp only [zzm]; done) | omega | (try with_reducible refine Row.adr (by assumption) ?_); simp only [zzl, Nat.reduceAdd]; first | done | omega) only [go_sem, ↓reduceIte, seval]
   all_goals refine Upd.finL ?_ hR ?_
   any_goals (intro fsum; first | exact Nat.le_refl _ | (simp only [zzq]; omega))
   rfl
end Go.Proofs.YtefkpedhbijhkaaGreatDoor
namespace Go.Proofs.YtefkpedhbijhkaaGreatDoor
open Go Go.V Go.Proofs
theorem rwrong27_t {d : DfaT} (hsm : SmallD d) {most : Int} (hm : -9223372036854775808 ≤ most ∧ most < 9223372036854775808) {G : PHeap} {H : Heap} {R : Value → PHeap → Heap → Prop} {v : Value} (hv : IsD G d v)
  (hR : ∀ G', PLe G G' → Sep G' (keys H) → R (.int .i64 (wrongR d most)) G' H) : FnT Tryz.prog 22 [v, .int .i64 most] G H R := by
 obtain ⟨C, an, al, ay, cn, cl, cs, rs, rfl, O⟩ := hv.opened
 have hCl := O.len
 have hCa := O.all
 by_cases hok : RightP d
 ·have hb := boolOf_yes hok
  by_cases h1 : 1 ≤ most
  ·by_cases h2 : most ≤ 65536
   ·rw [wrongR_ok hok ⟨h1, h2⟩] at hR
    refine FnT.body tok [0, 1, 2, 4, 7, 13] Tryz.func22 rfl (by kernel_rfl) (by kernel_rfl) (by show _ ≤ 14; simp) fun hsep => ?_
    rw [Tryz.results22]
    have hsE := hsep
    try simp only [zzs] at hsE
    repeat (obtain ⟨hsx, hsE⟩ := hsE)
    repeat' first
     | (with_reducible first | refine Nx.go ?_ | refine Bk.go (fun _ => ?_) fun _ => ?_)
     | (with_reducible refine NewB.mk2 fun nb hnb hnb1 hnb2 => ?_; try simp only [zzn] at hnb2)
     | simp -dsimp -implicitDefEqProofs (disch := first | assumption | (simp only [zzm]; done) | omega | (try with_reducible refine Row.adr (by assumption) ?_); simp only [zzl, Nat.reduceAdd]; first | done | omega) only [go_sem, ↓reduceIte, seval, -List.reduceReplicate, List.toList_toArray, hCl, hCa, hb]
     | ((with_reducible refine rright_t hsm O.is fun G2 hle2 hs2 => ?_); rw [hb])
    all_goals try (exfalso; omega)
    have hsE := hs2
    try simp only [zzs] at hsE
    repeat (obtain ⟨hsx, hsE⟩ := hsE)
    all_goals refine Upd.finL ?_ (hR G2 hle2 (by assumption)) ?_
    any_goals (intro fsum; first | exact Nat.le_refl _ | (simp only [zzq]; omega))
    all_goals rfl
   ·rw [wrongR_not hok (fun h => h2 h.2)] at hR
    refine FnT.body tok [0, 1, 2, 4, 7, 13] Tryz.func22 rfl (by kernel_rfl) (by kernel_rfl) (by show _ ≤ 14; simp) fun hsep => ?_
    rw [Tryz.results22]
    have hsE := hsep
    try simp only [zzs] at hsE
    repeat (obtain ⟨hsx, hsE⟩ := hsE)
    repeat' first
     | (with_reducible first | refine Nx.go ?_ | refine Bk.go (fun _ => ?_) fun _ => ?_)
     | (with_reducible refine NewB.mk2 fun nb hnb hnb1 hnb2 => ?_; try simp only [zzn] at hnb2)
     | simp -dsimp -implicitDefEqProofs (disch := first | assumption | (simp only [zzm]; done) | omega | (try with_reducible refine Row.adr (by assumption) ?_); simp only [zzl, Nat.reduceAdd]; first | done | omega) only [go_sem, ↓reduceIte, seval, -List.reduceReplicate, List.toList_toArray, hCl, hCa, hb]
     | ((with_reducible refine rright_t hsm O.is fun G2 hle2 hs2 => ?_); rw [hb])
    all_goals try (exfalso; omega)
    have hsE := hs2
    try simp only [zzs] at hsE
    repeat (obtain ⟨hsx, hsE⟩ := hsE)
    all_goals refine Upd.finL ?_ (hR G2 hle2 (by assumption)) ?_
    any_goals (intro fsum; first | exact Nat.le_refl _ | (simp only [zzq]; omega))
    all_goals rfl
  ·rw [wrongR_not hok (fun h => h1 h.1)] at hR
   refine FnT.body tok [0, 1, 2, 4, 7, 13] Tryz.func22 rfl (by kernel_rfl) (by kernel_rfl) (by show _ ≤ 14; simp) fun hsep => ?_
   rw [Tryz.results22]
   have hsE := hsep
   try simp only [zzs] at hsE
   repeat (obtain ⟨hsx, hsE⟩ := hsE)
   repeat' first
    | (with_reducible first | refine Nx.go ?_ | refine Bk.go (fun _ => ?_) fun _ => ?_)
    | (with_reducible refine NewB.mk2 fun nb hnb hnb1 hnb2 => ?_; try simp only [zzn] at hnb2)
    | simp -dsimp -implicitDefEqProofs (disch := first | assumption | (simp only [zzm]; done) | omega | (try with_reducible refine Row.adr (by assumption) ?_); simp only [zzl, Nat.reduceAdd]; first | done | omega) only [go_sem, ↓reduceIte, seval, -List.reduceReplicate, List.toList_toArray, hCl, hCa, hb]
    | ((with_reducible refine rright_t hsm O.is fun G2 hle2 hs2 => ?_); rw [hb])
   all_goals try (exfalso; omega)
   have hsE := hs2
   try simp only [zzs] at hsE
   repeat (obtain ⟨hsx, hsE⟩ := hsE)
   all_goals refine Upd.finL ?_ (hR G2 hle2 (by assumption)) ?_
   any_goals (intro fsum; first | exact Nat.le_refl _ | (simp only [zzq]; omega))
   all_goals rfl
 ·have hb := boolOf_no hok
  rw [wrongR_bad hok] at hR
  refine FnT.body tok [0, 1, 2, 4, 7, 13] Tryz.func22 rfl (by kernel_rfl) (by kernel_rfl) (by show _ ≤ 14; simp) fun hsep => ?_
  rw [Tryz.results22]
  have hsE := hsep
  try simp only [zzs] at hsE
  repeat (obtain ⟨hsx, hsE⟩ := hsE)
  repeat' first
   | (with_reducible first | refine Nx.go ?_ | refine Bk.go (fun _ => ?_) fun _ => ?_)
   | (with_reducible refine NewB.mk2 fun nb hnb hnb1 hnb2 => ?_; try simp only [zzn] at hnb2)
   | simp -dsimp -implicitDefEqProofs (disch := first | assumption | (simp only [zzm]; done) | omega | (try with_reducible refine Row.adr (by assumption) ?_); simp only [zzl, Nat.reduceAdd]; first | done | omega) only [go_sem, ↓reduceIte, seval, -List.reduceReplicate, List.toList_toArray, hCl, hCa, hb]
   | ((with_reducible refine rright_t hsm O.is fun G2 hle2 hs2 => ?_); rw [hb])
  have hsE := hs2
  try simp only [zzs] at hsE
  repeat (obtain ⟨hsx, hsE⟩ := hsE)
  all_goals refine Upd.finL ?_ (hR G2 hle2 (by assumption)) ?_
  any_goals (intro fsum; first | exact Nat.le_refl _ | (simp only [zzq]; omega))
  all_goals rfl
end Go.Proofs.YtefkpedhbijhkaaGreatDoor
namespace Go.Proofs.YtefkpedhbijhkaaGreatDoor
open Go Go.V Go.Proofs
section mid
variable {α : Type} [DecidableEq α] (z : α)
def midA (next : List (List Int)) (w : Nat) (f : List α) (ls : List (List α)) (k : Nat) : List (List α) := ((behsA z next w f).take k).foldl metA ls
variable {z} {next : List (List Int)} {w : Nat} {f : List α} {ls : List (List α)}
theorem behsA_len : (behsA z next w f).length = w := by unfold behsA; rw [List.length_map, List.length_range]
theorem midA_zero : midA z next w f ls 0 = ls := by unfold midA; rw [List.take_zero]; rfl
theorem midA_succ {k : Nat} (hk : k < w) : midA z next w f ls (k + 1) = metA (midA z next w f ls k) (behA z next f k) := by
 have hl : k < (behsA z next w f).length := by rw [behsA_len]; exact hk
 unfold midA
 rw [List.take_succ_eq_append_getElem hl, List.foldl_append, List.foldl_cons, List.foldl_nil]
 congr 1
 simp only [behsA, List.getElem_map, List.getElem_range]
theorem midA_all : midA z next w f ls w = (behsA z next w f).foldl metA ls := by
 unfold midA
 rw [List.take_of_length_le (by rw [behsA_len]; exact Nat.le_refl _)]
theorem midA_pre {j k : Nat} (h : j ≤ k) : midA z next w f ls j <+: midA z next w f ls k := by
 unfold midA
 obtain ⟨m, rfl⟩ := Nat.exists_eq_add_of_le h
 rw [List.take_add, List.foldl_append]
 exact foldA_prefix _ _
theorem midA_ls (k : Nat) : ls <+: midA z next w f ls k := by
 have := midA_pre (z := z) (next := next) (w := w) (f := f) (ls := ls) (Nat.zero_le k)
 rw [midA_zero] at this
 exact this
theorem metA_lenle (x : List α) : (metA ls x).length ≤ ls.length + 1 := by unfold metA; split <;> simp
theorem midA_lenle : ∀ k, k ≤ w → (midA z next w f ls k).length ≤ ls.length + k
 | 0, _ => by rw [midA_zero]; omega
 | k + 1, h => by
  rw [midA_succ h]
  have := midA_lenle k (by omega)
  have := metA_lenle (ls := midA z next w f ls k) (behA z next f k)
  omega
theorem midA_len (hl : ∀ g ∈ ls, g.length = next.length) {k : Nat} (h : k ≤ w) : ∀ g ∈ midA z next w f ls k, g.length = next.length := fun g hg => by
 unfold midA at hg
 rcases foldA_of hg with hg | hg
 ·exact hl g hg
 ·obtain ⟨j, _, rfl⟩ := List.mem_map.1 (List.mem_of_mem_take hg)
  unfold behA; rw [List.length_map]
end mid
def rowsI (d : DfaT) (i : Nat) : List (List Int) := ((turnL d i).take i).map fun f => (behsA 0 d.next d.width.toNat f).map (findF (turnL d i))
def labsI (d : DfaT) (i : Nat) : List Int := ((turnL d i).take i).map fun f => f.headD 0
theorem turnL_pre (d : DfaT) {i j : Nat} (h : i ≤ j) : turnL d i <+: turnL d j := lsA_prefix _ _ _ h
theorem turnL_succ {d : DfaT} {i : Nat} (h : i < (turnL d i).length) : turnL d (i + 1) = midA 0 d.next d.width.toNat (turnL d i)[i] (turnL d i) d.width.toNat := by rw [midA_all]; exact lsA_succ h
theorem rowsI_succ {d : DfaT} {i : Nat} (h : i < (turnL d i).length) : rowsI d (i + 1) = rowsI d i ++ [(behsA 0 d.next d.width.toNat (turnL d i)[i]).map (findF (turnL d (i + 1)))] := by
 unfold rowsI
 rw [take_pre (turnL_pre d (Nat.le_succ i)) (by omega), List.take_succ_eq_append_getElem h, List.map_append]
 congr 1
 refine List.map_congr_left fun f hf => ?_
 refine List.map_congr_left fun x hx => ?_
 obtain ⟨j, hj, rfl⟩ := List.getElem_of_mem hf
 rw [List.getElem_take] at hx
 obtain ⟨k, hk, rfl⟩ := List.mem_map.1 hx
 have hji : j < i := by rw [List.length_take] at hj; omega
 have hm : behA 0 d.next ((turnL d i)[j]'(by omega)) k ∈ turnL d i := lsA_closed hji (by show j < (turnL d i).length; omega) (List.mem_range.1 hk)
 obtain ⟨r, hr⟩ := turnL_pre d (Nat.le_succ i)
 rw [← hr, findF_app hm]
theorem labsI_succ {d : DfaT} {i : Nat} (h : i < (turnL d i).length) : labsI d (i + 1) = labsI d i ++ [(turnL d i)[i].headD 0] := by
 unfold labsI
 rw [take_pre (turnL_pre d (Nat.le_succ i)) (by omega), List.take_succ_eq_append_getElem h, List.map_append]; rfl
theorem turnL_end {d : DfaT} {i m : Nat} (h : (turnL d i).length = i) (hm : i ≤ m) : turnL d m = turnL d i ∧ turnM d (turnL d i) = ⟨d.of, d.width, rowsI d i, labsI d i, d.names⟩ := by
 refine ⟨lsA_stop (by show (turnL d i).length ≤ i; omega) m hm, ?_⟩
 unfold turnM rowsI labsI
 rw [List.take_of_length_le (by omega)]
theorem behI_at {d : DfaT} (hok : RightP d) {f : List Int} (hf : f.length = d.next.length) {k : Nat} (hk : (k : Int) < d.width) {s : Nat} (hs : s < d.next.length) : ∃ t : Nat, ∃ h1 : k < (d.next[s]).length, ∃ h2 : t < f.length, (d.next[s])[k] = (t : Int) ∧ (behA 0 d.next f k)[s]'(by rw [behA_len]; exact hs) = f[t] := by
 obtain ⟨hk1, hk2, hk3, hk4, hk5, hk6, hk7⟩ := hok
 obtain ⟨w1, w2, w3, w4⟩ := hk7 s hs (by omega)
 have hkl : k < (d.next[s]).length := by omega
 have h5 := w4 (d.next[s])[k] (List.getElem_mem hkl)
 obtain ⟨t, ht⟩ := Int.eq_ofNat_of_zero_le h5.1
 have htf : t < f.length := by omega
 refine ⟨t, hkl, htf, ht, ?_⟩
 unfold behA
 rw [List.getElem_map]
 have : (d.next[s]).getD k 0 = (t : Int) := by rw [List.getD_eq_getElem?_getD, List.getElem?_eq_getElem hkl]; exact ht
 rw [this, Int.toNat_natCast, List.getD_eq_getElem?_getD, List.getElem?_eq_getElem htf]; rfl
theorem rq_t {d : DfaT} (hsm : SmallD d) (hok : RightP d) {G : PHeap} {H : Heap} {C : List Value} {an al ay : Option Addr} {cn cl cs : Nat} {rs : List Value} (O : OpenD G d C an al ay cn cl cs rs) {b2 br cr : Nat} {v1 v4 v5 v7 vl : Value} {ks : List (List Int)} {i k : Nat} (hi : i < ks.length) (hkl : ks.length ≤ 69000) (hfl : ∀ f ∈ ks, f.length = d.next.length) (hk : (k : Int) < d.width) {av spr : List Value} {kl : Heap} {ps : List Int} (hps : ps.length = k) (hcr : k + spr.length = cr) (hk9 : k ≤ 256) (hka : SliceO [] 24 1 vl ks.length av kl) (hav : RwI G av ks) :
  Tri Tryz.prog Tryz.f23.ntmps (piece [1, 1, 1, 0, 1, 0, 0, 1, 0, 0, 1, 0, 1, 0, 0, 1, 0, 0] Tryz.f23) G [(1, v1), (2, .pointer (some ⟨b2, 0, none⟩)), (4, v4), (5, v5), (6, vl), (7, v7), (8, .int .i64 (i : Nat)), (9, .slice (some ⟨br, 0, none⟩) k cr), (10, .int .i64 (k : Nat))] ((b2, .cells C [] 27) :: (br, .cells (ps.map (Value.int .i64)) spr 3) :: (kl ++ H)) (onlyN fun G' fr' H' =>
   ∃ vl' av' kl' br' cr' spr', PLe G G' ∧ SliceO [] 24 1 vl' (metA ks (behA 0 d.next ks[i] k)).length av' kl' ∧ RwI G' av' (metA ks (behA 0 d.next ks[i] k)) ∧ k + 1 + spr'.length = cr' ∧ restrict [1, 2, 4, 5, 6, 7, 8, 9, 10] fr' = [(1, v1), (2, .pointer (some ⟨b2, 0, none⟩)), (4, v4), (5, v5), (6, vl'), (7, v7), (8, .int .i64 (i : Nat)), (9, .slice (some ⟨br', 0, none⟩) (k + 1) cr'), (10, .int .i64 (k : Nat))] ∧ H' = (b2, .cells C [] 27) :: (br', .cells ((ps ++ [findF (metA ks (behA 0 d.next ks[i] k)) (behA 0 d.next ks[i] k)]).map (Value.int .i64)) spr' 3) :: (kl' ++ H)) := by
 obtain ⟨hm1, hm2, hm3, hm4, hm5⟩ := id hsm
 obtain ⟨hk1, hk2, hk3, hk4, hk5, hk6, hk7⟩ := id hok
 have hCl := O.len
 have hCn := O.n
 have hCx := O.l
 have hrnl := O.rnl
 have hr1 : ∀ x : Value, List.replicate 1 x = [x] := fun _ => rfl
 rcases hka with ⟨_, _, h0, _, _⟩ | ⟨bl, cc, sp, rfl, rfl, hxa, hca⟩
 ·omega
 rw [Nat.mul_one] at hxa hca
 have hfi := hfl _ (List.getElem_mem hi)
 have hbl : (behA 0 d.next ks[i] k).length = d.next.length := behA_len _ _ _ _
 have hbat := fun {s : Nat} (hs : s < d.next.length) => behI_at hok hfi hk hs
 obtain ⟨X, hX⟩ : ∃ X, X = behA 0 d.next ks[i] k := ⟨_, rfl⟩
 rw [← hX] at hbl ⊢
 have hbat : ∀ {s : Nat} (hs : s < d.next.length), ∃ t : Nat, ∃ h1 : k < (d.next[s]).length, ∃ h2 : t < ks[i].length, (d.next[s])[k] = (t : Int) ∧ X[s]'(by omega) = ks[i][t] := fun {s} hs => by
  obtain ⟨t, h1, h2, e1, e2⟩ := hbat hs
  exact ⟨t, h1, h2, e1, by simp only [hX]; exact e2⟩
 clear hX
 have havl := hav.1
 obtain ⟨ba, ca, a1, a2, a3⟩ := hav.2 i hi (by omega)
 have hgv : (av ++ sp)[i]? = some (.slice ba ks[i].length ca) := by
  rw [List.getElem?_append_left (by omega), List.getElem?_eq_getElem (by omega), a1]
 have hada : Adr ba := a2.adr (by rw [List.length_map]; omega)
 have hadn : Adr an := O.rn.adr (by omega)
 refine Tri.sepT fun hs0 => ?_
 have hsE := hs0
 try simp only [zzs] at hsE
 repeat (obtain ⟨hsx, hsE⟩ := hsE)
 refine Tri.piece (f := Tryz.f23) rfl ?_
 refine Tri.runS tok [0, 1, 2, 4, 5, 6, 7, 8, 9, 10, 11, 12, 13, 27, 34, 42, 66, 80] (.seq .run (.seq .run .cut)) (by kernel_rfl) ?_
 repeat' first
  | (with_reducible first | refine Nx.go ?_ | refine Bk.go (fun _ => ?_) fun _ => ?_)
  | ((with_reducible first | refine NewB.mk2 fun nb hnb hnb1 hnb2 => ?_ | refine NewRow.mk2 fun nb nsp ncap hnb hncap hnb1 hnb2 => ?_); try simp only [zzn] at hnb2)
  | simp -dsimp -implicitDefEqProofs (disch := first | assumption | (simp only [zzm]; done) | omega | (try with_reducible refine Row.adr (by assumption) ?_); simp only [zzl, Nat.reduceAdd]; first | done | omega) only [go_sem, ↓reduceIte, seval, -List.reduceReplicate]
 refine Tri.loopU tok [0, 1, 2, 4, 5, 6, 7, 8, 9, 10, 11, 12, 13, 27, 34, 42, 66, 80] (by kernel_rfl) [1, 2, 4, 5, 6, 7, 8, 9, 10, 11, 12] (fun q G' fr H' => ∃ (s bx cx : Nat) (spx : List Value), s + q = d.next.length ∧ s + spx.length = cx ∧ G' = G ∧ H' = (bx, .cells ((X.take s).map (Value.int .i64)) spx 3) :: (b2, .cells C [] 27) :: (br, .cells (ps.map (Value.int .i64)) spr 3) :: (bl, .cells av sp 24) :: H ∧ fr = [(1, v1), (2, .pointer (some ⟨b2, 0, none⟩)), (4, v4), (5, v5), (6, .slice (some ⟨bl, 0, none⟩) ks.length cc), (7, v7), (8, .int .i64 (i : Nat)), (9, .slice (some ⟨br, 0, none⟩) k cr), (10, .int .i64 (k : Nat)), (11, .slice (some ⟨bx, 0, none⟩) s cx), (12, .int .i64 (s : Nat))]) (d.next.length) ?_ ?_
 ·exact Upd.now ⟨0, nb, 0, [], by omega, rfl, rfl, rfl, rfl⟩
 ·rintro q G1 fr H1 hle hs1 ⟨s, bx, cx, spx, hsq, hcx, rfl, rfl, rfl⟩
  by_cases hsl : s < d.next.length
  ·obtain ⟨t, h1, h2, e1, e2⟩ := hbat hsl
   obtain ⟨b, c, r1, r2, r3⟩ := O.rs s hsl (by omega)
   have hadb : Adr b := r2.adr (by rw [List.length_map]; omega)
   obtain ⟨xs, hxs, hxl⟩ : ∃ xs, xs = (X.take s).map (Value.int .i64) ∧ xs.length = s := ⟨_, rfl, by rw [List.length_map, List.length_take]; omega⟩
   have hce : (X.take (s + 1)).map (Value.int .i64) = xs ++ [Value.int .i64 ks[i][t]] := by rw [List.take_succ_eq_append_getElem (by omega), List.map_append, ← hxs, e2]; rfl
   rw [← hxs] at hs1 ⊢
   have hsE := hs1
   try simp only [zzs] at hsE
   repeat (obtain ⟨hsx, hsE⟩ := hsE)
   repeat' first
    | (with_reducible first | refine Nx.go ?_ | refine Bk.go (fun _ => ?_) fun _ => ?_)
    | ((with_reducible first | refine NewB.mk2 fun nb hnb hnb1 hnb2 => ?_ | refine NewRow.mk2 fun nb nsp ncap hnb hncap hnb1 hnb2 => ?_); try simp only [zzn] at hnb2)
    | simp -dsimp -implicitDefEqProofs (disch := first | assumption | (simp only [zzm]; done) | omega | (try with_reducible refine Row.adr (by assumption) ?_); simp only [zzl, Nat.reduceAdd]; first | done | omega) only [go_sem, ↓reduceIte, seval, -List.reduceReplicate, hr1, hxl, hCl, hCn, hCx, Row.obj O.rn, r1, Row.obj r2, hgv, e1, Row.obj a2, List.getElem_map, List.length_map, Int.toNat_natCast]
    | with_reducible refine Tri.drawS tok mixed [0, 1, 2, 4, 5, 6, 7, 8, 9, 10, 11, 12, 13, 27, 34, 42, 66, 80] 14 [4, 6, 9, 12, 14] (.op 0 .plain (.op 1 .plain (.op 2 .plain (.op 3 .plain (.op 4 .held (.op 5 .plain (.op 6 .held (.op 7 .plain (.op 8 .plain (.op 9 .held (.op 10 .plain (.op 11 .plain (.op 12 .held (.op 13 .plain (.op 14 .held (.op 15 .keeps (.op 16 .keeps (.op 17 .plain .nil)))))))))))))))))) (by kernel_rfl) [(b2, .cells C [] 27), (bl, .cells av sp 24)] (by intro fsum; first | exact Nat.le_refl _ | (simp only [zzq]; omega)) ?_
   all_goals try (exfalso; omega)
   rw [← hce]
   exact Upd.go (H' := _) (by intro fsum; first | exact Nat.le_refl _ | (simp only [zzq]; omega)) (Upd.now ⟨q - 1, by omega, s + 1, nb, ncap, nsp, by omega, by simp at hncap ⊢; omega, rfl, rfl, rfl⟩)
  ·obtain rfl : s = d.next.length := by omega
   have hXa : X.take d.next.length = X := by rw [← hbl]; exact List.take_length
   rw [hXa] at hs1 ⊢
   have hsE := hs1
   try simp only [zzs] at hsE
   repeat (obtain ⟨hsx, hsE⟩ := hsE)
   repeat' first
    | (with_reducible first | refine Nx.go ?_ | refine Bk.go (fun _ => ?_) fun _ => ?_)
    | ((with_reducible first | refine NewB.mk2 fun nb hnb hnb1 hnb2 => ?_ | refine NewRow.mk2 fun nb nsp ncap hnb hncap hnb1 hnb2 => ?_); try simp only [zzn] at hnb2)
    | simp -dsimp -implicitDefEqProofs (disch := first | assumption | (simp only [zzm]; done) | omega | (try with_reducible refine Row.adr (by assumption) ?_); simp only [zzl, Nat.reduceAdd]; first | done | omega) only [go_sem, ↓reduceIte, seval, -List.reduceReplicate, hCl, hCx]
   refine Tri.upd (Upd.shareRow (by assumption) fun G3 hle3 hs3 hr3 => ?_)
   refine Tri.live [1, 2, 4, 5, 6, 7, 8, 9, 10, 11] ?_
   have hav3 := hav.mono hle3
   have hsl3 : ∀ j (h : j < ks.length), Sl G3 (Value.int .i64) (av[j]'(by omega)) ks[j] := fun j hj => by
    obtain ⟨b, c, e1, e2, e3⟩ := hav3.2 j hj (by omega)
    rw [e1]; exact ⟨b, c, rfl, e2, e3⟩
   have hx3 : Sl G3 (Value.int .i64) (.slice (some ⟨bx, 0, none⟩) d.next.length cx) X := ⟨_, cx, by rw [hbl], hr3, by omega⟩
   have hlb : ∀ j (h : j < ks.length), (ks[j]).length ≤ 2000000 := fun j hj => by rw [hfl _ (List.getElem_mem hj)]; omega
   have hsE := hs3
   try simp only [zzs] at hsE
   repeat (obtain ⟨hsx, hsE⟩ := hsE)
   rcases hp : place ks X with _ | n
   ·have hpi : placeI ks X = -1 := by unfold placeI; rw [hp]
    have hnm : X ∉ ks := place_none hp
    have hmet : metA ks X = ks ++ [X] := by unfold metA; rw [if_neg hnm]
    have hfd : findF (metA ks X) X = (ks.length : Nat) := by rw [hmet]; exact findF_some (place_end hnm)
    rw [hfd, hmet, List.length_append, List.length_singleton]
    refine Tri.run tok [0, 1, 2, 4, 5, 6, 7, 8, 9, 10, 11, 12, 13, 27, 34, 42, 66, 80] (by kernel_rfl) ?_
    repeat' first
     | (with_reducible first | refine Nx.go ?_ | refine Bk.go (fun _ => ?_) fun _ => ?_)
     | ((with_reducible first | refine NewB.mk2 fun nb hnb hnb1 hnb2 => ?_ | refine NewRow.mk2 fun nb nsp ncap hnb hncap hnb1 hnb2 => ?_); try simp only [zzn] at hnb2)
     | simp -dsimp -implicitDefEqProofs (disch := first | assumption | (simp only [zzm]; done) | omega | (try with_reducible refine Row.adr (by assumption) ?_); simp only [zzl, Nat.reduceAdd]; first | done | omega) only [go_sem, ↓reduceIte, seval, -List.reduceReplicate, hr1]
    refine FnT.rd ((bl, .cells av sp 24) :: (b2, .cells C [] 27) :: (br, .cells (ps.map (Value.int .i64)) spr 3) :: H) (fun R' hR' => place27_t (by omega) (by omega) hlb hsl3 (by omega) hx3 hR') (by intro fsum; simp only [zzq]; omega) (by intro fsum; simp only [zzq]; omega) ?_
    rw [hpi]
    repeat' first
     | (with_reducible first | refine Nx.go ?_ | refine Bk.go (fun _ => ?_) fun _ => ?_)
     | ((with_reducible first | refine NewB.mk2 fun nb hnb hnb1 hnb2 => ?_ | refine NewRow.mk2 fun nb nsp ncap hnb hncap hnb1 hnb2 => ?_); try simp only [zzn] at hnb2)
     | simp -dsimp -implicitDefEqProofs (disch := first | assumption | (simp only [zzm]; done) | omega | (try with_reducible refine Row.adr (by assumption) ?_); simp only [zzl, Nat.reduceAdd]; first | done | omega) only [go_sem, ↓reduceIte, seval, -List.reduceReplicate, hr1, hav.one, List.length_map, hps]
    rename_i bl2 spl2 cl2 y1 hc2 y2 y3 y4 y5 y6 y7
    have hrw := hav3.snoc hr3 (by omega : X.length ≤ cx)
    rw [hbl] at hrw
    refine Upd.leave (H' := (b2, .cells C [] 27) :: (nb, .cells ((ps ++ [((ks.length : Nat) : Int)]).map (Value.int .i64)) nsp 3) :: ([(bl2, .cells (av ++ [Value.slice (some ⟨bx, 0, none⟩) d.next.length cx]) spl2 24)] ++ H)) (by intro fsum; simp only [zzq]; omega) ?_
    exact ⟨_, _, _, _, _, _, hle3, .inr ⟨bl2, cl2, spl2, rfl, rfl, by rw [List.length_append, List.length_singleton]; omega, by rw [List.length_append, List.length_singleton]; omega⟩, hrw, by omega, rfl, rfl⟩
   ·have hpi : placeI ks X = (n : Int) := by unfold placeI; rw [hp]
    obtain ⟨hpn, hpe⟩ := place_some hp
    rw [List.getElem?_eq_getElem hpn, Option.some.injEq] at hpe
    have hmet : metA ks X = ks := by unfold metA; rw [if_pos (hpe ▸ List.getElem_mem hpn)]
    have hfd : findF (metA ks X) X = (n : Int) := by rw [hmet]; exact findF_some hp
    rw [hfd, hmet]
    refine Tri.run tok [0, 1, 2, 4, 5, 6, 7, 8, 9, 10, 11, 12, 13, 27, 34, 42, 66, 80] (by kernel_rfl) ?_
    repeat' first
     | (with_reducible first | refine Nx.go ?_ | refine Bk.go (fun _ => ?_) fun _ => ?_)
     | ((with_reducible first | refine NewB.mk2 fun nb hnb hnb1 hnb2 => ?_ | refine NewRow.mk2 fun nb nsp ncap hnb hncap hnb1 hnb2 => ?_); try simp only [zzn] at hnb2)
     | simp -dsimp -implicitDefEqProofs (disch := first | assumption | (simp only [zzm]; done) | omega | (try with_reducible refine Row.adr (by assumption) ?_); simp only [zzl, Nat.reduceAdd]; first | done | omega) only [go_sem, ↓reduceIte, seval, -List.reduceReplicate, hr1]
    refine FnT.rd ((bl, .cells av sp 24) :: (b2, .cells C [] 27) :: (br, .cells (ps.map (Value.int .i64)) spr 3) :: H) (fun R' hR' => place27_t (by omega) (by omega) hlb hsl3 (by omega) hx3 hR') (by intro fsum; simp only [zzq]; omega) (by intro fsum; simp only [zzq]; omega) ?_
    rw [hpi]
    repeat' first
     | (with_reducible first | refine Nx.go ?_ | refine Bk.go (fun _ => ?_) fun _ => ?_)
     | ((with_reducible first | refine NewB.mk2 fun nb hnb hnb1 hnb2 => ?_ | refine NewRow.mk2 fun nb nsp ncap hnb hncap hnb1 hnb2 => ?_); try simp only [zzn] at hnb2)
     | simp -dsimp -implicitDefEqProofs (disch := first | assumption | (simp only [zzm]; done) | omega | (try with_reducible refine Row.adr (by assumption) ?_); simp only [zzl, Nat.reduceAdd]; first | done | omega) only [go_sem, ↓reduceIte, seval, -List.reduceReplicate, hr1, List.length_map, hps]
    refine Upd.leave (H' := (b2, .cells C [] 27) :: (nb, .cells ((ps ++ [(n : Int)]).map (Value.int .i64)) nsp 3) :: ([(bl, .cells av sp 24)] ++ H)) (by intro fsum; simp only [zzq]; omega) ?_
    exact ⟨_, _, _, _, _, _, hle3, .inr ⟨bl, cc, sp, rfl, rfl, by omega, by omega⟩, hav3, by simp at hncap ⊢; omega, rfl, rfl⟩
theorem rq22_t {d : DfaT} (hd : d.of.length = 256) {i : Nat} (hi : i ≤ 70000) {G : PHeap} {H : Heap} {v1 v2 v4 v5 v6 v8 vn vl vs : Value} {a9 : Option Addr} {n9 c9 : Nat} {b7 : Nat} {rv : List Value} {kn : Heap} (hone : rv.all oneV = true) (hkn : SliceO [] 24 1 vn i rv kn) :
  Tri Tryz.prog Tryz.f23.ntmps (piece [1, 1, 1, 0, 1, 0, 0, 1, 0, 0, 1, 1, 1, 0] Tryz.f23) G [(1, v1), (2, v2), (4, v4), (5, v5), (6, v6), (7, .pointer (some ⟨b7, 0, none⟩)), (8, v8), (9, .slice a9 n9 c9)] ((b7, .cells (cellsD d vn vl vs) [] 27) :: (kn ++ H)) (onlyN fun G' fr' H' =>
   ∃ vn' kn', G' = G ∧ SliceO [] 24 1 vn' (i + 1) (rv ++ [.slice a9 n9 c9]) kn' ∧ restrict [1, 2, 4, 5, 6, 7, 8] fr' = [(1, v1), (2, v2), (4, v4), (5, v5), (6, v6), (7, .pointer (some ⟨b7, 0, none⟩)), (8, v8)] ∧ H' = (b7, .cells (cellsD d vn' vl vs) [] 27) :: (kn' ++ H)) := by
 have hr1 : ∀ x : Value, List.replicate 1 x = [x] := fun _ => rfl
 have hl2 : ∀ a b c : Value, (cellsD d a b c).length = 260 := fun a b c => cellsD_len hd _ _ _
 have hg1 : ∀ a b c : Value, (cellsD d a b c)[257]? = some a := fun a b c => cellsD_n hd _ _ _
 have hputN : ∀ a b c x : Value, splice (cellsD d a b c) 257 [x] = cellsD d x b c := fun a b c x => cellsD_putN hd _ _ _ _
 refine Tri.sepT fun hs0 => ?_
 rcases hkn with ⟨aa, rfl, hi0, hx, rfl⟩ | ⟨bl, cc, sp, rfl, rfl, hx, hcl⟩
 ·have hsE := hs0
  try simp only [zzs] at hsE
  repeat (obtain ⟨hsx, hsE⟩ := hsE)
  refine Tri.piece (f := Tryz.f23) rfl ?_
  refine Tri.run tok [0, 1, 2, 4, 5, 6, 7, 8, 9, 10, 11, 12, 13, 27, 34, 42, 66, 80] (by kernel_rfl) ?_
  repeat' first
   | (with_reducible first | refine Nx.go ?_ | refine Bk.go (fun _ => ?_) fun _ => ?_)
   | ((with_reducible first | refine NewB.mk2 fun nb hnb hnb1 hnb2 => ?_ | refine NewRow.mk2 fun nb nsp ncap hnb hncap hnb1 hnb2 => ?_); try simp only [zzn] at hnb2)
   | simp -dsimp -implicitDefEqProofs (disch := first | assumption | (simp only [zzm]; done) | omega | (try with_reducible refine Row.adr (by assumption) ?_); simp only [zzl, Nat.reduceAdd]; first | done | omega) only [go_sem, ↓reduceIte, seval, -List.reduceReplicate, hl2, hg1, hputN, hr1, hone]
  refine Upd.leave (H' := (b7, .cells (cellsD d (.slice (some ⟨nb, 0, none⟩) 1 ncap) vl vs) [] 27) :: ([(nb, .cells [.slice a9 n9 c9] nsp 24)] ++ H)) (by intro fsum; simp only [zzq]; omega) ?_
  exact ⟨_, _, rfl, .inr ⟨nb, ncap, nsp, by rw [hi0], by rw [hx]; rfl, by rw [hx, hi0]; rfl, by rw [hx]; simp at hncap ⊢; omega⟩, rfl, rfl⟩
 ·rw [Nat.mul_one] at hx hcl
  have hsE := hs0
  try simp only [zzs] at hsE
  repeat (obtain ⟨hsx, hsE⟩ := hsE)
  refine Tri.piece (f := Tryz.f23) rfl ?_
  refine Tri.run tok [0, 1, 2, 4, 5, 6, 7, 8, 9, 10, 11, 12, 13, 27, 34, 42, 66, 80] (by kernel_rfl) ?_
  repeat' first
   | (with_reducible first | refine Nx.go ?_ | refine Bk.go (fun _ => ?_) fun _ => ?_)
   | ((with_reducible first | refine NewB.mk2 fun nb hnb hnb1 hnb2 => ?_ | refine NewRow.mk2 fun nb nsp ncap hnb hncap hnb1 hnb2 => ?_); try simp only [zzn] at hnb2)
   | simp -dsimp -implicitDefEqProofs (disch := first | assumption | (simp only [zzm]; done) | omega | (try with_reducible refine Row.adr (by assumption) ?_); simp only [zzl, Nat.reduceAdd]; first | done | omega) only [go_sem, ↓reduceIte, seval, -List.reduceReplicate, hl2, hg1, hputN, hr1, hone]
  refine Upd.leave (H' := (b7, .cells (cellsD d (.slice (some ⟨nb, 0, none⟩) (i + 1) ncap) vl vs) [] 27) :: ([(nb, .cells (rv ++ [.slice a9 n9 c9]) nsp 24)] ++ H)) (by intro fsum; simp only [zzq]; omega) ?_
  exact ⟨_, _, rfl, .inr ⟨nb, ncap, nsp, rfl, rfl, by rw [List.length_append, hx]; simp, by rw [List.length_append, hx]; simp at hncap ⊢; omega⟩, rfl, rfl⟩
theorem rq23_t {d : DfaT} (hd : d.of.length = 256) {labs : List Int} {i : Nat} (hi : i ≤ 70000) (hli : labs.length = i) {ks : List (List Int)} (hik : i < ks.length) (hkl : ks.length ≤ 70000) (h0 : 0 < ks[i].length) {av sp : List Value} {G : PHeap} (hav : RwI G av ks) {H : Heap} {v1 v2 v4 v5 vn vl vs : Value} {b7 bl cc : Nat} {kl : Heap} (hkll : SliceO [] 3 1 vl i (labs.map (Value.int .i64)) kl) :
  Tri Tryz.prog Tryz.f23.ntmps (piece [1, 1, 1, 0, 1, 0, 0, 1, 0, 0, 1, 1, 1, 1] Tryz.f23) G [(1, v1), (2, v2), (4, v4), (5, v5), (6, .slice (some ⟨bl, 0, none⟩) ks.length cc), (7, .pointer (some ⟨b7, 0, none⟩)), (8, .int .i64 (i : Nat))] ((b7, .cells (cellsD d vn vl vs) [] 27) :: (bl, .cells av sp 24) :: (kl ++ H)) (onlyN fun G' fr' H' =>
   ∃ vl' kl', G' = G ∧ SliceO [] 3 1 vl' (i + 1) ((labs ++ [ks[i].headD 0]).map (Value.int .i64)) kl' ∧ restrict [1, 2, 4, 5, 6, 7, 8] fr' = [(1, v1), (2, v2), (4, v4), (5, v5), (6, .slice (some ⟨bl, 0, none⟩) ks.length cc), (7, .pointer (some ⟨b7, 0, none⟩)), (8, .int .i64 (i : Nat))] ∧ H' = (b7, .cells (cellsD d vn vl' vs) [] 27) :: (bl, .cells av sp 24) :: (kl' ++ H)) := by
 have hr1 : ∀ x : Value, List.replicate 1 x = [x] := fun _ => rfl
 have hl2 : ∀ a b c : Value, (cellsD d a b c).length = 260 := fun a b c => cellsD_len hd _ _ _
 have hg2 : ∀ a b c : Value, (cellsD d a b c)[258]? = some b := fun a b c => cellsD_l hd _ _ _
 have hputL : ∀ a b c x : Value, splice (cellsD d a b c) 258 [x] = cellsD d a x c := fun a b c x => cellsD_putL hd _ _ _ _
 obtain ⟨ba, ca, a1, a2, a3⟩ := hav.2 i hik (by have := hav.1; omega)
 have hgv : (av ++ sp)[i]? = some (.slice ba ks[i].length ca) := by
  rw [List.getElem?_append_left (by have := hav.1; omega), List.getElem?_eq_getElem (by have := hav.1; omega), a1]
 have hada : Adr ba := a2.adr (by rw [List.length_map]; omega)
 rw [headD_in h0]
 refine Tri.sepT fun hs0 => ?_
 rcases hkll with ⟨aa, rfl, hi0, hx, rfl⟩ | ⟨bk, ck, sk, rfl, rfl, hx, hcl⟩
 ·have hsE := hs0
  try simp only [zzs] at hsE
  repeat (obtain ⟨hsx, hsE⟩ := hsE)
  refine Tri.piece (f := Tryz.f23) rfl ?_
  refine Tri.run tok [0, 1, 2, 4, 5, 6, 7, 8, 9, 10, 11, 12, 13, 27, 34, 42, 66, 80] (by kernel_rfl) ?_
  repeat' first
   | (with_reducible first | refine Nx.go ?_ | refine Bk.go (fun _ => ?_) fun _ => ?_)
   | ((with_reducible first | refine NewB.mk2 fun nb hnb hnb1 hnb2 => ?_ | refine NewRow.mk2 fun nb nsp ncap hnb hncap hnb1 hnb2 => ?_); try simp only [zzn] at hnb2)
   | simp -dsimp -implicitDefEqProofs (disch := first | assumption | (simp only [zzm]; done) | omega | (try with_reducible refine Row.adr (by assumption) ?_); simp only [zzl, Nat.reduceAdd]; first | done | omega) only [go_sem, ↓reduceIte, seval, -List.reduceReplicate, hl2, hg2, hputL, hr1, hgv, Row.obj0 a2, List.getElem_map]
   | with_reducible refine Tri.drawS tok mixed [0, 1, 2, 4, 5, 6, 7, 8, 9, 10, 11, 12, 13, 27, 34, 42, 66, 80] 23 [1, 5, 7] (.op 0 .plain (.op 1 .held (.op 2 .plain (.op 3 .plain (.op 4 .plain (.op 5 .held (.op 6 .plain (.op 7 .held (.op 8 .keeps (.op 9 .keeps (.op 10 .plain (.op 11 .plain .nil)))))))))))) (by kernel_rfl) [(b7, .cells (cellsD d vn (.slice aa 0 0) vs) [] 27), (bl, .cells av sp 24)] (by intro fsum; first | exact Nat.le_refl _ | (simp only [zzq]; omega)) ?_
  refine Upd.leave (H' := (b7, .cells (cellsD d vn (.slice (some ⟨nb, 0, none⟩) 1 ncap) vs) [] 27) :: (bl, .cells av sp 24) :: ([(nb, .cells [.int .i64 ks[i][0]] nsp 3)] ++ H)) (by intro fsum; simp only [zzq]; omega) ?_
  exact ⟨_, _, rfl, .inr ⟨nb, ncap, nsp, by rw [hi0], by rw [List.map_append, hx]; rfl, by rw [List.map_append, hx]; simp; omega, by rw [List.map_append, hx]; simp at hncap ⊢; omega⟩, rfl, rfl⟩
 ·rw [List.length_map, Nat.mul_one] at hx hcl
  have hsE := hs0
  try simp only [zzs] at hsE
  repeat (obtain ⟨hsx, hsE⟩ := hsE)
  refine Tri.piece (f := Tryz.f23) rfl ?_
  refine Tri.run tok [0, 1, 2, 4, 5, 6, 7, 8, 9, 10, 11, 12, 13, 27, 34, 42, 66, 80] (by kernel_rfl) ?_
  repeat' first
   | (with_reducible first | refine Nx.go ?_ | refine Bk.go (fun _ => ?_) fun _ => ?_)
   | ((with_reducible first | refine NewB.mk2 fun nb hnb hnb1 hnb2 => ?_ | refine NewRow.mk2 fun nb nsp ncap hnb hncap hnb1 hnb2 => ?_); try simp only [zzn] at hnb2)
   | simp -dsimp -implicitDefEqProofs (disch := first | assumption | (simp only [zzm]; done) | omega | (try with_reducible refine Row.adr (by assumption) ?_); simp only [zzl, Nat.reduceAdd]; first | done | omega) only [go_sem, ↓reduceIte, seval, -List.reduceReplicate, hl2, hg2, hputL, hr1, hgv, Row.obj0 a2, List.getElem_map, List.length_map, hli]
   | with_reducible refine Tri.drawS tok mixed [0, 1, 2, 4, 5, 6, 7, 8, 9, 10, 11, 12, 13, 27, 34, 42, 66, 80] 23 [1, 5, 7] (.op 0 .plain (.op 1 .held (.op 2 .plain (.op 3 .plain (.op 4 .plain (.op 5 .held (.op 6 .plain (.op 7 .held (.op 8 .keeps (.op 9 .keeps (.op 10 .plain (.op 11 .plain .nil)))))))))))) (by kernel_rfl) [(b7, .cells (cellsD d vn (.slice (some ⟨bk, 0, none⟩) i ck) vs) [] 27), (bl, .cells av sp 24)] (by intro fsum; first | exact Nat.le_refl _ | (simp only [zzq]; omega)) ?_
  refine Upd.leave (H' := (b7, .cells (cellsD d vn (.slice (some ⟨nb, 0, none⟩) (i + 1) ncap) vs) [] 27) :: (bl, .cells av sp 24) :: ([(nb, .cells (labs.map (Value.int .i64) ++ [.int .i64 ks[i][0]]) nsp 3)] ++ H)) (by intro fsum; simp only [zzq]; omega) ?_
  exact ⟨_, _, rfl, .inr ⟨nb, ncap, nsp, rfl, by rw [List.map_append]; rfl, by simp [hli], by simp at hncap ⊢; omega⟩, rfl, rfl⟩
end Go.Proofs.YtefkpedhbijhkaaGreatDoor
