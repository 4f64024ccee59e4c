/- Law 24: its example. -/
import Derived.Test.YtmlmhcejdlljjaaMe
import Derived.Test.YtmlmhcejdlljjaaSp
set_option linter.unusedSimpArgs false
set_option linter.unusedVariables false
namespace Go.Proofs.Ytmlmhcejdlljjaa
open Go Go.V Go.Proofs

def d1 : DfaT := ⟨List.replicate 256 0, 1, [[1], [2], [3], [3], [1]], [0, 0, 0, 1, 0], [[120]]⟩
theorem name120 : nameB [120] = true := nameB_iff.2 ⟨by decide, by decide, fun i h => by
  match i, (show i < 1 from h) with
  | 0, _ => exact (by decide : mayN 120 true = true)⟩
theorem d1_right : RightP d1 := by
  refine ⟨by decide, by decide, rfl, by decide +kernel, by decide +kernel, ?_, fun s h1 h2 => ?_⟩
  · refine ⟨by decide, fun i h => ?_⟩
    have h1 : i < 1 := h
    match i, h1 with
    | 0, _ => exact ⟨name120, (by decide : ¬ ([120] : List UInt8) ∈ ([] : List (List UInt8)))⟩
  have e : ∀ s : Fin 5, ((d1.next[s.val]'s.isLt).length : Int) = d1.width ∧ 0 ≤ d1.label[s.val]'s.isLt ∧ d1.label[s.val]'s.isLt ≤ d1.names.length ∧ ∀ t ∈ d1.next[s.val]'s.isLt, 0 ≤ t ∧ t < d1.label.length := by decide +kernel
  exact e ⟨s, h1⟩
theorem d1_small : SmallD d1 := ⟨by decide, by decide, by decide, by decide, by decide⟩
theorem d1_lvl : lvl d1 0 = [0, 0, 0, 1, 0] ∧ lvl d1 1 = [0, 0, 1, 2, 0] ∧ lvl d1 2 = [0, 1, 2, 3, 0] ∧ lvl d1 3 = [0, 1, 2, 3, 0] := by decide +kernel
theorem d1_last : LastR d1 2 := ⟨by decide, by rw [d1_lvl.2.2.1, d1_lvl.2.2.2], fun i hi => by
  match i, hi with
  | 0, _ => rw [d1_lvl.1, d1_lvl.2.1]; decide
  | 1, _ => rw [d1_lvl.2.1, d1_lvl.2.2.1]; decide⟩
theorem d1_big : lvl d1 65536 = [0, 1, 2, 3, 0] := by rw [← last_min d1_last, show min 65536 2 = 2 from rfl]; exact d1_lvl.2.2.1
theorem callee11 : V.Callee Try.prog 13 := ⟨_, _, Try.func13, rfl, by kernel_rfl⟩
theorem callee9 : V.Callee Try.prog 9 := ⟨_, _, Try.func9, rfl, by kernel_rfl⟩
theorem d1_w : splice zeroC 256 [Value.int .i64 1] = cellsD d1 (.slice none 0 0) (.slice none 0 0) (.slice none 0 0) := by
  have h0 : zeroC = u8L d1.of ++ [Value.int .i64 0, Value.slice none 0 0, Value.slice none 0 0, Value.slice none 0 0] := by
    unfold d1 u8L
    rw [List.map_replicate]
  rw [h0]
  exact build_w (d := d1) List.length_replicate
theorem cellsD_putS {d : DfaT} (h : d.of.length = 256) (vn vl vs x : Value) : splice (cellsD d vn vl vs) 259 [x] = cellsD d vn vl x := by
  unfold splice cellsD
  have hl : (u8L d.of).length = 256 := by rw [List.length_map, h]
  rw [show 259 = (u8L d.of).length + 3 by omega, List.take_length_add_append, List.length_singleton, show (u8L d.of).length + 3 + 1 = (u8L d.of).length + 4 by omega, List.drop_length_add_append, List.append_assoc, List.append_assoc]
  rfl
set_option maxHeartbeats 16000000 in
theorem knows_t {G : PHeap} {H : Heap} {R : Value → PHeap → Heap → Prop} (hR : ∀ G', PLe G G' → R (.bool true) G' H) : FnT Try.prog 11 [] G H R := by
  have hd : d1.of.length = 256 := List.length_replicate
  have hr1 : ∀ x : Value, List.replicate 1 x = [x] := fun _ => rfl
  have hr3 : ∀ x : Value, List.replicate 5 x = [x, x, x, x, x] := fun _ => rfl
  have hl2 : ∀ a b c : Value, (cellsD d1 a b c).length = 260 := fun a b c => cellsD_len hd _ _ _
  have ht2 : ∀ a b c : Value, List.take 260 (cellsD d1 a b c) = cellsD d1 a b c := fun a b c => cellsD_all hd _ _ _
  have hputN : ∀ a b c x : Value, splice (cellsD d1 a b c) 257 [x] = cellsD d1 x b c := fun a b c x => cellsD_putN hd _ _ _ _
  have hputL : ∀ a b c x : Value, splice (cellsD d1 a b c) 258 [x] = cellsD d1 a x c := fun a b c x => cellsD_putL hd _ _ _ _
  have hputS : ∀ a b c x : Value, splice (cellsD d1 a b c) 259 [x] = cellsD d1 a b x := fun a b c x => cellsD_putS hd _ _ _ _
  have hputz : ∀ a b c : Value, splice zeroC 0 (cellsD d1 a b c) = cellsD d1 a b c := fun a b c => by
    unfold splice
    rw [List.take_zero, List.nil_append, List.drop_of_length_le (by rw [zeroC_len, hl2]; omega), List.append_nil]
  have hone : ∀ (a : Option Addr) (n c : Nat) (a' : Option Addr) (n' c' : Nat) (a2 : Option Addr) (n2 c2 : Nat), (cellsD d1 (.slice a n c) (.slice a' n' c') (.slice a2 n2 c2)).all oneV = true := fun _ _ _ _ _ _ _ _ _ => cellsD_one rfl rfl rfl
  refine FnT.body tok [0, 1] Try.func11 rfl (by kernel_rfl) (by kernel_rfl) (by show _ ≤ 32; simp) fun hsep => ?_
  rw [Try.results11]
  have hsE := hsep
  try simp only [keys_cons, keys_app, keys_nil, Sep_cons, Sep_nil, NotIn_cons, NotIn_app, NotIn_nil, List.cons_append, List.nil_append, List.append_assoc, and_assoc, and_true, true_and] at hsE
  repeat (obtain ⟨hsx, hsE⟩ := hsE)
  repeat' first
    | with_reducible refine Br.yes ?_
    | with_reducible refine Br.no ?_
    | with_reducible refine Br.dec (fun _ => ?_) (fun _ => ?_)
    | with_reducible refine Br.beqB (fun _ => ?_) (fun _ => ?_)
    | with_reducible refine Br.beqb (fun _ => ?_) (fun _ => ?_)
    | with_reducible refine Br.mk (fun _ => ?_) (fun _ => ?_)
    | with_reducible refine foundO.mk (fun _ _ => ?_) (fun _ => ?_)
    | with_reducible refine appV.zero ?_
    | with_reducible refine appV.own ?_
    | ((with_reducible refine NewB.mk fun nb hnb => ?_); have hnb1 := hnb.1.1; have hnb2 := hnb.1.2; try simp only [keys_cons, keys_app, keys_nil, NotIn_cons, NotIn_app, NotIn_nil, and_true] at hnb2)
    | ((with_reducible refine NewRow.mk fun nb nsp ncap hnb hncap => ?_); have hnb1 := hnb.1.1; have hnb2 := hnb.1.2; try simp only [keys_cons, keys_app, keys_nil, NotIn_cons, NotIn_app, NotIn_nil, and_true] at hnb2)
    | simp (dsimp := false) (implicitDefEqProofs := false) (disch := first | assumption | (simp only [List.mem_cons, List.mem_append, true_or, or_true, eq_self]; done) | omega | (with_reducible refine Row.adr (by assumption) ?_; simp only [List.length_map, List.length_take, List.length_drop]; omega) | (simp only [List.length_cons, List.length_nil, List.length_map, List.length_append, List.length_replicate, Nat.reduceAdd, true_and, and_true, and_self]; first | done | omega)) only [go_sem, ↓reduceIte, Nat.reduceEqDiff, Nat.reduceAdd, Nat.reduceSub, Nat.reduceMul, Nat.reduceBEq, Nat.reduceLT, Nat.reduceLeDiff, Nat.reduceMod, Nat.reducePow, List.reduceReplicate, UInt8.reduceOfNat, Int.reducePow, Int.reduceDiv, Int.reduceMod, Nat.reduceDiv, Int.reduceNeg, Int.reduceAdd, Int.reduceSub, Int.reduceMul, Int.reduceLE, Int.reduceLT, Int.reduceEq, Int.reduceToNat, decide_true, decide_false, reduceCtorEq, ne_eq, not_false_eq_true, not_true_eq_false, and_true, true_and, and_self, or_true, true_or, or_false, false_or, or_self, eq_self, Option.isNone_some, Option.isNone_none, Nat.zero_add, Nat.add_zero, Nat.mul_one, Nat.one_mul, Nat.zero_mul, List.length_cons, List.length_nil, List.getElem?_cons_zero, List.getElem?_cons_succ, List.map_cons, List.map_nil, List.append_nil, -List.reduceReplicate, List.toList_toArray, hr1, hr3, zeroC_len, d1_w, hl2, ht2, hputN, hputL, hputS, hputz, hone]
  rename_i c1 y11 y12 y13 c2 y21 y22 y23 c3 y31 y32 y33 c4 y41 y42 y43 c5 y51 y52 y53 c6 y61 y62 y63 c7 y71 y72 y73 c8 y81 y82 y83
  refine FnT.pre callee9 ?_
  refine Upd.go (H' := (c8, .cells [Value.string { data := #[120] }] [] 9) :: (c7, .cells [.int .i64 0, .int .i64 0, .int .i64 0, .int .i64 1, .int .i64 0] [] 3) :: (c6, .cells [.slice (some ⟨c1, 0, none⟩) 1 1, .slice (some ⟨c2, 0, none⟩) 1 1, .slice (some ⟨c3, 0, none⟩) 1 1, .slice (some ⟨c4, 0, none⟩) 1 1, .slice (some ⟨c5, 0, none⟩) 1 1] [] 24) :: (c5, .cells [.int .i64 1] [] 3) :: (c4, .cells [.int .i64 3] [] 3) :: (c3, .cells [.int .i64 3] [] 3) :: (c2, .cells [.int .i64 2] [] 3) :: (c1, .cells [.int .i64 1] [] 3) :: (nb, .cells (cellsD d1 (.slice (some ⟨c6, 0, none⟩) 5 5) (.slice (some ⟨c7, 0, none⟩) 5 5) (.slice (some ⟨c8, 0, none⟩) 1 1)) [] 27) :: H) (by intro fsum; first | exact Nat.le_refl _ | (simp only [List.map_append, List.map_cons, List.map_nil, List.sum_append, List.sum_cons, List.sum_nil, List.cons_append, List.nil_append]; omega)) ?_
  refine Upd.trans (Upd.shareRow (by assumption) fun G1 hle1 hs1 r8 => ?_)
  refine Upd.trans (Upd.shareRow hs1.1.1 fun G2 hle2 hs2 r7 => ?_)
  refine Upd.trans (Upd.shareRow hs2.1.1 fun G3 hle3 hs3 r6 => ?_)
  refine Upd.trans (Upd.shareRow hs3.1.1 fun G4 hle4 hs4 r5 => ?_)
  refine Upd.trans (Upd.shareRow hs4.1.1 fun G5 hle5 hs5 r4 => ?_)
  refine Upd.trans (Upd.shareRow hs5.1.1 fun G6 hle6 hs6 r3 => ?_)
  refine Upd.trans (Upd.shareRow hs6.1.1 fun G7 hle7 hs7 r2 => ?_)
  refine Upd.shareRow hs7.1.1 fun G8 hle8 hs8 r1 => ?_
  have k7 := hle8
  have k6 := hle7.trans k7
  have k5 := hle6.trans k6
  have k4 := hle5.trans k5
  have k3 := hle4.trans k4
  have k2 := hle3.trans k3
  have k1 := hle2.trans k2
  have hI : IsD G8 d1 (.agg (cellsD d1 (.slice (some ⟨c6, 0, none⟩) 5 5) (.slice (some ⟨c7, 0, none⟩) 5 5) (.slice (some ⟨c8, 0, none⟩) 1 1)).toArray) := by
    refine ⟨hd, fun x hx => ?_, _, _, _, rfl, ⟨some ⟨c6, 0, none⟩, 5, _, rfl, r6.mono k3, rfl, by decide, fun i h h2 => ?_⟩, ⟨some ⟨c7, 0, none⟩, 5, rfl, r7.mono k2, by decide⟩, ⟨some ⟨c8, 0, none⟩, 1, rfl, r8.mono k1, by decide⟩⟩
    · have : x = 0 := List.eq_of_mem_replicate hx
      omega
    · have h3 : i < 5 := h
      match i, h3 with
      | 0, _ => exact ⟨_, _, rfl, r1, Nat.le_refl 1⟩
      | 1, _ => exact ⟨_, _, rfl, r2.mono k7, Nat.le_refl 1⟩
      | 2, _ => exact ⟨_, _, rfl, r3.mono k6, Nat.le_refl 1⟩
      | 3, _ => exact ⟨_, _, rfl, r4.mono k5, Nat.le_refl 1⟩
      | 4, _ => exact ⟨_, _, rfl, r5.mono k4, Nat.le_refl 1⟩
  have hsE := hs8
  try simp only [keys_cons, keys_app, keys_nil, Sep_cons, Sep_nil, NotIn_cons, NotIn_app, NotIn_nil, List.cons_append, List.nil_append, List.append_assoc, and_assoc, and_true, true_and] at hsE
  repeat (obtain ⟨hsx, hsE⟩ := hsE)
  have hE : PLe G G8 := hle1.trans k1
  clear k1 k2 k3 k4 k5 k6 k7 r1 r2 r3 r4 r5 r6 r7 r8
  refine after_t d1_small hI fun G9 v9 hle9 hs9 hsl9 => ?_
  rw [show aftD d1 (0 : Int).toNat = [0, 0, 0, 1, 0] from (aftD_ok d1_right _).trans d1_lvl.1] at hsl9
  have hsE := hs9
  try simp only [keys_cons, keys_app, keys_nil, Sep_cons, Sep_nil, NotIn_cons, NotIn_app, NotIn_nil, List.cons_append, List.nil_append, List.append_assoc, and_assoc, and_true, true_and] at hsE
  repeat (obtain ⟨hsx, hsE⟩ := hsE)
  repeat' first
    | with_reducible refine Br.yes ?_
    | with_reducible refine Br.no ?_
    | with_reducible refine Br.dec (fun _ => ?_) (fun _ => ?_)
    | with_reducible refine Br.beqB (fun _ => ?_) (fun _ => ?_)
    | with_reducible refine Br.beqb (fun _ => ?_) (fun _ => ?_)
    | with_reducible refine Br.mk (fun _ => ?_) (fun _ => ?_)
    | with_reducible refine foundO.mk (fun _ _ => ?_) (fun _ => ?_)
    | with_reducible refine appV.zero ?_
    | with_reducible refine appV.own ?_
    | ((with_reducible refine NewB.mk fun nb hnb => ?_); have hnb1 := hnb.1.1; have hnb2 := hnb.1.2; try simp only [keys_cons, keys_app, keys_nil, NotIn_cons, NotIn_app, NotIn_nil, and_true] at hnb2)
    | ((with_reducible refine NewRow.mk fun nb nsp ncap hnb hncap => ?_); have hnb1 := hnb.1.1; have hnb2 := hnb.1.2; try simp only [keys_cons, keys_app, keys_nil, NotIn_cons, NotIn_app, NotIn_nil, and_true] at hnb2)
    | simp (dsimp := false) (implicitDefEqProofs := false) (disch := first | assumption | (simp only [List.mem_cons, List.mem_append, true_or, or_true, eq_self]; done) | omega | (with_reducible refine Row.adr (by assumption) ?_; simp only [List.length_map, List.length_take, List.length_drop]; omega) | (simp only [List.length_cons, List.length_nil, List.length_map, List.length_append, List.length_replicate, Nat.reduceAdd, true_and, and_true, and_self]; first | done | omega)) only [go_sem, ↓reduceIte, Nat.reduceEqDiff, Nat.reduceAdd, Nat.reduceSub, Nat.reduceMul, Nat.reduceBEq, Nat.reduceLT, Nat.reduceLeDiff, Nat.reduceMod, Nat.reducePow, List.reduceReplicate, UInt8.reduceOfNat, Int.reducePow, Int.reduceDiv, Int.reduceMod, Nat.reduceDiv, Int.reduceNeg, Int.reduceAdd, Int.reduceSub, Int.reduceMul, Int.reduceLE, Int.reduceLT, Int.reduceEq, Int.reduceToNat, decide_true, decide_false, reduceCtorEq, ne_eq, not_false_eq_true, not_true_eq_false, and_true, true_and, and_self, or_true, true_or, or_false, false_or, or_self, eq_self, Option.isNone_some, Option.isNone_none, Nat.zero_add, Nat.add_zero, Nat.mul_one, Nat.one_mul, Nat.zero_mul, List.length_cons, List.length_nil, List.getElem?_cons_zero, List.getElem?_cons_succ, List.map_cons, List.map_nil, List.append_nil, -List.reduceReplicate, List.toList_toArray, hr1, hr3, zeroC_len, hl2, ht2, hone]
  refine FnT.pre callee11 (Upd.shareRow (by assumption) fun G10 hle10 hs10 r10 => ?_)
  refine same17_t [0, 0, 0, 1, 0] [0, 0, 0, 1, 0] (by decide) (hsl9.mono hle10) ⟨some ⟨_, 0, none⟩, 5, rfl, r10, by decide⟩ ?_
  rw [decide_eq_true rfl]
  have hsE := hs10
  try simp only [keys_cons, keys_app, keys_nil, Sep_cons, Sep_nil, NotIn_cons, NotIn_app, NotIn_nil, List.cons_append, List.nil_append, List.append_assoc, and_assoc, and_true, true_and] at hsE
  repeat (obtain ⟨hsx, hsE⟩ := hsE)
  repeat' first
    | with_reducible refine Br.yes ?_
    | with_reducible refine Br.no ?_
    | with_reducible refine Br.dec (fun _ => ?_) (fun _ => ?_)
    | with_reducible refine Br.beqB (fun _ => ?_) (fun _ => ?_)
    | with_reducible refine Br.beqb (fun _ => ?_) (fun _ => ?_)
    | with_reducible refine Br.mk (fun _ => ?_) (fun _ => ?_)
    | with_reducible refine foundO.mk (fun _ _ => ?_) (fun _ => ?_)
    | with_reducible refine appV.zero ?_
    | with_reducible refine appV.own ?_
    | ((with_reducible refine NewB.mk fun nb hnb => ?_); have hnb1 := hnb.1.1; have hnb2 := hnb.1.2; try simp only [keys_cons, keys_app, keys_nil, NotIn_cons, NotIn_app, NotIn_nil, and_true] at hnb2)
    | ((with_reducible refine NewRow.mk fun nb nsp ncap hnb hncap => ?_); have hnb1 := hnb.1.1; have hnb2 := hnb.1.2; try simp only [keys_cons, keys_app, keys_nil, NotIn_cons, NotIn_app, NotIn_nil, and_true] at hnb2)
    | simp (dsimp := false) (implicitDefEqProofs := false) (disch := first | assumption | (simp only [List.mem_cons, List.mem_append, true_or, or_true, eq_self]; done) | omega | (with_reducible refine Row.adr (by assumption) ?_; simp only [List.length_map, List.length_take, List.length_drop]; omega) | (simp only [List.length_cons, List.length_nil, List.length_map, List.length_append, List.length_replicate, Nat.reduceAdd, true_and, and_true, and_self]; first | done | omega)) only [go_sem, ↓reduceIte, Nat.reduceEqDiff, Nat.reduceAdd, Nat.reduceSub, Nat.reduceMul, Nat.reduceBEq, Nat.reduceLT, Nat.reduceLeDiff, Nat.reduceMod, Nat.reducePow, List.reduceReplicate, UInt8.reduceOfNat, Int.reducePow, Int.reduceDiv, Int.reduceMod, Nat.reduceDiv, Int.reduceNeg, Int.reduceAdd, Int.reduceSub, Int.reduceMul, Int.reduceLE, Int.reduceLT, Int.reduceEq, Int.reduceToNat, decide_true, decide_false, reduceCtorEq, ne_eq, not_false_eq_true, not_true_eq_false, and_true, true_and, and_self, or_true, true_or, or_false, false_or, or_self, eq_self, Option.isNone_some, Option.isNone_none, Nat.zero_add, Nat.add_zero, Nat.mul_one, Nat.one_mul, Nat.zero_mul, List.length_cons, List.length_nil, List.getElem?_cons_zero, List.getElem?_cons_succ, List.map_cons, List.map_nil, List.append_nil, -List.reduceReplicate, List.toList_toArray, hr1, hr3, zeroC_len, hl2, ht2, hone]
  refine after_t d1_small (hI.mono (hle9.trans hle10)) fun G11 v11 hle11 hs11 hsl11 => ?_
  rw [show aftD d1 (1 : Int).toNat = [0, 0, 1, 2, 0] from (aftD_ok d1_right _).trans d1_lvl.2.1] at hsl11
  have hsE := hs11
  try simp only [keys_cons, keys_app, keys_nil, Sep_cons, Sep_nil, NotIn_cons, NotIn_app, NotIn_nil, List.cons_append, List.nil_append, List.append_assoc, and_assoc, and_true, true_and] at hsE
  repeat (obtain ⟨hsx, hsE⟩ := hsE)
  repeat' first
    | with_reducible refine Br.yes ?_
    | with_reducible refine Br.no ?_
    | with_reducible refine Br.dec (fun _ => ?_) (fun _ => ?_)
    | with_reducible refine Br.beqB (fun _ => ?_) (fun _ => ?_)
    | with_reducible refine Br.beqb (fun _ => ?_) (fun _ => ?_)
    | with_reducible refine Br.mk (fun _ => ?_) (fun _ => ?_)
    | with_reducible refine foundO.mk (fun _ _ => ?_) (fun _ => ?_)
    | with_reducible refine appV.zero ?_
    | with_reducible refine appV.own ?_
    | ((with_reducible refine NewB.mk fun nb hnb => ?_); have hnb1 := hnb.1.1; have hnb2 := hnb.1.2; try simp only [keys_cons, keys_app, keys_nil, NotIn_cons, NotIn_app, NotIn_nil, and_true] at hnb2)
    | ((with_reducible refine NewRow.mk fun nb nsp ncap hnb hncap => ?_); have hnb1 := hnb.1.1; have hnb2 := hnb.1.2; try simp only [keys_cons, keys_app, keys_nil, NotIn_cons, NotIn_app, NotIn_nil, and_true] at hnb2)
    | simp (dsimp := false) (implicitDefEqProofs := false) (disch := first | assumption | (simp only [List.mem_cons, List.mem_append, true_or, or_true, eq_self]; done) | omega | (with_reducible refine Row.adr (by assumption) ?_; simp only [List.length_map, List.length_take, List.length_drop]; omega) | (simp only [List.length_cons, List.length_nil, List.length_map, List.length_append, List.length_replicate, Nat.reduceAdd, true_and, and_true, and_self]; first | done | omega)) only [go_sem, ↓reduceIte, Nat.reduceEqDiff, Nat.reduceAdd, Nat.reduceSub, Nat.reduceMul, Nat.reduceBEq, Nat.reduceLT, Nat.reduceLeDiff, Nat.reduceMod, Nat.reducePow, List.reduceReplicate, UInt8.reduceOfNat, Int.reducePow, Int.reduceDiv, Int.reduceMod, Nat.reduceDiv, Int.reduceNeg, Int.reduceAdd, Int.reduceSub, Int.reduceMul, Int.reduceLE, Int.reduceLT, Int.reduceEq, Int.reduceToNat, decide_true, decide_false, reduceCtorEq, ne_eq, not_false_eq_true, not_true_eq_false, and_true, true_and, and_self, or_true, true_or, or_false, false_or, or_self, eq_self, Option.isNone_some, Option.isNone_none, Nat.zero_add, Nat.add_zero, Nat.mul_one, Nat.one_mul, Nat.zero_mul, List.length_cons, List.length_nil, List.getElem?_cons_zero, List.getElem?_cons_succ, List.map_cons, List.map_nil, List.append_nil, -List.reduceReplicate, List.toList_toArray, hr1, hr3, zeroC_len, hl2, ht2, hone]
  refine FnT.pre callee11 (Upd.shareRow (by assumption) fun G12 hle12 hs12 r12 => ?_)
  refine same17_t [0, 0, 1, 2, 0] [0, 0, 1, 2, 0] (by decide) (hsl11.mono hle12) ⟨some ⟨_, 0, none⟩, 5, rfl, r12, by decide⟩ ?_
  rw [decide_eq_true rfl]
  have hsE := hs12
  try simp only [keys_cons, keys_app, keys_nil, Sep_cons, Sep_nil, NotIn_cons, NotIn_app, NotIn_nil, List.cons_append, List.nil_append, List.append_assoc, and_assoc, and_true, true_and] at hsE
  repeat (obtain ⟨hsx, hsE⟩ := hsE)
  repeat' first
    | with_reducible refine Br.yes ?_
    | with_reducible refine Br.no ?_
    | with_reducible refine Br.dec (fun _ => ?_) (fun _ => ?_)
    | with_reducible refine Br.beqB (fun _ => ?_) (fun _ => ?_)
    | with_reducible refine Br.beqb (fun _ => ?_) (fun _ => ?_)
    | with_reducible refine Br.mk (fun _ => ?_) (fun _ => ?_)
    | with_reducible refine foundO.mk (fun _ _ => ?_) (fun _ => ?_)
    | with_reducible refine appV.zero ?_
    | with_reducible refine appV.own ?_
    | ((with_reducible refine NewB.mk fun nb hnb => ?_); have hnb1 := hnb.1.1; have hnb2 := hnb.1.2; try simp only [keys_cons, keys_app, keys_nil, NotIn_cons, NotIn_app, NotIn_nil, and_true] at hnb2)
    | ((with_reducible refine NewRow.mk fun nb nsp ncap hnb hncap => ?_); have hnb1 := hnb.1.1; have hnb2 := hnb.1.2; try simp only [keys_cons, keys_app, keys_nil, NotIn_cons, NotIn_app, NotIn_nil, and_true] at hnb2)
    | simp (dsimp := false) (implicitDefEqProofs := false) (disch := first | assumption | (simp only [List.mem_cons, List.mem_append, true_or, or_true, eq_self]; done) | omega | (with_reducible refine Row.adr (by assumption) ?_; simp only [List.length_map, List.length_take, List.length_drop]; omega) | (simp only [List.length_cons, List.length_nil, List.length_map, List.length_append, List.length_replicate, Nat.reduceAdd, true_and, and_true, and_self]; first | done | omega)) only [go_sem, ↓reduceIte, Nat.reduceEqDiff, Nat.reduceAdd, Nat.reduceSub, Nat.reduceMul, Nat.reduceBEq, Nat.reduceLT, Nat.reduceLeDiff, Nat.reduceMod, Nat.reducePow, List.reduceReplicate, UInt8.reduceOfNat, Int.reducePow, Int.reduceDiv, Int.reduceMod, Nat.reduceDiv, Int.reduceNeg, Int.reduceAdd, Int.reduceSub, Int.reduceMul, Int.reduceLE, Int.reduceLT, Int.reduceEq, Int.reduceToNat, decide_true, decide_false, reduceCtorEq, ne_eq, not_false_eq_true, not_true_eq_false, and_true, true_and, and_self, or_true, true_or, or_false, false_or, or_self, eq_self, Option.isNone_some, Option.isNone_none, Nat.zero_add, Nat.add_zero, Nat.mul_one, Nat.one_mul, Nat.zero_mul, List.length_cons, List.length_nil, List.getElem?_cons_zero, List.getElem?_cons_succ, List.map_cons, List.map_nil, List.append_nil, -List.reduceReplicate, List.toList_toArray, hr1, hr3, zeroC_len, hl2, ht2, hone]
  refine blocks_t d1_small (hI.mono (((hle9.trans hle10).trans hle11).trans hle12)) fun G13 v13 hle13 hs13 hsl13 => ?_
  rw [show aftD d1 65536 = [0, 1, 2, 3, 0] from (aftD_ok d1_right _).trans d1_big] at hsl13
  have hsE := hs13
  try simp only [keys_cons, keys_app, keys_nil, Sep_cons, Sep_nil, NotIn_cons, NotIn_app, NotIn_nil, List.cons_append, List.nil_append, List.append_assoc, and_assoc, and_true, true_and] at hsE
  repeat (obtain ⟨hsx, hsE⟩ := hsE)
  repeat' first
    | with_reducible refine Br.yes ?_
    | with_reducible refine Br.no ?_
    | with_reducible refine Br.dec (fun _ => ?_) (fun _ => ?_)
    | with_reducible refine Br.beqB (fun _ => ?_) (fun _ => ?_)
    | with_reducible refine Br.beqb (fun _ => ?_) (fun _ => ?_)
    | with_reducible refine Br.mk (fun _ => ?_) (fun _ => ?_)
    | with_reducible refine foundO.mk (fun _ _ => ?_) (fun _ => ?_)
    | with_reducible refine appV.zero ?_
    | with_reducible refine appV.own ?_
    | ((with_reducible refine NewB.mk fun nb hnb => ?_); have hnb1 := hnb.1.1; have hnb2 := hnb.1.2; try simp only [keys_cons, keys_app, keys_nil, NotIn_cons, NotIn_app, NotIn_nil, and_true] at hnb2)
    | ((with_reducible refine NewRow.mk fun nb nsp ncap hnb hncap => ?_); have hnb1 := hnb.1.1; have hnb2 := hnb.1.2; try simp only [keys_cons, keys_app, keys_nil, NotIn_cons, NotIn_app, NotIn_nil, and_true] at hnb2)
    | simp (dsimp := false) (implicitDefEqProofs := false) (disch := first | assumption | (simp only [List.mem_cons, List.mem_append, true_or, or_true, eq_self]; done) | omega | (with_reducible refine Row.adr (by assumption) ?_; simp only [List.length_map, List.length_take, List.length_drop]; omega) | (simp only [List.length_cons, List.length_nil, List.length_map, List.length_append, List.length_replicate, Nat.reduceAdd, true_and, and_true, and_self]; first | done | omega)) only [go_sem, ↓reduceIte, Nat.reduceEqDiff, Nat.reduceAdd, Nat.reduceSub, Nat.reduceMul, Nat.reduceBEq, Nat.reduceLT, Nat.reduceLeDiff, Nat.reduceMod, Nat.reducePow, List.reduceReplicate, UInt8.reduceOfNat, Int.reducePow, Int.reduceDiv, Int.reduceMod, Nat.reduceDiv, Int.reduceNeg, Int.reduceAdd, Int.reduceSub, Int.reduceMul, Int.reduceLE, Int.reduceLT, Int.reduceEq, Int.reduceToNat, decide_true, decide_false, reduceCtorEq, ne_eq, not_false_eq_true, not_true_eq_false, and_true, true_and, and_self, or_true, true_or, or_false, false_or, or_self, eq_self, Option.isNone_some, Option.isNone_none, Nat.zero_add, Nat.add_zero, Nat.mul_one, Nat.one_mul, Nat.zero_mul, List.length_cons, List.length_nil, List.getElem?_cons_zero, List.getElem?_cons_succ, List.map_cons, List.map_nil, List.append_nil, -List.reduceReplicate, List.toList_toArray, hr1, hr3, zeroC_len, hl2, ht2, hone]
  refine FnT.pre callee11 (Upd.shareRow (by assumption) fun G14 hle14 hs14 r14 => ?_)
  refine same17_t [0, 1, 2, 3, 0] [0, 1, 2, 3, 0] (by decide) (hsl13.mono hle14) ⟨some ⟨_, 0, none⟩, 5, rfl, r14, by decide⟩ ?_
  rw [decide_eq_true rfl]
  have hsE := hs14
  try simp only [keys_cons, keys_app, keys_nil, Sep_cons, Sep_nil, NotIn_cons, NotIn_app, NotIn_nil, List.cons_append, List.nil_append, List.append_assoc, and_assoc, and_true, true_and] at hsE
  repeat (obtain ⟨hsx, hsE⟩ := hsE)
  repeat' first
    | with_reducible refine Br.yes ?_
    | with_reducible refine Br.no ?_
    | with_reducible refine Br.dec (fun _ => ?_) (fun _ => ?_)
    | with_reducible refine Br.beqB (fun _ => ?_) (fun _ => ?_)
    | with_reducible refine Br.beqb (fun _ => ?_) (fun _ => ?_)
    | with_reducible refine Br.mk (fun _ => ?_) (fun _ => ?_)
    | with_reducible refine foundO.mk (fun _ _ => ?_) (fun _ => ?_)
    | with_reducible refine appV.zero ?_
    | with_reducible refine appV.own ?_
    | ((with_reducible refine NewB.mk fun nb hnb => ?_); have hnb1 := hnb.1.1; have hnb2 := hnb.1.2; try simp only [keys_cons, keys_app, keys_nil, NotIn_cons, NotIn_app, NotIn_nil, and_true] at hnb2)
    | ((with_reducible refine NewRow.mk fun nb nsp ncap hnb hncap => ?_); have hnb1 := hnb.1.1; have hnb2 := hnb.1.2; try simp only [keys_cons, keys_app, keys_nil, NotIn_cons, NotIn_app, NotIn_nil, and_true] at hnb2)
    | simp (dsimp := false) (implicitDefEqProofs := false) (disch := first | assumption | (simp only [List.mem_cons, List.mem_append, true_or, or_true, eq_self]; done) | omega | (with_reducible refine Row.adr (by assumption) ?_; simp only [List.length_map, List.length_take, List.length_drop]; omega) | (simp only [List.length_cons, List.length_nil, List.length_map, List.length_append, List.length_replicate, Nat.reduceAdd, true_and, and_true, and_self]; first | done | omega)) only [go_sem, ↓reduceIte, Nat.reduceEqDiff, Nat.reduceAdd, Nat.reduceSub, Nat.reduceMul, Nat.reduceBEq, Nat.reduceLT, Nat.reduceLeDiff, Nat.reduceMod, Nat.reducePow, List.reduceReplicate, UInt8.reduceOfNat, Int.reducePow, Int.reduceDiv, Int.reduceMod, Nat.reduceDiv, Int.reduceNeg, Int.reduceAdd, Int.reduceSub, Int.reduceMul, Int.reduceLE, Int.reduceLT, Int.reduceEq, Int.reduceToNat, decide_true, decide_false, reduceCtorEq, ne_eq, not_false_eq_true, not_true_eq_false, and_true, true_and, and_self, or_true, true_or, or_false, false_or, or_self, eq_self, Option.isNone_some, Option.isNone_none, Nat.zero_add, Nat.add_zero, Nat.mul_one, Nat.one_mul, Nat.zero_mul, List.length_cons, List.length_nil, List.getElem?_cons_zero, List.getElem?_cons_succ, List.map_cons, List.map_nil, List.append_nil, -List.reduceReplicate, List.toList_toArray, hr1, hr3, zeroC_len, hl2, ht2, hone]
  refine nrounds_t d1_small d1_right d1_last (hI.mono (((((hle9.trans hle10).trans hle11).trans hle12).trans hle13).trans hle14)) fun G15 hle15 hs15 => ?_
  have hsE := hs15
  try simp only [keys_cons, keys_app, keys_nil, Sep_cons, Sep_nil, NotIn_cons, NotIn_app, NotIn_nil, List.cons_append, List.nil_append, List.append_assoc, and_assoc, and_true, true_and] at hsE
  repeat (obtain ⟨hsx, hsE⟩ := hsE)
  repeat' first
    | with_reducible refine Br.yes ?_
    | with_reducible refine Br.no ?_
    | with_reducible refine Br.dec (fun _ => ?_) (fun _ => ?_)
    | with_reducible refine Br.beqB (fun _ => ?_) (fun _ => ?_)
    | with_reducible refine Br.beqb (fun _ => ?_) (fun _ => ?_)
    | with_reducible refine Br.mk (fun _ => ?_) (fun _ => ?_)
    | with_reducible refine foundO.mk (fun _ _ => ?_) (fun _ => ?_)
    | with_reducible refine appV.zero ?_
    | with_reducible refine appV.own ?_
    | ((with_reducible refine NewB.mk fun nb hnb => ?_); have hnb1 := hnb.1.1; have hnb2 := hnb.1.2; try simp only [keys_cons, keys_app, keys_nil, NotIn_cons, NotIn_app, NotIn_nil, and_true] at hnb2)
    | ((with_reducible refine NewRow.mk fun nb nsp ncap hnb hncap => ?_); have hnb1 := hnb.1.1; have hnb2 := hnb.1.2; try simp only [keys_cons, keys_app, keys_nil, NotIn_cons, NotIn_app, NotIn_nil, and_true] at hnb2)
    | simp (dsimp := false) (implicitDefEqProofs := false) (disch := first | assumption | (simp only [List.mem_cons, List.mem_append, true_or, or_true, eq_self]; done) | omega | (with_reducible refine Row.adr (by assumption) ?_; simp only [List.length_map, List.length_take, List.length_drop]; omega) | (simp only [List.length_cons, List.length_nil, List.length_map, List.length_append, List.length_replicate, Nat.reduceAdd, true_and, and_true, and_self]; first | done | omega)) only [go_sem, ↓reduceIte, Nat.reduceEqDiff, Nat.reduceAdd, Nat.reduceSub, Nat.reduceMul, Nat.reduceBEq, Nat.reduceLT, Nat.reduceLeDiff, Nat.reduceMod, Nat.reducePow, List.reduceReplicate, UInt8.reduceOfNat, Int.reducePow, Int.reduceDiv, Int.reduceMod, Nat.reduceDiv, Int.reduceNeg, Int.reduceAdd, Int.reduceSub, Int.reduceMul, Int.reduceLE, Int.reduceLT, Int.reduceEq, Int.reduceToNat, decide_true, decide_false, reduceCtorEq, ne_eq, not_false_eq_true, not_true_eq_false, and_true, true_and, and_self, or_true, true_or, or_false, false_or, or_self, eq_self, Option.isNone_some, Option.isNone_none, Nat.zero_add, Nat.add_zero, Nat.mul_one, Nat.one_mul, Nat.zero_mul, List.length_cons, List.length_nil, List.getElem?_cons_zero, List.getElem?_cons_succ, List.map_cons, List.map_nil, List.append_nil, -List.reduceReplicate, List.toList_toArray, hr1, hr3, zeroC_len, hl2, ht2, hone]
  unfold UpdR
  refine Upd.leave (H' := H) (by intro fsum; first | exact Nat.le_refl _ | (simp only [List.map_append, List.map_cons, List.map_nil, List.sum_append, List.sum_cons, List.sum_nil, List.cons_append, List.nil_append]; omega)) ?_
  rw [show decide (((2 : Nat) : Int) = 2) = true from rfl]
  exact hR G15 ((hE.trans (((((hle9.trans hle10).trans hle11).trans hle12).trans hle13).trans hle14)).trans hle15)
end Go.Proofs.Ytmlmhcejdlljjaa
