/- Law 22: its example. -/
import Derived.Test.YtpagkndgjihbbaaVh
set_option linter.unusedSimpArgs false
set_option linter.unusedVariables false
namespace Go.Proofs.Ytpagkndgjihbbaa
open Go Go.V Go.Proofs

def d4 : DfaT := ⟨List.replicate 256 0, 1, [[1], [2], [2]], [0, 2, 1], [[98], [97], [99]]⟩
def d5 : DfaT := ⟨List.replicate 256 0, 1, [[1], [2], [2]], [0, 1, 2], [[97], [98]]⟩
theorem name1 {c : UInt8} (h : mayN c.toNat true = true) : nameB [c] = true := nameB_iff.2 ⟨by show 1 ≤ 1; omega, by show 1 ≤ 32; omega, fun i hi => by
  match i, (show i < 1 from hi) with
  | 0, _ => exact h⟩
theorem d4_right : RightP d4 := by
  refine ⟨by decide, by decide, rfl, by decide +kernel, by decide +kernel, ?_, fun s h1 h2 => ?_⟩
  · refine ⟨by decide, fun i h => ?_⟩
    have h1 : i < 3 := h
    match i, h1 with
    | 0, _ => exact ⟨name1 (by decide), (by decide : ¬ ([98] : List UInt8) ∈ ([] : List (List UInt8)))⟩
    | 1, _ => exact ⟨name1 (by decide), (by decide : ¬ ([97] : List UInt8) ∈ ([[98]] : List (List UInt8)))⟩
    | 2, _ => exact ⟨name1 (by decide), (by decide : ¬ ([99] : List UInt8) ∈ ([[98], [97]] : List (List UInt8)))⟩
  have e : ∀ s : Fin 3, ((d4.next[s.val]'s.isLt).length : Int) = d4.width ∧ 0 ≤ d4.label[s.val]'s.isLt ∧ d4.label[s.val]'s.isLt ≤ d4.names.length ∧ ∀ t ∈ d4.next[s.val]'s.isLt, 0 ≤ t ∧ t < d4.label.length := by decide +kernel
  exact e ⟨s, h1⟩
theorem d5_right : RightP d5 := by
  refine ⟨by decide, by decide, rfl, by decide +kernel, by decide +kernel, ?_, fun s h1 h2 => ?_⟩
  · refine ⟨by decide, fun i h => ?_⟩
    have h1 : i < 2 := h
    match i, h1 with
    | 0, _ => exact ⟨name1 (by decide), (by decide : ¬ ([97] : List UInt8) ∈ ([] : List (List UInt8)))⟩
    | 1, _ => exact ⟨name1 (by decide), (by decide : ¬ ([98] : List UInt8) ∈ ([[97]] : List (List UInt8)))⟩
  have e : ∀ s : Fin 3, ((d5.next[s.val]'s.isLt).length : Int) = d5.width ∧ 0 ≤ d5.label[s.val]'s.isLt ∧ d5.label[s.val]'s.isLt ≤ d5.names.length ∧ ∀ t ∈ d5.next[s.val]'s.isLt, 0 ≤ t ∧ t < d5.label.length := by decide +kernel
  exact e ⟨s, h1⟩
theorem d4_small : SmallD d4 := ⟨by decide, by decide, by decide, by decide, by decide⟩
theorem d5_small : SmallD d5 := ⟨by decide, by decide, by decide, by decide, by decide⟩
theorem d4_used : usedS d4 = [[97], [98]] := by
  unfold usedS
  rw [show usedN d4 d4.names.length = [[98], [97]] by decide +kernel]
  refine rising_eq (sortS_rising (by decide)) ?_ fun x => ?_
  · exact List.pairwise_cons.2 ⟨fun y hy => by
      rw [List.mem_singleton] at hy
      subst hy
      decide, List.pairwise_singleton _ _⟩
  · rw [mem_sortS]
    simp only [List.mem_cons, List.not_mem_nil, or_false]
    exact Or.comm
theorem d4_norm : normR d4 = (d5, 0) := by
  unfold normR
  have h : namesOk [[97], [98]] := d5_right.2.2.2.2.2.1
  rw [usedR_ok d4_right, d4_used, namesR_ok d4_right h fun s hs => by rw [d4_used] at hs; exact hs]
  rfl
theorem d5_tell : tellB d5 [122] = 1 := by
  unfold tellB; rw [if_pos (boolOf_yes d5_right)]; decide +kernel
theorem d5_name : nameD d5 (tellB d5 [122]) = [97] := by rw [d5_tell]; decide
theorem d4_w : splice zeroC 256 [Value.int .i64 1] = cellsD d4 (.slice none 0 0) (.slice none 0 0) (.slice none 0 0) := by
  have h0 : zeroC = u8L d4.of ++ [Value.int .i64 0, Value.slice none 0 0, Value.slice none 0 0, Value.slice none 0 0] := by
    unfold d4 u8L
    rw [List.map_replicate]
  rw [h0]
  exact build_w (d := d4) List.length_replicate
theorem calleeNorm22 : V.Callee Try.prog 16 := ⟨_, _, Try.func16, rfl, by kernel_rfl⟩
theorem calleeName22 : V.Callee Try.prog 23 := ⟨_, _, Try.func23, rfl, by kernel_rfl⟩
set_option maxHeartbeats 16000000 in
theorem knows_t {G : PHeap} {H : Heap} {R : Value → PHeap → Heap → Prop} (hR : ∀ G', PLe G G' → Sep G' (keys H) → R (.bool true) G' H) : FnT Try.prog 12 [] G H R := by
  have hd : d4.of.length = 256 := List.length_replicate
  have hr1 : ∀ x : Value, List.replicate 1 x = [x] := fun _ => rfl
  have hr3 : ∀ x : Value, List.replicate 3 x = [x, x, x] := fun _ => rfl
  have hl2 : ∀ a b c : Value, (cellsD d4 a b c).length = 260 := fun a b c => cellsD_len hd _ _ _
  have ht2 : ∀ a b c : Value, List.take 260 (cellsD d4 a b c) = cellsD d4 a b c := fun a b c => cellsD_all hd _ _ _
  have hputN : ∀ a b c x : Value, splice (cellsD d4 a b c) 257 [x] = cellsD d4 x b c := fun a b c x => cellsD_putN hd _ _ _ _
  have hputL : ∀ a b c x : Value, splice (cellsD d4 a b c) 258 [x] = cellsD d4 a x c := fun a b c x => cellsD_putL hd _ _ _ _
  have hputS : ∀ a b c x : Value, splice (cellsD d4 a b c) 259 [x] = cellsD d4 a b x := fun a b c x => build_s hd _ _ _ _
  have hputz : ∀ a b c : Value, splice zeroC 0 (cellsD d4 a b c) = cellsD d4 a b c := fun a b c => by
    unfold splice
    rw [List.take_zero, List.nil_append, List.drop_of_length_le (by rw [zeroC_len, hl2]; omega), List.append_nil]
  have hone : ∀ (a : Option Addr) (n c : Nat) (a' : Option Addr) (n' c' : Nat) (a2 : Option Addr) (n2 c2 : Nat), (cellsD d4 (.slice a n c) (.slice a' n' c') (.slice a2 n2 c2)).all oneV = true := fun _ _ _ _ _ _ _ _ _ => cellsD_one rfl rfl rfl
  refine FnT.sep ?_
  refine FnT.body tok [0, 1, 2, 3] Try.func12 rfl (by kernel_rfl) (by kernel_rfl) (by show _ ≤ 51; simp) fun hsep => ?_
  rw [Try.results12]
  have hsE := hsep
  try simp only [keys_cons, keys_app, keys_nil, Sep_cons, Sep_nil, NotIn_cons, NotIn_app, NotIn_nil, List.cons_append, List.nil_append, List.append_assoc, and_assoc, and_true, true_and] at hsE
  repeat (obtain ⟨hsx, hsE⟩ := hsE)
  repeat' first
    | with_reducible refine Br.yes ?_
    | with_reducible refine Br.no ?_
    | with_reducible refine Br.dec (fun _ => ?_) (fun _ => ?_)
    | with_reducible refine Br.beqB (fun _ => ?_) (fun _ => ?_)
    | with_reducible refine Br.beqb (fun _ => ?_) (fun _ => ?_)
    | with_reducible refine Br.mk (fun _ => ?_) (fun _ => ?_)
    | with_reducible refine foundO.mk (fun _ _ => ?_) (fun _ => ?_)
    | with_reducible refine appV.zero ?_
    | with_reducible refine appV.own ?_
    | ((with_reducible refine NewB.mk fun nb hnb => ?_); have hnb1 := hnb.1.1; have hnb2 := hnb.1.2; try simp only [keys_cons, keys_app, keys_nil, NotIn_cons, NotIn_app, NotIn_nil, and_true] at hnb2)
    | ((with_reducible refine NewRow.mk fun nb nsp ncap hnb hncap => ?_); have hnb1 := hnb.1.1; have hnb2 := hnb.1.2; try simp only [keys_cons, keys_app, keys_nil, NotIn_cons, NotIn_app, NotIn_nil, and_true] at hnb2)
    | simp (dsimp := false) (implicitDefEqProofs := false) (disch := first | assumption | (simp only [List.mem_cons, List.mem_append, true_or, or_true, eq_self]; done) | omega | (with_reducible refine Row.adr (by assumption) ?_; simp only [List.length_map, List.length_take, List.length_drop]; omega) | (simp only [List.length_cons, List.length_nil, List.length_map, List.length_append, List.length_replicate, Nat.reduceAdd, true_and, and_true, and_self]; first | done | omega)) only [go_sem, ↓reduceIte, Nat.reduceEqDiff, Nat.reduceAdd, Nat.reduceSub, Nat.reduceMul, Nat.reduceBEq, Nat.reduceLT, Nat.reduceLeDiff, Nat.reduceMod, Nat.reducePow, List.reduceReplicate, UInt8.reduceOfNat, Int.reducePow, Int.reduceDiv, Int.reduceMod, Nat.reduceDiv, Int.reduceNeg, Int.reduceAdd, Int.reduceSub, Int.reduceMul, Int.reduceLE, Int.reduceLT, Int.reduceEq, Int.reduceToNat, reduceCtorEq, -List.reduceReplicate, List.toList_toArray, hr1, hr3, zeroC_len, d4_w, hl2, ht2, hputN, hputL, hputS, hputz, hone]
  rename_i c1 y11 y12 y13 c2 y21 y22 y23 c3 y31 y32 y33 c4 y41 y42 y43 c5 y51 y52 y53 c6 y61 y62 y63
  obtain ⟨b1, e0⟩ : ∃ x, x = nb := ⟨_, rfl⟩
  subst e0
  obtain ⟨D, hD⟩ : ∃ D, D = cellsD d4 (.slice (some ⟨c4, 0, none⟩) 3 3) (.slice (some ⟨c5, 0, none⟩) 3 3) (.slice (some ⟨c6, 0, none⟩) 3 3) := ⟨_, rfl⟩
  rw [← hD]
  refine FnT.pre calleeNorm22 (Upd.go (H' := (c6, .cells [.string ⟨#[98]⟩, .string ⟨#[97]⟩, .string ⟨#[99]⟩] [] 9) :: (c5, .cells [.int .i64 0, .int .i64 2, .int .i64 1] [] 3) :: (c4, .cells [.slice (some ⟨c1, 0, none⟩) 1 1, .slice (some ⟨c2, 0, none⟩) 1 1, .slice (some ⟨c3, 0, none⟩) 1 1] [] 24) :: (c3, .cells [.int .i64 2] [] 3) :: (c2, .cells [.int .i64 2] [] 3) :: (c1, .cells [.int .i64 1] [] 3) :: (b1, .cells D [] 27) :: H) (by intro fsum; first | exact Nat.le_refl _ | (simp only [List.map_append, List.map_cons, List.map_nil, List.sum_append, List.sum_cons, List.sum_nil, List.cons_append, List.nil_append]; omega)) ?_)
  refine Upd.trans (Upd.shareRow (by assumption) fun G1 hle1 hs1 r6 => ?_)
  refine Upd.trans (Upd.shareRow hs1.1.1 fun G2 hle2 hs2 r5 => ?_)
  refine Upd.trans (Upd.shareRow hs2.1.1 fun G3 hle3 hs3 r4 => ?_)
  refine Upd.trans (Upd.shareRow hs3.1.1 fun G4 hle4 hs4 r3 => ?_)
  refine Upd.trans (Upd.shareRow hs4.1.1 fun G5 hle5 hs5 r2 => ?_)
  refine Upd.shareRow hs5.1.1 fun G6 hle6 hs6 r1 => ?_
  have k5 := hle6
  have k4 := hle5.trans k5
  have k3 := hle4.trans k4
  have k2 := hle3.trans k3
  have k1 := hle2.trans k2
  have k0 := hle1.trans k1
  have hI : IsD G6 d4 (.agg D.toArray) := by
    rw [hD]
    refine ⟨hd, fun x hx => ?_, _, _, _, rfl, ⟨some ⟨c4, 0, none⟩, 3, _, rfl, r4.mono k3, rfl, Nat.le_refl 3, fun i h h2 => ?_⟩, ⟨some ⟨c5, 0, none⟩, 3, rfl, r5.mono k2, Nat.le_refl 3⟩, ⟨some ⟨c6, 0, none⟩, 3, rfl, r6.mono k1, Nat.le_refl 3⟩⟩
    · have : x = 0 := List.eq_of_mem_replicate hx
      omega
    · have h3 : i < 3 := h
      match i, h3 with
      | 0, _ => exact ⟨_, _, rfl, r1, Nat.le_refl 1⟩
      | 1, _ => exact ⟨_, _, rfl, r2.mono k5, Nat.le_refl 1⟩
      | 2, _ => exact ⟨_, _, rfl, r3.mono k4, Nat.le_refl 1⟩
  have hDl : D.length = 260 := by rw [hD]; exact hl2 _ _ _
  clear hD
  refine lnorm_t d4_small hI fun G7 v7 hle7 hs7 hI7 => ?_
  rw [d4_norm] at hI7 ⊢
  have hI7 : IsD G7 d5 v7 := hI7
  obtain ⟨C2, an2, al2, ay2, cn2, cl2, cs2, rs2, rfl, O2⟩ := hI7.opened
  have hC2l := O2.len
  have hC2x := O2.l
  have hC2s := O2.s
  have hone2 := wdf_one O2.is
  have hput2 := wdf_put hC2l
  have htk2 : List.take 260 C2 = C2 := List.take_of_length_le (by omega)
  have hadl : Adr al2 := O2.rl.adr (by show 0 < 3; omega)
  have hady : Adr ay2 := O2.ry.adr (by show 0 < 2; omega)
  have hz1 : d5.names.length = 2 := rfl
  have hz2 : d5.label.length = 3 := rfl
  have hz3 : d5.names[0] = [97] := rfl
  have hz4 : d5.label[2] = 2 := rfl
  have ho0 : ∀ (H : Heap) (k : Value → Prop), objK G7 H (blk ay2) (G7 (blk ay2)) (ofs ay2) k = k (str [97]) := fun H k => Row.obj O2.ry (i := 0) (by show 0 < 2; omega) H k
  have ho2 : ∀ (H : Heap) (k : Value → Prop), objK G7 H (blk al2) (G7 (blk al2)) (ofs al2 + 2) k = k (.int .i64 2) := fun H k => Row.obj O2.rl (i := 2) (by show 2 < 3; omega) H k
  have hsE := hs7
  try simp only [keys_cons, keys_app, keys_nil, Sep_cons, Sep_nil, NotIn_cons, NotIn_app, NotIn_nil, List.cons_append, List.nil_append, List.append_assoc, and_assoc, and_true, true_and] at hsE
  repeat (obtain ⟨hsx, hsE⟩ := hsE)
  repeat' first
    | with_reducible refine Br.yes ?_
    | with_reducible refine Br.no ?_
    | with_reducible refine Br.dec (fun _ => ?_) (fun _ => ?_)
    | with_reducible refine Br.beqB (fun _ => ?_) (fun _ => ?_)
    | with_reducible refine Br.beqb (fun _ => ?_) (fun _ => ?_)
    | with_reducible refine Br.mk (fun _ => ?_) (fun _ => ?_)
    | with_reducible refine foundO.mk (fun _ _ => ?_) (fun _ => ?_)
    | with_reducible refine appV.zero ?_
    | with_reducible refine appV.own ?_
    | ((with_reducible refine NewB.mk fun nb hnb => ?_); have hnb1 := hnb.1.1; have hnb2 := hnb.1.2; try simp only [keys_cons, keys_app, keys_nil, NotIn_cons, NotIn_app, NotIn_nil, and_true] at hnb2)
    | ((with_reducible refine NewRow.mk fun nb nsp ncap hnb hncap => ?_); have hnb1 := hnb.1.1; have hnb2 := hnb.1.2; try simp only [keys_cons, keys_app, keys_nil, NotIn_cons, NotIn_app, NotIn_nil, and_true] at hnb2)
    | simp (dsimp := false) (implicitDefEqProofs := false) (disch := first | assumption | (simp only [List.mem_cons, List.mem_append, true_or, or_true, eq_self]; done) | omega | (with_reducible refine Row.adr (by assumption) ?_; simp only [List.length_map, List.length_take, List.length_drop]; omega) | (simp only [List.length_cons, List.length_nil, List.length_map, List.length_append, List.length_replicate, Nat.reduceAdd, true_and, and_true, and_self]; first | done | omega)) only [go_sem, ↓reduceIte, Nat.reduceEqDiff, Nat.reduceAdd, Nat.reduceSub, Nat.reduceMul, Nat.reduceBEq, Nat.reduceLT, Nat.reduceLeDiff, Nat.reduceMod, Nat.reducePow, List.reduceReplicate, UInt8.reduceOfNat, Int.reducePow, Int.reduceDiv, Int.reduceMod, Nat.reduceDiv, Int.reduceNeg, Int.reduceAdd, Int.reduceSub, Int.reduceMul, Int.reduceLE, Int.reduceLT, Int.reduceEq, Int.reduceToNat, reduceCtorEq, -List.reduceReplicate, List.toList_toArray, hr1, hDl, hC2l, hC2x, hC2s, hone2, hput2, htk2, zeroC_len, hz1, hz2, ho0, ho2]
  rotate_left
  · rename_i h; exact absurd rfl h
  obtain ⟨b9, e0⟩ : ∃ x, x = nb := ⟨_, rfl⟩
  subst e0
  refine FnT.pre calleeName22 (Upd.shareRow (by assumption) fun G8 hle8 hs8 r8 => ?_)
  refine dname_t d5_small (w := [122]) (by decide) (O2.is.mono hle8) ⟨_, 1, rfl, r8, by decide⟩ ?_
  rw [d5_name]
  have hsE := hs8
  try simp only [keys_cons, keys_app, keys_nil, Sep_cons, Sep_nil, NotIn_cons, NotIn_app, NotIn_nil, List.cons_append, List.nil_append, List.append_assoc, and_assoc, and_true, true_and] at hsE
  repeat (obtain ⟨hsx, hsE⟩ := hsE)
  repeat' first
    | with_reducible refine Br.yes ?_
    | with_reducible refine Br.no ?_
    | with_reducible refine Br.dec (fun _ => ?_) (fun _ => ?_)
    | with_reducible refine Br.beqB (fun _ => ?_) (fun _ => ?_)
    | with_reducible refine Br.beqb (fun _ => ?_) (fun _ => ?_)
    | with_reducible refine Br.mk (fun _ => ?_) (fun _ => ?_)
    | with_reducible refine foundO.mk (fun _ _ => ?_) (fun _ => ?_)
    | with_reducible refine appV.zero ?_
    | with_reducible refine appV.own ?_
    | ((with_reducible refine NewB.mk fun nb hnb => ?_); have hnb1 := hnb.1.1; have hnb2 := hnb.1.2; try simp only [keys_cons, keys_app, keys_nil, NotIn_cons, NotIn_app, NotIn_nil, and_true] at hnb2)
    | ((with_reducible refine NewRow.mk fun nb nsp ncap hnb hncap => ?_); have hnb1 := hnb.1.1; have hnb2 := hnb.1.2; try simp only [keys_cons, keys_app, keys_nil, NotIn_cons, NotIn_app, NotIn_nil, and_true] at hnb2)
    | simp (dsimp := false) (implicitDefEqProofs := false) (disch := first | assumption | (simp only [List.mem_cons, List.mem_append, true_or, or_true, eq_self]; done) | omega | (with_reducible refine Row.adr (by assumption) ?_; simp only [List.length_map, List.length_take, List.length_drop]; omega) | (simp only [List.length_cons, List.length_nil, List.length_map, List.length_append, List.length_replicate, Nat.reduceAdd, true_and, and_true, and_self]; first | done | omega)) only [go_sem, ↓reduceIte, Nat.reduceEqDiff, Nat.reduceAdd, Nat.reduceSub, Nat.reduceMul, Nat.reduceBEq, Nat.reduceLT, Nat.reduceLeDiff, Nat.reduceMod, Nat.reducePow, List.reduceReplicate, UInt8.reduceOfNat, Int.reducePow, Int.reduceDiv, Int.reduceMod, Nat.reduceDiv, Int.reduceNeg, Int.reduceAdd, Int.reduceSub, Int.reduceMul, Int.reduceLE, Int.reduceLT, Int.reduceEq, Int.reduceToNat, reduceCtorEq, -List.reduceReplicate, List.toList_toArray, hr1, hDl, hC2l]
  · unfold UpdR
    refine Upd.leave (H' := H) (by intro fsum; simp only [List.map_append, List.map_cons, List.map_nil, List.sum_append, List.sum_cons, List.sum_nil, List.cons_append, List.nil_append]; omega) ?_
    exact fun _ hs => hR G8 (k0.trans (hle7.trans hle8)) hs
end Go.Proofs.Ytpagkndgjihbbaa
