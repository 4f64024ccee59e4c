/- Law 35: its example. -/
import Derived.Test.YtomdbjfdbkejoaaYq
import Derived.Test.YtomdbjfdbkejoaaWg
set_option linter.unusedSimpArgs false
set_option linter.unusedVariables false
namespace Go.Proofs.Ytomdbjfdbkejoaa
open Go Go.V Go.Proofs

def d3 : DfaT := ⟨List.replicate 256 0, 1, [[0]], [1], [[120]]⟩
theorem nameX : nameB [120] = true := nameB_iff.2 ⟨by decide, by decide, fun i h => by
  match i, (show i < 1 from h) with
  | 0, _ => exact (by decide : mayN 120 true = true)⟩
theorem d3_right : RightP d3 := by
  refine ⟨by decide, by decide, rfl, by decide +kernel, by decide +kernel, ?_, fun s h1 h2 => ?_⟩
  · refine ⟨by decide, fun i h => ?_⟩
    have h1 : i < 1 := h
    match i, h1 with
    | 0, _ => exact ⟨nameX, (by decide : ¬ ([120] : List UInt8) ∈ ([] : List (List UInt8)))⟩
  have e : ∀ s : Fin 1, ((d3.next[s.val]'s.isLt).length : Int) = d3.width ∧ 0 ≤ d3.label[s.val]'s.isLt ∧ d3.label[s.val]'s.isLt ≤ d3.names.length ∧ ∀ t ∈ d3.next[s.val]'s.isLt, 0 ≤ t ∧ t < d3.label.length := by decide +kernel
  exact e ⟨s, h1⟩
theorem d3_small : SmallD d3 := ⟨by decide, by decide, by decide, by decide, by decide⟩
theorem d3_fit : Fit d3 := ⟨d3_right, List.length_replicate, fun x hx => by
  have : x = 0 := List.eq_of_mem_replicate hx
  omega⟩
theorem d3_len : (layL d3).length = 18 := by
  unfold layL
  rw [List.length_append, beB_len]
  have : (bodyL d3).length = 14 := by decide +kernel
  omega
theorem d3_w : splice zeroC 256 [Value.int .i64 1] = cellsD d3 (.slice none 0 0) (.slice none 0 0) (.slice none 0 0) := by
  have h0 : zeroC = u8L d3.of ++ [Value.int .i64 0, Value.slice none 0 0, Value.slice none 0 0, Value.slice none 0 0] := by
    unfold d3 u8L
    rw [List.map_replicate]
  rw [h0]
  exact build_w (d := d3) List.length_replicate
theorem calleeBytes : V.Callee Try.prog 10 := ⟨_, _, Try.func10, rfl, by kernel_rfl⟩
set_option maxHeartbeats 16000000 in
theorem knows_t {G : PHeap} {H : Heap} {R : Value → PHeap → Heap → Prop} (hR : ∀ G', PLe G G' → Sep G' (keys H) → R (.bool true) G' H) : FnT Try.prog 9 [] G H R := by
  have hd : d3.of.length = 256 := List.length_replicate
  have hr1 : ∀ x : Value, List.replicate 1 x = [x] := fun _ => rfl
  have hl2 : ∀ a b c : Value, (cellsD d3 a b c).length = 260 := fun a b c => cellsD_len hd _ _ _
  have ht2 : ∀ a b c : Value, List.take 260 (cellsD d3 a b c) = cellsD d3 a b c := fun a b c => cellsD_all hd _ _ _
  have hputN : ∀ a b c x : Value, splice (cellsD d3 a b c) 257 [x] = cellsD d3 x b c := fun a b c x => cellsD_putN hd _ _ _ _
  have hputL : ∀ a b c x : Value, splice (cellsD d3 a b c) 258 [x] = cellsD d3 a x c := fun a b c x => cellsD_putL hd _ _ _ _
  have hputS : ∀ a b c x : Value, splice (cellsD d3 a b c) 259 [x] = cellsD d3 a b x := fun a b c x => build_s hd _ _ _ _
  have hputz : ∀ a b c : Value, splice zeroC 0 (cellsD d3 a b c) = cellsD d3 a b c := fun a b c => by
    unfold splice
    rw [List.take_zero, List.nil_append, List.drop_of_length_le (by rw [zeroC_len, hl2]; omega), List.append_nil]
  have hone : ∀ (a : Option Addr) (n c : Nat) (a' : Option Addr) (n' c' : Nat) (a2 : Option Addr) (n2 c2 : Nat), (cellsD d3 (.slice a n c) (.slice a' n' c') (.slice a2 n2 c2)).all oneV = true := fun _ _ _ _ _ _ _ _ _ => cellsD_one rfl rfl rfl
  refine FnT.sep ?_
  refine FnT.body tok [0, 1, 2, 3, 4, 5] Try.func9 rfl (by kernel_rfl) (by kernel_rfl) (by show _ ≤ 45; simp) fun hsep => ?_
  rw [Try.results9]
  have hsE := hsep
  try simp only [keys_cons, keys_app, keys_nil, Sep_cons, Sep_nil, NotIn_cons, NotIn_app, NotIn_nil, List.cons_append, List.nil_append, List.append_assoc, and_assoc, and_true, true_and] at hsE
  repeat (obtain ⟨hsx, hsE⟩ := hsE)
  repeat' first
    | with_reducible refine Br.yes ?_
    | with_reducible refine Br.no ?_
    | with_reducible refine Br.dec (fun _ => ?_) (fun _ => ?_)
    | with_reducible refine Br.beqB (fun _ => ?_) (fun _ => ?_)
    | with_reducible refine Br.beqb (fun _ => ?_) (fun _ => ?_)
    | with_reducible refine Br.mk (fun _ => ?_) (fun _ => ?_)
    | with_reducible refine foundO.mk (fun _ _ => ?_) (fun _ => ?_)
    | with_reducible refine appV.zero ?_
    | with_reducible refine appV.own ?_
    | ((with_reducible refine NewB.mk fun nb hnb => ?_); have hnb1 := hnb.1.1; have hnb2 := hnb.1.2; try simp only [keys_cons, keys_app, keys_nil, NotIn_cons, NotIn_app, NotIn_nil, and_true] at hnb2)
    | ((with_reducible refine NewRow.mk fun nb nsp ncap hnb hncap => ?_); have hnb1 := hnb.1.1; have hnb2 := hnb.1.2; try simp only [keys_cons, keys_app, keys_nil, NotIn_cons, NotIn_app, NotIn_nil, and_true] at hnb2)
    | simp (dsimp := false) (implicitDefEqProofs := false) (disch := first | assumption | (simp only [List.mem_cons, List.mem_append, true_or, or_true, eq_self]; done) | omega | (with_reducible refine Row.adr (by assumption) ?_; simp only [List.length_map, List.length_take, List.length_drop]; omega) | (simp only [List.length_cons, List.length_nil, List.length_map, List.length_append, List.length_replicate, Nat.reduceAdd, true_and, and_true, and_self]; first | done | omega)) only [go_sem, ↓reduceIte, Nat.reduceEqDiff, Nat.reduceAdd, Nat.reduceSub, Nat.reduceMul, Nat.reduceBEq, Nat.reduceLT, Nat.reduceLeDiff, Nat.reduceMod, Nat.reducePow, List.reduceReplicate, UInt8.reduceOfNat, Int.reducePow, Int.reduceDiv, Int.reduceMod, Nat.reduceDiv, Int.reduceNeg, Int.reduceAdd, Int.reduceSub, Int.reduceMul, Int.reduceLE, Int.reduceLT, Int.reduceEq, Int.reduceToNat, reduceCtorEq, -List.reduceReplicate, List.toList_toArray, hr1, zeroC_len, d3_w, hl2, ht2, hputN, hputL, hputS, hputz, hone]
  rename_i c1 y11 y12 y13 c2 y21 y22 y23 c3 y31 y32 y33 c4 y41 y42 y43
  obtain ⟨b1, e0⟩ : ∃ x, x = nb := ⟨_, rfl⟩
  subst e0
  obtain ⟨D, hD⟩ : ∃ D, D = cellsD d3 (.slice (some ⟨c2, 0, none⟩) 1 1) (.slice (some ⟨c3, 0, none⟩) 1 1) (.slice (some ⟨c4, 0, none⟩) 1 1) := ⟨_, rfl⟩
  rw [← hD]
  refine FnT.pre calleeBytes (Upd.go (H' := (c4, .cells [Value.string { data := #[120] }] [] 9) :: (c3, .cells [.int .i64 1] [] 3) :: (c2, .cells [.slice (some ⟨c1, 0, none⟩) 1 1] [] 25) :: (c1, .cells [.int .i64 0] [] 3) :: (b1, .cells D [] 28) :: H) (by intro fsum; first | exact Nat.le_refl _ | (simp only [List.map_append, List.map_cons, List.map_nil, List.sum_append, List.sum_cons, List.sum_nil, List.cons_append, List.nil_append]; omega)) ?_)
  refine Upd.trans (Upd.shareRow (by assumption) fun G1 hle1 hs1 r5 => ?_)
  refine Upd.trans (Upd.shareRow hs1.1.1 fun G2 hle2 hs2 r4 => ?_)
  refine Upd.trans (Upd.shareRow hs2.1.1 fun G3 hle3 hs3 r3 => ?_)
  refine Upd.shareRow hs3.1.1 fun G4 hle4 hs4 r2 => ?_
  have k3 := hle4
  have k2 := hle3.trans k3
  have k1 := hle2.trans k2
  have k0 := hle1.trans k1
  have hI : IsD G4 d3 (.agg D.toArray) := by
    rw [hD]
    refine ⟨hd, fun x hx => ?_, _, _, _, rfl, ⟨some ⟨c2, 0, none⟩, 1, _, rfl, r3.mono k3, rfl, by decide, fun i h h2 => ?_⟩, ⟨some ⟨c3, 0, none⟩, 1, rfl, r4.mono k2, by decide⟩, ⟨some ⟨c4, 0, none⟩, 1, rfl, r5.mono k1, by decide⟩⟩
    · have : x = 0 := List.eq_of_mem_replicate hx
      omega
    · have h3 : i < 1 := h
      match i, h3 with
      | 0, _ => exact ⟨_, _, rfl, r2, Nat.le_refl 1⟩
  have hDl : D.length = 260 := by rw [hD]; exact hl2 _ _ _
  have hD1 := dfa_one hI
  have hDt : List.take 260 D = D := List.take_of_length_le (by omega)
  have hDp := dfa_put hDl
  clear hD
  refine pbytes_t d3_small hI fun G5 v5 hle5 hs5 hsl5 => ?_
  rw [bytesR_ok d3_right] at hsl5 ⊢
  have hsl5 : Sl G5 byteV v5 (layL d3) := hsl5
  have hsl0 := hsl5
  obtain ⟨a5, c5, rfl, hr5, hc5⟩ := hsl5
  rw [d3_len] at *
  have hsE := hs5
  try simp only [keys_cons, keys_app, keys_nil, Sep_cons, Sep_nil, NotIn_cons, NotIn_app, NotIn_nil, List.cons_append, List.nil_append, List.append_assoc, and_assoc, and_true, true_and] at hsE
  repeat (obtain ⟨hsx, hsE⟩ := hsE)
  repeat' first
    | with_reducible refine Br.yes ?_
    | with_reducible refine Br.no ?_
    | with_reducible refine Br.dec (fun _ => ?_) (fun _ => ?_)
    | with_reducible refine Br.beqB (fun _ => ?_) (fun _ => ?_)
    | with_reducible refine Br.beqb (fun _ => ?_) (fun _ => ?_)
    | with_reducible refine Br.mk (fun _ => ?_) (fun _ => ?_)
    | with_reducible refine foundO.mk (fun _ _ => ?_) (fun _ => ?_)
    | with_reducible refine appV.zero ?_
    | with_reducible refine appV.own ?_
    | ((with_reducible refine NewB.mk fun nb hnb => ?_); have hnb1 := hnb.1.1; have hnb2 := hnb.1.2; try simp only [keys_cons, keys_app, keys_nil, NotIn_cons, NotIn_app, NotIn_nil, and_true] at hnb2)
    | ((with_reducible refine NewRow.mk fun nb nsp ncap hnb hncap => ?_); have hnb1 := hnb.1.1; have hnb2 := hnb.1.2; try simp only [keys_cons, keys_app, keys_nil, NotIn_cons, NotIn_app, NotIn_nil, and_true] at hnb2)
    | simp (dsimp := false) (implicitDefEqProofs := false) (disch := first | assumption | (simp only [List.mem_cons, List.mem_append, true_or, or_true, eq_self]; done) | omega | (with_reducible refine Row.adr (by assumption) ?_; simp only [List.length_map, List.length_take, List.length_drop]; omega) | (simp only [List.length_cons, List.length_nil, List.length_map, List.length_append, List.length_replicate, Nat.reduceAdd, true_and, and_true, and_self]; first | done | omega)) only [go_sem, ↓reduceIte, Nat.reduceEqDiff, Nat.reduceAdd, Nat.reduceSub, Nat.reduceMul, Nat.reduceBEq, Nat.reduceLT, Nat.reduceLeDiff, Nat.reduceMod, Nat.reducePow, List.reduceReplicate, UInt8.reduceOfNat, Int.reducePow, Int.reduceDiv, Int.reduceMod, Nat.reduceDiv, Int.reduceNeg, Int.reduceAdd, Int.reduceSub, Int.reduceMul, Int.reduceLE, Int.reduceLT, Int.reduceEq, Int.reduceToNat, reduceCtorEq, -List.reduceReplicate, List.toList_toArray, hDl, hD1, hDt, hDp]
  refine pread_t (by rw [d3_len]; omega) hsl0 fun G6 v6 hle6 hs6 hI6 => ?_
  rw [readR_yes d3_fit] at hI6 ⊢
  have hI6 : IsD G6 d3 v6 := hI6
  obtain ⟨C2, an2, al2, ay2, cn2, cl2, cs2, rs2, rfl, O2⟩ := hI6.opened
  have hC2l := O2.len
  have hone2 := dfa_one O2.is
  have hput2 := dfa_put hC2l
  have htk2 : List.take 260 C2 = C2 := List.take_of_length_le (by omega)
  have hr6 := Row.midB (n := 4) (m := 0) (c := c5) (l := layL d3) (hr5.mono hle6) (by rw [d3_len]; exact hc5) (by rw [d3_len]; omega) (by omega)
  rw [List.drop_zero, (bodyL_pos d3).2.1] at hr6
  have hrd6 := Row.rdSlAll (n := 4) hr6 (by rw [List.length_map]; rfl)
  have hfl : frontL = [68, 66, 76, 49] := rfl
  have hsE := hs6
  try simp only [keys_cons, keys_app, keys_nil, Sep_cons, Sep_nil, NotIn_cons, NotIn_app, NotIn_nil, List.cons_append, List.nil_append, List.append_assoc, and_assoc, and_true, true_and] at hsE
  repeat (obtain ⟨hsx, hsE⟩ := hsE)
  repeat' first
    | with_reducible refine Br.yes ?_
    | with_reducible refine Br.no ?_
    | with_reducible refine Br.dec (fun _ => ?_) (fun _ => ?_)
    | with_reducible refine Br.beqB (fun _ => ?_) (fun _ => ?_)
    | with_reducible refine Br.beqb (fun _ => ?_) (fun _ => ?_)
    | with_reducible refine Br.mk (fun _ => ?_) (fun _ => ?_)
    | with_reducible refine foundO.mk (fun _ _ => ?_) (fun _ => ?_)
    | with_reducible refine appV.zero ?_
    | with_reducible refine appV.own ?_
    | ((with_reducible refine NewB.mk fun nb hnb => ?_); have hnb1 := hnb.1.1; have hnb2 := hnb.1.2; try simp only [keys_cons, keys_app, keys_nil, NotIn_cons, NotIn_app, NotIn_nil, and_true] at hnb2)
    | ((with_reducible refine NewRow.mk fun nb nsp ncap hnb hncap => ?_); have hnb1 := hnb.1.1; have hnb2 := hnb.1.2; try simp only [keys_cons, keys_app, keys_nil, NotIn_cons, NotIn_app, NotIn_nil, and_true] at hnb2)
    | simp (dsimp := false) (implicitDefEqProofs := false) (disch := first | assumption | (simp only [List.mem_cons, List.mem_append, true_or, or_true, eq_self]; done) | omega | (with_reducible refine Row.adr (by assumption) ?_; simp only [List.length_map, List.length_take, List.length_drop]; omega) | (simp only [List.length_cons, List.length_nil, List.length_map, List.length_append, List.length_replicate, Nat.reduceAdd, true_and, and_true, and_self]; first | done | omega)) only [go_sem, ↓reduceIte, Nat.reduceEqDiff, Nat.reduceAdd, Nat.reduceSub, Nat.reduceMul, Nat.reduceBEq, Nat.reduceLT, Nat.reduceLeDiff, Nat.reduceMod, Nat.reducePow, List.reduceReplicate, UInt8.reduceOfNat, Int.reducePow, Int.reduceDiv, Int.reduceMod, Nat.reduceDiv, Int.reduceNeg, Int.reduceAdd, Int.reduceSub, Int.reduceMul, Int.reduceLE, Int.reduceLT, Int.reduceEq, Int.reduceToNat, reduceCtorEq, -List.reduceReplicate, List.toList_toArray, hDl, hD1, hDt, hDp, hC2l, hone2, hput2, htk2, zeroC_len, hrd6, hfl, List.length_map]
    | with_reducible refine dsame_t d3_small O2.is (hI.mono (hle5.trans hle6)) ?_
    | with_reducible refine psum_t (b := []) (Nat.zero_le _) (Sl.nil _ _) ?_
  · unfold UpdR
    refine Upd.leave (H' := H) (by intro fsum; simp only [List.map_append, List.map_cons, List.map_nil, List.sum_append, List.sum_cons, List.sum_nil, List.cons_append, List.nil_append]; omega) ?_
    rw [show decide (((sumL [] : Nat) : Int) = 2166136261) = true from rfl]
    exact fun _ hs => hR G6 (k0.trans (hle5.trans hle6)) hs
  · rename_i h
    rw [boolOf_yes trivial] at h; cases h
  · rename_i h; exact absurd rfl h
end Go.Proofs.Ytomdbjfdbkejoaa
