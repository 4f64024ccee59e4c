/- Law 23: its example. -/
import Derived.Test.YtmnmihfinmcljaaDoorSs
set_option linter.unusedSimpArgs false
set_option linter.unusedVariables false
namespace Go.Proofs.YtmnmihfinmcljaaDoor
open Go Go.V Go.Proofs

theorem of2_t {d : DfaT} (hsm : SmallD d) {m : List Int} (hml : m.length ≤ 2000000) {G : PHeap} {H : Heap} {R : Value → PHeap → Heap → Prop} {v w : Value} (hv : IsD G d v) (hw : Sl G (Value.int .i64) w m)
    (hR : ∀ G' v', PLe G G' → Sep G' (keys H) → IsD G' (ofR d m).1 v' → R (.tuple #[v', .int .i64 (ofR d m).2]) G' H) : FnT Tryd.prog 14 [v, w] G H R := by
  by_cases h : StableP d m
  · rw [ofR_ok h] at hR
    exact of_t hsm h hv hw hR
  · exact of_bad_t hsm hml h hv hw hR
theorem OpenD.one {G : PHeap} {d : DfaT} {C : List Value} {an al ay : Option Addr} {cn cl cs : Nat} {rs : List Value} (h : OpenD G d C an al ay cn cl cs rs) : C.all oneV = true := by
  obtain ⟨_, _, vn, vl, vs, e, ⟨_, _, _, rfl, _⟩, ⟨_, _, rfl, _⟩, ⟨_, _, rfl, _⟩⟩ := h.is
  have e1 := congrArg Array.toList (Value.agg.inj e)
  rw [List.toList_toArray, List.toList_toArray] at e1
  rw [e1]
  exact cellsD_one rfl rfl rfl
theorem OpenD.putz {G : PHeap} {d : DfaT} {C : List Value} {an al ay : Option Addr} {cn cl cs : Nat} {rs : List Value} (h : OpenD G d C an al ay cn cl cs rs) : splice zeroC 0 C = C := by
  unfold splice
  rw [List.take_zero, List.nil_append, List.drop_of_length_le (by rw [zeroC_len, h.len]; omega), List.append_nil]
def d0 : DfaT := ⟨List.replicate 256 0, 1, [[1], [2], [1]], [0, 0, 0], []⟩
theorem d0_right : RightP d0 := by
  refine ⟨by decide, by decide, rfl, by decide +kernel, by decide +kernel, ⟨by decide, fun i h => by cases h⟩, fun s h1 h2 => ?_⟩
  have e : ∀ s : Fin 3, ((d0.next[s.val]'s.isLt).length : Int) = d0.width ∧ 0 ≤ d0.label[s.val]'s.isLt ∧ d0.label[s.val]'s.isLt ≤ d0.names.length ∧ ∀ t ∈ d0.next[s.val]'s.isLt, 0 ≤ t ∧ t < d0.label.length := by decide +kernel
  exact e ⟨s, h1⟩
theorem d0_small : SmallD d0 := ⟨by decide, by decide, by decide, by decide, by decide⟩
theorem d0_stable : StableP d0 [4, 4, 4] := by
  refine ⟨d0_right, rfl, fun s t hs h1 h2 h3 h4 hp => ?_⟩
  have h1' : s < 3 := h1
  have h2' : t < 3 := h2
  have e : ∀ s t : Fin 3, d0.label[s.val]'s.isLt = d0.label[t.val]'t.isLt ∧ ∃ h : (d0.next[s.val]'s.isLt).length = (d0.next[t.val]'t.isLt).length, ∀ k (hk : k < (d0.next[s.val]'s.isLt).length), atL (nums [4, 4, 4]) (d0.next[s.val]'s.isLt)[k] = atL (nums [4, 4, 4]) ((d0.next[t.val]'t.isLt)[k]'(h ▸ hk)) := by
    decide +kernel
  exact e ⟨s, h1'⟩ ⟨t, h2'⟩
theorem d0_of : ofD d0 [4, 4, 4] = ⟨List.replicate 256 0, 1, [[0]], [0], []⟩ := by
  have h1 : (ofD d0 [4, 4, 4]).next = [[0]] := by decide +kernel
  have h2 : (ofD d0 [4, 4, 4]).label = [0] := by decide +kernel
  show DfaT.mk _ _ (ofD d0 [4, 4, 4]).next (ofD d0 [4, 4, 4]).label _ = _
  rw [h1, h2]; rfl
theorem d0_w : splice zeroC 256 [Value.int .i64 1] = cellsD d0 (.slice none 0 0) (.slice none 0 0) (.slice none 0 0) := by
  have h0 : zeroC = u8L d0.of ++ [Value.int .i64 0, Value.slice none 0 0, Value.slice none 0 0, Value.slice none 0 0] := by
    unfold d0 u8L
    rw [List.map_replicate]
  rw [h0]
  exact build_w (d := d0) List.length_replicate
theorem callee6 : V.Callee Tryd.prog 14 := ⟨_, _, Tryd.func14, rfl, by kernel_rfl⟩
theorem callee12 : V.Callee Tryd.prog 18 := ⟨_, _, Tryd.func18, rfl, by kernel_rfl⟩
theorem callee11 : V.Callee Tryd.prog 17 := ⟨_, _, Tryd.func17, rfl, by kernel_rfl⟩
set_option maxHeartbeats 16000000 in
theorem knows_t {G : PHeap} {H : Heap} {R : Value → PHeap → Heap → Prop} (hR : ∀ G', PLe G G' → R (.bool true) G' H) : FnT Tryd.prog 5 [] G H R := by
  have hd : d0.of.length = 256 := List.length_replicate
  have hl2 : ∀ a b c : Value, (cellsD d0 a b c).length = 260 := fun a b c => cellsD_len hd _ _ _
  have ht2 : ∀ a b c : Value, List.take 260 (cellsD d0 a b c) = cellsD d0 a b c := fun a b c => cellsD_all hd _ _ _
  have hputN : ∀ a b c x : Value, splice (cellsD d0 a b c) 257 [x] = cellsD d0 x b c := fun a b c x => cellsD_putN hd _ _ _ _
  have hputL : ∀ a b c x : Value, splice (cellsD d0 a b c) 258 [x] = cellsD d0 a x c := fun a b c x => cellsD_putL hd _ _ _ _
  have hputz : ∀ a b c : Value, splice zeroC 0 (cellsD d0 a b c) = cellsD d0 a b c := fun a b c => by
    unfold splice
    rw [List.take_zero, List.nil_append, List.drop_of_length_le (by rw [zeroC_len, hl2]; omega), List.append_nil]
  have hone : ∀ (a : Option Addr) (n c : Nat) (a' : Option Addr) (n' c' : Nat), (cellsD d0 (.slice a n c) (.slice a' n' c') (.slice none 0 0)).all oneV = true := fun _ _ _ _ _ _ => cellsD_one rfl rfl rfl
  have hr1 : ∀ x : Value, List.replicate 1 x = [x] := fun _ => rfl
  have hr3 : ∀ x : Value, List.replicate 3 x = [x, x, x] := fun _ => rfl
  refine FnT.body tok [0, 1, 2, 3] Tryd.func5 rfl (by kernel_rfl) (by kernel_rfl) (by show _ ≤ 39; simp) fun hsep => ?_
  rw [Tryd.results5]
  have hsE := hsep
  try simp only [keys_cons, keys_app, keys_nil, Sep_cons, Sep_nil, NotIn_cons, NotIn_app, NotIn_nil, List.cons_append, List.nil_append, List.append_assoc, and_assoc, and_true, true_and] at hsE
  repeat (obtain ⟨hsx, hsE⟩ := hsE)
  repeat' first
    | with_reducible refine Br.yes ?_
    | with_reducible refine Br.no ?_
    | with_reducible refine Br.dec (fun _ => ?_) (fun _ => ?_)
    | with_reducible refine Br.beqB (fun _ => ?_) (fun _ => ?_)
    | with_reducible refine Br.beqb (fun _ => ?_) (fun _ => ?_)
    | with_reducible refine Br.mk (fun _ => ?_) (fun _ => ?_)
    | with_reducible refine foundO.mk (fun _ _ => ?_) (fun _ => ?_)
    | with_reducible refine appV.zero ?_
    | with_reducible refine appV.own ?_
    | ((with_reducible refine NewB.mk fun nb hnb => ?_); have hnb1 := hnb.1.1; have hnb2 := hnb.1.2; try simp only [keys_cons, keys_app, keys_nil, NotIn_cons, NotIn_app, NotIn_nil, and_true] at hnb2)
    | ((with_reducible refine NewRow.mk fun nb nsp ncap hnb hncap => ?_); have hnb1 := hnb.1.1; have hnb2 := hnb.1.2; try simp only [keys_cons, keys_app, keys_nil, NotIn_cons, NotIn_app, NotIn_nil, and_true] at hnb2)
    | simp (dsimp := false) (implicitDefEqProofs := false) (disch := first | assumption | (simp only [List.mem_cons, List.mem_append, true_or, or_true, eq_self]; done) | omega | (with_reducible refine Row.adr (by assumption) ?_; simp only [List.length_map, List.length_take, List.length_drop]; omega) | (simp only [List.length_cons, List.length_nil, List.length_map, List.length_append, List.length_replicate, Nat.reduceAdd, true_and, and_true, and_self]; first | done | omega)) only [go_sem, ↓reduceIte, Nat.reduceEqDiff, Nat.reduceAdd, Nat.reduceSub, Nat.reduceMul, Nat.reduceBEq, Nat.reduceLT, Nat.reduceLeDiff, Nat.reduceMod, Nat.reducePow, List.reduceReplicate, UInt8.reduceOfNat, Int.reducePow, Int.reduceDiv, Int.reduceMod, Nat.reduceDiv, Int.reduceNeg, Int.reduceAdd, Int.reduceSub, Int.reduceMul, Int.reduceLE, Int.reduceLT, Int.reduceEq, Int.reduceToNat, reduceCtorEq, -List.reduceReplicate, List.toList_toArray, hr1, hr3, zeroC_len, d0_w, hl2, ht2, hputN, hputL, hputz, hone]
  rename_i b4 y1 y2 y3 b5 y4 y5 y6 b6 y7 y8 y9 b7 z1 z2 z3 b8 z4 z5 z6 bd z7 z8 z9
  refine FnT.pre callee6 ?_
  refine Upd.go (H' := (nb, .cells [.int .i64 4, .int .i64 4, .int .i64 4] [] 3) :: (b8, .cells [.int .i64 0, .int .i64 0, .int .i64 0] [] 3) :: (b7, .cells [.slice (some ⟨b4, 0, none⟩) 1 1, .slice (some ⟨b5, 0, none⟩) 1 1, .slice (some ⟨b6, 0, none⟩) 1 1] [] 24) :: (b6, .cells [.int .i64 1] [] 3) :: (b5, .cells [.int .i64 2] [] 3) :: (b4, .cells [.int .i64 1] [] 3) :: H) (by intro fsum; first | exact Nat.le_refl _ | (simp only [List.map_append, List.map_cons, List.map_nil, List.sum_append, List.sum_cons, List.sum_nil, List.cons_append, List.nil_append]; omega)) ?_
  refine Upd.trans (Upd.shareRow (by assumption) fun G1 hle1 hs1 r12 => ?_)
  refine Upd.trans (Upd.shareRow hs1.1.1 fun G2 hle2 hs2 r8 => ?_)
  refine Upd.trans (Upd.shareRow hs2.1.1 fun G3 hle3 hs3 r7 => ?_)
  refine Upd.trans (Upd.shareRow hs3.1.1 fun G4 hle4 hs4 r6 => ?_)
  refine Upd.trans (Upd.shareRow hs4.1.1 fun G5 hle5 hs5 r5 => ?_)
  refine Upd.shareRow hs5.1.1 fun G6 hle6 hs6 r4 => ?_
  refine of2_t d0_small (m := [4, 4, 4]) (by decide) ?_ ⟨some ⟨nb, 0, none⟩, 3, rfl, r12.mono ((((hle2.trans hle3).trans hle4).trans hle5).trans hle6), by decide⟩ fun G7 v7 hle7 hs7 hD => ?_
  · refine ⟨hd, fun x hx => ?_, _, _, _, rfl, ⟨some ⟨b7, 0, none⟩, 3, _, rfl, r7.mono ((hle4.trans hle5).trans hle6), rfl, by decide, fun i h h2 => ?_⟩, ⟨some ⟨b8, 0, none⟩, 3, rfl, r8.mono (((hle3.trans hle4).trans hle5).trans hle6), by decide⟩, Sl.nil _ _⟩
    · have : x = 0 := List.eq_of_mem_replicate hx
      omega
    · have h3 : i < 3 := h
      match i, h3 with
      | 0, _ => exact ⟨_, _, rfl, r4, Nat.le_refl 1⟩
      | 1, _ => exact ⟨_, _, rfl, r5.mono hle6, Nat.le_refl 1⟩
      | 2, _ => exact ⟨_, _, rfl, r6.mono (hle5.trans hle6), Nat.le_refl 1⟩
  rw [ofR_ok d0_stable] at hD ⊢
  simp only [d0_of] at hD
  obtain ⟨C, an, al, ay, cn, cl, cs, rs, rfl, O⟩ := hD.opened
  have hCl := O.len
  have hCn := O.n
  have hCx := O.l
  have hCa := O.all
  have hC1 := O.one
  have hCz := O.putz
  have hrl : rs.length = 1 := O.rnl
  obtain ⟨b, c, e1, e2, e3⟩ := O.rs 0 (by decide) (by omega)
  have e1 : rs[0]'(by omega) = .slice b 1 c := e1
  have e2 : Row G7 b [Value.int .i64 0] := e2
  have hrn := O.rn
  simp only [List.length_cons, List.length_nil] at hCn hCx
  have had : Adr an := hrn.adr (by omega)
  have had2 : Adr b := e2.adr (by decide)
  repeat' first
    | with_reducible refine Br.yes ?_
    | with_reducible refine Br.no ?_
    | with_reducible refine Br.dec (fun _ => ?_) (fun _ => ?_)
    | with_reducible refine Br.beqB (fun _ => ?_) (fun _ => ?_)
    | with_reducible refine Br.beqb (fun _ => ?_) (fun _ => ?_)
    | with_reducible refine Br.mk (fun _ => ?_) (fun _ => ?_)
    | with_reducible refine foundO.mk (fun _ _ => ?_) (fun _ => ?_)
    | with_reducible refine appV.zero ?_
    | with_reducible refine appV.own ?_
    | ((with_reducible refine NewB.mk fun nb hnb => ?_); have hnb1 := hnb.1.1; have hnb2 := hnb.1.2; try simp only [keys_cons, keys_app, keys_nil, NotIn_cons, NotIn_app, NotIn_nil, and_true] at hnb2)
    | ((with_reducible refine NewRow.mk fun nb nsp ncap hnb hncap => ?_); have hnb1 := hnb.1.1; have hnb2 := hnb.1.2; try simp only [keys_cons, keys_app, keys_nil, NotIn_cons, NotIn_app, NotIn_nil, and_true] at hnb2)
    | simp (dsimp := false) (implicitDefEqProofs := false) (disch := first | assumption | (simp only [List.mem_cons, List.mem_append, true_or, or_true, eq_self]; done) | omega | (with_reducible refine Row.adr (by assumption) ?_; simp only [List.length_map, List.length_take, List.length_drop]; omega) | (simp only [List.length_cons, List.length_nil, List.length_map, List.length_append, List.length_replicate, Nat.reduceAdd, true_and, and_true, and_self]; first | done | omega)) only [go_sem, ↓reduceIte, Nat.reduceEqDiff, Nat.reduceAdd, Nat.reduceSub, Nat.reduceMul, Nat.reduceBEq, Nat.reduceLT, Nat.reduceLeDiff, Nat.reduceMod, Nat.reducePow, List.reduceReplicate, UInt8.reduceOfNat, Int.reducePow, Int.reduceDiv, Int.reduceMod, Nat.reduceDiv, Int.reduceNeg, Int.reduceAdd, Int.reduceSub, Int.reduceMul, Int.reduceLE, Int.reduceLT, Int.reduceEq, Int.reduceToNat, reduceCtorEq, -List.reduceReplicate, List.toList_toArray, hr1, hr3, zeroC_len, hCl, hCn, hCx, hCa, hC1, hCz]
  rename_i x2 w1 w2 w3
  refine FnT.pre callee12 (Upd.shareRow (by assumption) fun G8 hle8 hs8 r8' => ?_)
  refine norm_t (l := [7, 3, 7]) (by decide) ⟨some ⟨nb, 0, none⟩, 3, rfl, r8', by decide⟩ fun G9 v9 hle9 hs9 hsl9 => ?_
  rw [show nums ([7, 3, 7] : List Int) = [0, 1, 0] by decide +kernel] at hsl9
  obtain ⟨a9, c9, rfl, hr9, hc9⟩ := hsl9
  have hsE := hs9
  try simp only [keys_cons, keys_app, keys_nil, Sep_cons, Sep_nil, NotIn_cons, NotIn_app, NotIn_nil, List.cons_append, List.nil_append, List.append_assoc, and_assoc, and_true, true_and] at hsE
  repeat (obtain ⟨hsx, hsE⟩ := hsE)
  repeat' first
    | with_reducible refine Br.yes ?_
    | with_reducible refine Br.no ?_
    | with_reducible refine Br.dec (fun _ => ?_) (fun _ => ?_)
    | with_reducible refine Br.beqB (fun _ => ?_) (fun _ => ?_)
    | with_reducible refine Br.beqb (fun _ => ?_) (fun _ => ?_)
    | with_reducible refine Br.mk (fun _ => ?_) (fun _ => ?_)
    | with_reducible refine foundO.mk (fun _ _ => ?_) (fun _ => ?_)
    | with_reducible refine appV.zero ?_
    | with_reducible refine appV.own ?_
    | ((with_reducible refine NewB.mk fun nb hnb => ?_); have hnb1 := hnb.1.1; have hnb2 := hnb.1.2; try simp only [keys_cons, keys_app, keys_nil, NotIn_cons, NotIn_app, NotIn_nil, and_true] at hnb2)
    | ((with_reducible refine NewRow.mk fun nb nsp ncap hnb hncap => ?_); have hnb1 := hnb.1.1; have hnb2 := hnb.1.2; try simp only [keys_cons, keys_app, keys_nil, NotIn_cons, NotIn_app, NotIn_nil, and_true] at hnb2)
    | simp (dsimp := false) (implicitDefEqProofs := false) (disch := first | assumption | (simp only [List.mem_cons, List.mem_append, true_or, or_true, eq_self]; done) | omega | (with_reducible refine Row.adr (by assumption) ?_; simp only [List.length_map, List.length_take, List.length_drop]; omega) | (simp only [List.length_cons, List.length_nil, List.length_map, List.length_append, List.length_replicate, Nat.reduceAdd, true_and, and_true, and_self]; first | done | omega)) only [go_sem, ↓reduceIte, Nat.reduceEqDiff, Nat.reduceAdd, Nat.reduceSub, Nat.reduceMul, Nat.reduceBEq, Nat.reduceLT, Nat.reduceLeDiff, Nat.reduceMod, Nat.reducePow, List.reduceReplicate, UInt8.reduceOfNat, Int.reducePow, Int.reduceDiv, Int.reduceMod, Nat.reduceDiv, Int.reduceNeg, Int.reduceAdd, Int.reduceSub, Int.reduceMul, Int.reduceLE, Int.reduceLT, Int.reduceEq, Int.reduceToNat, reduceCtorEq, -List.reduceReplicate, List.toList_toArray, hr1, hr3, zeroC_len, hCl, hCn, hCx, hCa, hC1, hCz]
  refine FnT.pre callee11 (Upd.shareRow (by assumption) fun G10 hle10 hs10 r10 => ?_)
  refine same17_t [0, 1, 0] [0, 1, 0] (by decide) ⟨a9, c9, rfl, hr9.mono hle10, hc9⟩ ⟨some ⟨_, 0, none⟩, 3, rfl, r10, by decide⟩ ?_
  rw [decide_eq_true rfl]
  have hsE := hs10
  try simp only [keys_cons, keys_app, keys_nil, Sep_cons, Sep_nil, NotIn_cons, NotIn_app, NotIn_nil, List.cons_append, List.nil_append, List.append_assoc, and_assoc, and_true, true_and] at hsE
  repeat (obtain ⟨hsx, hsE⟩ := hsE)
  have hrn10 := ((hrn.mono hle8).mono hle9).mono hle10
  have e210 := ((e2.mono hle8).mono hle9).mono hle10
  repeat' first
    | with_reducible refine Br.yes ?_
    | with_reducible refine Br.no ?_
    | with_reducible refine Br.dec (fun _ => ?_) (fun _ => ?_)
    | with_reducible refine Br.beqB (fun _ => ?_) (fun _ => ?_)
    | with_reducible refine Br.beqb (fun _ => ?_) (fun _ => ?_)
    | with_reducible refine Br.mk (fun _ => ?_) (fun _ => ?_)
    | with_reducible refine foundO.mk (fun _ _ => ?_) (fun _ => ?_)
    | with_reducible refine appV.zero ?_
    | with_reducible refine appV.own ?_
    | ((with_reducible refine NewB.mk fun nb hnb => ?_); have hnb1 := hnb.1.1; have hnb2 := hnb.1.2; try simp only [keys_cons, keys_app, keys_nil, NotIn_cons, NotIn_app, NotIn_nil, and_true] at hnb2)
    | ((with_reducible refine NewRow.mk fun nb nsp ncap hnb hncap => ?_); have hnb1 := hnb.1.1; have hnb2 := hnb.1.2; try simp only [keys_cons, keys_app, keys_nil, NotIn_cons, NotIn_app, NotIn_nil, and_true] at hnb2)
    | simp (dsimp := false) (implicitDefEqProofs := false) (disch := first | assumption | (simp only [List.mem_cons, List.mem_append, true_or, or_true, eq_self]; done) | omega | (with_reducible refine Row.adr (by assumption) ?_; simp only [List.length_map, List.length_take, List.length_drop]; omega) | (simp only [List.length_cons, List.length_nil, List.length_map, List.length_append, List.length_replicate, Nat.reduceAdd, true_and, and_true, and_self]; first | done | omega)) only [go_sem, ↓reduceIte, Nat.reduceEqDiff, Nat.reduceAdd, Nat.reduceSub, Nat.reduceMul, Nat.reduceBEq, Nat.reduceLT, Nat.reduceLeDiff, Nat.reduceMod, Nat.reducePow, List.reduceReplicate, UInt8.reduceOfNat, Int.reducePow, Int.reduceDiv, Int.reduceMod, Nat.reduceDiv, Int.reduceNeg, Int.reduceAdd, Int.reduceSub, Int.reduceMul, Int.reduceLE, Int.reduceLT, Int.reduceEq, Int.reduceToNat, reduceCtorEq, -List.reduceReplicate, List.toList_toArray, hr1, hr3, zeroC_len, hCl, hCn, hCx, hCa, hC1, hCz, Row.obj hrn10, Row.obj0 hrn10, e1, Row.obj e210, Row.obj0 e210, List.getElem_map, List.getElem_cons_zero]
  unfold UpdR
  refine Upd.leave (H' := H) (by intro fsum; first | exact Nat.le_refl _ | (simp only [List.map_append, List.map_cons, List.map_nil, List.sum_append, List.sum_cons, List.sum_nil, List.cons_append, List.nil_append]; omega)) ?_
  exact hR G10 ((((((hle1.trans hle2).trans hle3).trans hle4).trans hle5).trans hle6).trans (((hle7.trans hle8).trans hle9).trans hle10))
end Go.Proofs.YtmnmihfinmcljaaDoor
