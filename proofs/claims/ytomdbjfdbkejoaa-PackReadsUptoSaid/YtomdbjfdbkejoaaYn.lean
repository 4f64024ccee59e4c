/- Machines as bytes: the document's guess: what it writes. -/
import Derived.Test.YtomdbjfdbkejoaaYm
import Derived.Test.YtomdbjfdbkejoaaVeS
set_option linter.unusedSimpArgs false
set_option linter.unusedVariables false
namespace Go.Proofs.Ytomdbjfdbkejoaa
open Go Go.V Go.Proofs

def mkE (f : Nat → Int) (w : Int) : DfaT := ⟨ofF f, w, [], [], []⟩
def gC (f : Nat → Int) (w : Int) (a b c : Value) : List Value := cellsD (mkE f w) a b c
theorem mkE_len (f : Nat → Int) (w : Int) : (mkE f w).of.length = 256 := ofF_len f
theorem gC_eq (f : Nat → Int) (w : Int) (a b c : Value) : gC f w a b c = u8F f ++ [.int .i64 w, a, b, c] := by unfold gC cellsD mkE; rw [ofF_u8]
theorem gC_len (f : Nat → Int) (w : Int) (a b c : Value) : (gC f w a b c).length = 260 := cellsD_len (mkE_len f w) _ _ _
theorem gC_w (f : Nat → Int) (w : Int) (a b c : Value) : (gC f w a b c)[256]? = some (.int .i64 w) := cellsD_w (mkE_len f w) _ _ _
theorem gC_n (f : Nat → Int) (w : Int) (a b c : Value) : (gC f w a b c)[257]? = some a := cellsD_n (mkE_len f w) _ _ _
theorem gC_l (f : Nat → Int) (w : Int) (a b c : Value) : (gC f w a b c)[258]? = some b := cellsD_l (mkE_len f w) _ _ _
theorem gC_s (f : Nat → Int) (w : Int) (a b c : Value) : (gC f w a b c)[259]? = some c := cellsD_s (mkE_len f w) _ _ _
theorem gC_putN (f : Nat → Int) (w : Int) (a b c x : Value) : splice (gC f w a b c) 257 [x] = gC f w x b c := cellsD_putN (mkE_len f w) _ _ _ _
theorem gC_putL (f : Nat → Int) (w : Int) (a b c x : Value) : splice (gC f w a b c) 258 [x] = gC f w a x c := cellsD_putL (mkE_len f w) _ _ _ _
theorem gC_putS (f : Nat → Int) (w : Int) (a b c x : Value) : splice (gC f w a b c) 259 [x] = gC f w a b x := build_s (mkE_len f w) _ _ _ _
theorem gC_putW (f : Nat → Int) (w : Int) (a b c : Value) (y : Int) : splice (gC f w a b c) 256 [.int .i64 y] = gC f y a b c := by
  rw [gC_eq]; exact cells_w f y (mkE f y) rfl rfl _ _ _ _
theorem gC_putO {f : Nat → Int} {k : Nat} (h : k < 256) (w : Int) (a b c : Value) (x : Int) : splice (gC f w a b c) k [.int .u8 x] = gC (upd f k x) w a b c := by
  rw [gC_eq, gC_eq, ← u8F_putS h]
  unfold splice
  have hl := u8F_len f
  rw [List.take_append_of_le_length (by omega), List.drop_append, List.length_singleton, show k + 1 - (u8F f).length = 0 by omega, List.drop_zero, List.append_assoc, List.append_assoc, List.append_assoc]
theorem gC_zero : List.replicate 256 (Value.int .u8 0) ++ [Value.int .i64 0, Value.slice none 0 0, Value.slice none 0 0, Value.slice none 0 0] = gC (fun _ => 0) 0 (.slice none 0 0) (.slice none 0 0) (.slice none 0 0) := by rw [gC_eq, u8F_zero]
theorem gC_zero2 : zeroC = gC (fun _ => 0) 0 (.slice none 0 0) (.slice none 0 0) (.slice none 0 0) := gC_zero
theorem gC_over (f g : Nat → Int) (w w2 : Int) (a b c a2 b2 c2 : Value) : splice (gC f w a b c) 0 (gC g w2 a2 b2 c2) = gC g w2 a2 b2 c2 := by
  unfold splice
  rw [List.take_zero, List.nil_append, List.drop_of_length_le (by rw [gC_len, gC_len]; omega), List.append_nil]
theorem gC_take (f : Nat → Int) (w : Int) (a b c : Value) : List.take 260 (gC f w a b c) = gC f w a b c := List.take_of_length_le (by rw [gC_len]; omega)
theorem gC_one {f : Nat → Int} {w : Int} {a b c : Value} (h1 : oneV a = true) (h2 : oneV b = true) (h3 : oneV c = true) : (gC f w a b c).all oneV = true := cellsD_one h1 h2 h3
theorem sliceO_one {e : TypeId} {v : Value} {n : Nat} {xs : List Value} {kb : Heap} (h : SliceO [] e 1 v n xs kb) : ∃ a n c, v = .slice a n c := by
  rcases h with ⟨a, rfl, _⟩ | ⟨b, c, sp, rfl, _⟩ <;> exact ⟨_, _, _, rfl⟩
set_option maxHeartbeats 16000000 in
theorem g9_t {b : List UInt8} (hbl : b.length ≤ 2000000) {a : Option Addr} {c : Nat} {G : PHeap} {H : Heap} (hr : Row G a (b.map byteV)) (hc : b.length ≤ c) {i to n : Nat} (hit : i + 1 ≤ to) (hto : to ≤ b.length) (hn : n ≤ 300) {l : List (List UInt8)} (hl : l.length = n)
    {f : Nat → Int} {w : Int} {vn vl vs v2 : Value} {ks : Heap} {b3 : Nat} (hks : SliceO [] 9 1 vs n (l.map str) ks) :
    Tri Try.prog Try.f19.ntmps (piece [1, 1, 1, 0, 1, 0, 0, 1, 0, 0, 1, 1, 0] Try.f19) G [(0, .slice a b.length c), (2, v2), (3, .pointer (some ⟨b3, 0, none⟩)), (4, .int .i64 (i : Nat)), (5, .int .i64 (n : Nat)), (6, .int .i64 (to : Nat))] ((b3, .cells (gC f w vn vl vs) [] 28) :: (ks ++ H)) (onlyN fun G' fr' H' =>
      ∃ vs' ks', PLe G G' ∧ SliceO [] 9 1 vs' (n + 1) ((l ++ [(b.take to).drop (i + 1)]).map str) ks' ∧ restrict [0, 2, 3, 4, 5, 6] fr' = [(0, .slice a b.length c), (2, v2), (3, .pointer (some ⟨b3, 0, none⟩)), (4, .int .i64 (i : Nat)), (5, .int .i64 (n : Nat)), (6, .int .i64 (to : Nat))] ∧ H' = (b3, .cells (gC f w vn vl vs') [] 28) :: (ks' ++ H)) := by
  have hr1 : ∀ x : Value, List.replicate 1 x = [x] := fun _ => rfl
  have hlen : ((b.take to).drop (i + 1)).length = to - (i + 1) := by rw [List.length_drop, List.length_take]; omega
  obtain ⟨x, hxd⟩ : ∃ x, x = (b.take to).drop (i + 1) := ⟨_, rfl⟩
  have hsub : Row G (subOb a (i + 1) c (i + 1)) (x.map byteV) := by
    rw [hxd]; exact Row.midB hr hc hto hit
  rw [← hxd] at hlen ⊢
  have hrd := Row.rdSlAll (n := to - (i + 1)) hsub (by rw [List.length_map, hlen])
  have hi1 : ((i : Nat) : Int) + 1 = ((i + 1 : Nat) : Int) := rfl
  refine Tri.sepT fun hs0 => ?_
  rcases hks with ⟨al, rfl, hi0, hx, rfl⟩ | ⟨bl, cl, sp, rfl, rfl, hx, hcl⟩
  · have hsE := hs0
    try simp only [keys_cons, keys_app, keys_nil, Sep_cons, Sep_nil, NotIn_cons, NotIn_app, NotIn_nil, List.cons_append, List.nil_append, List.append_assoc, and_assoc, and_true, true_and] at hsE
    repeat (obtain ⟨hsx, hsE⟩ := hsE)
    refine Tri.piece (f := Try.f19) rfl ?_
    refine Tri.run tok [0, 2, 3, 4, 5, 6, 7, 8, 9, 10, 11, 12, 23, 35, 56, 68, 108, 125] (by kernel_rfl) ?_
    repeat' first
      | with_reducible refine Br.yes ?_
      | with_reducible refine Br.no ?_
      | with_reducible refine Br.dec (fun _ => ?_) (fun _ => ?_)
      | with_reducible refine Br.beqB (fun _ => ?_) (fun _ => ?_)
      | with_reducible refine Br.beqb (fun _ => ?_) (fun _ => ?_)
      | with_reducible refine Br.mk (fun _ => ?_) (fun _ => ?_)
      | with_reducible refine foundO.mk (fun _ _ => ?_) (fun _ => ?_)
      | with_reducible refine appV.zero ?_
      | with_reducible refine appV.own ?_
      | ((with_reducible refine NewB.mk fun nb hnb => ?_); have hnb1 := hnb.1.1; have hnb2 := hnb.1.2; try simp only [keys_cons, keys_app, keys_nil, NotIn_cons, NotIn_app, NotIn_nil, and_true] at hnb2)
      | ((with_reducible refine NewRow.mk fun nb nsp ncap hnb hncap => ?_); have hnb1 := hnb.1.1; have hnb2 := hnb.1.2; try simp only [keys_cons, keys_app, keys_nil, NotIn_cons, NotIn_app, NotIn_nil, and_true] at hnb2)
      | simp (dsimp := false) (implicitDefEqProofs := false) (disch := first | assumption | (simp only [List.mem_cons, List.mem_append, true_or, or_true, eq_self]; done) | omega | (with_reducible refine Row.adr (by assumption) ?_; simp only [List.length_map, List.length_take, List.length_drop]; omega) | (simp only [List.length_cons, List.length_nil, List.length_map, List.length_append, List.length_replicate, Nat.reduceAdd, true_and, and_true, and_self]; first | done | omega)) only [go_sem, ↓reduceIte, Nat.reduceEqDiff, Nat.reduceAdd, Nat.reduceSub, Nat.reduceMul, Nat.reduceBEq, Nat.reduceLT, Nat.reduceLeDiff, Nat.reduceMod, Nat.reducePow, List.reduceReplicate, UInt8.reduceOfNat, Int.reducePow, Int.reduceDiv, Int.reduceMod, Nat.reduceDiv, Int.reduceNeg, Int.reduceAdd, Int.reduceSub, Int.reduceMul, Int.reduceLE, Int.reduceLT, Int.reduceEq, Int.reduceToNat, reduceCtorEq, -List.reduceReplicate, gC_len, gC_s, gC_putS, hr1, hi1, hrd]
      | with_reducible refine Tri.drawS tok mixed [0, 2, 3, 4, 5, 6, 7, 8, 9, 10, 11, 12, 23, 35, 56, 68, 108, 125] 9 [1] (.op 0 .plain (.op 1 .held (.op 2 .plain (.op 3 .plain (.op 4 .plain (.op 5 .plain (.op 6 .plain (.op 7 .keeps (.op 8 .keeps (.op 9 .plain (.op 10 .plain (.op 11 .plain .nil)))))))))))) (by kernel_rfl) [(b3, .cells (gC f w vn vl (.slice al 0 0)) [] 28)] (by intro fsum; first | exact Nat.le_refl _ | (simp only [List.map_append, List.map_cons, List.map_nil, List.sum_append, List.sum_cons, List.sum_nil, List.cons_append, List.nil_append]; omega)) ?_
    refine Upd.leave (H' := (b3, .cells (gC f w vn vl (.slice (some ⟨nb, 0, none⟩) 1 ncap)) [] 28) :: ([(nb, .cells [.string ⟨x.toArray⟩] nsp 9)] ++ H)) (by intro fsum; first | exact Nat.le_refl _ | (simp only [List.map_append, List.map_cons, List.map_nil, List.sum_append, List.sum_cons, List.sum_nil, List.cons_append, List.nil_append]; omega)) ?_
    refine ⟨_, _, PLe.refl _, .inr ⟨nb, ncap, nsp, by rw [hi0], by rw [List.map_append, hx]; rfl, by rw [hi0, List.map_append, hx]; rfl, by rw [List.map_append, hx]; simp at hncap ⊢; omega⟩, rfl, rfl⟩
  · rw [List.length_map, Nat.mul_one] at hx hcl
    have hsE := hs0
    try simp only [keys_cons, keys_app, keys_nil, Sep_cons, Sep_nil, NotIn_cons, NotIn_app, NotIn_nil, List.cons_append, List.nil_append, List.append_assoc, and_assoc, and_true, true_and] at hsE
    repeat (obtain ⟨hsx, hsE⟩ := hsE)
    refine Tri.piece (f := Try.f19) rfl ?_
    refine Tri.run tok [0, 2, 3, 4, 5, 6, 7, 8, 9, 10, 11, 12, 23, 35, 56, 68, 108, 125] (by kernel_rfl) ?_
    repeat' first
      | with_reducible refine Br.yes ?_
      | with_reducible refine Br.no ?_
      | with_reducible refine Br.dec (fun _ => ?_) (fun _ => ?_)
      | with_reducible refine Br.beqB (fun _ => ?_) (fun _ => ?_)
      | with_reducible refine Br.beqb (fun _ => ?_) (fun _ => ?_)
      | with_reducible refine Br.mk (fun _ => ?_) (fun _ => ?_)
      | with_reducible refine foundO.mk (fun _ _ => ?_) (fun _ => ?_)
      | with_reducible refine appV.zero ?_
      | with_reducible refine appV.own ?_
      | ((with_reducible refine NewB.mk fun nb hnb => ?_); have hnb1 := hnb.1.1; have hnb2 := hnb.1.2; try simp only [keys_cons, keys_app, keys_nil, NotIn_cons, NotIn_app, NotIn_nil, and_true] at hnb2)
      | ((with_reducible refine NewRow.mk fun nb nsp ncap hnb hncap => ?_); have hnb1 := hnb.1.1; have hnb2 := hnb.1.2; try simp only [keys_cons, keys_app, keys_nil, NotIn_cons, NotIn_app, NotIn_nil, and_true] at hnb2)
      | simp (dsimp := false) (implicitDefEqProofs := false) (disch := first | assumption | (simp only [List.mem_cons, List.mem_append, true_or, or_true, eq_self]; done) | omega | (with_reducible refine Row.adr (by assumption) ?_; simp only [List.length_map, List.length_take, List.length_drop]; omega) | (simp only [List.length_cons, List.length_nil, List.length_map, List.length_append, List.length_replicate, Nat.reduceAdd, true_and, and_true, and_self]; first | done | omega)) only [go_sem, ↓reduceIte, Nat.reduceEqDiff, Nat.reduceAdd, Nat.reduceSub, Nat.reduceMul, Nat.reduceBEq, Nat.reduceLT, Nat.reduceLeDiff, Nat.reduceMod, Nat.reducePow, List.reduceReplicate, UInt8.reduceOfNat, Int.reducePow, Int.reduceDiv, Int.reduceMod, Nat.reduceDiv, Int.reduceNeg, Int.reduceAdd, Int.reduceSub, Int.reduceMul, Int.reduceLE, Int.reduceLT, Int.reduceEq, Int.reduceToNat, reduceCtorEq, -List.reduceReplicate, gC_len, gC_s, gC_putS, hr1, hi1, hrd]
      | with_reducible refine Tri.drawS tok mixed [0, 2, 3, 4, 5, 6, 7, 8, 9, 10, 11, 12, 23, 35, 56, 68, 108, 125] 9 [1] (.op 0 .plain (.op 1 .held (.op 2 .plain (.op 3 .plain (.op 4 .plain (.op 5 .plain (.op 6 .plain (.op 7 .keeps (.op 8 .keeps (.op 9 .plain (.op 10 .plain (.op 11 .plain .nil)))))))))))) (by kernel_rfl) [(b3, .cells (gC f w vn vl (.slice (some ⟨bl, 0, none⟩) n cl)) [] 28)] (by intro fsum; first | exact Nat.le_refl _ | (simp only [List.map_append, List.map_cons, List.map_nil, List.sum_append, List.sum_cons, List.sum_nil, List.cons_append, List.nil_append]; omega)) ?_
    refine Upd.leave (H' := (b3, .cells (gC f w vn vl (.slice (some ⟨nb, 0, none⟩) (n + 1) ncap)) [] 28) :: ([(nb, .cells (l.map str ++ [.string ⟨x.toArray⟩]) nsp 9)] ++ H)) (by intro fsum; first | exact Nat.le_refl _ | (simp only [List.map_append, List.map_cons, List.map_nil, List.sum_append, List.sum_cons, List.sum_nil, List.cons_append, List.nil_append]; omega)) ?_
    refine ⟨_, _, PLe.refl _, .inr ⟨nb, ncap, nsp, rfl, by rw [List.map_append]; rfl, by simp; omega, by simp at hncap ⊢; omega⟩, rfl, rfl⟩
set_option maxHeartbeats 16000000 in
theorem g25_t {b : List UInt8} {a : Option Addr} {c : Nat} {G : PHeap} {H : Heap} (hr : Row G a (b.map byteV)) (hc : b.length ≤ c) {i n : Nat} (hn : n ≤ 70000) {lab : List Int} (hl : lab.length = n)
    {f : Nat → Int} {w : Int} {vn vl vs v2 v9 v10 : Value} {kl : Heap} {b3 : Nat} (hkl : SliceO [] 3 1 vl n (lab.map (Value.int .i64)) kl) :
    Tri Try.prog Try.f19.ntmps (piece [1, 1, 1, 1, 1, 1, 1, 0, 1, 0, 0, 1, 0, 0, 0] Try.f19) G [(0, .slice a b.length c), (2, v2), (3, .pointer (some ⟨b3, 0, none⟩)), (4, .int .i64 (i : Nat)), (9, v9), (10, v10)] ((b3, .cells (gC f w vn vl vs) [] 28) :: (kl ++ H)) (onlyN fun G' fr' H' =>
      ∃ vl' kl', PLe G G' ∧ SliceO [] 3 1 vl' (n + 1) ((lab ++ [((atB b i : Nat) : Int)]).map (Value.int .i64)) kl' ∧ restrict [0, 2, 3, 4, 9, 10] fr' = [(0, .slice a b.length c), (2, v2), (3, .pointer (some ⟨b3, 0, none⟩)), (4, .int .i64 (i : Nat)), (9, v9), (10, v10)] ∧ H' = (b3, .cells (gC f w vn vl' vs) [] 28) :: (kl' ++ H)) := by
  have hr1 : ∀ x : Value, List.replicate 1 x = [x] := fun _ => rfl
  have hv0 : Sl G byteV (.slice a b.length c) b := ⟨a, c, rfl, hr, hc⟩
  refine Tri.sepT fun hs0 => ?_
  rcases hkl with ⟨al, rfl, hi0, hx, rfl⟩ | ⟨bl, cl, sp, rfl, rfl, hx, hcl⟩
  · have hsE := hs0
    try simp only [keys_cons, keys_app, keys_nil, Sep_cons, Sep_nil, NotIn_cons, NotIn_app, NotIn_nil, List.cons_append, List.nil_append, List.append_assoc, and_assoc, and_true, true_and] at hsE
    repeat (obtain ⟨hsx, hsE⟩ := hsE)
    refine Tri.piece (f := Try.f19) rfl ?_
    refine Tri.run tok [0, 2, 3, 4, 5, 6, 7, 8, 9, 10, 11, 12, 23, 35, 56, 68, 108, 125] (by kernel_rfl) ?_
    repeat' first
      | with_reducible refine Br.yes ?_
      | with_reducible refine Br.no ?_
      | with_reducible refine Br.dec (fun _ => ?_) (fun _ => ?_)
      | with_reducible refine Br.beqB (fun _ => ?_) (fun _ => ?_)
      | with_reducible refine Br.beqb (fun _ => ?_) (fun _ => ?_)
      | with_reducible refine Br.mk (fun _ => ?_) (fun _ => ?_)
      | with_reducible refine foundO.mk (fun _ _ => ?_) (fun _ => ?_)
      | with_reducible refine appV.zero ?_
      | with_reducible refine appV.own ?_
      | ((with_reducible refine NewB.mk fun nb hnb => ?_); have hnb1 := hnb.1.1; have hnb2 := hnb.1.2; try simp only [keys_cons, keys_app, keys_nil, NotIn_cons, NotIn_app, NotIn_nil, and_true] at hnb2)
      | ((with_reducible refine NewRow.mk fun nb nsp ncap hnb hncap => ?_); have hnb1 := hnb.1.1; have hnb2 := hnb.1.2; try simp only [keys_cons, keys_app, keys_nil, NotIn_cons, NotIn_app, NotIn_nil, and_true] at hnb2)
      | simp (dsimp := false) (implicitDefEqProofs := false) (disch := first | assumption | (simp only [List.mem_cons, List.mem_append, true_or, or_true, eq_self]; done) | omega | (with_reducible refine Row.adr (by assumption) ?_; simp only [List.length_map, List.length_take, List.length_drop]; omega) | (simp only [List.length_cons, List.length_nil, List.length_map, List.length_append, List.length_replicate, Nat.reduceAdd, true_and, and_true, and_self]; first | done | omega)) only [go_sem, ↓reduceIte, Nat.reduceEqDiff, Nat.reduceAdd, Nat.reduceSub, Nat.reduceMul, Nat.reduceBEq, Nat.reduceLT, Nat.reduceLeDiff, Nat.reduceMod, Nat.reducePow, List.reduceReplicate, UInt8.reduceOfNat, Int.reducePow, Int.reduceDiv, Int.reduceMod, Nat.reduceDiv, Int.reduceNeg, Int.reduceAdd, Int.reduceSub, Int.reduceMul, Int.reduceLE, Int.reduceLT, Int.reduceEq, Int.reduceToNat, reduceCtorEq, -List.reduceReplicate, gC_len, gC_l, gC_putL, hr1]
      | with_reducible refine Tri.drawS tok mixed [0, 2, 3, 4, 5, 6, 7, 8, 9, 10, 11, 12, 23, 35, 56, 68, 108, 125] 25 [1] (.op 0 .plain (.op 1 .held (.op 2 .plain (.op 3 .plain (.op 4 .keeps (.op 5 .keeps (.op 6 .plain (.op 7 .plain (.op 8 .plain .nil))))))))) (by kernel_rfl) [(b3, .cells (gC f w vn (.slice al 0 0) vs) [] 28)] (by intro fsum; first | exact Nat.le_refl _ | (simp only [List.map_append, List.map_cons, List.map_nil, List.sum_append, List.sum_cons, List.sum_nil, List.cons_append, List.nil_append]; omega)) ?_
      | with_reducible refine rat_t hv0 ?_
    all_goals (
      refine Upd.leave (H' := (b3, .cells (gC f w vn (.slice (some ⟨nb, 0, none⟩) 1 ncap) vs) [] 28) :: ([(nb, .cells [.int .i64 (atB b i : Nat)] nsp 3)] ++ H)) (by intro fsum; first | exact Nat.le_refl _ | (simp only [List.map_append, List.map_cons, List.map_nil, List.sum_append, List.sum_cons, List.sum_nil, List.cons_append, List.nil_append]; omega)) ?_
      refine ⟨_, _, PLe.refl _, .inr ⟨nb, ncap, nsp, by rw [hi0], by rw [List.map_append, hx]; rfl, by rw [hi0, List.map_append, hx]; rfl, by rw [List.map_append, hx]; simp at hncap ⊢; omega⟩, rfl, rfl⟩)
  · rw [List.length_map, Nat.mul_one] at hx hcl
    have hsE := hs0
    try simp only [keys_cons, keys_app, keys_nil, Sep_cons, Sep_nil, NotIn_cons, NotIn_app, NotIn_nil, List.cons_append, List.nil_append, List.append_assoc, and_assoc, and_true, true_and] at hsE
    repeat (obtain ⟨hsx, hsE⟩ := hsE)
    refine Tri.piece (f := Try.f19) rfl ?_
    refine Tri.run tok [0, 2, 3, 4, 5, 6, 7, 8, 9, 10, 11, 12, 23, 35, 56, 68, 108, 125] (by kernel_rfl) ?_
    repeat' first
      | with_reducible refine Br.yes ?_
      | with_reducible refine Br.no ?_
      | with_reducible refine Br.dec (fun _ => ?_) (fun _ => ?_)
      | with_reducible refine Br.beqB (fun _ => ?_) (fun _ => ?_)
      | with_reducible refine Br.beqb (fun _ => ?_) (fun _ => ?_)
      | with_reducible refine Br.mk (fun _ => ?_) (fun _ => ?_)
      | with_reducible refine foundO.mk (fun _ _ => ?_) (fun _ => ?_)
      | with_reducible refine appV.zero ?_
      | with_reducible refine appV.own ?_
      | ((with_reducible refine NewB.mk fun nb hnb => ?_); have hnb1 := hnb.1.1; have hnb2 := hnb.1.2; try simp only [keys_cons, keys_app, keys_nil, NotIn_cons, NotIn_app, NotIn_nil, and_true] at hnb2)
      | ((with_reducible refine NewRow.mk fun nb nsp ncap hnb hncap => ?_); have hnb1 := hnb.1.1; have hnb2 := hnb.1.2; try simp only [keys_cons, keys_app, keys_nil, NotIn_cons, NotIn_app, NotIn_nil, and_true] at hnb2)
      | simp (dsimp := false) (implicitDefEqProofs := false) (disch := first | assumption | (simp only [List.mem_cons, List.mem_append, true_or, or_true, eq_self]; done) | omega | (with_reducible refine Row.adr (by assumption) ?_; simp only [List.length_map, List.length_take, List.length_drop]; omega) | (simp only [List.length_cons, List.length_nil, List.length_map, List.length_append, List.length_replicate, Nat.reduceAdd, true_and, and_true, and_self]; first | done | omega)) only [go_sem, ↓reduceIte, Nat.reduceEqDiff, Nat.reduceAdd, Nat.reduceSub, Nat.reduceMul, Nat.reduceBEq, Nat.reduceLT, Nat.reduceLeDiff, Nat.reduceMod, Nat.reducePow, List.reduceReplicate, UInt8.reduceOfNat, Int.reducePow, Int.reduceDiv, Int.reduceMod, Nat.reduceDiv, Int.reduceNeg, Int.reduceAdd, Int.reduceSub, Int.reduceMul, Int.reduceLE, Int.reduceLT, Int.reduceEq, Int.reduceToNat, reduceCtorEq, -List.reduceReplicate, gC_len, gC_l, gC_putL, hr1]
      | with_reducible refine Tri.drawS tok mixed [0, 2, 3, 4, 5, 6, 7, 8, 9, 10, 11, 12, 23, 35, 56, 68, 108, 125] 25 [1] (.op 0 .plain (.op 1 .held (.op 2 .plain (.op 3 .plain (.op 4 .keeps (.op 5 .keeps (.op 6 .plain (.op 7 .plain (.op 8 .plain .nil))))))))) (by kernel_rfl) [(b3, .cells (gC f w vn (.slice (some ⟨bl, 0, none⟩) n cl) vs) [] 28)] (by intro fsum; first | exact Nat.le_refl _ | (simp only [List.map_append, List.map_cons, List.map_nil, List.sum_append, List.sum_cons, List.sum_nil, List.cons_append, List.nil_append]; omega)) ?_
      | with_reducible refine rat_t hv0 ?_
    all_goals (
      refine Upd.leave (H' := (b3, .cells (gC f w vn (.slice (some ⟨nb, 0, none⟩) (n + 1) ncap) vs) [] 28) :: ([(nb, .cells (lab.map (Value.int .i64) ++ [.int .i64 (atB b i : Nat)]) nsp 3)] ++ H)) (by intro fsum; first | exact Nat.le_refl _ | (simp only [List.map_append, List.map_cons, List.map_nil, List.sum_append, List.sum_cons, List.sum_nil, List.cons_append, List.nil_append]; omega)) ?_
      refine ⟨_, _, PLe.refl _, .inr ⟨nb, ncap, nsp, rfl, by rw [List.map_append]; rfl, by simp; omega, by simp at hncap ⊢; omega⟩, rfl, rfl⟩)
set_option maxHeartbeats 16000000 in
theorem g33_t {G : PHeap} {H : Heap} {f : Nat → Int} {w : Int} {vn vl vs v0 v2 v4 v9 v10 vr : Value} {kn kr : Heap} {b3 : Nat} {rows : List (List Int)} (hrl : rows.length ≤ 70000) {row : List Int} (hY : RowY rows G vn kn) (hO : SliceO [] 3 1 vr row.length (row.map (Value.int .i64)) kr) :
    Tri Try.prog Try.f19.ntmps (piece [1, 1, 1, 1, 1, 1, 1, 0, 1, 0, 0, 1, 0, 0, 1, 1, 1, 1] Try.f19) G [(0, v0), (2, v2), (3, .pointer (some ⟨b3, 0, none⟩)), (4, v4), (9, v9), (10, v10), (11, vr)] ((b3, .cells (gC f w vn vl vs) [] 28) :: (kn ++ (kr ++ H))) (onlyN fun G' fr' H' =>
      ∃ vn' kn', PLe G G' ∧ RowY (rows ++ [row]) G' vn' kn' ∧ restrict [0, 2, 3, 4, 9, 10] fr' = [(0, v0), (2, v2), (3, .pointer (some ⟨b3, 0, none⟩)), (4, v4), (9, v9), (10, v10)] ∧ H' = (b3, .cells (gC f w vn' vl vs) [] 28) :: (kn' ++ H)) := by
  have hr1 : ∀ x : Value, List.replicate 1 x = [x] := fun _ => rfl
  refine Tri.sepT fun hs0 => ?_
  have hov := sliceO_one hO
  obtain ⟨ar, nr, cr, rfl⟩ := hov
  rcases hY with ⟨hnil, rfl, rfl⟩ | ⟨bn, c2, rv, sp1, rfl, rfl, hrv, hc2, hrws⟩
  · have hsE := hs0
    try simp only [keys_cons, keys_app, keys_nil, Sep_cons, Sep_nil, NotIn_cons, NotIn_app, NotIn_nil, List.cons_append, List.nil_append, List.append_assoc, and_assoc, and_true, true_and] at hsE
    repeat (obtain ⟨hsx, hsE⟩ := hsE)
    refine Tri.piece (f := Try.f19) rfl ?_
    refine Tri.run tok [0, 2, 3, 4, 5, 6, 7, 8, 9, 10, 11, 12, 23, 35, 56, 68, 108, 125] (by kernel_rfl) ?_
    repeat' first
      | with_reducible refine Br.yes ?_
      | with_reducible refine Br.no ?_
      | with_reducible refine Br.dec (fun _ => ?_) (fun _ => ?_)
      | with_reducible refine Br.beqB (fun _ => ?_) (fun _ => ?_)
      | with_reducible refine Br.beqb (fun _ => ?_) (fun _ => ?_)
      | with_reducible refine Br.mk (fun _ => ?_) (fun _ => ?_)
      | with_reducible refine foundO.mk (fun _ _ => ?_) (fun _ => ?_)
      | with_reducible refine appV.zero ?_
      | with_reducible refine appV.own ?_
      | ((with_reducible refine NewB.mk fun nb hnb => ?_); have hnb1 := hnb.1.1; have hnb2 := hnb.1.2; try simp only [keys_cons, keys_app, keys_nil, NotIn_cons, NotIn_app, NotIn_nil, and_true] at hnb2)
      | ((with_reducible refine NewRow.mk fun nb nsp ncap hnb hncap => ?_); have hnb1 := hnb.1.1; have hnb2 := hnb.1.2; try simp only [keys_cons, keys_app, keys_nil, NotIn_cons, NotIn_app, NotIn_nil, and_true] at hnb2)
      | simp (dsimp := false) (implicitDefEqProofs := false) (disch := first | assumption | (simp only [List.mem_cons, List.mem_append, true_or, or_true, eq_self]; done) | omega | (with_reducible refine Row.adr (by assumption) ?_; simp only [List.length_map, List.length_take, List.length_drop]; omega) | (simp only [List.length_cons, List.length_nil, List.length_map, List.length_append, List.length_replicate, Nat.reduceAdd, true_and, and_true, and_self]; first | done | omega)) only [go_sem, ↓reduceIte, Nat.reduceEqDiff, Nat.reduceAdd, Nat.reduceSub, Nat.reduceMul, Nat.reduceBEq, Nat.reduceLT, Nat.reduceLeDiff, Nat.reduceMod, Nat.reducePow, List.reduceReplicate, UInt8.reduceOfNat, Int.reducePow, Int.reduceDiv, Int.reduceMod, Nat.reduceDiv, Int.reduceNeg, Int.reduceAdd, Int.reduceSub, Int.reduceMul, Int.reduceLE, Int.reduceLT, Int.reduceEq, Int.reduceToNat, reduceCtorEq, -List.reduceReplicate, gC_len, gC_n, gC_putN, hr1]
    refine Upd.go (H' := kr ++ ((b3, .cells (gC f w (.slice (some ⟨nb, 0, none⟩) 1 ncap) vl vs) [] 28) :: ([(nb, .cells [.slice ar nr cr] nsp 25)] ++ H))) (by intro fsum; first | exact Nat.le_refl _ | (simp only [List.map_append, List.map_cons, List.map_nil, List.sum_append, List.sum_cons, List.sum_nil, List.cons_append, List.nil_append]; omega)) (Upd.sepI fun hs1 => hO.shareApp hs1 fun G8 a8 c8 hle8 hs8 hv8 hr8 hc8 => ?_)
    refine ⟨_, _, hle8, .inr ⟨nb, ncap, _, nsp, by rw [hnil]; rfl, rfl, by rw [hnil]; rfl, by rw [hnil]; exact (by simp at hncap ⊢; omega), fun i2 h h2 => ?_⟩, rfl, rfl⟩
    rw [hnil] at h
    obtain rfl : i2 = 0 := by simp at h; omega
    simp only [hnil, List.nil_append, List.getElem_cons_zero]
    exact ⟨a8, c8, hv8, hr8, hc8⟩
  · have hn0 : rows.length + sp1.length = c2 := hc2
    have hsE := hs0
    try simp only [keys_cons, keys_app, keys_nil, Sep_cons, Sep_nil, NotIn_cons, NotIn_app, NotIn_nil, List.cons_append, List.nil_append, List.append_assoc, and_assoc, and_true, true_and] at hsE
    repeat (obtain ⟨hsx, hsE⟩ := hsE)
    refine Tri.piece (f := Try.f19) rfl ?_
    refine Tri.run tok [0, 2, 3, 4, 5, 6, 7, 8, 9, 10, 11, 12, 23, 35, 56, 68, 108, 125] (by kernel_rfl) ?_
    repeat' first
      | with_reducible refine Br.yes ?_
      | with_reducible refine Br.no ?_
      | with_reducible refine Br.dec (fun _ => ?_) (fun _ => ?_)
      | with_reducible refine Br.beqB (fun _ => ?_) (fun _ => ?_)
      | with_reducible refine Br.beqb (fun _ => ?_) (fun _ => ?_)
      | with_reducible refine Br.mk (fun _ => ?_) (fun _ => ?_)
      | with_reducible refine foundO.mk (fun _ _ => ?_) (fun _ => ?_)
      | with_reducible refine appV.zero ?_
      | with_reducible refine appV.own ?_
      | ((with_reducible refine NewB.mk fun nb hnb => ?_); have hnb1 := hnb.1.1; have hnb2 := hnb.1.2; try simp only [keys_cons, keys_app, keys_nil, NotIn_cons, NotIn_app, NotIn_nil, and_true] at hnb2)
      | ((with_reducible refine NewRow.mk fun nb nsp ncap hnb hncap => ?_); have hnb1 := hnb.1.1; have hnb2 := hnb.1.2; try simp only [keys_cons, keys_app, keys_nil, NotIn_cons, NotIn_app, NotIn_nil, and_true] at hnb2)
      | simp (dsimp := false) (implicitDefEqProofs := false) (disch := first | assumption | (simp only [List.mem_cons, List.mem_append, true_or, or_true, eq_self]; done) | omega | (with_reducible refine Row.adr (by assumption) ?_; simp only [List.length_map, List.length_take, List.length_drop]; omega) | (simp only [List.length_cons, List.length_nil, List.length_map, List.length_append, List.length_replicate, Nat.reduceAdd, true_and, and_true, and_self]; first | done | omega)) only [go_sem, ↓reduceIte, Nat.reduceEqDiff, Nat.reduceAdd, Nat.reduceSub, Nat.reduceMul, Nat.reduceBEq, Nat.reduceLT, Nat.reduceLeDiff, Nat.reduceMod, Nat.reducePow, List.reduceReplicate, UInt8.reduceOfNat, Int.reducePow, Int.reduceDiv, Int.reduceMod, Nat.reduceDiv, Int.reduceNeg, Int.reduceAdd, Int.reduceSub, Int.reduceMul, Int.reduceLE, Int.reduceLT, Int.reduceEq, Int.reduceToNat, reduceCtorEq, -List.reduceReplicate, gC_len, gC_n, gC_putN, hr1]
    refine Upd.go (H' := kr ++ ((b3, .cells (gC f w (.slice (some ⟨nb, 0, none⟩) (rows.length + 1) ncap) vl vs) [] 28) :: ([(nb, .cells (rv ++ [.slice ar nr cr]) nsp 25)] ++ H))) (by intro fsum; first | exact Nat.le_refl _ | (simp only [List.map_append, List.map_cons, List.map_nil, List.sum_append, List.sum_cons, List.sum_nil, List.cons_append, List.nil_append]; omega)) (Upd.sepI fun hs1 => hO.shareApp hs1 fun G8 a8 c8 hle8 hs8 hv8 hr8 hc8 => ?_)
    refine ⟨_, _, hle8, .inr ⟨nb, ncap, _, nsp, by rw [List.length_append]; rfl, rfl, by rw [List.length_append, List.length_append, hrv]; rfl, by rw [List.length_append]; exact (by simp at hncap ⊢; omega), fun i2 h h2 => ?_⟩, rfl, rfl⟩
    rcases Nat.lt_or_ge i2 rows.length with hij | hij
    · obtain ⟨b', c', f1, f2, f3⟩ := hrws i2 hij (by omega)
      refine ⟨b', c', ?_, ?_, ?_⟩
      · rw [List.getElem_append_left (by omega)]; simp only [List.getElem_append_left hij]; exact f1
      · simp only [List.getElem_append_left hij]; exact f2.mono hle8
      · simp only [List.getElem_append_left hij]; exact f3
    · obtain rfl : i2 = rows.length := by rw [List.length_append] at h; simp at h; omega
      refine ⟨a8, c8, ?_, ?_, ?_⟩
      · rw [List.getElem_append_right (by omega)]; simp [hrv, hv8]
      · simpa using hr8
      · simpa using hc8
end Go.Proofs.Ytomdbjfdbkejoaa
