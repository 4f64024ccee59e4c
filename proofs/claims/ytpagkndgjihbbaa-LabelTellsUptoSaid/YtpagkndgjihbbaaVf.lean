/- A machine with other names, and labels by a function of theirs. -/
import Derived.Test.YtpagkndgjihbbaaVd
import Derived.Test.YtpagkndgjihbbaaWa
import Derived.Test.YtpagkndgjihbbaaSp
import Derived.Test.YtpagkndgjihbbaaVeM
set_option linter.unusedSimpArgs false
set_option linter.unusedVariables false
namespace Go.Proofs.Ytpagkndgjihbbaa
open Go Go.V Go.Proofs

def labW (d : DfaT) (g : Tx → Int) : List Int := d.label.map fun k => if 0 < k then g (nameD d k) else 0
def matN (rows : List (List Int)) : List (List Value) := rows.map fun r => r.map (Value.int .i64)
set_option maxHeartbeats 8000000 in
theorem w1_t {d : DfaT} (hsm : SmallD d) {names : List Tx} (hnl : names.length ≤ 2000000) {C : List Value} {an al ay : Option Addr} {cn cl cs : Nat} {rs : List Value} {G : PHeap} {H : Heap} (O : OpenD G d C an al ay cn cl cs rs) {v1 v2 v6 : Value} (h1 : Sl G str v1 names) {b3 : Nat} :
    Tri Try.prog Try.f30.ntmps (piece [1, 0] Try.f30) G [(1, v1), (2, v2), (3, .pointer (some ⟨b3, 0, none⟩)), (6, v6)] ((b3, .cells C [] 27) :: H) (onlyN fun G' fr' H' =>
      ∃ b7 vs, PLe G G' ∧ Sl G' str vs names ∧ restrict [2, 3, 6, 7] fr' = [(2, v2), (3, .pointer (some ⟨b3, 0, none⟩)), (6, v6), (7, .pointer (some ⟨b7, 0, none⟩))] ∧ H' = (b7, .cells (cellsD d (.slice none 0 0) (.slice none 0 0) vs) [] 27) :: (b3, .cells C [] 27) :: H) := by
  obtain ⟨hm1, hm2, hm3, hm4, hm5⟩ := id hsm
  have hCl := O.len
  have hCw := O.w
  have hCo := O.of
  have hofl : (u8L d.of).length = 256 := by rw [List.length_map, O.ofl]
  have hb1 := build_of O.ofl
  have hb2 := build_w O.ofl
  have hl1 : (u8L d.of ++ [Value.int .i64 0, Value.slice none 0 0, Value.slice none 0 0, Value.slice none 0 0]).length = 260 := by rw [List.length_append, hofl]; rfl
  have hl2 : ∀ v : Value, (cellsD d (.slice none 0 0) (.slice none 0 0) v).length = 260 := fun v => cellsD_len O.ofl _ _ _
  have hb3 := build_s O.ofl (.slice none 0 0) (.slice none 0 0) (.slice none 0 0)
  have hputz : ∀ v : Value, splice zeroC 0 (cellsD d (.slice none 0 0) (.slice none 0 0) v) = cellsD d (.slice none 0 0) (.slice none 0 0) v := fun v => by
    unfold splice
    rw [List.take_zero, List.nil_append, List.drop_of_length_le (by rw [zeroC_len, hl2]; omega), List.append_nil]
  refine Tri.sepT fun hs0 => ?_
  have hsE := hs0
  try simp only [keys_cons, keys_app, keys_nil, Sep_cons, Sep_nil, NotIn_cons, NotIn_app, NotIn_nil, List.cons_append, List.nil_append, List.append_assoc, and_assoc, and_true, true_and] at hsE
  repeat (obtain ⟨hsx, hsE⟩ := hsE)
  refine Tri.piece (f := Try.f30) rfl ?_
  refine Tri.run tok [0, 1, 2, 3, 6, 7, 8, 9, 10, 19, 20, 21, 22, 38] (by kernel_rfl) ?_
  repeat' first
    | with_reducible refine Br.yes ?_
    | with_reducible refine Br.no ?_
    | with_reducible refine Br.dec (fun _ => ?_) (fun _ => ?_)
    | with_reducible refine Br.beqB (fun _ => ?_) (fun _ => ?_)
    | with_reducible refine Br.beqb (fun _ => ?_) (fun _ => ?_)
    | with_reducible refine Br.mk (fun _ => ?_) (fun _ => ?_)
    | with_reducible refine foundO.mk (fun _ _ => ?_) (fun _ => ?_)
    | with_reducible refine appV.zero ?_
    | with_reducible refine appV.own ?_
    | ((with_reducible refine NewB.mk fun nb hnb => ?_); have hnb1 := hnb.1.1; have hnb2 := hnb.1.2; try simp only [keys_cons, keys_app, keys_nil, NotIn_cons, NotIn_app, NotIn_nil, and_true] at hnb2)
    | ((with_reducible refine NewRow.mk fun nb nsp ncap hnb hncap => ?_); have hnb1 := hnb.1.1; have hnb2 := hnb.1.2; try simp only [keys_cons, keys_app, keys_nil, NotIn_cons, NotIn_app, NotIn_nil, and_true] at hnb2)
    | with_reducible refine Tri.drawH tok mixed [0, 1, 2, 3, 6, 7, 8, 9, 10, 19, 20, 21, 22, 38] 1 [1, 3] (.op 0 .plain (.op 1 .held (.op 2 .plain (.op 3 .held (.op 4 .plain (.both (.op 5 .keeps (.op 6 .plain (.op 7 .keeps (.op 8 .plain .nil)))) (.op 7 .keeps (.op 5 .keeps (.op 6 .plain (.op 8 .plain .nil)))))))))) (by kernel_rfl) [3] ?_
    | with_reducible refine Tri.drawH tok mixed [0, 1, 2, 3, 6, 7, 8, 9, 10, 19, 20, 21, 22, 38] 5 [1] (.op 0 .plain (.op 1 .held (.op 2 .plain (.op 3 .keeps (.op 4 .keeps (.op 5 .plain (.op 6 .plain (.op 7 .plain .nil)))))))) (by kernel_rfl) [7] ?_
    | with_reducible refine Tri.drawM tok mixed [0, 1, 2, 3, 6, 7, 8, 9, 10, 19, 20, 21, 22, 38] 8 [2, 4, 7, 10] (.op 0 .plain (.op 1 .plain (.op 2 .held (.op 3 .plain (.op 4 .held (.op 5 .plain (.op 6 .plain (.op 7 .held (.op 8 .plain (.op 9 .plain (.op 10 .held (.op 11 .keeps (.op 12 .plain .nil))))))))))))) (by kernel_rfl) _ (List.Sublist.refl _) ?_
    | simp (dsimp := false) (implicitDefEqProofs := false) (disch := first | assumption | (simp only [List.mem_cons, List.mem_append, true_or, or_true, eq_self]; done) | omega | (with_reducible refine Row.adr (by assumption) ?_; simp only [List.length_map, List.length_take, List.length_drop]; omega) | (simp only [List.length_cons, List.length_nil, List.length_map, List.length_append, List.length_replicate, Nat.reduceAdd, true_and, and_true, and_self]; first | done | omega)) only [go_sem, ↓reduceIte, Nat.reduceEqDiff, Nat.reduceAdd, Nat.reduceSub, Nat.reduceMul, Nat.reduceBEq, Nat.reduceLT, Nat.reduceLeDiff, Nat.reduceMod, Nat.reducePow, List.reduceReplicate, UInt8.reduceOfNat, Int.reducePow, Int.reduceDiv, Int.reduceMod, Nat.reduceDiv, Int.reduceNeg, Int.reduceAdd, Int.reduceSub, Int.reduceMul, Int.reduceLE, Int.reduceLT, Int.reduceEq, Int.reduceToNat, reduceCtorEq, -List.reduceReplicate, List.toList_toArray, hCl, hCw, hCo, hofl, hb1, hb2, hb3, hl1, hl2, zeroC_len, zeroC_one, hputz]
    | ((with_reducible refine clones_t names hnl h1 fun G4 v4 hle4 hs4 hsl4 => ?_); obtain ⟨ay4, cy4, rfl, hr4, hc4⟩ := hsl4; have hone := cellsD_one (d := d) (vn := .slice none 0 0) (vl := .slice none 0 0) (vs := .slice ay4 names.length cy4) rfl rfl rfl; (have hsE := hs4; try simp only [keys_cons, keys_app, keys_nil, Sep_cons, Sep_nil, NotIn_cons, NotIn_app, NotIn_nil, List.cons_append, List.nil_append, List.append_assoc, and_assoc, and_true, true_and] at hsE; repeat (obtain ⟨hsx, hsE⟩ := hsE)))
    | (with_reducible refine And.intro ?_ ?_)
  all_goals exact Upd.now ⟨nb, _, hle4, ⟨ay4, cy4, rfl, hr4, hc4⟩, rfl, rfl⟩
set_option maxHeartbeats 8000000 in
theorem w5_t {d : DfaT} (hd : d.of.length = 256) {row : List Int} (hrl : row.length ≤ 2000000) (hr0 : 0 < row.length) {i : Nat} (hi : i ≤ 70000) {G : PHeap} {H : Heap} {v2 v3 v6 v8 v9 v19 v20 v21 vn vl vs : Value} {b7 : Nat} {rv : List Value} {kn : Heap} (h9 : Sl G (Value.int .i64) v9 row) (hkn : SliceO [] 24 1 vn i rv kn) :
    Tri Try.prog Try.f30.ntmps (piece [1, 1, 0, 1, 0, 0, 1, 1, 0, 0, 1, 0] Try.f30) G [(2, v2), (3, v3), (6, v6), (7, .pointer (some ⟨b7, 0, none⟩)), (8, v8), (9, v9), (19, v19), (20, v20), (21, v21)] ((b7, .cells (cellsD d vn vl vs) [] 27) :: (kn ++ H)) (onlyN fun G' fr' H' =>
      ∃ vn' kn' br cr spr, G' = G ∧ row.length + spr.length = cr ∧ SliceO [] 24 1 vn' (i + 1) (rv ++ [.slice (some ⟨br, 0, none⟩) row.length cr]) kn' ∧ restrict [2, 3, 6, 7, 8, 19, 20, 21] fr' = [(2, v2), (3, v3), (6, v6), (7, .pointer (some ⟨b7, 0, none⟩)), (8, v8), (19, v19), (20, v20), (21, v21)] ∧ H' = (b7, .cells (cellsD d vn' vl vs) [] 27) :: (kn' ++ ((br, .cells (row.map (Value.int .i64)) spr 3) :: H))) := by
  have hr1 : ∀ x : Value, List.replicate 1 x = [x] := fun _ => rfl
  have hl2 : ∀ a b c : Value, (cellsD d a b c).length = 260 := fun a b c => cellsD_len hd _ _ _
  have hg1 : ∀ a b c : Value, (cellsD d a b c)[257]? = some a := fun a b c => cellsD_n hd _ _ _
  have hputN : ∀ a b c x : Value, splice (cellsD d a b c) 257 [x] = cellsD d x b c := fun a b c x => cellsD_putN hd _ _ _ _
  refine Tri.sepT fun hs0 => ?_
  rcases hkn with ⟨aa, rfl, hi0, hx, rfl⟩ | ⟨bl, cc, sp, rfl, rfl, hx, hcl⟩
  · have hsE := hs0
    try simp only [keys_cons, keys_app, keys_nil, Sep_cons, Sep_nil, NotIn_cons, NotIn_app, NotIn_nil, List.cons_append, List.nil_append, List.append_assoc, and_assoc, and_true, true_and] at hsE
    repeat (obtain ⟨hsx, hsE⟩ := hsE)
    refine Tri.piece (f := Try.f30) rfl ?_
    refine Tri.run tok [0, 1, 2, 3, 6, 7, 8, 9, 10, 19, 20, 21, 22, 38] (by kernel_rfl) ?_
    repeat' first
      | with_reducible refine Br.yes ?_
      | with_reducible refine Br.no ?_
      | with_reducible refine Br.dec (fun _ => ?_) (fun _ => ?_)
      | with_reducible refine Br.beqB (fun _ => ?_) (fun _ => ?_)
      | with_reducible refine Br.beqb (fun _ => ?_) (fun _ => ?_)
      | with_reducible refine Br.mk (fun _ => ?_) (fun _ => ?_)
      | with_reducible refine foundO.mk (fun _ _ => ?_) (fun _ => ?_)
      | with_reducible refine appV.zero ?_
      | with_reducible refine appV.own ?_
      | ((with_reducible refine NewB.mk fun nb hnb => ?_); have hnb1 := hnb.1.1; have hnb2 := hnb.1.2; try simp only [keys_cons, keys_app, keys_nil, NotIn_cons, NotIn_app, NotIn_nil, and_true] at hnb2)
      | ((with_reducible refine NewRow.mk fun nb nsp ncap hnb hncap => ?_); have hnb1 := hnb.1.1; have hnb2 := hnb.1.2; try simp only [keys_cons, keys_app, keys_nil, NotIn_cons, NotIn_app, NotIn_nil, and_true] at hnb2)
      | simp (dsimp := false) (implicitDefEqProofs := false) (disch := first | assumption | (simp only [List.mem_cons, List.mem_append, true_or, or_true, eq_self]; done) | omega | (with_reducible refine Row.adr (by assumption) ?_; simp only [List.length_map, List.length_take, List.length_drop]; omega) | (simp only [List.length_cons, List.length_nil, List.length_map, List.length_append, List.length_replicate, Nat.reduceAdd, true_and, and_true, and_self]; first | done | omega)) only [go_sem, ↓reduceIte, Nat.reduceEqDiff, Nat.reduceAdd, Nat.reduceSub, Nat.reduceMul, Nat.reduceBEq, Nat.reduceLT, Nat.reduceLeDiff, Nat.reduceMod, Nat.reducePow, List.reduceReplicate, UInt8.reduceOfNat, Int.reducePow, Int.reduceDiv, Int.reduceMod, Nat.reduceDiv, Int.reduceNeg, Int.reduceAdd, Int.reduceSub, Int.reduceMul, Int.reduceLE, Int.reduceLT, Int.reduceEq, Int.reduceToNat, reduceCtorEq, -List.reduceReplicate, hl2, hg1, hputN, hr1]
      | with_reducible refine Tri.drawS tok mixed [0, 1, 2, 3, 6, 7, 8, 9, 10, 19, 20, 21, 22, 38] 5 [1] (.op 0 .plain (.op 1 .held (.op 2 .plain (.op 3 .keeps (.op 4 .keeps (.op 5 .plain (.op 6 .plain (.op 7 .plain .nil)))))))) (by kernel_rfl) [(b7, .cells (cellsD d (.slice aa 0 0) vl vs) [] 27)] (by intro fsum; first | exact Nat.le_refl _ | (simp only [List.map_append, List.map_cons, List.map_nil, List.sum_append, List.sum_cons, List.sum_nil, List.cons_append, List.nil_append]; omega)) ?_
    refine clonei_t row hrl h9 fun v4 kb4 hs4 hO4 => ?_
    rcases hO4 with ⟨_, _, h0, _, _⟩ | ⟨br, cr, spr, rfl, rfl, hy, hyc⟩
    · omega
    rw [List.length_map, Nat.mul_one] at hyc
    have hsE := hs4
    try simp only [keys_cons, keys_app, keys_nil, Sep_cons, Sep_nil, NotIn_cons, NotIn_app, NotIn_nil, List.cons_append, List.nil_append, List.append_assoc, and_assoc, and_true, true_and] at hsE
    repeat (obtain ⟨hsx, hsE⟩ := hsE)
    repeat' first
      | with_reducible refine Br.yes ?_
      | with_reducible refine Br.no ?_
      | with_reducible refine Br.dec (fun _ => ?_) (fun _ => ?_)
      | with_reducible refine Br.beqB (fun _ => ?_) (fun _ => ?_)
      | with_reducible refine Br.beqb (fun _ => ?_) (fun _ => ?_)
      | with_reducible refine Br.mk (fun _ => ?_) (fun _ => ?_)
      | with_reducible refine foundO.mk (fun _ _ => ?_) (fun _ => ?_)
      | with_reducible refine appV.zero ?_
      | with_reducible refine appV.own ?_
      | ((with_reducible refine NewB.mk fun nb hnb => ?_); have hnb1 := hnb.1.1; have hnb2 := hnb.1.2; try simp only [keys_cons, keys_app, keys_nil, NotIn_cons, NotIn_app, NotIn_nil, and_true] at hnb2)
      | ((with_reducible refine NewRow.mk fun nb nsp ncap hnb hncap => ?_); have hnb1 := hnb.1.1; have hnb2 := hnb.1.2; try simp only [keys_cons, keys_app, keys_nil, NotIn_cons, NotIn_app, NotIn_nil, and_true] at hnb2)
      | simp (dsimp := false) (implicitDefEqProofs := false) (disch := first | assumption | (simp only [List.mem_cons, List.mem_append, true_or, or_true, eq_self]; done) | omega | (with_reducible refine Row.adr (by assumption) ?_; simp only [List.length_map, List.length_take, List.length_drop]; omega) | (simp only [List.length_cons, List.length_nil, List.length_map, List.length_append, List.length_replicate, Nat.reduceAdd, true_and, and_true, and_self]; first | done | omega)) only [go_sem, ↓reduceIte, Nat.reduceEqDiff, Nat.reduceAdd, Nat.reduceSub, Nat.reduceMul, Nat.reduceBEq, Nat.reduceLT, Nat.reduceLeDiff, Nat.reduceMod, Nat.reducePow, List.reduceReplicate, UInt8.reduceOfNat, Int.reducePow, Int.reduceDiv, Int.reduceMod, Nat.reduceDiv, Int.reduceNeg, Int.reduceAdd, Int.reduceSub, Int.reduceMul, Int.reduceLE, Int.reduceLT, Int.reduceEq, Int.reduceToNat, reduceCtorEq, -List.reduceReplicate, hl2, hg1, hputN, hr1]
    refine Upd.leave (H' := (b7, .cells (cellsD d (.slice (some ⟨nb, 0, none⟩) 1 ncap) vl vs) [] 27) :: ([(nb, .cells [.slice (some ⟨br, 0, none⟩) row.length cr] nsp 24)] ++ ((br, .cells (row.map (Value.int .i64)) spr 3) :: H))) (by intro fsum; simp only [List.map_append, List.map_cons, List.map_nil, List.sum_append, List.sum_cons, List.sum_nil, List.cons_append, List.nil_append]; omega) ?_
    exact ⟨_, _, br, cr, spr, rfl, by omega, .inr ⟨nb, ncap, nsp, by rw [hi0], by rw [hx]; rfl, by rw [hx, hi0]; rfl, by rw [hx]; simp at hncap ⊢; omega⟩, rfl, rfl⟩
  · rw [Nat.mul_one] at hx hcl
    have hsE := hs0
    try simp only [keys_cons, keys_app, keys_nil, Sep_cons, Sep_nil, NotIn_cons, NotIn_app, NotIn_nil, List.cons_append, List.nil_append, List.append_assoc, and_assoc, and_true, true_and] at hsE
    repeat (obtain ⟨hsx, hsE⟩ := hsE)
    refine Tri.piece (f := Try.f30) rfl ?_
    refine Tri.run tok [0, 1, 2, 3, 6, 7, 8, 9, 10, 19, 20, 21, 22, 38] (by kernel_rfl) ?_
    repeat' first
      | with_reducible refine Br.yes ?_
      | with_reducible refine Br.no ?_
      | with_reducible refine Br.dec (fun _ => ?_) (fun _ => ?_)
      | with_reducible refine Br.beqB (fun _ => ?_) (fun _ => ?_)
      | with_reducible refine Br.beqb (fun _ => ?_) (fun _ => ?_)
      | with_reducible refine Br.mk (fun _ => ?_) (fun _ => ?_)
      | with_reducible refine foundO.mk (fun _ _ => ?_) (fun _ => ?_)
      | with_reducible refine appV.zero ?_
      | with_reducible refine appV.own ?_
      | ((with_reducible refine NewB.mk fun nb hnb => ?_); have hnb1 := hnb.1.1; have hnb2 := hnb.1.2; try simp only [keys_cons, keys_app, keys_nil, NotIn_cons, NotIn_app, NotIn_nil, and_true] at hnb2)
      | ((with_reducible refine NewRow.mk fun nb nsp ncap hnb hncap => ?_); have hnb1 := hnb.1.1; have hnb2 := hnb.1.2; try simp only [keys_cons, keys_app, keys_nil, NotIn_cons, NotIn_app, NotIn_nil, and_true] at hnb2)
      | simp (dsimp := false) (implicitDefEqProofs := false) (disch := first | assumption | (simp only [List.mem_cons, List.mem_append, true_or, or_true, eq_self]; done) | omega | (with_reducible refine Row.adr (by assumption) ?_; simp only [List.length_map, List.length_take, List.length_drop]; omega) | (simp only [List.length_cons, List.length_nil, List.length_map, List.length_append, List.length_replicate, Nat.reduceAdd, true_and, and_true, and_self]; first | done | omega)) only [go_sem, ↓reduceIte, Nat.reduceEqDiff, Nat.reduceAdd, Nat.reduceSub, Nat.reduceMul, Nat.reduceBEq, Nat.reduceLT, Nat.reduceLeDiff, Nat.reduceMod, Nat.reducePow, List.reduceReplicate, UInt8.reduceOfNat, Int.reducePow, Int.reduceDiv, Int.reduceMod, Nat.reduceDiv, Int.reduceNeg, Int.reduceAdd, Int.reduceSub, Int.reduceMul, Int.reduceLE, Int.reduceLT, Int.reduceEq, Int.reduceToNat, reduceCtorEq, -List.reduceReplicate, hl2, hg1, hputN, hr1]
      | with_reducible refine Tri.drawS tok mixed [0, 1, 2, 3, 6, 7, 8, 9, 10, 19, 20, 21, 22, 38] 5 [1] (.op 0 .plain (.op 1 .held (.op 2 .plain (.op 3 .keeps (.op 4 .keeps (.op 5 .plain (.op 6 .plain (.op 7 .plain .nil)))))))) (by kernel_rfl) [(b7, .cells (cellsD d (.slice (some ⟨bl, 0, none⟩) i cc) vl vs) [] 27)] (by intro fsum; first | exact Nat.le_refl _ | (simp only [List.map_append, List.map_cons, List.map_nil, List.sum_append, List.sum_cons, List.sum_nil, List.cons_append, List.nil_append]; omega)) ?_
    refine clonei_t row hrl h9 fun v4 kb4 hs4 hO4 => ?_
    rcases hO4 with ⟨_, _, h0, _, _⟩ | ⟨br, cr, spr, rfl, rfl, hy, hyc⟩
    · omega
    rw [List.length_map, Nat.mul_one] at hyc
    have hsE := hs4
    try simp only [keys_cons, keys_app, keys_nil, Sep_cons, Sep_nil, NotIn_cons, NotIn_app, NotIn_nil, List.cons_append, List.nil_append, List.append_assoc, and_assoc, and_true, true_and] at hsE
    repeat (obtain ⟨hsx, hsE⟩ := hsE)
    repeat' first
      | with_reducible refine Br.yes ?_
      | with_reducible refine Br.no ?_
      | with_reducible refine Br.dec (fun _ => ?_) (fun _ => ?_)
      | with_reducible refine Br.beqB (fun _ => ?_) (fun _ => ?_)
      | with_reducible refine Br.beqb (fun _ => ?_) (fun _ => ?_)
      | with_reducible refine Br.mk (fun _ => ?_) (fun _ => ?_)
      | with_reducible refine foundO.mk (fun _ _ => ?_) (fun _ => ?_)
      | with_reducible refine appV.zero ?_
      | with_reducible refine appV.own ?_
      | ((with_reducible refine NewB.mk fun nb hnb => ?_); have hnb1 := hnb.1.1; have hnb2 := hnb.1.2; try simp only [keys_cons, keys_app, keys_nil, NotIn_cons, NotIn_app, NotIn_nil, and_true] at hnb2)
      | ((with_reducible refine NewRow.mk fun nb nsp ncap hnb hncap => ?_); have hnb1 := hnb.1.1; have hnb2 := hnb.1.2; try simp only [keys_cons, keys_app, keys_nil, NotIn_cons, NotIn_app, NotIn_nil, and_true] at hnb2)
      | simp (dsimp := false) (implicitDefEqProofs := false) (disch := first | assumption | (simp only [List.mem_cons, List.mem_append, true_or, or_true, eq_self]; done) | omega | (with_reducible refine Row.adr (by assumption) ?_; simp only [List.length_map, List.length_take, List.length_drop]; omega) | (simp only [List.length_cons, List.length_nil, List.length_map, List.length_append, List.length_replicate, Nat.reduceAdd, true_and, and_true, and_self]; first | done | omega)) only [go_sem, ↓reduceIte, Nat.reduceEqDiff, Nat.reduceAdd, Nat.reduceSub, Nat.reduceMul, Nat.reduceBEq, Nat.reduceLT, Nat.reduceLeDiff, Nat.reduceMod, Nat.reducePow, List.reduceReplicate, UInt8.reduceOfNat, Int.reducePow, Int.reduceDiv, Int.reduceMod, Nat.reduceDiv, Int.reduceNeg, Int.reduceAdd, Int.reduceSub, Int.reduceMul, Int.reduceLE, Int.reduceLT, Int.reduceEq, Int.reduceToNat, reduceCtorEq, -List.reduceReplicate, hl2, hg1, hputN, hr1]
    refine Upd.leave (H' := (b7, .cells (cellsD d (.slice (some ⟨nb, 0, none⟩) (i + 1) ncap) vl vs) [] 27) :: ([(nb, .cells (rv ++ [.slice (some ⟨br, 0, none⟩) row.length cr]) nsp 24)] ++ ((br, .cells (row.map (Value.int .i64)) spr 3) :: H))) (by intro fsum; simp only [List.map_append, List.map_cons, List.map_nil, List.sum_append, List.sum_cons, List.sum_nil, List.cons_append, List.nil_append]; omega) ?_
    exact ⟨_, _, br, cr, spr, rfl, by omega, .inr ⟨nb, ncap, nsp, rfl, rfl, by rw [List.length_append, hx]; simp, by rw [List.length_append, hx]; simp at hncap ⊢; omega⟩, rfl, rfl⟩
set_option maxHeartbeats 8000000 in
theorem w9_t {d : DfaT} (hd : d.of.length = 256) {labs : List Int} {x : Int} {i : Nat} (hi : i ≤ 70000) (hli : labs.length = i) {G : PHeap} {H : Heap} {v2 v3 v6 v19 v20 v21 vn vl vs : Value} {b7 : Nat} {kl : Heap} (hkl : SliceO [] 3 1 vl i (labs.map (Value.int .i64)) kl) :
    Tri Try.prog Try.f30.ntmps (piece [1, 1, 0, 1, 0, 0, 1, 1, 0, 0, 1, 1, 1, 1] Try.f30) G [(2, v2), (3, v3), (6, v6), (7, .pointer (some ⟨b7, 0, none⟩)), (10, .int .i64 x), (19, v19), (20, v20), (21, v21)] ((b7, .cells (cellsD d vn vl vs) [] 27) :: (kl ++ H)) (onlyN fun G' fr' H' =>
      ∃ vl' kl', G' = G ∧ SliceO [] 3 1 vl' (i + 1) ((labs ++ [x]).map (Value.int .i64)) kl' ∧ restrict [2, 3, 6, 7, 19, 20, 21] fr' = [(2, v2), (3, v3), (6, v6), (7, .pointer (some ⟨b7, 0, none⟩)), (19, v19), (20, v20), (21, v21)] ∧ H' = (b7, .cells (cellsD d vn vl' vs) [] 27) :: (kl' ++ H)) := by
  have hr1 : ∀ x : Value, List.replicate 1 x = [x] := fun _ => rfl
  have hl2 : ∀ a b c : Value, (cellsD d a b c).length = 260 := fun a b c => cellsD_len hd _ _ _
  have hg2 : ∀ a b c : Value, (cellsD d a b c)[258]? = some b := fun a b c => cellsD_l hd _ _ _
  have hputL : ∀ a b c x : Value, splice (cellsD d a b c) 258 [x] = cellsD d a x c := fun a b c x => cellsD_putL hd _ _ _ _
  refine Tri.sepT fun hs0 => ?_
  rcases hkl with ⟨aa, rfl, hi0, hx, rfl⟩ | ⟨bl, cc, sp, rfl, rfl, hx, hcl⟩
  · have hsE := hs0
    try simp only [keys_cons, keys_app, keys_nil, Sep_cons, Sep_nil, NotIn_cons, NotIn_app, NotIn_nil, List.cons_append, List.nil_append, List.append_assoc, and_assoc, and_true, true_and] at hsE
    repeat (obtain ⟨hsx, hsE⟩ := hsE)
    refine Tri.piece (f := Try.f30) rfl ?_
    refine Tri.run tok [0, 1, 2, 3, 6, 7, 8, 9, 10, 19, 20, 21, 22, 38] (by kernel_rfl) ?_
    repeat' first
      | with_reducible refine Br.yes ?_
      | with_reducible refine Br.no ?_
      | with_reducible refine Br.dec (fun _ => ?_) (fun _ => ?_)
      | with_reducible refine Br.beqB (fun _ => ?_) (fun _ => ?_)
      | with_reducible refine Br.beqb (fun _ => ?_) (fun _ => ?_)
      | with_reducible refine Br.mk (fun _ => ?_) (fun _ => ?_)
      | with_reducible refine foundO.mk (fun _ _ => ?_) (fun _ => ?_)
      | with_reducible refine appV.zero ?_
      | with_reducible refine appV.own ?_
      | ((with_reducible refine NewB.mk fun nb hnb => ?_); have hnb1 := hnb.1.1; have hnb2 := hnb.1.2; try simp only [keys_cons, keys_app, keys_nil, NotIn_cons, NotIn_app, NotIn_nil, and_true] at hnb2)
      | ((with_reducible refine NewRow.mk fun nb nsp ncap hnb hncap => ?_); have hnb1 := hnb.1.1; have hnb2 := hnb.1.2; try simp only [keys_cons, keys_app, keys_nil, NotIn_cons, NotIn_app, NotIn_nil, and_true] at hnb2)
      | simp (dsimp := false) (implicitDefEqProofs := false) (disch := first | assumption | (simp only [List.mem_cons, List.mem_append, true_or, or_true, eq_self]; done) | omega | (with_reducible refine Row.adr (by assumption) ?_; simp only [List.length_map, List.length_take, List.length_drop]; omega) | (simp only [List.length_cons, List.length_nil, List.length_map, List.length_append, List.length_replicate, Nat.reduceAdd, true_and, and_true, and_self]; first | done | omega)) only [go_sem, ↓reduceIte, Nat.reduceEqDiff, Nat.reduceAdd, Nat.reduceSub, Nat.reduceMul, Nat.reduceBEq, Nat.reduceLT, Nat.reduceLeDiff, Nat.reduceMod, Nat.reducePow, List.reduceReplicate, UInt8.reduceOfNat, Int.reducePow, Int.reduceDiv, Int.reduceMod, Nat.reduceDiv, Int.reduceNeg, Int.reduceAdd, Int.reduceSub, Int.reduceMul, Int.reduceLE, Int.reduceLT, Int.reduceEq, Int.reduceToNat, reduceCtorEq, -List.reduceReplicate, hl2, hg2, hputL, hr1]
    refine Upd.leave (H' := (b7, .cells (cellsD d vn (.slice (some ⟨nb, 0, none⟩) 1 ncap) vs) [] 27) :: ([(nb, .cells [.int .i64 x] nsp 3)] ++ H)) (by intro fsum; simp only [List.map_append, List.map_cons, List.map_nil, List.sum_append, List.sum_cons, List.sum_nil, List.cons_append, List.nil_append]; omega) ?_
    exact ⟨_, _, rfl, .inr ⟨nb, ncap, nsp, by rw [hi0], by rw [List.map_append, hx]; rfl, by rw [List.map_append, hx, hi0]; rfl, by rw [List.map_append, hx]; simp at hncap ⊢; omega⟩, rfl, rfl⟩
  · rw [List.length_map, Nat.mul_one] at hx hcl
    have hsE := hs0
    try simp only [keys_cons, keys_app, keys_nil, Sep_cons, Sep_nil, NotIn_cons, NotIn_app, NotIn_nil, List.cons_append, List.nil_append, List.append_assoc, and_assoc, and_true, true_and] at hsE
    repeat (obtain ⟨hsx, hsE⟩ := hsE)
    refine Tri.piece (f := Try.f30) rfl ?_
    refine Tri.run tok [0, 1, 2, 3, 6, 7, 8, 9, 10, 19, 20, 21, 22, 38] (by kernel_rfl) ?_
    repeat' first
      | with_reducible refine Br.yes ?_
      | with_reducible refine Br.no ?_
      | with_reducible refine Br.dec (fun _ => ?_) (fun _ => ?_)
      | with_reducible refine Br.beqB (fun _ => ?_) (fun _ => ?_)
      | with_reducible refine Br.beqb (fun _ => ?_) (fun _ => ?_)
      | with_reducible refine Br.mk (fun _ => ?_) (fun _ => ?_)
      | with_reducible refine foundO.mk (fun _ _ => ?_) (fun _ => ?_)
      | with_reducible refine appV.zero ?_
      | with_reducible refine appV.own ?_
      | ((with_reducible refine NewB.mk fun nb hnb => ?_); have hnb1 := hnb.1.1; have hnb2 := hnb.1.2; try simp only [keys_cons, keys_app, keys_nil, NotIn_cons, NotIn_app, NotIn_nil, and_true] at hnb2)
      | ((with_reducible refine NewRow.mk fun nb nsp ncap hnb hncap => ?_); have hnb1 := hnb.1.1; have hnb2 := hnb.1.2; try simp only [keys_cons, keys_app, keys_nil, NotIn_cons, NotIn_app, NotIn_nil, and_true] at hnb2)
      | simp (dsimp := false) (implicitDefEqProofs := false) (disch := first | assumption | (simp only [List.mem_cons, List.mem_append, true_or, or_true, eq_self]; done) | omega | (with_reducible refine Row.adr (by assumption) ?_; simp only [List.length_map, List.length_take, List.length_drop]; omega) | (simp only [List.length_cons, List.length_nil, List.length_map, List.length_append, List.length_replicate, Nat.reduceAdd, true_and, and_true, and_self]; first | done | omega)) only [go_sem, ↓reduceIte, Nat.reduceEqDiff, Nat.reduceAdd, Nat.reduceSub, Nat.reduceMul, Nat.reduceBEq, Nat.reduceLT, Nat.reduceLeDiff, Nat.reduceMod, Nat.reducePow, List.reduceReplicate, UInt8.reduceOfNat, Int.reducePow, Int.reduceDiv, Int.reduceMod, Nat.reduceDiv, Int.reduceNeg, Int.reduceAdd, Int.reduceSub, Int.reduceMul, Int.reduceLE, Int.reduceLT, Int.reduceEq, Int.reduceToNat, reduceCtorEq, -List.reduceReplicate, hl2, hg2, hputL, hr1, List.length_map, hli]
    refine Upd.leave (H' := (b7, .cells (cellsD d vn (.slice (some ⟨nb, 0, none⟩) (i + 1) ncap) vs) [] 27) :: ([(nb, .cells (labs.map (Value.int .i64) ++ [.int .i64 x]) nsp 3)] ++ H)) (by intro fsum; simp only [List.map_append, List.map_cons, List.map_nil, List.sum_append, List.sum_cons, List.sum_nil, List.cons_append, List.nil_append]; omega) ?_
    exact ⟨_, _, rfl, .inr ⟨nb, ncap, nsp, rfl, by rw [List.map_append]; rfl, by simp [hli], by simp at hncap ⊢; omega⟩, rfl, rfl⟩
set_option maxHeartbeats 32000000 in
theorem with_t {d : DfaT} (hsm : SmallD d) (hok : RightP d) {names : List Tx} (hnl : names.length ≤ 2000000) {g : Tx → Int} {fid : FuncId} {bx : Nat} {XC : List Value} {tyX : TypeId} {G : PHeap} {H : Heap} {R : Value → PHeap → Heap → Prop} {v v1 : Value} (hv : IsD G d v) (h1 : Sl G str v1 names)
    (hBy : ∀ (s : Tx) (G1 : PHeap) (H1 : Heap) (R1 : Value → PHeap → Heap → Prop), PLe G G1 → s ∈ d.names → R1 (.int .i64 (g s)) G1 ((bx, .cells XC [] tyX) :: H1) → FnT Try.prog fid [str s, .pointer (some ⟨bx, 0, none⟩)] G1 ((bx, .cells XC [] tyX) :: H1) R1)
    (hR : ∀ G' vs bn cn spn rv bl cl spl F, PLe G G' → Sep G' (keys ((bn, Res.cells rv spn 24) :: (bl, .cells ((labW d g).map (Value.int .i64)) spl 3) :: (F ++ ((bx, .cells XC [] tyX) :: H)))) → Sl G' str vs names → Fam 3 rv (matN d.next) F → d.label.length + spn.length = cn → d.label.length + spl.length = cl →
      R (.agg (cellsD d (.slice (some ⟨bn, 0, none⟩) d.label.length cn) (.slice (some ⟨bl, 0, none⟩) d.label.length cl) vs).toArray) G' ((bn, .cells rv spn 24) :: (bl, .cells ((labW d g).map (Value.int .i64)) spl 3) :: (F ++ ((bx, .cells XC [] tyX) :: H)))) :
    FnT Try.prog 30 [v, v1, (.func (.func fid) #[] #[.pointer (some ⟨bx, 0, none⟩)])] G ((bx, .cells XC [] tyX) :: H) R := by
  obtain ⟨C, an, al, ay, cn, cl, cs, rs, rfl, O⟩ := hv.opened
  obtain ⟨hm1, hm2, hm3, hm4, hm5⟩ := id hsm
  obtain ⟨hk1, hk2, hk3, hk4, hk5, hk6, hk7⟩ := id hok
  have hCl := O.len
  have hCa := O.all
  have hCn := O.n
  have hCx := O.l
  have hCs := O.s
  have hww : d.width ≤ 256 := by
    have h2 := tabO_len d.of
    have h3 := O.ofl
    omega
  have hw1 : 1 ≤ d.width := by
    have h0 : 0 < d.of.length := by rw [O.ofl]; omega
    have := List.length_pos_of_mem ((mem_tabO d.of).2 (List.getElem_mem h0))
    omega
  have hl2 : ∀ a b c : Value, (cellsD d a b c).length = 260 := fun a b c => cellsD_len O.ofl _ _ _
  have ht2 : ∀ a b c : Value, List.take 260 (cellsD d a b c) = cellsD d a b c := fun a b c => cellsD_all O.ofl _ _ _
  have hputz : ∀ a b c : Value, splice zeroC 0 (cellsD d a b c) = cellsD d a b c := fun a b c => by
    unfold splice
    rw [List.take_zero, List.nil_append, List.drop_of_length_le (by rw [zeroC_len, hl2]; omega), List.append_nil]
  have hLl : (labW d g).length = d.label.length := by unfold labW; rw [List.length_map]
  have hMl : (matN d.next).length = d.next.length := by unfold matN; rw [List.length_map]
  refine FnT.sep ?_
  refine FnT.bodyS tok [0, 1, 2, 3, 6, 7, 8, 9, 10, 19, 20, 21, 22, 38] (.seq .run (.seq .cut .cut)) Try.func30 rfl (by kernel_rfl) (by kernel_rfl) (by show _ ≤ 59; simp) fun hsep => ?_
  rw [Try.results30]
  have hsE := hsep
  try simp only [keys_cons, keys_app, keys_nil, Sep_cons, Sep_nil, NotIn_cons, NotIn_app, NotIn_nil, List.cons_append, List.nil_append, List.append_assoc, and_assoc, and_true, true_and] at hsE
  repeat (obtain ⟨hsx, hsE⟩ := hsE)
  repeat' first
    | with_reducible refine Br.yes ?_
    | with_reducible refine Br.no ?_
    | with_reducible refine Br.dec (fun _ => ?_) (fun _ => ?_)
    | with_reducible refine Br.beqB (fun _ => ?_) (fun _ => ?_)
    | with_reducible refine Br.beqb (fun _ => ?_) (fun _ => ?_)
    | with_reducible refine Br.mk (fun _ => ?_) (fun _ => ?_)
    | with_reducible refine foundO.mk (fun _ _ => ?_) (fun _ => ?_)
    | with_reducible refine appV.zero ?_
    | with_reducible refine appV.own ?_
    | ((with_reducible refine NewB.mk fun nb hnb => ?_); have hnb1 := hnb.1.1; have hnb2 := hnb.1.2; try simp only [keys_cons, keys_app, keys_nil, NotIn_cons, NotIn_app, NotIn_nil, and_true] at hnb2)
    | ((with_reducible refine NewRow.mk fun nb nsp ncap hnb hncap => ?_); have hnb1 := hnb.1.1; have hnb2 := hnb.1.2; try simp only [keys_cons, keys_app, keys_nil, NotIn_cons, NotIn_app, NotIn_nil, and_true] at hnb2)
    | simp (dsimp := false) (implicitDefEqProofs := false) (disch := first | assumption | (simp only [List.mem_cons, List.mem_append, true_or, or_true, eq_self]; done) | omega | (with_reducible refine Row.adr (by assumption) ?_; simp only [List.length_map, List.length_take, List.length_drop]; omega) | (simp only [List.length_cons, List.length_nil, List.length_map, List.length_append, List.length_replicate, Nat.reduceAdd, true_and, and_true, and_self]; first | done | omega)) only [go_sem, ↓reduceIte, Nat.reduceEqDiff, Nat.reduceAdd, Nat.reduceSub, Nat.reduceMul, Nat.reduceBEq, Nat.reduceLT, Nat.reduceLeDiff, Nat.reduceMod, Nat.reducePow, List.reduceReplicate, UInt8.reduceOfNat, Int.reducePow, Int.reduceDiv, Int.reduceMod, Nat.reduceDiv, Int.reduceNeg, Int.reduceAdd, Int.reduceSub, Int.reduceMul, Int.reduceLE, Int.reduceLT, Int.reduceEq, Int.reduceToNat, reduceCtorEq, -List.reduceReplicate, List.toList_toArray, hCl, hCa]
  rename_i b3 hb30 hb31 hb32
  obtain ⟨b6, e0⟩ : ∃ x, x = nb := ⟨_, rfl⟩
  subst e0
  refine Tri.live [1, 2, 3, 6] ?_
  refine Tri.upd (Upd.go (H' := (b3, .cells C [] 27) :: (b6, .cells (List.replicate 256 (Value.int .u8 0) ++ [Value.int .i64 0, Value.slice none 0 0, Value.slice none 0 0, Value.slice none 0 0]) [] 27) :: (bx, .cells XC [] tyX) :: H) (by intro fsum; first | exact Nat.le_refl _ | (simp only [List.map_append, List.map_cons, List.map_nil, List.sum_append, List.sum_cons, List.sum_nil, List.cons_append, List.nil_append]; omega)) (Upd.now ?_))
  refine Tri.isPiece [1, 0] Try.f30 (by kernel_rfl) ?_
  refine Tri.onlyN (w1_t hsm hnl O h1) fun G1 l1 H1 hle1 hs1 hM => ?_
  obtain ⟨b7, vs, _, hvs, hfr, rfl⟩ := hM
  simp only [go_sem]
  refine Tri.live [2, 3, 6, 7] ?_
  rw [hfr]
  have hsE := hs1
  try simp only [keys_cons, keys_app, keys_nil, Sep_cons, Sep_nil, NotIn_cons, NotIn_app, NotIn_nil, List.cons_append, List.nil_append, List.append_assoc, and_assoc, and_true, true_and] at hsE
  repeat (obtain ⟨hsx, hsE⟩ := hsE)
  have O1 := OpenD.mono hle1 O
  obtain ⟨ay1, cy1, rfl, hry1, hcy1⟩ := id hvs
  refine Tri.run tok [0, 1, 2, 3, 6, 7, 8, 9, 10, 19, 20, 21, 22, 38] (by kernel_rfl) ?_
  repeat' first
    | with_reducible refine Br.yes ?_
    | with_reducible refine Br.no ?_
    | with_reducible refine Br.dec (fun _ => ?_) (fun _ => ?_)
    | with_reducible refine Br.beqB (fun _ => ?_) (fun _ => ?_)
    | with_reducible refine Br.beqb (fun _ => ?_) (fun _ => ?_)
    | with_reducible refine Br.mk (fun _ => ?_) (fun _ => ?_)
    | with_reducible refine foundO.mk (fun _ _ => ?_) (fun _ => ?_)
    | with_reducible refine appV.zero ?_
    | with_reducible refine appV.own ?_
    | ((with_reducible refine NewB.mk fun nb hnb => ?_); have hnb1 := hnb.1.1; have hnb2 := hnb.1.2; try simp only [keys_cons, keys_app, keys_nil, NotIn_cons, NotIn_app, NotIn_nil, and_true] at hnb2)
    | ((with_reducible refine NewRow.mk fun nb nsp ncap hnb hncap => ?_); have hnb1 := hnb.1.1; have hnb2 := hnb.1.2; try simp only [keys_cons, keys_app, keys_nil, NotIn_cons, NotIn_app, NotIn_nil, and_true] at hnb2)
    | simp (dsimp := false) (implicitDefEqProofs := false) (disch := first | assumption | (simp only [List.mem_cons, List.mem_append, true_or, or_true, eq_self]; done) | omega | (with_reducible refine Row.adr (by assumption) ?_; simp only [List.length_map, List.length_take, List.length_drop]; omega) | (simp only [List.length_cons, List.length_nil, List.length_map, List.length_append, List.length_replicate, Nat.reduceAdd, true_and, and_true, and_self]; first | done | omega)) only [go_sem, ↓reduceIte, Nat.reduceEqDiff, Nat.reduceAdd, Nat.reduceSub, Nat.reduceMul, Nat.reduceBEq, Nat.reduceLT, Nat.reduceLeDiff, Nat.reduceMod, Nat.reducePow, List.reduceReplicate, UInt8.reduceOfNat, Int.reducePow, Int.reduceDiv, Int.reduceMod, Nat.reduceDiv, Int.reduceNeg, Int.reduceAdd, Int.reduceSub, Int.reduceMul, Int.reduceLE, Int.reduceLT, Int.reduceEq, Int.reduceToNat, reduceCtorEq, -List.reduceReplicate, List.toList_toArray, hCl, hCn]
  refine Tri.loopS tok [0, 1, 2, 3, 6, 7, 8, 9, 10, 19, 20, 21, 22, 38] (.seq .run (.seq .run (.seq (.block (.seq .run (.seq .cut .cut))) .cut))) (by kernel_rfl) [2, 3, 6, 7, 19, 20, 21] (fun q G' fr H' => ∃ (i : Nat) (vn vl : Value) (rv : List Value) (kn kl F : Heap), i + q = d.next.length ∧ G' = G1 ∧ SliceO [] 24 1 vn i rv kn ∧ SliceO [] 3 1 vl i (((labW d g).take i).map (Value.int .i64)) kl ∧ Fam 3 rv ((matN d.next).take i) F ∧ H' = (b7, .cells (cellsD d vn vl (.slice ay1 names.length cy1)) [] 27) :: (b3, .cells C [] 27) :: (b6, .cells zeroC [] 27) :: (bx, .cells XC [] tyX) :: (kn ++ (kl ++ (F ++ H))) ∧ fr = [(2, (.func (.func fid) #[] #[.pointer (some ⟨bx, 0, none⟩)])), (3, .pointer (some ⟨b3, 0, none⟩)), (6, .pointer (some ⟨b6, 0, none⟩)), (7, .pointer (some ⟨b7, 0, none⟩)), (19, .slice an d.next.length cn), (20, .int .i64 d.next.length), (21, .int .i64 (i : Nat))]) (d.next.length) ?_ ?_
  · exact Upd.now ⟨0, _, _, [], [], [], [], by omega, rfl, .inl ⟨none, rfl, rfl, rfl, rfl⟩, .inl ⟨none, rfl, rfl, rfl, rfl⟩, Fam.nil 3, rfl, rfl⟩
  · rintro q G2 fr H' hle2 hs2 ⟨i, vn, vl, rv, kn, kl, F, hiq, rfl, hkn, hkl, hF, rfl, rfl⟩
    have hsE := hs2
    try simp only [keys_cons, keys_app, keys_nil, Sep_cons, Sep_nil, NotIn_cons, NotIn_app, NotIn_nil, List.cons_append, List.nil_append, List.append_assoc, and_assoc, and_true, true_and] at hsE
    repeat (obtain ⟨hsx, hsE⟩ := hsE)
    by_cases hil : i < d.next.length
    · have hiv : i < rs.length := by have := O1.rnl; omega
      have hilb : i < d.label.length := by omega
      obtain ⟨b, c, e1, e2, e3⟩ := O1.rs i hil hiv
      obtain ⟨hw0, hlt0, hlt1, hrng⟩ := hk7 i hil hilb
      have hadn : Adr an := O1.rn.adr (by omega)
      have hadl : Adr al := O1.rl.adr (by rw [List.length_map]; omega)
      have hrl := hm2 _ (List.getElem_mem hil)
      repeat' first
        | with_reducible refine Br.yes ?_
        | with_reducible refine Br.no ?_
        | with_reducible refine Br.dec (fun _ => ?_) (fun _ => ?_)
        | with_reducible refine Br.beqB (fun _ => ?_) (fun _ => ?_)
        | with_reducible refine Br.beqb (fun _ => ?_) (fun _ => ?_)
        | with_reducible refine Br.mk (fun _ => ?_) (fun _ => ?_)
        | with_reducible refine foundO.mk (fun _ _ => ?_) (fun _ => ?_)
        | with_reducible refine appV.zero ?_
        | with_reducible refine appV.own ?_
        | ((with_reducible refine NewB.mk fun nb hnb => ?_); have hnb1 := hnb.1.1; have hnb2 := hnb.1.2; try simp only [keys_cons, keys_app, keys_nil, NotIn_cons, NotIn_app, NotIn_nil, and_true] at hnb2)
        | ((with_reducible refine NewRow.mk fun nb nsp ncap hnb hncap => ?_); have hnb1 := hnb.1.1; have hnb2 := hnb.1.2; try simp only [keys_cons, keys_app, keys_nil, NotIn_cons, NotIn_app, NotIn_nil, and_true] at hnb2)
        | simp (dsimp := false) (implicitDefEqProofs := false) (disch := first | assumption | (simp only [List.mem_cons, List.mem_append, true_or, or_true, eq_self]; done) | omega | (with_reducible refine Row.adr (by assumption) ?_; simp only [List.length_map, List.length_take, List.length_drop]; omega) | (simp only [List.length_cons, List.length_nil, List.length_map, List.length_append, List.length_replicate, Nat.reduceAdd, true_and, and_true, and_self]; first | done | omega)) only [go_sem, ↓reduceIte, Nat.reduceEqDiff, Nat.reduceAdd, Nat.reduceSub, Nat.reduceMul, Nat.reduceBEq, Nat.reduceLT, Nat.reduceLeDiff, Nat.reduceMod, Nat.reducePow, List.reduceReplicate, UInt8.reduceOfNat, Int.reducePow, Int.reduceDiv, Int.reduceMod, Nat.reduceDiv, Int.reduceNeg, Int.reduceAdd, Int.reduceSub, Int.reduceMul, Int.reduceLE, Int.reduceLT, Int.reduceEq, Int.reduceToNat, reduceCtorEq, -List.reduceReplicate, List.toList_toArray, Row.obj O1.rn, e1]
      refine Tri.upd (Upd.go (H' := (b7, .cells (cellsD d vn vl (.slice ay1 names.length cy1)) [] 27) :: (kn ++ ((b3, .cells C [] 27) :: (b6, .cells zeroC [] 27) :: (bx, .cells XC [] tyX) :: (kl ++ (F ++ H))))) (by intro fsum; simp only [List.map_append, List.map_cons, List.map_nil, List.sum_append, List.sum_cons, List.sum_nil, List.cons_append, List.nil_append]; omega) (Upd.now ?_))
      refine Tri.live [2, 3, 6, 7, 8, 9, 19, 20, 21] ?_
      refine Tri.isPiece [1, 1, 0, 1, 0, 0, 1, 1, 0, 0, 1, 0] Try.f30 (by kernel_rfl) ?_
      refine Tri.onlyN (w5_t (row := d.next[i]) O.ofl hrl (by omega) (i := i) (by omega) ⟨b, c, rfl, e2, e3⟩ hkn) fun G3 l3 H3 hle3 hs3 hM3 => ?_
      obtain ⟨vn', kn', br, cr, spr, rfl, hcr, hkn', hfr3, rfl⟩ := hM3
      simp only [go_sem]
      refine Tri.live [2, 3, 6, 7, 8, 19, 20, 21] ?_
      rw [hfr3]
      have hF' := hF.snoc (b := br) (c := cr) (r := d.next[i].map (Value.int .i64)) (sp := spr) (by rw [List.length_map]; exact hcr)
      rw [List.length_map] at hF'
      have hMs : (matN d.next).take (i + 1) = (matN d.next).take i ++ [d.next[i].map (Value.int .i64)] := by
        rw [List.take_succ_eq_append_getElem (by omega)]
        simp only [matN, List.getElem_map]
      rw [← hMs] at hF'
      obtain ⟨F', hFd⟩ : ∃ F', F' = F ++ [(br, Res.cells (d.next[i].map (Value.int .i64)) spr 3)] := ⟨_, rfl⟩
      rw [← hFd] at hF'
      refine Tri.upd (Upd.go (H' := (b7, .cells (cellsD d vn' vl (.slice ay1 names.length cy1)) [] 27) :: (b3, .cells C [] 27) :: (b6, .cells zeroC [] 27) :: (bx, .cells XC [] tyX) :: (kl ++ (kn' ++ (F' ++ H)))) (by rw [hFd]; exact (by intro fsum; simp only [List.map_append, List.map_cons, List.map_nil, List.sum_append, List.sum_cons, List.sum_nil, List.cons_append, List.nil_append]; omega)) (Upd.now ?_))
      refine Tri.sepT fun hs4 => ?_
      have hsE := hs4
      try simp only [keys_cons, keys_app, keys_nil, Sep_cons, Sep_nil, NotIn_cons, NotIn_app, NotIn_nil, List.cons_append, List.nil_append, List.append_assoc, and_assoc, and_true, true_and] at hsE
      repeat (obtain ⟨hsx, hsE⟩ := hsE)
      have hlx : (labW d g).take (i + 1) = (labW d g).take i ++ [if 0 < d.label[i] then g (nameD d d.label[i]) else 0] := by
        rw [List.take_succ_eq_append_getElem (by omega)]
        simp only [labW, List.getElem_map]
      refine Tri.runS tok [0, 1, 2, 3, 6, 7, 8, 9, 10, 19, 20, 21, 22, 38] (.seq .run (.seq .run .cut)) (by kernel_rfl) ?_
      by_cases h0 : 0 < d.label[i]
      · rw [if_pos h0] at hlx
        obtain ⟨n, hn⟩ : ∃ n : Nat, d.label[i] = (n : Int) + 1 := ⟨(d.label[i] - 1).toNat, by omega⟩
        have hnl2 : n < d.names.length := by omega
        rw [hn, nameD_at hnl2] at hlx
        have hady : Adr ay := O1.ry.adr (by rw [List.length_map]; omega)
        have hsub : ((n : Int) + 1) - 1 = (n : Nat) := by omega
        repeat' first
          | with_reducible refine Br.yes ?_
          | with_reducible refine Br.no ?_
          | with_reducible refine Br.dec (fun _ => ?_) (fun _ => ?_)
          | with_reducible refine Br.beqB (fun _ => ?_) (fun _ => ?_)
          | with_reducible refine Br.beqb (fun _ => ?_) (fun _ => ?_)
          | with_reducible refine Br.mk (fun _ => ?_) (fun _ => ?_)
          | with_reducible refine foundO.mk (fun _ _ => ?_) (fun _ => ?_)
          | with_reducible refine appV.zero ?_
          | with_reducible refine appV.own ?_
          | ((with_reducible refine NewB.mk fun nb hnb => ?_); have hnb1 := hnb.1.1; have hnb2 := hnb.1.2; try simp only [keys_cons, keys_app, keys_nil, NotIn_cons, NotIn_app, NotIn_nil, and_true] at hnb2)
          | ((with_reducible refine NewRow.mk fun nb nsp ncap hnb hncap => ?_); have hnb1 := hnb.1.1; have hnb2 := hnb.1.2; try simp only [keys_cons, keys_app, keys_nil, NotIn_cons, NotIn_app, NotIn_nil, and_true] at hnb2)
          | simp (dsimp := false) (implicitDefEqProofs := false) (disch := first | assumption | (simp only [List.mem_cons, List.mem_append, true_or, or_true, eq_self]; done) | omega | (with_reducible refine Row.adr (by assumption) ?_; simp only [List.length_map, List.length_take, List.length_drop]; omega) | (simp only [List.length_cons, List.length_nil, List.length_map, List.length_append, List.length_replicate, Nat.reduceAdd, true_and, and_true, and_self]; first | done | omega)) only [go_sem, ↓reduceIte, Nat.reduceEqDiff, Nat.reduceAdd, Nat.reduceSub, Nat.reduceMul, Nat.reduceBEq, Nat.reduceLT, Nat.reduceLeDiff, Nat.reduceMod, Nat.reducePow, List.reduceReplicate, UInt8.reduceOfNat, Int.reducePow, Int.reduceDiv, Int.reduceMod, Nat.reduceDiv, Int.reduceNeg, Int.reduceAdd, Int.reduceSub, Int.reduceMul, Int.reduceLE, Int.reduceLT, Int.reduceEq, Int.reduceToNat, reduceCtorEq, -List.reduceReplicate, List.toList_toArray, hCl, hCx, hCs, Row.obj O1.rl, Row.obj O1.ry, List.getElem_map, hn, hsub]
          | with_reducible refine Tri.drawS tok mixed [0, 1, 2, 3, 6, 7, 8, 9, 10, 19, 20, 21, 22, 38] 8 [2, 4, 7, 10] (.op 0 .plain (.op 1 .plain (.op 2 .held (.op 3 .plain (.op 4 .held (.op 5 .plain (.op 6 .plain (.op 7 .held (.op 8 .plain (.op 9 .plain (.op 10 .held (.op 11 .keeps (.op 12 .plain .nil))))))))))))) (by kernel_rfl) [(b3, .cells C [] 27)] (by intro fsum; first | exact Nat.le_refl _ | (simp only [List.map_append, List.map_cons, List.map_nil, List.sum_append, List.sum_cons, List.sum_nil, List.cons_append, List.nil_append]; omega)) ?_
        refine FnT.rd ((bx, .cells XC [] tyX) :: (b7, .cells (cellsD d vn' vl (.slice ay1 names.length cy1)) [] 27) :: (b3, .cells C [] 27) :: (b6, .cells zeroC [] 27) :: (kl ++ (kn' ++ (F' ++ H)))) (v := .int .i64 (g d.names[n])) (fun R' hR' => hBy d.names[n] _ _ R' hle1 (List.getElem_mem _) hR') (by intro fsum; simp only [List.map_append, List.map_cons, List.map_nil, List.sum_append, List.sum_cons, List.sum_nil, List.cons_append, List.nil_append]; omega) (by intro fsum; simp only [List.map_append, List.map_cons, List.map_nil, List.sum_append, List.sum_cons, List.sum_nil, List.cons_append, List.nil_append]; omega) ?_
        repeat' first
          | with_reducible refine Br.yes ?_
          | with_reducible refine Br.no ?_
          | with_reducible refine Br.dec (fun _ => ?_) (fun _ => ?_)
          | with_reducible refine Br.beqB (fun _ => ?_) (fun _ => ?_)
          | with_reducible refine Br.beqb (fun _ => ?_) (fun _ => ?_)
          | with_reducible refine Br.mk (fun _ => ?_) (fun _ => ?_)
          | with_reducible refine foundO.mk (fun _ _ => ?_) (fun _ => ?_)
          | with_reducible refine appV.zero ?_
          | with_reducible refine appV.own ?_
          | ((with_reducible refine NewB.mk fun nb hnb => ?_); have hnb1 := hnb.1.1; have hnb2 := hnb.1.2; try simp only [keys_cons, keys_app, keys_nil, NotIn_cons, NotIn_app, NotIn_nil, and_true] at hnb2)
          | ((with_reducible refine NewRow.mk fun nb nsp ncap hnb hncap => ?_); have hnb1 := hnb.1.1; have hnb2 := hnb.1.2; try simp only [keys_cons, keys_app, keys_nil, NotIn_cons, NotIn_app, NotIn_nil, and_true] at hnb2)
          | simp (dsimp := false) (implicitDefEqProofs := false) (disch := first | assumption | (simp only [List.mem_cons, List.mem_append, true_or, or_true, eq_self]; done) | omega | (with_reducible refine Row.adr (by assumption) ?_; simp only [List.length_map, List.length_take, List.length_drop]; omega) | (simp only [List.length_cons, List.length_nil, List.length_map, List.length_append, List.length_replicate, Nat.reduceAdd, true_and, and_true, and_self]; first | done | omega)) only [go_sem, ↓reduceIte, Nat.reduceEqDiff, Nat.reduceAdd, Nat.reduceSub, Nat.reduceMul, Nat.reduceBEq, Nat.reduceLT, Nat.reduceLeDiff, Nat.reduceMod, Nat.reducePow, List.reduceReplicate, UInt8.reduceOfNat, Int.reducePow, Int.reduceDiv, Int.reduceMod, Nat.reduceDiv, Int.reduceNeg, Int.reduceAdd, Int.reduceSub, Int.reduceMul, Int.reduceLE, Int.reduceLT, Int.reduceEq, Int.reduceToNat, reduceCtorEq, -List.reduceReplicate, List.toList_toArray, hCl]
        refine Tri.upd (Upd.go (H' := (b7, .cells (cellsD d vn' vl (.slice ay1 names.length cy1)) [] 27) :: (kl ++ ((b3, .cells C [] 27) :: (b6, .cells zeroC [] 27) :: (bx, .cells XC [] tyX) :: (kn' ++ (F' ++ H))))) (by intro fsum; simp only [List.map_append, List.map_cons, List.map_nil, List.sum_append, List.sum_cons, List.sum_nil, List.cons_append, List.nil_append]; omega) (Upd.now ?_))
        refine Tri.live [2, 3, 6, 7, 10, 19, 20, 21] ?_
        refine Tri.isPiece [1, 1, 0, 1, 0, 0, 1, 1, 0, 0, 1, 1, 1, 1] Try.f30 (by kernel_rfl) ?_
        refine Tri.onlyN (w9_t (labs := (labW d g).take i) (x := g d.names[n]) O.ofl (i := i) (by omega) (by rw [List.length_take]; omega) hkl) fun G5 l5 H5 hle5 hs5 hM5 => ?_
        obtain ⟨vl', kl', rfl, hkl', hfr5, rfl⟩ := hM5
        simp only [go_sem]
        refine Tri.live [2, 3, 6, 7, 19, 20, 21] ?_
        rw [hfr5]
        refine Tri.run tok [0, 1, 2, 3, 6, 7, 8, 9, 10, 19, 20, 21, 22, 38] (by kernel_rfl) ?_
        repeat' first
          | with_reducible refine Br.yes ?_
          | with_reducible refine Br.no ?_
          | with_reducible refine Br.dec (fun _ => ?_) (fun _ => ?_)
          | with_reducible refine Br.beqB (fun _ => ?_) (fun _ => ?_)
          | with_reducible refine Br.beqb (fun _ => ?_) (fun _ => ?_)
          | with_reducible refine Br.mk (fun _ => ?_) (fun _ => ?_)
          | with_reducible refine foundO.mk (fun _ _ => ?_) (fun _ => ?_)
          | with_reducible refine appV.zero ?_
          | with_reducible refine appV.own ?_
          | ((with_reducible refine NewB.mk fun nb hnb => ?_); have hnb1 := hnb.1.1; have hnb2 := hnb.1.2; try simp only [keys_cons, keys_app, keys_nil, NotIn_cons, NotIn_app, NotIn_nil, and_true] at hnb2)
          | ((with_reducible refine NewRow.mk fun nb nsp ncap hnb hncap => ?_); have hnb1 := hnb.1.1; have hnb2 := hnb.1.2; try simp only [keys_cons, keys_app, keys_nil, NotIn_cons, NotIn_app, NotIn_nil, and_true] at hnb2)
          | simp (dsimp := false) (implicitDefEqProofs := false) (disch := first | assumption | (simp only [List.mem_cons, List.mem_append, true_or, or_true, eq_self]; done) | omega | (with_reducible refine Row.adr (by assumption) ?_; simp only [List.length_map, List.length_take, List.length_drop]; omega) | (simp only [List.length_cons, List.length_nil, List.length_map, List.length_append, List.length_replicate, Nat.reduceAdd, true_and, and_true, and_self]; first | done | omega)) only [go_sem, ↓reduceIte, Nat.reduceEqDiff, Nat.reduceAdd, Nat.reduceSub, Nat.reduceMul, Nat.reduceBEq, Nat.reduceLT, Nat.reduceLeDiff, Nat.reduceMod, Nat.reducePow, List.reduceReplicate, UInt8.reduceOfNat, Int.reducePow, Int.reduceDiv, Int.reduceMod, Nat.reduceDiv, Int.reduceNeg, Int.reduceAdd, Int.reduceSub, Int.reduceMul, Int.reduceLE, Int.reduceLT, Int.reduceEq, Int.reduceToNat, reduceCtorEq, -List.reduceReplicate]
        rw [← hlx] at hkl'
        refine Upd.leave (H' := (b7, .cells (cellsD d vn' vl' (.slice ay1 names.length cy1)) [] 27) :: (b3, .cells C [] 27) :: (b6, .cells zeroC [] 27) :: (bx, .cells XC [] tyX) :: (kn' ++ (kl' ++ (F' ++ H)))) (by intro fsum; simp only [List.map_append, List.map_cons, List.map_nil, List.sum_append, List.sum_cons, List.sum_nil, List.cons_append, List.nil_append]; omega) ?_
        exact ⟨q - 1, by omega, i + 1, vn', vl', _, kn', kl', F', by omega, rfl, hkn', hkl', hF', rfl, rfl⟩
      · rw [if_neg h0] at hlx
        repeat' first
          | with_reducible refine Br.yes ?_
          | with_reducible refine Br.no ?_
          | with_reducible refine Br.dec (fun _ => ?_) (fun _ => ?_)
          | with_reducible refine Br.beqB (fun _ => ?_) (fun _ => ?_)
          | with_reducible refine Br.beqb (fun _ => ?_) (fun _ => ?_)
          | with_reducible refine Br.mk (fun _ => ?_) (fun _ => ?_)
          | with_reducible refine foundO.mk (fun _ _ => ?_) (fun _ => ?_)
          | with_reducible refine appV.zero ?_
          | with_reducible refine appV.own ?_
          | ((with_reducible refine NewB.mk fun nb hnb => ?_); have hnb1 := hnb.1.1; have hnb2 := hnb.1.2; try simp only [keys_cons, keys_app, keys_nil, NotIn_cons, NotIn_app, NotIn_nil, and_true] at hnb2)
          | ((with_reducible refine NewRow.mk fun nb nsp ncap hnb hncap => ?_); have hnb1 := hnb.1.1; have hnb2 := hnb.1.2; try simp only [keys_cons, keys_app, keys_nil, NotIn_cons, NotIn_app, NotIn_nil, and_true] at hnb2)
          | simp (dsimp := false) (implicitDefEqProofs := false) (disch := first | assumption | (simp only [List.mem_cons, List.mem_append, true_or, or_true, eq_self]; done) | omega | (with_reducible refine Row.adr (by assumption) ?_; simp only [List.length_map, List.length_take, List.length_drop]; omega) | (simp only [List.length_cons, List.length_nil, List.length_map, List.length_append, List.length_replicate, Nat.reduceAdd, true_and, and_true, and_self]; first | done | omega)) only [go_sem, ↓reduceIte, Nat.reduceEqDiff, Nat.reduceAdd, Nat.reduceSub, Nat.reduceMul, Nat.reduceBEq, Nat.reduceLT, Nat.reduceLeDiff, Nat.reduceMod, Nat.reducePow, List.reduceReplicate, UInt8.reduceOfNat, Int.reducePow, Int.reduceDiv, Int.reduceMod, Nat.reduceDiv, Int.reduceNeg, Int.reduceAdd, Int.reduceSub, Int.reduceMul, Int.reduceLE, Int.reduceLT, Int.reduceEq, Int.reduceToNat, reduceCtorEq, -List.reduceReplicate, List.toList_toArray, hCl, hCx, Row.obj O1.rl, List.getElem_map]
        refine Tri.upd (Upd.go (H' := (b7, .cells (cellsD d vn' vl (.slice ay1 names.length cy1)) [] 27) :: (kl ++ ((b3, .cells C [] 27) :: (b6, .cells zeroC [] 27) :: (bx, .cells XC [] tyX) :: (kn' ++ (F' ++ H))))) (by intro fsum; simp only [List.map_append, List.map_cons, List.map_nil, List.sum_append, List.sum_cons, List.sum_nil, List.cons_append, List.nil_append]; omega) (Upd.now ?_))
        refine Tri.live [2, 3, 6, 7, 10, 19, 20, 21] ?_
        refine Tri.isPiece [1, 1, 0, 1, 0, 0, 1, 1, 0, 0, 1, 1, 1, 1] Try.f30 (by kernel_rfl) ?_
        refine Tri.onlyN (w9_t (labs := (labW d g).take i) (x := 0) O.ofl (i := i) (by omega) (by rw [List.length_take]; omega) hkl) fun G5 l5 H5 hle5 hs5 hM5 => ?_
        obtain ⟨vl', kl', rfl, hkl', hfr5, rfl⟩ := hM5
        simp only [go_sem]
        refine Tri.live [2, 3, 6, 7, 19, 20, 21] ?_
        rw [hfr5]
        refine Tri.run tok [0, 1, 2, 3, 6, 7, 8, 9, 10, 19, 20, 21, 22, 38] (by kernel_rfl) ?_
        repeat' first
          | with_reducible refine Br.yes ?_
          | with_reducible refine Br.no ?_
          | with_reducible refine Br.dec (fun _ => ?_) (fun _ => ?_)
          | with_reducible refine Br.beqB (fun _ => ?_) (fun _ => ?_)
          | with_reducible refine Br.beqb (fun _ => ?_) (fun _ => ?_)
          | with_reducible refine Br.mk (fun _ => ?_) (fun _ => ?_)
          | with_reducible refine foundO.mk (fun _ _ => ?_) (fun _ => ?_)
          | with_reducible refine appV.zero ?_
          | with_reducible refine appV.own ?_
          | ((with_reducible refine NewB.mk fun nb hnb => ?_); have hnb1 := hnb.1.1; have hnb2 := hnb.1.2; try simp only [keys_cons, keys_app, keys_nil, NotIn_cons, NotIn_app, NotIn_nil, and_true] at hnb2)
          | ((with_reducible refine NewRow.mk fun nb nsp ncap hnb hncap => ?_); have hnb1 := hnb.1.1; have hnb2 := hnb.1.2; try simp only [keys_cons, keys_app, keys_nil, NotIn_cons, NotIn_app, NotIn_nil, and_true] at hnb2)
          | simp (dsimp := false) (implicitDefEqProofs := false) (disch := first | assumption | (simp only [List.mem_cons, List.mem_append, true_or, or_true, eq_self]; done) | omega | (with_reducible refine Row.adr (by assumption) ?_; simp only [List.length_map, List.length_take, List.length_drop]; omega) | (simp only [List.length_cons, List.length_nil, List.length_map, List.length_append, List.length_replicate, Nat.reduceAdd, true_and, and_true, and_self]; first | done | omega)) only [go_sem, ↓reduceIte, Nat.reduceEqDiff, Nat.reduceAdd, Nat.reduceSub, Nat.reduceMul, Nat.reduceBEq, Nat.reduceLT, Nat.reduceLeDiff, Nat.reduceMod, Nat.reducePow, List.reduceReplicate, UInt8.reduceOfNat, Int.reducePow, Int.reduceDiv, Int.reduceMod, Nat.reduceDiv, Int.reduceNeg, Int.reduceAdd, Int.reduceSub, Int.reduceMul, Int.reduceLE, Int.reduceLT, Int.reduceEq, Int.reduceToNat, reduceCtorEq, -List.reduceReplicate]
        rw [← hlx] at hkl'
        refine Upd.leave (H' := (b7, .cells (cellsD d vn' vl' (.slice ay1 names.length cy1)) [] 27) :: (b3, .cells C [] 27) :: (b6, .cells zeroC [] 27) :: (bx, .cells XC [] tyX) :: (kn' ++ (kl' ++ (F' ++ H)))) (by intro fsum; simp only [List.map_append, List.map_cons, List.map_nil, List.sum_append, List.sum_cons, List.sum_nil, List.cons_append, List.nil_append]; omega) ?_
        exact ⟨q - 1, by omega, i + 1, vn', vl', _, kn', kl', F', by omega, rfl, hkn', hkl', hF', rfl, rfl⟩
    · obtain rfl : i = d.next.length := by omega
      rcases hkn with ⟨_, _, h0, _, _⟩ | ⟨bn, cn2, spn, rfl, rfl, hx, hxc⟩
      · omega
      rcases hkl with ⟨_, _, h0, _, _⟩ | ⟨bl, cl2, spl, rfl, rfl, hy, hyc⟩
      · omega
      rw [List.take_of_length_le (by omega)] at hF
      rw [List.take_of_length_le (by omega)] at hs2 hy hyc ⊢
      rw [List.length_map, Nat.mul_one] at hyc
      rw [Nat.mul_one] at hx hxc
      have hsE := hs2
      try simp only [keys_cons, keys_app, keys_nil, Sep_cons, Sep_nil, NotIn_cons, NotIn_app, NotIn_nil, List.cons_append, List.nil_append, List.append_assoc, and_assoc, and_true, true_and] at hsE
      repeat (obtain ⟨hsx, hsE⟩ := hsE)
      have hone := cellsD_one (d := d) (vn := .slice (some ⟨bn, 0, none⟩) d.next.length cn2) (vl := .slice (some ⟨bl, 0, none⟩) d.next.length cl2) (vs := .slice ay1 names.length cy1) rfl rfl rfl
      repeat' first
        | with_reducible refine Br.yes ?_
        | with_reducible refine Br.no ?_
        | with_reducible refine Br.dec (fun _ => ?_) (fun _ => ?_)
        | with_reducible refine Br.beqB (fun _ => ?_) (fun _ => ?_)
        | with_reducible refine Br.beqb (fun _ => ?_) (fun _ => ?_)
        | with_reducible refine Br.mk (fun _ => ?_) (fun _ => ?_)
        | with_reducible refine foundO.mk (fun _ _ => ?_) (fun _ => ?_)
        | with_reducible refine appV.zero ?_
        | with_reducible refine appV.own ?_
        | ((with_reducible refine NewB.mk fun nb hnb => ?_); have hnb1 := hnb.1.1; have hnb2 := hnb.1.2; try simp only [keys_cons, keys_app, keys_nil, NotIn_cons, NotIn_app, NotIn_nil, and_true] at hnb2)
        | ((with_reducible refine NewRow.mk fun nb nsp ncap hnb hncap => ?_); have hnb1 := hnb.1.1; have hnb2 := hnb.1.2; try simp only [keys_cons, keys_app, keys_nil, NotIn_cons, NotIn_app, NotIn_nil, and_true] at hnb2)
        | simp (dsimp := false) (implicitDefEqProofs := false) (disch := first | assumption | (simp only [List.mem_cons, List.mem_append, true_or, or_true, eq_self]; done) | omega | (with_reducible refine Row.adr (by assumption) ?_; simp only [List.length_map, List.length_take, List.length_drop]; omega) | (simp only [List.length_cons, List.length_nil, List.length_map, List.length_append, List.length_replicate, Nat.reduceAdd, true_and, and_true, and_self]; first | done | omega)) only [go_sem, ↓reduceIte, Nat.reduceEqDiff, Nat.reduceAdd, Nat.reduceSub, Nat.reduceMul, Nat.reduceBEq, Nat.reduceLT, Nat.reduceLeDiff, Nat.reduceMod, Nat.reducePow, List.reduceReplicate, UInt8.reduceOfNat, Int.reducePow, Int.reduceDiv, Int.reduceMod, Nat.reduceDiv, Int.reduceNeg, Int.reduceAdd, Int.reduceSub, Int.reduceMul, Int.reduceLE, Int.reduceLT, Int.reduceEq, Int.reduceToNat, reduceCtorEq, -List.reduceReplicate, List.toList_toArray, hl2, ht2, hputz, hone, zeroC_len]
      unfold UpdR
      refine Upd.leave (H' := (bn, .cells rv spn 24) :: (bl, .cells ((labW d g).map (Value.int .i64)) spl 3) :: (F ++ ((bx, .cells XC [] tyX) :: H))) (by intro fsum; simp only [List.map_append, List.map_cons, List.map_nil, List.sum_append, List.sum_cons, List.sum_nil, List.cons_append, List.nil_append]; omega) ?_
      rw [hk3]
      exact fun _ hs => hR _ _ bn cn2 spn rv bl cl2 spl F hle1 hs hvs hF (by omega) (by omega)
end Go.Proofs.Ytpagkndgjihbbaa
