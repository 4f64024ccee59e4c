/- A machine that tells nothing of the empty word: the document's. -/
import Derived.Test.YtpagkndgjihbbaaVl
set_option linter.unusedSimpArgs false
set_option linter.unusedVariables false
namespace Go.Proofs.Ytpagkndgjihbbaa
open Go Go.V Go.Proofs

/-- rows that are written no more -/
def Rws (G : PHeap) (rv : List Value) (M : List (List Int)) : Prop := rv.length = M.length ∧ ∀ i (h : i < M.length) (h2 : i < rv.length), ∃ b c, rv[i] = .slice b M[i].length c ∧ Row G b (M[i].map (Value.int .i64)) ∧ M[i].length ≤ c
theorem Rws.nil (G : PHeap) : Rws G [] [] := ⟨rfl, fun i h => by cases h⟩
theorem Rws.mono {G G' : PHeap} (hle : PLe G G') {rv : List Value} {M : List (List Int)} (h : Rws G rv M) : Rws G' rv M := by
  refine ⟨h.1, fun i h1 h2 => ?_⟩
  obtain ⟨b, c, e1, e2, e3⟩ := h.2 i h1 h2
  exact ⟨b, c, e1, e2.mono hle, e3⟩
theorem Rws.snoc {G : PHeap} {rv : List Value} {M : List (List Int)} (h : Rws G rv M) {b : Option Addr} {c : Nat} {r : List Int} (hr : Row G b (r.map (Value.int .i64))) (hc : r.length ≤ c) : Rws G (rv ++ [.slice b r.length c]) (M ++ [r]) := by
  have h1 := h.1
  refine ⟨by simp [h1], fun i hi hi2 => ?_⟩
  rcases Nat.lt_or_ge i M.length with g | g
  · obtain ⟨b', c', e1, e2, e3⟩ := h.2 i g (by omega)
    refine ⟨b', c', ?_, ?_, ?_⟩
    · rw [List.getElem_append_left (by omega), List.getElem_append_left g]; exact e1
    · rw [List.getElem_append_left g]; exact e2
    · rw [List.getElem_append_left g]; exact e3
  · rw [List.length_append, List.length_singleton] at hi
    obtain rfl : i = M.length := by omega
    refine ⟨b, c, ?_, ?_, ?_⟩
    · rw [List.getElem_append_right (by omega), List.getElem_append_right (by omega)]; simp [h1]
    · rw [List.getElem_append_right (by omega)]; simp; exact hr
    · rw [List.getElem_append_right (by omega)]; simp; exact hc
theorem Rws.one {G : PHeap} {rv : List Value} {M : List (List Int)} (h : Rws G rv M) : rv.all oneV = true := by
  refine List.all_eq_true.2 fun v hv => ?_
  obtain ⟨i, hi, rfl⟩ := List.getElem_of_mem hv
  obtain ⟨a, c, e, _⟩ := h.2 i (by have := h.1; omega) hi
  rw [e]; rfl
/-- the i-th row of the new machine, and its label -/
theorem plusD_next {d : DfaT} (h : 0 < d.next.length) {i : Nat} (hi : i ≤ d.next.length) : (plusD d).next[i]'(by show i < ((d.next.headD []).map (· + 1) :: d.next.map (fun r => r.map (· + 1))).length; rw [List.length_cons, List.length_map]; omega) = (d.next[i - 1]'(by omega)).map (· + 1) := by
  cases i with
  | zero =>
    show (d.next.headD []).map (· + 1) = _
    have hh : ∀ (l : List (List Int)) (h : 0 < l.length), l.headD [] = l[0] := fun l h => by
      cases l with
      | nil => cases h
      | cons a l => rfl
    rw [hh d.next h]
  | succ i =>
    show (d.next.map (fun r => r.map (· + 1)))[i]'_ = _
    rw [List.getElem_map]
    rfl
set_option maxHeartbeats 8000000 in
theorem q16_t {d : DfaT} (hsm : SmallD d) {C : List Value} {an al ay : Option Addr} {cn cl cs : Nat} {rs : List Value} {G : PHeap} {H : Heap} (O : OpenD G d C an al ay cn cl cs rs) {v2 v3 v4 v5 v7 : Value} {b1 s j : Nat} {row : List Int} (hs : s < d.next.length) (hrow : row = d.next[s]) (hj : j < row.length) (hjl : row.length ≤ 256) (hrng : ∀ x ∈ row, 0 ≤ x ∧ x < 70000) {kr : Heap} (hkr : SliceO [] 3 1 v7 j (((row.take j).map (· + 1)).map (Value.int .i64)) kr) :
    Tri Try.prog Try.f21.ntmps (piece [1, 1, 1, 1, 1, 0, 1, 0, 0, 1, 0, 0, 1, 1, 0, 1, 0, 0, 1, 0, 0] Try.f21) G [(1, .pointer (some ⟨b1, 0, none⟩)), (2, v2), (3, v3), (4, v4), (5, v5), (6, .int .i64 (s : Nat)), (7, v7), (8, .int .i64 (j : Nat))] ((b1, .cells C [] 27) :: (kr ++ H)) (onlyN fun G' fr' H' =>
      ∃ v7' kr', G' = G ∧ SliceO [] 3 1 v7' (j + 1) (((row.take (j + 1)).map (· + 1)).map (Value.int .i64)) kr' ∧ restrict [1, 2, 3, 4, 5, 6, 7, 8] fr' = [(1, .pointer (some ⟨b1, 0, none⟩)), (2, v2), (3, v3), (4, v4), (5, v5), (6, .int .i64 (s : Nat)), (7, v7'), (8, .int .i64 (j : Nat))] ∧ H' = (b1, .cells C [] 27) :: (kr' ++ H)) := by
  have hCl := O.len
  have hCn := O.n
  have hr1 : ∀ x : Value, List.replicate 1 x = [x] := fun _ => rfl
  have hiv : s < rs.length := by have := O.rnl; omega
  obtain ⟨b, c, e1, e2, e3⟩ := O.rs s hs hiv
  have hadn : Adr an := O.rn.adr (by omega)
  rw [← hrow] at e1 e2 e3
  have hadb : Adr b := e2.adr (by rw [List.length_map]; omega)
  have hx := hrng row[j] (List.getElem_mem hj)
  have htk : row.take (j + 1) = row.take j ++ [row[j]] := List.take_succ_eq_append_getElem hj
  have hln : ((row.take j).map (· + 1)).length = j := by simp; omega
  have hm1 := hsm.1
  rw [htk, List.map_append, List.map_append]
  refine Tri.sepT fun hs0 => ?_
  rcases hkr with ⟨aa, rfl, hi0, hx0, rfl⟩ | ⟨bl, cc, sp, rfl, rfl, hx0, hcl⟩
  · have hsE := hs0
    try simp only [keys_cons, keys_app, keys_nil, Sep_cons, Sep_nil, NotIn_cons, NotIn_app, NotIn_nil, List.cons_append, List.nil_append, List.append_assoc, and_assoc, and_true, true_and] at hsE
    repeat (obtain ⟨hsx, hsE⟩ := hsE)
    refine Tri.piece (f := Try.f21) rfl ?_
    refine Tri.run tok [0, 1, 2, 3, 4, 5, 6, 7, 8, 9, 12, 18, 23, 36, 45, 61] (by kernel_rfl) ?_
    repeat' first
      | with_reducible refine Br.yes ?_
      | with_reducible refine Br.no ?_
      | with_reducible refine Br.dec (fun _ => ?_) (fun _ => ?_)
      | with_reducible refine Br.beqB (fun _ => ?_) (fun _ => ?_)
      | with_reducible refine Br.beqb (fun _ => ?_) (fun _ => ?_)
      | with_reducible refine Br.mk (fun _ => ?_) (fun _ => ?_)
      | with_reducible refine foundO.mk (fun _ _ => ?_) (fun _ => ?_)
      | with_reducible refine appV.zero ?_
      | with_reducible refine appV.own ?_
      | ((with_reducible refine NewB.mk fun nb hnb => ?_); have hnb1 := hnb.1.1; have hnb2 := hnb.1.2; try simp only [keys_cons, keys_app, keys_nil, NotIn_cons, NotIn_app, NotIn_nil, and_true] at hnb2)
      | ((with_reducible refine NewRow.mk fun nb nsp ncap hnb hncap => ?_); have hnb1 := hnb.1.1; have hnb2 := hnb.1.2; try simp only [keys_cons, keys_app, keys_nil, NotIn_cons, NotIn_app, NotIn_nil, and_true] at hnb2)
      | simp (dsimp := false) (implicitDefEqProofs := false) (disch := first | assumption | (simp only [List.mem_cons, List.mem_append, true_or, or_true, eq_self]; done) | omega | (with_reducible refine Row.adr (by assumption) ?_; simp only [List.length_map, List.length_take, List.length_drop]; omega) | (simp only [List.length_cons, List.length_nil, List.length_map, List.length_append, List.length_replicate, Nat.reduceAdd, true_and, and_true, and_self]; first | done | omega)) only [go_sem, ↓reduceIte, Nat.reduceEqDiff, Nat.reduceAdd, Nat.reduceSub, Nat.reduceMul, Nat.reduceBEq, Nat.reduceLT, Nat.reduceLeDiff, Nat.reduceMod, Nat.reducePow, List.reduceReplicate, UInt8.reduceOfNat, Int.reducePow, Int.reduceDiv, Int.reduceMod, Nat.reduceDiv, Int.reduceNeg, Int.reduceAdd, Int.reduceSub, Int.reduceMul, Int.reduceLE, Int.reduceLT, Int.reduceEq, Int.reduceToNat, reduceCtorEq, -List.reduceReplicate, List.toList_toArray, hCl, hCn, Row.obj O.rn, e1, Row.obj e2, List.getElem_map, hr1]
    refine Upd.leave (H' := (b1, .cells C [] 27) :: ([(nb, .cells [.int .i64 (row[j] + 1)] nsp 3)] ++ H)) (by intro fsum; simp only [List.map_append, List.map_cons, List.map_nil, List.sum_append, List.sum_cons, List.sum_nil, List.cons_append, List.nil_append]; omega) ?_
    exact ⟨_, _, rfl, .inr ⟨nb, ncap, nsp, by rw [hi0], by rw [hx0]; rfl, by rw [hx0]; simp; omega, by rw [hx0]; simp at hncap ⊢; omega⟩, rfl, rfl⟩
  · rw [List.length_map, Nat.mul_one] at hx0 hcl
    have hsE := hs0
    try simp only [keys_cons, keys_app, keys_nil, Sep_cons, Sep_nil, NotIn_cons, NotIn_app, NotIn_nil, List.cons_append, List.nil_append, List.append_assoc, and_assoc, and_true, true_and] at hsE
    repeat (obtain ⟨hsx, hsE⟩ := hsE)
    refine Tri.piece (f := Try.f21) rfl ?_
    refine Tri.run tok [0, 1, 2, 3, 4, 5, 6, 7, 8, 9, 12, 18, 23, 36, 45, 61] (by kernel_rfl) ?_
    repeat' first
      | with_reducible refine Br.yes ?_
      | with_reducible refine Br.no ?_
      | with_reducible refine Br.dec (fun _ => ?_) (fun _ => ?_)
      | with_reducible refine Br.beqB (fun _ => ?_) (fun _ => ?_)
      | with_reducible refine Br.beqb (fun _ => ?_) (fun _ => ?_)
      | with_reducible refine Br.mk (fun _ => ?_) (fun _ => ?_)
      | with_reducible refine foundO.mk (fun _ _ => ?_) (fun _ => ?_)
      | with_reducible refine appV.zero ?_
      | with_reducible refine appV.own ?_
      | ((with_reducible refine NewB.mk fun nb hnb => ?_); have hnb1 := hnb.1.1; have hnb2 := hnb.1.2; try simp only [keys_cons, keys_app, keys_nil, NotIn_cons, NotIn_app, NotIn_nil, and_true] at hnb2)
      | ((with_reducible refine NewRow.mk fun nb nsp ncap hnb hncap => ?_); have hnb1 := hnb.1.1; have hnb2 := hnb.1.2; try simp only [keys_cons, keys_app, keys_nil, NotIn_cons, NotIn_app, NotIn_nil, and_true] at hnb2)
      | simp (dsimp := false) (implicitDefEqProofs := false) (disch := first | assumption | (simp only [List.mem_cons, List.mem_append, true_or, or_true, eq_self]; done) | omega | (with_reducible refine Row.adr (by assumption) ?_; simp only [List.length_map, List.length_take, List.length_drop]; omega) | (simp only [List.length_cons, List.length_nil, List.length_map, List.length_append, List.length_replicate, Nat.reduceAdd, true_and, and_true, and_self]; first | done | omega)) only [go_sem, ↓reduceIte, Nat.reduceEqDiff, Nat.reduceAdd, Nat.reduceSub, Nat.reduceMul, Nat.reduceBEq, Nat.reduceLT, Nat.reduceLeDiff, Nat.reduceMod, Nat.reducePow, List.reduceReplicate, UInt8.reduceOfNat, Int.reducePow, Int.reduceDiv, Int.reduceMod, Nat.reduceDiv, Int.reduceNeg, Int.reduceAdd, Int.reduceSub, Int.reduceMul, Int.reduceLE, Int.reduceLT, Int.reduceEq, Int.reduceToNat, reduceCtorEq, -List.reduceReplicate, List.toList_toArray, hCl, hCn, Row.obj O.rn, e1, Row.obj e2, List.getElem_map, hr1, hln, List.length_map]
    refine Upd.leave (H' := (b1, .cells C [] 27) :: ([(nb, .cells (((row.take j).map (· + 1)).map (Value.int .i64) ++ [.int .i64 (row[j] + 1)]) nsp 3)] ++ H)) (by intro fsum; simp only [List.map_append, List.map_cons, List.map_nil, List.sum_append, List.sum_cons, List.sum_nil, List.cons_append, List.nil_append]; omega) ?_
    exact ⟨_, _, rfl, .inr ⟨nb, ncap, nsp, rfl, rfl, by simp; omega, by simp at hncap ⊢; omega⟩, rfl, rfl⟩
set_option maxHeartbeats 8000000 in
theorem q20_t {d : DfaT} (hd : d.of.length = 256) {i : Nat} (hi : i ≤ 70000) {G : PHeap} {H : Heap} {v1 v2 v3 v5 v9 vn vl vs : Value} {a7 : Option Addr} {n7 c7 : Nat} {b4 : Nat} {rv : List Value} {kn : Heap} (hone : rv.all oneV = true) (hkn : SliceO [] 24 1 vn i rv kn) :
    Tri Try.prog Try.f21.ntmps (piece [1, 1, 1, 1, 1, 0, 1, 0, 0, 1, 0, 0, 1, 1, 1, 1, 1, 0] Try.f21) G [(1, v1), (2, v2), (3, v3), (4, .pointer (some ⟨b4, 0, none⟩)), (5, v5), (7, .slice a7 n7 c7), (9, v9)] ((b4, .cells (cellsD d vn vl vs) [] 27) :: (kn ++ H)) (onlyN fun G' fr' H' =>
      ∃ vn' kn', G' = G ∧ SliceO [] 24 1 vn' (i + 1) (rv ++ [.slice a7 n7 c7]) kn' ∧ restrict [1, 2, 3, 4, 5, 9] fr' = [(1, v1), (2, v2), (3, v3), (4, .pointer (some ⟨b4, 0, none⟩)), (5, v5), (9, v9)] ∧ H' = (b4, .cells (cellsD d vn' vl vs) [] 27) :: (kn' ++ H)) := by
  have hr1 : ∀ x : Value, List.replicate 1 x = [x] := fun _ => rfl
  have hl2 : ∀ a b c : Value, (cellsD d a b c).length = 260 := fun a b c => cellsD_len hd _ _ _
  have hg1 : ∀ a b c : Value, (cellsD d a b c)[257]? = some a := fun a b c => cellsD_n hd _ _ _
  have hputN : ∀ a b c x : Value, splice (cellsD d a b c) 257 [x] = cellsD d x b c := fun a b c x => cellsD_putN hd _ _ _ _
  refine Tri.sepT fun hs0 => ?_
  rcases hkn with ⟨aa, rfl, hi0, hx, rfl⟩ | ⟨bl, cc, sp, rfl, rfl, hx, hcl⟩
  · have hsE := hs0
    try simp only [keys_cons, keys_app, keys_nil, Sep_cons, Sep_nil, NotIn_cons, NotIn_app, NotIn_nil, List.cons_append, List.nil_append, List.append_assoc, and_assoc, and_true, true_and] at hsE
    repeat (obtain ⟨hsx, hsE⟩ := hsE)
    refine Tri.piece (f := Try.f21) rfl ?_
    refine Tri.run tok [0, 1, 2, 3, 4, 5, 6, 7, 8, 9, 12, 18, 23, 36, 45, 61] (by kernel_rfl) ?_
    repeat' first
      | with_reducible refine Br.yes ?_
      | with_reducible refine Br.no ?_
      | with_reducible refine Br.dec (fun _ => ?_) (fun _ => ?_)
      | with_reducible refine Br.beqB (fun _ => ?_) (fun _ => ?_)
      | with_reducible refine Br.beqb (fun _ => ?_) (fun _ => ?_)
      | with_reducible refine Br.mk (fun _ => ?_) (fun _ => ?_)
      | with_reducible refine foundO.mk (fun _ _ => ?_) (fun _ => ?_)
      | with_reducible refine appV.zero ?_
      | with_reducible refine appV.own ?_
      | ((with_reducible refine NewB.mk fun nb hnb => ?_); have hnb1 := hnb.1.1; have hnb2 := hnb.1.2; try simp only [keys_cons, keys_app, keys_nil, NotIn_cons, NotIn_app, NotIn_nil, and_true] at hnb2)
      | ((with_reducible refine NewRow.mk fun nb nsp ncap hnb hncap => ?_); have hnb1 := hnb.1.1; have hnb2 := hnb.1.2; try simp only [keys_cons, keys_app, keys_nil, NotIn_cons, NotIn_app, NotIn_nil, and_true] at hnb2)
      | simp (dsimp := false) (implicitDefEqProofs := false) (disch := first | assumption | (simp only [List.mem_cons, List.mem_append, true_or, or_true, eq_self]; done) | omega | (with_reducible refine Row.adr (by assumption) ?_; simp only [List.length_map, List.length_take, List.length_drop]; omega) | (simp only [List.length_cons, List.length_nil, List.length_map, List.length_append, List.length_replicate, Nat.reduceAdd, true_and, and_true, and_self]; first | done | omega)) only [go_sem, ↓reduceIte, Nat.reduceEqDiff, Nat.reduceAdd, Nat.reduceSub, Nat.reduceMul, Nat.reduceBEq, Nat.reduceLT, Nat.reduceLeDiff, Nat.reduceMod, Nat.reducePow, List.reduceReplicate, UInt8.reduceOfNat, Int.reducePow, Int.reduceDiv, Int.reduceMod, Nat.reduceDiv, Int.reduceNeg, Int.reduceAdd, Int.reduceSub, Int.reduceMul, Int.reduceLE, Int.reduceLT, Int.reduceEq, Int.reduceToNat, reduceCtorEq, -List.reduceReplicate, hl2, hg1, hputN, hr1, hone]
    refine Upd.leave (H' := (b4, .cells (cellsD d (.slice (some ⟨nb, 0, none⟩) 1 ncap) vl vs) [] 27) :: ([(nb, .cells [.slice a7 n7 c7] nsp 24)] ++ H)) (by intro fsum; simp only [List.map_append, List.map_cons, List.map_nil, List.sum_append, List.sum_cons, List.sum_nil, List.cons_append, List.nil_append]; omega) ?_
    exact ⟨_, _, rfl, .inr ⟨nb, ncap, nsp, by rw [hi0], by rw [hx]; rfl, by rw [hx, hi0]; rfl, by rw [hx]; simp at hncap ⊢; omega⟩, rfl, rfl⟩
  · rw [Nat.mul_one] at hx hcl
    have hsE := hs0
    try simp only [keys_cons, keys_app, keys_nil, Sep_cons, Sep_nil, NotIn_cons, NotIn_app, NotIn_nil, List.cons_append, List.nil_append, List.append_assoc, and_assoc, and_true, true_and] at hsE
    repeat (obtain ⟨hsx, hsE⟩ := hsE)
    refine Tri.piece (f := Try.f21) rfl ?_
    refine Tri.run tok [0, 1, 2, 3, 4, 5, 6, 7, 8, 9, 12, 18, 23, 36, 45, 61] (by kernel_rfl) ?_
    repeat' first
      | with_reducible refine Br.yes ?_
      | with_reducible refine Br.no ?_
      | with_reducible refine Br.dec (fun _ => ?_) (fun _ => ?_)
      | with_reducible refine Br.beqB (fun _ => ?_) (fun _ => ?_)
      | with_reducible refine Br.beqb (fun _ => ?_) (fun _ => ?_)
      | with_reducible refine Br.mk (fun _ => ?_) (fun _ => ?_)
      | with_reducible refine foundO.mk (fun _ _ => ?_) (fun _ => ?_)
      | with_reducible refine appV.zero ?_
      | with_reducible refine appV.own ?_
      | ((with_reducible refine NewB.mk fun nb hnb => ?_); have hnb1 := hnb.1.1; have hnb2 := hnb.1.2; try simp only [keys_cons, keys_app, keys_nil, NotIn_cons, NotIn_app, NotIn_nil, and_true] at hnb2)
      | ((with_reducible refine NewRow.mk fun nb nsp ncap hnb hncap => ?_); have hnb1 := hnb.1.1; have hnb2 := hnb.1.2; try simp only [keys_cons, keys_app, keys_nil, NotIn_cons, NotIn_app, NotIn_nil, and_true] at hnb2)
      | simp (dsimp := false) (implicitDefEqProofs := false) (disch := first | assumption | (simp only [List.mem_cons, List.mem_append, true_or, or_true, eq_self]; done) | omega | (with_reducible refine Row.adr (by assumption) ?_; simp only [List.length_map, List.length_take, List.length_drop]; omega) | (simp only [List.length_cons, List.length_nil, List.length_map, List.length_append, List.length_replicate, Nat.reduceAdd, true_and, and_true, and_self]; first | done | omega)) only [go_sem, ↓reduceIte, Nat.reduceEqDiff, Nat.reduceAdd, Nat.reduceSub, Nat.reduceMul, Nat.reduceBEq, Nat.reduceLT, Nat.reduceLeDiff, Nat.reduceMod, Nat.reducePow, List.reduceReplicate, UInt8.reduceOfNat, Int.reducePow, Int.reduceDiv, Int.reduceMod, Nat.reduceDiv, Int.reduceNeg, Int.reduceAdd, Int.reduceSub, Int.reduceMul, Int.reduceLE, Int.reduceLT, Int.reduceEq, Int.reduceToNat, reduceCtorEq, -List.reduceReplicate, hl2, hg1, hputN, hr1, hone]
    refine Upd.leave (H' := (b4, .cells (cellsD d (.slice (some ⟨nb, 0, none⟩) (i + 1) ncap) vl vs) [] 27) :: ([(nb, .cells (rv ++ [.slice a7 n7 c7]) nsp 24)] ++ H)) (by intro fsum; simp only [List.map_append, List.map_cons, List.map_nil, List.sum_append, List.sum_cons, List.sum_nil, List.cons_append, List.nil_append]; omega) ?_
    exact ⟨_, _, rfl, .inr ⟨nb, ncap, nsp, rfl, rfl, by rw [List.length_append, hx]; simp, by rw [List.length_append, hx]; simp at hncap ⊢; omega⟩, rfl, rfl⟩
set_option maxHeartbeats 8000000 in
theorem q21_t {d : DfaT} (hd : d.of.length = 256) {labs : List Int} {x : Int} {i : Nat} (hi : i ≤ 70000) (hli : labs.length = i) {G : PHeap} {H : Heap} {v1 v2 v3 v5 vn vl vs : Value} {b4 : Nat} {kl : Heap} (hkl : SliceO [] 3 1 vl i (labs.map (Value.int .i64)) kl) :
    Tri Try.prog Try.f21.ntmps (piece [1, 1, 1, 1, 1, 0, 1, 0, 0, 1, 0, 0, 1, 1, 1, 1, 1, 1] Try.f21) G [(1, v1), (2, v2), (3, v3), (4, .pointer (some ⟨b4, 0, none⟩)), (5, v5), (9, .int .i64 x)] ((b4, .cells (cellsD d vn vl vs) [] 27) :: (kl ++ H)) (onlyN fun G' fr' H' =>
      ∃ vl' kl', G' = G ∧ SliceO [] 3 1 vl' (i + 1) ((labs ++ [x]).map (Value.int .i64)) kl' ∧ restrict [1, 2, 3, 4, 5] fr' = [(1, v1), (2, v2), (3, v3), (4, .pointer (some ⟨b4, 0, none⟩)), (5, v5)] ∧ H' = (b4, .cells (cellsD d vn vl' vs) [] 27) :: (kl' ++ H)) := by
  have hr1 : ∀ x : Value, List.replicate 1 x = [x] := fun _ => rfl
  have hl2 : ∀ a b c : Value, (cellsD d a b c).length = 260 := fun a b c => cellsD_len hd _ _ _
  have hg2 : ∀ a b c : Value, (cellsD d a b c)[258]? = some b := fun a b c => cellsD_l hd _ _ _
  have hputL : ∀ a b c x : Value, splice (cellsD d a b c) 258 [x] = cellsD d a x c := fun a b c x => cellsD_putL hd _ _ _ _
  refine Tri.sepT fun hs0 => ?_
  rcases hkl with ⟨aa, rfl, hi0, hx, rfl⟩ | ⟨bl, cc, sp, rfl, rfl, hx, hcl⟩
  · have hsE := hs0
    try simp only [keys_cons, keys_app, keys_nil, Sep_cons, Sep_nil, NotIn_cons, NotIn_app, NotIn_nil, List.cons_append, List.nil_append, List.append_assoc, and_assoc, and_true, true_and] at hsE
    repeat (obtain ⟨hsx, hsE⟩ := hsE)
    refine Tri.piece (f := Try.f21) rfl ?_
    refine Tri.run tok [0, 1, 2, 3, 4, 5, 6, 7, 8, 9, 12, 18, 23, 36, 45, 61] (by kernel_rfl) ?_
    repeat' first
      | with_reducible refine Br.yes ?_
      | with_reducible refine Br.no ?_
      | with_reducible refine Br.dec (fun _ => ?_) (fun _ => ?_)
      | with_reducible refine Br.beqB (fun _ => ?_) (fun _ => ?_)
      | with_reducible refine Br.beqb (fun _ => ?_) (fun _ => ?_)
      | with_reducible refine Br.mk (fun _ => ?_) (fun _ => ?_)
      | with_reducible refine foundO.mk (fun _ _ => ?_) (fun _ => ?_)
      | with_reducible refine appV.zero ?_
      | with_reducible refine appV.own ?_
      | ((with_reducible refine NewB.mk fun nb hnb => ?_); have hnb1 := hnb.1.1; have hnb2 := hnb.1.2; try simp only [keys_cons, keys_app, keys_nil, NotIn_cons, NotIn_app, NotIn_nil, and_true] at hnb2)
      | ((with_reducible refine NewRow.mk fun nb nsp ncap hnb hncap => ?_); have hnb1 := hnb.1.1; have hnb2 := hnb.1.2; try simp only [keys_cons, keys_app, keys_nil, NotIn_cons, NotIn_app, NotIn_nil, and_true] at hnb2)
      | simp (dsimp := false) (implicitDefEqProofs := false) (disch := first | assumption | (simp only [List.mem_cons, List.mem_append, true_or, or_true, eq_self]; done) | omega | (with_reducible refine Row.adr (by assumption) ?_; simp only [List.length_map, List.length_take, List.length_drop]; omega) | (simp only [List.length_cons, List.length_nil, List.length_map, List.length_append, List.length_replicate, Nat.reduceAdd, true_and, and_true, and_self]; first | done | omega)) only [go_sem, ↓reduceIte, Nat.reduceEqDiff, Nat.reduceAdd, Nat.reduceSub, Nat.reduceMul, Nat.reduceBEq, Nat.reduceLT, Nat.reduceLeDiff, Nat.reduceMod, Nat.reducePow, List.reduceReplicate, UInt8.reduceOfNat, Int.reducePow, Int.reduceDiv, Int.reduceMod, Nat.reduceDiv, Int.reduceNeg, Int.reduceAdd, Int.reduceSub, Int.reduceMul, Int.reduceLE, Int.reduceLT, Int.reduceEq, Int.reduceToNat, reduceCtorEq, -List.reduceReplicate, hl2, hg2, hputL, hr1]
    refine Upd.leave (H' := (b4, .cells (cellsD d vn (.slice (some ⟨nb, 0, none⟩) 1 ncap) vs) [] 27) :: ([(nb, .cells [.int .i64 x] nsp 3)] ++ H)) (by intro fsum; simp only [List.map_append, List.map_cons, List.map_nil, List.sum_append, List.sum_cons, List.sum_nil, List.cons_append, List.nil_append]; omega) ?_
    exact ⟨_, _, rfl, .inr ⟨nb, ncap, nsp, by rw [hi0], by rw [List.map_append, hx]; rfl, by rw [List.map_append, hx, hi0]; rfl, by rw [List.map_append, hx]; simp at hncap ⊢; omega⟩, rfl, rfl⟩
  · rw [List.length_map, Nat.mul_one] at hx hcl
    have hsE := hs0
    try simp only [keys_cons, keys_app, keys_nil, Sep_cons, Sep_nil, NotIn_cons, NotIn_app, NotIn_nil, List.cons_append, List.nil_append, List.append_assoc, and_assoc, and_true, true_and] at hsE
    repeat (obtain ⟨hsx, hsE⟩ := hsE)
    refine Tri.piece (f := Try.f21) rfl ?_
    refine Tri.run tok [0, 1, 2, 3, 4, 5, 6, 7, 8, 9, 12, 18, 23, 36, 45, 61] (by kernel_rfl) ?_
    repeat' first
      | with_reducible refine Br.yes ?_
      | with_reducible refine Br.no ?_
      | with_reducible refine Br.dec (fun _ => ?_) (fun _ => ?_)
      | with_reducible refine Br.beqB (fun _ => ?_) (fun _ => ?_)
      | with_reducible refine Br.beqb (fun _ => ?_) (fun _ => ?_)
      | with_reducible refine Br.mk (fun _ => ?_) (fun _ => ?_)
      | with_reducible refine foundO.mk (fun _ _ => ?_) (fun _ => ?_)
      | with_reducible refine appV.zero ?_
      | with_reducible refine appV.own ?_
      | ((with_reducible refine NewB.mk fun nb hnb => ?_); have hnb1 := hnb.1.1; have hnb2 := hnb.1.2; try simp only [keys_cons, keys_app, keys_nil, NotIn_cons, NotIn_app, NotIn_nil, and_true] at hnb2)
      | ((with_reducible refine NewRow.mk fun nb nsp ncap hnb hncap => ?_); have hnb1 := hnb.1.1; have hnb2 := hnb.1.2; try simp only [keys_cons, keys_app, keys_nil, NotIn_cons, NotIn_app, NotIn_nil, and_true] at hnb2)
      | simp (dsimp := false) (implicitDefEqProofs := false) (disch := first | assumption | (simp only [List.mem_cons, List.mem_append, true_or, or_true, eq_self]; done) | omega | (with_reducible refine Row.adr (by assumption) ?_; simp only [List.length_map, List.length_take, List.length_drop]; omega) | (simp only [List.length_cons, List.length_nil, List.length_map, List.length_append, List.length_replicate, Nat.reduceAdd, true_and, and_true, and_self]; first | done | omega)) only [go_sem, ↓reduceIte, Nat.reduceEqDiff, Nat.reduceAdd, Nat.reduceSub, Nat.reduceMul, Nat.reduceBEq, Nat.reduceLT, Nat.reduceLeDiff, Nat.reduceMod, Nat.reducePow, List.reduceReplicate, UInt8.reduceOfNat, Int.reducePow, Int.reduceDiv, Int.reduceMod, Nat.reduceDiv, Int.reduceNeg, Int.reduceAdd, Int.reduceSub, Int.reduceMul, Int.reduceLE, Int.reduceLT, Int.reduceEq, Int.reduceToNat, reduceCtorEq, -List.reduceReplicate, hl2, hg2, hputL, hr1, List.length_map, hli]
    refine Upd.leave (H' := (b4, .cells (cellsD d vn (.slice (some ⟨nb, 0, none⟩) (i + 1) ncap) vs) [] 27) :: ([(nb, .cells (labs.map (Value.int .i64) ++ [.int .i64 x]) nsp 3)] ++ H)) (by intro fsum; simp only [List.map_append, List.map_cons, List.map_nil, List.sum_append, List.sum_cons, List.sum_nil, List.cons_append, List.nil_append]; omega) ?_
    exact ⟨_, _, rfl, .inr ⟨nb, ncap, nsp, rfl, by rw [List.map_append]; rfl, by simp [hli], by simp at hncap ⊢; omega⟩, rfl, rfl⟩
set_option maxHeartbeats 32000000 in
theorem rplus_t {d : DfaT} (hsm : SmallD d) {G : PHeap} {H : Heap} {R : Value → PHeap → Heap → Prop} {v : Value} (hv : IsD G d v)
    (hR : ∀ G' v', PLe G G' → Sep G' (keys H) → IsD G' (plusR d).1 v' → R (.tuple #[v', .int .i64 (plusR d).2]) G' H) : FnT Try.prog 21 [v] G H R := by
  obtain ⟨C, an, al, ay, cn, cl, cs, rs, rfl, O⟩ := hv.opened
  obtain ⟨hm1, hm2, hm3, hm4, hm5⟩ := id hsm
  have hCl := O.len
  have hCa := O.all
  have hCw := O.w
  have hCn := O.n
  have hCx := O.l
  have hCs := O.s
  have hCo := O.of
  have hr1 : ∀ x : Value, List.replicate 1 x = [x] := fun _ => rfl
  have hofl : (u8L d.of).length = 256 := by rw [List.length_map, O.ofl]
  have hb1 := build_of O.ofl
  have hb2 := build_w O.ofl
  have hb3 := build_s O.ofl (.slice none 0 0) (.slice none 0 0) (.slice none 0 0)
  have hl1 : (u8L d.of ++ [Value.int .i64 0, Value.slice none 0 0, Value.slice none 0 0, Value.slice none 0 0]).length = 260 := by rw [List.length_append, hofl]; rfl
  have hl2 : ∀ a b c : Value, (cellsD d a b c).length = 260 := fun a b c => cellsD_len O.ofl _ _ _
  have ht2 : ∀ a b c : Value, List.take 260 (cellsD d a b c) = cellsD d a b c := fun a b c => cellsD_all O.ofl _ _ _
  have hputz : ∀ a b c : Value, splice zeroC 0 (cellsD d a b c) = cellsD d a b c := fun a b c => wdf_over zeroC_len (hl2 _ _ _)
  have hone : ∀ (a a' a'' : Option Addr) (n c n' c' n'' c'' : Nat), (cellsD d (.slice a n c) (.slice a' n' c') (.slice a'' n'' c'')).all oneV = true := fun a a' a'' n c n' c' n'' c'' => cellsD_one rfl rfl rfl
  refine FnT.sep ?_
  by_cases hok : RightP d
  · have hb := boolOf_yes hok
    obtain ⟨hk1, hk2, hk3, hk4, hk5, hk6, hk7⟩ := id hok
    have hw1 : 1 ≤ d.width := by
      have h0 : 0 < d.of.length := by rw [O.ofl]; omega
      have := List.length_pos_of_mem ((mem_tabO d.of).2 (List.getElem_mem h0))
      omega
    have hww : d.width ≤ 256 := by
      have h2 := tabO_len d.of
      have h3 := O.ofl
      omega
    obtain ⟨x0, hx0⟩ : ∃ x0, x0 = d.label[0]'(by omega) := ⟨_, rfl⟩
    have hxh : d.label.headD 0 = x0 := by
      have hh : ∀ (l : List Int) (h : 0 < l.length), l.headD 0 = l[0] := fun l h => by
        cases l with
        | nil => cases h
        | cons a l => rfl
      rw [hx0]
      exact hh d.label (by omega)
    have hl0 : 0 < d.label.length := by omega
    have hCone := wdf_one O.is
    have hCput := wdf_put hCl
    refine FnT.bodyS tok [0, 1, 2, 3, 4, 5, 6, 7, 8, 9, 12, 18, 23, 36, 45, 61] (.seq .run (.seq .run (.seq .run (.seq .run (.seq .run (.seq .run .cut)))))) Try.func21 rfl (by kernel_rfl) (by kernel_rfl) (by show _ ≤ 80; simp) fun hsep => ?_
    rw [Try.results21]
    have hsE := hsep
    try simp only [keys_cons, keys_app, keys_nil, Sep_cons, Sep_nil, NotIn_cons, NotIn_app, NotIn_nil, List.cons_append, List.nil_append, List.append_assoc, and_assoc, and_true, true_and] at hsE
    repeat (obtain ⟨hsx, hsE⟩ := hsE)
    repeat' first
      | with_reducible refine Br.yes ?_
      | with_reducible refine Br.no ?_
      | with_reducible refine Br.dec (fun _ => ?_) (fun _ => ?_)
      | with_reducible refine Br.beqB (fun _ => ?_) (fun _ => ?_)
      | with_reducible refine Br.beqb (fun _ => ?_) (fun _ => ?_)
      | with_reducible refine Br.mk (fun _ => ?_) (fun _ => ?_)
      | with_reducible refine foundO.mk (fun _ _ => ?_) (fun _ => ?_)
      | with_reducible refine appV.zero ?_
      | with_reducible refine appV.own ?_
      | ((with_reducible refine NewB.mk fun nb hnb => ?_); have hnb1 := hnb.1.1; have hnb2 := hnb.1.2; try simp only [keys_cons, keys_app, keys_nil, NotIn_cons, NotIn_app, NotIn_nil, and_true] at hnb2)
      | ((with_reducible refine NewRow.mk fun nb nsp ncap hnb hncap => ?_); have hnb1 := hnb.1.1; have hnb2 := hnb.1.2; try simp only [keys_cons, keys_app, keys_nil, NotIn_cons, NotIn_app, NotIn_nil, and_true] at hnb2)
      | simp (dsimp := false) (implicitDefEqProofs := false) (disch := first | assumption | (simp only [List.mem_cons, List.mem_append, true_or, or_true, eq_self]; done) | omega | (with_reducible refine Row.adr (by assumption) ?_; simp only [List.length_map, List.length_take, List.length_drop]; omega) | (simp only [List.length_cons, List.length_nil, List.length_map, List.length_append, List.length_replicate, Nat.reduceAdd, true_and, and_true, and_self]; first | done | omega)) only [go_sem, ↓reduceIte, Nat.reduceEqDiff, Nat.reduceAdd, Nat.reduceSub, Nat.reduceMul, Nat.reduceBEq, Nat.reduceLT, Nat.reduceLeDiff, Nat.reduceMod, Nat.reducePow, List.reduceReplicate, UInt8.reduceOfNat, Int.reducePow, Int.reduceDiv, Int.reduceMod, Nat.reduceDiv, Int.reduceNeg, Int.reduceAdd, Int.reduceSub, Int.reduceMul, Int.reduceLE, Int.reduceLT, Int.reduceEq, Int.reduceToNat, reduceCtorEq, -List.reduceReplicate, List.toList_toArray, hCl, hCa, hCw, hCs, hCx, hCo, hofl, hb1, hb2, hb3, hl1, hl2, hputz, hone, zeroC_len, zeroC_one, zeroC_take, zeroC_put, hb, hr1, List.getElem_map, ← hx0, hCone, hCput]
      | ((with_reducible refine rright_t hsm O.is fun G2 hle2 hs2 => ?_); have O2 := OpenD.mono hle2 O; have hO2 := Row.obj0 O2.rl; have hadl : Adr al := O2.rl.adr (by rw [List.length_map]; omega); (have hsE := hs2; try simp only [keys_cons, keys_app, keys_nil, Sep_cons, Sep_nil, NotIn_cons, NotIn_app, NotIn_nil, List.cons_append, List.nil_append, List.append_assoc, and_assoc, and_true, true_and] at hsE; repeat (obtain ⟨hsx, hsE⟩ := hsE)))
      | simp (dsimp := false) (implicitDefEqProofs := false) only [hO2 (by rw [List.length_map]; omega)]
    · rename_i hx
      rw [plusR_none hok (hxh.trans hx)] at hR
      unfold UpdR
      refine Upd.leave (H' := H) (by intro fsum; simp only [List.map_append, List.map_cons, List.map_nil, List.sum_append, List.sum_cons, List.sum_nil, List.cons_append, List.nil_append]; omega) ?_
      exact fun _ hs => hR G2 _ hle2 hs O2.is
    · rename_i hx hbig
      rw [plusR_big hok (fun h => hx (hxh.symm.trans h)) (by omega)] at hR
      unfold UpdR
      refine Upd.leave (H' := H) (by intro fsum; simp only [List.map_append, List.map_cons, List.map_nil, List.sum_append, List.sum_cons, List.sum_nil, List.cons_append, List.nil_append]; omega) ?_
      exact fun _ hs => hR G2 _ hle2 hs (zeroD_is _)
    · rename_i b1 p1 p2 p3 b2 p4 p5 p6 q1 q2 q3 q4 hx hbig
      obtain ⟨b4, e40⟩ : ∃ x, x = nb := ⟨_, rfl⟩
      subst e40
      rw [plusR_ok hok (fun h => hx (hxh.symm.trans h)) (fun h => hbig (by omega))] at hR
      have hz : List.replicate 256 (Value.int .u8 0) ++ [Value.int .i64 0, Value.slice none 0 0, Value.slice none 0 0, Value.slice none 0 0] = zeroC := rfl
      rw [hz]
      have hMl : (plusD d).next.length = d.label.length + 1 := by
        show ((d.next.headD []).map (· + 1) :: d.next.map (fun r => r.map (· + 1))).length = _
        rw [List.length_cons, List.length_map, hk3]
      have hLl : (plusD d).label.length = d.label.length + 1 := by
        show (0 :: d.label).length = _
        rw [List.length_cons]
      refine Tri.loopS tok [0, 1, 2, 3, 4, 5, 6, 7, 8, 9, 12, 18, 23, 36, 45, 61] (.seq .run (.seq (.block (.seq .run (.seq .run (.seq .run (.seq .run (.seq .run (.seq .cut .cut))))))) .cut)) (by kernel_rfl) [1, 2, 3, 4, 5] (fun q G' fr H' => ∃ (i : Nat) (vn vl : Value) (rv : List Value) (kn kl : Heap), i + q = d.label.length + 1 ∧ PLe G2 G' ∧ Rws G' rv ((plusD d).next.take i) ∧ SliceO [] 24 1 vn i rv kn ∧ SliceO [] 3 1 vl i (((plusD d).label.take i).map (Value.int .i64)) kl ∧ H' = (b4, .cells (cellsD d vn vl (.slice ay d.names.length cs)) [] 27) :: (b1, .cells C [] 27) :: (b2, .cells zeroC [] 27) :: (kn ++ (kl ++ H)) ∧ fr = [(1, .pointer (some ⟨b1, 0, none⟩)), (2, .pointer (some ⟨b2, 0, none⟩)), (3, .int .i64 0), (4, .pointer (some ⟨b4, 0, none⟩)), (5, .int .i64 ((i : Int) - 1))]) ((d.label.length + 1)) ?_ ?_
      · exact Upd.leave (H' := (b4, .cells (cellsD d (.slice none 0 0) (.slice none 0 0) (.slice ay d.names.length cs)) [] 27) :: (b1, .cells C [] 27) :: (b2, .cells zeroC [] 27) :: ([] ++ ([] ++ H))) (by intro fsum; simp only [List.map_append, List.map_cons, List.map_nil, List.sum_append, List.sum_cons, List.sum_nil, List.cons_append, List.nil_append]; omega) ⟨0, _, _, [], [], [], by omega, PLe.refl _, Rws.nil _, .inl ⟨none, rfl, rfl, rfl, rfl⟩, .inl ⟨none, rfl, rfl, rfl, rfl⟩, rfl, rfl⟩
      · rintro q G3 fr H3 hle3 hs3 ⟨i, vn, vl, rv, kn, kl, hiq, hle23, hrv, hkn, hkl, rfl, rfl⟩
        have O3 := OpenD.mono hle23 O2
        have hsE := hs3
        try simp only [keys_cons, keys_app, keys_nil, Sep_cons, Sep_nil, NotIn_cons, NotIn_app, NotIn_nil, List.cons_append, List.nil_append, List.append_assoc, and_assoc, and_true, true_and] at hsE
        repeat (obtain ⟨hsx, hsE⟩ := hsE)
        by_cases hil : i < d.label.length + 1
        · have hMx : maxI ((i : Int) - 1) 0 = ((i - 1 : Nat) : Int) := by unfold maxI; split <;> omega
          have hi1 : ((i : Int) - 1) + 1 = ((i + 1 : Nat) : Int) - 1 := by omega
          have hin : i - 1 < d.next.length := by omega
          have hMi : (plusD d).next.take (i + 1) = (plusD d).next.take i ++ [(d.next[i - 1]'(by omega)).map (· + 1)] := by
            rw [List.take_succ_eq_append_getElem (by omega), plusD_next (by omega) (by omega)]
          obtain ⟨hw0, hlt0, hlt1, hrng⟩ := hk7 (i - 1) hin (by omega)
          repeat' first
            | with_reducible refine Br.yes ?_
            | with_reducible refine Br.no ?_
            | with_reducible refine Br.dec (fun _ => ?_) (fun _ => ?_)
            | with_reducible refine Br.beqB (fun _ => ?_) (fun _ => ?_)
            | with_reducible refine Br.beqb (fun _ => ?_) (fun _ => ?_)
            | with_reducible refine Br.mk (fun _ => ?_) (fun _ => ?_)
            | with_reducible refine foundO.mk (fun _ _ => ?_) (fun _ => ?_)
            | with_reducible refine appV.zero ?_
            | with_reducible refine appV.own ?_
            | ((with_reducible refine NewB.mk fun nb hnb => ?_); have hnb1 := hnb.1.1; have hnb2 := hnb.1.2; try simp only [keys_cons, keys_app, keys_nil, NotIn_cons, NotIn_app, NotIn_nil, and_true] at hnb2)
            | ((with_reducible refine NewRow.mk fun nb nsp ncap hnb hncap => ?_); have hnb1 := hnb.1.1; have hnb2 := hnb.1.2; try simp only [keys_cons, keys_app, keys_nil, NotIn_cons, NotIn_app, NotIn_nil, and_true] at hnb2)
            | simp (dsimp := false) (implicitDefEqProofs := false) (disch := first | assumption | (simp only [List.mem_cons, List.mem_append, true_or, or_true, eq_self]; done) | omega | (with_reducible refine Row.adr (by assumption) ?_; simp only [List.length_map, List.length_take, List.length_drop]; omega) | (simp only [List.length_cons, List.length_nil, List.length_map, List.length_append, List.length_replicate, Nat.reduceAdd, true_and, and_true, and_self]; first | done | omega)) only [go_sem, ↓reduceIte, Nat.reduceEqDiff, Nat.reduceAdd, Nat.reduceSub, Nat.reduceMul, Nat.reduceBEq, Nat.reduceLT, Nat.reduceLeDiff, Nat.reduceMod, Nat.reducePow, List.reduceReplicate, UInt8.reduceOfNat, Int.reducePow, Int.reduceDiv, Int.reduceMod, Nat.reduceDiv, Int.reduceNeg, Int.reduceAdd, Int.reduceSub, Int.reduceMul, Int.reduceLE, Int.reduceLT, Int.reduceEq, Int.reduceToNat, reduceCtorEq, -List.reduceReplicate, List.toList_toArray, hCl, hCx, hMx]
          refine Tri.loopS tok [0, 1, 2, 3, 4, 5, 6, 7, 8, 9, 12, 18, 23, 36, 45, 61] (.seq .run (.seq (.block .cut) .cut)) (by kernel_rfl) [1, 2, 3, 4, 5, 6, 7, 8] (fun q2 G' fr H' => ∃ (j : Nat) (v7 : Value) (kr : Heap), j + q2 = d.next[i - 1].length ∧ G' = G3 ∧ SliceO [] 3 1 v7 j (((d.next[i - 1].take j).map (· + 1)).map (Value.int .i64)) kr ∧ H' = (b1, .cells C [] 27) :: (kr ++ ((b4, .cells (cellsD d vn vl (.slice ay d.names.length cs)) [] 27) :: (b2, .cells zeroC [] 27) :: (kn ++ (kl ++ H)))) ∧ fr = [(1, .pointer (some ⟨b1, 0, none⟩)), (2, .pointer (some ⟨b2, 0, none⟩)), (3, .int .i64 0), (4, .pointer (some ⟨b4, 0, none⟩)), (5, .int .i64 ((i : Int) - 1)), (6, .int .i64 (i - 1 : Nat)), (7, v7), (8, .int .i64 (j : Nat))]) (d.next[i - 1].length) ?_ ?_
          · exact Upd.leave (H' := (b1, .cells C [] 27) :: ([] ++ ((b4, .cells (cellsD d vn vl (.slice ay d.names.length cs)) [] 27) :: (b2, .cells zeroC [] 27) :: (kn ++ (kl ++ H))))) (by intro fsum; simp only [List.map_append, List.map_cons, List.map_nil, List.sum_append, List.sum_cons, List.sum_nil, List.cons_append, List.nil_append]; omega) ⟨0, _, [], by omega, rfl, .inl ⟨_, rfl, rfl, rfl, rfl⟩, rfl, rfl⟩
          · rintro q2 G4 fr H4 hle4 hs4 ⟨j, v7, kr, hjq, rfl, hkr, rfl, rfl⟩
            have hsE := hs4
            try simp only [keys_cons, keys_app, keys_nil, Sep_cons, Sep_nil, NotIn_cons, NotIn_app, NotIn_nil, List.cons_append, List.nil_append, List.append_assoc, and_assoc, and_true, true_and] at hsE
            repeat (obtain ⟨hsx, hsE⟩ := hsE)
            by_cases hjl : j < d.next[i - 1].length
            · have hjw : (j : Int) < d.width := by omega
              repeat' first
                | with_reducible refine Br.yes ?_
                | with_reducible refine Br.no ?_
                | with_reducible refine Br.dec (fun _ => ?_) (fun _ => ?_)
                | with_reducible refine Br.beqB (fun _ => ?_) (fun _ => ?_)
                | with_reducible refine Br.beqb (fun _ => ?_) (fun _ => ?_)
                | with_reducible refine Br.mk (fun _ => ?_) (fun _ => ?_)
                | with_reducible refine foundO.mk (fun _ _ => ?_) (fun _ => ?_)
                | with_reducible refine appV.zero ?_
                | with_reducible refine appV.own ?_
                | ((with_reducible refine NewB.mk fun nb hnb => ?_); have hnb1 := hnb.1.1; have hnb2 := hnb.1.2; try simp only [keys_cons, keys_app, keys_nil, NotIn_cons, NotIn_app, NotIn_nil, and_true] at hnb2)
                | ((with_reducible refine NewRow.mk fun nb nsp ncap hnb hncap => ?_); have hnb1 := hnb.1.1; have hnb2 := hnb.1.2; try simp only [keys_cons, keys_app, keys_nil, NotIn_cons, NotIn_app, NotIn_nil, and_true] at hnb2)
                | simp (dsimp := false) (implicitDefEqProofs := false) (disch := first | assumption | (simp only [List.mem_cons, List.mem_append, true_or, or_true, eq_self]; done) | omega | (with_reducible refine Row.adr (by assumption) ?_; simp only [List.length_map, List.length_take, List.length_drop]; omega) | (simp only [List.length_cons, List.length_nil, List.length_map, List.length_append, List.length_replicate, Nat.reduceAdd, true_and, and_true, and_self]; first | done | omega)) only [go_sem, ↓reduceIte, Nat.reduceEqDiff, Nat.reduceAdd, Nat.reduceSub, Nat.reduceMul, Nat.reduceBEq, Nat.reduceLT, Nat.reduceLeDiff, Nat.reduceMod, Nat.reducePow, List.reduceReplicate, UInt8.reduceOfNat, Int.reducePow, Int.reduceDiv, Int.reduceMod, Nat.reduceDiv, Int.reduceNeg, Int.reduceAdd, Int.reduceSub, Int.reduceMul, Int.reduceLE, Int.reduceLT, Int.reduceEq, Int.reduceToNat, reduceCtorEq, -List.reduceReplicate, List.toList_toArray, hCl, hCw]
              all_goals try (exfalso; omega)
              refine Tri.live [1, 2, 3, 4, 5, 6, 7, 8] ?_
              refine Tri.isPiece [1, 1, 1, 1, 1, 0, 1, 0, 0, 1, 0, 0, 1, 1, 0, 1, 0, 0, 1, 0, 0] Try.f21 (by kernel_rfl) ?_
              refine Tri.onlyN (q16_t hsm O3 hin rfl hjl (by omega) (fun x hx => by have := hrng x hx; omega) hkr) fun G5 l5 H5 hle5 hs5 hM => ?_
              obtain ⟨v7', kr', rfl, hkr', hfr, rfl⟩ := hM
              simp only [go_sem]
              refine Tri.live [1, 2, 3, 4, 5, 6, 7, 8] ?_
              rw [hfr]
              refine Tri.run tok [0, 1, 2, 3, 4, 5, 6, 7, 8, 9, 12, 18, 23, 36, 45, 61] (by kernel_rfl) ?_
              repeat' first
                | with_reducible refine Br.yes ?_
                | with_reducible refine Br.no ?_
                | with_reducible refine Br.dec (fun _ => ?_) (fun _ => ?_)
                | with_reducible refine Br.beqB (fun _ => ?_) (fun _ => ?_)
                | with_reducible refine Br.beqb (fun _ => ?_) (fun _ => ?_)
                | with_reducible refine Br.mk (fun _ => ?_) (fun _ => ?_)
                | with_reducible refine foundO.mk (fun _ _ => ?_) (fun _ => ?_)
                | with_reducible refine appV.zero ?_
                | with_reducible refine appV.own ?_
                | ((with_reducible refine NewB.mk fun nb hnb => ?_); have hnb1 := hnb.1.1; have hnb2 := hnb.1.2; try simp only [keys_cons, keys_app, keys_nil, NotIn_cons, NotIn_app, NotIn_nil, and_true] at hnb2)
                | ((with_reducible refine NewRow.mk fun nb nsp ncap hnb hncap => ?_); have hnb1 := hnb.1.1; have hnb2 := hnb.1.2; try simp only [keys_cons, keys_app, keys_nil, NotIn_cons, NotIn_app, NotIn_nil, and_true] at hnb2)
                | simp (dsimp := false) (implicitDefEqProofs := false) (disch := first | assumption | (simp only [List.mem_cons, List.mem_append, true_or, or_true, eq_self]; done) | omega | (with_reducible refine Row.adr (by assumption) ?_; simp only [List.length_map, List.length_take, List.length_drop]; omega) | (simp only [List.length_cons, List.length_nil, List.length_map, List.length_append, List.length_replicate, Nat.reduceAdd, true_and, and_true, and_self]; first | done | omega)) only [go_sem, ↓reduceIte, Nat.reduceEqDiff, Nat.reduceAdd, Nat.reduceSub, Nat.reduceMul, Nat.reduceBEq, Nat.reduceLT, Nat.reduceLeDiff, Nat.reduceMod, Nat.reducePow, List.reduceReplicate, UInt8.reduceOfNat, Int.reducePow, Int.reduceDiv, Int.reduceMod, Nat.reduceDiv, Int.reduceNeg, Int.reduceAdd, Int.reduceSub, Int.reduceMul, Int.reduceLE, Int.reduceLT, Int.reduceEq, Int.reduceToNat, reduceCtorEq, -List.reduceReplicate]
              exact Upd.now ⟨q2 - 1, by omega, j + 1, v7', kr', by omega, rfl, hkr', rfl, rfl⟩
            · obtain rfl : j = d.next[i - 1].length := by omega
              have hjw : ¬ ((d.next[i - 1].length : Nat) : Int) < d.width := by omega
              rcases hkr with ⟨_, _, h0, _, _⟩ | ⟨br, cr, spr, rfl, rfl, hy, hyc⟩
              · omega
              rw [List.take_of_length_le (Nat.le_refl _)] at hs4 hy hyc ⊢
              rw [List.length_map, List.length_map, Nat.mul_one] at hyc
              have hsE := hs4
              try simp only [keys_cons, keys_app, keys_nil, Sep_cons, Sep_nil, NotIn_cons, NotIn_app, NotIn_nil, List.cons_append, List.nil_append, List.append_assoc, and_assoc, and_true, true_and] at hsE
              repeat (obtain ⟨hsx, hsE⟩ := hsE)
              have hadl : Adr al := O3.rl.adr (by rw [List.length_map]; omega)
              by_cases hi0 : i = 0
              · have hLi : (plusD d).label.take (i + 1) = (plusD d).label.take i ++ [0] := by
                  subst hi0; rfl
                have hneg : ¬ (0 : Int) ≤ (i : Int) - 1 := by omega
                repeat' first
                  | with_reducible refine Br.yes ?_
                  | with_reducible refine Br.no ?_
                  | with_reducible refine Br.dec (fun _ => ?_) (fun _ => ?_)
                  | with_reducible refine Br.beqB (fun _ => ?_) (fun _ => ?_)
                  | with_reducible refine Br.beqb (fun _ => ?_) (fun _ => ?_)
                  | with_reducible refine Br.mk (fun _ => ?_) (fun _ => ?_)
                  | with_reducible refine foundO.mk (fun _ _ => ?_) (fun _ => ?_)
                  | with_reducible refine appV.zero ?_
                  | with_reducible refine appV.own ?_
                  | ((with_reducible refine NewB.mk fun nb hnb => ?_); have hnb1 := hnb.1.1; have hnb2 := hnb.1.2; try simp only [keys_cons, keys_app, keys_nil, NotIn_cons, NotIn_app, NotIn_nil, and_true] at hnb2)
                  | ((with_reducible refine NewRow.mk fun nb nsp ncap hnb hncap => ?_); have hnb1 := hnb.1.1; have hnb2 := hnb.1.2; try simp only [keys_cons, keys_app, keys_nil, NotIn_cons, NotIn_app, NotIn_nil, and_true] at hnb2)
                  | simp (dsimp := false) (implicitDefEqProofs := false) (disch := first | assumption | (simp only [List.mem_cons, List.mem_append, true_or, or_true, eq_self]; done) | omega | (with_reducible refine Row.adr (by assumption) ?_; simp only [List.length_map, List.length_take, List.length_drop]; omega) | (simp only [List.length_cons, List.length_nil, List.length_map, List.length_append, List.length_replicate, Nat.reduceAdd, true_and, and_true, and_self]; first | done | omega)) only [go_sem, ↓reduceIte, Nat.reduceEqDiff, Nat.reduceAdd, Nat.reduceSub, Nat.reduceMul, Nat.reduceBEq, Nat.reduceLT, Nat.reduceLeDiff, Nat.reduceMod, Nat.reducePow, List.reduceReplicate, UInt8.reduceOfNat, Int.reducePow, Int.reduceDiv, Int.reduceMod, Nat.reduceDiv, Int.reduceNeg, Int.reduceAdd, Int.reduceSub, Int.reduceMul, Int.reduceLE, Int.reduceLT, Int.reduceEq, Int.reduceToNat, reduceCtorEq, -List.reduceReplicate, List.toList_toArray, hCl, hCw]
                all_goals try (exfalso; omega)
                refine Tri.upd (Upd.go (H' := (br, .cells (((d.next[i - 1]'(by omega)).map (· + 1)).map (Value.int .i64)) spr 3) :: (b4, .cells (cellsD d vn vl (.slice ay d.names.length cs)) [] 27) :: (kn ++ ((b1, .cells C [] 27) :: (b2, .cells zeroC [] 27) :: (kl ++ H)))) (by intro fsum; simp only [List.map_append, List.map_cons, List.map_nil, List.sum_append, List.sum_cons, List.sum_nil, List.cons_append, List.nil_append]; omega) (Upd.now ?_))
                refine Tri.sepT fun hs5 => ?_
                refine Tri.upd (Upd.shareRow hs5.1.1 fun G5 hle5 hs6 hr6 => ?_)
                have hrv5 := (hrv.mono hle5).snoc (b := some ⟨br, 0, none⟩) (c := cr) (r := (d.next[i - 1]'(by omega)).map (· + 1)) hr6 (by rw [List.length_map]; omega)
                rw [List.length_map, ← hMi] at hrv5
                refine Tri.live [1, 2, 3, 4, 5, 7, 9] ?_
                refine Tri.isPiece [1, 1, 1, 1, 1, 0, 1, 0, 0, 1, 0, 0, 1, 1, 1, 1, 1, 0] Try.f21 (by kernel_rfl) ?_
                refine Tri.onlyN (q20_t O.ofl (by omega) (hrv.one) hkn) fun G6 l6 H6 hle6 hs7 hM => ?_
                obtain ⟨vn', kn', rfl, hkn', hfr, rfl⟩ := hM
                simp only [go_sem]
                refine Tri.live [1, 2, 3, 4, 5, 9] ?_
                rw [hfr]
                refine Tri.upd (Upd.go (H' := (b4, .cells (cellsD d vn' vl (.slice ay d.names.length cs)) [] 27) :: (kl ++ ((b1, .cells C [] 27) :: (b2, .cells zeroC [] 27) :: (kn' ++ H)))) (by intro fsum; simp only [List.map_append, List.map_cons, List.map_nil, List.sum_append, List.sum_cons, List.sum_nil, List.cons_append, List.nil_append]; omega) (Upd.now ?_))
                refine Tri.isPiece [1, 1, 1, 1, 1, 0, 1, 0, 0, 1, 0, 0, 1, 1, 1, 1, 1, 1] Try.f21 (by kernel_rfl) ?_
                refine Tri.onlyN (q21_t (labs := (plusD d).label.take i) (x := 0) O.ofl (by omega) (by rw [List.length_take]; omega) hkl) fun G7 l7 H7 hle7 hs8 hM => ?_
                obtain ⟨vl', kl', rfl, hkl', hfr2, rfl⟩ := hM
                rw [← hLi] at hkl'
                simp only [go_sem]
                refine Tri.live [1, 2, 3, 4, 5] ?_
                rw [hfr2]
                refine Tri.run tok [0, 1, 2, 3, 4, 5, 6, 7, 8, 9, 12, 18, 23, 36, 45, 61] (by kernel_rfl) ?_
                repeat' first
                  | with_reducible refine Br.yes ?_
                  | with_reducible refine Br.no ?_
                  | with_reducible refine Br.dec (fun _ => ?_) (fun _ => ?_)
                  | with_reducible refine Br.beqB (fun _ => ?_) (fun _ => ?_)
                  | with_reducible refine Br.beqb (fun _ => ?_) (fun _ => ?_)
                  | with_reducible refine Br.mk (fun _ => ?_) (fun _ => ?_)
                  | with_reducible refine foundO.mk (fun _ _ => ?_) (fun _ => ?_)
                  | with_reducible refine appV.zero ?_
                  | with_reducible refine appV.own ?_
                  | ((with_reducible refine NewB.mk fun nb hnb => ?_); have hnb1 := hnb.1.1; have hnb2 := hnb.1.2; try simp only [keys_cons, keys_app, keys_nil, NotIn_cons, NotIn_app, NotIn_nil, and_true] at hnb2)
                  | ((with_reducible refine NewRow.mk fun nb nsp ncap hnb hncap => ?_); have hnb1 := hnb.1.1; have hnb2 := hnb.1.2; try simp only [keys_cons, keys_app, keys_nil, NotIn_cons, NotIn_app, NotIn_nil, and_true] at hnb2)
                  | simp (dsimp := false) (implicitDefEqProofs := false) (disch := first | assumption | (simp only [List.mem_cons, List.mem_append, true_or, or_true, eq_self]; done) | omega | (with_reducible refine Row.adr (by assumption) ?_; simp only [List.length_map, List.length_take, List.length_drop]; omega) | (simp only [List.length_cons, List.length_nil, List.length_map, List.length_append, List.length_replicate, Nat.reduceAdd, true_and, and_true, and_self]; first | done | omega)) only [go_sem, ↓reduceIte, Nat.reduceEqDiff, Nat.reduceAdd, Nat.reduceSub, Nat.reduceMul, Nat.reduceBEq, Nat.reduceLT, Nat.reduceLeDiff, Nat.reduceMod, Nat.reducePow, List.reduceReplicate, UInt8.reduceOfNat, Int.reducePow, Int.reduceDiv, Int.reduceMod, Nat.reduceDiv, Int.reduceNeg, Int.reduceAdd, Int.reduceSub, Int.reduceMul, Int.reduceLE, Int.reduceLT, Int.reduceEq, Int.reduceToNat, reduceCtorEq, -List.reduceReplicate]
                refine Upd.leave (H' := (b4, .cells (cellsD d vn' vl' (.slice ay d.names.length cs)) [] 27) :: (b1, .cells C [] 27) :: (b2, .cells zeroC [] 27) :: (kn' ++ (kl' ++ H))) (by intro fsum; simp only [List.map_append, List.map_cons, List.map_nil, List.sum_append, List.sum_cons, List.sum_nil, List.cons_append, List.nil_append]; omega) ?_
                exact ⟨q - 1, by omega, i + 1, vn', vl', _, kn', kl', by omega, hle23.trans hle5, hrv5, hkn', hkl', rfl, by rw [hi1]; rfl⟩
              · obtain ⟨s, rfl⟩ : ∃ s, i = s + 1 := ⟨i - 1, by omega⟩
                have hLi : (plusD d).label.take (s + 1 + 1) = (plusD d).label.take (s + 1) ++ [d.label[s]'(by omega)] := by
                  rw [List.take_succ_eq_append_getElem (by omega)]; rfl
                have hi1' : ((s : Nat) : Int) + 1 = ((s + 1 + 1 : Nat) : Int) - 1 := by omega
                have hidx : ((s + 1 : Nat) : Int) - 1 = (s : Nat) := by omega
                repeat' first
                  | with_reducible refine Br.yes ?_
                  | with_reducible refine Br.no ?_
                  | with_reducible refine Br.dec (fun _ => ?_) (fun _ => ?_)
                  | with_reducible refine Br.beqB (fun _ => ?_) (fun _ => ?_)
                  | with_reducible refine Br.beqb (fun _ => ?_) (fun _ => ?_)
                  | with_reducible refine Br.mk (fun _ => ?_) (fun _ => ?_)
                  | with_reducible refine foundO.mk (fun _ _ => ?_) (fun _ => ?_)
                  | with_reducible refine appV.zero ?_
                  | with_reducible refine appV.own ?_
                  | ((with_reducible refine NewB.mk fun nb hnb => ?_); have hnb1 := hnb.1.1; have hnb2 := hnb.1.2; try simp only [keys_cons, keys_app, keys_nil, NotIn_cons, NotIn_app, NotIn_nil, and_true] at hnb2)
                  | ((with_reducible refine NewRow.mk fun nb nsp ncap hnb hncap => ?_); have hnb1 := hnb.1.1; have hnb2 := hnb.1.2; try simp only [keys_cons, keys_app, keys_nil, NotIn_cons, NotIn_app, NotIn_nil, and_true] at hnb2)
                  | simp (dsimp := false) (implicitDefEqProofs := false) (disch := first | assumption | (simp only [List.mem_cons, List.mem_append, true_or, or_true, eq_self]; done) | omega | (with_reducible refine Row.adr (by assumption) ?_; simp only [List.length_map, List.length_take, List.length_drop]; omega) | (simp only [List.length_cons, List.length_nil, List.length_map, List.length_append, List.length_replicate, Nat.reduceAdd, true_and, and_true, and_self]; first | done | omega)) only [go_sem, ↓reduceIte, Nat.reduceEqDiff, Nat.reduceAdd, Nat.reduceSub, Nat.reduceMul, Nat.reduceBEq, Nat.reduceLT, Nat.reduceLeDiff, Nat.reduceMod, Nat.reducePow, List.reduceReplicate, UInt8.reduceOfNat, Int.reducePow, Int.reduceDiv, Int.reduceMod, Nat.reduceDiv, Int.reduceNeg, Int.reduceAdd, Int.reduceSub, Int.reduceMul, Int.reduceLE, Int.reduceLT, Int.reduceEq, Int.reduceToNat, reduceCtorEq, -List.reduceReplicate, List.toList_toArray, hCl, hCw, hCx, hidx, Row.obj O3.rl, List.getElem_map]
                all_goals try (exfalso; omega)
                refine Tri.upd (Upd.go (H' := (br, .cells (((d.next[s + 1 - 1]'(by omega)).map (· + 1)).map (Value.int .i64)) spr 3) :: (b4, .cells (cellsD d vn vl (.slice ay d.names.length cs)) [] 27) :: (kn ++ ((b1, .cells C [] 27) :: (b2, .cells zeroC [] 27) :: (kl ++ H)))) (by intro fsum; simp only [List.map_append, List.map_cons, List.map_nil, List.sum_append, List.sum_cons, List.sum_nil, List.cons_append, List.nil_append]; omega) (Upd.now ?_))
                refine Tri.sepT fun hs5 => ?_
                refine Tri.upd (Upd.shareRow hs5.1.1 fun G5 hle5 hs6 hr6 => ?_)
                have hrv5 := (hrv.mono hle5).snoc (b := some ⟨br, 0, none⟩) (c := cr) (r := (d.next[s + 1 - 1]'(by omega)).map (· + 1)) hr6 (by rw [List.length_map]; omega)
                rw [List.length_map, ← hMi] at hrv5
                refine Tri.live [1, 2, 3, 4, 5, 7, 9] ?_
                refine Tri.isPiece [1, 1, 1, 1, 1, 0, 1, 0, 0, 1, 0, 0, 1, 1, 1, 1, 1, 0] Try.f21 (by kernel_rfl) ?_
                refine Tri.onlyN (q20_t O.ofl (by omega) (hrv.one) hkn) fun G6 l6 H6 hle6 hs7 hM => ?_
                obtain ⟨vn', kn', rfl, hkn', hfr, rfl⟩ := hM
                simp only [go_sem]
                refine Tri.live [1, 2, 3, 4, 5, 9] ?_
                rw [hfr]
                refine Tri.upd (Upd.go (H' := (b4, .cells (cellsD d vn' vl (.slice ay d.names.length cs)) [] 27) :: (kl ++ ((b1, .cells C [] 27) :: (b2, .cells zeroC [] 27) :: (kn' ++ H)))) (by intro fsum; simp only [List.map_append, List.map_cons, List.map_nil, List.sum_append, List.sum_cons, List.sum_nil, List.cons_append, List.nil_append]; omega) (Upd.now ?_))
                refine Tri.isPiece [1, 1, 1, 1, 1, 0, 1, 0, 0, 1, 0, 0, 1, 1, 1, 1, 1, 1] Try.f21 (by kernel_rfl) ?_
                refine Tri.onlyN (q21_t (labs := (plusD d).label.take (s + 1)) (x := d.label[s]) O.ofl (by omega) (by rw [List.length_take]; omega) hkl) fun G7 l7 H7 hle7 hs8 hM => ?_
                obtain ⟨vl', kl', rfl, hkl', hfr2, rfl⟩ := hM
                rw [← hLi] at hkl'
                simp only [go_sem]
                refine Tri.live [1, 2, 3, 4, 5] ?_
                rw [hfr2]
                refine Tri.run tok [0, 1, 2, 3, 4, 5, 6, 7, 8, 9, 12, 18, 23, 36, 45, 61] (by kernel_rfl) ?_
                repeat' first
                  | with_reducible refine Br.yes ?_
                  | with_reducible refine Br.no ?_
                  | with_reducible refine Br.dec (fun _ => ?_) (fun _ => ?_)
                  | with_reducible refine Br.beqB (fun _ => ?_) (fun _ => ?_)
                  | with_reducible refine Br.beqb (fun _ => ?_) (fun _ => ?_)
                  | with_reducible refine Br.mk (fun _ => ?_) (fun _ => ?_)
                  | with_reducible refine foundO.mk (fun _ _ => ?_) (fun _ => ?_)
                  | with_reducible refine appV.zero ?_
                  | with_reducible refine appV.own ?_
                  | ((with_reducible refine NewB.mk fun nb hnb => ?_); have hnb1 := hnb.1.1; have hnb2 := hnb.1.2; try simp only [keys_cons, keys_app, keys_nil, NotIn_cons, NotIn_app, NotIn_nil, and_true] at hnb2)
                  | ((with_reducible refine NewRow.mk fun nb nsp ncap hnb hncap => ?_); have hnb1 := hnb.1.1; have hnb2 := hnb.1.2; try simp only [keys_cons, keys_app, keys_nil, NotIn_cons, NotIn_app, NotIn_nil, and_true] at hnb2)
                  | simp (dsimp := false) (implicitDefEqProofs := false) (disch := first | assumption | (simp only [List.mem_cons, List.mem_append, true_or, or_true, eq_self]; done) | omega | (with_reducible refine Row.adr (by assumption) ?_; simp only [List.length_map, List.length_take, List.length_drop]; omega) | (simp only [List.length_cons, List.length_nil, List.length_map, List.length_append, List.length_replicate, Nat.reduceAdd, true_and, and_true, and_self]; first | done | omega)) only [go_sem, ↓reduceIte, Nat.reduceEqDiff, Nat.reduceAdd, Nat.reduceSub, Nat.reduceMul, Nat.reduceBEq, Nat.reduceLT, Nat.reduceLeDiff, Nat.reduceMod, Nat.reducePow, List.reduceReplicate, UInt8.reduceOfNat, Int.reducePow, Int.reduceDiv, Int.reduceMod, Nat.reduceDiv, Int.reduceNeg, Int.reduceAdd, Int.reduceSub, Int.reduceMul, Int.reduceLE, Int.reduceLT, Int.reduceEq, Int.reduceToNat, reduceCtorEq, -List.reduceReplicate]
                refine Upd.leave (H' := (b4, .cells (cellsD d vn' vl' (.slice ay d.names.length cs)) [] 27) :: (b1, .cells C [] 27) :: (b2, .cells zeroC [] 27) :: (kn' ++ (kl' ++ H))) (by intro fsum; simp only [List.map_append, List.map_cons, List.map_nil, List.sum_append, List.sum_cons, List.sum_nil, List.cons_append, List.nil_append]; omega) ?_
                exact ⟨q - 1, by omega, s + 1 + 1, vn', vl', _, kn', kl', by omega, hle23.trans hle5, hrv5, hkn', hkl', rfl, by rw [hi1']; rfl⟩
        · obtain rfl : i = d.label.length + 1 := by omega
          rcases hkn with ⟨_, _, h0, _, _⟩ | ⟨bn, cn2, spn, rfl, rfl, hx1, hxc⟩
          · omega
          rcases hkl with ⟨_, _, h0, _, _⟩ | ⟨bl, cl2, spl, rfl, rfl, hy, hyc⟩
          · omega
          rw [List.take_of_length_le (l := (plusD d).next) (by omega)] at hrv
          rw [List.take_of_length_le (l := (plusD d).label) (by omega)] at hs3 hy hyc ⊢
          rw [Nat.mul_one] at hxc hx1 hyc
          rw [List.length_map] at hyc
          have h1 := hrv.1
          have hsE := hs3
          try simp only [keys_cons, keys_app, keys_nil, Sep_cons, Sep_nil, NotIn_cons, NotIn_app, NotIn_nil, List.cons_append, List.nil_append, List.append_assoc, and_assoc, and_true, true_and] at hsE
          repeat (obtain ⟨hsx, hsE⟩ := hsE)
          repeat' first
            | with_reducible refine Br.yes ?_
            | with_reducible refine Br.no ?_
            | with_reducible refine Br.dec (fun _ => ?_) (fun _ => ?_)
            | with_reducible refine Br.beqB (fun _ => ?_) (fun _ => ?_)
            | with_reducible refine Br.beqb (fun _ => ?_) (fun _ => ?_)
            | with_reducible refine Br.mk (fun _ => ?_) (fun _ => ?_)
            | with_reducible refine foundO.mk (fun _ _ => ?_) (fun _ => ?_)
            | with_reducible refine appV.zero ?_
            | with_reducible refine appV.own ?_
            | ((with_reducible refine NewB.mk fun nb hnb => ?_); have hnb1 := hnb.1.1; have hnb2 := hnb.1.2; try simp only [keys_cons, keys_app, keys_nil, NotIn_cons, NotIn_app, NotIn_nil, and_true] at hnb2)
            | ((with_reducible refine NewRow.mk fun nb nsp ncap hnb hncap => ?_); have hnb1 := hnb.1.1; have hnb2 := hnb.1.2; try simp only [keys_cons, keys_app, keys_nil, NotIn_cons, NotIn_app, NotIn_nil, and_true] at hnb2)
            | simp (dsimp := false) (implicitDefEqProofs := false) (disch := first | assumption | (simp only [List.mem_cons, List.mem_append, true_or, or_true, eq_self]; done) | omega | (with_reducible refine Row.adr (by assumption) ?_; simp only [List.length_map, List.length_take, List.length_drop]; omega) | (simp only [List.length_cons, List.length_nil, List.length_map, List.length_append, List.length_replicate, Nat.reduceAdd, true_and, and_true, and_self]; first | done | omega)) only [go_sem, ↓reduceIte, Nat.reduceEqDiff, Nat.reduceAdd, Nat.reduceSub, Nat.reduceMul, Nat.reduceBEq, Nat.reduceLT, Nat.reduceLeDiff, Nat.reduceMod, Nat.reducePow, List.reduceReplicate, UInt8.reduceOfNat, Int.reducePow, Int.reduceDiv, Int.reduceMod, Nat.reduceDiv, Int.reduceNeg, Int.reduceAdd, Int.reduceSub, Int.reduceMul, Int.reduceLE, Int.reduceLT, Int.reduceEq, Int.reduceToNat, reduceCtorEq, -List.reduceReplicate, List.toList_toArray, hCl, hCx, hl2, ht2, hputz, hone, zeroC_len]
          refine Tri.run tok [0, 1, 2, 3, 4, 5, 6, 7, 8, 9, 12, 18, 23, 36, 45, 61] (by kernel_rfl) ?_
          repeat' first
            | with_reducible refine Br.yes ?_
            | with_reducible refine Br.no ?_
            | with_reducible refine Br.dec (fun _ => ?_) (fun _ => ?_)
            | with_reducible refine Br.beqB (fun _ => ?_) (fun _ => ?_)
            | with_reducible refine Br.beqb (fun _ => ?_) (fun _ => ?_)
            | with_reducible refine Br.mk (fun _ => ?_) (fun _ => ?_)
            | with_reducible refine foundO.mk (fun _ _ => ?_) (fun _ => ?_)
            | with_reducible refine appV.zero ?_
            | with_reducible refine appV.own ?_
            | ((with_reducible refine NewB.mk fun nb hnb => ?_); have hnb1 := hnb.1.1; have hnb2 := hnb.1.2; try simp only [keys_cons, keys_app, keys_nil, NotIn_cons, NotIn_app, NotIn_nil, and_true] at hnb2)
            | ((with_reducible refine NewRow.mk fun nb nsp ncap hnb hncap => ?_); have hnb1 := hnb.1.1; have hnb2 := hnb.1.2; try simp only [keys_cons, keys_app, keys_nil, NotIn_cons, NotIn_app, NotIn_nil, and_true] at hnb2)
            | simp (dsimp := false) (implicitDefEqProofs := false) (disch := first | assumption | (simp only [List.mem_cons, List.mem_append, true_or, or_true, eq_self]; done) | omega | (with_reducible refine Row.adr (by assumption) ?_; simp only [List.length_map, List.length_take, List.length_drop]; omega) | (simp only [List.length_cons, List.length_nil, List.length_map, List.length_append, List.length_replicate, Nat.reduceAdd, true_and, and_true, and_self]; first | done | omega)) only [go_sem, ↓reduceIte, Nat.reduceEqDiff, Nat.reduceAdd, Nat.reduceSub, Nat.reduceMul, Nat.reduceBEq, Nat.reduceLT, Nat.reduceLeDiff, Nat.reduceMod, Nat.reducePow, List.reduceReplicate, UInt8.reduceOfNat, Int.reducePow, Int.reduceDiv, Int.reduceMod, Nat.reduceDiv, Int.reduceNeg, Int.reduceAdd, Int.reduceSub, Int.reduceMul, Int.reduceLE, Int.reduceLT, Int.reduceEq, Int.reduceToNat, reduceCtorEq, -List.reduceReplicate, List.toList_toArray, hCl, hCx, hl2, ht2, hputz, hone, zeroC_len]
          unfold UpdR
          refine Upd.go (H' := (bn, .cells rv spn 24) :: (bl, .cells ((plusD d).label.map (Value.int .i64)) spl 3) :: H) (by intro fsum; simp only [List.map_append, List.map_cons, List.map_nil, List.sum_append, List.sum_cons, List.sum_nil, List.cons_append, List.nil_append]; omega) ?_
          refine Upd.trans (Upd.shareRow (by assumption) fun G5 hle5 hs9 hr5 => ?_)
          refine Upd.shareRow hs9.1.1 fun G6 hle6 hs10 hr6 => ?_
          have hrv6 := hrv.mono (hle5.trans hle6)
          refine fun _ _ => hR G6 _ (hle2.trans (hle23.trans (hle5.trans hle6))) hs10 ⟨O.ofl, O.ofb, _, _, _, rfl, ⟨some ⟨bn, 0, none⟩, cn2, rv, ?_, hr5.mono hle6, hrv6.1, ?_, hrv6.2⟩, ⟨some ⟨bl, 0, none⟩, cl2, ?_, hr6, ?_⟩, ⟨ay, cs, rfl, O3.ry.mono (hle5.trans hle6), O3.ryc⟩⟩
          · show _ = Value.slice _ (plusD d).next.length _
            rw [hMl]
          · show (plusD d).next.length ≤ _
            omega
          · show _ = Value.slice _ (plusD d).label.length _
            rw [hLl]
          · show (plusD d).label.length ≤ _
            omega
  · have hb := boolOf_no hok
    rw [plusR_bad hok] at hR
    refine FnT.body tok [0, 1, 2, 3, 4, 5, 6, 7, 8, 9, 12, 18, 23, 36, 45, 61] Try.func21 rfl (by kernel_rfl) (by kernel_rfl) (by show _ ≤ 80; simp) fun hsep => ?_
    rw [Try.results21]
    have hsE := hsep
    try simp only [keys_cons, keys_app, keys_nil, Sep_cons, Sep_nil, NotIn_cons, NotIn_app, NotIn_nil, List.cons_append, List.nil_append, List.append_assoc, and_assoc, and_true, true_and] at hsE
    repeat (obtain ⟨hsx, hsE⟩ := hsE)
    repeat' first
      | with_reducible refine Br.yes ?_
      | with_reducible refine Br.no ?_
      | with_reducible refine Br.dec (fun _ => ?_) (fun _ => ?_)
      | with_reducible refine Br.beqB (fun _ => ?_) (fun _ => ?_)
      | with_reducible refine Br.beqb (fun _ => ?_) (fun _ => ?_)
      | with_reducible refine Br.mk (fun _ => ?_) (fun _ => ?_)
      | with_reducible refine foundO.mk (fun _ _ => ?_) (fun _ => ?_)
      | with_reducible refine appV.zero ?_
      | with_reducible refine appV.own ?_
      | ((with_reducible refine NewB.mk fun nb hnb => ?_); have hnb1 := hnb.1.1; have hnb2 := hnb.1.2; try simp only [keys_cons, keys_app, keys_nil, NotIn_cons, NotIn_app, NotIn_nil, and_true] at hnb2)
      | ((with_reducible refine NewRow.mk fun nb nsp ncap hnb hncap => ?_); have hnb1 := hnb.1.1; have hnb2 := hnb.1.2; try simp only [keys_cons, keys_app, keys_nil, NotIn_cons, NotIn_app, NotIn_nil, and_true] at hnb2)
      | simp (dsimp := false) (implicitDefEqProofs := false) (disch := first | assumption | (simp only [List.mem_cons, List.mem_append, true_or, or_true, eq_self]; done) | omega | (with_reducible refine Row.adr (by assumption) ?_; simp only [List.length_map, List.length_take, List.length_drop]; omega) | (simp only [List.length_cons, List.length_nil, List.length_map, List.length_append, List.length_replicate, Nat.reduceAdd, true_and, and_true, and_self]; first | done | omega)) only [go_sem, ↓reduceIte, Nat.reduceEqDiff, Nat.reduceAdd, Nat.reduceSub, Nat.reduceMul, Nat.reduceBEq, Nat.reduceLT, Nat.reduceLeDiff, Nat.reduceMod, Nat.reducePow, List.reduceReplicate, UInt8.reduceOfNat, Int.reducePow, Int.reduceDiv, Int.reduceMod, Nat.reduceDiv, Int.reduceNeg, Int.reduceAdd, Int.reduceSub, Int.reduceMul, Int.reduceLE, Int.reduceLT, Int.reduceEq, Int.reduceToNat, reduceCtorEq, -List.reduceReplicate, List.toList_toArray, hCl, hCa, zeroC_len, zeroC_one, zeroC_take, zeroC_put, hb]
      | ((with_reducible refine rright_t hsm O.is fun G2 hle2 hs2 => ?_); (have hsE := hs2; try simp only [keys_cons, keys_app, keys_nil, Sep_cons, Sep_nil, NotIn_cons, NotIn_app, NotIn_nil, List.cons_append, List.nil_append, List.append_assoc, and_assoc, and_true, true_and] at hsE; repeat (obtain ⟨hsx, hsE⟩ := hsE)))
    unfold UpdR
    refine Upd.leave (H' := H) (by intro fsum; first | exact Nat.le_refl _ | (simp only [List.map_append, List.map_cons, List.map_nil, List.sum_append, List.sum_cons, List.sum_nil, List.cons_append, List.nil_append]; omega)) ?_
    exact fun _ hs => hR G2 _ hle2 hs (zeroD_is _)
end Go.Proofs.Ytpagkndgjihbbaa
