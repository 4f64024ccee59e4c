/- The machine of blocks: a round. -/
import Derived.Test.YtmnmihfinmcljaaDoorSo
set_option linter.unusedSimpArgs false
set_option linter.unusedVariables false
namespace Go.Proofs.YtmnmihfinmcljaaDoor
open Go Go.V Go.Proofs

def partR (r : List Int) (k : Nat) : List Int := r.take k ++ List.replicate (r.length - k) 0
theorem partR_len (r : List Int) {k : Nat} (h : k ≤ r.length) : (partR r k).length = r.length := by
  unfold partR; rw [List.length_append, List.length_take, List.length_replicate]; omega
theorem partR_put {r : List Int} {k : Nat} (h : k < r.length) : splice ((partR r k).map (Value.int .i64)) k [.int .i64 r[k]] = (partR r (k + 1)).map (Value.int .i64) := by
  unfold splice partR
  have hn : (r.take k).length = k := by rw [List.length_take]; omega
  rw [List.take_succ_eq_append_getElem h]
  generalize r.take k = ps at hn
  rw [List.map_append, List.map_append, List.map_append, List.map_replicate, List.map_replicate, show r.length - k = (r.length - (k + 1)) + 1 by omega, List.replicate_succ]
  rw [List.take_append_of_le_length (by rw [List.length_map]; omega), List.take_of_length_le (by rw [List.length_map]; omega)]
  rw [List.drop_append, List.drop_of_length_le (by rw [List.length_map]; simp; omega)]
  simp [hn]
theorem partR_zero (r : List Int) : List.replicate r.length (Value.int .i64 0) = (partR r 0).map (Value.int .i64) := by
  unfold partR; rw [List.take_zero, List.nil_append, List.map_replicate]; rfl
theorem partR_all (r : List Int) : partR r r.length = r := by
  unfold partR; rw [List.take_length]; simp
theorem cellsD_one {d : DfaT} {vn vl vs : Value} (h1 : oneV vn = true) (h2 : oneV vl = true) (h3 : oneV vs = true) : (cellsD d vn vl vs).all oneV = true := by
  unfold cellsD u8L
  rw [List.all_append, List.all_map]
  simp only [List.all_cons, List.all_nil, h1, h2, h3, Bool.and_true, Bool.and_eq_true]
  exact ⟨List.all_eq_true.2 fun _ _ => rfl, rfl⟩
theorem build_of {d : DfaT} (h : d.of.length = 256) : splice zeroC 0 (u8L d.of) = u8L d.of ++ [Value.int .i64 0, Value.slice none 0 0, Value.slice none 0 0, Value.slice none 0 0] := by
  unfold splice
  rw [List.take_zero, List.nil_append, List.drop_append, List.drop_of_length_le (by rw [List.length_replicate, List.length_map, h]; omega), List.length_replicate, List.length_map, h]
  rfl
theorem build_w {d : DfaT} (h : d.of.length = 256) : splice (u8L d.of ++ [Value.int .i64 0, Value.slice none 0 0, Value.slice none 0 0, Value.slice none 0 0]) 256 [Value.int .i64 d.width] = cellsD d (.slice none 0 0) (.slice none 0 0) (.slice none 0 0) := by
  have hl : (u8L d.of).length = 256 := by rw [List.length_map, h]
  unfold splice cellsD
  rw [show 256 = (u8L d.of).length + 0 by omega, List.take_length_add_append, List.length_singleton, show (u8L d.of).length + 0 + 1 = (u8L d.of).length + 1 by omega, List.drop_length_add_append, List.append_assoc, List.append_assoc]
  rfl
theorem build_s {d : DfaT} (h : d.of.length = 256) (vn vl vs x : Value) : splice (cellsD d vn vl vs) 259 [x] = cellsD d vn vl x := by
  have hl : (u8L d.of).length = 256 := by rw [List.length_map, h]
  unfold splice cellsD
  rw [show 259 = (u8L d.of).length + 3 by omega, List.take_length_add_append, List.length_singleton, show (u8L d.of).length + 3 + 1 = (u8L d.of).length + 4 by omega, List.drop_length_add_append, List.append_assoc, List.append_assoc]
  rfl
set_option maxHeartbeats 8000000 in
theorem p6_t {d : DfaT} (hsm : SmallD d) {m : List Int} {C : List Value} {an al ay : Option Addr} {cn cl cs : Nat} {rs : List Value} {G : PHeap} {H : Heap} (O : OpenD G d C an al ay cn cl cs rs) {v0 v1 : Value} {b2 b4 : Nat} {an3 : Option Addr} {cn3 : Nat} :
    Tri Tryd.prog Tryd.f14.ntmps (piece [1, 1, 1, 0] Tryd.f14) G [(0, v0), (1, v1), (2, .pointer (some ⟨b2, 0, none⟩)), (4, .pointer (some ⟨b4, 0, none⟩)), (5, .int .i64 0), (6, .slice an3 (nums m).length cn3)] ((b4, .cells zeroC [] 27) :: (b2, .cells C [] 27) :: H) (onlyN fun G' fr' H' =>
      ∃ b7 vs, PLe G G' ∧ Sl G' str vs d.names ∧ restrict [0, 1, 2, 4, 5, 6, 7] fr' = [(0, v0), (1, v1), (2, .pointer (some ⟨b2, 0, none⟩)), (4, .pointer (some ⟨b4, 0, none⟩)), (5, .int .i64 0), (6, .slice an3 (nums m).length cn3), (7, .pointer (some ⟨b7, 0, none⟩))] ∧ H' = (b7, .cells (cellsD d (.slice none 0 0) (.slice none 0 0) vs) [] 27) :: (b4, .cells zeroC [] 27) :: (b2, .cells C [] 27) :: H) := by
  obtain ⟨hm1, hm2, hm3, hm4, hm5⟩ := id hsm
  have hCl := O.len
  have hCw := O.w
  have hCs := O.s
  have hCo := O.of
  have hofl : (u8L d.of).length = 256 := by rw [List.length_map, O.ofl]
  have hb1 := build_of O.ofl
  have hb2 := build_w O.ofl
  have hl1 : (u8L d.of ++ [Value.int .i64 0, Value.slice none 0 0, Value.slice none 0 0, Value.slice none 0 0]).length = 260 := by rw [List.length_append, hofl]; rfl
  have hl2 : ∀ v : Value, (cellsD d (.slice none 0 0) (.slice none 0 0) v).length = 260 := fun v => cellsD_len O.ofl _ _ _
  have hb3 := build_s O.ofl (.slice none 0 0) (.slice none 0 0) (.slice none 0 0)
  have hputz : ∀ v : Value, splice zeroC 0 (cellsD d (.slice none 0 0) (.slice none 0 0) v) = cellsD d (.slice none 0 0) (.slice none 0 0) v := fun v => by
    unfold splice
    rw [List.take_zero, List.nil_append, List.drop_of_length_le (by rw [zeroC_len, hl2]; omega), List.append_nil]
  refine Tri.sepT fun hs0 => ?_
  have hsE := hs0
  try simp only [keys_cons, keys_app, keys_nil, Sep_cons, Sep_nil, NotIn_cons, NotIn_app, NotIn_nil, List.cons_append, List.nil_append, List.append_assoc, and_assoc, and_true, true_and] at hsE
  repeat (obtain ⟨hsx, hsE⟩ := hsE)
  refine Tri.piece (f := Tryd.f14) rfl ?_
  refine Tri.run tok [0, 1, 2, 4, 5, 6, 7, 9, 10, 11, 12, 13, 18, 35, 36, 37, 38, 48, 49, 50, 51] (by kernel_rfl) ?_
  repeat' first
    | with_reducible refine Br.yes ?_
    | with_reducible refine Br.no ?_
    | with_reducible refine Br.dec (fun _ => ?_) (fun _ => ?_)
    | with_reducible refine Br.beqB (fun _ => ?_) (fun _ => ?_)
    | with_reducible refine Br.beqb (fun _ => ?_) (fun _ => ?_)
    | with_reducible refine Br.mk (fun _ => ?_) (fun _ => ?_)
    | with_reducible refine foundO.mk (fun _ _ => ?_) (fun _ => ?_)
    | with_reducible refine appV.zero ?_
    | with_reducible refine appV.own ?_
    | ((with_reducible refine NewB.mk fun nb hnb => ?_); have hnb1 := hnb.1.1; have hnb2 := hnb.1.2; try simp only [keys_cons, keys_app, keys_nil, NotIn_cons, NotIn_app, NotIn_nil, and_true] at hnb2)
    | ((with_reducible refine NewRow.mk fun nb nsp ncap hnb hncap => ?_); have hnb1 := hnb.1.1; have hnb2 := hnb.1.2; try simp only [keys_cons, keys_app, keys_nil, NotIn_cons, NotIn_app, NotIn_nil, and_true] at hnb2)
    | with_reducible refine Tri.drawH tok mixed [0, 1, 2, 4, 5, 6, 7, 9, 10, 11, 12, 13, 18, 35, 36, 37, 38, 48, 49, 50, 51] 6 [1, 3, 5] (.op 0 .plain (.op 1 .held (.op 2 .plain (.op 3 .held (.op 4 .plain (.op 5 .held (.both (.op 6 .keeps (.op 7 .plain (.op 8 .keeps (.op 9 .plain .nil)))) (.op 8 .keeps (.op 6 .keeps (.op 7 .plain (.op 9 .plain .nil))))))))))) (by kernel_rfl) [2] ?_
    | with_reducible refine Tri.drawM tok mixed [0, 1, 2, 4, 5, 6, 7, 9, 10, 11, 12, 13, 18, 35, 36, 37, 38, 48, 49, 50, 51] 17 [1, 3, 6] (.op 0 .plain (.op 1 .held (.op 2 .plain (.op 3 .held (.op 4 .plain (.op 5 .plain (.op 6 .held (.op 7 .keeps (.op 8 .keeps (.op 9 .plain (.op 10 .plain .nil))))))))))) (by kernel_rfl) _ (List.Sublist.refl _) ?_
    | simp (dsimp := false) (implicitDefEqProofs := false) (disch := first | assumption | (simp only [List.mem_cons, List.mem_append, true_or, or_true, eq_self]; done) | omega | (with_reducible refine Row.adr (by assumption) ?_; simp only [List.length_map, List.length_take, List.length_drop]; omega) | (simp only [List.length_cons, List.length_nil, List.length_map, List.length_append, List.length_replicate, Nat.reduceAdd, true_and, and_true, and_self]; first | done | omega)) only [go_sem, ↓reduceIte, Nat.reduceEqDiff, Nat.reduceAdd, Nat.reduceSub, Nat.reduceMul, Nat.reduceBEq, Nat.reduceLT, Nat.reduceLeDiff, Nat.reduceMod, Nat.reducePow, List.reduceReplicate, UInt8.reduceOfNat, Int.reducePow, Int.reduceDiv, Int.reduceMod, Nat.reduceDiv, Int.reduceNeg, Int.reduceAdd, Int.reduceSub, Int.reduceMul, Int.reduceLE, Int.reduceLT, Int.reduceEq, Int.reduceToNat, reduceCtorEq, -List.reduceReplicate, List.toList_toArray, hCl, hCw, hCs, hCo, hofl, hb1, hb2, hb3, hl1, hl2, zeroC_len, zeroC_one, hputz]
    | ((with_reducible refine clones_t d.names hm4 O.names fun G4 v4 hle4 hs4 hsl4 => ?_); obtain ⟨ay4, cy4, rfl, hr4, hc4⟩ := hsl4; have hone := cellsD_one (d := d) (vn := .slice none 0 0) (vl := .slice none 0 0) (vs := .slice ay4 d.names.length cy4) rfl rfl rfl; (have hsE := hs4; try simp only [keys_cons, keys_app, keys_nil, Sep_cons, Sep_nil, NotIn_cons, NotIn_app, NotIn_nil, List.cons_append, List.nil_append, List.append_assoc, and_assoc, and_true, true_and] at hsE; repeat (obtain ⟨hsx, hsE⟩ := hsE)))
    | (with_reducible refine And.intro ?_ ?_)
  all_goals exact Upd.now ⟨nb, _, hle4, ⟨ay4, cy4, rfl, hr4, hc4⟩, rfl, rfl⟩
end Go.Proofs.YtmnmihfinmcljaaDoor
