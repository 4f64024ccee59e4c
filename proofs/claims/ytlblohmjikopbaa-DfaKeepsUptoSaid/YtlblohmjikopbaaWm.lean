/- Some states of a machine alone: what they are; the names, a label more. -/
import Derived.Test.YtlblohmjikopbaaWl
import Derived.Test.YtlblohmjikopbaaSp
set_option linter.unusedSimpArgs false
set_option linter.unusedVariables false
namespace Go.Proofs.Ytlblohmjikopbaa
open Go Go.V Go.Proofs

theorem atR_ints (n : Nat) (l : List Int) : atR n l = ((List.range n).map fun t : Nat => findF l (t : Int)).map (Value.int .i64) := by
  unfold atR; rw [List.map_map]; rfl
/-- a state's row, by places -/
def rowK (d : DfaT) (l : List Int) (s : Int) : List Int := (nextF d s).map (findF l)
def labF (d : DfaT) (l : List Int) : List Int := l.map fun s => d.label.getD s.toNat 0
/-- the machine with some states alone -/
def keepD (d : DfaT) (l : List Int) : DfaT := ⟨d.of, d.width, l.map (rowK d l), labF d l, d.names⟩
/-- can a state be kept? -/
def fineK (d : DfaT) (l : List Int) (s : Int) : Prop := ∀ t ∈ nextF d s, t ∈ l
def KeepOk (d : DfaT) (l : List Int) : Prop := (OnceN d.label.length l ∧ l.head? = some 0) ∧ ∀ s ∈ l, fineK d l s
noncomputable def keepR (d : DfaT) (l : List Int) : DfaT × Int :=
  haveI := Classical.propDecidable; if RightP d then if KeepOk d l then (keepD d l, 0) else (zeroD, 1) else (zeroD, 6)
theorem keepR_bad {d : DfaT} {l : List Int} (h : ¬ RightP d) : keepR d l = (zeroD, 6) := by unfold keepR; rw [if_neg h]
theorem keepR_not {d : DfaT} {l : List Int} (h : RightP d) (h2 : ¬ KeepOk d l) : keepR d l = (zeroD, 1) := by unfold keepR; rw [if_pos h, if_neg h2]
theorem keepR_ok {d : DfaT} {l : List Int} (h : RightP d) (h2 : KeepOk d l) : keepR d l = (keepD d l, 0) := by unfold keepR; rw [if_pos h, if_pos h2]
/-- the labels that there are -/
def LabK (d : DfaT) (l : List Int) (j : Nat) (vl : Value) (kl : Heap) : Prop :=
  (j = 0 ∧ vl = .slice none 0 0 ∧ kl = []) ∨ ∃ bl c2 sp2, vl = .slice (some ⟨bl, 0, none⟩) j c2 ∧ kl = [(bl, .cells (((labF d l).take j).map (Value.int .i64)) sp2 3)] ∧ j + sp2.length = c2
set_option maxHeartbeats 8000000 in
theorem kp6_t {d : DfaT} (hsm : SmallD d) {C : List Value} {an al ay : Option Addr} {cn cl cs : Nat} {rs : List Value} {G : PHeap} {H : Heap} (O : OpenD G d C an al ay cn cl cs rs) {v0 v1 v6 v7 : Value} {b2 b4 : Nat} :
    Tri Try.prog Try.f27.ntmps (piece [1, 1, 1, 1, 0] Try.f27) G [(0, v0), (1, v1), (2, .pointer (some ⟨b2, 0, none⟩)), (4, .pointer (some ⟨b4, 0, none⟩)), (5, .int .i64 0), (6, v6), (7, v7)] ((b4, .cells zeroC [] 27) :: (b2, .cells C [] 27) :: H) (onlyN fun G' fr' H' =>
      ∃ b7 vs, PLe G G' ∧ Sl G' str vs d.names ∧ restrict [0, 1, 2, 4, 5, 6, 7, 8] fr' = [(0, v0), (1, v1), (2, .pointer (some ⟨b2, 0, none⟩)), (4, .pointer (some ⟨b4, 0, none⟩)), (5, .int .i64 0), (6, v6), (7, v7), (8, .pointer (some ⟨b7, 0, none⟩))] ∧ H' = (b7, .cells (cellsD d (.slice none 0 0) (.slice none 0 0) vs) [] 27) :: (b4, .cells zeroC [] 27) :: (b2, .cells C [] 27) :: H) := by
  obtain ⟨hm1, hm2, hm3, hm4, hm5⟩ := id hsm
  have hCl := O.len
  have hCw := O.w
  have hCs := O.s
  have hCo := O.of
  have hofl : (u8L d.of).length = 256 := by rw [List.length_map, O.ofl]
  have hb1 := build_of O.ofl
  have hb2 := build_w O.ofl
  have hl1 : (u8L d.of ++ [Value.int .i64 0, Value.slice none 0 0, Value.slice none 0 0, Value.slice none 0 0]).length = 260 := by rw [List.length_append, hofl]; rfl
  have hl2 : ∀ v : Value, (cellsD d (.slice none 0 0) (.slice none 0 0) v).length = 260 := fun v => cellsD_len O.ofl _ _ _
  have hb3 := build_s O.ofl (.slice none 0 0) (.slice none 0 0) (.slice none 0 0)
  have hputz : ∀ v : Value, splice zeroC 0 (cellsD d (.slice none 0 0) (.slice none 0 0) v) = cellsD d (.slice none 0 0) (.slice none 0 0) v := fun v => by
    unfold splice
    rw [List.take_zero, List.nil_append, List.drop_of_length_le (by rw [zeroC_len, hl2]; omega), List.append_nil]
  refine Tri.sepT fun hs0 => ?_
  have hsE := hs0
  try simp only [keys_cons, keys_app, keys_nil, Sep_cons, Sep_nil, NotIn_cons, NotIn_app, NotIn_nil, List.cons_append, List.nil_append, List.append_assoc, and_assoc, and_true, true_and] at hsE
  repeat (obtain ⟨hsx, hsE⟩ := hsE)
  refine Tri.piece (f := Try.f27) rfl ?_
  refine Tri.run tok [0, 1, 2, 4, 5, 6, 7, 8, 10, 11, 12, 13, 16, 27, 37, 38, 39, 40, 50, 51, 52, 53, 61] (by kernel_rfl) ?_
  repeat' first
    | with_reducible refine Br.yes ?_
    | with_reducible refine Br.no ?_
    | with_reducible refine Br.dec (fun _ => ?_) (fun _ => ?_)
    | with_reducible refine Br.beqB (fun _ => ?_) (fun _ => ?_)
    | with_reducible refine Br.beqb (fun _ => ?_) (fun _ => ?_)
    | with_reducible refine Br.mk (fun _ => ?_) (fun _ => ?_)
    | with_reducible refine foundO.mk (fun _ _ => ?_) (fun _ => ?_)
    | with_reducible refine appV.zero ?_
    | with_reducible refine appV.own ?_
    | ((with_reducible refine NewB.mk fun nb hnb => ?_); have hnb1 := hnb.1.1; have hnb2 := hnb.1.2; try simp only [keys_cons, keys_app, keys_nil, NotIn_cons, NotIn_app, NotIn_nil, and_true] at hnb2)
    | ((with_reducible refine NewRow.mk fun nb nsp ncap hnb hncap => ?_); have hnb1 := hnb.1.1; have hnb2 := hnb.1.2; try simp only [keys_cons, keys_app, keys_nil, NotIn_cons, NotIn_app, NotIn_nil, and_true] at hnb2)
    | with_reducible refine Tri.drawH tok mixed [0, 1, 2, 4, 5, 6, 7, 8, 10, 11, 12, 13, 16, 27, 37, 38, 39, 40, 50, 51, 52, 53, 61] 6 [1, 3, 5] (.op 0 .plain (.op 1 .held (.op 2 .plain (.op 3 .held (.op 4 .plain (.op 5 .held (.both (.op 6 .keeps (.op 7 .plain (.op 8 .keeps (.op 9 .plain .nil)))) (.op 8 .keeps (.op 6 .keeps (.op 7 .plain (.op 9 .plain .nil))))))))))) (by kernel_rfl) [2] ?_
    | with_reducible refine Tri.drawM tok mixed [0, 1, 2, 4, 5, 6, 7, 8, 10, 11, 12, 13, 16, 27, 37, 38, 39, 40, 50, 51, 52, 53, 61] 19 [1, 3, 6] (.op 0 .plain (.op 1 .held (.op 2 .plain (.op 3 .held (.op 4 .plain (.op 5 .plain (.op 6 .held (.op 7 .keeps (.op 8 .keeps (.op 9 .plain (.op 10 .plain .nil))))))))))) (by kernel_rfl) _ (List.Sublist.refl _) ?_
    | simp (dsimp := false) (implicitDefEqProofs := false) (disch := first | assumption | (simp only [List.mem_cons, List.mem_append, true_or, or_true, eq_self]; done) | omega | (with_reducible refine Row.adr (by assumption) ?_; simp only [List.length_map, List.length_take, List.length_drop]; omega) | (simp only [List.length_cons, List.length_nil, List.length_map, List.length_append, List.length_replicate, Nat.reduceAdd, true_and, and_true, and_self]; first | done | omega)) only [go_sem, ↓reduceIte, Nat.reduceEqDiff, Nat.reduceAdd, Nat.reduceSub, Nat.reduceMul, Nat.reduceBEq, Nat.reduceLT, Nat.reduceLeDiff, Nat.reduceMod, Nat.reducePow, List.reduceReplicate, UInt8.reduceOfNat, Int.reducePow, Int.reduceDiv, Int.reduceMod, Nat.reduceDiv, Int.reduceNeg, Int.reduceAdd, Int.reduceSub, Int.reduceMul, Int.reduceLE, Int.reduceLT, Int.reduceEq, Int.reduceToNat, reduceCtorEq, -List.reduceReplicate, List.toList_toArray, hCl, hCw, hCs, hCo, hofl, hb1, hb2, hb3, hl1, hl2, zeroC_len, zeroC_one, hputz]
    | ((with_reducible refine clones_t d.names hm4 O.names fun G4 v4 hle4 hs4 hsl4 => ?_); obtain ⟨ay4, cy4, rfl, hr4, hc4⟩ := hsl4; have hone := cellsD_one (d := d) (vn := .slice none 0 0) (vl := .slice none 0 0) (vs := .slice ay4 d.names.length cy4) rfl rfl rfl; (have hsE := hs4; try simp only [keys_cons, keys_app, keys_nil, Sep_cons, Sep_nil, NotIn_cons, NotIn_app, NotIn_nil, List.cons_append, List.nil_append, List.append_assoc, and_assoc, and_true, true_and] at hsE; repeat (obtain ⟨hsx, hsE⟩ := hsE)))
    | (with_reducible refine And.intro ?_ ?_)
  all_goals exact Upd.now ⟨nb, _, hle4, ⟨ay4, cy4, rfl, hr4, hc4⟩, rfl, rfl⟩
set_option maxHeartbeats 16000000 in
theorem kr19_t {d : DfaT} {l : List Int} {C : List Value} {an al ay : Option Addr} {cn cl cs : Nat} {rs : List Value} {G : PHeap} {H : Heap} (O : OpenD G d C an al ay cn cl cs rs) {v0 v1 v6 v7 v35 v36 v37 : Value} {b2 b4 b7 : Nat} {j t : Nat} (hj : j < l.length) (hjb : j < 65536) (ht : t < d.label.length) (hsj : l[j] = (t : Int)) {vn vl vs : Value} {kl : Heap} (hout : LabK d l j vl kl) :
    Tri Try.prog Try.f27.ntmps (piece [1, 1, 1, 1, 1, 0, 1, 0, 0, 1, 1, 0, 0, 1, 1, 1, 1] Try.f27) G [(0, v0), (1, v1), (2, .pointer (some ⟨b2, 0, none⟩)), (4, .pointer (some ⟨b4, 0, none⟩)), (5, .int .i64 0), (6, v6), (7, v7), (8, .pointer (some ⟨b7, 0, none⟩)), (10, .int .i64 (t : Nat)), (37, v35), (38, v36), (39, v37)] ((b7, .cells (cellsD d vn vl vs) [] 27) :: (b2, .cells C [] 27) :: (kl ++ H)) (onlyN fun G' fr' H' =>
      ∃ vl' kl', G' = G ∧ LabK d l (j + 1) vl' kl' ∧ restrict [0, 1, 2, 4, 5, 6, 7, 8, 37, 38, 39] fr' = [(0, v0), (1, v1), (2, .pointer (some ⟨b2, 0, none⟩)), (4, .pointer (some ⟨b4, 0, none⟩)), (5, .int .i64 0), (6, v6), (7, v7), (8, .pointer (some ⟨b7, 0, none⟩)), (37, v35), (38, v36), (39, v37)] ∧ H' = (b7, .cells (cellsD d vn vl' vs) [] 27) :: (b2, .cells C [] 27) :: (kl' ++ H)) := by
  have hCl := O.len
  have hCx := O.l
  have hl2 : ∀ a b c : Value, (cellsD d a b c).length = 260 := fun a b c => cellsD_len O.ofl _ _ _
  have hg2 : ∀ a b c : Value, (cellsD d a b c)[258]? = some b := fun a b c => cellsD_l O.ofl _ _ _
  have hputL : ∀ a b c x : Value, splice (cellsD d a b c) 258 [x] = cellsD d a x c := fun a b c x => cellsD_putL O.ofl _ _ _ _
  have hlt : d.label[t] = d.label.getD t 0 := by rw [List.getD_eq_getElem?_getD, List.getElem?_eq_getElem ht]; rfl
  have hlab : (labF d l).take (j + 1) = (labF d l).take j ++ [d.label.getD t 0] := by
    have hjl : j < (labF d l).length := by unfold labF; rw [List.length_map]; exact hj
    rw [List.take_succ_eq_append_getElem hjl]
    congr 2
    simp only [labF, List.getElem_map, hsj, Int.toNat_natCast]
  have hlj : ((labF d l).take j).length = j := by rw [List.length_take]; unfold labF; rw [List.length_map]; omega
  have had2 : Adr al := O.rl.adr (by rw [List.length_map]; omega)
  refine Tri.sepT fun hs0 => ?_
  rcases hout with ⟨hj0, rfl, rfl⟩ | ⟨bl, c2, sp2, rfl, rfl, hc2⟩
  · have hsE := hs0
    try simp only [keys_cons, keys_app, keys_nil, Sep_cons, Sep_nil, NotIn_cons, NotIn_app, NotIn_nil, List.cons_append, List.nil_append, List.append_assoc, and_assoc, and_true, true_and] at hsE
    repeat (obtain ⟨hsx, hsE⟩ := hsE)
    have hce : ((labF d l).take (j + 1)).map (Value.int .i64) = [Value.int .i64 (d.label.getD t 0)] := by rw [hlab, List.map_append, List.eq_nil_of_length_eq_zero (hlj.trans hj0)]; rfl
    refine Tri.piece (f := Try.f27) rfl ?_
    refine Tri.run tok [0, 1, 2, 4, 5, 6, 7, 8, 10, 11, 12, 13, 16, 27, 37, 38, 39, 40, 50, 51, 52, 53, 61] (by kernel_rfl) ?_
    repeat' first
      | with_reducible refine Br.yes ?_
      | with_reducible refine Br.no ?_
      | with_reducible refine Br.dec (fun _ => ?_) (fun _ => ?_)
      | with_reducible refine Br.beqB (fun _ => ?_) (fun _ => ?_)
      | with_reducible refine Br.beqb (fun _ => ?_) (fun _ => ?_)
      | with_reducible refine Br.mk (fun _ => ?_) (fun _ => ?_)
      | with_reducible refine foundO.mk (fun _ _ => ?_) (fun _ => ?_)
      | with_reducible refine appV.zero ?_
      | with_reducible refine appV.own ?_
      | ((with_reducible refine NewB.mk fun nb hnb => ?_); have hnb1 := hnb.1.1; have hnb2 := hnb.1.2; try simp only [keys_cons, keys_app, keys_nil, NotIn_cons, NotIn_app, NotIn_nil, and_true] at hnb2)
      | ((with_reducible refine NewRow.mk fun nb nsp ncap hnb hncap => ?_); have hnb1 := hnb.1.1; have hnb2 := hnb.1.2; try simp only [keys_cons, keys_app, keys_nil, NotIn_cons, NotIn_app, NotIn_nil, and_true] at hnb2)
      | simp (dsimp := false) (implicitDefEqProofs := false) (disch := first | assumption | (simp only [List.mem_cons, List.mem_append, true_or, or_true, eq_self]; done) | omega | (with_reducible refine Row.adr (by assumption) ?_; simp only [List.length_map, List.length_take, List.length_drop]; omega) | (simp only [List.length_cons, List.length_nil, List.length_map, List.length_append, List.length_replicate, Nat.reduceAdd, true_and, and_true, and_self]; first | done | omega)) only [go_sem, ↓reduceIte, Nat.reduceEqDiff, Nat.reduceAdd, Nat.reduceSub, Nat.reduceMul, Nat.reduceBEq, Nat.reduceLT, Nat.reduceLeDiff, Nat.reduceMod, Nat.reducePow, List.reduceReplicate, UInt8.reduceOfNat, Int.reducePow, Int.reduceDiv, Int.reduceMod, Nat.reduceDiv, Int.reduceNeg, Int.reduceAdd, Int.reduceSub, Int.reduceMul, Int.reduceLE, Int.reduceLT, Int.reduceEq, Int.reduceToNat, reduceCtorEq, -List.reduceReplicate, List.replicate_one, List.toList_toArray, hCl, hCx, hl2, hg2, hputL, Row.obj O.rl, List.getElem_map, hlt, Int.toNat_natCast, Nat.sub_self]
      | with_reducible refine Tri.drawH tok mixed [0, 1, 2, 4, 5, 6, 7, 8, 10, 11, 12, 13, 16, 27, 37, 38, 39, 40, 50, 51, 52, 53, 61] 19 [1, 3, 6] (.op 0 .plain (.op 1 .held (.op 2 .plain (.op 3 .held (.op 4 .plain (.op 5 .plain (.op 6 .held (.op 7 .keeps (.op 8 .keeps (.op 9 .plain (.op 10 .plain .nil))))))))))) (by kernel_rfl) [8, 2] ?_
    rw [← hce]
    exact Upd.go (H' := (b7, .cells (cellsD d vn (.slice (some ⟨nb, 0, none⟩) 1 ncap) vs) [] 27) :: (b2, .cells C [] 27) :: ([(nb, .cells (((labF d l).take (j + 1)).map (Value.int .i64)) nsp 3)] ++ H)) (by intro fsum; first | exact Nat.le_refl _ | (simp only [List.map_append, List.map_cons, List.map_nil, List.sum_append, List.sum_cons, List.sum_nil, List.cons_append, List.nil_append]; omega)) (Upd.now ⟨.slice (some ⟨nb, 0, none⟩) 1 ncap, _, rfl, .inr ⟨nb, ncap, nsp, by rw [hj0], rfl, by omega⟩, rfl, rfl⟩)
  · have hsE := hs0
    try simp only [keys_cons, keys_app, keys_nil, Sep_cons, Sep_nil, NotIn_cons, NotIn_app, NotIn_nil, List.cons_append, List.nil_append, List.append_assoc, and_assoc, and_true, true_and] at hsE
    repeat (obtain ⟨hsx, hsE⟩ := hsE)
    obtain ⟨ps, hps, hpl⟩ : ∃ ps, ps = ((labF d l).take j).map (Value.int .i64) ∧ ps.length = j := ⟨_, rfl, by rw [List.length_map, hlj]⟩
    have hce : ((labF d l).take (j + 1)).map (Value.int .i64) = ps ++ [Value.int .i64 (d.label.getD t 0)] := by rw [hlab, List.map_append, ← hps]; rfl
    rw [← hps]
    refine Tri.piece (f := Try.f27) rfl ?_
    refine Tri.run tok [0, 1, 2, 4, 5, 6, 7, 8, 10, 11, 12, 13, 16, 27, 37, 38, 39, 40, 50, 51, 52, 53, 61] (by kernel_rfl) ?_
    repeat' first
      | with_reducible refine Br.yes ?_
      | with_reducible refine Br.no ?_
      | with_reducible refine Br.dec (fun _ => ?_) (fun _ => ?_)
      | with_reducible refine Br.beqB (fun _ => ?_) (fun _ => ?_)
      | with_reducible refine Br.beqb (fun _ => ?_) (fun _ => ?_)
      | with_reducible refine Br.mk (fun _ => ?_) (fun _ => ?_)
      | with_reducible refine foundO.mk (fun _ _ => ?_) (fun _ => ?_)
      | with_reducible refine appV.zero ?_
      | with_reducible refine appV.own ?_
      | ((with_reducible refine NewB.mk fun nb hnb => ?_); have hnb1 := hnb.1.1; have hnb2 := hnb.1.2; try simp only [keys_cons, keys_app, keys_nil, NotIn_cons, NotIn_app, NotIn_nil, and_true] at hnb2)
      | ((with_reducible refine NewRow.mk fun nb nsp ncap hnb hncap => ?_); have hnb1 := hnb.1.1; have hnb2 := hnb.1.2; try simp only [keys_cons, keys_app, keys_nil, NotIn_cons, NotIn_app, NotIn_nil, and_true] at hnb2)
      | simp (dsimp := false) (implicitDefEqProofs := false) (disch := first | assumption | (simp only [List.mem_cons, List.mem_append, true_or, or_true, eq_self]; done) | omega | (with_reducible refine Row.adr (by assumption) ?_; simp only [List.length_map, List.length_take, List.length_drop]; omega) | (simp only [List.length_cons, List.length_nil, List.length_map, List.length_append, List.length_replicate, Nat.reduceAdd, true_and, and_true, and_self]; first | done | omega)) only [go_sem, ↓reduceIte, Nat.reduceEqDiff, Nat.reduceAdd, Nat.reduceSub, Nat.reduceMul, Nat.reduceBEq, Nat.reduceLT, Nat.reduceLeDiff, Nat.reduceMod, Nat.reducePow, List.reduceReplicate, UInt8.reduceOfNat, Int.reducePow, Int.reduceDiv, Int.reduceMod, Nat.reduceDiv, Int.reduceNeg, Int.reduceAdd, Int.reduceSub, Int.reduceMul, Int.reduceLE, Int.reduceLT, Int.reduceEq, Int.reduceToNat, reduceCtorEq, -List.reduceReplicate, List.replicate_one, List.toList_toArray, hCl, hCx, hl2, hg2, hputL, Row.obj O.rl, List.getElem_map, hlt, Int.toNat_natCast, Nat.sub_self]
      | with_reducible refine Tri.drawH tok mixed [0, 1, 2, 4, 5, 6, 7, 8, 10, 11, 12, 13, 16, 27, 37, 38, 39, 40, 50, 51, 52, 53, 61] 19 [1, 3, 6] (.op 0 .plain (.op 1 .held (.op 2 .plain (.op 3 .held (.op 4 .plain (.op 5 .plain (.op 6 .held (.op 7 .keeps (.op 8 .keeps (.op 9 .plain (.op 10 .plain .nil))))))))))) (by kernel_rfl) [8, 2] ?_
    rw [← hce]
    exact Upd.go (H' := (b7, .cells (cellsD d vn (.slice (some ⟨nb, 0, none⟩) (j + 1) ncap) vs) [] 27) :: (b2, .cells C [] 27) :: ([(nb, .cells (((labF d l).take (j + 1)).map (Value.int .i64)) nsp 3)] ++ H)) (by intro fsum; first | exact Nat.le_refl _ | (simp only [List.map_append, List.map_cons, List.map_nil, List.sum_append, List.sum_cons, List.sum_nil, List.cons_append, List.nil_append]; omega)) (Upd.now ⟨_, _, rfl, .inr ⟨nb, ncap, nsp, rfl, rfl, by omega⟩, rfl, rfl⟩)
end Go.Proofs.Ytlblohmjikopbaa
