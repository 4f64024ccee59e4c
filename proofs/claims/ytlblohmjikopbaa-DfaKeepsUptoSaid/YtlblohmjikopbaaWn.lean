/- Some states of a machine alone: a round. -/
import Derived.Test.YtlblohmjikopbaaWm
import Derived.Test.YtlblohmjikopbaaVeS
set_option linter.unusedSimpArgs false
set_option linter.unusedVariables false
namespace Go.Proofs.Ytlblohmjikopbaa
open Go Go.V Go.Proofs

/-- the rows that there are -/
def RowK (d : DfaT) (l : List Int) (G' : PHeap) (j : Nat) (vn : Value) (kn : Heap) : Prop :=
  (j = 0 ∧ vn = .slice none 0 0 ∧ kn = []) ∨ ∃ bn c1 rv sp1, vn = .slice (some ⟨bn, 0, none⟩) j c1 ∧ kn = [(bn, .cells rv sp1 24)] ∧ rv.length = j ∧ j + sp1.length = c1 ∧
    ∀ i (h : i < j) (h2 : i < rv.length) (h3 : i < l.length), ∃ b c, rv[i] = .slice b (rowK d l l[i]).length c ∧ Row G' b ((rowK d l l[i]).map (Value.int .i64)) ∧ (rowK d l l[i]).length ≤ c
set_option maxHeartbeats 32000000 in
theorem kx_t {d : DfaT} (hsm : SmallD d) (hok : RightP d) {l : List Int} (hO : OnceN d.label.length l) {C : List Value} {an al ay : Option Addr} {cn cl cs : Nat} {rs : List Value} {G : PHeap} {H : Heap} (O : OpenD G d C an al ay cn cl cs rs) {v0 v1 v7 : Value} {b2 b4 b7 : Nat} {an3 ah : Option Addr} {cn3 ch : Nat} (hr3 : Row G an3 (((List.range d.label.length).map fun t : Nat => findF l (t : Int)).map (Value.int .i64))) (hrh : Row G ah ((l).map (Value.int .i64))) {j : Nat} (hj : j < l.length) {vn vl vs : Value} {kn kl : Heap} (hout : RowK d l G j vn kn) (hlab0 : LabK d l j vl kl) (hvs : oneV vs = true) (hfine : fineK d l (l[j]'hj)) :
    Tri Try.prog Try.f27.ntmps (piece [1, 1, 1, 1, 1, 0, 1, 0, 0, 1, 1, 0, 0] Try.f27) G [(0, v0), (1, v1), (2, .pointer (some ⟨b2, 0, none⟩)), (4, .pointer (some ⟨b4, 0, none⟩)), (5, .int .i64 0), (6, .slice an3 d.label.length cn3), (7, v7), (8, .pointer (some ⟨b7, 0, none⟩)), (37, .slice ah l.length ch), (38, .int .i64 l.length), (39, .int .i64 (j : Nat))] ((b7, .cells (cellsD d vn vl vs) [] 27) :: (b2, .cells C [] 27) :: (kn ++ (kl ++ H))) (onlyN fun G' fr' H' =>
      ∃ vn' vl' kn' kl', PLe G G' ∧ RowK d l G' (j + 1) vn' kn' ∧ LabK d l (j + 1) vl' kl' ∧ restrict [0, 1, 2, 4, 5, 6, 7, 8, 37, 38, 39] fr' = [(0, v0), (1, v1), (2, .pointer (some ⟨b2, 0, none⟩)), (4, .pointer (some ⟨b4, 0, none⟩)), (5, .int .i64 0), (6, .slice an3 d.label.length cn3), (7, v7), (8, .pointer (some ⟨b7, 0, none⟩)), (37, .slice ah l.length ch), (38, .int .i64 l.length), (39, .int .i64 (j : Nat))] ∧ H' = (b7, .cells (cellsD d vn' vl' vs) [] 27) :: (b2, .cells C [] 27) :: (kn' ++ (kl' ++ H))) := by
  obtain ⟨hm1, hm2, hm3, hm4, hm5⟩ := id hsm
  obtain ⟨hk1, hk2, hk3, hk4, hk5, hk6, hk7⟩ := id hok
  have hal : (((List.range d.label.length).map fun t : Nat => findF l (t : Int)).map (Value.int .i64)).length = d.label.length := by rw [List.length_map, List.length_map, List.length_range]
  have hCl := O.len
  have hCw := O.w
  have hCn := O.n
  have hCx := O.l
  have hl2 : ∀ a b c : Value, (cellsD d a b c).length = 260 := fun a b c => cellsD_len O.ofl _ _ _
  have hg1 : ∀ a b c : Value, (cellsD d a b c)[257]? = some a := fun a b c => cellsD_n O.ofl _ _ _
  have hg2 : ∀ a b c : Value, (cellsD d a b c)[258]? = some b := fun a b c => cellsD_l O.ofl _ _ _
  have hputN : ∀ a b c x : Value, splice (cellsD d a b c) 257 [x] = cellsD d x b c := fun a b c x => cellsD_putN O.ofl _ _ _ _
  have hputL : ∀ a b c x : Value, splice (cellsD d a b c) 258 [x] = cellsD d a x c := fun a b c x => cellsD_putL O.ofl _ _ _ _
  have hjm := hO.2 _ (List.getElem_mem hj)
  obtain ⟨t, hsj⟩ := Int.eq_ofNat_of_zero_le hjm.1
  have htl : t < d.label.length := by omega
  have htn : t < d.next.length := by omega
  have htl2 : t < d.label.length := by omega
  have htv : t < rs.length := by have := O.rnl; omega
  obtain ⟨b, c, e1, e2, e3⟩ := O.rs t htn htv
  obtain ⟨hw0, hlt0, hlt1, hrng⟩ := hk7 t htn htl2
  obtain ⟨row, hrow⟩ : ∃ row, row = d.next[t] := ⟨_, rfl⟩
  have hrl := hm2 _ (List.getElem_mem htn)
  rw [← hrow] at e1 e2 e3 hw0 hrng hrl
  have hw : d.width = (row.length : Int) := hw0.symm
  obtain ⟨r, hr⟩ : ∃ r, r = rowK d l (t : Nat) := ⟨_, rfl⟩
  have hr' : r = row.map (findF l) := by rw [hr]; unfold rowK; rw [nextF_get htn, hrow]
  have hfr : ∀ x ∈ row, x ∈ l := fun x hx => by
    have h1 := hfine x
    rw [hsj, nextF_get htn, ← hrow] at h1
    exact h1 hx
  have hrlen : r.length = row.length := by rw [hr', List.length_map]
  have hlt : d.label[t] = d.label.getD t 0 := by rw [List.getD_eq_getElem?_getD, List.getElem?_eq_getElem htl2]; rfl
  have hlab : (labF d l).take (j + 1) = (labF d l).take j ++ [d.label.getD t 0] := by
    have hjl : j < (labF d l).length := by unfold labF; rw [List.length_map]; exact hj
    rw [List.take_succ_eq_append_getElem hjl]
    congr 2
    simp only [labF, List.getElem_map, hsj, Int.toNat_natCast]
  have hlj : ((labF d l).take j).length = j := by rw [List.length_take]; unfold labF; rw [List.length_map]; omega
  have hrj : rowK d l l[j] = r := by rw [hsj, hr]
  have had : Adr an := O.rn.adr (by omega)
  have had2 : Adr al := O.rl.adr (by rw [List.length_map]; omega)
  have had3 : Adr ah := hrh.adr (by rw [List.length_map]; omega)
  have had4 : Adr an3 := hr3.adr (by rw [List.length_map, List.length_map, List.length_range]; omega)
  have hjb : j < 65536 := by
    have h1 := hO.len
    omega
  refine Tri.sepT fun hs0 => ?_
  have hsE := hs0
  try simp only [keys_cons, keys_app, keys_nil, Sep_cons, Sep_nil, NotIn_cons, NotIn_app, NotIn_nil, List.cons_append, List.nil_append, List.append_assoc, and_assoc, and_true, true_and] at hsE
  repeat (obtain ⟨hsx, hsE⟩ := hsE)
  refine Tri.piece (f := Try.f27) rfl ?_
  refine Tri.runS tok [0, 1, 2, 4, 5, 6, 7, 8, 10, 11, 12, 13, 16, 27, 37, 38, 39, 40, 50, 51, 52, 53, 61] (.seq .run (.seq .run (.seq .run (.seq .run .cut)))) (by kernel_rfl) ?_
  repeat' first
    | with_reducible refine Br.yes ?_
    | with_reducible refine Br.no ?_
    | with_reducible refine Br.dec (fun _ => ?_) (fun _ => ?_)
    | with_reducible refine Br.beqB (fun _ => ?_) (fun _ => ?_)
    | with_reducible refine Br.beqb (fun _ => ?_) (fun _ => ?_)
    | with_reducible refine Br.mk (fun _ => ?_) (fun _ => ?_)
    | with_reducible refine foundO.mk (fun _ _ => ?_) (fun _ => ?_)
    | with_reducible refine appV.zero ?_
    | with_reducible refine appV.own ?_
    | ((with_reducible refine NewB.mk fun nb hnb => ?_); have hnb1 := hnb.1.1; have hnb2 := hnb.1.2; try simp only [keys_cons, keys_app, keys_nil, NotIn_cons, NotIn_app, NotIn_nil, and_true] at hnb2)
    | ((with_reducible refine NewRow.mk fun nb nsp ncap hnb hncap => ?_); have hnb1 := hnb.1.1; have hnb2 := hnb.1.2; try simp only [keys_cons, keys_app, keys_nil, NotIn_cons, NotIn_app, NotIn_nil, and_true] at hnb2)
    | simp (dsimp := false) (implicitDefEqProofs := false) (disch := first | assumption | (simp only [List.mem_cons, List.mem_append, true_or, or_true, eq_self]; done) | omega | (with_reducible refine Row.adr (by assumption) ?_; simp only [List.length_map, List.length_take, List.length_drop]; omega) | (simp only [List.length_cons, List.length_nil, List.length_map, List.length_append, List.length_replicate, Nat.reduceAdd, true_and, and_true, and_self]; first | done | omega)) only [go_sem, ↓reduceIte, Nat.reduceEqDiff, Nat.reduceAdd, Nat.reduceSub, Nat.reduceMul, Nat.reduceBEq, Nat.reduceLT, Nat.reduceLeDiff, Nat.reduceMod, Nat.reducePow, List.reduceReplicate, UInt8.reduceOfNat, Int.reducePow, Int.reduceDiv, Int.reduceMod, Nat.reduceDiv, Int.reduceNeg, Int.reduceAdd, Int.reduceSub, Int.reduceMul, Int.reduceLE, Int.reduceLT, Int.reduceEq, Int.reduceToNat, reduceCtorEq, -List.reduceReplicate, List.toList_toArray, hCl, hCw, hCn, hCx, hw, hl2, hg1, hg2, hputN, hputL, Row.obj hrh, Row.obj O.rn, e1, Row.obj O.rl, Row.obj hr3, List.getElem_map, hsj, hlt, Int.toNat_natCast, Nat.sub_self, List.replicate_zero]
  revert nb
  intro br hbr hbr1 hbr2
  rw [show List.replicate row.length (Value.int .i64 0) = (partR r 0).map (Value.int .i64) by rw [← hrlen, partR_zero]]
  refine Tri.loopU tok [0, 1, 2, 4, 5, 6, 7, 8, 10, 11, 12, 13, 16, 27, 37, 38, 39, 40, 50, 51, 52, 53, 61] (by kernel_rfl) [0, 1, 2, 4, 5, 6, 7, 8, 10, 11, 37, 38, 39, 50, 51, 52] (fun q G' fr H' => ∃ k : Nat, k + q = row.length ∧ G' = G ∧ H' = (br, .cells ((partR r k).map (Value.int .i64)) [] 3) :: (b7, .cells (cellsD d vn vl vs) [] 27) :: (b2, .cells C [] 27) :: (kn ++ (kl ++ H)) ∧ fr = [(0, v0), (1, v1), (2, .pointer (some ⟨b2, 0, none⟩)), (4, .pointer (some ⟨b4, 0, none⟩)), (5, .int .i64 0), (6, .slice an3 d.label.length cn3), (7, v7), (8, .pointer (some ⟨b7, 0, none⟩)), (10, .int .i64 (t : Nat)), (11, .slice (some ⟨br, 0, none⟩) row.length row.length), (37, .slice ah l.length ch), (38, .int .i64 l.length), (39, .int .i64 (j : Nat)), (50, .slice b row.length c), (51, .int .i64 row.length), (52, .int .i64 (k : Nat))]) (row.length) ?_ ?_
  · refine Upd.now ?_
    exact ⟨0, by omega, rfl, rfl, rfl⟩
  · rintro q G1 fr H' hle hs ⟨k, hk, rfl, rfl, rfl⟩
    have hpl : (partR r k).length = row.length := by rw [partR_len r (by omega), hrlen]
    by_cases hkl : k < row.length
    · have hsE := hs
      try simp only [keys_cons, keys_app, keys_nil, Sep_cons, Sep_nil, NotIn_cons, NotIn_app, NotIn_nil, List.cons_append, List.nil_append, List.append_assoc, and_assoc, and_true, true_and] at hsE
      repeat (obtain ⟨hsx, hsE⟩ := hsE)
      have hkr : k < r.length := by omega
      have had5 : Adr b := e2.adr (by rw [List.length_map]; omega)
      have hx := hrng _ (List.getElem_mem hkl)
      obtain ⟨y, hxy⟩ := Int.eq_ofNat_of_zero_le hx.1
      have hym : y < d.label.length := by omega
      have hval : findF l (y : Nat) = r[k] := by
        simp only [hr', List.getElem_map]
        rw [hxy]
      have hpos : 0 ≤ r[k] := by
        rw [← hval]
        refine findF_mem.2 ?_
        rw [← hxy]
        exact hfr _ (List.getElem_mem hkl)
      have hput := partR_put hkr
      repeat' first
        | with_reducible refine Br.yes ?_
        | with_reducible refine Br.no ?_
        | with_reducible refine Br.dec (fun _ => ?_) (fun _ => ?_)
        | with_reducible refine Br.beqB (fun _ => ?_) (fun _ => ?_)
        | with_reducible refine Br.beqb (fun _ => ?_) (fun _ => ?_)
        | with_reducible refine Br.mk (fun _ => ?_) (fun _ => ?_)
        | with_reducible refine foundO.mk (fun _ _ => ?_) (fun _ => ?_)
        | with_reducible refine appV.zero ?_
        | with_reducible refine appV.own ?_
        | ((with_reducible refine NewB.mk fun nb hnb => ?_); have hnb1 := hnb.1.1; have hnb2 := hnb.1.2; try simp only [keys_cons, keys_app, keys_nil, NotIn_cons, NotIn_app, NotIn_nil, and_true] at hnb2)
        | ((with_reducible refine NewRow.mk fun nb nsp ncap hnb hncap => ?_); have hnb1 := hnb.1.1; have hnb2 := hnb.1.2; try simp only [keys_cons, keys_app, keys_nil, NotIn_cons, NotIn_app, NotIn_nil, and_true] at hnb2)
        | simp (dsimp := false) (implicitDefEqProofs := false) (disch := first | assumption | (simp only [List.mem_cons, List.mem_append, true_or, or_true, eq_self]; done) | omega | (with_reducible refine Row.adr (by assumption) ?_; simp only [List.length_map, List.length_take, List.length_drop]; omega) | (simp only [List.length_cons, List.length_nil, List.length_map, List.length_append, List.length_replicate, Nat.reduceAdd, true_and, and_true, and_self]; first | done | omega)) only [go_sem, ↓reduceIte, Nat.reduceEqDiff, Nat.reduceAdd, Nat.reduceSub, Nat.reduceMul, Nat.reduceBEq, Nat.reduceLT, Nat.reduceLeDiff, Nat.reduceMod, Nat.reducePow, List.reduceReplicate, UInt8.reduceOfNat, Int.reducePow, Int.reduceDiv, Int.reduceMod, Nat.reduceDiv, Int.reduceNeg, Int.reduceAdd, Int.reduceSub, Int.reduceMul, Int.reduceLE, Int.reduceLT, Int.reduceEq, Int.reduceToNat, reduceCtorEq, -List.reduceReplicate, Row.obj e2, Row.obj hr3, List.getElem_map, List.getElem_range, hxy, hval, hput, hpl, Int.toNat_natCast]
      all_goals try (exfalso; omega)
      refine Upd.now ?_
      exact ⟨q - 1, by omega, k + 1, by omega, rfl, rfl, rfl⟩
    · obtain rfl : k = row.length := by omega
      have hpa : partR r row.length = r := by rw [← hrlen]; exact partR_all r
      rw [hpa] at hs ⊢
      rcases hout with ⟨hj0, rfl, rfl⟩ | ⟨bn, c1, rv, sp1, rfl, rfl, hrv, hc1, hrws⟩
      · have hsE := hs
        try simp only [keys_cons, keys_app, keys_nil, Sep_cons, Sep_nil, NotIn_cons, NotIn_app, NotIn_nil, List.cons_append, List.nil_append, List.append_assoc, and_assoc, and_true, true_and] at hsE
        repeat (obtain ⟨hsx, hsE⟩ := hsE)
        repeat' first
          | with_reducible refine Br.yes ?_
          | with_reducible refine Br.no ?_
          | with_reducible refine Br.dec (fun _ => ?_) (fun _ => ?_)
          | with_reducible refine Br.beqB (fun _ => ?_) (fun _ => ?_)
          | with_reducible refine Br.beqb (fun _ => ?_) (fun _ => ?_)
          | with_reducible refine Br.mk (fun _ => ?_) (fun _ => ?_)
          | with_reducible refine foundO.mk (fun _ _ => ?_) (fun _ => ?_)
          | with_reducible refine appV.zero ?_
          | with_reducible refine appV.own ?_
          | ((with_reducible refine NewB.mk fun nb hnb => ?_); have hnb1 := hnb.1.1; have hnb2 := hnb.1.2; try simp only [keys_cons, keys_app, keys_nil, NotIn_cons, NotIn_app, NotIn_nil, and_true] at hnb2)
          | ((with_reducible refine NewRow.mk fun nb nsp ncap hnb hncap => ?_); have hnb1 := hnb.1.1; have hnb2 := hnb.1.2; try simp only [keys_cons, keys_app, keys_nil, NotIn_cons, NotIn_app, NotIn_nil, and_true] at hnb2)
          | simp (dsimp := false) (implicitDefEqProofs := false) (disch := first | assumption | (simp only [List.mem_cons, List.mem_append, true_or, or_true, eq_self]; done) | omega | (with_reducible refine Row.adr (by assumption) ?_; simp only [List.length_map, List.length_take, List.length_drop]; omega) | (simp only [List.length_cons, List.length_nil, List.length_map, List.length_append, List.length_replicate, Nat.reduceAdd, true_and, and_true, and_self]; first | done | omega)) only [go_sem, ↓reduceIte, Nat.reduceEqDiff, Nat.reduceAdd, Nat.reduceSub, Nat.reduceMul, Nat.reduceBEq, Nat.reduceLT, Nat.reduceLeDiff, Nat.reduceMod, Nat.reducePow, List.reduceReplicate, UInt8.reduceOfNat, Int.reducePow, Int.reduceDiv, Int.reduceMod, Nat.reduceDiv, Int.reduceNeg, Int.reduceAdd, Int.reduceSub, Int.reduceMul, Int.reduceLE, Int.reduceLT, Int.reduceEq, Int.reduceToNat, reduceCtorEq, -List.reduceReplicate, List.length_map, hlj, List.replicate_one, List.toList_toArray, hCl, hCw, hCn, hCx, hw, hl2, hg1, hg2, hputN, hputL, Row.obj hrh, Row.obj O.rn, e1, Row.obj O.rl, Row.obj hr3, List.getElem_map, hsj, hlt, Int.toNat_natCast, Nat.sub_self, List.replicate_zero]
        refine Tri.upd (Upd.go (H' := (b7, .cells (cellsD d (.slice (some ⟨nb, 0, none⟩) 1 ncap) vl vs) [] 27) :: (b2, .cells C [] 27) :: (kl ++ ((br, .cells (r.map (Value.int .i64)) [] 3) :: (nb, .cells [.slice (some ⟨br, 0, none⟩) row.length row.length] nsp 24) :: H))) (by intro fsum; first | exact Nat.le_refl _ | (simp only [List.map_append, List.map_cons, List.map_nil, List.sum_append, List.sum_cons, List.sum_nil, List.cons_append, List.nil_append]; omega)) (Upd.now ?_))
        refine Tri.live [0, 1, 2, 4, 5, 6, 7, 8, 10, 37, 38, 39] ?_
        refine Tri.isPiece [1, 1, 1, 1, 1, 0, 1, 0, 0, 1, 1, 0, 0, 1, 1, 1, 1] Try.f27 (by kernel_rfl) ?_
        refine Tri.onlyN (kr19_t O hj hjb htl2 hsj hlab0) fun G5 l5 H5 hle5 hs5 hM => ?_
        obtain ⟨vl', kl', rfl, hlab1, hfr, rfl⟩ := hM
        rw [onlyN_normal]
        have hsE := hs5
        try simp only [keys_cons, keys_app, keys_nil, Sep_cons, Sep_nil, NotIn_cons, NotIn_app, NotIn_nil, List.cons_append, List.nil_append, List.append_assoc, and_assoc, and_true, true_and] at hsE
        repeat (obtain ⟨hsx, hsE⟩ := hsE)
        refine Upd.go (H' := (br, .cells (r.map (Value.int .i64)) [] 3) :: (b7, .cells (cellsD d (.slice (some ⟨nb, 0, none⟩) 1 ncap) vl' vs) [] 27) :: (b2, .cells C [] 27) :: ([(nb, .cells [.slice (some ⟨br, 0, none⟩) row.length row.length] nsp 24)] ++ (kl' ++ H))) (by intro fsum; first | exact Nat.le_refl _ | (simp only [List.map_append, List.map_cons, List.map_nil, List.sum_append, List.sum_cons, List.sum_nil, List.cons_append, List.nil_append]; omega)) (Upd.shareRow (by assumption) fun G6 hle6 hs6 hr6 => ?_)
        refine ⟨_, vl', _, kl', hle6, .inr ⟨nb, ncap, _, nsp, by rw [hj0], rfl, by rw [hj0]; rfl, by omega, fun i h h2 h3 => ?_⟩, hlab1, hfr, rfl⟩
        obtain rfl : i = 0 := by omega
        obtain rfl : j = 0 := hj0
        refine ⟨some ⟨br, 0, none⟩, row.length, ?_, ?_, ?_⟩
        · rw [hrj, hrlen]; rfl
        · rw [hrj]; exact hr6
        · rw [hrj, hrlen]; exact Nat.le_refl _
      · have hsE := hs
        try simp only [keys_cons, keys_app, keys_nil, Sep_cons, Sep_nil, NotIn_cons, NotIn_app, NotIn_nil, List.cons_append, List.nil_append, List.append_assoc, and_assoc, and_true, true_and] at hsE
        repeat (obtain ⟨hsx, hsE⟩ := hsE)
        repeat' first
          | with_reducible refine Br.yes ?_
          | with_reducible refine Br.no ?_
          | with_reducible refine Br.dec (fun _ => ?_) (fun _ => ?_)
          | with_reducible refine Br.beqB (fun _ => ?_) (fun _ => ?_)
          | with_reducible refine Br.beqb (fun _ => ?_) (fun _ => ?_)
          | with_reducible refine Br.mk (fun _ => ?_) (fun _ => ?_)
          | with_reducible refine foundO.mk (fun _ _ => ?_) (fun _ => ?_)
          | with_reducible refine appV.zero ?_
          | with_reducible refine appV.own ?_
          | ((with_reducible refine NewB.mk fun nb hnb => ?_); have hnb1 := hnb.1.1; have hnb2 := hnb.1.2; try simp only [keys_cons, keys_app, keys_nil, NotIn_cons, NotIn_app, NotIn_nil, and_true] at hnb2)
          | ((with_reducible refine NewRow.mk fun nb nsp ncap hnb hncap => ?_); have hnb1 := hnb.1.1; have hnb2 := hnb.1.2; try simp only [keys_cons, keys_app, keys_nil, NotIn_cons, NotIn_app, NotIn_nil, and_true] at hnb2)
          | simp (dsimp := false) (implicitDefEqProofs := false) (disch := first | assumption | (simp only [List.mem_cons, List.mem_append, true_or, or_true, eq_self]; done) | omega | (with_reducible refine Row.adr (by assumption) ?_; simp only [List.length_map, List.length_take, List.length_drop]; omega) | (simp only [List.length_cons, List.length_nil, List.length_map, List.length_append, List.length_replicate, Nat.reduceAdd, true_and, and_true, and_self]; first | done | omega)) only [go_sem, ↓reduceIte, Nat.reduceEqDiff, Nat.reduceAdd, Nat.reduceSub, Nat.reduceMul, Nat.reduceBEq, Nat.reduceLT, Nat.reduceLeDiff, Nat.reduceMod, Nat.reducePow, List.reduceReplicate, UInt8.reduceOfNat, Int.reducePow, Int.reduceDiv, Int.reduceMod, Nat.reduceDiv, Int.reduceNeg, Int.reduceAdd, Int.reduceSub, Int.reduceMul, Int.reduceLE, Int.reduceLT, Int.reduceEq, Int.reduceToNat, reduceCtorEq, -List.reduceReplicate, List.length_map, hlj, List.replicate_one, List.toList_toArray, hCl, hCw, hCn, hCx, hw, hl2, hg1, hg2, hputN, hputL, Row.obj hrh, Row.obj O.rn, e1, Row.obj O.rl, Row.obj hr3, List.getElem_map, hsj, hlt, Int.toNat_natCast, Nat.sub_self, List.replicate_zero]
        refine Tri.upd (Upd.go (H' := (b7, .cells (cellsD d (.slice (some ⟨nb, 0, none⟩) (j + 1) ncap) vl vs) [] 27) :: (b2, .cells C [] 27) :: (kl ++ ((br, .cells (r.map (Value.int .i64)) [] 3) :: (nb, .cells (rv ++ [.slice (some ⟨br, 0, none⟩) row.length row.length]) nsp 24) :: H))) (by intro fsum; first | exact Nat.le_refl _ | (simp only [List.map_append, List.map_cons, List.map_nil, List.sum_append, List.sum_cons, List.sum_nil, List.cons_append, List.nil_append]; omega)) (Upd.now ?_))
        refine Tri.live [0, 1, 2, 4, 5, 6, 7, 8, 10, 37, 38, 39] ?_
        refine Tri.isPiece [1, 1, 1, 1, 1, 0, 1, 0, 0, 1, 1, 0, 0, 1, 1, 1, 1] Try.f27 (by kernel_rfl) ?_
        refine Tri.onlyN (kr19_t O hj hjb htl2 hsj hlab0) fun G5 l5 H5 hle5 hs5 hM => ?_
        obtain ⟨vl', kl', rfl, hlab1, hfr, rfl⟩ := hM
        rw [onlyN_normal]
        have hsE := hs5
        try simp only [keys_cons, keys_app, keys_nil, Sep_cons, Sep_nil, NotIn_cons, NotIn_app, NotIn_nil, List.cons_append, List.nil_append, List.append_assoc, and_assoc, and_true, true_and] at hsE
        repeat (obtain ⟨hsx, hsE⟩ := hsE)
        refine Upd.go (H' := (br, .cells (r.map (Value.int .i64)) [] 3) :: (b7, .cells (cellsD d (.slice (some ⟨nb, 0, none⟩) (j + 1) ncap) vl' vs) [] 27) :: (b2, .cells C [] 27) :: ([(nb, .cells (rv ++ [.slice (some ⟨br, 0, none⟩) row.length row.length]) nsp 24)] ++ (kl' ++ H))) (by intro fsum; first | exact Nat.le_refl _ | (simp only [List.map_append, List.map_cons, List.map_nil, List.sum_append, List.sum_cons, List.sum_nil, List.cons_append, List.nil_append]; omega)) (Upd.shareRow (by assumption) fun G6 hle6 hs6 hr6 => ?_)
        refine ⟨_, vl', _, kl', hle6, .inr ⟨nb, ncap, _, nsp, rfl, rfl, by rw [List.length_append, hrv]; rfl, by omega, fun i h h2 h3 => ?_⟩, hlab1, hfr, rfl⟩
        rcases Nat.lt_or_ge i j with hij | hij
        · obtain ⟨b', c', f1, f2, f3⟩ := hrws i hij (by omega) h3
          exact ⟨b', c', by rw [List.getElem_append_left (by omega)]; exact f1, f2.mono hle6, f3⟩
        · obtain rfl : i = j := by omega
          refine ⟨some ⟨br, 0, none⟩, row.length, ?_, ?_, ?_⟩
          · rw [hrj, hrlen, List.getElem_append_right (by omega)]; simp [hrv]
          · rw [hrj]; exact hr6
          · rw [hrj, hrlen]; exact Nat.le_refl _
set_option maxHeartbeats 32000000 in
theorem kxb_t {d : DfaT} (hsm : SmallD d) (hok : RightP d) {l : List Int} (hO : OnceN d.label.length l) {C : List Value} {an al ay : Option Addr} {cn cl cs : Nat} {rs : List Value} {G : PHeap} {H : Heap} (O : OpenD G d C an al ay cn cl cs rs) {v0 v1 v7 : Value} {b2 b4 b7 : Nat} {an3 ah : Option Addr} {cn3 ch : Nat} (hr3 : Row G an3 (((List.range d.label.length).map fun t : Nat => findF l (t : Int)).map (Value.int .i64))) (hrh : Row G ah ((l).map (Value.int .i64))) {j : Nat} (hj : j < l.length) {B7 : List Value} (hbad : ¬ fineK d l (l[j]'hj)) :
    Tri Try.prog Try.f27.ntmps (piece [1, 1, 1, 1, 1, 0, 1, 0, 0, 1, 1, 0, 0] Try.f27) G [(0, v0), (1, v1), (2, .pointer (some ⟨b2, 0, none⟩)), (4, .pointer (some ⟨b4, 0, none⟩)), (5, .int .i64 0), (6, .slice an3 d.label.length cn3), (7, v7), (8, .pointer (some ⟨b7, 0, none⟩)), (37, .slice ah l.length ch), (38, .int .i64 l.length), (39, .int .i64 (j : Nat))] ((b4, .cells zeroC [] 27) :: (b7, .cells B7 [] 27) :: (b2, .cells C [] 27) :: H) (onlyR fun G' fr' H' => PLe G G' ∧ restrict [4, 5] fr' = [(4, .pointer (some ⟨b4, 0, none⟩)), (5, .int .i64 1)] ∧ H' = (b4, .cells zeroC [] 27) :: H) := by
  obtain ⟨hm1, hm2, hm3, hm4, hm5⟩ := id hsm
  obtain ⟨hk1, hk2, hk3, hk4, hk5, hk6, hk7⟩ := id hok
  have hal : (((List.range d.label.length).map fun t : Nat => findF l (t : Int)).map (Value.int .i64)).length = d.label.length := by rw [List.length_map, List.length_map, List.length_range]
  have hCl := O.len
  have hCw := O.w
  have hCn := O.n
  have hCx := O.l
  have hjm := hO.2 _ (List.getElem_mem hj)
  obtain ⟨t, hsj⟩ := Int.eq_ofNat_of_zero_le hjm.1
  have htl : t < d.label.length := by omega
  have htn : t < d.next.length := by omega
  have htl2 : t < d.label.length := by omega
  have htv : t < rs.length := by have := O.rnl; omega
  obtain ⟨b, c, e1, e2, e3⟩ := O.rs t htn htv
  obtain ⟨hw0, hlt0, hlt1, hrng⟩ := hk7 t htn htl2
  obtain ⟨row, hrow⟩ : ∃ row, row = d.next[t] := ⟨_, rfl⟩
  have hrl := hm2 _ (List.getElem_mem htn)
  rw [← hrow] at e1 e2 e3 hw0 hrng hrl
  have hw : d.width = (row.length : Int) := hw0.symm
  obtain ⟨r, hr⟩ : ∃ r, r = rowK d l (t : Nat) := ⟨_, rfl⟩
  have hr' : r = row.map (findF l) := by rw [hr]; unfold rowK; rw [nextF_get htn, hrow]
  have hfr : ¬ ∀ x ∈ row, x ∈ l := fun h => hbad fun y hy => by
    rw [hsj, nextF_get htn, ← hrow] at hy
    exact h y hy
  have hrlen : r.length = row.length := by rw [hr', List.length_map]
  have had : Adr an := O.rn.adr (by omega)
  have had3 : Adr ah := hrh.adr (by rw [List.length_map]; omega)
  have had4 : Adr an3 := hr3.adr (by rw [List.length_map, List.length_map, List.length_range]; omega)
  have hjb : j < 65536 := by
    have h1 := hO.len
    omega
  refine Tri.sepT fun hs0 => ?_
  have hsE := hs0
  try simp only [keys_cons, keys_app, keys_nil, Sep_cons, Sep_nil, NotIn_cons, NotIn_app, NotIn_nil, List.cons_append, List.nil_append, List.append_assoc, and_assoc, and_true, true_and] at hsE
  repeat (obtain ⟨hsx, hsE⟩ := hsE)
  refine Tri.piece (f := Try.f27) rfl ?_
  refine Tri.run tok [0, 1, 2, 4, 5, 6, 7, 8, 10, 11, 12, 13, 16, 27, 37, 38, 39, 40, 50, 51, 52, 53, 61] (by kernel_rfl) ?_
  repeat' first
    | with_reducible refine Br.yes ?_
    | with_reducible refine Br.no ?_
    | with_reducible refine Br.dec (fun _ => ?_) (fun _ => ?_)
    | with_reducible refine Br.beqB (fun _ => ?_) (fun _ => ?_)
    | with_reducible refine Br.beqb (fun _ => ?_) (fun _ => ?_)
    | with_reducible refine Br.mk (fun _ => ?_) (fun _ => ?_)
    | with_reducible refine foundO.mk (fun _ _ => ?_) (fun _ => ?_)
    | with_reducible refine appV.zero ?_
    | with_reducible refine appV.own ?_
    | ((with_reducible refine NewB.mk fun nb hnb => ?_); have hnb1 := hnb.1.1; have hnb2 := hnb.1.2; try simp only [keys_cons, keys_app, keys_nil, NotIn_cons, NotIn_app, NotIn_nil, and_true] at hnb2)
    | ((with_reducible refine NewRow.mk fun nb nsp ncap hnb hncap => ?_); have hnb1 := hnb.1.1; have hnb2 := hnb.1.2; try simp only [keys_cons, keys_app, keys_nil, NotIn_cons, NotIn_app, NotIn_nil, and_true] at hnb2)
    | simp (dsimp := false) (implicitDefEqProofs := false) (disch := first | assumption | (simp only [List.mem_cons, List.mem_append, true_or, or_true, eq_self]; done) | omega | (with_reducible refine Row.adr (by assumption) ?_; simp only [List.length_map, List.length_take, List.length_drop]; omega) | (simp only [List.length_cons, List.length_nil, List.length_map, List.length_append, List.length_replicate, Nat.reduceAdd, true_and, and_true, and_self]; first | done | omega)) only [go_sem, ↓reduceIte, Nat.reduceEqDiff, Nat.reduceAdd, Nat.reduceSub, Nat.reduceMul, Nat.reduceBEq, Nat.reduceLT, Nat.reduceLeDiff, Nat.reduceMod, Nat.reducePow, List.reduceReplicate, UInt8.reduceOfNat, Int.reducePow, Int.reduceDiv, Int.reduceMod, Nat.reduceDiv, Int.reduceNeg, Int.reduceAdd, Int.reduceSub, Int.reduceMul, Int.reduceLE, Int.reduceLT, Int.reduceEq, Int.reduceToNat, reduceCtorEq, -List.reduceReplicate, List.toList_toArray, hCl, hCw, hCn, hCx, hw, Row.obj hrh, Row.obj O.rn, e1, Row.obj hr3, List.getElem_map, hsj, Int.toNat_natCast, Nat.sub_self, List.replicate_zero]
  revert nb
  intro br hbr hbr1 hbr2
  rw [show List.replicate row.length (Value.int .i64 0) = (partR r 0).map (Value.int .i64) by rw [← hrlen, partR_zero]]
  refine Tri.loopU tok [0, 1, 2, 4, 5, 6, 7, 8, 10, 11, 12, 13, 16, 27, 37, 38, 39, 40, 50, 51, 52, 53, 61] (by kernel_rfl) [0, 1, 2, 4, 5, 6, 7, 8, 10, 11, 37, 38, 39, 50, 51, 52] (fun q G' fr H' => ∃ k : Nat, k + q = row.length ∧ (∀ i (h : i < row.length), i < k → row[i] ∈ l) ∧ G' = G ∧ H' = (br, .cells ((partR r k).map (Value.int .i64)) [] 3) :: (b4, .cells zeroC [] 27) :: (b7, .cells B7 [] 27) :: (b2, .cells C [] 27) :: H ∧ fr = [(0, v0), (1, v1), (2, .pointer (some ⟨b2, 0, none⟩)), (4, .pointer (some ⟨b4, 0, none⟩)), (5, .int .i64 0), (6, .slice an3 d.label.length cn3), (7, v7), (8, .pointer (some ⟨b7, 0, none⟩)), (10, .int .i64 (t : Nat)), (11, .slice (some ⟨br, 0, none⟩) row.length row.length), (37, .slice ah l.length ch), (38, .int .i64 l.length), (39, .int .i64 (j : Nat)), (50, .slice b row.length c), (51, .int .i64 row.length), (52, .int .i64 (k : Nat))]) (row.length) ?_ ?_
  · refine Upd.now ?_
    exact ⟨0, by omega, fun i h h2 => by omega, rfl, rfl, rfl⟩
  · rintro q G1 fr H' hle hs ⟨k, hk, hall, rfl, rfl, rfl⟩
    have hpl : (partR r k).length = row.length := by rw [partR_len r (by omega), hrlen]
    by_cases hkl : k < row.length
    · have hsE := hs
      try simp only [keys_cons, keys_app, keys_nil, Sep_cons, Sep_nil, NotIn_cons, NotIn_app, NotIn_nil, List.cons_append, List.nil_append, List.append_assoc, and_assoc, and_true, true_and] at hsE
      repeat (obtain ⟨hsx, hsE⟩ := hsE)
      have hkr : k < r.length := by omega
      have had5 : Adr b := e2.adr (by rw [List.length_map]; omega)
      have hx := hrng _ (List.getElem_mem hkl)
      obtain ⟨y, hxy⟩ := Int.eq_ofNat_of_zero_le hx.1
      have hym : y < d.label.length := by omega
      have hval : findF l (y : Nat) = r[k] := by
        simp only [hr', List.getElem_map]
        rw [hxy]
      have hput := partR_put hkr
      by_cases hin : row[k] ∈ l
      · have hpos : 0 ≤ r[k] := by
          rw [← hval]
          refine findF_mem.2 ?_
          rw [← hxy]
          exact hin
        repeat' first
          | with_reducible refine Br.yes ?_
          | with_reducible refine Br.no ?_
          | with_reducible refine Br.dec (fun _ => ?_) (fun _ => ?_)
          | with_reducible refine Br.beqB (fun _ => ?_) (fun _ => ?_)
          | with_reducible refine Br.beqb (fun _ => ?_) (fun _ => ?_)
          | with_reducible refine Br.mk (fun _ => ?_) (fun _ => ?_)
          | with_reducible refine foundO.mk (fun _ _ => ?_) (fun _ => ?_)
          | with_reducible refine appV.zero ?_
          | with_reducible refine appV.own ?_
          | ((with_reducible refine NewB.mk fun nb hnb => ?_); have hnb1 := hnb.1.1; have hnb2 := hnb.1.2; try simp only [keys_cons, keys_app, keys_nil, NotIn_cons, NotIn_app, NotIn_nil, and_true] at hnb2)
          | ((with_reducible refine NewRow.mk fun nb nsp ncap hnb hncap => ?_); have hnb1 := hnb.1.1; have hnb2 := hnb.1.2; try simp only [keys_cons, keys_app, keys_nil, NotIn_cons, NotIn_app, NotIn_nil, and_true] at hnb2)
          | simp (dsimp := false) (implicitDefEqProofs := false) (disch := first | assumption | (simp only [List.mem_cons, List.mem_append, true_or, or_true, eq_self]; done) | omega | (with_reducible refine Row.adr (by assumption) ?_; simp only [List.length_map, List.length_take, List.length_drop]; omega) | (simp only [List.length_cons, List.length_nil, List.length_map, List.length_append, List.length_replicate, Nat.reduceAdd, true_and, and_true, and_self]; first | done | omega)) only [go_sem, ↓reduceIte, Nat.reduceEqDiff, Nat.reduceAdd, Nat.reduceSub, Nat.reduceMul, Nat.reduceBEq, Nat.reduceLT, Nat.reduceLeDiff, Nat.reduceMod, Nat.reducePow, List.reduceReplicate, UInt8.reduceOfNat, Int.reducePow, Int.reduceDiv, Int.reduceMod, Nat.reduceDiv, Int.reduceNeg, Int.reduceAdd, Int.reduceSub, Int.reduceMul, Int.reduceLE, Int.reduceLT, Int.reduceEq, Int.reduceToNat, reduceCtorEq, -List.reduceReplicate, Row.obj e2, Row.obj hr3, List.getElem_map, List.getElem_range, hxy, hval, hput, hpl, Int.toNat_natCast]
        all_goals try (exfalso; omega)
        refine Upd.now ?_
        exact ⟨q - 1, by omega, k + 1, by omega, fun i h h2 => by
          by_cases e : i = k
          · subst e; exact hin
          · exact hall i h (by omega), rfl, rfl, rfl⟩
      · have hneg : r[k] < 0 := by
          rw [← hval]
          rcases Int.lt_or_le (findF l (y : Int)) 0 with h | h
          · exact h
          · exact absurd (hxy ▸ findF_mem.1 h) hin
        repeat' first
          | with_reducible refine Br.yes ?_
          | with_reducible refine Br.no ?_
          | with_reducible refine Br.dec (fun _ => ?_) (fun _ => ?_)
          | with_reducible refine Br.beqB (fun _ => ?_) (fun _ => ?_)
          | with_reducible refine Br.beqb (fun _ => ?_) (fun _ => ?_)
          | with_reducible refine Br.mk (fun _ => ?_) (fun _ => ?_)
          | with_reducible refine foundO.mk (fun _ _ => ?_) (fun _ => ?_)
          | with_reducible refine appV.zero ?_
          | with_reducible refine appV.own ?_
          | ((with_reducible refine NewB.mk fun nb hnb => ?_); have hnb1 := hnb.1.1; have hnb2 := hnb.1.2; try simp only [keys_cons, keys_app, keys_nil, NotIn_cons, NotIn_app, NotIn_nil, and_true] at hnb2)
          | ((with_reducible refine NewRow.mk fun nb nsp ncap hnb hncap => ?_); have hnb1 := hnb.1.1; have hnb2 := hnb.1.2; try simp only [keys_cons, keys_app, keys_nil, NotIn_cons, NotIn_app, NotIn_nil, and_true] at hnb2)
          | simp (dsimp := false) (implicitDefEqProofs := false) (disch := first | assumption | (simp only [List.mem_cons, List.mem_append, true_or, or_true, eq_self]; done) | omega | (with_reducible refine Row.adr (by assumption) ?_; simp only [List.length_map, List.length_take, List.length_drop]; omega) | (simp only [List.length_cons, List.length_nil, List.length_map, List.length_append, List.length_replicate, Nat.reduceAdd, true_and, and_true, and_self]; first | done | omega)) only [go_sem, ↓reduceIte, Nat.reduceEqDiff, Nat.reduceAdd, Nat.reduceSub, Nat.reduceMul, Nat.reduceBEq, Nat.reduceLT, Nat.reduceLeDiff, Nat.reduceMod, Nat.reducePow, List.reduceReplicate, UInt8.reduceOfNat, Int.reducePow, Int.reduceDiv, Int.reduceMod, Nat.reduceDiv, Int.reduceNeg, Int.reduceAdd, Int.reduceSub, Int.reduceMul, Int.reduceLE, Int.reduceLT, Int.reduceEq, Int.reduceToNat, reduceCtorEq, -List.reduceReplicate, Row.obj e2, Row.obj hr3, List.getElem_map, List.getElem_range, hxy, hval, hpl, Int.toNat_natCast, zeroC_len, zeroC_one, zeroC_take, zeroC_put]
        all_goals try (exfalso; omega)
        exact Upd.go (H' := (b4, .cells zeroC [] 27) :: H) (by intro fsum; first | exact Nat.le_refl _ | (simp only [List.map_append, List.map_cons, List.map_nil, List.sum_append, List.sum_cons, List.sum_nil, List.cons_append, List.nil_append]; omega)) (Upd.now ⟨hle, rfl, rfl⟩)
    · exact absurd (fun x hx => by
        obtain ⟨i, hi, rfl⟩ := List.getElem_of_mem hx
        exact hall i hi (by omega)) hfr
end Go.Proofs.Ytlblohmjikopbaa
