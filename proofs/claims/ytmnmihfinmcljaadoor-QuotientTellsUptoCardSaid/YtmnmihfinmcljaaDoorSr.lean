/- The machine of blocks: a round. -/
import Derived.Test.YtmnmihfinmcljaaDoorSq
set_option linter.unusedSimpArgs false
set_option linter.unusedVariables false
namespace Go.Proofs.YtmnmihfinmcljaaDoor
open Go Go.V Go.Proofs

/-- the rows that there are -/
def RowO (d : DfaT) (m : List Int) (G' : PHeap) (j : Nat) (vn : Value) (kn : Heap) : Prop :=
  (j = 0 ∧ vn = .slice none 0 0 ∧ kn = []) ∨ ∃ bn c1 rv sp1, vn = .slice (some ⟨bn, 0, none⟩) j c1 ∧ kn = [(bn, .cells rv sp1 24)] ∧ rv.length = j ∧ j + sp1.length = c1 ∧
    ∀ i (h : i < j) (h2 : i < rv.length) (h3 : i < (headsM m).length), ∃ b c, rv[i] = .slice b (rowB d m (headsM m)[i].toNat).length c ∧ Row G' b ((rowB d m (headsM m)[i].toNat).map (Value.int .i64)) ∧ (rowB d m (headsM m)[i].toNat).length ≤ c
set_option maxHeartbeats 32000000 in
theorem x_t {d : DfaT} (hsm : SmallD d) {m : List Int} (hst : StableP d m) {C : List Value} {an al ay : Option Addr} {cn cl cs : Nat} {rs : List Value} {G : PHeap} {H : Heap} (O : OpenD G d C an al ay cn cl cs rs) {v0 v1 : Value} {b2 b4 b7 : Nat} {an3 ah : Option Addr} {cn3 ch : Nat} (hr3 : Row G an3 ((nums m).map (Value.int .i64))) (hrh : Row G ah ((headsM m).map (Value.int .i64))) {j : Nat} (hj : j < (headsM m).length) {vn vl vs : Value} {kn kl : Heap} (hout : RowO d m G j vn kn) (hlab0 : LabO d m j vl kl) (hvs : oneV vs = true) :
    Tri Tryd.prog Tryd.f14.ntmps (piece [1, 1, 1, 1, 0, 1, 0, 0, 1, 1, 0, 0] Tryd.f14) G [(0, v0), (1, v1), (2, .pointer (some ⟨b2, 0, none⟩)), (4, .pointer (some ⟨b4, 0, none⟩)), (5, .int .i64 0), (6, .slice an3 (nums m).length cn3), (7, .pointer (some ⟨b7, 0, none⟩)), (35, .slice ah (headsM m).length ch), (36, .int .i64 (headsM m).length), (37, .int .i64 (j : Nat))] ((b7, .cells (cellsD d vn vl vs) [] 27) :: (b2, .cells C [] 27) :: (kn ++ (kl ++ H))) (onlyN fun G' fr' H' =>
      ∃ vn' vl' kn' kl', PLe G G' ∧ RowO d m G' (j + 1) vn' kn' ∧ LabO d m (j + 1) vl' kl' ∧ restrict [0, 1, 2, 4, 5, 6, 7, 35, 36, 37] fr' = [(0, v0), (1, v1), (2, .pointer (some ⟨b2, 0, none⟩)), (4, .pointer (some ⟨b4, 0, none⟩)), (5, .int .i64 0), (6, .slice an3 (nums m).length cn3), (7, .pointer (some ⟨b7, 0, none⟩)), (35, .slice ah (headsM m).length ch), (36, .int .i64 (headsM m).length), (37, .int .i64 (j : Nat))] ∧ H' = (b7, .cells (cellsD d vn' vl' vs) [] 27) :: (b2, .cells C [] 27) :: (kn' ++ (kl' ++ H))) := by
  obtain ⟨hm1, hm2, hm3, hm4, hm5⟩ := id hsm
  have hok := hst.1
  have hml : m.length = d.label.length := hst.2.1
  obtain ⟨hk1, hk2, hk3, hk4, hk5, hk6, hk7⟩ := id hok
  have hCl := O.len
  have hCw := O.w
  have hCn := O.n
  have hCx := O.l
  have hnl := nums_len m
  have hl2 : ∀ a b c : Value, (cellsD d a b c).length = 260 := fun a b c => cellsD_len O.ofl _ _ _
  have hg1 : ∀ a b c : Value, (cellsD d a b c)[257]? = some a := fun a b c => cellsD_n O.ofl _ _ _
  have hg2 : ∀ a b c : Value, (cellsD d a b c)[258]? = some b := fun a b c => cellsD_l O.ofl _ _ _
  have hputN : ∀ a b c x : Value, splice (cellsD d a b c) 257 [x] = cellsD d x b c := fun a b c x => cellsD_putN O.ofl _ _ _ _
  have hputL : ∀ a b c x : Value, splice (cellsD d a b c) 258 [x] = cellsD d a x c := fun a b c x => cellsD_putL O.ofl _ _ _ _
  -- the state
  obtain ⟨t, htl, hsj⟩ : ∃ t : Nat, t < m.length ∧ (headsM m)[j] = (t : Int) := by
    have hmem : (tabO m)[j]'(by unfold headsM at hj; rwa [List.length_map] at hj) ∈ m := (mem_tabO m).1 (List.getElem_mem _)
    obtain ⟨t, ht⟩ := place_mem hmem
    exact ⟨t, (place_some ht).1, by simp only [headsM, List.getElem_map]; exact findF_some ht⟩
  have htn : t < d.next.length := by omega
  have htl2 : t < d.label.length := by omega
  have htv : t < rs.length := by have := O.rnl; omega
  obtain ⟨b, c, e1, e2, e3⟩ := O.rs t htn htv
  obtain ⟨hw0, hlt0, hlt1, hrng⟩ := hk7 t htn htl2
  obtain ⟨row, hrow⟩ : ∃ row, row = d.next[t] := ⟨_, rfl⟩
  have hrl := hm2 _ (List.getElem_mem htn)
  rw [← hrow] at e1 e2 e3 hw0 hrng hrl
  have hw : d.width = (row.length : Int) := hw0.symm
  obtain ⟨r, hr⟩ : ∃ r, r = rowB d m t := ⟨_, rfl⟩
  have hr' : r = row.map (atL (nums m)) := by rw [hr]; unfold rowB; rw [List.getD_eq_getElem?_getD, List.getElem?_eq_getElem htn, hrow]; rfl
  have hrlen : r.length = row.length := by rw [hr', List.length_map]
  have hlt : d.label[t] = d.label.getD t 0 := by rw [List.getD_eq_getElem?_getD, List.getElem?_eq_getElem htl2]; rfl
  have hlab : (labsM d m).take (j + 1) = (labsM d m).take j ++ [d.label.getD t 0] := by
    have hjl : j < (labsM d m).length := by unfold labsM; rw [List.length_map]; exact hj
    rw [List.take_succ_eq_append_getElem hjl]
    congr 2
    simp only [labsM, List.getElem_map, hsj, Int.toNat_natCast]
  have hlj : ((labsM d m).take j).length = j := by rw [List.length_take]; unfold labsM; rw [List.length_map]; omega
  have hrj : rowB d m (headsM m)[j].toNat = r := by rw [hsj, Int.toNat_natCast, hr]
  have had : Adr an := O.rn.adr (by omega)
  have had2 : Adr al := O.rl.adr (by rw [List.length_map]; omega)
  have had3 : Adr ah := hrh.adr (by rw [List.length_map]; omega)
  have had4 : Adr an3 := hr3.adr (by rw [List.length_map]; omega)
  have hjb : j < 65536 := by
    have h1 := tabO_len m
    unfold headsM at hj
    rw [List.length_map] at hj
    omega
  refine Tri.sepT fun hs0 => ?_
  have hsE := hs0
  try simp only [keys_cons, keys_app, keys_nil, Sep_cons, Sep_nil, NotIn_cons, NotIn_app, NotIn_nil, List.cons_append, List.nil_append, List.append_assoc, and_assoc, and_true, true_and] at hsE
  repeat (obtain ⟨hsx, hsE⟩ := hsE)
  refine Tri.piece (f := Tryd.f14) rfl ?_
  refine Tri.runS tok [0, 1, 2, 4, 5, 6, 7, 9, 10, 11, 12, 13, 18, 35, 36, 37, 38, 48, 49, 50, 51] (.seq .run (.seq .run (.seq .run (.seq .run .cut)))) (by kernel_rfl) ?_
  repeat' first
    | with_reducible refine Br.yes ?_
    | with_reducible refine Br.no ?_
    | with_reducible refine Br.dec (fun _ => ?_) (fun _ => ?_)
    | with_reducible refine Br.beqB (fun _ => ?_) (fun _ => ?_)
    | with_reducible refine Br.beqb (fun _ => ?_) (fun _ => ?_)
    | with_reducible refine Br.mk (fun _ => ?_) (fun _ => ?_)
    | with_reducible refine foundO.mk (fun _ _ => ?_) (fun _ => ?_)
    | with_reducible refine appV.zero ?_
    | with_reducible refine appV.own ?_
    | ((with_reducible refine NewB.mk fun nb hnb => ?_); have hnb1 := hnb.1.1; have hnb2 := hnb.1.2; try simp only [keys_cons, keys_app, keys_nil, NotIn_cons, NotIn_app, NotIn_nil, and_true] at hnb2)
    | ((with_reducible refine NewRow.mk fun nb nsp ncap hnb hncap => ?_); have hnb1 := hnb.1.1; have hnb2 := hnb.1.2; try simp only [keys_cons, keys_app, keys_nil, NotIn_cons, NotIn_app, NotIn_nil, and_true] at hnb2)
    | simp (dsimp := false) (implicitDefEqProofs := false) (disch := first | assumption | (simp only [List.mem_cons, List.mem_append, true_or, or_true, eq_self]; done) | omega | (with_reducible refine Row.adr (by assumption) ?_; simp only [List.length_map, List.length_take, List.length_drop]; omega) | (simp only [List.length_cons, List.length_nil, List.length_map, List.length_append, List.length_replicate, Nat.reduceAdd, true_and, and_true, and_self]; first | done | omega)) only [go_sem, ↓reduceIte, Nat.reduceEqDiff, Nat.reduceAdd, Nat.reduceSub, Nat.reduceMul, Nat.reduceBEq, Nat.reduceLT, Nat.reduceLeDiff, Nat.reduceMod, Nat.reducePow, List.reduceReplicate, UInt8.reduceOfNat, Int.reducePow, Int.reduceDiv, Int.reduceMod, Nat.reduceDiv, Int.reduceNeg, Int.reduceAdd, Int.reduceSub, Int.reduceMul, Int.reduceLE, Int.reduceLT, Int.reduceEq, Int.reduceToNat, reduceCtorEq, -List.reduceReplicate, List.toList_toArray, hCl, hCw, hCn, hCx, hw, hl2, hg1, hg2, hputN, hputL, Row.obj hrh, Row.obj O.rn, e1, Row.obj O.rl, Row.obj hr3, List.getElem_map, hsj, hlt, Int.toNat_natCast, Nat.sub_self, List.replicate_zero]
  revert nb
  intro br hbr hbr1 hbr2
  rw [show List.replicate row.length (Value.int .i64 0) = (partR r 0).map (Value.int .i64) by rw [← hrlen, partR_zero]]
  refine Tri.loopU tok [0, 1, 2, 4, 5, 6, 7, 9, 10, 11, 12, 13, 18, 35, 36, 37, 38, 48, 49, 50, 51] (by kernel_rfl) [0, 1, 2, 4, 5, 6, 7, 9, 10, 35, 36, 37, 48, 49, 50] (fun q G' fr H' => ∃ k : Nat, k + q = row.length ∧ G' = G ∧ H' = (br, .cells ((partR r k).map (Value.int .i64)) [] 3) :: (b7, .cells (cellsD d vn vl vs) [] 27) :: (b2, .cells C [] 27) :: (kn ++ (kl ++ H)) ∧ fr = [(0, v0), (1, v1), (2, .pointer (some ⟨b2, 0, none⟩)), (4, .pointer (some ⟨b4, 0, none⟩)), (5, .int .i64 0), (6, .slice an3 (nums m).length cn3), (7, .pointer (some ⟨b7, 0, none⟩)), (9, .int .i64 (t : Nat)), (10, .slice (some ⟨br, 0, none⟩) row.length row.length), (35, .slice ah (headsM m).length ch), (36, .int .i64 (headsM m).length), (37, .int .i64 (j : Nat)), (48, .slice b row.length c), (49, .int .i64 row.length), (50, .int .i64 (k : Nat))]) (row.length) ?_ ?_
  · exact Upd.now ⟨0, by omega, rfl, rfl, rfl⟩
  · rintro q G1 fr H' hle hs ⟨k, hk, rfl, rfl, rfl⟩
    have hpl : (partR r k).length = row.length := by rw [partR_len r (by omega), hrlen]
    by_cases hkl : k < row.length
    · have hsE := hs
      try simp only [keys_cons, keys_app, keys_nil, Sep_cons, Sep_nil, NotIn_cons, NotIn_app, NotIn_nil, List.cons_append, List.nil_append, List.append_assoc, and_assoc, and_true, true_and] at hsE
      repeat (obtain ⟨hsx, hsE⟩ := hsE)
      have hkr : k < r.length := by omega
      have had5 : Adr b := e2.adr (by rw [List.length_map]; omega)
      have hx := hrng _ (List.getElem_mem hkl)
      obtain ⟨y, hxy⟩ := Int.eq_ofNat_of_zero_le hx.1
      have hym : y < (nums m).length := by omega
      have hval : (nums m)[y] = r[k] := by
        simp only [hr', List.getElem_map]
        rw [hxy, atL_get (by simpa using hym)]
        simp only [Int.toNat_natCast]
      have hput := partR_put hkr
      repeat' first
        | with_reducible refine Br.yes ?_
        | with_reducible refine Br.no ?_
        | with_reducible refine Br.dec (fun _ => ?_) (fun _ => ?_)
        | with_reducible refine Br.beqB (fun _ => ?_) (fun _ => ?_)
        | with_reducible refine Br.beqb (fun _ => ?_) (fun _ => ?_)
        | with_reducible refine Br.mk (fun _ => ?_) (fun _ => ?_)
        | with_reducible refine foundO.mk (fun _ _ => ?_) (fun _ => ?_)
        | with_reducible refine appV.zero ?_
        | with_reducible refine appV.own ?_
        | ((with_reducible refine NewB.mk fun nb hnb => ?_); have hnb1 := hnb.1.1; have hnb2 := hnb.1.2; try simp only [keys_cons, keys_app, keys_nil, NotIn_cons, NotIn_app, NotIn_nil, and_true] at hnb2)
        | ((with_reducible refine NewRow.mk fun nb nsp ncap hnb hncap => ?_); have hnb1 := hnb.1.1; have hnb2 := hnb.1.2; try simp only [keys_cons, keys_app, keys_nil, NotIn_cons, NotIn_app, NotIn_nil, and_true] at hnb2)
        | simp (dsimp := false) (implicitDefEqProofs := false) (disch := first | assumption | (simp only [List.mem_cons, List.mem_append, true_or, or_true, eq_self]; done) | omega | (with_reducible refine Row.adr (by assumption) ?_; simp only [List.length_map, List.length_take, List.length_drop]; omega) | (simp only [List.length_cons, List.length_nil, List.length_map, List.length_append, List.length_replicate, Nat.reduceAdd, true_and, and_true, and_self]; first | done | omega)) only [go_sem, ↓reduceIte, Nat.reduceEqDiff, Nat.reduceAdd, Nat.reduceSub, Nat.reduceMul, Nat.reduceBEq, Nat.reduceLT, Nat.reduceLeDiff, Nat.reduceMod, Nat.reducePow, List.reduceReplicate, UInt8.reduceOfNat, Int.reducePow, Int.reduceDiv, Int.reduceMod, Nat.reduceDiv, Int.reduceNeg, Int.reduceAdd, Int.reduceSub, Int.reduceMul, Int.reduceLE, Int.reduceLT, Int.reduceEq, Int.reduceToNat, reduceCtorEq, -List.reduceReplicate, Row.obj e2, Row.obj hr3, List.getElem_map, hxy, hval, hput, hpl, Int.toNat_natCast]
      exact Upd.now ⟨q - 1, by omega, k + 1, by omega, rfl, rfl, rfl⟩
    · obtain rfl : k = row.length := by omega
      have hpa : partR r row.length = r := by rw [← hrlen]; exact partR_all r
      rw [hpa] at hs ⊢
      rcases hout with ⟨hj0, rfl, rfl⟩ | ⟨bn, c1, rv, sp1, rfl, rfl, hrv, hc1, hrws⟩
      · have hsE := hs
        try simp only [keys_cons, keys_app, keys_nil, Sep_cons, Sep_nil, NotIn_cons, NotIn_app, NotIn_nil, List.cons_append, List.nil_append, List.append_assoc, and_assoc, and_true, true_and] at hsE
        repeat (obtain ⟨hsx, hsE⟩ := hsE)
        repeat' first
          | with_reducible refine Br.yes ?_
          | with_reducible refine Br.no ?_
          | with_reducible refine Br.dec (fun _ => ?_) (fun _ => ?_)
          | with_reducible refine Br.beqB (fun _ => ?_) (fun _ => ?_)
          | with_reducible refine Br.beqb (fun _ => ?_) (fun _ => ?_)
          | with_reducible refine Br.mk (fun _ => ?_) (fun _ => ?_)
          | with_reducible refine foundO.mk (fun _ _ => ?_) (fun _ => ?_)
          | with_reducible refine appV.zero ?_
          | with_reducible refine appV.own ?_
          | ((with_reducible refine NewB.mk fun nb hnb => ?_); have hnb1 := hnb.1.1; have hnb2 := hnb.1.2; try simp only [keys_cons, keys_app, keys_nil, NotIn_cons, NotIn_app, NotIn_nil, and_true] at hnb2)
          | ((with_reducible refine NewRow.mk fun nb nsp ncap hnb hncap => ?_); have hnb1 := hnb.1.1; have hnb2 := hnb.1.2; try simp only [keys_cons, keys_app, keys_nil, NotIn_cons, NotIn_app, NotIn_nil, and_true] at hnb2)
          | simp (dsimp := false) (implicitDefEqProofs := false) (disch := first | assumption | (simp only [List.mem_cons, List.mem_append, true_or, or_true, eq_self]; done) | omega | (with_reducible refine Row.adr (by assumption) ?_; simp only [List.length_map, List.length_take, List.length_drop]; omega) | (simp only [List.length_cons, List.length_nil, List.length_map, List.length_append, List.length_replicate, Nat.reduceAdd, true_and, and_true, and_self]; first | done | omega)) only [go_sem, ↓reduceIte, Nat.reduceEqDiff, Nat.reduceAdd, Nat.reduceSub, Nat.reduceMul, Nat.reduceBEq, Nat.reduceLT, Nat.reduceLeDiff, Nat.reduceMod, Nat.reducePow, List.reduceReplicate, UInt8.reduceOfNat, Int.reducePow, Int.reduceDiv, Int.reduceMod, Nat.reduceDiv, Int.reduceNeg, Int.reduceAdd, Int.reduceSub, Int.reduceMul, Int.reduceLE, Int.reduceLT, Int.reduceEq, Int.reduceToNat, reduceCtorEq, -List.reduceReplicate, List.length_map, hlj, List.replicate_one, List.toList_toArray, hCl, hCw, hCn, hCx, hw, hl2, hg1, hg2, hputN, hputL, Row.obj hrh, Row.obj O.rn, e1, Row.obj O.rl, Row.obj hr3, List.getElem_map, hsj, hlt, Int.toNat_natCast, Nat.sub_self, List.replicate_zero]
        refine Tri.upd (Upd.go (H' := (b7, .cells (cellsD d (.slice (some ⟨nb, 0, none⟩) 1 ncap) vl vs) [] 27) :: (b2, .cells C [] 27) :: (kl ++ ((br, .cells (r.map (Value.int .i64)) [] 3) :: (nb, .cells [.slice (some ⟨br, 0, none⟩) row.length row.length] nsp 24) :: H))) (by intro fsum; first | exact Nat.le_refl _ | (simp only [List.map_append, List.map_cons, List.map_nil, List.sum_append, List.sum_cons, List.sum_nil, List.cons_append, List.nil_append]; omega)) (Upd.now ?_))
        refine Tri.live [0, 1, 2, 4, 5, 6, 7, 9, 35, 36, 37] ?_
        refine Tri.isPiece [1, 1, 1, 1, 0, 1, 0, 0, 1, 1, 0, 0, 1, 1, 1, 1] Tryd.f14 (by kernel_rfl) ?_
        refine Tri.onlyN (r17_t O hj hjb htl2 hsj hlab0) fun G5 l5 H5 hle5 hs5 hM => ?_
        obtain ⟨vl', kl', rfl, hlab1, hfr, rfl⟩ := hM
        rw [onlyN_normal]
        have hsE := hs5
        try simp only [keys_cons, keys_app, keys_nil, Sep_cons, Sep_nil, NotIn_cons, NotIn_app, NotIn_nil, List.cons_append, List.nil_append, List.append_assoc, and_assoc, and_true, true_and] at hsE
        repeat (obtain ⟨hsx, hsE⟩ := hsE)
        refine Upd.go (H' := (br, .cells (r.map (Value.int .i64)) [] 3) :: (b7, .cells (cellsD d (.slice (some ⟨nb, 0, none⟩) 1 ncap) vl' vs) [] 27) :: (b2, .cells C [] 27) :: ([(nb, .cells [.slice (some ⟨br, 0, none⟩) row.length row.length] nsp 24)] ++ (kl' ++ H))) (by intro fsum; first | exact Nat.le_refl _ | (simp only [List.map_append, List.map_cons, List.map_nil, List.sum_append, List.sum_cons, List.sum_nil, List.cons_append, List.nil_append]; omega)) (Upd.shareRow (by assumption) fun G6 hle6 hs6 hr6 => ?_)
        refine ⟨_, vl', _, kl', hle6, .inr ⟨nb, ncap, _, nsp, by rw [hj0], rfl, by rw [hj0]; rfl, by omega, fun i h h2 h3 => ?_⟩, hlab1, hfr, rfl⟩
        obtain rfl : i = 0 := by omega
        obtain rfl : j = 0 := hj0
        refine ⟨some ⟨br, 0, none⟩, row.length, ?_, ?_, ?_⟩
        · rw [hrj, hrlen]; rfl
        · rw [hrj]; exact hr6
        · rw [hrj, hrlen]; exact Nat.le_refl _
      · have hsE := hs
        try simp only [keys_cons, keys_app, keys_nil, Sep_cons, Sep_nil, NotIn_cons, NotIn_app, NotIn_nil, List.cons_append, List.nil_append, List.append_assoc, and_assoc, and_true, true_and] at hsE
        repeat (obtain ⟨hsx, hsE⟩ := hsE)
        repeat' first
          | with_reducible refine Br.yes ?_
          | with_reducible refine Br.no ?_
          | with_reducible refine Br.dec (fun _ => ?_) (fun _ => ?_)
          | with_reducible refine Br.beqB (fun _ => ?_) (fun _ => ?_)
          | with_reducible refine Br.beqb (fun _ => ?_) (fun _ => ?_)
          | with_reducible refine Br.mk (fun _ => ?_) (fun _ => ?_)
          | with_reducible refine foundO.mk (fun _ _ => ?_) (fun _ => ?_)
          | with_reducible refine appV.zero ?_
          | with_reducible refine appV.own ?_
          | ((with_reducible refine NewB.mk fun nb hnb => ?_); have hnb1 := hnb.1.1; have hnb2 := hnb.1.2; try simp only [keys_cons, keys_app, keys_nil, NotIn_cons, NotIn_app, NotIn_nil, and_true] at hnb2)
          | ((with_reducible refine NewRow.mk fun nb nsp ncap hnb hncap => ?_); have hnb1 := hnb.1.1; have hnb2 := hnb.1.2; try simp only [keys_cons, keys_app, keys_nil, NotIn_cons, NotIn_app, NotIn_nil, and_true] at hnb2)
          | simp (dsimp := false) (implicitDefEqProofs := false) (disch := first | assumption | (simp only [List.mem_cons, List.mem_append, true_or, or_true, eq_self]; done) | omega | (with_reducible refine Row.adr (by assumption) ?_; simp only [List.length_map, List.length_take, List.length_drop]; omega) | (simp only [List.length_cons, List.length_nil, List.length_map, List.length_append, List.length_replicate, Nat.reduceAdd, true_and, and_true, and_self]; first | done | omega)) only [go_sem, ↓reduceIte, Nat.reduceEqDiff, Nat.reduceAdd, Nat.reduceSub, Nat.reduceMul, Nat.reduceBEq, Nat.reduceLT, Nat.reduceLeDiff, Nat.reduceMod, Nat.reducePow, List.reduceReplicate, UInt8.reduceOfNat, Int.reducePow, Int.reduceDiv, Int.reduceMod, Nat.reduceDiv, Int.reduceNeg, Int.reduceAdd, Int.reduceSub, Int.reduceMul, Int.reduceLE, Int.reduceLT, Int.reduceEq, Int.reduceToNat, reduceCtorEq, -List.reduceReplicate, List.length_map, hlj, List.replicate_one, List.toList_toArray, hCl, hCw, hCn, hCx, hw, hl2, hg1, hg2, hputN, hputL, Row.obj hrh, Row.obj O.rn, e1, Row.obj O.rl, Row.obj hr3, List.getElem_map, hsj, hlt, Int.toNat_natCast, Nat.sub_self, List.replicate_zero]
        refine Tri.upd (Upd.go (H' := (b7, .cells (cellsD d (.slice (some ⟨nb, 0, none⟩) (j + 1) ncap) vl vs) [] 27) :: (b2, .cells C [] 27) :: (kl ++ ((br, .cells (r.map (Value.int .i64)) [] 3) :: (nb, .cells (rv ++ [.slice (some ⟨br, 0, none⟩) row.length row.length]) nsp 24) :: H))) (by intro fsum; first | exact Nat.le_refl _ | (simp only [List.map_append, List.map_cons, List.map_nil, List.sum_append, List.sum_cons, List.sum_nil, List.cons_append, List.nil_append]; omega)) (Upd.now ?_))
        refine Tri.live [0, 1, 2, 4, 5, 6, 7, 9, 35, 36, 37] ?_
        refine Tri.isPiece [1, 1, 1, 1, 0, 1, 0, 0, 1, 1, 0, 0, 1, 1, 1, 1] Tryd.f14 (by kernel_rfl) ?_
        refine Tri.onlyN (r17_t O hj hjb htl2 hsj hlab0) fun G5 l5 H5 hle5 hs5 hM => ?_
        obtain ⟨vl', kl', rfl, hlab1, hfr, rfl⟩ := hM
        rw [onlyN_normal]
        have hsE := hs5
        try simp only [keys_cons, keys_app, keys_nil, Sep_cons, Sep_nil, NotIn_cons, NotIn_app, NotIn_nil, List.cons_append, List.nil_append, List.append_assoc, and_assoc, and_true, true_and] at hsE
        repeat (obtain ⟨hsx, hsE⟩ := hsE)
        refine Upd.go (H' := (br, .cells (r.map (Value.int .i64)) [] 3) :: (b7, .cells (cellsD d (.slice (some ⟨nb, 0, none⟩) (j + 1) ncap) vl' vs) [] 27) :: (b2, .cells C [] 27) :: ([(nb, .cells (rv ++ [.slice (some ⟨br, 0, none⟩) row.length row.length]) nsp 24)] ++ (kl' ++ H))) (by intro fsum; first | exact Nat.le_refl _ | (simp only [List.map_append, List.map_cons, List.map_nil, List.sum_append, List.sum_cons, List.sum_nil, List.cons_append, List.nil_append]; omega)) (Upd.shareRow (by assumption) fun G6 hle6 hs6 hr6 => ?_)
        refine ⟨_, vl', _, kl', hle6, .inr ⟨nb, ncap, _, nsp, rfl, rfl, by rw [List.length_append, hrv]; rfl, by omega, fun i h h2 h3 => ?_⟩, hlab1, hfr, rfl⟩
        rcases Nat.lt_or_ge i j with hij | hij
        · obtain ⟨b', c', f1, f2, f3⟩ := hrws i hij (by omega) h3
          exact ⟨b', c', by rw [List.getElem_append_left (by omega)]; exact f1, f2.mono hle6, f3⟩
        · obtain rfl : i = j := by omega
          refine ⟨some ⟨br, 0, none⟩, row.length, ?_, ?_, ?_⟩
          · rw [hrj, hrlen, List.getElem_append_right (by omega)]; simp [hrv]
          · rw [hrj]; exact hr6
          · rw [hrj, hrlen]; exact Nat.le_refl _
end Go.Proofs.YtmnmihfinmcljaaDoor
