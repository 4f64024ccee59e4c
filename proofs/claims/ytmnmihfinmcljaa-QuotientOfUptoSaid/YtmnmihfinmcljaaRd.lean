/- The machine of blocks, as the document has it: a round. -/
import Derived.Test.YtmnmihfinmcljaaRc
set_option linter.unusedSimpArgs false
set_option linter.unusedVariables false
namespace Go.Proofs.Ytmnmihfinmcljaa
open Go Go.V Go.Proofs

set_option maxHeartbeats 32000000 in
theorem rx_t {d : DfaT} (hsm : SmallD d) {m : List Int} (hst : StableP d m) {C : List Value} {an al ay : Option Addr} {cn cl cs : Nat} {rs : List Value} {G : PHeap} {H : Heap} (O : OpenD G d C an al ay cn cl cs rs) {b2 b4 b7 : Nat} {an3 : Option Addr} {cn3 : Nat} (hr3 : Row G an3 ((nums m).map (Value.int .i64))) {t : Nat} (htm : t < m.length) {vn vl vs : Value} {kn kl : Heap} (hout : RowO d m G (tabO (m.take t)).length vn kn) (hlab0 : LabO d m (tabO (m.take t)).length vl kl) (hvs : oneV vs = true) :
    Tri Try.prog Try.f7.ntmps (piece [1, 1, 1, 1, 1, 0, 1, 0, 0, 1, 0] Try.f7) G [(2, .pointer (some ⟨b2, 0, none⟩)), (4, .pointer (some ⟨b4, 0, none⟩)), (5, .int .i64 0), (6, .slice an3 (nums m).length cn3), (7, .pointer (some ⟨b7, 0, none⟩)), (8, .int .i64 (t : Nat))] ((b7, .cells (cellsD d vn vl vs) [] 27) :: (b2, .cells C [] 27) :: (kn ++ (kl ++ H))) (onlyN fun G' fr' H' =>
      ∃ vn' vl' kn' kl', PLe G G' ∧ RowO d m G' (tabO (m.take (t + 1))).length vn' kn' ∧ LabO d m (tabO (m.take (t + 1))).length vl' kl' ∧ restrict [2, 4, 5, 6, 7, 8] fr' = [(2, .pointer (some ⟨b2, 0, none⟩)), (4, .pointer (some ⟨b4, 0, none⟩)), (5, .int .i64 0), (6, .slice an3 (nums m).length cn3), (7, .pointer (some ⟨b7, 0, none⟩)), (8, .int .i64 (t : Nat))] ∧ H' = (b7, .cells (cellsD d vn' vl' vs) [] 27) :: (b2, .cells C [] 27) :: (kn' ++ (kl' ++ H))) := by
  obtain ⟨hm1, hm2, hm3, hm4, hm5⟩ := id hsm
  have hok := hst.1
  have hml : m.length = d.label.length := hst.2.1
  obtain ⟨hk1, hk2, hk3, hk4, hk5, hk6, hk7⟩ := id hok
  have hCl := O.len
  have hCw := O.w
  have hCn := O.n
  have hCx := O.l
  have hnl := nums_len m
  have hrn := O.rn
  have hrl := O.rl
  have hrnl := O.rnl
  have hr1' : ∀ x : Value, List.replicate 1 x = [x] := fun _ => rfl
  have hl2 : ∀ a b c : Value, (cellsD d a b c).length = 260 := fun a b c => cellsD_len O.ofl _ _ _
  have hg1 : ∀ a b c : Value, (cellsD d a b c)[257]? = some a := fun a b c => cellsD_n O.ofl _ _ _
  have hg2 : ∀ a b c : Value, (cellsD d a b c)[258]? = some b := fun a b c => cellsD_l O.ofl _ _ _
  have hputN : ∀ a b c x : Value, splice (cellsD d a b c) 257 [x] = cellsD d x b c := fun a b c x => cellsD_putN O.ofl _ _ _ _
  have hputL : ∀ a b c x : Value, splice (cellsD d a b c) 258 [x] = cellsD d a x c := fun a b c x => cellsD_putL O.ofl _ _ _ _
  have htn : t < d.next.length := by omega
  have htL : t < d.label.length := by omega
  have htv : t < rs.length := by omega
  have htnm : t < (nums m).length := by omega
  obtain ⟨b, c, e1, e2, e3⟩ := O.rs t htn htv
  obtain ⟨hw0, hlt0, hlt1, hrng⟩ := hk7 t htn htL
  obtain ⟨row, hrow⟩ : ∃ row, row = d.next[t] := ⟨_, rfl⟩
  have hrm := hm2 _ (List.getElem_mem htn)
  rw [← hrow] at e1 e2 e3 hw0 hrng hrm
  have hw : d.width = (row.length : Int) := hw0.symm
  obtain ⟨r, hr⟩ : ∃ r, r = rowB d m t := ⟨_, rfl⟩
  have hr' : r = row.map (atL (nums m)) := by rw [hr]; unfold rowB; rw [List.getD_eq_getElem?_getD, List.getElem?_eq_getElem htn, hrow]; rfl
  have hrlen : r.length = row.length := by rw [hr', List.length_map]
  have had : Adr an := hrn.adr (by omega)
  have had2 : Adr al := hrl.adr (by rw [List.length_map]; omega)
  have had4 : Adr an3 := hr3.adr (by rw [List.length_map]; omega)
  obtain ⟨j, hjd⟩ : ∃ j, j = (tabO (m.take t)).length := ⟨_, rfl⟩
  rw [← hjd] at hout hlab0
  have hjt := tabO_len (m.take t)
  rw [List.length_take] at hjt
  have hjb : j < 65536 := by omega
  have hni := new_iff htm
  rw [← hjd] at hni
  have hvl : ∃ avl cvl, vl = .slice avl j cvl := by
    rcases hlab0 with ⟨h0, rfl, _⟩ | ⟨bl, c2, sp2, rfl, _, _⟩
    · exact ⟨none, 0, by rw [h0]⟩
    · exact ⟨_, _, rfl⟩
  obtain ⟨avl, cvl, rfl⟩ := hvl
  refine Tri.sepT fun hs0 => ?_
  have hsE := hs0
  try simp only [keys_cons, keys_app, keys_nil, Sep_cons, Sep_nil, NotIn_cons, NotIn_app, NotIn_nil, List.cons_append, List.nil_append, List.append_assoc, and_assoc, and_true, true_and] at hsE
  repeat (obtain ⟨hsx, hsE⟩ := hsE)
  refine Tri.piece (f := Try.f7) rfl ?_
  refine Tri.runS tok [0, 1, 2, 4, 5, 6, 7, 8, 9, 10, 13, 18, 32, 42, 47] (.block (.seq .run (.seq .run (.seq .run (.seq .run .cut))))) (by kernel_rfl) ?_
  by_cases hnew : m[t] ∉ m.take t
  · have hyes := hni.2 hnew
    obtain ⟨hj, hsj⟩ := heads_new htm hnew
    simp only [← hjd] at hj hsj
    have htab : (tabO (m.take (t + 1))).length = j + 1 := by
      rw [List.take_succ_eq_append_getElem htm, tabO_snoc, if_neg fun h => hnew ((mem_tabO _).1 h), List.length_append, ← hjd]; rfl
    have hrj : rowB d m (headsM m)[j].toNat = r := by rw [hsj, Int.toNat_natCast, hr]
    repeat' first
      | with_reducible refine Br.yes ?_
      | with_reducible refine Br.no ?_
      | with_reducible refine Br.dec (fun _ => ?_) (fun _ => ?_)
      | with_reducible refine Br.beqB (fun _ => ?_) (fun _ => ?_)
      | with_reducible refine Br.beqb (fun _ => ?_) (fun _ => ?_)
      | with_reducible refine Br.mk (fun _ => ?_) (fun _ => ?_)
      | with_reducible refine foundO.mk (fun _ _ => ?_) (fun _ => ?_)
      | with_reducible refine appV.zero ?_
      | with_reducible refine appV.own ?_
      | ((with_reducible refine NewB.mk fun nb hnb => ?_); have hnb1 := hnb.1.1; have hnb2 := hnb.1.2; try simp only [keys_cons, keys_app, keys_nil, NotIn_cons, NotIn_app, NotIn_nil, and_true] at hnb2)
      | ((with_reducible refine NewRow.mk fun nb nsp ncap hnb hncap => ?_); have hnb1 := hnb.1.1; have hnb2 := hnb.1.2; try simp only [keys_cons, keys_app, keys_nil, NotIn_cons, NotIn_app, NotIn_nil, and_true] at hnb2)
      | with_reducible refine Tri.drawH tok mixed [0, 1, 2, 4, 5, 6, 7, 8, 9, 10, 13, 18, 32, 42, 47] 10 [3, 5] (.op 0 .plain (.op 1 .plain (.op 2 .plain (.op 3 .held (.op 4 .plain (.op 5 .held (.op 6 .plain (.op 7 .plain .nil)))))))) (by kernel_rfl) [6, 7] ?_
      | simp (dsimp := false) (implicitDefEqProofs := false) (disch := first | assumption | (simp only [List.mem_cons, List.mem_append, true_or, or_true, eq_self]; done) | omega | (with_reducible refine Row.adr (by assumption) ?_; simp only [List.length_map, List.length_take, List.length_drop]; omega) | (simp only [List.length_cons, List.length_nil, List.length_map, List.length_append, List.length_replicate, Nat.reduceAdd, true_and, and_true, and_self]; first | done | omega)) only [go_sem, ↓reduceIte, Nat.reduceEqDiff, Nat.reduceAdd, Nat.reduceSub, Nat.reduceMul, Nat.reduceBEq, Nat.reduceLT, Nat.reduceLeDiff, Nat.reduceMod, Nat.reducePow, List.reduceReplicate, UInt8.reduceOfNat, Int.reducePow, Int.reduceDiv, Int.reduceMod, Nat.reduceDiv, Int.reduceNeg, Int.reduceAdd, Int.reduceSub, Int.reduceMul, Int.reduceLE, Int.reduceLT, Int.reduceEq, Int.reduceToNat, decide_true, decide_false, reduceCtorEq, ne_eq, not_false_eq_true, not_true_eq_false, and_true, true_and, and_self, or_true, true_or, or_false, false_or, or_self, eq_self, Option.isNone_some, Option.isNone_none, Nat.zero_add, Nat.add_zero, Nat.mul_one, Nat.one_mul, Nat.zero_mul, List.length_cons, List.length_nil, List.getElem?_cons_zero, List.getElem?_cons_succ, List.map_cons, List.map_nil, List.append_nil, -List.reduceReplicate, List.length_map, hr1', List.toList_toArray, hCl, hCw, hCn, hCx, hw, hl2, hg1, hg2, hputN, hputL, Row.obj hrn, e1, Row.obj e2, Row.obj hrl, Row.obj hr3, List.getElem_map, Int.toNat_natCast, Nat.sub_self, List.replicate_zero, hyes]
    refine Tri.loopU tok [0, 1, 2, 4, 5, 6, 7, 8, 9, 10, 13, 18, 32, 42, 47] (by kernel_rfl) [2, 4, 5, 6, 7, 8, 9, 10] (fun q G' fr H' => ∃ (k br cc : Nat) (spr : List Value), k + q = row.length ∧ k + spr.length = cc ∧ G' = G ∧ H' = (br, .cells ((r.take k).map (Value.int .i64)) spr 3) :: (b7, .cells (cellsD d vn (.slice avl j cvl) vs) [] 27) :: (b2, .cells C [] 27) :: (kn ++ (kl ++ H)) ∧ fr = [(2, .pointer (some ⟨b2, 0, none⟩)), (4, .pointer (some ⟨b4, 0, none⟩)), (5, .int .i64 0), (6, .slice an3 (nums m).length cn3), (7, .pointer (some ⟨b7, 0, none⟩)), (8, .int .i64 (t : Nat)), (9, .slice (some ⟨br, 0, none⟩) k cc), (10, .int .i64 (k : Nat))]) (row.length) ?_ ?_
    · exact Upd.now ⟨0, nb, 0, [], by omega, rfl, rfl, rfl, rfl⟩
    · rintro q G1 fr H' hle hs ⟨k, br, cc, spr, hk, hcc, rfl, rfl, rfl⟩
      have hsE := hs
      try simp only [keys_cons, keys_app, keys_nil, Sep_cons, Sep_nil, NotIn_cons, NotIn_app, NotIn_nil, List.cons_append, List.nil_append, List.append_assoc, and_assoc, and_true, true_and] at hsE
      repeat (obtain ⟨hsx, hsE⟩ := hsE)
      by_cases hkl : k < row.length
      · have hkr : k < r.length := by omega
        obtain ⟨ps, hps, hpl⟩ : ∃ ps, ps = (r.take k).map (Value.int .i64) ∧ ps.length = k := ⟨_, rfl, by rw [List.length_map, List.length_take]; omega⟩
        have hce : (r.take (k + 1)).map (Value.int .i64) = ps ++ [Value.int .i64 r[k]] := by rw [List.take_succ_eq_append_getElem hkr, List.map_append, ← hps]; rfl
        rw [← hps]
        have had5 : Adr b := e2.adr (by rw [List.length_map]; omega)
        have hx := hrng _ (List.getElem_mem hkl)
        obtain ⟨y, hxy⟩ := Int.eq_ofNat_of_zero_le hx.1
        have hym : y < (nums m).length := by omega
        have hval : (nums m)[y] = r[k] := by
          simp only [hr', List.getElem_map]
          rw [hxy, atL_get (by simpa using hym)]
          simp only [Int.toNat_natCast]
        repeat' first
          | with_reducible refine Br.yes ?_
          | with_reducible refine Br.no ?_
          | with_reducible refine Br.dec (fun _ => ?_) (fun _ => ?_)
          | with_reducible refine Br.beqB (fun _ => ?_) (fun _ => ?_)
          | with_reducible refine Br.beqb (fun _ => ?_) (fun _ => ?_)
          | with_reducible refine Br.mk (fun _ => ?_) (fun _ => ?_)
          | with_reducible refine foundO.mk (fun _ _ => ?_) (fun _ => ?_)
          | with_reducible refine appV.zero ?_
          | with_reducible refine appV.own ?_
          | ((with_reducible refine NewB.mk fun nb hnb => ?_); have hnb1 := hnb.1.1; have hnb2 := hnb.1.2; try simp only [keys_cons, keys_app, keys_nil, NotIn_cons, NotIn_app, NotIn_nil, and_true] at hnb2)
          | ((with_reducible refine NewRow.mk fun nb nsp ncap hnb hncap => ?_); have hnb1 := hnb.1.1; have hnb2 := hnb.1.2; try simp only [keys_cons, keys_app, keys_nil, NotIn_cons, NotIn_app, NotIn_nil, and_true] at hnb2)
          | simp (dsimp := false) (implicitDefEqProofs := false) (disch := first | assumption | (simp only [List.mem_cons, List.mem_append, true_or, or_true, eq_self]; done) | omega | (with_reducible refine Row.adr (by assumption) ?_; simp only [List.length_map, List.length_take, List.length_drop]; omega) | (simp only [List.length_cons, List.length_nil, List.length_map, List.length_append, List.length_replicate, Nat.reduceAdd, true_and, and_true, and_self]; first | done | omega)) only [go_sem, ↓reduceIte, Nat.reduceEqDiff, Nat.reduceAdd, Nat.reduceSub, Nat.reduceMul, Nat.reduceBEq, Nat.reduceLT, Nat.reduceLeDiff, Nat.reduceMod, Nat.reducePow, List.reduceReplicate, UInt8.reduceOfNat, Int.reducePow, Int.reduceDiv, Int.reduceMod, Nat.reduceDiv, Int.reduceNeg, Int.reduceAdd, Int.reduceSub, Int.reduceMul, Int.reduceLE, Int.reduceLT, Int.reduceEq, Int.reduceToNat, decide_true, decide_false, reduceCtorEq, ne_eq, not_false_eq_true, not_true_eq_false, and_true, true_and, and_self, or_true, true_or, or_false, false_or, or_self, eq_self, Option.isNone_some, Option.isNone_none, Nat.zero_add, Nat.add_zero, Nat.mul_one, Nat.one_mul, Nat.zero_mul, List.length_cons, List.length_nil, List.getElem?_cons_zero, List.getElem?_cons_succ, List.map_cons, List.map_nil, List.append_nil, -List.reduceReplicate, List.length_map, hr1', List.toList_toArray, hCl, hCw, hCn, hCx, hw, hl2, hg1, hg2, hputN, hputL, Row.obj hrn, e1, Row.obj e2, Row.obj hrl, Row.obj hr3, List.getElem_map, Int.toNat_natCast, Nat.sub_self, List.replicate_zero, hxy, hval]
        all_goals try (exfalso; omega)
        rw [← hce]
        exact Upd.go (H' := _) (by intro fsum; first | exact Nat.le_refl _ | (simp only [List.map_append, List.map_cons, List.map_nil, List.sum_append, List.sum_cons, List.sum_nil, List.cons_append, List.nil_append]; omega)) (Upd.now ⟨q - 1, by omega, k + 1, nb, ncap, nsp, by omega, by simp at hncap ⊢; omega, rfl, rfl, rfl⟩)
      · obtain rfl : k = row.length := by omega
        have hpa : r.take row.length = r := by rw [← hrlen, List.take_length]
        rw [hpa] at hs ⊢
        have hrl5 : (r.map (Value.int .i64)).length = row.length := by rw [List.length_map, hrlen]
        rcases hout with ⟨hj0, rfl, rfl⟩ | ⟨bn, c1, rv, sp1, rfl, rfl, hrv, hc1, hrws⟩
        · have hsE := hs
          try simp only [keys_cons, keys_app, keys_nil, Sep_cons, Sep_nil, NotIn_cons, NotIn_app, NotIn_nil, List.cons_append, List.nil_append, List.append_assoc, and_assoc, and_true, true_and] at hsE
          repeat (obtain ⟨hsx, hsE⟩ := hsE)
          repeat' first
            | with_reducible refine Br.yes ?_
            | with_reducible refine Br.no ?_
            | with_reducible refine Br.dec (fun _ => ?_) (fun _ => ?_)
            | with_reducible refine Br.beqB (fun _ => ?_) (fun _ => ?_)
            | with_reducible refine Br.beqb (fun _ => ?_) (fun _ => ?_)
            | with_reducible refine Br.mk (fun _ => ?_) (fun _ => ?_)
            | with_reducible refine foundO.mk (fun _ _ => ?_) (fun _ => ?_)
            | with_reducible refine appV.zero ?_
            | with_reducible refine appV.own ?_
            | ((with_reducible refine NewB.mk fun nb hnb => ?_); have hnb1 := hnb.1.1; have hnb2 := hnb.1.2; try simp only [keys_cons, keys_app, keys_nil, NotIn_cons, NotIn_app, NotIn_nil, and_true] at hnb2)
            | ((with_reducible refine NewRow.mk fun nb nsp ncap hnb hncap => ?_); have hnb1 := hnb.1.1; have hnb2 := hnb.1.2; try simp only [keys_cons, keys_app, keys_nil, NotIn_cons, NotIn_app, NotIn_nil, and_true] at hnb2)
            | simp (dsimp := false) (implicitDefEqProofs := false) (disch := first | assumption | (simp only [List.mem_cons, List.mem_append, true_or, or_true, eq_self]; done) | omega | (with_reducible refine Row.adr (by assumption) ?_; simp only [List.length_map, List.length_take, List.length_drop]; omega) | (simp only [List.length_cons, List.length_nil, List.length_map, List.length_append, List.length_replicate, Nat.reduceAdd, true_and, and_true, and_self]; first | done | omega)) only [go_sem, ↓reduceIte, Nat.reduceEqDiff, Nat.reduceAdd, Nat.reduceSub, Nat.reduceMul, Nat.reduceBEq, Nat.reduceLT, Nat.reduceLeDiff, Nat.reduceMod, Nat.reducePow, List.reduceReplicate, UInt8.reduceOfNat, Int.reducePow, Int.reduceDiv, Int.reduceMod, Nat.reduceDiv, Int.reduceNeg, Int.reduceAdd, Int.reduceSub, Int.reduceMul, Int.reduceLE, Int.reduceLT, Int.reduceEq, Int.reduceToNat, decide_true, decide_false, reduceCtorEq, ne_eq, not_false_eq_true, not_true_eq_false, and_true, true_and, and_self, or_true, true_or, or_false, false_or, or_self, eq_self, Option.isNone_some, Option.isNone_none, Nat.zero_add, Nat.add_zero, Nat.mul_one, Nat.one_mul, Nat.zero_mul, List.length_cons, List.length_nil, List.getElem?_cons_zero, List.getElem?_cons_succ, List.map_cons, List.map_nil, List.append_nil, -List.reduceReplicate, List.length_map, hr1', List.toList_toArray, hCl, hCw, hCn, hCx, hw, hl2, hg1, hg2, hputN, hputL, Row.obj hrn, e1, Row.obj e2, Row.obj hrl, Row.obj hr3, List.getElem_map, Int.toNat_natCast, Nat.sub_self, List.replicate_zero]
          all_goals try (exfalso; omega)
          refine Tri.upd (Upd.go (H' := (b7, .cells (cellsD d (.slice (some ⟨nb, 0, none⟩) 1 ncap) (.slice avl j cvl) vs) [] 27) :: (b2, .cells C [] 27) :: (kl ++ ((br, .cells (r.map (Value.int .i64)) spr 3) :: (nb, .cells [.slice (some ⟨br, 0, none⟩) row.length cc] nsp 24) :: H))) (by intro fsum; first | exact Nat.le_refl _ | (simp only [List.map_append, List.map_cons, List.map_nil, List.sum_append, List.sum_cons, List.sum_nil, List.cons_append, List.nil_append]; omega)) (Upd.now ?_))
          refine Tri.live [2, 4, 5, 6, 7, 8] ?_
          refine Tri.isPiece [1, 1, 1, 1, 1, 0, 1, 0, 0, 1, 0, 0, 1, 1, 1, 1] Try.f7 (by kernel_rfl) ?_
          refine Tri.onlyN (rr17_t O hj hjb htL hsj hlab0) fun G5 l5 H5 hle5 hs5 hM => ?_
          obtain ⟨vl', kl', rfl, hlab1, hfr, rfl⟩ := hM
          simp only [go_sem]
          have hsE := hs5
          try simp only [keys_cons, keys_app, keys_nil, Sep_cons, Sep_nil, NotIn_cons, NotIn_app, NotIn_nil, List.cons_append, List.nil_append, List.append_assoc, and_assoc, and_true, true_and] at hsE
          repeat (obtain ⟨hsx, hsE⟩ := hsE)
          refine Upd.go (H' := (br, .cells (r.map (Value.int .i64)) spr 3) :: (b7, .cells (cellsD d (.slice (some ⟨nb, 0, none⟩) 1 ncap) vl' vs) [] 27) :: (b2, .cells C [] 27) :: ([(nb, .cells [.slice (some ⟨br, 0, none⟩) row.length cc] nsp 24)] ++ (kl' ++ H))) (by intro fsum; first | exact Nat.le_refl _ | (simp only [List.map_append, List.map_cons, List.map_nil, List.sum_append, List.sum_cons, List.sum_nil, List.cons_append, List.nil_append]; omega)) (Upd.shareRow (by assumption) fun G6 hle6 hs6 hr6 => ?_)
          refine ⟨_, vl', _, kl', hle6, ?_, by rw [htab]; exact hlab1, hfr, rfl⟩
          rw [htab]
          refine .inr ⟨nb, ncap, _, nsp, by rw [hj0], rfl, by rw [hj0]; rfl, by omega, fun i h h2 h3 => ?_⟩
          obtain rfl : i = 0 := by omega
          obtain rfl : j = 0 := hj0
          refine ⟨some ⟨br, 0, none⟩, cc, ?_, ?_, ?_⟩
          · rw [hrj, hrlen]; rfl
          · rw [hrj]; exact hr6
          · rw [hrj, hrlen]; omega
        · have hsE := hs
          try simp only [keys_cons, keys_app, keys_nil, Sep_cons, Sep_nil, NotIn_cons, NotIn_app, NotIn_nil, List.cons_append, List.nil_append, List.append_assoc, and_assoc, and_true, true_and] at hsE
          repeat (obtain ⟨hsx, hsE⟩ := hsE)
          repeat' first
            | with_reducible refine Br.yes ?_
            | with_reducible refine Br.no ?_
            | with_reducible refine Br.dec (fun _ => ?_) (fun _ => ?_)
            | with_reducible refine Br.beqB (fun _ => ?_) (fun _ => ?_)
            | with_reducible refine Br.beqb (fun _ => ?_) (fun _ => ?_)
            | with_reducible refine Br.mk (fun _ => ?_) (fun _ => ?_)
            | with_reducible refine foundO.mk (fun _ _ => ?_) (fun _ => ?_)
            | with_reducible refine appV.zero ?_
            | with_reducible refine appV.own ?_
            | ((with_reducible refine NewB.mk fun nb hnb => ?_); have hnb1 := hnb.1.1; have hnb2 := hnb.1.2; try simp only [keys_cons, keys_app, keys_nil, NotIn_cons, NotIn_app, NotIn_nil, and_true] at hnb2)
            | ((with_reducible refine NewRow.mk fun nb nsp ncap hnb hncap => ?_); have hnb1 := hnb.1.1; have hnb2 := hnb.1.2; try simp only [keys_cons, keys_app, keys_nil, NotIn_cons, NotIn_app, NotIn_nil, and_true] at hnb2)
            | simp (dsimp := false) (implicitDefEqProofs := false) (disch := first | assumption | (simp only [List.mem_cons, List.mem_append, true_or, or_true, eq_self]; done) | omega | (with_reducible refine Row.adr (by assumption) ?_; simp only [List.length_map, List.length_take, List.length_drop]; omega) | (simp only [List.length_cons, List.length_nil, List.length_map, List.length_append, List.length_replicate, Nat.reduceAdd, true_and, and_true, and_self]; first | done | omega)) only [go_sem, ↓reduceIte, Nat.reduceEqDiff, Nat.reduceAdd, Nat.reduceSub, Nat.reduceMul, Nat.reduceBEq, Nat.reduceLT, Nat.reduceLeDiff, Nat.reduceMod, Nat.reducePow, List.reduceReplicate, UInt8.reduceOfNat, Int.reducePow, Int.reduceDiv, Int.reduceMod, Nat.reduceDiv, Int.reduceNeg, Int.reduceAdd, Int.reduceSub, Int.reduceMul, Int.reduceLE, Int.reduceLT, Int.reduceEq, Int.reduceToNat, decide_true, decide_false, reduceCtorEq, ne_eq, not_false_eq_true, not_true_eq_false, and_true, true_and, and_self, or_true, true_or, or_false, false_or, or_self, eq_self, Option.isNone_some, Option.isNone_none, Nat.zero_add, Nat.add_zero, Nat.mul_one, Nat.one_mul, Nat.zero_mul, List.length_cons, List.length_nil, List.getElem?_cons_zero, List.getElem?_cons_succ, List.map_cons, List.map_nil, List.append_nil, -List.reduceReplicate, List.length_map, hr1', List.toList_toArray, hCl, hCw, hCn, hCx, hw, hl2, hg1, hg2, hputN, hputL, Row.obj hrn, e1, Row.obj e2, Row.obj hrl, Row.obj hr3, List.getElem_map, Int.toNat_natCast, Nat.sub_self, List.replicate_zero]
          all_goals try (exfalso; omega)
          refine Tri.upd (Upd.go (H' := (b7, .cells (cellsD d (.slice (some ⟨nb, 0, none⟩) (j + 1) ncap) (.slice avl j cvl) vs) [] 27) :: (b2, .cells C [] 27) :: (kl ++ ((br, .cells (r.map (Value.int .i64)) spr 3) :: (nb, .cells (rv ++ [.slice (some ⟨br, 0, none⟩) row.length cc]) nsp 24) :: H))) (by intro fsum; first | exact Nat.le_refl _ | (simp only [List.map_append, List.map_cons, List.map_nil, List.sum_append, List.sum_cons, List.sum_nil, List.cons_append, List.nil_append]; omega)) (Upd.now ?_))
          refine Tri.live [2, 4, 5, 6, 7, 8] ?_
          refine Tri.isPiece [1, 1, 1, 1, 1, 0, 1, 0, 0, 1, 0, 0, 1, 1, 1, 1] Try.f7 (by kernel_rfl) ?_
          refine Tri.onlyN (rr17_t O hj hjb htL hsj hlab0) fun G5 l5 H5 hle5 hs5 hM => ?_
          obtain ⟨vl', kl', rfl, hlab1, hfr, rfl⟩ := hM
          simp only [go_sem]
          have hsE := hs5
          try simp only [keys_cons, keys_app, keys_nil, Sep_cons, Sep_nil, NotIn_cons, NotIn_app, NotIn_nil, List.cons_append, List.nil_append, List.append_assoc, and_assoc, and_true, true_and] at hsE
          repeat (obtain ⟨hsx, hsE⟩ := hsE)
          refine Upd.go (H' := (br, .cells (r.map (Value.int .i64)) spr 3) :: (b7, .cells (cellsD d (.slice (some ⟨nb, 0, none⟩) (j + 1) ncap) vl' vs) [] 27) :: (b2, .cells C [] 27) :: ([(nb, .cells (rv ++ [.slice (some ⟨br, 0, none⟩) row.length cc]) nsp 24)] ++ (kl' ++ H))) (by intro fsum; first | exact Nat.le_refl _ | (simp only [List.map_append, List.map_cons, List.map_nil, List.sum_append, List.sum_cons, List.sum_nil, List.cons_append, List.nil_append]; omega)) (Upd.shareRow (by assumption) fun G6 hle6 hs6 hr6 => ?_)
          refine ⟨_, vl', _, kl', hle6, ?_, by rw [htab]; exact hlab1, hfr, rfl⟩
          rw [htab]
          refine .inr ⟨nb, ncap, _, nsp, rfl, rfl, by rw [List.length_append, hrv]; rfl, by omega, fun i h h2 h3 => ?_⟩
          rcases Nat.lt_or_ge i j with hij | hij
          · obtain ⟨b', c', f1, f2, f3⟩ := hrws i hij (by omega) h3
            exact ⟨b', c', by rw [List.getElem_append_left (by omega)]; exact f1, f2.mono hle6, f3⟩
          · obtain rfl : i = j := by omega
            refine ⟨some ⟨br, 0, none⟩, cc, ?_, ?_, ?_⟩
            · rw [hrj, hrlen, List.getElem_append_right (by omega)]; simp [hrv]
            · rw [hrj]; exact hr6
            · rw [hrj, hrlen]; omega
  · have hno : (nums m)[t] ≠ (j : Int) := fun e => hnew (hni.1 e)
    have htab : (tabO (m.take (t + 1))).length = j := by
      rw [List.take_succ_eq_append_getElem htm, tabO_snoc, if_pos ((mem_tabO _).2 (Classical.not_not.1 hnew)), ← hjd]
    repeat' first
      | with_reducible refine Br.yes ?_
      | with_reducible refine Br.no ?_
      | with_reducible refine Br.dec (fun _ => ?_) (fun _ => ?_)
      | with_reducible refine Br.beqB (fun _ => ?_) (fun _ => ?_)
      | with_reducible refine Br.beqb (fun _ => ?_) (fun _ => ?_)
      | with_reducible refine Br.mk (fun _ => ?_) (fun _ => ?_)
      | with_reducible refine foundO.mk (fun _ _ => ?_) (fun _ => ?_)
      | with_reducible refine appV.zero ?_
      | with_reducible refine appV.own ?_
      | ((with_reducible refine NewB.mk fun nb hnb => ?_); have hnb1 := hnb.1.1; have hnb2 := hnb.1.2; try simp only [keys_cons, keys_app, keys_nil, NotIn_cons, NotIn_app, NotIn_nil, and_true] at hnb2)
      | ((with_reducible refine NewRow.mk fun nb nsp ncap hnb hncap => ?_); have hnb1 := hnb.1.1; have hnb2 := hnb.1.2; try simp only [keys_cons, keys_app, keys_nil, NotIn_cons, NotIn_app, NotIn_nil, and_true] at hnb2)
      | with_reducible refine Tri.drawH tok mixed [0, 1, 2, 4, 5, 6, 7, 8, 9, 10, 13, 18, 32, 42, 47] 10 [3, 5] (.op 0 .plain (.op 1 .plain (.op 2 .plain (.op 3 .held (.op 4 .plain (.op 5 .held (.op 6 .plain (.op 7 .plain .nil)))))))) (by kernel_rfl) [6, 7] ?_
      | simp (dsimp := false) (implicitDefEqProofs := false) (disch := first | assumption | (simp only [List.mem_cons, List.mem_append, true_or, or_true, eq_self]; done) | omega | (with_reducible refine Row.adr (by assumption) ?_; simp only [List.length_map, List.length_take, List.length_drop]; omega) | (simp only [List.length_cons, List.length_nil, List.length_map, List.length_append, List.length_replicate, Nat.reduceAdd, true_and, and_true, and_self]; first | done | omega)) only [go_sem, ↓reduceIte, Nat.reduceEqDiff, Nat.reduceAdd, Nat.reduceSub, Nat.reduceMul, Nat.reduceBEq, Nat.reduceLT, Nat.reduceLeDiff, Nat.reduceMod, Nat.reducePow, List.reduceReplicate, UInt8.reduceOfNat, Int.reducePow, Int.reduceDiv, Int.reduceMod, Nat.reduceDiv, Int.reduceNeg, Int.reduceAdd, Int.reduceSub, Int.reduceMul, Int.reduceLE, Int.reduceLT, Int.reduceEq, Int.reduceToNat, decide_true, decide_false, reduceCtorEq, ne_eq, not_false_eq_true, not_true_eq_false, and_true, true_and, and_self, or_true, true_or, or_false, false_or, or_self, eq_self, Option.isNone_some, Option.isNone_none, Nat.zero_add, Nat.add_zero, Nat.mul_one, Nat.one_mul, Nat.zero_mul, List.length_cons, List.length_nil, List.getElem?_cons_zero, List.getElem?_cons_succ, List.map_cons, List.map_nil, List.append_nil, -List.reduceReplicate, List.length_map, hr1', List.toList_toArray, hCl, hCw, hCn, hCx, hw, hl2, hg1, hg2, hputN, hputL, Row.obj hrn, e1, Row.obj e2, Row.obj hrl, Row.obj hr3, List.getElem_map, Int.toNat_natCast, Nat.sub_self, List.replicate_zero]
    all_goals try (exfalso; omega)
    exact Upd.now ⟨_, _, kn, kl, PLe.refl _, by rw [htab]; exact hout, by rw [htab]; exact hlab0, rfl, rfl⟩
end Go.Proofs.Ytmnmihfinmcljaa
