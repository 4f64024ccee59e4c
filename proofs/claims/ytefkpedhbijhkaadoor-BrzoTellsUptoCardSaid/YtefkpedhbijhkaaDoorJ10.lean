/- Law 27, BrzoTells: a machine turned round tells of a word turned round what the machine tells of the word: the law answers true. -/
import Derived.Test.YtefkpedhbijhkaaDoorJ9
import Derived.OpenShut
import Derived.Deep.DeepHandedRow
import Derived.Lib.LaidTab
import Derived.Test.YtefkpedhbijhkaaDoorProg
import Derived.Test.YtefkpedhbijhkaaDoorCards
import Derived.Test.YtefkpedhbijhkaaDoorTie
set_option linter.unusedSimpArgs false
set_option linter.unusedVariables false
set_option linter.unusedSectionVars false
namespace Go.Proofs.YtefkpedhbijhkaaDoor
open Go Go.V Go.Proofs
set_option maxHeartbeats 32000000 in
theorem merge_t {d : DfaT} (hsm : SmallD d) {G : PHeap} {H : Heap} {R : Value → PHeap → Heap → Prop} {v : Value} (hg : HasTab G) (hv : IsD G d v)
    (hR : ∀ G' v', PLe G G' → Sep G' (keys H) → IsD G' (mergeR d).1 v' → R (.tuple #[v', .int .i64 (mergeR d).2]) G' H) : FnT Tryd.prog 24 [v] G H R := by
  obtain ⟨C, an, al, ay, cn, cl, cs, rs, rfl, O⟩ := hv.opened
  obtain ⟨hm1, hm2, hm3, hm4, hm5⟩ := id hsm
  have hCl := O.len
  have hCa := O.all
  have hCn := O.n
  have hCx := O.l
  have hCs := O.s
  refine FnT.sep ?_
  by_cases hok : RightP d
  · have hb := boolOf_yes hok
    rw [mergeR_ok hok] at hR
    have hol : (nums (clL d)).length = 256 := by rw [nums_len, clL_len O.ofl]
    have hu8 : (u8L (nums (clL d))).length = 256 := by rw [List.length_map, hol]
    have hno1 : (u8L (nums (clL d))).all oneV = true := by rw [List.all_map]; exact List.all_eq_true.2 fun _ _ => rfl
    have hns : splice (List.replicate 256 (Value.int .u8 0)) 0 (u8L (nums (clL d))) = u8L (nums (clL d)) := by rw [u8F_zero, ← u8F_nums (clL_len O.ofl), u8F_over]
    have bu1 : splice zeroC 0 (u8L (nums (clL d))) = u8L (nums (clL d)) ++ [Value.int .i64 0, Value.slice none 0 0, Value.slice none 0 0, Value.slice none 0 0] := build_of (d := mergeD d) hol
    have bu2 : splice (u8L (nums (clL d)) ++ [Value.int .i64 0, Value.slice none 0 0, Value.slice none 0 0, Value.slice none 0 0]) 256 [Value.int .i64 ((tabO (clL d)).length : Nat)] = cellsD (mergeD d) (.slice none 0 0) (.slice none 0 0) (.slice none 0 0) := build_w (d := mergeD d) hol
    have bu3 : ∀ x, splice (cellsD (mergeD d) (.slice none 0 0) (.slice none 0 0) (.slice none 0 0)) 258 [x] = cellsD (mergeD d) (.slice none 0 0) x (.slice none 0 0) := fun x => cellsD_putL (d := mergeD d) hol _ _ _ _
    have bu4 : ∀ vl x, splice (cellsD (mergeD d) (.slice none 0 0) vl (.slice none 0 0)) 259 [x] = cellsD (mergeD d) (.slice none 0 0) vl x := fun vl x => build_s (d := mergeD d) hol _ _ _ _
    have bu5 : ∀ vn vl vs x, splice (cellsD (mergeD d) vn vl vs) 257 [x] = cellsD (mergeD d) x vl vs := fun vn vl vs x => cellsD_putN (d := mergeD d) hol _ _ _ _
    have hl1 : (u8L (nums (clL d)) ++ [Value.int .i64 0, Value.slice none 0 0, Value.slice none 0 0, Value.slice none 0 0]).length = 260 := by rw [List.length_append, hu8]; rfl
    have hl2 : ∀ a b c : Value, (cellsD (mergeD d) a b c).length = 260 := fun a b c => cellsD_len (d := mergeD d) hol _ _ _
    have hg2 : ∀ a b c : Value, (cellsD (mergeD d) a b c)[257]? = some a := fun a b c => cellsD_n (d := mergeD d) hol _ _ _
    have hputz : ∀ vn vl vs, splice zeroC 0 (cellsD (mergeD d) vn vl vs) = cellsD (mergeD d) vn vl vs := fun vn vl vs => by
      unfold splice
      rw [List.take_zero, List.nil_append, List.drop_of_length_le (by rw [zeroC_len, hl2]; omega), List.append_nil]
    have hone : ∀ (a a' a'' : Option Addr) (b c b' c' b'' c'' : Nat), (cellsD (mergeD d) (.slice a'' b'' c'') (.slice a b c) (.slice a' b' c')).all oneV = true := fun a a' a'' b c b' c' b'' c'' => cellsD_one rfl rfl rfl
    have htk2 : ∀ vn vl vs, List.take 260 (cellsD (mergeD d) vn vl vs) = cellsD (mergeD d) vn vl vs := fun vn vl vs => List.take_of_length_le (by rw [hl2]; omega)
    have hnt : List.take 256 (u8L (nums (clL d))) = u8L (nums (clL d)) := List.take_of_length_le (by omega)
    refine FnT.body tok [0, 1, 2, 3, 4, 5, 6, 7, 9, 10, 11, 12, 15, 34, 35, 36, 37, 42, 43, 44, 45] Tryd.func24 rfl (by kernel_rfl) (by kernel_rfl) (by show _ ≤ 68; simp) fun hsep => ?_
    rw [Tryd.results24]
    have hsE := hsep
    try simp only [zzs] at hsE
    repeat (obtain ⟨hsx, hsE⟩ := hsE)
    repeat' first
      | (with_reducible first | refine Br.yes ?_ | refine Br.no ?_ | refine Br.dec (fun _ => ?_) (fun _ => ?_) | refine Br.mk (fun _ => ?_) (fun _ => ?_) | refine appV.zero ?_ | refine appV.own ?_)
      | ((with_reducible first | refine NewB.mk (fun nb hnb => ?_) | refine NewRow.mk (fun nb nsp ncap hnb hncap => ?_)); have hnb1 := hnb.1.1; have hnb2 := hnb.1.2; try simp only [zzn] at hnb2)
      | simp (dsimp := false) (implicitDefEqProofs := false) (disch := first | assumption | (simp only [zzm]; done) | omega | (with_reducible refine Row.adr (by assumption) ?_; simp only [zzk]; omega) | (simp only [zzl, Nat.reduceAdd]; first | done | omega)) only [go_sem, ↓reduceIte, Nat.reduceEqDiff, Nat.reduceAdd, Nat.reduceSub, Nat.reduceMul, Nat.reduceBEq, Nat.reduceLT, Nat.reduceLeDiff, Nat.reduceMod, Nat.reducePow, List.reduceReplicate, UInt8.reduceOfNat, Int.reducePow, Int.reduceDiv, Int.reduceMod, Nat.reduceDiv, Int.reduceNeg, Int.reduceAdd, Int.reduceSub, Int.reduceMul, Int.reduceLE, Int.reduceLT, Int.reduceEq, Int.reduceToNat, reduceCtorEq, -List.reduceReplicate, List.toList_toArray, hCl, hCa, hb, zeroC_len]
      | with_reducible refine right_t hsm O.is ?_
    rename_i b1 hb1 hb11 hb12
    revert nb
    intro b2 hb2 hb21 hb22
    refine Classes_t hsm O.is fun G2 hle2 hs2 => ?_
    rw [if_pos hb]
    have hsE := hs2
    try simp only [zzs] at hsE
    repeat (obtain ⟨hsx, hsE⟩ := hsE)
    repeat' first
      | (with_reducible first | refine Br.yes ?_ | refine Br.no ?_ | refine Br.dec (fun _ => ?_) (fun _ => ?_) | refine Br.mk (fun _ => ?_) (fun _ => ?_) | refine appV.zero ?_ | refine appV.own ?_)
      | ((with_reducible first | refine NewB.mk (fun nb hnb => ?_) | refine NewRow.mk (fun nb nsp ncap hnb hncap => ?_)); have hnb1 := hnb.1.1; have hnb2 := hnb.1.2; try simp only [zzn] at hnb2)
      | simp (dsimp := false) (implicitDefEqProofs := false) (disch := first | assumption | (simp only [zzm]; done) | omega | (with_reducible refine Row.adr (by assumption) ?_; simp only [zzk]; omega) | (simp only [zzl, Nat.reduceAdd]; first | done | omega)) only [go_sem, ↓reduceIte, Nat.reduceEqDiff, Nat.reduceAdd, Nat.reduceSub, Nat.reduceMul, Nat.reduceBEq, Nat.reduceLT, Nat.reduceLeDiff, Nat.reduceMod, Nat.reducePow, List.reduceReplicate, UInt8.reduceOfNat, Int.reducePow, Int.reduceDiv, Int.reduceMod, Nat.reduceDiv, Int.reduceNeg, Int.reduceAdd, Int.reduceSub, Int.reduceMul, Int.reduceLE, Int.reduceLT, Int.reduceEq, Int.reduceToNat, reduceCtorEq, -List.reduceReplicate, List.toList_toArray, hCl, hCa, hb, List.length_replicate, hns, hu8, hno1, hnt]
    revert nb
    intro b4 hb4 hb41 hb42
    refine pleasts_t hol (hg.mono hle2) fun G3 v3 hle3 hs3 hsl3 => ?_
    obtain ⟨a3, c3, rfl, hr3, hc3⟩ := hsl3
    have hsE := hs3
    try simp only [zzs] at hsE
    repeat (obtain ⟨hsx, hsE⟩ := hsE)
    have O3 := O.mono (hle2.trans hle3)
    have hlab3 := O3.label
    have hnam3 := O3.names
    repeat' first
      | (with_reducible first | refine Br.yes ?_ | refine Br.no ?_ | refine Br.dec (fun _ => ?_) (fun _ => ?_) | refine Br.mk (fun _ => ?_) (fun _ => ?_) | refine appV.zero ?_ | refine appV.own ?_)
      | ((with_reducible first | refine NewB.mk (fun nb hnb => ?_) | refine NewRow.mk (fun nb nsp ncap hnb hncap => ?_)); have hnb1 := hnb.1.1; have hnb2 := hnb.1.2; try simp only [zzn] at hnb2)
      | simp (dsimp := false) (implicitDefEqProofs := false) (disch := first | assumption | (simp only [zzm]; done) | omega | (with_reducible refine Row.adr (by assumption) ?_; simp only [zzk]; omega) | (simp only [zzl, Nat.reduceAdd]; first | done | omega)) only [go_sem, ↓reduceIte, Nat.reduceEqDiff, Nat.reduceAdd, Nat.reduceSub, Nat.reduceMul, Nat.reduceBEq, Nat.reduceLT, Nat.reduceLeDiff, Nat.reduceMod, Nat.reducePow, List.reduceReplicate, UInt8.reduceOfNat, Int.reducePow, Int.reduceDiv, Int.reduceMod, Nat.reduceDiv, Int.reduceNeg, Int.reduceAdd, Int.reduceSub, Int.reduceMul, Int.reduceLE, Int.reduceLT, Int.reduceEq, Int.reduceToNat, reduceCtorEq, -List.reduceReplicate, List.toList_toArray, hCl, hCa, hCn, hCx, hCs, hnt, hu8, bu1, bu2, bu3, bu4, hl1, hl2, hputz, hone, zeroC_len]
      | with_reducible refine Tri.drawS tok mixed [0, 1, 2, 3, 4, 5, 6, 7, 9, 10, 11, 12, 15, 34, 35, 36, 37, 42, 43, 44, 45] 5 [0, 3, 6] (.op 0 .held (.op 1 .plain (.op 2 .plain (.op 3 .held (.op 5 .plain (.op 6 .held (.both (.op 4 .keeps (.both (.op 7 .keeps (.op 8 .plain (.op 9 .keeps (.op 10 .plain .nil)))) (.op 9 .keeps (.op 7 .keeps (.op 8 .plain (.op 10 .plain .nil)))))) (.op 9 .keeps (.op 4 .keeps (.op 7 .keeps (.op 8 .plain (.op 10 .plain .nil)))))))))))) (by kernel_rfl) [(b4, .cells (u8L (nums (clL d))) [] 22), (b1, .cells C [] 27)] (by intro fsum; first | exact Nat.le_refl _ | (simp only [zzq]; omega)) ?_
      | ((with_reducible refine cloneI_t d.label hm3 (by first | exact hlab3 | exact hlab3.mono (by assumption)) fun G8 v8 hle8 hs8 hsl8 => ?_); obtain ⟨a8, c8, rfl, hr8, hc8⟩ := hsl8; (have hsE := hs8; try simp only [zzs] at hsE; repeat (obtain ⟨hsx, hsE⟩ := hsE)))
      | ((with_reducible refine clones_t d.names hm4 (by first | exact hnam3 | exact hnam3.mono (by assumption)) fun G9 v9 hle9 hs9 hsl9 => ?_); obtain ⟨a9, c9, rfl, hr9, hc9⟩ := hsl9; (have hsE := hs9; try simp only [zzs] at hsE; repeat (obtain ⟨hsx, hsE⟩ := hsE)))
      | (with_reducible refine And.intro ?_ ?_)
    all_goals (first
      | (have hx9 : PLe G8 G9 := hle9; have hr8 := hr8.mono hle9; have hle5 : PLe G3 G9 := hle8.trans hle9; rename PHeap => G5)
      | (have hx9 : PLe G9 G8 := hle8; have hr9 := hr9.mono hle8; have hle5 : PLe G3 G8 := hle9.trans hle8; rename PHeap => G5))
    all_goals have O5 := O3.mono hle5
    all_goals have hr35 := hr3.mono hle5
    all_goals (revert nb; intro b7 hb7 hb71 hb72; intros)
    all_goals clear hr3 O3 hlab3 hnam3
    all_goals try clear hsE
    all_goals
      refine Tri.loopU tok [0, 1, 2, 3, 4, 5, 6, 7, 9, 10, 11, 12, 15, 34, 35, 36, 37, 42, 43, 44, 45] (by kernel_rfl) [1, 2, 5, 6, 7, 34, 35, 36] (fun q G' fr H' => ∃ (s : Nat) (vn : Value) (kn : Heap), s + q = d.next.length ∧ PLe G5 G' ∧ RowX (rowsM d) G' s vn kn ∧ H' = (b7, .cells (cellsD (mergeD d) vn (.slice a8 d.label.length c8) (.slice a9 d.names.length c9)) [] 27) :: (b4, .cells (u8L (nums (clL d))) [] 22) :: (b2, .cells zeroC [] 27) :: (b1, .cells C [] 27) :: (kn ++ H) ∧ fr = [(1, .pointer (some ⟨b1, 0, none⟩)), (2, .pointer (some ⟨b2, 0, none⟩)), (5, .int .i64 (tabO (clL d)).length), (6, .slice a3 (leastL (nums (clL d))).length c3), (7, .pointer (some ⟨b7, 0, none⟩)), (34, .slice an d.next.length cn), (35, .int .i64 d.next.length), (36, .int .i64 (s : Nat))]) (d.next.length) ?_ ?_
      · exact Upd.now ⟨0, _, [], by omega, PLe.refl _, .inl ⟨rfl, rfl, rfl⟩, rfl, rfl⟩
      · rintro q G1 fr H' hle hs1 ⟨s, vn, kn, hsq, hle6, hX, rfl, rfl⟩
        by_cases hsn : s < d.next.length
        · have O6 := O5.mono hle6
          have hr36 := hr35.mono hle6
          have had : Adr an := O6.rn.adr (by have := O.rnl; omega)
          obtain ⟨b, cc, e1, e2, e3⟩ := O6.rs s hsn (by have := O.rnl; omega)
          obtain ⟨hw1, hw2, hw3, hw4⟩ := hok.2.2.2.2.2.2 s hsn (by have := hok.2.2.1; omega)
          obtain ⟨row, hrow⟩ : ∃ row, row = d.next[s] := ⟨_, rfl⟩
          rw [← hrow] at e1 e2 e3 hw1 hw4
          obtain ⟨r, hr⟩ : ∃ r, r = rowM d row := ⟨_, rfl⟩
          have hrl : r.length = (tabO (clL d)).length := by rw [hr, rowM_len]
          have hll := least_len d
          have hrnl := O.rnl
          have htl := tabO_len (clL d)
          have hcl := clL_len O.ofl
          have hrs : (rowsM d)[s]'(by unfold rowsM; rw [List.length_map]; exact hsn) = r := by simp only [rowsM, List.getElem_map]; rw [hr, hrow]
          have hsE := hs1
          try simp only [zzs] at hsE
          repeat (obtain ⟨hsx, hsE⟩ := hsE)
          repeat' first
            | (with_reducible first | refine Br.yes ?_ | refine Br.no ?_ | refine Br.dec (fun _ => ?_) (fun _ => ?_) | refine Br.mk (fun _ => ?_) (fun _ => ?_) | refine appV.zero ?_ | refine appV.own ?_)
            | ((with_reducible first | refine NewB.mk (fun nb hnb => ?_) | refine NewRow.mk (fun nb nsp ncap hnb hncap => ?_)); have hnb1 := hnb.1.1; have hnb2 := hnb.1.2; try simp only [zzn] at hnb2)
            | simp (dsimp := false) (implicitDefEqProofs := false) (disch := first | assumption | (simp only [zzm]; done) | omega | (with_reducible refine Row.adr (by assumption) ?_; simp only [zzk]; omega) | (simp only [zzl, Nat.reduceAdd]; first | done | omega)) only [go_sem, ↓reduceIte, Nat.reduceEqDiff, Nat.reduceAdd, Nat.reduceSub, Nat.reduceMul, Nat.reduceBEq, Nat.reduceLT, Nat.reduceLeDiff, Nat.reduceMod, Nat.reducePow, List.reduceReplicate, UInt8.reduceOfNat, Int.reducePow, Int.reduceDiv, Int.reduceMod, Nat.reduceDiv, Int.reduceNeg, Int.reduceAdd, Int.reduceSub, Int.reduceMul, Int.reduceLE, Int.reduceLT, Int.reduceEq, Int.reduceToNat, reduceCtorEq, -List.reduceReplicate, Row.obj O6.rn, e1, Nat.sub_self, List.replicate_zero]
          revert nb
          intro br hbr hbr1 hbr2
          rw [show List.replicate (tabO (clL d)).length (Value.int .i64 0) = (partR r 0).map (Value.int .i64) by rw [← hrl, partR_zero]]
          refine Tri.loopU tok [0, 1, 2, 3, 4, 5, 6, 7, 9, 10, 11, 12, 15, 34, 35, 36, 37, 42, 43, 44, 45] (by kernel_rfl) [1, 2, 5, 6, 7, 9, 10, 34, 35, 36, 42, 43, 44] (fun q2 G' fr H' => ∃ k : Nat, k + q2 = r.length ∧ G' = G1 ∧ H' = (br, .cells ((partR r k).map (Value.int .i64)) [] 3) :: (b7, .cells (cellsD (mergeD d) vn (.slice a8 d.label.length c8) (.slice a9 d.names.length c9)) [] 27) :: (b4, .cells (u8L (nums (clL d))) [] 22) :: (b2, .cells zeroC [] 27) :: (b1, .cells C [] 27) :: (kn ++ H) ∧ fr = [(1, .pointer (some ⟨b1, 0, none⟩)), (2, .pointer (some ⟨b2, 0, none⟩)), (5, .int .i64 (tabO (clL d)).length), (6, .slice a3 (leastL (nums (clL d))).length c3), (7, .pointer (some ⟨b7, 0, none⟩)), (9, .slice b row.length cc), (10, .slice (some ⟨br, 0, none⟩) (tabO (clL d)).length (tabO (clL d)).length), (34, .slice an d.next.length cn), (35, .int .i64 d.next.length), (36, .int .i64 (s : Nat)), (42, .slice a3 (leastL (nums (clL d))).length c3), (43, .int .i64 (leastL (nums (clL d))).length), (44, .int .i64 (k : Nat))]) (r.length) ?_ ?_
          · exact Upd.now ⟨0, by omega, rfl, rfl, rfl⟩
          · rintro q2 G2' fr H' hle2' hs2' ⟨k, hkq, rfl, rfl, rfl⟩
            have hpl : (partR r k).length = r.length := partR_len r (by omega)
            by_cases hkl : k < r.length
            · have hsE := hs2'
              try simp only [zzs] at hsE
              repeat (obtain ⟨hsx, hsE⟩ := hsE)
              obtain ⟨x, hx1, hx2⟩ := least_bound O.ofl (d := d) (k := k) (by omega)
              have hxl : x < d.of.length := by rw [O.ofl]; exact hx2
              have had3 : Adr a3 := hr36.adr (by rw [List.length_map, hll, ← hrl]; omega)
              have hoc := of_bound hok (List.getElem_mem (l := d.of) (n := x) (by rw [O.ofl]; exact hx2))
              obtain ⟨y, hy⟩ := Int.eq_ofNat_of_zero_le hoc.1
              have hyr : y < row.length := by omega
              have hadb : Adr b := e2.adr (by rw [List.length_map]; omega)
              have hgetC : C[x]? = some (.int .u8 (y : Nat)) := by
                have h1 : (C.take 256)[x]? = some (.int .u8 d.of[x]) := by rw [O.of, List.getElem?_map, List.getElem?_eq_getElem (by rw [O.ofl]; exact hx2)]; rfl
                rw [List.getElem?_take, if_pos hx2, hy] at h1
                exact h1
              have hval : row[y] = r[k] := by
                simp only [hr, rowM, List.getElem_map]
                have h1 : atL d.of ((x : Nat) : Int) = (y : Nat) := by rw [atL_get (by simp only [Int.toNat_natCast]; rw [O.ofl]; exact hx2)]; simp only [Int.toNat_natCast]; exact hy
                rw [hx1, h1, atL_get (by simpa using hyr)]; simp only [Int.toNat_natCast]
              have hput := partR_put hkl
              repeat' first
                | (with_reducible first | refine Br.yes ?_ | refine Br.no ?_ | refine Br.dec (fun _ => ?_) (fun _ => ?_) | refine Br.mk (fun _ => ?_) (fun _ => ?_) | refine appV.zero ?_ | refine appV.own ?_)
                | ((with_reducible first | refine NewB.mk (fun nb hnb => ?_) | refine NewRow.mk (fun nb nsp ncap hnb hncap => ?_)); have hnb1 := hnb.1.1; have hnb2 := hnb.1.2; try simp only [zzn] at hnb2)
                | simp (dsimp := false) (implicitDefEqProofs := false) (disch := first | assumption | (simp only [zzm]; done) | omega | (with_reducible refine Row.adr (by assumption) ?_; simp only [zzk]; omega) | (simp only [zzl, Nat.reduceAdd]; first | done | omega)) only [go_sem, ↓reduceIte, Nat.reduceEqDiff, Nat.reduceAdd, Nat.reduceSub, Nat.reduceMul, Nat.reduceBEq, Nat.reduceLT, Nat.reduceLeDiff, Nat.reduceMod, Nat.reducePow, List.reduceReplicate, UInt8.reduceOfNat, Int.reducePow, Int.reduceDiv, Int.reduceMod, Nat.reduceDiv, Int.reduceNeg, Int.reduceAdd, Int.reduceSub, Int.reduceMul, Int.reduceLE, Int.reduceLT, Int.reduceEq, Int.reduceToNat, reduceCtorEq, -List.reduceReplicate, List.length_map, hCl, Row.obj hr36, Row.obj e2, List.getElem_map, hx1, hgetC, hval, hput, hpl, Int.toNat_natCast]
              exact Upd.now ⟨q2 - 1, by omega, k + 1, by omega, rfl, rfl, rfl⟩
            · obtain rfl : k = r.length := by omega
              rw [partR_all r] at hs2' ⊢
              rcases hX with ⟨hj0, rfl, rfl⟩ | ⟨bn, c1, rv, sp1, rfl, rfl, hrv, hc1, hrws⟩
              · have hsE := hs2'
                try simp only [zzs] at hsE
                repeat (obtain ⟨hsx, hsE⟩ := hsE)
                repeat' first
                  | (with_reducible first | refine Br.yes ?_ | refine Br.no ?_ | refine Br.dec (fun _ => ?_) (fun _ => ?_) | refine Br.mk (fun _ => ?_) (fun _ => ?_) | refine appV.zero ?_ | refine appV.own ?_)
                  | ((with_reducible first | refine NewB.mk (fun nb hnb => ?_) | refine NewRow.mk (fun nb nsp ncap hnb hncap => ?_)); have hnb1 := hnb.1.1; have hnb2 := hnb.1.2; try simp only [zzn] at hnb2)
                  | simp (dsimp := false) (implicitDefEqProofs := false) (disch := first | assumption | (simp only [zzm]; done) | omega | (with_reducible refine Row.adr (by assumption) ?_; simp only [zzk]; omega) | (simp only [zzl, Nat.reduceAdd]; first | done | omega)) only [go_sem, ↓reduceIte, Nat.reduceEqDiff, Nat.reduceAdd, Nat.reduceSub, Nat.reduceMul, Nat.reduceBEq, Nat.reduceLT, Nat.reduceLeDiff, Nat.reduceMod, Nat.reducePow, List.reduceReplicate, UInt8.reduceOfNat, Int.reducePow, Int.reduceDiv, Int.reduceMod, Nat.reduceDiv, Int.reduceNeg, Int.reduceAdd, Int.reduceSub, Int.reduceMul, Int.reduceLE, Int.reduceLT, Int.reduceEq, Int.reduceToNat, reduceCtorEq, -List.reduceReplicate, hl2, hg2, bu5, List.replicate_one]
                refine Upd.go (H' := (br, .cells (r.map (Value.int .i64)) [] 3) :: (b7, .cells (cellsD (mergeD d) (.slice (some ⟨nb, 0, none⟩) 1 ncap) (.slice a8 d.label.length c8) (.slice a9 d.names.length c9)) [] 27) :: (b4, .cells (u8L (nums (clL d))) [] 22) :: (b2, .cells zeroC [] 27) :: (b1, .cells C [] 27) :: ([(nb, .cells [.slice (some ⟨br, 0, none⟩) (tabO (clL d)).length (tabO (clL d)).length] nsp 24)] ++ H)) (by intro fsum; first | exact Nat.le_refl _ | (simp only [zzq]; omega)) (Upd.shareRow (by assumption) fun G6 hle7 hs7 hr7 => ?_)
                refine ⟨q - 1, by omega, s + 1, _, _, by omega, hle6.trans hle7, .inr ⟨nb, ncap, _, nsp, by rw [hj0], rfl, by rw [hj0]; rfl, by omega, fun i h h2 h3 => ?_⟩, rfl, rfl⟩
                obtain rfl : i = 0 := by omega
                obtain rfl : s = 0 := hj0
                refine ⟨some ⟨br, 0, none⟩, (tabO (clL d)).length, ?_, ?_, ?_⟩
                · rw [hrs, hrl]; rfl
                · rw [hrs]; exact hr7
                · rw [hrs, hrl]; exact Nat.le_refl _
              · have hsE := hs2'
                try simp only [zzs] at hsE
                repeat (obtain ⟨hsx, hsE⟩ := hsE)
                repeat' first
                  | (with_reducible first | refine Br.yes ?_ | refine Br.no ?_ | refine Br.dec (fun _ => ?_) (fun _ => ?_) | refine Br.mk (fun _ => ?_) (fun _ => ?_) | refine appV.zero ?_ | refine appV.own ?_)
                  | ((with_reducible first | refine NewB.mk (fun nb hnb => ?_) | refine NewRow.mk (fun nb nsp ncap hnb hncap => ?_)); have hnb1 := hnb.1.1; have hnb2 := hnb.1.2; try simp only [zzn] at hnb2)
                  | simp (dsimp := false) (implicitDefEqProofs := false) (disch := first | assumption | (simp only [zzm]; done) | omega | (with_reducible refine Row.adr (by assumption) ?_; simp only [zzk]; omega) | (simp only [zzl, Nat.reduceAdd]; first | done | omega)) only [go_sem, ↓reduceIte, Nat.reduceEqDiff, Nat.reduceAdd, Nat.reduceSub, Nat.reduceMul, Nat.reduceBEq, Nat.reduceLT, Nat.reduceLeDiff, Nat.reduceMod, Nat.reducePow, List.reduceReplicate, UInt8.reduceOfNat, Int.reducePow, Int.reduceDiv, Int.reduceMod, Nat.reduceDiv, Int.reduceNeg, Int.reduceAdd, Int.reduceSub, Int.reduceMul, Int.reduceLE, Int.reduceLT, Int.reduceEq, Int.reduceToNat, reduceCtorEq, -List.reduceReplicate, hl2, hg2, bu5, List.replicate_one]
                refine Upd.go (H' := (br, .cells (r.map (Value.int .i64)) [] 3) :: (b7, .cells (cellsD (mergeD d) (.slice (some ⟨nb, 0, none⟩) (s + 1) ncap) (.slice a8 d.label.length c8) (.slice a9 d.names.length c9)) [] 27) :: (b4, .cells (u8L (nums (clL d))) [] 22) :: (b2, .cells zeroC [] 27) :: (b1, .cells C [] 27) :: ([(nb, .cells (rv ++ [.slice (some ⟨br, 0, none⟩) (tabO (clL d)).length (tabO (clL d)).length]) nsp 24)] ++ H)) (by intro fsum; first | exact Nat.le_refl _ | (simp only [zzq]; omega)) (Upd.shareRow (by assumption) fun G6 hle7 hs7 hr7 => ?_)
                refine ⟨q - 1, by omega, s + 1, _, _, by omega, hle6.trans hle7, .inr ⟨nb, ncap, _, nsp, rfl, rfl, by rw [List.length_append, hrv]; rfl, by omega, fun i h h2 h3 => ?_⟩, rfl, rfl⟩
                rcases Nat.lt_or_ge i s with hij | hij
                · obtain ⟨b', c', f1, f2, f3⟩ := hrws i hij (by omega) h3
                  exact ⟨b', c', by rw [List.getElem_append_left (by omega)]; exact f1, f2.mono hle7, f3⟩
                · obtain rfl : i = s := by omega
                  refine ⟨some ⟨br, 0, none⟩, (tabO (clL d)).length, ?_, ?_, ?_⟩
                  · rw [hrs, hrl, List.getElem_append_right (by omega)]; simp [hrv]
                  · rw [hrs]; exact hr7
                  · rw [hrs, hrl]; exact Nat.le_refl _
        · obtain rfl : s = d.next.length := by omega
          have hnl : (rowsM d).length = d.next.length := by unfold rowsM; rw [List.length_map]
          have hob : ∀ x ∈ (mergeD d).of, 0 ≤ x ∧ x ≤ 255 := fun x hx => by
            have h1 := nums_bound (l := clL d) hx
            have h2 := tabO_len (clL d)
            have h3 := clL_len O.ofl
            omega
          have hr86 := hr8.mono hle6
          have hr96 := hr9.mono hle6
          rcases hX with ⟨hj0, rfl, rfl⟩ | ⟨bn, c1, rv, sp1, rfl, rfl, hrv, hc1, hrws⟩
          · have := hok.1
            have := hok.2.2.1
            omega
          · have hsE := hs1
            try simp only [zzs] at hsE
            repeat (obtain ⟨hsx, hsE⟩ := hsE)
            repeat' first
              | (with_reducible first | refine Br.yes ?_ | refine Br.no ?_ | refine Br.dec (fun _ => ?_) (fun _ => ?_) | refine Br.mk (fun _ => ?_) (fun _ => ?_) | refine appV.zero ?_ | refine appV.own ?_)
              | ((with_reducible first | refine NewB.mk (fun nb hnb => ?_) | refine NewRow.mk (fun nb nsp ncap hnb hncap => ?_)); have hnb1 := hnb.1.1; have hnb2 := hnb.1.2; try simp only [zzn] at hnb2)
              | simp (dsimp := false) (implicitDefEqProofs := false) (disch := first | assumption | (simp only [zzm]; done) | omega | (with_reducible refine Row.adr (by assumption) ?_; simp only [zzk]; omega) | (simp only [zzl, Nat.reduceAdd]; first | done | omega)) only [go_sem, ↓reduceIte, Nat.reduceEqDiff, Nat.reduceAdd, Nat.reduceSub, Nat.reduceMul, Nat.reduceBEq, Nat.reduceLT, Nat.reduceLeDiff, Nat.reduceMod, Nat.reducePow, List.reduceReplicate, UInt8.reduceOfNat, Int.reducePow, Int.reduceDiv, Int.reduceMod, Nat.reduceDiv, Int.reduceNeg, Int.reduceAdd, Int.reduceSub, Int.reduceMul, Int.reduceLE, Int.reduceLT, Int.reduceEq, Int.reduceToNat, reduceCtorEq, -List.reduceReplicate, List.toList_toArray, hl2, hputz, hone, htk2, zeroC_len]
            unfold UpdR
            refine Upd.go (H' := (bn, .cells rv sp1 24) :: H) (by intro fsum; first | exact Nat.le_refl _ | (simp only [zzq]; omega)) (Upd.shareRow (by assumption) fun G6 hle7 hs7 hr7 => ?_)
            exact fun _ hs => hR G6 _ (((hle2.trans hle3).trans hle5).trans (hle6.trans hle7)) hs ⟨hol, hob, _, _, _, rfl, ⟨some ⟨bn, 0, none⟩, c1, rv, by show _ = Value.slice _ (rowsM d).length _; rw [hnl], hr7, by show _ = (rowsM d).length; omega, by show (rowsM d).length ≤ _; omega, fun i h h2 => by
              obtain ⟨b', c', f1, f2, f3⟩ := hrws i (by have : i < (rowsM d).length := h; omega) h2 h
              exact ⟨b', c', f1, f2.mono hle7, f3⟩⟩, ⟨a8, c8, rfl, hr86.mono hle7, hc8⟩, ⟨a9, c9, rfl, hr96.mono hle7, hc9⟩⟩
  · have hb := boolOf_no hok
    rw [mergeR_bad hok] at hR
    refine FnT.body tok [0, 1, 2, 3, 4, 5, 6, 7, 9, 10, 11, 12, 15, 34, 35, 36, 37, 42, 43, 44, 45] Tryd.func24 rfl (by kernel_rfl) (by kernel_rfl) (by show _ ≤ 68; simp) fun hsep => ?_
    rw [Tryd.results24]
    have hsE := hsep
    try simp only [zzs] at hsE
    repeat (obtain ⟨hsx, hsE⟩ := hsE)
    repeat' first
      | (with_reducible first | refine Br.yes ?_ | refine Br.no ?_ | refine Br.dec (fun _ => ?_) (fun _ => ?_) | refine Br.mk (fun _ => ?_) (fun _ => ?_) | refine appV.zero ?_ | refine appV.own ?_)
      | ((with_reducible first | refine NewB.mk (fun nb hnb => ?_) | refine NewRow.mk (fun nb nsp ncap hnb hncap => ?_)); have hnb1 := hnb.1.1; have hnb2 := hnb.1.2; try simp only [zzn] at hnb2)
      | simp (dsimp := false) (implicitDefEqProofs := false) (disch := first | assumption | (simp only [zzm]; done) | omega | (with_reducible refine Row.adr (by assumption) ?_; simp only [zzk]; omega) | (simp only [zzl, Nat.reduceAdd]; first | done | omega)) only [go_sem, ↓reduceIte, Nat.reduceEqDiff, Nat.reduceAdd, Nat.reduceSub, Nat.reduceMul, Nat.reduceBEq, Nat.reduceLT, Nat.reduceLeDiff, Nat.reduceMod, Nat.reducePow, List.reduceReplicate, UInt8.reduceOfNat, Int.reducePow, Int.reduceDiv, Int.reduceMod, Nat.reduceDiv, Int.reduceNeg, Int.reduceAdd, Int.reduceSub, Int.reduceMul, Int.reduceLE, Int.reduceLT, Int.reduceEq, Int.reduceToNat, reduceCtorEq, -List.reduceReplicate, List.toList_toArray, hCl, hCa, hb, zeroC_len, zeroC_one, zeroC_take, zeroC_put]
      | with_reducible refine right_t hsm O.is ?_
    unfold UpdR
    refine Upd.leave (H' := H) (by intro fsum; first | exact Nat.le_refl _ | (simp only [zzq]; omega)) ?_
    exact fun _ hs => hR G _ (PLe.refl _) hs (zeroD_is _)
end Go.Proofs.YtefkpedhbijhkaaDoor
namespace Go.Proofs.YtefkpedhbijhkaaDoor
open Go Go.V Go.Proofs
theorem mergeD_small {d : DfaT} (hl : d.of.length = 256) (hsm : SmallD d) : SmallD (mergeD d) := by
  obtain ⟨h1, h2, h3, h4, h5⟩ := hsm
  refine ⟨?_, fun r hr => ?_, h3, h4, h5⟩
  · show (rowsM d).length ≤ _
    unfold rowsM; rw [List.length_map]; exact h1
  · have hr : r ∈ rowsM d := hr
    unfold rowsM at hr
    obtain ⟨row, _, rfl⟩ := List.mem_map.1 hr
    rw [rowM_len]
    have := tabO_len (clL d)
    rw [clL_len hl] at this
    omega
theorem turnM_small {d : DfaT} (hsm : SmallD d) {ls : List (List Int)} (h : ls.length ≤ 65536) (hw : d.width ≤ 256) : SmallD (turnM d ls) := by
  obtain ⟨h1, h2, h3, h4, h5⟩ := hsm
  refine ⟨?_, fun r hr => ?_, ?_, h4, h5⟩
  · show (ls.map _).length ≤ _
    rw [List.length_map]; omega
  · have hr : r ∈ ls.map (fun f => (behsA 0 d.next d.width.toNat f).map (findF ls)) := hr
    obtain ⟨f, _, rfl⟩ := List.mem_map.1 hr
    rw [List.length_map]
    unfold behsA
    rw [List.length_map, List.length_range]
    omega
  · show (ls.map _).length ≤ _
    rw [List.length_map]; omega
theorem brz_width {d : DfaT} (hok : RightP d) (hof : d.of.length = 256) : 1 ≤ d.width ∧ d.width ≤ 256 := by
  have h5 := hok.2.2.2.2.1
  have h2 := tabO_len d.of
  have h0 : 0 < d.of.length := by omega
  have := List.length_pos_of_mem ((mem_tabO d.of).2 (List.getElem_mem h0))
  omega
/-- a machine turned round is one that may be -/
theorem turnR_fine {d : DfaT} (hok : RightP d) (hof : d.of.length = 256) (hsm : SmallD d) {m : Nat} (hm : m ≤ 65536) (h : (turnR d m).2 = true) : (turnL d m).length ≤ m ∧ (turnR d m).1 = turnM d (turnL d m) ∧ RightP (turnR d m).1 ∧ SmallD (turnR d m).1 ∧ (turnR d m).1.of.length = 256 := by
  have hl : (turnL d m).length ≤ m := by
    unfold turnR at h
    split at h
    · assumption
    · cases h
  have he : (turnR d m).1 = turnM d (turnL d m) := by unfold turnR; rw [if_pos hl]
  rw [he]
  exact ⟨hl, rfl, turnM_right hok hof hm hl, turnM_small hsm (by omega) (brz_width hok hof).2, hof⟩
/-- the names that it tells, the classes that it tells apart, the states at which it may be -/
def tidyD (d : DfaT) : DfaT := trimD (mergeD (withN d (usedS d)))
def tidyI (d : DfaT) : Nat → DfaT
  | 0 => d
  | 1 => withN d (usedS d)
  | 2 => mergeD (withN d (usedS d))
  | _ => tidyD d
/-- a machine turned round twice, or why not -/
noncomputable def brzR (d : DfaT) (most : Int) : DfaT × Int := haveI := Classical.propDecidable
  if wrongR d most = 0 then
    if (revR (trimD d) most).2 = 0 then
      if (revR (revR (trimD d) most).1 65536).2 = 0 then (tidyD (revR (revR (trimD d) most).1 65536).1, 0) else (zeroD, (revR (revR (trimD d) most).1 65536).2)
    else (zeroD, (revR (trimD d) most).2)
  else (zeroD, wrongR d most)
theorem brzR_wrong {d : DfaT} {most : Int} (h : ¬ wrongR d most = 0) : brzR d most = (zeroD, wrongR d most) := by unfold brzR; rw [if_neg h]
theorem brzR_one {d : DfaT} {most : Int} (h : wrongR d most = 0) (h2 : ¬ (revR (trimD d) most).2 = 0) : brzR d most = (zeroD, (revR (trimD d) most).2) := by unfold brzR; rw [if_pos h, if_neg h2]
theorem brzR_two {d : DfaT} {most : Int} (h : wrongR d most = 0) (h2 : (revR (trimD d) most).2 = 0) (h3 : ¬ (revR (revR (trimD d) most).1 65536).2 = 0) : brzR d most = (zeroD, (revR (revR (trimD d) most).1 65536).2) := by unfold brzR; rw [if_pos h, if_pos h2, if_neg h3]
theorem brzR_ok {d : DfaT} {most : Int} (h : wrongR d most = 0) (h2 : (revR (trimD d) most).2 = 0) (h3 : (revR (revR (trimD d) most).1 65536).2 = 0) : brzR d most = (tidyD (revR (revR (trimD d) most).1 65536).1, 0) := by unfold brzR; rw [if_pos h, if_pos h2, if_pos h3]
theorem revR_fine {d : DfaT} (hok : RightP d) (hof : d.of.length = 256) (hsm : SmallD d) {most : Int} (h : (revR d most).2 = 0) : 1 ≤ most ∧ most ≤ 65536 ∧ (turnR d most.toNat).2 = true ∧ (revR d most).1 = (turnR d most.toNat).1 ∧ RightP (revR d most).1 ∧ SmallD (revR d most).1 ∧ (revR d most).1.of.length = 256 := by
  by_cases h1 : 1 ≤ most ∧ most ≤ 65536
  · cases ht : (turnR d most.toNat).2 with
    | true =>
      rw [revR_ok hok h1 ht]
      obtain ⟨_, _, g1, g2, g3⟩ := turnR_fine hok hof hsm (by omega) ht
      exact ⟨h1.1, h1.2, rfl, rfl, g1, g2, g3⟩
    | false => rw [revR_big hok h1 ht] at h; cases h
  · rw [revR_not hok h1] at h; cases h
set_option maxHeartbeats 64000000 in
theorem of_t2 {d : DfaT} (hsm : SmallD d) {most : Int} (hm : -9223372036854775808 ≤ most ∧ most < 9223372036854775808) {G : PHeap} {H : Heap} {R : Value → PHeap → Heap → Prop} (hg : HasTab G) {v : Value} (hv : IsD G d v)
    (hR : ∀ G' v', PLe G G' → Sep G' (keys H) → IsD G' (brzR d most).1 v' → R (.tuple #[v', .int .i64 (brzR d most).2]) G' H) : FnT Tryd.prog 11 [v, .int .i64 most] G H R := by
  obtain ⟨C, an, al, ay, cn, cl, cs, rs, rfl, O⟩ := hv.opened
  have hCl := O.len
  have hCa := O.all
  refine FnT.sep ?_
  by_cases hw0 : wrongR d most = 0
  · have hok : RightP d := Classical.byContradiction fun h => by rw [wrongR_bad h] at hw0; cases hw0
    have htr := trimR_ok hok
    have htk : RightP (trimD d) := keep_right hok (reachL_keep hok)
    have hts := trim_small hsm hok
    refine FnT.bodyS tok [0, 1, 2, 4, 5, 6, 7, 9, 10, 12, 17, 32, 41, 44, 45, 46, 47, 57] (.seq .run (.seq .run (.seq .run (.seq .run (.seq .run (.seq .run .cut)))))) Tryd.func11 rfl (by kernel_rfl) (by kernel_rfl) (by show _ ≤ 62; simp) fun hsep => ?_
    rw [Tryd.results11]
    have hsE := hsep
    try simp only [zzs] at hsE
    repeat (obtain ⟨hsx, hsE⟩ := hsE)
    repeat' first
      | (with_reducible first | refine Br.yes ?_ | refine Br.no ?_ | refine Br.dec (fun _ => ?_) (fun _ => ?_) | refine Br.beqB (fun _ => ?_) (fun _ => ?_) | refine Br.beqb (fun _ => ?_) (fun _ => ?_) | refine Br.mk (fun _ => ?_) (fun _ => ?_))
      | ((with_reducible first | refine NewB.mk (fun nb hnb => ?_) | refine NewRow.mk (fun nb nsp ncap hnb hncap => ?_)); have hnb1 := hnb.1.1; have hnb2 := hnb.1.2; try simp only [zzn] at hnb2)
      | simp (dsimp := false) (implicitDefEqProofs := false) (disch := first | assumption | (simp only [zzm]; done) | omega | (with_reducible refine Row.adr (by assumption) ?_; simp only [zzk]; omega) | (simp only [zzl, Nat.reduceAdd]; first | done | omega)) only [go_sem, ↓reduceIte, Nat.reduceEqDiff, Nat.reduceAdd, Nat.reduceSub, Nat.reduceMul, Nat.reduceBEq, Nat.reduceLT, Nat.reduceLeDiff, Nat.reduceMod, Nat.reducePow, List.reduceReplicate, UInt8.reduceOfNat, Int.reducePow, Int.reduceDiv, Int.reduceMod, Nat.reduceDiv, Int.reduceNeg, Int.reduceAdd, Int.reduceSub, Int.reduceMul, Int.reduceLE, Int.reduceLT, Int.reduceEq, Int.reduceToNat, reduceCtorEq, -List.reduceReplicate, List.toList_toArray, hCl, hCa, hw0]
      | with_reducible refine wrong_t hsm hm O.is ?_
    rename_i b2 z1 z2 z3
    obtain ⟨b4, e40⟩ : ∃ x, x = nb := ⟨_, rfl⟩
    subst e40
    refine trim_t hsm O.is fun G1 v1 hle1 hs1 hI1 => ?_
    rw [htr] at hI1 ⊢
    have hI1 : IsD G1 (trimD d) v1 := hI1
    have hof1 : (trimD d).of.length = 256 := hI1.1
    obtain ⟨C1, an1, al1, ay1, cn1, cl1, cs1, rs1, rfl, O1⟩ := hI1.opened
    have hC1l := O1.len
    have hone1 := wdf_one O1.is
    have hput1 := wdf_put hC1l
    have htk1 : List.take 260 C1 = C1 := List.take_of_length_le (by omega)
    have hsE := hs1
    try simp only [zzs] at hsE
    repeat (obtain ⟨hsx, hsE⟩ := hsE)
    repeat' first
      | (with_reducible first | refine Br.yes ?_ | refine Br.no ?_ | refine Br.dec (fun _ => ?_) (fun _ => ?_) | refine Br.beqB (fun _ => ?_) (fun _ => ?_) | refine Br.beqb (fun _ => ?_) (fun _ => ?_) | refine Br.mk (fun _ => ?_) (fun _ => ?_))
      | ((with_reducible first | refine NewB.mk (fun nb hnb => ?_) | refine NewRow.mk (fun nb nsp ncap hnb hncap => ?_)); have hnb1 := hnb.1.1; have hnb2 := hnb.1.2; try simp only [zzn] at hnb2)
      | simp (dsimp := false) (implicitDefEqProofs := false) (disch := first | assumption | (simp only [zzm]; done) | omega | (with_reducible refine Row.adr (by assumption) ?_; simp only [zzk]; omega) | (simp only [zzl, Nat.reduceAdd]; first | done | omega)) only [go_sem, ↓reduceIte, Nat.reduceEqDiff, Nat.reduceAdd, Nat.reduceSub, Nat.reduceMul, Nat.reduceBEq, Nat.reduceLT, Nat.reduceLeDiff, Nat.reduceMod, Nat.reducePow, List.reduceReplicate, UInt8.reduceOfNat, Int.reducePow, Int.reduceDiv, Int.reduceMod, Nat.reduceDiv, Int.reduceNeg, Int.reduceAdd, Int.reduceSub, Int.reduceMul, Int.reduceLE, Int.reduceLT, Int.reduceEq, Int.reduceToNat, reduceCtorEq, -List.reduceReplicate, List.toList_toArray, hCl, hCa, hC1l, hone1, hput1, htk1, zeroC_len]
    obtain ⟨b7, e70⟩ : ∃ x, x = nb := ⟨_, rfl⟩
    subst e70
    refine rev_t hts hm O1.is fun G2 v2 hle2 hs2 hI2 => ?_
    obtain ⟨r1, hr1⟩ : ∃ r1, r1 = revR (trimD d) most := ⟨_, rfl⟩
    rw [← hr1] at hI2 ⊢
    obtain ⟨C2, an2, al2, ay2, cn2, cl2, cs2, rs2, rfl, O2⟩ := hI2.opened
    have hC2l := O2.len
    have hone2 := wdf_one O2.is
    have hput2 := wdf_put hC2l
    have htk2 : List.take 260 C2 = C2 := List.take_of_length_le (by omega)
    have hsE := hs2
    try simp only [zzs] at hsE
    repeat (obtain ⟨hsx, hsE⟩ := hsE)
    by_cases h1 : r1.2 = 0
    · rw [h1]
      have hf1 := revR_fine htk hof1 hts (by rw [← hr1]; exact h1)
      rw [← hr1] at hf1
      obtain ⟨_, _, _, _, hk1, hsm1, hof2⟩ := hf1
      repeat' first
        | (with_reducible first | refine Br.yes ?_ | refine Br.no ?_ | refine Br.dec (fun _ => ?_) (fun _ => ?_) | refine Br.beqB (fun _ => ?_) (fun _ => ?_) | refine Br.beqb (fun _ => ?_) (fun _ => ?_) | refine Br.mk (fun _ => ?_) (fun _ => ?_))
        | ((with_reducible first | refine NewB.mk (fun nb hnb => ?_) | refine NewRow.mk (fun nb nsp ncap hnb hncap => ?_)); have hnb1 := hnb.1.1; have hnb2 := hnb.1.2; try simp only [zzn] at hnb2)
        | simp (dsimp := false) (implicitDefEqProofs := false) (disch := first | assumption | (simp only [zzm]; done) | omega | (with_reducible refine Row.adr (by assumption) ?_; simp only [zzk]; omega) | (simp only [zzl, Nat.reduceAdd]; first | done | omega)) only [go_sem, ↓reduceIte, Nat.reduceEqDiff, Nat.reduceAdd, Nat.reduceSub, Nat.reduceMul, Nat.reduceBEq, Nat.reduceLT, Nat.reduceLeDiff, Nat.reduceMod, Nat.reducePow, List.reduceReplicate, UInt8.reduceOfNat, Int.reducePow, Int.reduceDiv, Int.reduceMod, Nat.reduceDiv, Int.reduceNeg, Int.reduceAdd, Int.reduceSub, Int.reduceMul, Int.reduceLE, Int.reduceLT, Int.reduceEq, Int.reduceToNat, reduceCtorEq, -List.reduceReplicate, List.toList_toArray, hCl, hCa, hC1l, hC2l, hone2, hput2, htk2, zeroC_len]
      refine rev_t hsm1 (by decide) O2.is fun G3 v3 hle3 hs3 hI3 => ?_
      obtain ⟨r2, hr2⟩ : ∃ r2, r2 = revR r1.1 65536 := ⟨_, rfl⟩
      rw [← hr2] at hI3 ⊢
      obtain ⟨C3, an3, al3, ay3, cn3, cl3, cs3, rs3, rfl, O3⟩ := hI3.opened
      have hC3l := O3.len
      have hone3 := wdf_one O3.is
      have htk3 : List.take 260 C3 = C3 := List.take_of_length_le (by omega)
      have hput3 := wdf_over hC2l hC3l
      have hsE := hs3
      try simp only [zzs] at hsE
      repeat (obtain ⟨hsx, hsE⟩ := hsE)
      obtain ⟨b9, e90⟩ : ∃ x, x = nb := ⟨_, rfl⟩
      subst e90
      have hz : List.replicate 256 (Value.int .u8 0) ++ [Value.int .i64 0, Value.slice none 0 0, Value.slice none 0 0, Value.slice none 0 0] = zeroC := rfl
      rw [hz]
      by_cases h2 : r2.2 = 0
      · rw [h2]
        have hf2 := revR_fine hk1 hof2 hsm1 (by rw [← hr2]; exact h2)
        rw [← hr2] at hf2
        obtain ⟨_, _, _, _, hkx, hsx2, hofx⟩ := hf2
        rw [brzR_ok hw0 (by rw [← hr1]; exact h1) (by rw [← hr1, ← hr2]; exact h2), ← hr1, ← hr2] at hR
        repeat' first
          | (with_reducible first | refine Br.yes ?_ | refine Br.no ?_ | refine Br.dec (fun _ => ?_) (fun _ => ?_) | refine Br.beqB (fun _ => ?_) (fun _ => ?_) | refine Br.beqb (fun _ => ?_) (fun _ => ?_) | refine Br.mk (fun _ => ?_) (fun _ => ?_))
          | ((with_reducible first | refine NewB.mk (fun nb hnb => ?_) | refine NewRow.mk (fun nb nsp ncap hnb hncap => ?_)); have hnb1 := hnb.1.1; have hnb2 := hnb.1.2; try simp only [zzn] at hnb2)
          | simp (dsimp := false) (implicitDefEqProofs := false) (disch := first | assumption | (simp only [zzm]; done) | omega | (with_reducible refine Row.adr (by assumption) ?_; simp only [zzk]; omega) | (simp only [zzl, Nat.reduceAdd]; first | done | omega)) only [go_sem, ↓reduceIte, Nat.reduceEqDiff, Nat.reduceAdd, Nat.reduceSub, Nat.reduceMul, Nat.reduceBEq, Nat.reduceLT, Nat.reduceLeDiff, Nat.reduceMod, Nat.reducePow, List.reduceReplicate, UInt8.reduceOfNat, Int.reducePow, Int.reduceDiv, Int.reduceMod, Nat.reduceDiv, Int.reduceNeg, Int.reduceAdd, Int.reduceSub, Int.reduceMul, Int.reduceLE, Int.reduceLT, Int.reduceEq, Int.reduceToNat, reduceCtorEq, -List.reduceReplicate, List.toList_toArray, hCl, hCa, hC1l, hC2l, hC3l, hone3, hput3, htk3]
        have hun := usedS_names hkx
        have k1r := withN_right hkx hun
        have k1s : SmallD (withN r2.1 (usedS r2.1)) := by have := normR_small hsx2; rw [norm_tells hkx] at this; exact this
        have k1o : (withN r2.1 (usedS r2.1)).of.length = 256 := hofx
        have k2r := merge_right k1r k1o
        have k2s := mergeD_small k1o k1s
        refine Tri.live [4, 9] ?_
        refine Tri.upd (Upd.go (H' := (b9, .cells C3 [] 27) :: (b4, .cells zeroC [] 27) :: H) (by intro fsum; simp only [zzq]; omega) (Upd.now ?_))
        refine Tri.run tok [0, 1, 2, 4, 5, 6, 7, 9, 10, 12, 17, 32, 41, 44, 45, 46, 47, 57] (by kernel_rfl) ?_
        have hr3 : ∀ x : Value, List.replicate 3 x = [x, x, x] := fun _ => rfl
        repeat' first
          | (with_reducible first | refine Br.yes ?_ | refine Br.no ?_ | refine Br.dec (fun _ => ?_) (fun _ => ?_) | refine Br.beqB (fun _ => ?_) (fun _ => ?_) | refine Br.beqb (fun _ => ?_) (fun _ => ?_) | refine Br.mk (fun _ => ?_) (fun _ => ?_))
          | ((with_reducible first | refine NewB.mk (fun nb hnb => ?_) | refine NewRow.mk (fun nb nsp ncap hnb hncap => ?_)); have hnb1 := hnb.1.1; have hnb2 := hnb.1.2; try simp only [zzn] at hnb2)
          | simp (dsimp := false) (implicitDefEqProofs := false) (disch := first | assumption | (simp only [zzm]; done) | omega | (with_reducible refine Row.adr (by assumption) ?_; simp only [zzk]; omega) | (simp only [zzl, Nat.reduceAdd]; first | done | omega)) only [go_sem, ↓reduceIte, Nat.reduceEqDiff, Nat.reduceAdd, Nat.reduceSub, Nat.reduceMul, Nat.reduceBEq, Nat.reduceLT, Nat.reduceLeDiff, Nat.reduceMod, Nat.reducePow, List.reduceReplicate, UInt8.reduceOfNat, Int.reducePow, Int.reduceDiv, Int.reduceMod, Nat.reduceDiv, Int.reduceNeg, Int.reduceAdd, Int.reduceSub, Int.reduceMul, Int.reduceLE, Int.reduceLT, Int.reduceEq, Int.reduceToNat, reduceCtorEq, -List.reduceReplicate, hr3]
        obtain ⟨bs, ebs⟩ : ∃ x, x = nb := ⟨_, rfl⟩
        subst ebs
        refine Tri.loopU tok [0, 1, 2, 4, 5, 6, 7, 9, 10, 12, 17, 32, 41, 44, 45, 46, 47, 57] (by kernel_rfl) [4, 9, 44, 45, 46] (fun q G' fr H' => ∃ (i : Nat) (Cx : List Value), i + q = 3 ∧ PLe G3 G' ∧ IsD G' (tidyI r2.1 i) (.agg Cx.toArray) ∧ H' = (bs, .cells [.func (.func 23) #[] #[], .func (.func 24) #[] #[], .func (.func 22) #[] #[]] [] 46) :: (b9, .cells Cx [] 27) :: (b4, .cells zeroC [] 27) :: H ∧ fr = [(4, .pointer (some ⟨b4, 0, none⟩)), (9, .pointer (some ⟨b9, 0, none⟩)), (44, .slice (some ⟨bs, 0, none⟩) 3 3), (45, .int .i64 3), (46, .int .i64 (i : Nat))]) (3) ?_ ?_
        · exact Upd.now ⟨0, C3, by omega, PLe.refl _, O3.is, rfl, rfl⟩
        · rintro q G4 fr H4 hle4 hs4 ⟨i, Cx, hiq, hle34, hIx, rfl, rfl⟩
          obtain ⟨_, anx, alx, ayx, cnx, clx, csx, rsx, ex, Ox⟩ := hIx.opened
          obtain rfl : Cx = _ := by simpa using ex
          have hCxl := Ox.len
          have htkx : List.take 260 Cx = Cx := List.take_of_length_le (by omega)
          have hgx := hg.mono (hle1.trans (hle2.trans (hle3.trans hle34)))
          have hsE := hs4
          try simp only [zzs] at hsE
          repeat (obtain ⟨hsx, hsE⟩ := hsE)
          by_cases hi3 : i < 3
          · rcases (show i = 0 ∨ i = 1 ∨ i = 2 by omega) with rfl | rfl | rfl
            · skip
              repeat' first
                | (with_reducible first | refine Br.yes ?_ | refine Br.no ?_ | refine Br.dec (fun _ => ?_) (fun _ => ?_) | refine Br.beqB (fun _ => ?_) (fun _ => ?_) | refine Br.beqb (fun _ => ?_) (fun _ => ?_) | refine Br.mk (fun _ => ?_) (fun _ => ?_))
                | ((with_reducible first | refine NewB.mk (fun nb hnb => ?_) | refine NewRow.mk (fun nb nsp ncap hnb hncap => ?_)); have hnb1 := hnb.1.1; have hnb2 := hnb.1.2; try simp only [zzn] at hnb2)
                | simp (dsimp := false) (implicitDefEqProofs := false) (disch := first | assumption | (simp only [zzm]; done) | omega | (with_reducible refine Row.adr (by assumption) ?_; simp only [zzk]; omega) | (simp only [zzl, Nat.reduceAdd]; first | done | omega)) only [go_sem, ↓reduceIte, Nat.reduceEqDiff, Nat.reduceAdd, Nat.reduceSub, Nat.reduceMul, Nat.reduceBEq, Nat.reduceLT, Nat.reduceLeDiff, Nat.reduceMod, Nat.reducePow, List.reduceReplicate, UInt8.reduceOfNat, Int.reducePow, Int.reduceDiv, Int.reduceMod, Nat.reduceDiv, Int.reduceNeg, Int.reduceAdd, Int.reduceSub, Int.reduceMul, Int.reduceLE, Int.reduceLT, Int.reduceEq, Int.reduceToNat, reduceCtorEq, -List.reduceReplicate, List.toList_toArray, hCxl, htkx]
              refine lnorm_t hsx2 Ox.is fun G5 v5 hle5 hs5 hI5 => ?_
              rw [norm_tells hkx] at hI5 ⊢
              have hI5 : IsD G5 (tidyI r2.1 1) v5 := hI5
              obtain ⟨C5, an5, al5, ay5, cn5, cl5, cs5, rs5, rfl, O5⟩ := hI5.opened
              have hC5l := O5.len
              have hone5 := wdf_one O5.is
              have htk5 : List.take 260 C5 = C5 := List.take_of_length_le (by omega)
              have hput5 := wdf_over hCxl hC5l
              have hsE := hs5
              try simp only [zzs] at hsE
              repeat (obtain ⟨hsx, hsE⟩ := hsE)
              repeat' first
                | (with_reducible first | refine Br.yes ?_ | refine Br.no ?_ | refine Br.dec (fun _ => ?_) (fun _ => ?_) | refine Br.beqB (fun _ => ?_) (fun _ => ?_) | refine Br.beqb (fun _ => ?_) (fun _ => ?_) | refine Br.mk (fun _ => ?_) (fun _ => ?_))
                | ((with_reducible first | refine NewB.mk (fun nb hnb => ?_) | refine NewRow.mk (fun nb nsp ncap hnb hncap => ?_)); have hnb1 := hnb.1.1; have hnb2 := hnb.1.2; try simp only [zzn] at hnb2)
                | simp (dsimp := false) (implicitDefEqProofs := false) (disch := first | assumption | (simp only [zzm]; done) | omega | (with_reducible refine Row.adr (by assumption) ?_; simp only [zzk]; omega) | (simp only [zzl, Nat.reduceAdd]; first | done | omega)) only [go_sem, ↓reduceIte, Nat.reduceEqDiff, Nat.reduceAdd, Nat.reduceSub, Nat.reduceMul, Nat.reduceBEq, Nat.reduceLT, Nat.reduceLeDiff, Nat.reduceMod, Nat.reducePow, List.reduceReplicate, UInt8.reduceOfNat, Int.reducePow, Int.reduceDiv, Int.reduceMod, Nat.reduceDiv, Int.reduceNeg, Int.reduceAdd, Int.reduceSub, Int.reduceMul, Int.reduceLE, Int.reduceLT, Int.reduceEq, Int.reduceToNat, reduceCtorEq, -List.reduceReplicate, List.toList_toArray, hCxl, hC5l, hone5, hput5, htk5]
              exact Upd.now ⟨2, by omega, 1, C5, by omega, hle34.trans hle5, O5.is, rfl, rfl⟩
            · skip
              repeat' first
                | (with_reducible first | refine Br.yes ?_ | refine Br.no ?_ | refine Br.dec (fun _ => ?_) (fun _ => ?_) | refine Br.beqB (fun _ => ?_) (fun _ => ?_) | refine Br.beqb (fun _ => ?_) (fun _ => ?_) | refine Br.mk (fun _ => ?_) (fun _ => ?_))
                | ((with_reducible first | refine NewB.mk (fun nb hnb => ?_) | refine NewRow.mk (fun nb nsp ncap hnb hncap => ?_)); have hnb1 := hnb.1.1; have hnb2 := hnb.1.2; try simp only [zzn] at hnb2)
                | simp (dsimp := false) (implicitDefEqProofs := false) (disch := first | assumption | (simp only [zzm]; done) | omega | (with_reducible refine Row.adr (by assumption) ?_; simp only [zzk]; omega) | (simp only [zzl, Nat.reduceAdd]; first | done | omega)) only [go_sem, ↓reduceIte, Nat.reduceEqDiff, Nat.reduceAdd, Nat.reduceSub, Nat.reduceMul, Nat.reduceBEq, Nat.reduceLT, Nat.reduceLeDiff, Nat.reduceMod, Nat.reducePow, List.reduceReplicate, UInt8.reduceOfNat, Int.reducePow, Int.reduceDiv, Int.reduceMod, Nat.reduceDiv, Int.reduceNeg, Int.reduceAdd, Int.reduceSub, Int.reduceMul, Int.reduceLE, Int.reduceLT, Int.reduceEq, Int.reduceToNat, reduceCtorEq, -List.reduceReplicate, List.toList_toArray, hCxl, htkx]
              refine merge_t k1s hgx Ox.is fun G5 v5 hle5 hs5 hI5 => ?_
              rw [mergeR_ok k1r] at hI5 ⊢
              have hI5 : IsD G5 (tidyI r2.1 2) v5 := hI5
              obtain ⟨C5, an5, al5, ay5, cn5, cl5, cs5, rs5, rfl, O5⟩ := hI5.opened
              have hC5l := O5.len
              have hone5 := wdf_one O5.is
              have htk5 : List.take 260 C5 = C5 := List.take_of_length_le (by omega)
              have hput5 := wdf_over hCxl hC5l
              have hsE := hs5
              try simp only [zzs] at hsE
              repeat (obtain ⟨hsx, hsE⟩ := hsE)
              repeat' first
                | (with_reducible first | refine Br.yes ?_ | refine Br.no ?_ | refine Br.dec (fun _ => ?_) (fun _ => ?_) | refine Br.beqB (fun _ => ?_) (fun _ => ?_) | refine Br.beqb (fun _ => ?_) (fun _ => ?_) | refine Br.mk (fun _ => ?_) (fun _ => ?_))
                | ((with_reducible first | refine NewB.mk (fun nb hnb => ?_) | refine NewRow.mk (fun nb nsp ncap hnb hncap => ?_)); have hnb1 := hnb.1.1; have hnb2 := hnb.1.2; try simp only [zzn] at hnb2)
                | simp (dsimp := false) (implicitDefEqProofs := false) (disch := first | assumption | (simp only [zzm]; done) | omega | (with_reducible refine Row.adr (by assumption) ?_; simp only [zzk]; omega) | (simp only [zzl, Nat.reduceAdd]; first | done | omega)) only [go_sem, ↓reduceIte, Nat.reduceEqDiff, Nat.reduceAdd, Nat.reduceSub, Nat.reduceMul, Nat.reduceBEq, Nat.reduceLT, Nat.reduceLeDiff, Nat.reduceMod, Nat.reducePow, List.reduceReplicate, UInt8.reduceOfNat, Int.reducePow, Int.reduceDiv, Int.reduceMod, Nat.reduceDiv, Int.reduceNeg, Int.reduceAdd, Int.reduceSub, Int.reduceMul, Int.reduceLE, Int.reduceLT, Int.reduceEq, Int.reduceToNat, reduceCtorEq, -List.reduceReplicate, List.toList_toArray, hCxl, hC5l, hone5, hput5, htk5]
              exact Upd.now ⟨1, by omega, 2, C5, by omega, hle34.trans hle5, O5.is, rfl, rfl⟩
            · skip
              repeat' first
                | (with_reducible first | refine Br.yes ?_ | refine Br.no ?_ | refine Br.dec (fun _ => ?_) (fun _ => ?_) | refine Br.beqB (fun _ => ?_) (fun _ => ?_) | refine Br.beqb (fun _ => ?_) (fun _ => ?_) | refine Br.mk (fun _ => ?_) (fun _ => ?_))
                | ((with_reducible first | refine NewB.mk (fun nb hnb => ?_) | refine NewRow.mk (fun nb nsp ncap hnb hncap => ?_)); have hnb1 := hnb.1.1; have hnb2 := hnb.1.2; try simp only [zzn] at hnb2)
                | simp (dsimp := false) (implicitDefEqProofs := false) (disch := first | assumption | (simp only [zzm]; done) | omega | (with_reducible refine Row.adr (by assumption) ?_; simp only [zzk]; omega) | (simp only [zzl, Nat.reduceAdd]; first | done | omega)) only [go_sem, ↓reduceIte, Nat.reduceEqDiff, Nat.reduceAdd, Nat.reduceSub, Nat.reduceMul, Nat.reduceBEq, Nat.reduceLT, Nat.reduceLeDiff, Nat.reduceMod, Nat.reducePow, List.reduceReplicate, UInt8.reduceOfNat, Int.reducePow, Int.reduceDiv, Int.reduceMod, Nat.reduceDiv, Int.reduceNeg, Int.reduceAdd, Int.reduceSub, Int.reduceMul, Int.reduceLE, Int.reduceLT, Int.reduceEq, Int.reduceToNat, reduceCtorEq, -List.reduceReplicate, List.toList_toArray, hCxl, htkx]
              refine trim_t k2s Ox.is fun G5 v5 hle5 hs5 hI5 => ?_
              rw [trimR_ok k2r] at hI5 ⊢
              have hI5 : IsD G5 (tidyI r2.1 3) v5 := hI5
              obtain ⟨C5, an5, al5, ay5, cn5, cl5, cs5, rs5, rfl, O5⟩ := hI5.opened
              have hC5l := O5.len
              have hone5 := wdf_one O5.is
              have htk5 : List.take 260 C5 = C5 := List.take_of_length_le (by omega)
              have hput5 := wdf_over hCxl hC5l
              have hsE := hs5
              try simp only [zzs] at hsE
              repeat (obtain ⟨hsx, hsE⟩ := hsE)
              repeat' first
                | (with_reducible first | refine Br.yes ?_ | refine Br.no ?_ | refine Br.dec (fun _ => ?_) (fun _ => ?_) | refine Br.beqB (fun _ => ?_) (fun _ => ?_) | refine Br.beqb (fun _ => ?_) (fun _ => ?_) | refine Br.mk (fun _ => ?_) (fun _ => ?_))
                | ((with_reducible first | refine NewB.mk (fun nb hnb => ?_) | refine NewRow.mk (fun nb nsp ncap hnb hncap => ?_)); have hnb1 := hnb.1.1; have hnb2 := hnb.1.2; try simp only [zzn] at hnb2)
                | simp (dsimp := false) (implicitDefEqProofs := false) (disch := first | assumption | (simp only [zzm]; done) | omega | (with_reducible refine Row.adr (by assumption) ?_; simp only [zzk]; omega) | (simp only [zzl, Nat.reduceAdd]; first | done | omega)) only [go_sem, ↓reduceIte, Nat.reduceEqDiff, Nat.reduceAdd, Nat.reduceSub, Nat.reduceMul, Nat.reduceBEq, Nat.reduceLT, Nat.reduceLeDiff, Nat.reduceMod, Nat.reducePow, List.reduceReplicate, UInt8.reduceOfNat, Int.reducePow, Int.reduceDiv, Int.reduceMod, Nat.reduceDiv, Int.reduceNeg, Int.reduceAdd, Int.reduceSub, Int.reduceMul, Int.reduceLE, Int.reduceLT, Int.reduceEq, Int.reduceToNat, reduceCtorEq, -List.reduceReplicate, List.toList_toArray, hCxl, hC5l, hone5, hput5, htk5]
              exact Upd.now ⟨0, by omega, 3, C5, by omega, hle34.trans hle5, O5.is, rfl, rfl⟩
          · obtain rfl : i = 3 := by omega
            have honex := wdf_one Ox.is
            have hputx := wdf_put hCxl
            repeat' first
              | (with_reducible first | refine Br.yes ?_ | refine Br.no ?_ | refine Br.dec (fun _ => ?_) (fun _ => ?_) | refine Br.beqB (fun _ => ?_) (fun _ => ?_) | refine Br.beqb (fun _ => ?_) (fun _ => ?_) | refine Br.mk (fun _ => ?_) (fun _ => ?_))
              | ((with_reducible first | refine NewB.mk (fun nb hnb => ?_) | refine NewRow.mk (fun nb nsp ncap hnb hncap => ?_)); have hnb1 := hnb.1.1; have hnb2 := hnb.1.2; try simp only [zzn] at hnb2)
              | simp (dsimp := false) (implicitDefEqProofs := false) (disch := first | assumption | (simp only [zzm]; done) | omega | (with_reducible refine Row.adr (by assumption) ?_; simp only [zzk]; omega) | (simp only [zzl, Nat.reduceAdd]; first | done | omega)) only [go_sem, ↓reduceIte, Nat.reduceEqDiff, Nat.reduceAdd, Nat.reduceSub, Nat.reduceMul, Nat.reduceBEq, Nat.reduceLT, Nat.reduceLeDiff, Nat.reduceMod, Nat.reducePow, List.reduceReplicate, UInt8.reduceOfNat, Int.reducePow, Int.reduceDiv, Int.reduceMod, Nat.reduceDiv, Int.reduceNeg, Int.reduceAdd, Int.reduceSub, Int.reduceMul, Int.reduceLE, Int.reduceLT, Int.reduceEq, Int.reduceToNat, reduceCtorEq, -List.reduceReplicate, List.toList_toArray, hCxl, htkx, honex, hputx, zeroC_len]
            unfold UpdR
            refine Upd.leave (H' := H) (by intro fsum; simp only [zzq]; omega) ?_
            exact fun _ hs => hR G4 _ (hle1.trans (hle2.trans (hle3.trans hle34))) hs Ox.is
      · rw [brzR_two hw0 (by rw [← hr1]; exact h1) (by rw [← hr1, ← hr2]; exact h2), ← hr1, ← hr2] at hR
        repeat' first
          | (with_reducible first | refine Br.yes ?_ | refine Br.no ?_ | refine Br.dec (fun _ => ?_) (fun _ => ?_) | refine Br.beqB (fun _ => ?_) (fun _ => ?_) | refine Br.beqb (fun _ => ?_) (fun _ => ?_) | refine Br.mk (fun _ => ?_) (fun _ => ?_))
          | ((with_reducible first | refine NewB.mk (fun nb hnb => ?_) | refine NewRow.mk (fun nb nsp ncap hnb hncap => ?_)); have hnb1 := hnb.1.1; have hnb2 := hnb.1.2; try simp only [zzn] at hnb2)
          | simp (dsimp := false) (implicitDefEqProofs := false) (disch := first | assumption | (simp only [zzm]; done) | omega | (with_reducible refine Row.adr (by assumption) ?_; simp only [zzk]; omega) | (simp only [zzl, Nat.reduceAdd]; first | done | omega)) only [go_sem, ↓reduceIte, Nat.reduceEqDiff, Nat.reduceAdd, Nat.reduceSub, Nat.reduceMul, Nat.reduceBEq, Nat.reduceLT, Nat.reduceLeDiff, Nat.reduceMod, Nat.reducePow, List.reduceReplicate, UInt8.reduceOfNat, Int.reducePow, Int.reduceDiv, Int.reduceMod, Nat.reduceDiv, Int.reduceNeg, Int.reduceAdd, Int.reduceSub, Int.reduceMul, Int.reduceLE, Int.reduceLT, Int.reduceEq, Int.reduceToNat, reduceCtorEq, -List.reduceReplicate, List.toList_toArray, hCl, hCa, hC1l, hC2l, hC3l, hone3, hput3, htk3, zeroC_len, zeroC_one, zeroC_take, zeroC_put]
        unfold UpdR
        refine Upd.leave (H' := H) (by intro fsum; simp only [zzq]; omega) ?_
        exact fun _ hs => hR G3 _ (hle1.trans (hle2.trans hle3)) hs (zeroD_is _)
    · rw [brzR_one hw0 (by rw [← hr1]; exact h1), ← hr1] at hR
      repeat' first
        | (with_reducible first | refine Br.yes ?_ | refine Br.no ?_ | refine Br.dec (fun _ => ?_) (fun _ => ?_) | refine Br.beqB (fun _ => ?_) (fun _ => ?_) | refine Br.beqb (fun _ => ?_) (fun _ => ?_) | refine Br.mk (fun _ => ?_) (fun _ => ?_))
        | ((with_reducible first | refine NewB.mk (fun nb hnb => ?_) | refine NewRow.mk (fun nb nsp ncap hnb hncap => ?_)); have hnb1 := hnb.1.1; have hnb2 := hnb.1.2; try simp only [zzn] at hnb2)
        | simp (dsimp := false) (implicitDefEqProofs := false) (disch := first | assumption | (simp only [zzm]; done) | omega | (with_reducible refine Row.adr (by assumption) ?_; simp only [zzk]; omega) | (simp only [zzl, Nat.reduceAdd]; first | done | omega)) only [go_sem, ↓reduceIte, Nat.reduceEqDiff, Nat.reduceAdd, Nat.reduceSub, Nat.reduceMul, Nat.reduceBEq, Nat.reduceLT, Nat.reduceLeDiff, Nat.reduceMod, Nat.reducePow, List.reduceReplicate, UInt8.reduceOfNat, Int.reducePow, Int.reduceDiv, Int.reduceMod, Nat.reduceDiv, Int.reduceNeg, Int.reduceAdd, Int.reduceSub, Int.reduceMul, Int.reduceLE, Int.reduceLT, Int.reduceEq, Int.reduceToNat, reduceCtorEq, -List.reduceReplicate, List.toList_toArray, hCl, hCa, hC1l, hC2l, hone2, hput2, htk2, zeroC_len, zeroC_one, zeroC_take, zeroC_put]
      unfold UpdR
      refine Upd.leave (H' := H) (by intro fsum; simp only [zzq]; omega) ?_
      exact fun _ hs => hR G2 _ (hle1.trans hle2) hs (zeroD_is _)
  · rw [brzR_wrong hw0] at hR
    refine FnT.body tok [0, 1, 2, 4, 5, 6, 7, 9, 10, 12, 17, 32, 41, 44, 45, 46, 47, 57] Tryd.func11 rfl (by kernel_rfl) (by kernel_rfl) (by show _ ≤ 62; simp) fun hsep => ?_
    rw [Tryd.results11]
    have hsE := hsep
    try simp only [zzs] at hsE
    repeat (obtain ⟨hsx, hsE⟩ := hsE)
    repeat' first
      | (with_reducible first | refine Br.yes ?_ | refine Br.no ?_ | refine Br.dec (fun _ => ?_) (fun _ => ?_) | refine Br.beqB (fun _ => ?_) (fun _ => ?_) | refine Br.beqb (fun _ => ?_) (fun _ => ?_) | refine Br.mk (fun _ => ?_) (fun _ => ?_))
      | ((with_reducible first | refine NewB.mk (fun nb hnb => ?_) | refine NewRow.mk (fun nb nsp ncap hnb hncap => ?_)); have hnb1 := hnb.1.1; have hnb2 := hnb.1.2; try simp only [zzn] at hnb2)
      | simp (dsimp := false) (implicitDefEqProofs := false) (disch := first | assumption | (simp only [zzm]; done) | omega | (with_reducible refine Row.adr (by assumption) ?_; simp only [zzk]; omega) | (simp only [zzl, Nat.reduceAdd]; first | done | omega)) only [go_sem, ↓reduceIte, Nat.reduceEqDiff, Nat.reduceAdd, Nat.reduceSub, Nat.reduceMul, Nat.reduceBEq, Nat.reduceLT, Nat.reduceLeDiff, Nat.reduceMod, Nat.reducePow, List.reduceReplicate, UInt8.reduceOfNat, Int.reducePow, Int.reduceDiv, Int.reduceMod, Nat.reduceDiv, Int.reduceNeg, Int.reduceAdd, Int.reduceSub, Int.reduceMul, Int.reduceLE, Int.reduceLT, Int.reduceEq, Int.reduceToNat, reduceCtorEq, -List.reduceReplicate, List.toList_toArray, hCl, hCa, zeroC_len, zeroC_one, zeroC_take, zeroC_put]
      | with_reducible refine wrong_t hsm hm O.is ?_
    unfold UpdR
    refine Upd.leave (H' := H) (by intro fsum; simp only [zzq]; omega) ?_
    exact fun _ hs => hR G _ (PLe.refl _) hs (zeroD_is _)
end Go.Proofs.YtefkpedhbijhkaaDoor
namespace Go.Proofs.YtefkpedhbijhkaaDoor
open Go Go.V Go.Proofs
noncomputable def right24 (d : DfaT) (n : Int) : Bool := boolOf (RightP d) && decide ((d.label.length : Int) ≤ n)
theorem right24_t {d : DfaT} (hsm : SmallD d) {n : Int} {G : PHeap} {H : Heap} {R : Value → PHeap → Heap → Prop} {v : Value} (hv : IsD G d v)
    (hR : ∀ G', PLe G G' → Sep G' (keys H) → R (.bool (right24 d n)) G' H) : FnT Tryd.prog 4 [v, .int .i64 n] G H R := by
  obtain ⟨C, an, al, ay, cn, cl, cs, rs, rfl, O⟩ := hv.opened
  have hCl := O.len
  have hCa := O.all
  have hCx := O.l
  unfold right24 at hR
  refine FnT.sep ?_
  by_cases hok : RightP d
  · have hb := boolOf_yes hok
    rw [hb, Bool.true_and] at hR
    refine FnT.body tok [0, 1, 2, 4] Tryd.func4 rfl (by kernel_rfl) (by kernel_rfl) (by show _ ≤ 14; simp) fun hsep => ?_
    rw [Tryd.results4]
    have hsE := hsep
    try simp only [zzs] at hsE
    repeat (obtain ⟨hsx, hsE⟩ := hsE)
    repeat' first
      | (with_reducible first | refine Br.yes ?_ | refine Br.no ?_ | refine Br.dec (fun _ => ?_) (fun _ => ?_) | refine Br.mk (fun _ => ?_) (fun _ => ?_))
      | ((with_reducible first | refine NewB.mk (fun nb hnb => ?_)); have hnb1 := hnb.1.1; have hnb2 := hnb.1.2; try simp only [zzn] at hnb2)
      | simp (dsimp := false) (implicitDefEqProofs := false) (disch := first | assumption | (simp only [zzm]; done) | omega | (with_reducible refine Row.adr (by assumption) ?_; simp only [zzk]; omega) | (simp only [zzl, Nat.reduceAdd]; first | done | omega)) only [go_sem, ↓reduceIte, Nat.reduceEqDiff, Nat.reduceAdd, Nat.reduceSub, Nat.reduceMul, Nat.reduceBEq, Nat.reduceLT, Nat.reduceLeDiff, Nat.reduceMod, Nat.reducePow, List.reduceReplicate, UInt8.reduceOfNat, Int.reducePow, Int.reduceDiv, Int.reduceMod, Nat.reduceDiv, Int.reduceNeg, Int.reduceAdd, Int.reduceSub, Int.reduceMul, Int.reduceLE, Int.reduceLT, Int.reduceEq, Int.reduceToNat, reduceCtorEq, -List.reduceReplicate, List.toList_toArray, hCl, hCa]
    refine rright_t hsm O.is fun G2 hle2 hs2 => ?_
    have hsE := hs2
    try simp only [zzs] at hsE
    repeat (obtain ⟨hsx, hsE⟩ := hsE)
    repeat' first
      | (with_reducible first | refine Br.yes ?_ | refine Br.no ?_ | refine Br.dec (fun _ => ?_) (fun _ => ?_) | refine Br.mk (fun _ => ?_) (fun _ => ?_))
      | ((with_reducible first | refine NewB.mk (fun nb hnb => ?_)); have hnb1 := hnb.1.1; have hnb2 := hnb.1.2; try simp only [zzn] at hnb2)
      | simp (dsimp := false) (implicitDefEqProofs := false) (disch := first | assumption | (simp only [zzm]; done) | omega | (with_reducible refine Row.adr (by assumption) ?_; simp only [zzk]; omega) | (simp only [zzl, Nat.reduceAdd]; first | done | omega)) only [go_sem, ↓reduceIte, Nat.reduceEqDiff, Nat.reduceAdd, Nat.reduceSub, Nat.reduceMul, Nat.reduceBEq, Nat.reduceLT, Nat.reduceLeDiff, Nat.reduceMod, Nat.reducePow, List.reduceReplicate, UInt8.reduceOfNat, Int.reducePow, Int.reduceDiv, Int.reduceMod, Nat.reduceDiv, Int.reduceNeg, Int.reduceAdd, Int.reduceSub, Int.reduceMul, Int.reduceLE, Int.reduceLT, Int.reduceEq, Int.reduceToNat, reduceCtorEq, -List.reduceReplicate, List.toList_toArray, hCl, hCa, hCx, hb]
    unfold UpdR
    refine Upd.leave (H' := H) (by intro fsum; first | exact Nat.le_refl _ | (simp only [zzq]; omega)) ?_
    exact fun _ hs => hR G2 hle2 hs
  · have hb := boolOf_no hok
    rw [hb, Bool.false_and] at hR
    refine FnT.body tok [0, 1, 2, 4] Tryd.func4 rfl (by kernel_rfl) (by kernel_rfl) (by show _ ≤ 14; simp) fun hsep => ?_
    rw [Tryd.results4]
    have hsE := hsep
    try simp only [zzs] at hsE
    repeat (obtain ⟨hsx, hsE⟩ := hsE)
    repeat' first
      | (with_reducible first | refine Br.yes ?_ | refine Br.no ?_ | refine Br.dec (fun _ => ?_) (fun _ => ?_) | refine Br.mk (fun _ => ?_) (fun _ => ?_))
      | ((with_reducible first | refine NewB.mk (fun nb hnb => ?_)); have hnb1 := hnb.1.1; have hnb2 := hnb.1.2; try simp only [zzn] at hnb2)
      | simp (dsimp := false) (implicitDefEqProofs := false) (disch := first | assumption | (simp only [zzm]; done) | omega | (with_reducible refine Row.adr (by assumption) ?_; simp only [zzk]; omega) | (simp only [zzl, Nat.reduceAdd]; first | done | omega)) only [go_sem, ↓reduceIte, Nat.reduceEqDiff, Nat.reduceAdd, Nat.reduceSub, Nat.reduceMul, Nat.reduceBEq, Nat.reduceLT, Nat.reduceLeDiff, Nat.reduceMod, Nat.reducePow, List.reduceReplicate, UInt8.reduceOfNat, Int.reducePow, Int.reduceDiv, Int.reduceMod, Nat.reduceDiv, Int.reduceNeg, Int.reduceAdd, Int.reduceSub, Int.reduceMul, Int.reduceLE, Int.reduceLT, Int.reduceEq, Int.reduceToNat, reduceCtorEq, -List.reduceReplicate, List.toList_toArray, hCl, hCa]
    refine rright_t hsm O.is fun G2 hle2 hs2 => ?_
    have hsE := hs2
    try simp only [zzs] at hsE
    repeat (obtain ⟨hsx, hsE⟩ := hsE)
    repeat' first
      | (with_reducible first | refine Br.yes ?_ | refine Br.no ?_ | refine Br.dec (fun _ => ?_) (fun _ => ?_) | refine Br.mk (fun _ => ?_) (fun _ => ?_))
      | ((with_reducible first | refine NewB.mk (fun nb hnb => ?_)); have hnb1 := hnb.1.1; have hnb2 := hnb.1.2; try simp only [zzn] at hnb2)
      | simp (dsimp := false) (implicitDefEqProofs := false) (disch := first | assumption | (simp only [zzm]; done) | omega | (with_reducible refine Row.adr (by assumption) ?_; simp only [zzk]; omega) | (simp only [zzl, Nat.reduceAdd]; first | done | omega)) only [go_sem, ↓reduceIte, Nat.reduceEqDiff, Nat.reduceAdd, Nat.reduceSub, Nat.reduceMul, Nat.reduceBEq, Nat.reduceLT, Nat.reduceLeDiff, Nat.reduceMod, Nat.reducePow, List.reduceReplicate, UInt8.reduceOfNat, Int.reducePow, Int.reduceDiv, Int.reduceMod, Nat.reduceDiv, Int.reduceNeg, Int.reduceAdd, Int.reduceSub, Int.reduceMul, Int.reduceLE, Int.reduceLT, Int.reduceEq, Int.reduceToNat, reduceCtorEq, -List.reduceReplicate, List.toList_toArray, hCl, hCa, hCx, hb]
    unfold UpdR
    refine Upd.leave (H' := H) (by intro fsum; first | exact Nat.le_refl _ | (simp only [zzq]; omega)) ?_
    exact fun _ hs => hR G2 hle2 hs
end Go.Proofs.YtefkpedhbijhkaaDoor
namespace Go.Proofs.YtefkpedhbijhkaaDoor
open Go Go.V Go.Proofs
theorem equals_t (xs ys : List (List UInt8)) (hlen : xs.length ≤ 2000000) {G : PHeap} {H : Heap} {R : Value → PHeap → Heap → Prop} {v w : Value} (hv : Sl G str v xs) (hw : Sl G str w ys) (hR : R (.bool (decide (xs = ys))) G H) : FnT Tryd.prog 26 [v, w] G H R := by
  obtain ⟨a, cap, rfl, hrow, hcap⟩ := hv
  obtain ⟨a', cap', rfl, hrow', hcap'⟩ := hw
  refine FnT.body tok [0, 1, 4, 5, 10, 12, 13, 14, 24] Tryd.func26 rfl (by kernel_rfl) (by kernel_rfl) (by show _ ≤ 26; simp) fun hsep => ?_
  rw [Tryd.results26]
  have hsE := hsep
  try simp only [zzs] at hsE
  repeat (obtain ⟨hsx, hsE⟩ := hsE)
  repeat' first
    | (with_reducible first | refine Br.yes ?_ | refine Br.no ?_ | refine Br.dec (fun _ => ?_) (fun _ => ?_) | refine Br.beqB (fun _ => ?_) (fun _ => ?_) | refine Br.beqb (fun _ => ?_) (fun _ => ?_) | refine Br.mk (fun _ => ?_) (fun _ => ?_))
    | ((with_reducible first | refine NewB.mk (fun nb hnb => ?_)); have hnb1 := hnb.1.1; have hnb2 := hnb.1.2; try simp only [zzn] at hnb2)
    | simp (dsimp := false) (implicitDefEqProofs := false) (disch := first | assumption | (simp only [zzm]; done) | omega | (with_reducible refine Row.adr (by assumption) ?_; simp only [zzk]; omega) | (simp only [zzl, Nat.reduceAdd]; first | done | omega)) only [go_sem, ↓reduceIte, Nat.reduceEqDiff, Nat.reduceAdd, Nat.reduceSub, Nat.reduceMul, Nat.reduceBEq, Nat.reduceLT, Nat.reduceLeDiff, Nat.reduceMod, Nat.reducePow, List.reduceReplicate, UInt8.reduceOfNat, Int.reducePow, Int.reduceDiv, Int.reduceMod, Nat.reduceDiv, Int.reduceNeg, Int.reduceAdd, Int.reduceSub, Int.reduceMul, Int.reduceLE, Int.reduceLT, Int.reduceEq, Int.reduceToNat, reduceCtorEq]
  · rename_i hne
    have hxy : xs.length = ys.length := by omega
    refine Tri.loopU tok [0, 1, 4, 5, 10, 12, 13, 14, 24] (by kernel_rfl) [0, 1, 4, 12, 13] (fun n G' l H' => ∃ i : Nat, i + n = xs.length ∧ (∀ j (h : j < xs.length), j < i → xs[j] = ys[j]) ∧ G' = G ∧ H' = H ∧ l = [(0, .slice a xs.length cap), (1, .slice a' ys.length cap'), (4, .bool false), (12, .int .i64 xs.length), (13, .int .i64 i)]) (xs.length) (Upd.now ?_) ?_
    · exact ⟨0, by omega, fun j _ h => by omega, rfl, rfl, rfl⟩
    · rintro n G' l H' hle hs ⟨i, hi, hno, rfl, rfl, rfl⟩
      by_cases hil : i < xs.length
      · have hil' : i < ys.length := by omega
        repeat' first
          | (with_reducible first | refine Br.yes ?_ | refine Br.no ?_ | refine Br.dec (fun _ => ?_) (fun _ => ?_) | refine Br.beqB (fun _ => ?_) (fun _ => ?_) | refine Br.beqb (fun _ => ?_) (fun _ => ?_) | refine Br.mk (fun _ => ?_) (fun _ => ?_))
          | ((with_reducible first | refine NewB.mk (fun nb hnb => ?_)); have hnb1 := hnb.1.1; have hnb2 := hnb.1.2; try simp only [zzn] at hnb2)
          | with_reducible refine Tri.drawH tok mixed [0, 1, 4, 5, 10, 12, 13, 14, 24] 6 [3, 7] (.op 0 .plain (.op 1 .plain (.op 2 .plain (.op 3 .held (.op 4 .plain (.op 5 .plain (.op 6 .plain (.op 7 .held (.op 8 .plain .nil))))))))) (by kernel_rfl) [0, 1] ?_
          | simp (dsimp := false) (implicitDefEqProofs := false) (disch := first | assumption | (simp only [zzm]; done) | omega | (with_reducible refine Row.adr (by assumption) ?_; simp only [zzk]; omega) | (simp only [zzl, Nat.reduceAdd]; first | done | omega)) only [go_sem, ↓reduceIte, Nat.reduceEqDiff, Nat.reduceAdd, Nat.reduceSub, Nat.reduceMul, Nat.reduceBEq, Nat.reduceLT, Nat.reduceLeDiff, Nat.reduceMod, Nat.reducePow, List.reduceReplicate, UInt8.reduceOfNat, Int.reducePow, Int.reduceDiv, Int.reduceMod, Nat.reduceDiv, Int.reduceNeg, Int.reduceAdd, Int.reduceSub, Int.reduceMul, Int.reduceLE, Int.reduceLT, Int.reduceEq, Int.reduceToNat, reduceCtorEq, Row.obj hrow, Row.obj hrow', List.getElem_map]
        · rename_i he
          exact Upd.now ⟨n - 1, by omega, i + 1, by omega, fun j h hj => by
            by_cases e : j = i
            · subst e; exact he
            · exact hno j h (by omega), rfl, rfl, rfl⟩
        · rename_i he
          rw [decide_eq_false (fun e => he (by subst e; rfl))] at hR
          all_goals refine Upd.finL ?_ hR ?_
          any_goals (intro fsum; first | exact Nat.le_refl _ | (simp only [zzq]; omega))
          rfl
      · obtain rfl : i = xs.length := by omega
        rw [decide_eq_true (List.ext_getElem hxy fun j h1 h2 => hno j h1 h1)] at hR
        repeat' first
          | (with_reducible first | refine Br.yes ?_ | refine Br.no ?_ | refine Br.dec (fun _ => ?_) (fun _ => ?_) | refine Br.beqB (fun _ => ?_) (fun _ => ?_) | refine Br.beqb (fun _ => ?_) (fun _ => ?_) | refine Br.mk (fun _ => ?_) (fun _ => ?_))
          | ((with_reducible first | refine NewB.mk (fun nb hnb => ?_)); have hnb1 := hnb.1.1; have hnb2 := hnb.1.2; try simp only [zzn] at hnb2)
          | simp (dsimp := false) (implicitDefEqProofs := false) (disch := first | assumption | (simp only [zzm]; done) | omega | (with_reducible refine Row.adr (by assumption) ?_; simp only [zzk]; omega) | (simp only [zzl, Nat.reduceAdd]; first | done | omega)) only [go_sem, ↓reduceIte, Nat.reduceEqDiff, Nat.reduceAdd, Nat.reduceSub, Nat.reduceMul, Nat.reduceBEq, Nat.reduceLT, Nat.reduceLeDiff, Nat.reduceMod, Nat.reducePow, List.reduceReplicate, UInt8.reduceOfNat, Int.reducePow, Int.reduceDiv, Int.reduceMod, Nat.reduceDiv, Int.reduceNeg, Int.reduceAdd, Int.reduceSub, Int.reduceMul, Int.reduceLE, Int.reduceLT, Int.reduceEq, Int.reduceToNat, reduceCtorEq]
        all_goals refine Upd.finL ?_ hR ?_
        any_goals (intro fsum; first | exact Nat.le_refl _ | (simp only [zzq]; omega))
        rfl
  · rename_i hne
    rw [decide_eq_false (fun e => hne (by subst e; rfl))] at hR
    all_goals refine Upd.finL ?_ hR ?_
    any_goals (intro fsum; first | exact Nat.le_refl _ | (simp only [zzq]; omega))
    rfl
set_option maxHeartbeats 4000000 in
theorem eqrows_t {xs ys : List (List Int)} (hlen : xs.length ≤ 2000000) (hxl : ∀ x ∈ xs, x.length ≤ 2000000) {ax ay : Option Addr} {cx cy : Nat} {rs rs' : List Value} {G : PHeap} {H : Heap} {R : Value → PHeap → Heap → Prop}
    (hrx : Row G ax rs) (hrl : rs.length = xs.length) (hrs : ∀ i (h : i < xs.length) (h2 : i < rs.length), ∃ b c, rs[i] = .slice b xs[i].length c ∧ Row G b (xs[i].map (Value.int .i64)) ∧ xs[i].length ≤ c)
    (hry : Row G ay rs') (hrl' : rs'.length = ys.length) (hrs' : ∀ i (h : i < ys.length) (h2 : i < rs'.length), ∃ b c, rs'[i] = .slice b ys[i].length c ∧ Row G b (ys[i].map (Value.int .i64)) ∧ ys[i].length ≤ c)
    (hR : R (.bool (decide (xs = ys))) G H) : FnT Tryd.prog 27 [.slice ax xs.length cx, .slice ay ys.length cy, .func (.func 25) #[] #[]] G H R := by
  by_cases hxy : xs.length = ys.length
  · refine FnT.body tok [0, 1, 2, 6, 7, 8, 9, 14, 15, 16, 17, 18, 30] Tryd.func27 rfl (by kernel_rfl) (by kernel_rfl) (by show _ ≤ 32; simp) fun hsep => ?_
    rw [Tryd.results27]
    have hsE := hsep
    try simp only [zzs] at hsE
    repeat (obtain ⟨hsx, hsE⟩ := hsE)
    repeat' first
      | (with_reducible first | refine Br.yes ?_ | refine Br.no ?_ | refine Br.dec (fun _ => ?_) (fun _ => ?_) | refine Br.beqB (fun _ => ?_) (fun _ => ?_) | refine Br.beqb (fun _ => ?_) (fun _ => ?_) | refine Br.mk (fun _ => ?_) (fun _ => ?_))
      | ((with_reducible first | refine NewB.mk (fun nb hnb => ?_)); have hnb1 := hnb.1.1; have hnb2 := hnb.1.2; try simp only [zzn] at hnb2)
      | simp (dsimp := false) (implicitDefEqProofs := false) (disch := first | assumption | (simp only [zzm]; done) | omega | (with_reducible refine Row.adr (by assumption) ?_; simp only [zzk]; omega) | (simp only [zzl, Nat.reduceAdd]; first | done | omega)) only [go_sem, ↓reduceIte, Nat.reduceEqDiff, Nat.reduceAdd, Nat.reduceSub, Nat.reduceMul, Nat.reduceBEq, Nat.reduceLT, Nat.reduceLeDiff, Nat.reduceMod, Nat.reducePow, List.reduceReplicate, UInt8.reduceOfNat, Int.reducePow, Int.reduceDiv, Int.reduceMod, Nat.reduceDiv, Int.reduceNeg, Int.reduceAdd, Int.reduceSub, Int.reduceMul, Int.reduceLE, Int.reduceLT, Int.reduceEq, Int.reduceToNat, reduceCtorEq]
    all_goals try (exfalso; omega)
    refine Tri.loopU tok [0, 1, 2, 6, 7, 8, 9, 14, 15, 16, 17, 18, 30] (by kernel_rfl) [0, 1, 2, 6, 15, 16, 17] (fun n G' l H' => ∃ i : Nat, i + n = xs.length ∧ (∀ j (h : j < xs.length), j < i → xs[j] = (ys[j]'(hxy ▸ h))) ∧ G' = G ∧ H' = H ∧ l = [(0, .slice ax xs.length cx), (1, .slice ay ys.length cy), (2, .func (.func 25) #[] #[]), (6, .bool false), (15, .slice ax xs.length cx), (16, .int .i64 xs.length), (17, .int .i64 i)]) (xs.length) (Upd.now ?_) ?_
    · exact ⟨0, by omega, fun j _ h => by omega, rfl, rfl, rfl⟩
    · rintro n G' l H' hle hs ⟨i, hi, hno, rfl, rfl, rfl⟩
      by_cases hil : i < xs.length
      · have hil' : i < ys.length := by omega
        obtain ⟨b, c, e1, e2, e3⟩ := hrs i hil (by omega)
        obtain ⟨b', c', f1, f2, f3⟩ := hrs' i hil' (by omega)
        have had : Adr ax := hrx.adr (by omega)
        have had2 : Adr ay := hry.adr (by omega)
        have hs1 : Sl G' (Value.int .i64) (.slice b xs[i].length c) xs[i] := ⟨b, c, rfl, e2, e3⟩
        have hs2 : Sl G' (Value.int .i64) (.slice b' ys[i].length c') ys[i] := ⟨b', c', rfl, f2, f3⟩
        repeat' first
          | (with_reducible first | refine Br.yes ?_ | refine Br.no ?_ | refine Br.dec (fun _ => ?_) (fun _ => ?_) | refine Br.beqB (fun _ => ?_) (fun _ => ?_) | refine Br.beqb (fun _ => ?_) (fun _ => ?_) | refine Br.mk (fun _ => ?_) (fun _ => ?_))
          | ((with_reducible first | refine NewB.mk (fun nb hnb => ?_)); have hnb1 := hnb.1.1; have hnb2 := hnb.1.2; try simp only [zzn] at hnb2)
          | simp (dsimp := false) (implicitDefEqProofs := false) (disch := first | assumption | (simp only [zzm]; done) | omega | (with_reducible refine Row.adr (by assumption) ?_; simp only [zzk]; omega) | (simp only [zzl, Nat.reduceAdd]; first | done | omega)) only [go_sem, ↓reduceIte, Nat.reduceEqDiff, Nat.reduceAdd, Nat.reduceSub, Nat.reduceMul, Nat.reduceBEq, Nat.reduceLT, Nat.reduceLeDiff, Nat.reduceMod, Nat.reducePow, List.reduceReplicate, UInt8.reduceOfNat, Int.reducePow, Int.reduceDiv, Int.reduceMod, Nat.reduceDiv, Int.reduceNeg, Int.reduceAdd, Int.reduceSub, Int.reduceMul, Int.reduceLE, Int.reduceLT, Int.reduceEq, Int.reduceToNat, reduceCtorEq, Row.obj hrx, Row.obj hry, e1, f1]
          | with_reducible refine equal_t xs[i] ys[i] (hxl _ (List.getElem_mem hil)) hs1 hs2 ?_
        · rename_i he
          exact Upd.now ⟨n - 1, by omega, i + 1, by omega, fun j h hj => by
            by_cases e : j = i
            · subst e; exact he
            · exact hno j h (by omega), rfl, rfl, rfl⟩
        · rename_i he
          rw [decide_eq_false (fun e => he (by subst e; rfl))] at hR
          all_goals refine Upd.finL ?_ hR ?_
          any_goals (intro fsum; first | exact Nat.le_refl _ | (simp only [zzq]; omega))
          rfl
      · obtain rfl : i = xs.length := by omega
        rw [decide_eq_true (List.ext_getElem hxy fun j h1 h2 => hno j h1 h1)] at hR
        repeat' first
          | (with_reducible first | refine Br.yes ?_ | refine Br.no ?_ | refine Br.dec (fun _ => ?_) (fun _ => ?_) | refine Br.beqB (fun _ => ?_) (fun _ => ?_) | refine Br.beqb (fun _ => ?_) (fun _ => ?_) | refine Br.mk (fun _ => ?_) (fun _ => ?_))
          | ((with_reducible first | refine NewB.mk (fun nb hnb => ?_)); have hnb1 := hnb.1.1; have hnb2 := hnb.1.2; try simp only [zzn] at hnb2)
          | simp (dsimp := false) (implicitDefEqProofs := false) (disch := first | assumption | (simp only [zzm]; done) | omega | (with_reducible refine Row.adr (by assumption) ?_; simp only [zzk]; omega) | (simp only [zzl, Nat.reduceAdd]; first | done | omega)) only [go_sem, ↓reduceIte, Nat.reduceEqDiff, Nat.reduceAdd, Nat.reduceSub, Nat.reduceMul, Nat.reduceBEq, Nat.reduceLT, Nat.reduceLeDiff, Nat.reduceMod, Nat.reducePow, List.reduceReplicate, UInt8.reduceOfNat, Int.reducePow, Int.reduceDiv, Int.reduceMod, Nat.reduceDiv, Int.reduceNeg, Int.reduceAdd, Int.reduceSub, Int.reduceMul, Int.reduceLE, Int.reduceLT, Int.reduceEq, Int.reduceToNat, reduceCtorEq]
        all_goals refine Upd.finL ?_ hR ?_
        any_goals (intro fsum; first | exact Nat.le_refl _ | (simp only [zzq]; omega))
        rfl
  · rw [decide_eq_false fun h => hxy (congrArg List.length h)] at hR
    refine FnT.body tok [0, 1, 2, 6, 7, 8, 9, 14, 15, 16, 17, 18, 30] Tryd.func27 rfl (by kernel_rfl) (by kernel_rfl) (by show _ ≤ 32; simp) fun hsep => ?_
    rw [Tryd.results27]
    have hsE := hsep
    try simp only [zzs] at hsE
    repeat (obtain ⟨hsx, hsE⟩ := hsE)
    repeat' first
      | (with_reducible first | refine Br.yes ?_ | refine Br.no ?_ | refine Br.dec (fun _ => ?_) (fun _ => ?_) | refine Br.beqB (fun _ => ?_) (fun _ => ?_) | refine Br.beqb (fun _ => ?_) (fun _ => ?_) | refine Br.mk (fun _ => ?_) (fun _ => ?_))
      | ((with_reducible first | refine NewB.mk (fun nb hnb => ?_)); have hnb1 := hnb.1.1; have hnb2 := hnb.1.2; try simp only [zzn] at hnb2)
      | simp (dsimp := false) (implicitDefEqProofs := false) (disch := first | assumption | (simp only [zzm]; done) | omega | (with_reducible refine Row.adr (by assumption) ?_; simp only [zzk]; omega) | (simp only [zzl, Nat.reduceAdd]; first | done | omega)) only [go_sem, ↓reduceIte, Nat.reduceEqDiff, Nat.reduceAdd, Nat.reduceSub, Nat.reduceMul, Nat.reduceBEq, Nat.reduceLT, Nat.reduceLeDiff, Nat.reduceMod, Nat.reducePow, List.reduceReplicate, UInt8.reduceOfNat, Int.reducePow, Int.reduceDiv, Int.reduceMod, Nat.reduceDiv, Int.reduceNeg, Int.reduceAdd, Int.reduceSub, Int.reduceMul, Int.reduceLE, Int.reduceLT, Int.reduceEq, Int.reduceToNat, reduceCtorEq]
    all_goals try (exfalso; omega)
    all_goals refine Upd.finL ?_ hR ?_
    any_goals (intro fsum; first | exact Nat.le_refl _ | (simp only [zzq]; omega))
    rfl
set_option maxHeartbeats 32000000 in
theorem dsame_t {d e : DfaT} (hsm : SmallD d) {G : PHeap} {H : Heap} {R : Value → PHeap → Heap → Prop} {v w : Value} (hv : IsD G d v) (hw : IsD G e w) (hR : R (.bool (boolOf (d = e))) G H) : FnT Tryd.prog 12 [v, w] G H R := by
  obtain ⟨C, an, al, ay, cn, cl, cs, rs, rfl, O⟩ := hv.opened
  obtain ⟨C', an', al', ay', cn', cl', cs', rs', rfl, O'⟩ := hw.opened
  obtain ⟨hm1, hm2, hm3, hm4, hm5⟩ := id hsm
  have hCl := O.len
  have hCw := O.w
  have hCn := O.n
  have hCx := O.l
  have hCs := O.s
  have hCo := O.of
  have hDl := O'.len
  have hDw := O'.w
  have hDn := O'.n
  have hDx := O'.l
  have hDs := O'.s
  have hDo := O'.of
  have heq : eqT T 9 22 (agg8 d.of) (agg8 e.of) = some (decide (d.of = e.of)) := eqT_ints (d := 7) (t := 22) (e := 5) (n := 256) (k := .u8) rfl rfl rfl O.ofl O'.ofl
  by_cases h1 : d.of = e.of
  · by_cases h2 : d.width = e.width
    · by_cases h3 : d.label = e.label
      · by_cases h4 : d.names = e.names
        · by_cases h5 : d.next = e.next
          · rw [boolOf_yes (DfaT.ext2 h1 h2 h5 h3 h4)] at hR
            refine FnT.body tok [0, 1, 2, 3, 4] Tryd.func12 rfl (by kernel_rfl) (by kernel_rfl) (by show _ ≤ 38; simp) fun hsep => ?_
            rw [Tryd.results12]
            have hsE := hsep
            try simp only [zzs] at hsE
            repeat (obtain ⟨hsx, hsE⟩ := hsE)
            repeat' first
              | (with_reducible first | refine Br.yes ?_ | refine Br.no ?_ | refine Br.dec (fun _ => ?_) (fun _ => ?_) | refine Br.beqB (fun _ => ?_) (fun _ => ?_) | refine Br.beqb (fun _ => ?_) (fun _ => ?_) | refine Br.mk (fun _ => ?_) (fun _ => ?_))
              | ((with_reducible first | refine NewB.mk (fun nb hnb => ?_)); have hnb1 := hnb.1.1; have hnb2 := hnb.1.2; try simp only [zzn] at hnb2)
              | simp (dsimp := false) (implicitDefEqProofs := false) (disch := first | assumption | (simp only [zzm]; done) | omega | (with_reducible refine Row.adr (by assumption) ?_; simp only [zzk]; omega) | (simp only [zzl, Nat.reduceAdd]; first | done | omega)) only [go_sem, ↓reduceIte, Nat.reduceEqDiff, Nat.reduceAdd, Nat.reduceSub, Nat.reduceMul, Nat.reduceBEq, Nat.reduceLT, Nat.reduceLeDiff, Nat.reduceMod, Nat.reducePow, List.reduceReplicate, UInt8.reduceOfNat, Int.reducePow, Int.reduceDiv, Int.reduceMod, Nat.reduceDiv, Int.reduceNeg, Int.reduceAdd, Int.reduceSub, Int.reduceMul, Int.reduceLE, Int.reduceLT, Int.reduceEq, Int.reduceToNat, reduceCtorEq, -List.reduceReplicate, List.toList_toArray, hCl, hCw, hCn, hCx, hCs, hCo, hDl, hDw, hDn, hDx, hDs, hDo, heq, decide_eq_true h1, decide_eq_true h2, decide_eq_true h3, decide_eq_true h4, decide_eq_true h5]
              | with_reducible refine equal_t _ _ hm3 O.label O'.label ?_
              | with_reducible refine equals_t _ _ hm4 O.names O'.names ?_
              | with_reducible refine eqrows_t hm1 hm2 O.rn O.rnl O.rs O'.rn O'.rnl O'.rs ?_
            all_goals refine Upd.finL ?_ hR ?_
            any_goals (intro fsum; first | exact Nat.le_refl _ | (simp only [zzq]; omega))
            all_goals rfl
          · rw [boolOf_no fun h => h5 (congrArg DfaT.next h)] at hR
            refine FnT.body tok [0, 1, 2, 3, 4] Tryd.func12 rfl (by kernel_rfl) (by kernel_rfl) (by show _ ≤ 38; simp) fun hsep => ?_
            rw [Tryd.results12]
            have hsE := hsep
            try simp only [zzs] at hsE
            repeat (obtain ⟨hsx, hsE⟩ := hsE)
            repeat' first
              | (with_reducible first | refine Br.yes ?_ | refine Br.no ?_ | refine Br.dec (fun _ => ?_) (fun _ => ?_) | refine Br.beqB (fun _ => ?_) (fun _ => ?_) | refine Br.beqb (fun _ => ?_) (fun _ => ?_) | refine Br.mk (fun _ => ?_) (fun _ => ?_))
              | ((with_reducible first | refine NewB.mk (fun nb hnb => ?_)); have hnb1 := hnb.1.1; have hnb2 := hnb.1.2; try simp only [zzn] at hnb2)
              | simp (dsimp := false) (implicitDefEqProofs := false) (disch := first | assumption | (simp only [zzm]; done) | omega | (with_reducible refine Row.adr (by assumption) ?_; simp only [zzk]; omega) | (simp only [zzl, Nat.reduceAdd]; first | done | omega)) only [go_sem, ↓reduceIte, Nat.reduceEqDiff, Nat.reduceAdd, Nat.reduceSub, Nat.reduceMul, Nat.reduceBEq, Nat.reduceLT, Nat.reduceLeDiff, Nat.reduceMod, Nat.reducePow, List.reduceReplicate, UInt8.reduceOfNat, Int.reducePow, Int.reduceDiv, Int.reduceMod, Nat.reduceDiv, Int.reduceNeg, Int.reduceAdd, Int.reduceSub, Int.reduceMul, Int.reduceLE, Int.reduceLT, Int.reduceEq, Int.reduceToNat, reduceCtorEq, -List.reduceReplicate, List.toList_toArray, hCl, hCw, hCn, hCx, hCs, hCo, hDl, hDw, hDn, hDx, hDs, hDo, heq, decide_eq_true h1, decide_eq_true h2, decide_eq_true h3, decide_eq_true h4, decide_eq_false h5]
              | with_reducible refine equal_t _ _ hm3 O.label O'.label ?_
              | with_reducible refine equals_t _ _ hm4 O.names O'.names ?_
              | with_reducible refine eqrows_t hm1 hm2 O.rn O.rnl O.rs O'.rn O'.rnl O'.rs ?_
            all_goals refine Upd.finL ?_ hR ?_
            any_goals (intro fsum; first | exact Nat.le_refl _ | (simp only [zzq]; omega))
            all_goals rfl
        · rw [boolOf_no fun h => h4 (congrArg DfaT.names h)] at hR
          refine FnT.body tok [0, 1, 2, 3, 4] Tryd.func12 rfl (by kernel_rfl) (by kernel_rfl) (by show _ ≤ 38; simp) fun hsep => ?_
          rw [Tryd.results12]
          have hsE := hsep
          try simp only [zzs] at hsE
          repeat (obtain ⟨hsx, hsE⟩ := hsE)
          repeat' first
            | (with_reducible first | refine Br.yes ?_ | refine Br.no ?_ | refine Br.dec (fun _ => ?_) (fun _ => ?_) | refine Br.beqB (fun _ => ?_) (fun _ => ?_) | refine Br.beqb (fun _ => ?_) (fun _ => ?_) | refine Br.mk (fun _ => ?_) (fun _ => ?_))
            | ((with_reducible first | refine NewB.mk (fun nb hnb => ?_)); have hnb1 := hnb.1.1; have hnb2 := hnb.1.2; try simp only [zzn] at hnb2)
            | simp (dsimp := false) (implicitDefEqProofs := false) (disch := first | assumption | (simp only [zzm]; done) | omega | (with_reducible refine Row.adr (by assumption) ?_; simp only [zzk]; omega) | (simp only [zzl, Nat.reduceAdd]; first | done | omega)) only [go_sem, ↓reduceIte, Nat.reduceEqDiff, Nat.reduceAdd, Nat.reduceSub, Nat.reduceMul, Nat.reduceBEq, Nat.reduceLT, Nat.reduceLeDiff, Nat.reduceMod, Nat.reducePow, List.reduceReplicate, UInt8.reduceOfNat, Int.reducePow, Int.reduceDiv, Int.reduceMod, Nat.reduceDiv, Int.reduceNeg, Int.reduceAdd, Int.reduceSub, Int.reduceMul, Int.reduceLE, Int.reduceLT, Int.reduceEq, Int.reduceToNat, reduceCtorEq, -List.reduceReplicate, List.toList_toArray, hCl, hCw, hCn, hCx, hCs, hCo, hDl, hDw, hDn, hDx, hDs, hDo, heq, decide_eq_true h1, decide_eq_true h2, decide_eq_true h3, decide_eq_false h4]
            | with_reducible refine equal_t _ _ hm3 O.label O'.label ?_
            | with_reducible refine equals_t _ _ hm4 O.names O'.names ?_
          all_goals refine Upd.finL ?_ hR ?_
          any_goals (intro fsum; first | exact Nat.le_refl _ | (simp only [zzq]; omega))
          all_goals rfl
      · rw [boolOf_no fun h => h3 (congrArg DfaT.label h)] at hR
        refine FnT.body tok [0, 1, 2, 3, 4] Tryd.func12 rfl (by kernel_rfl) (by kernel_rfl) (by show _ ≤ 38; simp) fun hsep => ?_
        rw [Tryd.results12]
        have hsE := hsep
        try simp only [zzs] at hsE
        repeat (obtain ⟨hsx, hsE⟩ := hsE)
        repeat' first
          | (with_reducible first | refine Br.yes ?_ | refine Br.no ?_ | refine Br.dec (fun _ => ?_) (fun _ => ?_) | refine Br.beqB (fun _ => ?_) (fun _ => ?_) | refine Br.beqb (fun _ => ?_) (fun _ => ?_) | refine Br.mk (fun _ => ?_) (fun _ => ?_))
          | ((with_reducible first | refine NewB.mk (fun nb hnb => ?_)); have hnb1 := hnb.1.1; have hnb2 := hnb.1.2; try simp only [zzn] at hnb2)
          | simp (dsimp := false) (implicitDefEqProofs := false) (disch := first | assumption | (simp only [zzm]; done) | omega | (with_reducible refine Row.adr (by assumption) ?_; simp only [zzk]; omega) | (simp only [zzl, Nat.reduceAdd]; first | done | omega)) only [go_sem, ↓reduceIte, Nat.reduceEqDiff, Nat.reduceAdd, Nat.reduceSub, Nat.reduceMul, Nat.reduceBEq, Nat.reduceLT, Nat.reduceLeDiff, Nat.reduceMod, Nat.reducePow, List.reduceReplicate, UInt8.reduceOfNat, Int.reducePow, Int.reduceDiv, Int.reduceMod, Nat.reduceDiv, Int.reduceNeg, Int.reduceAdd, Int.reduceSub, Int.reduceMul, Int.reduceLE, Int.reduceLT, Int.reduceEq, Int.reduceToNat, reduceCtorEq, -List.reduceReplicate, List.toList_toArray, hCl, hCw, hCn, hCx, hCs, hCo, hDl, hDw, hDn, hDx, hDs, hDo, heq, decide_eq_true h1, decide_eq_true h2, decide_eq_false h3]
          | with_reducible refine equal_t _ _ hm3 O.label O'.label ?_
        all_goals refine Upd.finL ?_ hR ?_
        any_goals (intro fsum; first | exact Nat.le_refl _ | (simp only [zzq]; omega))
        all_goals rfl
    · rw [boolOf_no fun h => h2 (congrArg DfaT.width h)] at hR
      refine FnT.body tok [0, 1, 2, 3, 4] Tryd.func12 rfl (by kernel_rfl) (by kernel_rfl) (by show _ ≤ 38; simp) fun hsep => ?_
      rw [Tryd.results12]
      have hsE := hsep
      try simp only [zzs] at hsE
      repeat (obtain ⟨hsx, hsE⟩ := hsE)
      repeat' first
        | (with_reducible first | refine Br.yes ?_ | refine Br.no ?_ | refine Br.dec (fun _ => ?_) (fun _ => ?_) | refine Br.beqB (fun _ => ?_) (fun _ => ?_) | refine Br.beqb (fun _ => ?_) (fun _ => ?_) | refine Br.mk (fun _ => ?_) (fun _ => ?_))
        | ((with_reducible first | refine NewB.mk (fun nb hnb => ?_)); have hnb1 := hnb.1.1; have hnb2 := hnb.1.2; try simp only [zzn] at hnb2)
        | simp (dsimp := false) (implicitDefEqProofs := false) (disch := first | assumption | (simp only [zzm]; done) | omega | (with_reducible refine Row.adr (by assumption) ?_; simp only [zzk]; omega) | (simp only [zzl, Nat.reduceAdd]; first | done | omega)) only [go_sem, ↓reduceIte, Nat.reduceEqDiff, Nat.reduceAdd, Nat.reduceSub, Nat.reduceMul, Nat.reduceBEq, Nat.reduceLT, Nat.reduceLeDiff, Nat.reduceMod, Nat.reducePow, List.reduceReplicate, UInt8.reduceOfNat, Int.reducePow, Int.reduceDiv, Int.reduceMod, Nat.reduceDiv, Int.reduceNeg, Int.reduceAdd, Int.reduceSub, Int.reduceMul, Int.reduceLE, Int.reduceLT, Int.reduceEq, Int.reduceToNat, reduceCtorEq, -List.reduceReplicate, List.toList_toArray, hCl, hCw, hCn, hCx, hCs, hCo, hDl, hDw, hDn, hDx, hDs, hDo, heq, decide_eq_true h1, decide_eq_false h2]
      all_goals refine Upd.finL ?_ hR ?_
      any_goals (intro fsum; first | exact Nat.le_refl _ | (simp only [zzq]; omega))
      all_goals rfl
  · rw [boolOf_no fun h => h1 (congrArg DfaT.of h)] at hR
    refine FnT.body tok [0, 1, 2, 3, 4] Tryd.func12 rfl (by kernel_rfl) (by kernel_rfl) (by show _ ≤ 38; simp) fun hsep => ?_
    rw [Tryd.results12]
    have hsE := hsep
    try simp only [zzs] at hsE
    repeat (obtain ⟨hsx, hsE⟩ := hsE)
    repeat' first
      | (with_reducible first | refine Br.yes ?_ | refine Br.no ?_ | refine Br.dec (fun _ => ?_) (fun _ => ?_) | refine Br.beqB (fun _ => ?_) (fun _ => ?_) | refine Br.beqb (fun _ => ?_) (fun _ => ?_) | refine Br.mk (fun _ => ?_) (fun _ => ?_))
      | ((with_reducible first | refine NewB.mk (fun nb hnb => ?_)); have hnb1 := hnb.1.1; have hnb2 := hnb.1.2; try simp only [zzn] at hnb2)
      | simp (dsimp := false) (implicitDefEqProofs := false) (disch := first | assumption | (simp only [zzm]; done) | omega | (with_reducible refine Row.adr (by assumption) ?_; simp only [zzk]; omega) | (simp only [zzl, Nat.reduceAdd]; first | done | omega)) only [go_sem, ↓reduceIte, Nat.reduceEqDiff, Nat.reduceAdd, Nat.reduceSub, Nat.reduceMul, Nat.reduceBEq, Nat.reduceLT, Nat.reduceLeDiff, Nat.reduceMod, Nat.reducePow, List.reduceReplicate, UInt8.reduceOfNat, Int.reducePow, Int.reduceDiv, Int.reduceMod, Nat.reduceDiv, Int.reduceNeg, Int.reduceAdd, Int.reduceSub, Int.reduceMul, Int.reduceLE, Int.reduceLT, Int.reduceEq, Int.reduceToNat, reduceCtorEq, -List.reduceReplicate, List.toList_toArray, hCl, hCw, hCn, hCx, hCs, hCo, hDl, hDw, hDn, hDx, hDs, hDo, heq, decide_eq_false h1]
    all_goals refine Upd.finL ?_ hR ?_
    any_goals (intro fsum; first | exact Nat.le_refl _ | (simp only [zzq]; omega))
    all_goals rfl
end Go.Proofs.YtefkpedhbijhkaaDoor
namespace Go.Proofs.YtefkpedhbijhkaaDoor
open Go Go.V Go.Proofs
def of7 : List Int := (List.replicate 256 (0 : Int)).set 97 1
def d7 : DfaT := ⟨of7, 2, [[0, 1], [0, 1]], [0, 1], [[120]]⟩
def r7 : DfaT := ⟨of7, 2, [[1, 2], [1, 1], [2, 2]], [0, 0, 1], [[120]]⟩
theorem of7_len : of7.length = 256 := by unfold of7; rw [List.length_set, List.length_replicate]
theorem name120 : namesOk [[120]] := by
  refine ⟨by decide, fun i h => ?_⟩
  have h1 : i < 1 := h
  match i, h1 with
  | 0, _ => exact ⟨nameB_iff.2 ⟨by show 1 ≤ 1; omega, by show 1 ≤ 32; omega, fun i hi => by
      match i, (show i < 1 from hi) with
      | 0, _ => exact (by show mayN (120 : UInt8).toNat true = true; decide)⟩, (by decide : ¬ ([120] : List UInt8) ∈ ([] : List (List UInt8)))⟩
theorem d7_right : RightP d7 := by
  refine ⟨by decide, by decide, rfl, by decide +kernel, by decide +kernel, name120, fun s h1 h2 => ?_⟩
  have e : ∀ s : Fin 2, ((d7.next[s.val]'s.isLt).length : Int) = d7.width ∧ 0 ≤ d7.label[s.val]'s.isLt ∧ d7.label[s.val]'s.isLt ≤ d7.names.length ∧ ∀ t ∈ d7.next[s.val]'s.isLt, 0 ≤ t ∧ t < d7.label.length := by decide +kernel
  exact e ⟨s, h1⟩
theorem r7_right : RightP r7 := by
  refine ⟨by decide, by decide, rfl, by decide +kernel, by decide +kernel, name120, fun s h1 h2 => ?_⟩
  have e : ∀ s : Fin 3, ((r7.next[s.val]'s.isLt).length : Int) = r7.width ∧ 0 ≤ r7.label[s.val]'s.isLt ∧ r7.label[s.val]'s.isLt ≤ r7.names.length ∧ ∀ t ∈ r7.next[s.val]'s.isLt, 0 ≤ t ∧ t < r7.label.length := by decide +kernel
  exact e ⟨s, h1⟩
theorem d7_small : SmallD d7 := ⟨by decide, by decide, by decide, by decide, by decide⟩
theorem r7_small : SmallD r7 := ⟨by decide, by decide, by decide, by decide, by decide⟩
theorem d7_turn : turnR d7 9 = (r7, true) := by
  have hl : turnL d7 9 = [[0, 1], [0, 0], [1, 1]] := by decide +kernel
  unfold turnR
  rw [hl, if_pos (by decide)]
  have h1 : (turnM d7 [[0, 1], [0, 0], [1, 1]]).next = r7.next := by decide +kernel
  have h2 : (turnM d7 [[0, 1], [0, 0], [1, 1]]).label = r7.label := by decide +kernel
  rw [DfaT.ext2 (d := turnM d7 [[0, 1], [0, 0], [1, 1]]) (e := r7) rfl rfl h1 h2 rfl]
theorem r7_turn : turnR r7 65536 = (d7, true) := by
  have hl : turnL r7 2 = [[0, 0, 1], [1, 0, 1]] := by decide +kernel
  have hs : turnL r7 65536 = turnL r7 2 := lsA_stop (by show (turnL r7 2).length ≤ 2; rw [hl]; decide) 65536 (by omega)
  unfold turnR
  rw [hs, hl, if_pos (by decide)]
  have h1 : (turnM r7 [[0, 0, 1], [1, 0, 1]]).next = d7.next := by decide +kernel
  have h2 : (turnM r7 [[0, 0, 1], [1, 0, 1]]).label = d7.label := by decide +kernel
  rw [DfaT.ext2 (d := turnM r7 [[0, 0, 1], [1, 0, 1]]) (e := d7) rfl rfl h1 h2 rfl]
theorem d7_rev : revR d7 9 = (r7, 0) := by
  rw [revR_ok d7_right (by decide) (by show (turnR d7 9).2 = true; rw [d7_turn])]
  show ((turnR d7 9).1, (0 : Int)) = _
  rw [d7_turn]
theorem r7_rev : revR r7 65536 = (d7, 0) := by
  rw [revR_ok r7_right (by decide) (by show (turnR r7 65536).2 = true; rw [r7_turn])]
  show ((turnR r7 65536).1, (0 : Int)) = _
  rw [r7_turn]
theorem d7_trim : trimD d7 = d7 := by
  have h1 : (trimD d7).next = d7.next := by decide +kernel
  have h2 : (trimD d7).label = d7.label := by decide +kernel
  exact DfaT.ext2 (d := trimD d7) (e := d7) rfl rfl h1 h2 rfl
theorem d7_merge : mergeD d7 = d7 := by
  have h1 : (mergeD d7).of = d7.of := by decide +kernel
  have h2 : (mergeD d7).width = d7.width := by decide +kernel
  have h3 : (mergeD d7).next = d7.next := by decide +kernel
  exact DfaT.ext2 (d := mergeD d7) (e := d7) h1 h2 h3 rfl rfl
theorem d7_used : usedS d7 = d7.names := by
  refine rising_eq (usedS_rising d7_right) (List.pairwise_singleton _ _) fun x => ?_
  have h0 : usedN d7 d7.names.length = [[120]] := by decide +kernel
  unfold usedS
  rw [h0, mem_sortS]
  rfl
theorem d7_tidy : tidyD d7 = d7 := by
  unfold tidyD withN
  rw [d7_used, withD_same d7_right, d7_merge, d7_trim]
theorem d7_brz : brzR d7 9 = (d7, 0) := by
  have h1 : revR (trimD d7) 9 = (r7, 0) := by rw [d7_trim, d7_rev]
  have h2 : (revR (revR (trimD d7) 9).1 65536) = (d7, 0) := by rw [h1, r7_rev]
  rw [brzR_ok (wrongR_ok d7_right (by decide)) (by rw [h1]) (by rw [h2]), h2, d7_tidy]
theorem r7_name {w : List UInt8} {k : Int} (h : tellD r7 w = k) : nameD r7 (tellB r7 w) = nameD r7 k := by
  unfold tellB
  rw [if_pos (boolOf_yes r7_right), h]
theorem r7_ab : nameD r7 (tellB r7 [97, 98]) = [120] := by rw [r7_name (k := 1) (by decide +kernel)]; decide
theorem r7_ba : nameD r7 (tellB r7 [98, 97]) = [] := by rw [r7_name (k := 0) (by decide +kernel)]; decide
theorem d7_u8 : splice (List.replicate 256 (Value.int .u8 0)) 97 [Value.int .u8 1] = u8L d7.of := by
  rw [splice_one (by rw [List.length_replicate]; omega)]
  unfold u8L
  show _ = (of7).map (Value.int .u8)
  unfold of7
  rw [List.map_set, List.map_replicate]
theorem calleeRev : V.Callee Tryd.prog 6 := ⟨_, _, Tryd.func6, rfl, by kernel_rfl⟩
theorem calleeName27 : V.Callee Tryd.prog 8 := ⟨_, _, Tryd.func8, rfl, by kernel_rfl⟩
set_option maxHeartbeats 32000000 in
theorem knows_t {G : PHeap} {H : Heap} {R : Value → PHeap → Heap → Prop} (hg : HasTab G) (hR : ∀ G', PLe G G' → Sep G' (keys H) → R (.bool true) G' H) : FnT Tryd.prog 5 [] G H R := by
  have hd : d7.of.length = 256 := of7_len
  have hofl : (u8L d7.of).length = 256 := by rw [List.length_map, hd]
  have hoft : List.take 256 (u8L d7.of) = u8L d7.of := List.take_of_length_le (by omega)
  have hofo : (u8L d7.of).all oneV = true := by rw [List.all_map]; exact List.all_eq_true.2 fun _ _ => rfl
  have hzr : (List.replicate 256 (Value.int .u8 0)).length = 256 := List.length_replicate
  have hzo : (List.replicate 256 (Value.int .u8 0)).all oneV = true := List.all_eq_true.2 fun v hv => by rw [List.eq_of_mem_replicate hv]; rfl
  have hzz : splice (List.replicate 256 (Value.int .u8 0)) 0 (List.replicate 256 (Value.int .u8 0)) = List.replicate 256 (Value.int .u8 0) := by
    unfold splice
    rw [List.take_zero, List.nil_append, List.drop_of_length_le (by rw [List.length_replicate]; omega), List.append_nil]
  have hb1 := build_of (d := d7) hd
  have hb2 : splice (u8L d7.of ++ [Value.int .i64 0, Value.slice none 0 0, Value.slice none 0 0, Value.slice none 0 0]) 256 [Value.int .i64 2] = cellsD d7 (.slice none 0 0) (.slice none 0 0) (.slice none 0 0) := build_w (d := d7) hd
  have hl1 : (u8L d7.of ++ [Value.int .i64 0, Value.slice none 0 0, Value.slice none 0 0, Value.slice none 0 0]).length = 260 := by rw [List.length_append, hofl]; rfl
  have hr1 : ∀ x : Value, List.replicate 1 x = [x] := fun _ => rfl
  have hr2 : ∀ x : Value, List.replicate 2 x = [x, x] := fun _ => rfl
  have hl2 : ∀ a b c : Value, (cellsD d7 a b c).length = 260 := fun a b c => cellsD_len hd _ _ _
  have ht2 : ∀ a b c : Value, List.take 260 (cellsD d7 a b c) = cellsD d7 a b c := fun a b c => cellsD_all hd _ _ _
  have hputN : ∀ a b c x : Value, splice (cellsD d7 a b c) 257 [x] = cellsD d7 x b c := fun a b c x => cellsD_putN hd _ _ _ _
  have hputL : ∀ a b c x : Value, splice (cellsD d7 a b c) 258 [x] = cellsD d7 a x c := fun a b c x => cellsD_putL hd _ _ _ _
  have hputS : ∀ a b c x : Value, splice (cellsD d7 a b c) 259 [x] = cellsD d7 a b x := fun a b c x => build_s hd _ _ _ _
  have hputz : ∀ a b c : Value, splice zeroC 0 (cellsD d7 a b c) = cellsD d7 a b c := fun a b c => wdf_over zeroC_len (hl2 _ _ _)
  have hone : ∀ (a : Option Addr) (n c : Nat) (a' : Option Addr) (n' c' : Nat) (a2 : Option Addr) (n2 c2 : Nat), (cellsD d7 (.slice a n c) (.slice a' n' c') (.slice a2 n2 c2)).all oneV = true := fun _ _ _ _ _ _ _ _ _ => cellsD_one rfl rfl rfl
  have hw7 : d7.width = 2 := rfl
  refine FnT.sep ?_
  refine FnT.body tok [0, 1, 2, 3, 4, 5, 6] Tryd.func5 rfl (by kernel_rfl) (by kernel_rfl) (by show _ ≤ 57; simp) fun hsep => ?_
  rw [Tryd.results5]
  have hsE := hsep
  try simp only [zzs] at hsE
  repeat (obtain ⟨hsx, hsE⟩ := hsE)
  repeat' first
    | (with_reducible first | refine Br.yes ?_ | refine Br.no ?_ | refine Br.dec (fun _ => ?_) (fun _ => ?_) | refine Br.beqB (fun _ => ?_) (fun _ => ?_) | refine Br.beqb (fun _ => ?_) (fun _ => ?_) | refine Br.mk (fun _ => ?_) (fun _ => ?_))
    | ((with_reducible first | refine NewB.mk (fun nb hnb => ?_) | refine NewRow.mk (fun nb nsp ncap hnb hncap => ?_)); have hnb1 := hnb.1.1; have hnb2 := hnb.1.2; try simp only [zzn] at hnb2)
    | simp (dsimp := false) (implicitDefEqProofs := false) (disch := first | assumption | (simp only [zzm]; done) | omega | (with_reducible refine Row.adr (by assumption) ?_; simp only [zzk]; omega) | (simp only [zzl, Nat.reduceAdd]; first | done | omega)) only [go_sem, ↓reduceIte, Nat.reduceEqDiff, Nat.reduceAdd, Nat.reduceSub, Nat.reduceMul, Nat.reduceBEq, Nat.reduceLT, Nat.reduceLeDiff, Nat.reduceMod, Nat.reducePow, List.reduceReplicate, UInt8.reduceOfNat, Int.reducePow, Int.reduceDiv, Int.reduceMod, Nat.reduceDiv, Int.reduceNeg, Int.reduceAdd, Int.reduceSub, Int.reduceMul, Int.reduceLE, Int.reduceLT, Int.reduceEq, Int.reduceToNat, reduceCtorEq, -List.reduceReplicate, List.toList_toArray, hr1, hr2, zeroC_len, hzr, hzo, hzz, d7_u8, hofl, hoft, hofo, hb1, hb2, hl1, hl2, ht2, hputN, hputL, hputS, hputz, hone]
  rename_i b1 y1 y2 y3 c1 y4 y5 y6 c2 y7 y8 y9 c3 w1 w2 w3 c4 w4 w5 w6 c5 w7 w8 w9
  obtain ⟨b2, e20⟩ : ∃ x, x = nb := ⟨_, rfl⟩
  subst e20
  obtain ⟨D, hD⟩ : ∃ D, D = cellsD d7 (.slice (some ⟨c3, 0, none⟩) 2 2) (.slice (some ⟨c4, 0, none⟩) 2 2) (.slice (some ⟨c5, 0, none⟩) 1 1) := ⟨_, rfl⟩
  rw [← hD]
  refine FnT.pre calleeRev (Upd.go (H' := (c5, .cells [.string ⟨#[120]⟩] [] 9) :: (c4, .cells [.int .i64 0, .int .i64 1] [] 3) :: (c3, .cells [.slice (some ⟨c1, 0, none⟩) 2 2, .slice (some ⟨c2, 0, none⟩) 2 2] [] 24) :: (c2, .cells [.int .i64 0, .int .i64 1] [] 3) :: (c1, .cells [.int .i64 0, .int .i64 1] [] 3) :: (b2, .cells D [] 27) :: H) (by intro fsum; first | exact Nat.le_refl _ | (simp only [zzq]; omega)) ?_)
  refine Upd.trans (Upd.shareRow (by assumption) fun G1 hle1 hs1 r5 => ?_)
  refine Upd.trans (Upd.shareRow hs1.1.1 fun G2 hle2 hs2 r4 => ?_)
  refine Upd.trans (Upd.shareRow hs2.1.1 fun G3 hle3 hs3 r3 => ?_)
  refine Upd.trans (Upd.shareRow hs3.1.1 fun G4 hle4 hs4 r2 => ?_)
  refine Upd.shareRow hs4.1.1 fun G5 hle5 hs5 r1 => ?_
  have k4 := hle5
  have k3 := hle4.trans k4
  have k2 := hle3.trans k3
  have k1 := hle2.trans k2
  have k0 := hle1.trans k1
  have hI : IsD G5 d7 (.agg D.toArray) := by
    rw [hD]
    refine ⟨hd, fun x hx => ?_, _, _, _, rfl, ⟨some ⟨c3, 0, none⟩, 2, _, rfl, r3.mono k3, rfl, Nat.le_refl 2, fun i h h2 => ?_⟩, ⟨some ⟨c4, 0, none⟩, 2, rfl, r4.mono k2, Nat.le_refl 2⟩, ⟨some ⟨c5, 0, none⟩, 1, rfl, r5.mono k1, Nat.le_refl 1⟩⟩
    · have hx : x ∈ of7 := hx
      unfold of7 at hx
      rcases List.mem_or_eq_of_mem_set hx with h | h
      · have : x = 0 := List.eq_of_mem_replicate h
        omega
      · omega
    · have h3 : i < 2 := h
      match i, h3 with
      | 0, _ => exact ⟨_, _, rfl, r1, Nat.le_refl 2⟩
      | 1, _ => exact ⟨_, _, rfl, r2.mono k4, Nat.le_refl 2⟩
  have hDl : D.length = 260 := by rw [hD]; exact hl2 _ _ _
  have hDt : List.take 260 D = D := List.take_of_length_le (by omega)
  clear hD
  refine rev_t d7_small (by decide) hI fun G6 v6 hle6 hs6 hI6 => ?_
  rw [d7_rev] at hI6 ⊢
  have hI6 : IsD G6 r7 v6 := hI6
  obtain ⟨C6, an6, al6, ay6, cn6, cl6, cs6, rs6, rfl, O6⟩ := hI6.opened
  have hC6l := O6.len
  have hone6 := wdf_one O6.is
  have hput6 := wdf_put hC6l
  have htk6 : List.take 260 C6 = C6 := List.take_of_length_le (by omega)
  have hsE := hs6
  try simp only [zzs] at hsE
  repeat (obtain ⟨hsx, hsE⟩ := hsE)
  repeat' first
    | (with_reducible first | refine Br.yes ?_ | refine Br.no ?_ | refine Br.dec (fun _ => ?_) (fun _ => ?_) | refine Br.beqB (fun _ => ?_) (fun _ => ?_) | refine Br.beqb (fun _ => ?_) (fun _ => ?_) | refine Br.mk (fun _ => ?_) (fun _ => ?_))
    | ((with_reducible first | refine NewB.mk (fun nb hnb => ?_) | refine NewRow.mk (fun nb nsp ncap hnb hncap => ?_)); have hnb1 := hnb.1.1; have hnb2 := hnb.1.2; try simp only [zzn] at hnb2)
    | simp (dsimp := false) (implicitDefEqProofs := false) (disch := first | assumption | (simp only [zzm]; done) | omega | (with_reducible refine Row.adr (by assumption) ?_; simp only [zzk]; omega) | (simp only [zzl, Nat.reduceAdd]; first | done | omega)) only [go_sem, ↓reduceIte, Nat.reduceEqDiff, Nat.reduceAdd, Nat.reduceSub, Nat.reduceMul, Nat.reduceBEq, Nat.reduceLT, Nat.reduceLeDiff, Nat.reduceMod, Nat.reducePow, List.reduceReplicate, UInt8.reduceOfNat, Int.reducePow, Int.reduceDiv, Int.reduceMod, Nat.reduceDiv, Int.reduceNeg, Int.reduceAdd, Int.reduceSub, Int.reduceMul, Int.reduceLE, Int.reduceLT, Int.reduceEq, Int.reduceToNat, reduceCtorEq, -List.reduceReplicate, List.toList_toArray, hr1, hDl, hDt, hC6l, hone6, hput6, htk6, zeroC_len]
  obtain ⟨b3, e30⟩ : ∃ x, x = nb := ⟨_, rfl⟩
  subst e30
  refine of_t2 d7_small (by decide) (hg.mono (k0.trans hle6)) (hI.mono hle6) fun G7 v7 hle7 hs7 hI7 => ?_
  rw [d7_brz] at hI7 ⊢
  have hI7 : IsD G7 d7 v7 := hI7
  obtain ⟨C7, an7, al7, ay7, cn7, cl7, cs7, rs7, rfl, O7⟩ := hI7.opened
  have hC7l := O7.len
  have hone7 := wdf_one O7.is
  have hput7 := wdf_put hC7l
  have htk7 : List.take 260 C7 = C7 := List.take_of_length_le (by omega)
  have O67 := O6.mono hle7
  have hC6x := O6.l
  have hz1 : r7.label.length = 3 := rfl
  have hsE := hs7
  try simp only [zzs] at hsE
  repeat (obtain ⟨hsx, hsE⟩ := hsE)
  repeat' first
    | (with_reducible first | refine Br.yes ?_ | refine Br.no ?_ | refine Br.dec (fun _ => ?_) (fun _ => ?_) | refine Br.beqB (fun _ => ?_) (fun _ => ?_) | refine Br.beqb (fun _ => ?_) (fun _ => ?_) | refine Br.mk (fun _ => ?_) (fun _ => ?_))
    | ((with_reducible first | refine NewB.mk (fun nb hnb => ?_) | refine NewRow.mk (fun nb nsp ncap hnb hncap => ?_)); have hnb1 := hnb.1.1; have hnb2 := hnb.1.2; try simp only [zzn] at hnb2)
    | simp (dsimp := false) (implicitDefEqProofs := false) (disch := first | assumption | (simp only [zzm]; done) | omega | (with_reducible refine Row.adr (by assumption) ?_; simp only [zzk]; omega) | (simp only [zzl, Nat.reduceAdd]; first | done | omega)) only [go_sem, ↓reduceIte, Nat.reduceEqDiff, Nat.reduceAdd, Nat.reduceSub, Nat.reduceMul, Nat.reduceBEq, Nat.reduceLT, Nat.reduceLeDiff, Nat.reduceMod, Nat.reducePow, List.reduceReplicate, UInt8.reduceOfNat, Int.reducePow, Int.reduceDiv, Int.reduceMod, Nat.reduceDiv, Int.reduceNeg, Int.reduceAdd, Int.reduceSub, Int.reduceMul, Int.reduceLE, Int.reduceLT, Int.reduceEq, Int.reduceToNat, reduceCtorEq, -List.reduceReplicate, List.toList_toArray, hr1, hr2, hDl, hDt, hC6l, hC6x, htk6, hC7l, hone7, hput7, htk7, zeroC_len, hz1]
  obtain ⟨b5, e50⟩ : ∃ x, x = nb := ⟨_, rfl⟩
  subst e50
  refine FnT.pre calleeName27 (Upd.shareRow (by assumption) fun G8 hle8 hs8 r8 => ?_)
  refine dname_t r7_small (w := [97, 98]) (by decide) (O67.is.mono hle8) ⟨_, 2, rfl, r8, by decide⟩ ?_
  rw [r7_ab]
  have hsE := hs8
  try simp only [zzs] at hsE
  repeat (obtain ⟨hsx, hsE⟩ := hsE)
  have hq1 : (([120] : List UInt8) == [120]) = true := by decide
  have hq2 : (([] : List UInt8) == []) = true := by decide
  repeat' first
    | (with_reducible first | refine Br.yes ?_ | refine Br.no ?_ | refine Br.dec (fun _ => ?_) (fun _ => ?_) | refine Br.beqB (fun _ => ?_) (fun _ => ?_) | refine Br.beqb (fun _ => ?_) (fun _ => ?_) | refine Br.mk (fun _ => ?_) (fun _ => ?_))
    | ((with_reducible first | refine NewB.mk (fun nb hnb => ?_) | refine NewRow.mk (fun nb nsp ncap hnb hncap => ?_)); have hnb1 := hnb.1.1; have hnb2 := hnb.1.2; try simp only [zzn] at hnb2)
    | simp (dsimp := false) (implicitDefEqProofs := false) (disch := first | assumption | (simp only [zzm]; done) | omega | (with_reducible refine Row.adr (by assumption) ?_; simp only [zzk]; omega) | (simp only [zzl, Nat.reduceAdd]; first | done | omega)) only [go_sem, ↓reduceIte, Nat.reduceEqDiff, Nat.reduceAdd, Nat.reduceSub, Nat.reduceMul, Nat.reduceBEq, Nat.reduceLT, Nat.reduceLeDiff, Nat.reduceMod, Nat.reducePow, List.reduceReplicate, UInt8.reduceOfNat, Int.reducePow, Int.reduceDiv, Int.reduceMod, Nat.reduceDiv, Int.reduceNeg, Int.reduceAdd, Int.reduceSub, Int.reduceMul, Int.reduceLE, Int.reduceLT, Int.reduceEq, Int.reduceToNat, reduceCtorEq, -List.reduceReplicate, List.toList_toArray, hr1, hr2, hDl, hDt, hC6l, hC6x, htk6, hC7l, hone7, hput7, htk7, zeroC_len, hz1, hq1, hq2]
  refine FnT.pre calleeName27 (Upd.shareRow (by assumption) fun G9 hle9 hs9 r9 => ?_)
  have k89 := hle8.trans hle9
  refine dname_t r7_small (w := [98, 97]) (by decide) (O67.is.mono k89) ⟨_, 2, rfl, r9, by decide⟩ ?_
  rw [r7_ba]
  have hsE := hs9
  try simp only [zzs] at hsE
  repeat (obtain ⟨hsx, hsE⟩ := hsE)
  repeat' first
    | (with_reducible first | refine Br.yes ?_ | refine Br.no ?_ | refine Br.dec (fun _ => ?_) (fun _ => ?_) | refine Br.beqB (fun _ => ?_) (fun _ => ?_) | refine Br.beqb (fun _ => ?_) (fun _ => ?_) | refine Br.mk (fun _ => ?_) (fun _ => ?_))
    | ((with_reducible first | refine NewB.mk (fun nb hnb => ?_) | refine NewRow.mk (fun nb nsp ncap hnb hncap => ?_)); have hnb1 := hnb.1.1; have hnb2 := hnb.1.2; try simp only [zzn] at hnb2)
    | simp (dsimp := false) (implicitDefEqProofs := false) (disch := first | assumption | (simp only [zzm]; done) | omega | (with_reducible refine Row.adr (by assumption) ?_; simp only [zzk]; omega) | (simp only [zzl, Nat.reduceAdd]; first | done | omega)) only [go_sem, ↓reduceIte, Nat.reduceEqDiff, Nat.reduceAdd, Nat.reduceSub, Nat.reduceMul, Nat.reduceBEq, Nat.reduceLT, Nat.reduceLeDiff, Nat.reduceMod, Nat.reducePow, List.reduceReplicate, UInt8.reduceOfNat, Int.reducePow, Int.reduceDiv, Int.reduceMod, Nat.reduceDiv, Int.reduceNeg, Int.reduceAdd, Int.reduceSub, Int.reduceMul, Int.reduceLE, Int.reduceLT, Int.reduceEq, Int.reduceToNat, reduceCtorEq, -List.reduceReplicate, List.toList_toArray, hr1, hr2, hDl, hDt, hC6l, hC6x, htk6, hC7l, hone7, hput7, htk7, zeroC_len, hz1, hq1, hq2]
  refine dsame_t d7_small (O7.is.mono k89) (hI.mono (hle6.trans (hle7.trans k89))) ?_
  rw [boolOf_yes rfl]
  repeat' first
    | (with_reducible first | refine Br.yes ?_ | refine Br.no ?_ | refine Br.dec (fun _ => ?_) (fun _ => ?_) | refine Br.beqB (fun _ => ?_) (fun _ => ?_) | refine Br.beqb (fun _ => ?_) (fun _ => ?_) | refine Br.mk (fun _ => ?_) (fun _ => ?_))
    | ((with_reducible first | refine NewB.mk (fun nb hnb => ?_) | refine NewRow.mk (fun nb nsp ncap hnb hncap => ?_)); have hnb1 := hnb.1.1; have hnb2 := hnb.1.2; try simp only [zzn] at hnb2)
    | simp (dsimp := false) (implicitDefEqProofs := false) (disch := first | assumption | (simp only [zzm]; done) | omega | (with_reducible refine Row.adr (by assumption) ?_; simp only [zzk]; omega) | (simp only [zzl, Nat.reduceAdd]; first | done | omega)) only [go_sem, ↓reduceIte, Nat.reduceEqDiff, Nat.reduceAdd, Nat.reduceSub, Nat.reduceMul, Nat.reduceBEq, Nat.reduceLT, Nat.reduceLeDiff, Nat.reduceMod, Nat.reducePow, List.reduceReplicate, UInt8.reduceOfNat, Int.reducePow, Int.reduceDiv, Int.reduceMod, Nat.reduceDiv, Int.reduceNeg, Int.reduceAdd, Int.reduceSub, Int.reduceMul, Int.reduceLE, Int.reduceLT, Int.reduceEq, Int.reduceToNat, reduceCtorEq, -List.reduceReplicate, List.toList_toArray, hr1, hr2, hDl, hDt, hC6l, hC6x, htk6, hC7l, hone7, hput7, htk7, zeroC_len, hz1, hq1, hq2]
  unfold UpdR
  refine Upd.leave (H' := H) (by intro fsum; simp only [zzq]; omega) ?_
  exact fun _ hs => hR G9 (k0.trans (hle6.trans (hle7.trans k89))) hs
end Go.Proofs.YtefkpedhbijhkaaDoor
namespace Go.Proofs.YtefkpedhbijhkaaDoor
open Go Go.V Go.Proofs
set_option maxHeartbeats 32000000 in
theorem brzoTells_t {d : DfaT} (hsm : SmallD d) {w : List UInt8} (hwl : w.length ≤ 2000000) {G : PHeap} {H : Heap} {R : Value → PHeap → Heap → Prop} {v vw : Value} (hg : HasTab G) (hv : IsD G d v) (hw : Sl G byteV vw w)
    (hR : ∀ G', PLe G G' → R (.bool true) G' H) : FnT Tryd.prog 3 [v, vw] G H R := by
  obtain ⟨C, an, al, ay, cn, cl, cs, rs, rfl, O⟩ := hv.opened
  have hw0 := hw
  obtain ⟨aw, cw, rfl, hwr, hwc⟩ := hw
  have hCl := O.len
  have hCa := O.all
  cases hb24 : right24 d 60 with
  | false =>
    refine FnT.body tok [0, 1, 2, 4, 5, 6, 9, 17] Tryd.func3 rfl (by kernel_rfl) (by kernel_rfl) (by show _ ≤ 38; simp) fun hsep => ?_
    rw [Tryd.results3]
    have hsE := hsep
    try simp only [zzs] at hsE
    repeat (obtain ⟨hsx, hsE⟩ := hsE)
    repeat' first
      | (with_reducible first | refine Br.yes ?_ | refine Br.no ?_ | refine Br.dec (fun _ => ?_) (fun _ => ?_) | refine Br.beqB (fun _ => ?_) (fun _ => ?_) | refine Br.beqb (fun _ => ?_) (fun _ => ?_) | refine Br.mk (fun _ => ?_) (fun _ => ?_))
      | ((with_reducible first | refine NewB.mk (fun nb hnb => ?_)); have hnb1 := hnb.1.1; have hnb2 := hnb.1.2; try simp only [zzn] at hnb2)
      | simp (dsimp := false) (implicitDefEqProofs := false) (disch := first | assumption | (simp only [zzm]; done) | omega | (with_reducible refine Row.adr (by assumption) ?_; simp only [zzk]; omega) | (simp only [zzl, Nat.reduceAdd]; first | done | omega)) only [go_sem, ↓reduceIte, Nat.reduceEqDiff, Nat.reduceAdd, Nat.reduceSub, Nat.reduceMul, Nat.reduceBEq, Nat.reduceLT, Nat.reduceLeDiff, Nat.reduceMod, Nat.reducePow, List.reduceReplicate, UInt8.reduceOfNat, Int.reducePow, Int.reduceDiv, Int.reduceMod, Nat.reduceDiv, Int.reduceNeg, Int.reduceAdd, Int.reduceSub, Int.reduceMul, Int.reduceLE, Int.reduceLT, Int.reduceEq, Int.reduceToNat, reduceCtorEq, -List.reduceReplicate, List.toList_toArray, hCl, hCa]
    refine right24_t hsm O.is fun G1 hle1 hs1 => ?_
    rw [hb24]
    have hsE := hs1
    try simp only [zzs] at hsE
    repeat (obtain ⟨hsx, hsE⟩ := hsE)
    have hg1 := hg.mono hle1
    repeat' first
      | (with_reducible first | refine Br.yes ?_ | refine Br.no ?_ | refine Br.dec (fun _ => ?_) (fun _ => ?_) | refine Br.beqB (fun _ => ?_) (fun _ => ?_) | refine Br.beqb (fun _ => ?_) (fun _ => ?_) | refine Br.mk (fun _ => ?_) (fun _ => ?_))
      | ((with_reducible first | refine NewB.mk (fun nb hnb => ?_)); have hnb1 := hnb.1.1; have hnb2 := hnb.1.2; try simp only [zzn] at hnb2)
      | simp (dsimp := false) (implicitDefEqProofs := false) (disch := first | assumption | (simp only [zzm]; done) | omega | (with_reducible refine Row.adr (by assumption) ?_; simp only [zzk]; omega) | (simp only [zzl, Nat.reduceAdd]; first | done | omega)) only [go_sem, ↓reduceIte, Nat.reduceEqDiff, Nat.reduceAdd, Nat.reduceSub, Nat.reduceMul, Nat.reduceBEq, Nat.reduceLT, Nat.reduceLeDiff, Nat.reduceMod, Nat.reducePow, List.reduceReplicate, UInt8.reduceOfNat, Int.reducePow, Int.reduceDiv, Int.reduceMod, Nat.reduceDiv, Int.reduceNeg, Int.reduceAdd, Int.reduceSub, Int.reduceMul, Int.reduceLE, Int.reduceLT, Int.reduceEq, Int.reduceToNat, reduceCtorEq, -List.reduceReplicate, List.toList_toArray, hCl, hCa]
      | ((with_reducible refine knows_t hg1 fun G7 hle7 hs7 => ?_); (have hsE := hs7; try simp only [zzs] at hsE; repeat (obtain ⟨hsx, hsE⟩ := hsE)))
    all_goals refine Upd.finL ?_ (hR G7 (hle1.trans hle7)) ?_
    any_goals (intro fsum; first | exact Nat.le_refl _ | (simp only [zzq]; omega))
    all_goals rfl
  | true =>
    obtain ⟨hok, hn⟩ : RightP d ∧ (d.label.length : Int) ≤ 60 := by
      unfold right24 at hb24
      rw [Bool.and_eq_true] at hb24
      refine ⟨?_, of_decide_eq_true hb24.2⟩
      exact Classical.byContradiction fun h => by rw [boolOf_no h] at hb24; cases hb24.1
    have hm : (-9223372036854775808 : Int) ≤ 500 ∧ (500 : Int) < 9223372036854775808 := by decide
    have h5 : (1 : Int) ≤ 500 ∧ (500 : Int) ≤ 65536 := by decide
    have hN : (500 : Int).toNat = 500 := rfl
    refine FnT.body tok [0, 1, 2, 4, 5, 6, 9, 17] Tryd.func3 rfl (by kernel_rfl) (by kernel_rfl) (by show _ ≤ 38; simp) fun hsep => ?_
    rw [Tryd.results3]
    have hsE := hsep
    try simp only [zzs] at hsE
    repeat (obtain ⟨hsx, hsE⟩ := hsE)
    repeat' first
      | (with_reducible first | refine Br.yes ?_ | refine Br.no ?_ | refine Br.dec (fun _ => ?_) (fun _ => ?_) | refine Br.beqB (fun _ => ?_) (fun _ => ?_) | refine Br.beqb (fun _ => ?_) (fun _ => ?_) | refine Br.mk (fun _ => ?_) (fun _ => ?_))
      | ((with_reducible first | refine NewB.mk (fun nb hnb => ?_)); have hnb1 := hnb.1.1; have hnb2 := hnb.1.2; try simp only [zzn] at hnb2)
      | simp (dsimp := false) (implicitDefEqProofs := false) (disch := first | assumption | (simp only [zzm]; done) | omega | (with_reducible refine Row.adr (by assumption) ?_; simp only [zzk]; omega) | (simp only [zzl, Nat.reduceAdd]; first | done | omega)) only [go_sem, ↓reduceIte, Nat.reduceEqDiff, Nat.reduceAdd, Nat.reduceSub, Nat.reduceMul, Nat.reduceBEq, Nat.reduceLT, Nat.reduceLeDiff, Nat.reduceMod, Nat.reducePow, List.reduceReplicate, UInt8.reduceOfNat, Int.reducePow, Int.reduceDiv, Int.reduceMod, Nat.reduceDiv, Int.reduceNeg, Int.reduceAdd, Int.reduceSub, Int.reduceMul, Int.reduceLE, Int.reduceLT, Int.reduceEq, Int.reduceToNat, reduceCtorEq, -List.reduceReplicate, List.toList_toArray, hCl, hCa]
    refine right24_t hsm O.is fun G1 hle1 hs1 => ?_
    rw [hb24]
    have hsE := hs1
    try simp only [zzs] at hsE
    repeat (obtain ⟨hsx, hsE⟩ := hsE)
    repeat' first
      | (with_reducible first | refine Br.yes ?_ | refine Br.no ?_ | refine Br.dec (fun _ => ?_) (fun _ => ?_) | refine Br.beqB (fun _ => ?_) (fun _ => ?_) | refine Br.beqb (fun _ => ?_) (fun _ => ?_) | refine Br.mk (fun _ => ?_) (fun _ => ?_))
      | ((with_reducible first | refine NewB.mk (fun nb hnb => ?_)); have hnb1 := hnb.1.1; have hnb2 := hnb.1.2; try simp only [zzn] at hnb2)
      | simp (dsimp := false) (implicitDefEqProofs := false) (disch := first | assumption | (simp only [zzm]; done) | omega | (with_reducible refine Row.adr (by assumption) ?_; simp only [zzk]; omega) | (simp only [zzl, Nat.reduceAdd]; first | done | omega)) only [go_sem, ↓reduceIte, Nat.reduceEqDiff, Nat.reduceAdd, Nat.reduceSub, Nat.reduceMul, Nat.reduceBEq, Nat.reduceLT, Nat.reduceLeDiff, Nat.reduceMod, Nat.reducePow, List.reduceReplicate, UInt8.reduceOfNat, Int.reducePow, Int.reduceDiv, Int.reduceMod, Nat.reduceDiv, Int.reduceNeg, Int.reduceAdd, Int.reduceSub, Int.reduceMul, Int.reduceLE, Int.reduceLT, Int.reduceEq, Int.reduceToNat, reduceCtorEq, -List.reduceReplicate, List.toList_toArray, hCl, hCa]
    obtain ⟨b2, e20⟩ : ∃ x, x = nb := ⟨_, rfl⟩
    subst e20
    refine rev_t hsm hm (O.is.mono hle1) fun G2 v2 hle2 hs2 hI2 => ?_
    cases ht : (turnR d 500).2 with
    | false =>
      have he : revR d 500 = (zeroD, 7) := revR_big hok h5 (by rw [hN]; exact ht)
      rw [he] at hI2 ⊢
      obtain ⟨C2, an2, al2, ay2, cn2, cl2, cs2, rs2, rfl, O2⟩ := hI2.opened
      have hC2l := O2.len
      have hone2 := wdf_one O2.is
      have hput2 := wdf_put hC2l
      have hsE := hs2
      try simp only [zzs] at hsE
      repeat (obtain ⟨hsx, hsE⟩ := hsE)
      have hg2 := hg.mono (hle1.trans hle2)
      repeat' first
        | (with_reducible first | refine Br.yes ?_ | refine Br.no ?_ | refine Br.dec (fun _ => ?_) (fun _ => ?_) | refine Br.beqB (fun _ => ?_) (fun _ => ?_) | refine Br.beqb (fun _ => ?_) (fun _ => ?_) | refine Br.mk (fun _ => ?_) (fun _ => ?_))
        | ((with_reducible first | refine NewB.mk (fun nb hnb => ?_)); have hnb1 := hnb.1.1; have hnb2 := hnb.1.2; try simp only [zzn] at hnb2)
        | simp (dsimp := false) (implicitDefEqProofs := false) (disch := first | assumption | (simp only [zzm]; done) | omega | (with_reducible refine Row.adr (by assumption) ?_; simp only [zzk]; omega) | (simp only [zzl, Nat.reduceAdd]; first | done | omega)) only [go_sem, ↓reduceIte, Nat.reduceEqDiff, Nat.reduceAdd, Nat.reduceSub, Nat.reduceMul, Nat.reduceBEq, Nat.reduceLT, Nat.reduceLeDiff, Nat.reduceMod, Nat.reducePow, List.reduceReplicate, UInt8.reduceOfNat, Int.reducePow, Int.reduceDiv, Int.reduceMod, Nat.reduceDiv, Int.reduceNeg, Int.reduceAdd, Int.reduceSub, Int.reduceMul, Int.reduceLE, Int.reduceLT, Int.reduceEq, Int.reduceToNat, reduceCtorEq, -List.reduceReplicate, List.toList_toArray, hCl, hCa, hC2l, hone2, hput2, zeroC_len]
        | ((with_reducible refine knows_t hg2 fun G7 hle7 hs7 => ?_); (have hsE := hs7; try simp only [zzs] at hsE; repeat (obtain ⟨hsx, hsE⟩ := hsE)))
      all_goals refine Upd.finL ?_ (hR G7 (hle1.trans (hle2.trans hle7))) ?_
      any_goals (intro fsum; first | exact Nat.le_refl _ | (simp only [zzq]; omega))
      all_goals rfl
    | true =>
      have he : revR d 500 = ((turnR d 500).1, 0) := by
        have h := revR_ok (most := 500) hok h5 (by rw [hN]; exact ht)
        rw [hN] at h
        exact h
      obtain ⟨hl, ht1, hr2, hs2', hof2⟩ := turnR_fine hok O.ofl hsm (show 500 ≤ 65536 by omega) ht
      have hname := turn_name hok O.ofl (show 500 ≤ 65536 by omega) hl w
      rw [← ht1] at hname
      obtain ⟨T2, hT2⟩ : ∃ T2, T2 = (turnR d 500).1 := ⟨_, rfl⟩
      rw [← hT2] at he hr2 hs2' hname
      rw [he] at hI2 ⊢
      have hI2 : IsD G2 T2 v2 := hI2
      obtain ⟨C2, an2, al2, ay2, cn2, cl2, cs2, rs2, rfl, O2⟩ := hI2.opened
      have hC2l := O2.len
      have hone2 := wdf_one O2.is
      have hput2 := wdf_put hC2l
      have htk2 : List.take 260 C2 = C2 := List.take_of_length_le (by omega)
      have hb2 := boolOf_yes hr2
      have hxx : (nameD d (tellB d w) == nameD d (tellB d w)) = true := by simp
      have hrl : w.reverse.length ≤ 2000000 := by rw [List.length_reverse]; exact hwl
      have hsE := hs2
      try simp only [zzs] at hsE
      repeat (obtain ⟨hsx, hsE⟩ := hsE)
      repeat' first
        | (with_reducible first | refine Br.yes ?_ | refine Br.no ?_ | refine Br.dec (fun _ => ?_) (fun _ => ?_) | refine Br.beqB (fun _ => ?_) (fun _ => ?_) | refine Br.beqb (fun _ => ?_) (fun _ => ?_) | refine Br.mk (fun _ => ?_) (fun _ => ?_))
        | ((with_reducible first | refine NewB.mk (fun nb hnb => ?_)); have hnb1 := hnb.1.1; have hnb2 := hnb.1.2; try simp only [zzn] at hnb2)
        | simp (dsimp := false) (implicitDefEqProofs := false) (disch := first | assumption | (simp only [zzm]; done) | omega | (with_reducible refine Row.adr (by assumption) ?_; simp only [zzk]; omega) | (simp only [zzl, Nat.reduceAdd]; first | done | omega)) only [go_sem, ↓reduceIte, Nat.reduceEqDiff, Nat.reduceAdd, Nat.reduceSub, Nat.reduceMul, Nat.reduceBEq, Nat.reduceLT, Nat.reduceLeDiff, Nat.reduceMod, Nat.reducePow, List.reduceReplicate, UInt8.reduceOfNat, Int.reducePow, Int.reduceDiv, Int.reduceMod, Nat.reduceDiv, Int.reduceNeg, Int.reduceAdd, Int.reduceSub, Int.reduceMul, Int.reduceLE, Int.reduceLT, Int.reduceEq, Int.reduceToNat, reduceCtorEq, -List.reduceReplicate, List.toList_toArray, hCl, hCa, hC2l, hone2, hput2, htk2, zeroC_len, hb2, hname, hxx]
        | with_reducible refine Tri.drawS tok mixed [0, 1, 2, 4, 5, 6, 9, 17] 6 [0] (.op 0 .held (.op 1 .plain (.op 2 .plain (.op 4 .plain (.op 8 .plain (.both (.op 3 .keeps (.both (.op 5 .keeps (.both (.op 6 .keeps (.op 7 .keeps (.op 9 .keeps (.op 10 .plain (.op 11 .plain (.op 12 .plain (.op 13 .keeps (.op 14 .plain (.op 15 .plain .nil))))))))) (.op 7 .keeps (.op 6 .keeps (.op 9 .keeps (.op 10 .plain (.op 11 .plain (.op 12 .plain (.op 13 .keeps (.op 14 .plain (.op 15 .plain .nil))))))))))) (.op 7 .keeps (.op 5 .keeps (.op 6 .keeps (.op 9 .keeps (.op 10 .plain (.op 11 .plain (.op 12 .plain (.op 13 .keeps (.op 14 .plain (.op 15 .plain .nil)))))))))))) (.both (.op 5 .keeps (.both (.op 3 .keeps (.both (.op 6 .keeps (.op 7 .keeps (.op 9 .keeps (.op 10 .plain (.op 11 .plain (.op 12 .plain (.op 13 .keeps (.op 14 .plain (.op 15 .plain .nil))))))))) (.op 7 .keeps (.op 6 .keeps (.op 9 .keeps (.op 10 .plain (.op 11 .plain (.op 12 .plain (.op 13 .keeps (.op 14 .plain (.op 15 .plain .nil))))))))))) (.op 7 .keeps (.op 3 .keeps (.op 6 .keeps (.op 9 .keeps (.op 10 .plain (.op 11 .plain (.op 12 .plain (.op 13 .keeps (.op 14 .plain (.op 15 .plain .nil)))))))))))) (.op 7 .keeps (.both (.op 3 .keeps (.op 5 .keeps (.op 6 .keeps (.op 9 .keeps (.op 10 .plain (.op 11 .plain (.op 12 .plain (.op 13 .keeps (.op 14 .plain (.op 15 .plain .nil)))))))))) (.op 5 .keeps (.op 3 .keeps (.op 6 .keeps (.op 9 .keeps (.op 10 .plain (.op 11 .plain (.op 12 .plain (.op 13 .keeps (.op 14 .plain (.op 15 .plain .nil))))))))))))))))))) (by kernel_rfl) [(nb, .cells C2 [] 27)] (by intro fsum; first | exact Nat.le_refl _ | (simp only [zzq]; omega)) ?_
        | with_reducible refine And.intro ?_ ?_
        | with_reducible refine right_t hs2' O2.is ?_
        | ((with_reducible refine word_t hwl (hw0.mono (hle1.trans hle2)) fun G3 v3 hle3 hs3 hI3 => ?_); (have hsE := hs3; try simp only [zzs] at hsE; repeat (obtain ⟨hsx, hsE⟩ := hsE)); obtain ⟨a3, c3, rfl, hr3, hc3⟩ := id hI3)
        | with_reducible refine dname_t hs2' hrl (O2.is.mono hle3) hI3 ?_
        | with_reducible refine dname_t hsm hwl (O.is.mono (hle1.trans (hle2.trans hle3))) (hw0.mono (hle1.trans (hle2.trans hle3))) ?_
        | ((with_reducible refine knows_t (hg.mono (hle1.trans (hle2.trans hle3))) fun G7 hle7 hs7 => ?_); (have hsE := hs7; try simp only [zzs] at hsE; repeat (obtain ⟨hsx, hsE⟩ := hsE)))
      all_goals
        unfold UpdR
        refine Upd.leave (H' := H) (by intro fsum; simp only [zzq]; omega) ?_
        exact hR G7 (hle1.trans (hle2.trans (hle3.trans hle7)))
end Go.Proofs.YtefkpedhbijhkaaDoor
namespace Go.Proofs.YtefkpedhbijhkaaDoor.lawBrzoTells
open Go Go.V Go.Proofs Go.ChangeShapes Go.WideShapes Go.RowKit
theorem own : ownKnob Tryd.prog.godebug = none := by kernel_rfl
theorem gTab : Tryd.prog.globalNamed "math/bits.deBruijn64tab" = some 0 := by kernel_rfl
theorem gTabType : (Tryd.prog.globals[0]?).map (·.type) = some 140 := by kernel_rfl
theorem cellsT : Tryd.prog.cellsOf 140 = 64 := by kernel_rfl
theorem cellsE : Tryd.prog.cellsOf 5 = 1 := by kernel_rfl
def tabZ : List Int := [0, 1, 56, 2, 57, 49, 28, 3, 61, 58, 42, 50, 38, 29, 17, 4, 62, 47, 59, 36, 45, 43, 51, 22, 53, 39, 33, 30, 24, 18, 12, 5, 63, 55, 48, 27, 60, 41, 37, 16, 46, 35, 44, 21, 52, 32, 23, 11, 54, 26, 40, 15, 34, 20, 31, 10, 25, 14, 19, 9, 13, 8, 7, 6]
/-- what the row's list gives: the table's cells -/
theorem table {W : World} (h : laidMetH Tryd.prog Rows.brzoTellsUptoRow.laid W) : Lib.TabIs Tryd.prog W "math/bits.deBruijn64tab" .u8 tabZ :=
  Lib.tabIs_of_head (rest := []) gTab gTabType Tryd.underlying140 Tryd.underlying5 cellsE cellsT h
theorem tabRow {W : World} (h : laidMetH Tryd.prog Rows.brzoTellsUptoRow.laid W) : RowAt (fun b => W.heap[b]?) 0 0 (tabZ.map (Value.int .u8)) :=
  CellsAt.rowAt (W := W) (fun j hj => by
    rw [List.length_map] at hj
    have := (table h).cell gTab j hj
    rw [Nat.zero_add, List.getElem_map, this]
    simp [List.getD, hj]) (by decide)
mutual
theorem bulk {H : Type} : ∀ d : DataW H, bulkV d ≤ Rows.uptoBulk d
  | .lit l => by cases l <;> simp [bulkV, Rows.uptoBulk]
  | .nil => by simp [bulkV, Rows.uptoBulk]
  | .ptr d => by have := bulk d; simp only [bulkV, Rows.uptoBulk]; omega
  | .slice elems spare => by have := bulks elems; have := bulks spare; simp only [bulkV, Rows.uptoBulk]; omega
  | .agg parts => by have := bulks parts; simp only [bulkV, Rows.uptoBulk]; omega
  | .iface _ d => by have := bulk d; simp only [bulkV, Rows.uptoBulk]; omega
  | .map entries => by simp [bulkV]
  | .held _ => by simp [bulkV, Rows.uptoBulk]
theorem bulks {H : Type} : ∀ l : List (DataW H), bulkVs l ≤ Rows.uptoBulkAll l
  | [] => by simp [bulkVs]
  | d :: l => by have := bulk d; have := bulks l; simp only [bulkVs, Rows.uptoBulkAll]; omega
end
set_option maxRecDepth 100000 in
theorem contract (H : Type) (enc : TypeId × Value → H) (W : World) (base : Nat) (args : Array Value) (ds gs : List (DataW H)) (before : List MemPlace)
    (hval : ∀ (j : Nat) t v, Tryd.f3.params[j]? = some t → args[j]? = some v → Value.okWide Tryd.prog W .any base t v)
    (hW : DataW.Whole enc Tryd.prog Tryd.f3.params.toList Rows.brzoTellsSpec.vars false W args.toList ds gs before) (hk : Rows.uptoSmall H (ds ++ gs) = true) (hL : laidMetH Tryd.prog Rows.brzoTellsUptoRow.laid W) :
    Calls Tryd.prog 3 args W fun e W' => ∃ v, e = .returned v ∧ Rows.brzoTellsSpec.post enc Tryd.prog Tryd.f3 false true false false W args v W' := by
  refine door (tb := 4) seatok ⟨_, _, Tryd.func3, rfl, by kernel_rfl⟩ rfl (by kernel_rfl) Tryd.underlying4 (fun t ht => ?_) (fun ds hd => ?_) hW ?_
  · have := List.all_eq_true.1 (show (Tryd.f3.params.toList.all fun t => decide (t < Tryd.prog.types.size)) = true by kernel_rfl) t ht
    simpa using this
  · rw [Tryd.params3] at hd
    rcases ds with _ | ⟨e0, _ | ⟨e1, _ | ⟨e9, ds⟩⟩⟩ <;> first | rfl | (simp at hd)
  obtain ⟨p, q, hA, hV, rfl, hfz, hnd⟩ := hW
  rw [Tryd.params3] at hA hval
  obtain ⟨v0, vs0, d0, ds0, p0, q0, hargs0, rfl, rfl, h0, r_0⟩ := trodAll_cons hA
  obtain ⟨v1, vs1, d1, ds1, p1, q1, hargs1, rfl, rfl, h1, r_1⟩ := trodAll_cons r_0
  obtain ⟨rfl, rfl, rfl⟩ := trodAll_nil r_1
  obtain rfl : args = #[v0, v1] := by cases args; simp_all
  obtain ⟨rfl, rfl⟩ := trodVars_none hV
  have hb : bulkVs [d0, d1] ≤ 1048576 := Nat.le_trans (bulks _) (of_decide_eq_true hk)
  simp only [bulkVs] at hb
  have htab := tabRow hL
  obtain ⟨a0, s0, w0⟩ := rd_dfa (hval 0 27 v0 rfl rfl) h0
  obtain ⟨a1, s1, w1⟩ := rd_bytes tok (t := 28) rfl (e := 5) rfl (by kernel_rfl) (hval 1 28 v1 rfl rfl) h1
  exact brzoTells_t (w0 (by omega)) (by omega) htab s0 s1 fun _ _ => rfl
/-- a world for the witness: the table holds what its initialiser lays -/
noncomputable def laidWorld (os : Os) : World :=
  { World.holding Tryd.prog os ⟨#[], #[], []⟩ with heap := (World.holding Tryd.prog os ⟨#[], #[], []⟩).heap.modify 0 fun
      | .cells _ t frozen => .cells #[.int .u8 0, .int .u8 1, .int .u8 56, .int .u8 2, .int .u8 57, .int .u8 49, .int .u8 28, .int .u8 3, .int .u8 61, .int .u8 58, .int .u8 42, .int .u8 50, .int .u8 38, .int .u8 29, .int .u8 17, .int .u8 4, .int .u8 62, .int .u8 47, .int .u8 59, .int .u8 36, .int .u8 45, .int .u8 43, .int .u8 51, .int .u8 22, .int .u8 53, .int .u8 39, .int .u8 33, .int .u8 30, .int .u8 24, .int .u8 18, .int .u8 12, .int .u8 5, .int .u8 63, .int .u8 55, .int .u8 48, .int .u8 27, .int .u8 60, .int .u8 41, .int .u8 37, .int .u8 16, .int .u8 46, .int .u8 35, .int .u8 44, .int .u8 21, .int .u8 52, .int .u8 32, .int .u8 23, .int .u8 11, .int .u8 54, .int .u8 26, .int .u8 40, .int .u8 15, .int .u8 34, .int .u8 20, .int .u8 31, .int .u8 10, .int .u8 25, .int .u8 14, .int .u8 19, .int .u8 9, .int .u8 13, .int .u8 8, .int .u8 7, .int .u8 6] t frozen
      | o => o }
theorem laid_met (os : Os) : laidMet Tryd.prog Rows.brzoTellsUptoRow.laid ((laidWorld os).forCall (fun _ _ => 0) ⟨#[], #[.agg (List.replicate 256 (Value.int .u8 0) ++ [Value.int .i64 0, Value.slice none 0 0, Value.slice none 0 0, Value.slice none 0 0]).toArray, .slice none 0 0], []⟩).memory :=
  laidMet_of_run' 8 (by kernel_rfl) (by kernel_rfl)
theorem reads (os : Os) {H : Type} (enc : TypeId × Value → H) : ∃ places, DataW.whole enc Tryd.prog ((laidWorld os).forCall (fun _ _ => 0) ⟨#[], #[.agg (List.replicate 256 (Value.int .u8 0) ++ [Value.int .i64 0, Value.slice none 0 0, Value.slice none 0 0, Value.slice none 0 0]).toArray, .slice none 0 0], []⟩).memory Tryd.f3.params.toList Rows.brzoTellsSpec.vars false (#[.agg (List.replicate 256 (Value.int .u8 0) ++ [Value.int .i64 0, Value.slice none 0 0, Value.slice none 0 0, Value.slice none 0 0]).toArray, Value.slice none 0 0] : Array Value).toList 8 = some ([.agg [.agg (List.replicate 256 (.lit (.int .u8 0))), .lit (.int .i64 0), .nil, .nil, .nil], .nil], [], places) :=
  ⟨[], by kernel_rfl⟩
set_option maxRecDepth 100000 in
theorem lifted (os : Os) (started : os.Started) (H : Type) (enc : TypeId × Value → H) (F : Stop.Interp) :
    ReturnsInHanded {} Tryd.checked os 3 .any ((Rows.OpenSpec.upto Rows.brzoTellsSpec).preRow enc Tryd.prog Tryd.f3 Rows.brzoTellsUptoRow.domain false Rows.brzoTellsUptoRow.laid) (((Rows.OpenSpec.upto Rows.brzoTellsSpec).at F).post enc Tryd.prog Tryd.f3 false true false false) := by
  obtain ⟨places, hx⟩ := reads os enc
  refine returnsInHanded_of_row (C := Tryd.checked) (s := Rows.OpenSpec.upto Rows.brzoTellsSpec) own started (by kernel_rfl) Tryd.func3
    (witness_row_at (enc := enc) (C := Tryd.checked) false (laidWorld os) #[.agg (List.replicate 256 (Value.int .u8 0) ++ [Value.int .i64 0, Value.slice none 0 0, Value.slice none 0 0, Value.slice none 0 0]).toArray, .slice none 0 0] rfl (by kernel_rfl) (by kernel_rfl) (by kernel_rfl)
      (OpenSpec.preRow_of_cond 8 hx (by kernel_rfl) (fun k hk => by cases hk; kernel_rfl) (by kernel_rfl) (laid_met os))) ?_
  intro W base args ds gs before hval hW _ hcond _ hL _ _
  exact contract H enc W base args ds gs before hval hW (hcond _ rfl) hL
theorem over : Rows.BrzoTellsUptoSaid :=
  OpenClaim.holds_of_cond 3 Tryd.f3 rfl rfl rfl rfl rfl rfl rfl ⟨rfl, rfl, rfl, rfl, rfl⟩ rfl rfl rfl rfl rfl (by kernel_rfl) Tryd.func3 (by kernel_rfl)
    (of_decide_eq_true (by kernel_rfl)) (by unfold Func.isWrapper; first | (rw [if_pos (by decide +kernel)]; kernel_rfl) | (rw [if_neg (by decide +kernel)]; exact ⟨rfl, rfl⟩))
    (fun os started H enc _ F => by rw [OpenClaim.pre_eq_preRow]; exact lifted os started H enc F)
/-- no parameter wants a stand-in; the program's own looks are off -/
theorem plain (f : FuncId) (fn : Func) (hf : Tryd.pinned.checked.prog.funcNamed "doublet/doubletlaw27.BrzoTells" = some f) (hfn : Tryd.pinned.checked.prog.funcs[f]? = some fn) :
    false = Tryd.pinned.checked.prog.looks [] ∧ ∀ (j : Nat) t, fn.params[j]? = some t → Tryd.pinned.checked.prog.wantsStandIn t = false := by
  obtain rfl : f = 3 := Option.some.inj ((show Tryd.prog.funcNamed "doublet/doubletlaw27.BrzoTells" = some 3 by kernel_rfl).symm.trans hf) |>.symm
  obtain rfl : fn = Tryd.f3 := (Option.some.inj (Tryd.func3.symm.trans hfn)).symm
  refine ⟨by kernel_rfl, fun j t ht => ?_⟩
  rw [Tryd.params3] at ht
  have hm := Array.mem_of_getElem? ht
  simp only [List.mem_toArray, List.mem_cons, List.not_mem_nil, or_false] at hm
  rcases hm with rfl | rfl
  · exact (show Tryd.prog.wantsStandIn 27 = false by kernel_rfl)
  · exact (show Tryd.prog.wantsStandIn 28 = false by kernel_rfl)
theorem proved : Rows.BrzoTellsUptoCardSaid :=
  Claim7.holds_tied_plain_at .later [] _ _ _ _ over (fun _ h => by cases h) (by kernel_rfl) (fun _ h => by cases h) brzoTellsUpto_row_tie rfl ⟨rfl, rfl⟩ (by kernel_rfl) rfl plain (by kernel_rfl)
end Go.Proofs.YtefkpedhbijhkaaDoor.lawBrzoTells
