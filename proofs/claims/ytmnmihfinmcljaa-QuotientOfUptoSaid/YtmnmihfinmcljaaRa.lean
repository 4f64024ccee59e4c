/- Can states be put together, as the document has it: contracts. -/
import Derived.Test.YtmnmihfinmcljaaUf
import Derived.Test.YtmnmihfinmcljaaSs
set_option linter.unusedSimpArgs false
set_option linter.unusedVariables false
namespace Go.Proofs.Ytmnmihfinmcljaa
open Go Go.V Go.Proofs

theorem atL_iff {m : List Int} {x y : Int} (hx : 0 ≤ x ∧ x < m.length) (hy : 0 ≤ y ∧ y < m.length) : atL (nums m) x = atL (nums m) y ↔ atL m x = atL m y := by
  have hnl := nums_len m
  have h1 : x.toNat < m.length := by omega
  have h2 : y.toNat < m.length := by omega
  rw [atL_get (by omega), atL_get (by omega), atL_get h1, atL_get h2]
  exact nums_iff h1 h2
set_option maxHeartbeats 32000000 in
theorem rstable_t {d : DfaT} (hsm : SmallD d) {m : List Int} (hml : m.length ≤ 2000000) {G : PHeap} {H : Heap} {R : Value → PHeap → Heap → Prop} {v w : Value} (hv : IsD G d v) (hw : Sl G (Value.int .i64) w m)
    (hR : ∀ G', PLe G G' → Sep G' (keys H) → R (.bool (boolOf (StableP d m))) G' H) : FnT Try.prog 10 [v, w] G H R := by
  obtain ⟨C, an, al, ay, cn, cl, cs, rs, rfl, O⟩ := hv.opened
  obtain ⟨hm1, hm2, hm3, hm4, hm5⟩ := id hsm
  have hCl := O.len
  have hCw := O.w
  have hCn := O.n
  have hCx := O.l
  have hCa := O.all
  have hw0 := hw
  obtain ⟨a, cap, rfl, hrow, hcap⟩ := hw
  refine FnT.sep ?_
  refine FnT.body tok [0, 1, 2, 4, 5, 6, 7, 18, 22, 41, 45, 70] Try.func10 rfl (by kernel_rfl) (by kernel_rfl) (by show _ ≤ 71; simp) fun hsep => ?_
  rw [Try.results10]
  have hsE := hsep
  try simp only [keys_cons, keys_app, keys_nil, Sep_cons, Sep_nil, NotIn_cons, NotIn_app, NotIn_nil, List.cons_append, List.nil_append, List.append_assoc, and_assoc, and_true, true_and] at hsE
  repeat (obtain ⟨hsx, hsE⟩ := hsE)
  repeat' first
    | with_reducible refine Br.yes ?_
    | with_reducible refine Br.no ?_
    | with_reducible refine Br.dec (fun _ => ?_) (fun _ => ?_)
    | with_reducible refine Br.beqB (fun _ => ?_) (fun _ => ?_)
    | with_reducible refine Br.beqb (fun _ => ?_) (fun _ => ?_)
    | with_reducible refine Br.mk (fun _ => ?_) (fun _ => ?_)
    | with_reducible refine foundO.mk (fun _ _ => ?_) (fun _ => ?_)
    | with_reducible refine appV.zero ?_
    | with_reducible refine appV.own ?_
    | ((with_reducible refine NewB.mk fun nb hnb => ?_); have hnb1 := hnb.1.1; have hnb2 := hnb.1.2; try simp only [keys_cons, keys_app, keys_nil, NotIn_cons, NotIn_app, NotIn_nil, and_true] at hnb2)
    | ((with_reducible refine NewRow.mk fun nb nsp ncap hnb hncap => ?_); have hnb1 := hnb.1.1; have hnb2 := hnb.1.2; try simp only [keys_cons, keys_app, keys_nil, NotIn_cons, NotIn_app, NotIn_nil, and_true] at hnb2)
    | simp (dsimp := false) (implicitDefEqProofs := false) (disch := first | assumption | (simp only [List.mem_cons, List.mem_append, true_or, or_true, eq_self]; done) | omega | (with_reducible refine Row.adr (by assumption) ?_; simp only [List.length_map, List.length_take, List.length_drop]; omega) | (simp only [List.length_cons, List.length_nil, List.length_map, List.length_append, List.length_replicate, Nat.reduceAdd, true_and, and_true, and_self]; first | done | omega)) only [go_sem, ↓reduceIte, Nat.reduceEqDiff, Nat.reduceAdd, Nat.reduceSub, Nat.reduceMul, Nat.reduceBEq, Nat.reduceLT, Nat.reduceLeDiff, Nat.reduceMod, Nat.reducePow, List.reduceReplicate, UInt8.reduceOfNat, Int.reducePow, Int.reduceDiv, Int.reduceMod, Nat.reduceDiv, Int.reduceNeg, Int.reduceAdd, Int.reduceSub, Int.reduceMul, Int.reduceLE, Int.reduceLT, Int.reduceEq, Int.reduceToNat, decide_true, decide_false, reduceCtorEq, ne_eq, not_false_eq_true, not_true_eq_false, and_true, true_and, and_self, or_true, true_or, or_false, false_or, or_self, eq_self, Option.isNone_some, Option.isNone_none, Nat.zero_add, Nat.add_zero, Nat.mul_one, Nat.one_mul, Nat.zero_mul, List.length_cons, List.length_nil, List.getElem?_cons_zero, List.getElem?_cons_succ, List.map_cons, List.map_nil, List.append_nil, -List.reduceReplicate, List.toList_toArray, hCl, hCa]
  revert nb
  intro b2 hb2 hb21 hb22
  refine rright_t hsm O.is fun G2 hle2 hs2 => ?_
  have hsE := hs2
  try simp only [keys_cons, keys_app, keys_nil, Sep_cons, Sep_nil, NotIn_cons, NotIn_app, NotIn_nil, List.cons_append, List.nil_append, List.append_assoc, and_assoc, and_true, true_and] at hsE
  repeat (obtain ⟨hsx, hsE⟩ := hsE)
  by_cases hok : RightP d
  · rw [boolOf_yes hok]
    obtain ⟨hk1, hk2, hk3, hk4, hk5, hk6, hk7⟩ := id hok
    have O2 := OpenD.mono hle2 O
    have hrow2 := hrow.mono hle2
    have hrn := O2.rn
    have hrl := O2.rl
    have hrnl := O2.rnl
    repeat' first
      | with_reducible refine Br.yes ?_
      | with_reducible refine Br.no ?_
      | with_reducible refine Br.dec (fun _ => ?_) (fun _ => ?_)
      | with_reducible refine Br.beqB (fun _ => ?_) (fun _ => ?_)
      | with_reducible refine Br.beqb (fun _ => ?_) (fun _ => ?_)
      | with_reducible refine Br.mk (fun _ => ?_) (fun _ => ?_)
      | with_reducible refine foundO.mk (fun _ _ => ?_) (fun _ => ?_)
      | with_reducible refine appV.zero ?_
      | with_reducible refine appV.own ?_
      | ((with_reducible refine NewB.mk fun nb hnb => ?_); have hnb1 := hnb.1.1; have hnb2 := hnb.1.2; try simp only [keys_cons, keys_app, keys_nil, NotIn_cons, NotIn_app, NotIn_nil, and_true] at hnb2)
      | ((with_reducible refine NewRow.mk fun nb nsp ncap hnb hncap => ?_); have hnb1 := hnb.1.1; have hnb2 := hnb.1.2; try simp only [keys_cons, keys_app, keys_nil, NotIn_cons, NotIn_app, NotIn_nil, and_true] at hnb2)
      | simp (dsimp := false) (implicitDefEqProofs := false) (disch := first | assumption | (simp only [List.mem_cons, List.mem_append, true_or, or_true, eq_self]; done) | omega | (with_reducible refine Row.adr (by assumption) ?_; simp only [List.length_map, List.length_take, List.length_drop]; omega) | (simp only [List.length_cons, List.length_nil, List.length_map, List.length_append, List.length_replicate, Nat.reduceAdd, true_and, and_true, and_self]; first | done | omega)) only [go_sem, ↓reduceIte, Nat.reduceEqDiff, Nat.reduceAdd, Nat.reduceSub, Nat.reduceMul, Nat.reduceBEq, Nat.reduceLT, Nat.reduceLeDiff, Nat.reduceMod, Nat.reducePow, List.reduceReplicate, UInt8.reduceOfNat, Int.reducePow, Int.reduceDiv, Int.reduceMod, Nat.reduceDiv, Int.reduceNeg, Int.reduceAdd, Int.reduceSub, Int.reduceMul, Int.reduceLE, Int.reduceLT, Int.reduceEq, Int.reduceToNat, decide_true, decide_false, reduceCtorEq, ne_eq, not_false_eq_true, not_true_eq_false, and_true, true_and, and_self, or_true, true_or, or_false, false_or, or_self, eq_self, Option.isNone_some, Option.isNone_none, Nat.zero_add, Nat.add_zero, Nat.mul_one, Nat.one_mul, Nat.zero_mul, List.length_cons, List.length_nil, List.getElem?_cons_zero, List.getElem?_cons_succ, List.map_cons, List.map_nil, List.append_nil, -List.reduceReplicate, List.toList_toArray, hCl, hCw, hCn, hCx]
    · rename_i hne
      have hm : m.length = d.label.length := by omega
      refine Tri.loopU tok [0, 1, 2, 4, 5, 6, 7, 18, 22, 41, 45, 70] (by kernel_rfl) [1, 2, 4, 5] (fun q G' fr H' => ∃ s : Nat, s + q = m.length ∧ (∀ j t (hj : j < s) (hs : j < m.length) (h1 : j < d.label.length) (h2 : t < d.label.length) (h3 : j < d.next.length) (h4 : t < d.next.length), place m m[j] = some t → d.label[j] = d.label[t] ∧ sameRows (nums m) d.next[j] d.next[t]) ∧ G' = G2 ∧ H' = (b2, .cells C [] 27) :: H ∧ fr = [(1, .slice a m.length cap), (2, .pointer (some ⟨b2, 0, none⟩)), (4, .bool false), (5, .int .i64 (s : Nat))]) (m.length) ?_ ?_
      · exact Upd.now ⟨0, by omega, fun j t hj => by omega, rfl, rfl, rfl⟩
      · rintro q G3 fr H' hle hs ⟨s, hi, hno, rfl, rfl, rfl⟩
        have hsE := hs
        try simp only [keys_cons, keys_app, keys_nil, Sep_cons, Sep_nil, NotIn_cons, NotIn_app, NotIn_nil, List.cons_append, List.nil_append, List.append_assoc, and_assoc, and_true, true_and] at hsE
        repeat (obtain ⟨hsx, hsE⟩ := hsE)
        by_cases hsl : s < m.length
        · have hsn : s < d.next.length := by omega
          have hsL : s < d.label.length := by omega
          have hsv : s < rs.length := by omega
          obtain ⟨t, hpt, htl, ⟨htl2, hte⟩, _⟩ := place_first hsl
          have htn : t < d.next.length := by omega
          have htL : t < d.label.length := by omega
          have htv : t < rs.length := by omega
          obtain ⟨b, c, e1, e2, e3⟩ := O2.rs s hsn hsv
          obtain ⟨b', c', f1, f2, f3⟩ := O2.rs t htn htv
          have hfs := findF_some hpt
          have had : Adr an := hrn.adr (by omega)
          have had2 : Adr al := hrl.adr (by rw [List.length_map]; omega)
          have had3 : Adr a := hrow2.adr (by rw [List.length_map]; omega)
          obtain ⟨hw1, _, _, hr1⟩ := hk7 s hsn hsL
          obtain ⟨hw2, _, _, hr2⟩ := hk7 t htn htL
          obtain ⟨row, hrowe⟩ : ∃ row, row = d.next[s] := ⟨_, rfl⟩
          obtain ⟨row', hrowe'⟩ : ∃ row', row' = d.next[t] := ⟨_, rfl⟩
          have hrm := hm2 _ (List.getElem_mem hsn)
          rw [← hrowe] at e1 e2 e3 hw1 hr1 hrm
          rw [← hrowe'] at f1 f2 f3 hw2 hr2
          have hrr : row.length = row'.length := by omega
          have hw : d.width = (row.length : Int) := hw1.symm
          repeat' first
            | with_reducible refine Br.yes ?_
            | with_reducible refine Br.no ?_
            | with_reducible refine Br.dec (fun _ => ?_) (fun _ => ?_)
            | with_reducible refine Br.beqB (fun _ => ?_) (fun _ => ?_)
            | with_reducible refine Br.beqb (fun _ => ?_) (fun _ => ?_)
            | with_reducible refine Br.mk (fun _ => ?_) (fun _ => ?_)
            | with_reducible refine foundO.mk (fun _ _ => ?_) (fun _ => ?_)
            | with_reducible refine appV.zero ?_
            | with_reducible refine appV.own ?_
            | ((with_reducible refine NewB.mk fun nb hnb => ?_); have hnb1 := hnb.1.1; have hnb2 := hnb.1.2; try simp only [keys_cons, keys_app, keys_nil, NotIn_cons, NotIn_app, NotIn_nil, and_true] at hnb2)
            | ((with_reducible refine NewRow.mk fun nb nsp ncap hnb hncap => ?_); have hnb1 := hnb.1.1; have hnb2 := hnb.1.2; try simp only [keys_cons, keys_app, keys_nil, NotIn_cons, NotIn_app, NotIn_nil, and_true] at hnb2)
            | with_reducible refine Tri.drawM tok mixed [0, 1, 2, 4, 5, 6, 7, 18, 22, 41, 45, 70] 7 [1, 4, 6, 9] (.op 0 .plain (.op 1 .held (.op 2 .plain (.op 3 .plain (.op 4 .held (.op 5 .plain (.op 6 .held (.op 7 .plain (.op 8 .plain (.op 9 .held (.op 10 .plain .nil))))))))))) (by kernel_rfl) _ (List.Sublist.refl _) ?_
            | simp (dsimp := false) (implicitDefEqProofs := false) (disch := first | assumption | (simp only [List.mem_cons, List.mem_append, true_or, or_true, eq_self]; done) | omega | (with_reducible refine Row.adr (by assumption) ?_; simp only [List.length_map, List.length_take, List.length_drop]; omega) | (simp only [List.length_cons, List.length_nil, List.length_map, List.length_append, List.length_replicate, Nat.reduceAdd, true_and, and_true, and_self]; first | done | omega)) only [go_sem, ↓reduceIte, Nat.reduceEqDiff, Nat.reduceAdd, Nat.reduceSub, Nat.reduceMul, Nat.reduceBEq, Nat.reduceLT, Nat.reduceLeDiff, Nat.reduceMod, Nat.reducePow, List.reduceReplicate, UInt8.reduceOfNat, Int.reducePow, Int.reduceDiv, Int.reduceMod, Nat.reduceDiv, Int.reduceNeg, Int.reduceAdd, Int.reduceSub, Int.reduceMul, Int.reduceLE, Int.reduceLT, Int.reduceEq, Int.reduceToNat, decide_true, decide_false, reduceCtorEq, ne_eq, not_false_eq_true, not_true_eq_false, and_true, true_and, and_self, or_true, true_or, or_false, false_or, or_self, eq_self, Option.isNone_some, Option.isNone_none, Nat.zero_add, Nat.add_zero, Nat.mul_one, Nat.one_mul, Nat.zero_mul, List.length_cons, List.length_nil, List.getElem?_cons_zero, List.getElem?_cons_succ, List.map_cons, List.map_nil, List.append_nil, -List.reduceReplicate, List.toList_toArray, hCl, hCw, hCn, hCx, Row.obj hrow2, Row.obj hrl, List.getElem_map, hfs]
            | with_reducible refine first_t m m[s] hml (hw0.mono hle2) ?_
          · rename_i hlab
            refine Tri.loopU tok [0, 1, 2, 4, 5, 6, 7, 18, 22, 41, 45, 70] (by kernel_rfl) [1, 2, 4, 5, 6, 7] (fun q2 G' fr H' => ∃ k : Nat, k + q2 = row.length ∧ (∀ j (h : j < row.length), j < k → atL m row[j] = atL m (row'[j]'(by omega))) ∧ G' = G3 ∧ H' = (b2, .cells C [] 27) :: H ∧ fr = [(1, .slice a m.length cap), (2, .pointer (some ⟨b2, 0, none⟩)), (4, .bool false), (5, .int .i64 (s : Nat)), (6, .int .i64 (t : Nat)), (7, .int .i64 (k : Nat))]) (row.length) ?_ ?_
            · exact Upd.now ⟨0, by omega, fun j _ h => by omega, rfl, rfl, rfl⟩
            · rintro q2 G4 fr H' hle4 hs4 ⟨k, hk, hno2, rfl, rfl, rfl⟩
              have hsE := hs4
              try simp only [keys_cons, keys_app, keys_nil, Sep_cons, Sep_nil, NotIn_cons, NotIn_app, NotIn_nil, List.cons_append, List.nil_append, List.append_assoc, and_assoc, and_true, true_and] at hsE
              repeat (obtain ⟨hsx, hsE⟩ := hsE)
              by_cases hkl : k < row.length
              · have hkl' : k < row'.length := by omega
                have had4 : Adr b := e2.adr (by rw [List.length_map]; omega)
                have had5 : Adr b' := f2.adr (by rw [List.length_map]; omega)
                have hy1 := hr1 _ (List.getElem_mem hkl)
                have hy2 := hr2 _ (List.getElem_mem hkl')
                obtain ⟨y, hy⟩ := Int.eq_ofNat_of_zero_le hy1.1
                obtain ⟨y', hy'⟩ := Int.eq_ofNat_of_zero_le hy2.1
                have hym : y < m.length := by omega
                have hym' : y' < m.length := by omega
                have g1 : atL m row[k] = m[y] := by rw [hy, atL_get (by simpa using hym)]; simp only [Int.toNat_natCast]
                have g2 : atL m row'[k] = m[y'] := by rw [hy', atL_get (by simpa using hym')]; simp only [Int.toNat_natCast]
                repeat' first
                  | with_reducible refine Br.yes ?_
                  | with_reducible refine Br.no ?_
                  | with_reducible refine Br.dec (fun _ => ?_) (fun _ => ?_)
                  | with_reducible refine Br.beqB (fun _ => ?_) (fun _ => ?_)
                  | with_reducible refine Br.beqb (fun _ => ?_) (fun _ => ?_)
                  | with_reducible refine Br.mk (fun _ => ?_) (fun _ => ?_)
                  | with_reducible refine foundO.mk (fun _ _ => ?_) (fun _ => ?_)
                  | with_reducible refine appV.zero ?_
                  | with_reducible refine appV.own ?_
                  | ((with_reducible refine NewB.mk fun nb hnb => ?_); have hnb1 := hnb.1.1; have hnb2 := hnb.1.2; try simp only [keys_cons, keys_app, keys_nil, NotIn_cons, NotIn_app, NotIn_nil, and_true] at hnb2)
                  | ((with_reducible refine NewRow.mk fun nb nsp ncap hnb hncap => ?_); have hnb1 := hnb.1.1; have hnb2 := hnb.1.2; try simp only [keys_cons, keys_app, keys_nil, NotIn_cons, NotIn_app, NotIn_nil, and_true] at hnb2)
                  | with_reducible refine Tri.drawM tok mixed [0, 1, 2, 4, 5, 6, 7, 18, 22, 41, 45, 70] 12 [2, 5, 8, 10, 13, 16, 19, 21] (.op 0 .plain (.op 1 .plain (.op 2 .held (.op 3 .plain (.op 4 .plain (.op 5 .held (.op 6 .plain (.op 7 .plain (.op 8 .held (.op 9 .plain (.op 10 .held (.op 11 .plain (.op 12 .plain (.op 13 .held (.op 14 .plain (.op 15 .plain (.op 16 .held (.op 17 .plain (.op 18 .plain (.op 19 .held (.op 20 .plain (.op 21 .held (.op 22 .plain .nil))))))))))))))))))))))) (by kernel_rfl) _ (List.Sublist.refl _) ?_
                  | simp (dsimp := false) (implicitDefEqProofs := false) (disch := first | assumption | (simp only [List.mem_cons, List.mem_append, true_or, or_true, eq_self]; done) | omega | (with_reducible refine Row.adr (by assumption) ?_; simp only [List.length_map, List.length_take, List.length_drop]; omega) | (simp only [List.length_cons, List.length_nil, List.length_map, List.length_append, List.length_replicate, Nat.reduceAdd, true_and, and_true, and_self]; first | done | omega)) only [go_sem, ↓reduceIte, Nat.reduceEqDiff, Nat.reduceAdd, Nat.reduceSub, Nat.reduceMul, Nat.reduceBEq, Nat.reduceLT, Nat.reduceLeDiff, Nat.reduceMod, Nat.reducePow, List.reduceReplicate, UInt8.reduceOfNat, Int.reducePow, Int.reduceDiv, Int.reduceMod, Nat.reduceDiv, Int.reduceNeg, Int.reduceAdd, Int.reduceSub, Int.reduceMul, Int.reduceLE, Int.reduceLT, Int.reduceEq, Int.reduceToNat, decide_true, decide_false, reduceCtorEq, ne_eq, not_false_eq_true, not_true_eq_false, and_true, true_and, and_self, or_true, true_or, or_false, false_or, or_self, eq_self, Option.isNone_some, Option.isNone_none, Nat.zero_add, Nat.add_zero, Nat.mul_one, Nat.one_mul, Nat.zero_mul, List.length_cons, List.length_nil, List.getElem?_cons_zero, List.getElem?_cons_succ, List.map_cons, List.map_nil, List.append_nil, -List.reduceReplicate, List.toList_toArray, hCl, hCw, hCn, hCx, hw, Row.obj hrow2, Row.obj hrn, e1, f1, Row.obj e2, Row.obj f2, List.getElem_map, hy, hy', Int.toNat_natCast]
                all_goals try (exfalso; omega)
                all_goals first
                  | (rename_i hs
                     exact Upd.now ⟨q2 - 1, by omega, k + 1, by omega, fun j h hj => by
                        by_cases e : j = k
                        · subst e; rw [g1, g2]; exact hs
                        · exact hno2 j h (by omega), rfl, rfl, rfl⟩)
                  | (rename_i hs
                     have hcontra : ¬ StableP d m := fun h => by
                        obtain ⟨_, _, h3⟩ := h
                        obtain ⟨hl, hh⟩ := (h3 s t hsl hsL htL hsn htn hpt).2
                        have := hh k (by rw [← hrowe]; exact hkl)
                        simp only [← hrowe, ← hrowe'] at this
                        rw [atL_iff (by omega) (by omega), g1, g2] at this
                        exact hs this
                     unfold UpdR
                     refine Upd.leave (H' := H) (by intro fsum; first | exact Nat.le_refl _ | (simp only [List.map_append, List.map_cons, List.map_nil, List.sum_append, List.sum_cons, List.sum_nil, List.cons_append, List.nil_append]; omega)) ?_
                     rw [boolOf_no hcontra] at hR
                     exact fun _ hs => hR _ hle2 hs)
              · obtain rfl : k = row.length := by omega
                repeat' first
                  | with_reducible refine Br.yes ?_
                  | with_reducible refine Br.no ?_
                  | with_reducible refine Br.dec (fun _ => ?_) (fun _ => ?_)
                  | with_reducible refine Br.beqB (fun _ => ?_) (fun _ => ?_)
                  | with_reducible refine Br.beqb (fun _ => ?_) (fun _ => ?_)
                  | with_reducible refine Br.mk (fun _ => ?_) (fun _ => ?_)
                  | with_reducible refine foundO.mk (fun _ _ => ?_) (fun _ => ?_)
                  | with_reducible refine appV.zero ?_
                  | with_reducible refine appV.own ?_
                  | ((with_reducible refine NewB.mk fun nb hnb => ?_); have hnb1 := hnb.1.1; have hnb2 := hnb.1.2; try simp only [keys_cons, keys_app, keys_nil, NotIn_cons, NotIn_app, NotIn_nil, and_true] at hnb2)
                  | ((with_reducible refine NewRow.mk fun nb nsp ncap hnb hncap => ?_); have hnb1 := hnb.1.1; have hnb2 := hnb.1.2; try simp only [keys_cons, keys_app, keys_nil, NotIn_cons, NotIn_app, NotIn_nil, and_true] at hnb2)
                  | simp (dsimp := false) (implicitDefEqProofs := false) (disch := first | assumption | (simp only [List.mem_cons, List.mem_append, true_or, or_true, eq_self]; done) | omega | (with_reducible refine Row.adr (by assumption) ?_; simp only [List.length_map, List.length_take, List.length_drop]; omega) | (simp only [List.length_cons, List.length_nil, List.length_map, List.length_append, List.length_replicate, Nat.reduceAdd, true_and, and_true, and_self]; first | done | omega)) only [go_sem, ↓reduceIte, Nat.reduceEqDiff, Nat.reduceAdd, Nat.reduceSub, Nat.reduceMul, Nat.reduceBEq, Nat.reduceLT, Nat.reduceLeDiff, Nat.reduceMod, Nat.reducePow, List.reduceReplicate, UInt8.reduceOfNat, Int.reducePow, Int.reduceDiv, Int.reduceMod, Nat.reduceDiv, Int.reduceNeg, Int.reduceAdd, Int.reduceSub, Int.reduceMul, Int.reduceLE, Int.reduceLT, Int.reduceEq, Int.reduceToNat, decide_true, decide_false, reduceCtorEq, ne_eq, not_false_eq_true, not_true_eq_false, and_true, true_and, and_self, or_true, true_or, or_false, false_or, or_self, eq_self, Option.isNone_some, Option.isNone_none, Nat.zero_add, Nat.add_zero, Nat.mul_one, Nat.one_mul, Nat.zero_mul, List.length_cons, List.length_nil, List.getElem?_cons_zero, List.getElem?_cons_succ, List.map_cons, List.map_nil, List.append_nil, -List.reduceReplicate, List.toList_toArray, hCl, hCw, hCn, hCx, hw]
                all_goals try (exfalso; omega)
                exact Upd.now ⟨q - 1, by omega, s + 1, by omega, fun j t' hj hs h1 h2 h3 h4 hp => by
                  by_cases e : j = s
                  · subst e
                    rw [hpt, Option.some.injEq] at hp
                    subst hp
                    refine ⟨hlab, ?_⟩
                    rw [← hrowe, ← hrowe']
                    exact ⟨hrr, fun k hk => by
                      have h1 := hr1 _ (List.getElem_mem hk)
                      have h2 := hr2 _ (List.getElem_mem (show k < row'.length by omega))
                      rw [atL_iff (by omega) (by omega)]
                      exact hno2 k hk hk⟩
                  · exact hno j t' (by omega) hs h1 h2 h3 h4 hp, rfl, rfl, rfl⟩
          · rename_i hlab
            have hcontra : ¬ StableP d m := fun h => hlab (h.2.2 s t hsl hsL htL hsn htn hpt).1
            unfold UpdR
            refine Upd.leave (H' := H) (by intro fsum; first | exact Nat.le_refl _ | (simp only [List.map_append, List.map_cons, List.map_nil, List.sum_append, List.sum_cons, List.sum_nil, List.cons_append, List.nil_append]; omega)) ?_
            rw [boolOf_no hcontra] at hR
            exact fun _ hs => hR _ hle2 hs
        · obtain rfl : s = m.length := by omega
          repeat' first
            | with_reducible refine Br.yes ?_
            | with_reducible refine Br.no ?_
            | with_reducible refine Br.dec (fun _ => ?_) (fun _ => ?_)
            | with_reducible refine Br.beqB (fun _ => ?_) (fun _ => ?_)
            | with_reducible refine Br.beqb (fun _ => ?_) (fun _ => ?_)
            | with_reducible refine Br.mk (fun _ => ?_) (fun _ => ?_)
            | with_reducible refine foundO.mk (fun _ _ => ?_) (fun _ => ?_)
            | with_reducible refine appV.zero ?_
            | with_reducible refine appV.own ?_
            | ((with_reducible refine NewB.mk fun nb hnb => ?_); have hnb1 := hnb.1.1; have hnb2 := hnb.1.2; try simp only [keys_cons, keys_app, keys_nil, NotIn_cons, NotIn_app, NotIn_nil, and_true] at hnb2)
            | ((with_reducible refine NewRow.mk fun nb nsp ncap hnb hncap => ?_); have hnb1 := hnb.1.1; have hnb2 := hnb.1.2; try simp only [keys_cons, keys_app, keys_nil, NotIn_cons, NotIn_app, NotIn_nil, and_true] at hnb2)
            | simp (dsimp := false) (implicitDefEqProofs := false) (disch := first | assumption | (simp only [List.mem_cons, List.mem_append, true_or, or_true, eq_self]; done) | omega | (with_reducible refine Row.adr (by assumption) ?_; simp only [List.length_map, List.length_take, List.length_drop]; omega) | (simp only [List.length_cons, List.length_nil, List.length_map, List.length_append, List.length_replicate, Nat.reduceAdd, true_and, and_true, and_self]; first | done | omega)) only [go_sem, ↓reduceIte, Nat.reduceEqDiff, Nat.reduceAdd, Nat.reduceSub, Nat.reduceMul, Nat.reduceBEq, Nat.reduceLT, Nat.reduceLeDiff, Nat.reduceMod, Nat.reducePow, List.reduceReplicate, UInt8.reduceOfNat, Int.reducePow, Int.reduceDiv, Int.reduceMod, Nat.reduceDiv, Int.reduceNeg, Int.reduceAdd, Int.reduceSub, Int.reduceMul, Int.reduceLE, Int.reduceLT, Int.reduceEq, Int.reduceToNat, decide_true, decide_false, reduceCtorEq, ne_eq, not_false_eq_true, not_true_eq_false, and_true, true_and, and_self, or_true, true_or, or_false, false_or, or_self, eq_self, Option.isNone_some, Option.isNone_none, Nat.zero_add, Nat.add_zero, Nat.mul_one, Nat.one_mul, Nat.zero_mul, List.length_cons, List.length_nil, List.getElem?_cons_zero, List.getElem?_cons_succ, List.map_cons, List.map_nil, List.append_nil, -List.reduceReplicate]
          unfold UpdR
          refine Upd.leave (H' := H) (by intro fsum; first | exact Nat.le_refl _ | (simp only [List.map_append, List.map_cons, List.map_nil, List.sum_append, List.sum_cons, List.sum_nil, List.cons_append, List.nil_append]; omega)) ?_
          rw [boolOf_yes (p := StableP d m) ⟨hok, hm, fun s t hs h1 h2 h3 h4 hp => hno s t hs hs h1 h2 h3 h4 hp⟩] at hR
          exact fun _ hs => hR _ hle2 hs
    · rename_i hne
      unfold UpdR
      refine Upd.leave (H' := H) (by intro fsum; first | exact Nat.le_refl _ | (simp only [List.map_append, List.map_cons, List.map_nil, List.sum_append, List.sum_cons, List.sum_nil, List.cons_append, List.nil_append]; omega)) ?_
      rw [boolOf_no (p := StableP d m) fun h => by have := h.2.1; omega] at hR
      exact fun _ hs => hR _ hle2 hs
  · rw [boolOf_no hok]
    repeat' first
      | with_reducible refine Br.yes ?_
      | with_reducible refine Br.no ?_
      | with_reducible refine Br.dec (fun _ => ?_) (fun _ => ?_)
      | with_reducible refine Br.beqB (fun _ => ?_) (fun _ => ?_)
      | with_reducible refine Br.beqb (fun _ => ?_) (fun _ => ?_)
      | with_reducible refine Br.mk (fun _ => ?_) (fun _ => ?_)
      | with_reducible refine foundO.mk (fun _ _ => ?_) (fun _ => ?_)
      | with_reducible refine appV.zero ?_
      | with_reducible refine appV.own ?_
      | ((with_reducible refine NewB.mk fun nb hnb => ?_); have hnb1 := hnb.1.1; have hnb2 := hnb.1.2; try simp only [keys_cons, keys_app, keys_nil, NotIn_cons, NotIn_app, NotIn_nil, and_true] at hnb2)
      | ((with_reducible refine NewRow.mk fun nb nsp ncap hnb hncap => ?_); have hnb1 := hnb.1.1; have hnb2 := hnb.1.2; try simp only [keys_cons, keys_app, keys_nil, NotIn_cons, NotIn_app, NotIn_nil, and_true] at hnb2)
      | simp (dsimp := false) (implicitDefEqProofs := false) (disch := first | assumption | (simp only [List.mem_cons, List.mem_append, true_or, or_true, eq_self]; done) | omega | (with_reducible refine Row.adr (by assumption) ?_; simp only [List.length_map, List.length_take, List.length_drop]; omega) | (simp only [List.length_cons, List.length_nil, List.length_map, List.length_append, List.length_replicate, Nat.reduceAdd, true_and, and_true, and_self]; first | done | omega)) only [go_sem, ↓reduceIte, Nat.reduceEqDiff, Nat.reduceAdd, Nat.reduceSub, Nat.reduceMul, Nat.reduceBEq, Nat.reduceLT, Nat.reduceLeDiff, Nat.reduceMod, Nat.reducePow, List.reduceReplicate, UInt8.reduceOfNat, Int.reducePow, Int.reduceDiv, Int.reduceMod, Nat.reduceDiv, Int.reduceNeg, Int.reduceAdd, Int.reduceSub, Int.reduceMul, Int.reduceLE, Int.reduceLT, Int.reduceEq, Int.reduceToNat, decide_true, decide_false, reduceCtorEq, ne_eq, not_false_eq_true, not_true_eq_false, and_true, true_and, and_self, or_true, true_or, or_false, false_or, or_self, eq_self, Option.isNone_some, Option.isNone_none, Nat.zero_add, Nat.add_zero, Nat.mul_one, Nat.one_mul, Nat.zero_mul, List.length_cons, List.length_nil, List.getElem?_cons_zero, List.getElem?_cons_succ, List.map_cons, List.map_nil, List.append_nil, -List.reduceReplicate]
    unfold UpdR
    refine Upd.leave (H' := H) (by intro fsum; first | exact Nat.le_refl _ | (simp only [List.map_append, List.map_cons, List.map_nil, List.sum_append, List.sum_cons, List.sum_nil, List.cons_append, List.nil_append]; omega)) ?_
    rw [boolOf_no (p := StableP d m) fun h => hok h.1] at hR
    exact fun _ hs => hR _ hle2 hs
end Go.Proofs.Ytmnmihfinmcljaa
