/- A machine that tells nothing of the empty word: the program's. -/
import Derived.Test.YtpagkndgjihbbaaVk
set_option linter.unusedSimpArgs false
set_option linter.unusedVariables false
namespace Go.Proofs.Ytpagkndgjihbbaa
open Go Go.V Go.Proofs

/-- a row whose first numbers were made one greater -/
def incR (row : List Int) (j : Nat) : List Int := (row.take j).map (· + 1) ++ row.drop j
theorem incR_len (row : List Int) (j : Nat) : (incR row j).length = row.length := by unfold incR; simp; omega
theorem incR_zero (row : List Int) : incR row 0 = row := by unfold incR; simp
theorem incR_all {row : List Int} {j : Nat} (h : row.length ≤ j) : incR row j = row.map (· + 1) := by unfold incR; rw [List.take_of_length_le h, List.drop_of_length_le h, List.append_nil]
theorem incR_get {row : List Int} {j : Nat} (h : j < row.length) : (incR row j)[j]'(by rw [incR_len]; exact h) = row[j] := by
  unfold incR
  rw [List.getElem_append_right (by simp; omega)]
  simp [Nat.min_eq_left (Nat.le_of_lt h)]
theorem incR_put {row : List Int} {j : Nat} (h : j < row.length) : splice ((incR row j).map (Value.int .i64)) j [.int .i64 (row[j] + 1)] = (incR row (j + 1)).map (Value.int .i64) := by
  unfold splice incR
  have hl : ((row.take j).map (· + 1)).length = j := by simp; omega
  rw [List.map_append, List.take_left' (by rw [List.length_map]; exact hl), List.drop_append, List.length_map, hl]
  rw [List.take_succ_eq_append_getElem h, List.map_append, List.map_append, List.map_append]
  rw [List.drop_of_length_le (by rw [List.length_map, hl]; simp), List.nil_append]
  simp [List.map_drop, List.drop_drop]
/-- rows the first of which were made one greater -/
def incM (rows : List (List Int)) (i : Nat) : List (List Int) := (rows.take i).map (fun r => r.map (· + 1)) ++ rows.drop i
theorem incM_len (rows : List (List Int)) (i : Nat) : (incM rows i).length = rows.length := by unfold incM; simp; omega
theorem incM_zero (rows : List (List Int)) : incM rows 0 = rows := by unfold incM; simp
theorem incM_all {rows : List (List Int)} {i : Nat} (h : rows.length ≤ i) : incM rows i = rows.map fun r => r.map (· + 1) := by unfold incM; rw [List.take_of_length_le h, List.drop_of_length_le h, List.append_nil]
theorem incM_get {rows : List (List Int)} {i : Nat} (h : i < rows.length) : (incM rows i)[i]'(by rw [incM_len]; exact h) = rows[i] := by
  unfold incM
  rw [List.getElem_append_right (by simp; omega)]
  simp [Nat.min_eq_left (Nat.le_of_lt h)]
theorem matN_len (rows : List (List Int)) : (matN rows).length = rows.length := by unfold matN; rw [List.length_map]
theorem matN_get {rows : List (List Int)} {i : Nat} (h : i < rows.length) : (matN rows)[i]'(by rw [matN_len]; exact h) = rows[i].map (Value.int .i64) := by simp only [matN, List.getElem_map]
theorem incM_set {rows : List (List Int)} {i : Nat} (h : i < rows.length) : (matN (incM rows i)).set i ((rows[i].map (· + 1)).map (Value.int .i64)) = matN (incM rows (i + 1)) := by
  unfold matN
  rw [← List.map_set]
  congr 1
  unfold incM
  rw [List.take_succ_eq_append_getElem h, List.map_append, List.set_append_right _ _ (by simp; omega)]
  have hl : ((rows.take i).map (fun r => r.map (· + 1))).length = i := by simp; omega
  rw [hl, Nat.sub_self, List.drop_eq_getElem_cons h, List.set_cons_zero]
  simp

def plusD (d : DfaT) : DfaT := ⟨d.of, d.width, (d.next.headD []).map (· + 1) :: d.next.map (fun r => r.map (· + 1)), 0 :: d.label, d.names⟩
/-- a machine that tells nothing of the empty word, or why not -/
noncomputable def plusR (d : DfaT) : DfaT × Int :=
  haveI := Classical.propDecidable
  if RightP d then if d.label.headD 0 = 0 then (d, 0) else if d.label.length = 65536 then (zeroD, 7) else (plusD d, 0) else (zeroD, 6)
theorem plusR_bad {d : DfaT} (h : ¬ RightP d) : plusR d = (zeroD, 6) := by unfold plusR; rw [if_neg h]
theorem plusR_none {d : DfaT} (h : RightP d) (h2 : d.label.headD 0 = 0) : plusR d = (d, 0) := by unfold plusR; rw [if_pos h, if_pos h2]
theorem plusR_big {d : DfaT} (h : RightP d) (h2 : ¬ d.label.headD 0 = 0) (h3 : d.label.length = 65536) : plusR d = (zeroD, 7) := by unfold plusR; rw [if_pos h, if_neg h2, if_pos h3]
theorem plusR_ok {d : DfaT} (h : RightP d) (h2 : ¬ d.label.headD 0 = 0) (h3 : ¬ d.label.length = 65536) : plusR d = (plusD d, 0) := by unfold plusR; rw [if_pos h, if_neg h2, if_neg h3]
theorem labW_same {d : DfaT} (hok : RightP d) : labW d (fun s => findF d.names s + 1) = d.label := by
  obtain ⟨hk1, hk2, hk3, hk4, hk5, hk6, hk7⟩ := id hok
  unfold labW
  conv => rhs; rw [← List.map_id d.label]
  refine List.map_congr_left fun k hk => ?_
  obtain ⟨i, hi, rfl⟩ := List.getElem_of_mem hk
  obtain ⟨_, w2, w3, _⟩ := hk7 i (by omega) hi
  by_cases h0 : 0 < d.label[i]
  · rw [if_pos h0]
    obtain ⟨n, hn⟩ : ∃ n : Nat, d.label[i] = (n : Int) + 1 := ⟨(d.label[i] - 1).toNat, by omega⟩
    have hnl2 : n < d.names.length := by omega
    rw [hn, nameD_at hnl2]
    show findF d.names d.names[n] + 1 = (n : Int) + 1
    rw [findF_some (place_get (names_nodup hok) hnl2)]
  · rw [if_neg h0]
    show 0 = d.label[i]
    omega
theorem withD_same {d : DfaT} (hok : RightP d) : withD d d.names (fun s => findF d.names s + 1) = d := by
  unfold withD
  rw [labW_same hok]
set_option maxHeartbeats 16000000 in
theorem pl_t {d : DfaT} (hsm : SmallD d) (hok : RightP d) (hd : d.of.length = 256) {b4 bn cn : Nat} {vl vs v2 v3 : Value} {rv spn : List Value} {F H : Heap} {G : PHeap} (hF : Fam 3 rv (matN d.next) F) :
    Tri Try.prog Try.f20.ntmps (piece [1, 1, 1, 1, 1, 0] Try.f20) G [(2, v2), (3, v3), (4, .pointer (some ⟨b4, 0, none⟩))] ((b4, .cells (cellsD d (.slice (some ⟨bn, 0, none⟩) d.label.length cn) vl vs) [] 27) :: (bn, .cells rv spn 24) :: (F ++ H)) (onlyN fun G' fr' H' =>
      ∃ F', G' = G ∧ Fam 3 rv (matN (d.next.map fun r => r.map (· + 1))) F' ∧ restrict [2, 3, 4] fr' = [(2, v2), (3, v3), (4, .pointer (some ⟨b4, 0, none⟩))] ∧ H' = (b4, .cells (cellsD d (.slice (some ⟨bn, 0, none⟩) d.label.length cn) vl vs) [] 27) :: (bn, .cells rv spn 24) :: (F' ++ H)) := by
  obtain ⟨hm1, hm2, hm3, hm4, hm5⟩ := id hsm
  obtain ⟨hk1, hk2, hk3, hk4, hk5, hk6, hk7⟩ := id hok
  have hrv := hF.lenv
  rw [matN_len] at hrv
  have hl2 : ∀ a b c : Value, (cellsD d a b c).length = 260 := fun a b c => cellsD_len hd _ _ _
  have hg1 : ∀ a b c : Value, (cellsD d a b c)[257]? = some a := fun a b c => cellsD_n hd _ _ _
  refine Tri.sepT fun hs0 => ?_
  have hsE := hs0
  try simp only [keys_cons, keys_app, keys_nil, Sep_cons, Sep_nil, NotIn_cons, NotIn_app, NotIn_nil, List.cons_append, List.nil_append, List.append_assoc, and_assoc, and_true, true_and] at hsE
  repeat (obtain ⟨hsx, hsE⟩ := hsE)
  refine Tri.piece (f := Try.f20) rfl ?_
  refine Tri.run tok [0, 1, 2, 3, 4, 6, 7, 10, 21, 26, 29, 30, 31, 32, 36, 37, 38] (by kernel_rfl) ?_
  repeat' first
    | with_reducible refine Br.yes ?_
    | with_reducible refine Br.no ?_
    | with_reducible refine Br.dec (fun _ => ?_) (fun _ => ?_)
    | with_reducible refine Br.beqB (fun _ => ?_) (fun _ => ?_)
    | with_reducible refine Br.beqb (fun _ => ?_) (fun _ => ?_)
    | with_reducible refine Br.mk (fun _ => ?_) (fun _ => ?_)
    | with_reducible refine foundO.mk (fun _ _ => ?_) (fun _ => ?_)
    | with_reducible refine appV.zero ?_
    | with_reducible refine appV.own ?_
    | ((with_reducible refine NewB.mk fun nb hnb => ?_); have hnb1 := hnb.1.1; have hnb2 := hnb.1.2; try simp only [keys_cons, keys_app, keys_nil, NotIn_cons, NotIn_app, NotIn_nil, and_true] at hnb2)
    | ((with_reducible refine NewRow.mk fun nb nsp ncap hnb hncap => ?_); have hnb1 := hnb.1.1; have hnb2 := hnb.1.2; try simp only [keys_cons, keys_app, keys_nil, NotIn_cons, NotIn_app, NotIn_nil, and_true] at hnb2)
    | simp (dsimp := false) (implicitDefEqProofs := false) (disch := first | assumption | (simp only [List.mem_cons, List.mem_append, true_or, or_true, eq_self]; done) | omega | (with_reducible refine Row.adr (by assumption) ?_; simp only [List.length_map, List.length_take, List.length_drop]; omega) | (simp only [List.length_cons, List.length_nil, List.length_map, List.length_append, List.length_replicate, Nat.reduceAdd, true_and, and_true, and_self]; first | done | omega)) only [go_sem, ↓reduceIte, Nat.reduceEqDiff, Nat.reduceAdd, Nat.reduceSub, Nat.reduceMul, Nat.reduceBEq, Nat.reduceLT, Nat.reduceLeDiff, Nat.reduceMod, Nat.reducePow, List.reduceReplicate, UInt8.reduceOfNat, Int.reducePow, Int.reduceDiv, Int.reduceMod, Nat.reduceDiv, Int.reduceNeg, Int.reduceAdd, Int.reduceSub, Int.reduceMul, Int.reduceLE, Int.reduceLT, Int.reduceEq, Int.reduceToNat, reduceCtorEq, -List.reduceReplicate, hl2, hg1]
  refine Tri.loopU tok [0, 1, 2, 3, 4, 6, 7, 10, 21, 26, 29, 30, 31, 32, 36, 37, 38] (by kernel_rfl) [2, 3, 4, 29, 30, 31] (fun q G' fr H' => ∃ (i : Nat) (F' : Heap), i + q = d.label.length ∧ G' = G ∧ Fam 3 rv (matN (incM d.next i)) F' ∧ H' = (b4, .cells (cellsD d (.slice (some ⟨bn, 0, none⟩) d.label.length cn) vl vs) [] 27) :: (bn, .cells rv spn 24) :: (F' ++ H) ∧ fr = [(2, v2), (3, v3), (4, .pointer (some ⟨b4, 0, none⟩)), (29, .slice (some ⟨bn, 0, none⟩) d.label.length cn), (30, .int .i64 d.label.length), (31, .int .i64 (i : Nat))]) (d.label.length) ?_ ?_
  · exact Upd.now ⟨0, F, by omega, rfl, by rw [incM_zero]; exact hF, rfl, rfl⟩
  · rintro q G1 fr H1 hle1 hs1 ⟨i, F1, hiq, rfl, hF1, rfl, rfl⟩
    have hsE := hs1
    try simp only [keys_cons, keys_app, keys_nil, Sep_cons, Sep_nil, NotIn_cons, NotIn_app, NotIn_nil, List.cons_append, List.nil_append, List.append_assoc, and_assoc, and_true, true_and] at hsE
    repeat (obtain ⟨hsx, hsE⟩ := hsE)
    by_cases hil : i < d.label.length
    · have hin : i < d.next.length := by omega
      obtain ⟨bi, ci, spi, F2, e1, e2, e3, e4⟩ := hF1.out (i := i) (by rw [matN_len, incM_len]; exact hin)
      have hMi : (matN (incM d.next i))[i]'(by rw [matN_len, incM_len]; exact hin) = d.next[i].map (Value.int .i64) := by rw [matN_get (by rw [incM_len]; exact hin), incM_get hin]
      rw [hMi] at e1 e2 e3 e4
      rw [List.length_map] at e1 e2 e4
      obtain ⟨hw0, hlt0, hlt1, hrng⟩ := hk7 i hin hil
      have hgv : (rv ++ spn)[i]? = some (.slice (some ⟨bi, 0, none⟩) d.next[i].length ci) := by
        rw [List.getElem?_append_left (by omega), List.getElem?_eq_getElem (by omega), e1]
      have hrl := hm2 _ (List.getElem_mem hin)
      repeat' first
        | with_reducible refine Br.yes ?_
        | with_reducible refine Br.no ?_
        | with_reducible refine Br.dec (fun _ => ?_) (fun _ => ?_)
        | with_reducible refine Br.beqB (fun _ => ?_) (fun _ => ?_)
        | with_reducible refine Br.beqb (fun _ => ?_) (fun _ => ?_)
        | with_reducible refine Br.mk (fun _ => ?_) (fun _ => ?_)
        | with_reducible refine foundO.mk (fun _ _ => ?_) (fun _ => ?_)
        | with_reducible refine appV.zero ?_
        | with_reducible refine appV.own ?_
        | ((with_reducible refine NewB.mk fun nb hnb => ?_); have hnb1 := hnb.1.1; have hnb2 := hnb.1.2; try simp only [keys_cons, keys_app, keys_nil, NotIn_cons, NotIn_app, NotIn_nil, and_true] at hnb2)
        | ((with_reducible refine NewRow.mk fun nb nsp ncap hnb hncap => ?_); have hnb1 := hnb.1.1; have hnb2 := hnb.1.2; try simp only [keys_cons, keys_app, keys_nil, NotIn_cons, NotIn_app, NotIn_nil, and_true] at hnb2)
        | simp (dsimp := false) (implicitDefEqProofs := false) (disch := first | assumption | (simp only [List.mem_cons, List.mem_append, true_or, or_true, eq_self]; done) | omega | (with_reducible refine Row.adr (by assumption) ?_; simp only [List.length_map, List.length_take, List.length_drop]; omega) | (simp only [List.length_cons, List.length_nil, List.length_map, List.length_append, List.length_replicate, Nat.reduceAdd, true_and, and_true, and_self]; first | done | omega)) only [go_sem, ↓reduceIte, Nat.reduceEqDiff, Nat.reduceAdd, Nat.reduceSub, Nat.reduceMul, Nat.reduceBEq, Nat.reduceLT, Nat.reduceLeDiff, Nat.reduceMod, Nat.reducePow, List.reduceReplicate, UInt8.reduceOfNat, Int.reducePow, Int.reduceDiv, Int.reduceMod, Nat.reduceDiv, Int.reduceNeg, Int.reduceAdd, Int.reduceSub, Int.reduceMul, Int.reduceLE, Int.reduceLT, Int.reduceEq, Int.reduceToNat, reduceCtorEq, -List.reduceReplicate, hgv]
      refine Tri.upd (Upd.go (H' := (b4, .cells (cellsD d (.slice (some ⟨bn, 0, none⟩) d.label.length cn) vl vs) [] 27) :: (bn, .cells rv spn 24) :: (bi, .cells (d.next[i].map (Value.int .i64)) spi 3) :: (F2 ++ H)) (by intro fsum; have := e3 fsum; simp only [List.map_append, List.map_cons, List.map_nil, List.sum_append, List.sum_cons, List.sum_nil]; omega) (Upd.now ?_))
      refine Tri.loopU tok [0, 1, 2, 3, 4, 6, 7, 10, 21, 26, 29, 30, 31, 32, 36, 37, 38] (by kernel_rfl) [2, 3, 4, 6, 29, 30, 31, 36, 37] (fun q2 G' fr H' => ∃ j : Nat, j + q2 = d.next[i].length ∧ G' = G1 ∧ H' = (b4, .cells (cellsD d (.slice (some ⟨bn, 0, none⟩) d.label.length cn) vl vs) [] 27) :: (bn, .cells rv spn 24) :: (bi, .cells ((incR d.next[i] j).map (Value.int .i64)) spi 3) :: (F2 ++ H) ∧ fr = [(2, v2), (3, v3), (4, .pointer (some ⟨b4, 0, none⟩)), (6, .slice (some ⟨bi, 0, none⟩) d.next[i].length ci), (29, .slice (some ⟨bn, 0, none⟩) d.label.length cn), (30, .int .i64 d.label.length), (31, .int .i64 (i : Nat)), (36, .int .i64 d.next[i].length), (37, .int .i64 (j : Nat))]) (d.next[i].length) ?_ ?_
      · exact Upd.now ⟨0, by omega, rfl, by rw [incR_zero], rfl⟩
      · rintro q2 G2 fr H2 hle2 hs2 ⟨j, hjq, rfl, rfl, rfl⟩
        have hsE := hs2
        try simp only [keys_cons, keys_app, keys_nil, Sep_cons, Sep_nil, NotIn_cons, NotIn_app, NotIn_nil, List.cons_append, List.nil_append, List.append_assoc, and_assoc, and_true, true_and] at hsE
        repeat (obtain ⟨hsx, hsE⟩ := hsE)
        by_cases hjl : j < d.next[i].length
        · have hgj := incR_get hjl
          have hpj := incR_put hjl
          have hll : j < (incR d.next[i] j).length := by rw [incR_len]; exact hjl
          obtain ⟨hb1, hb2⟩ := hrng d.next[i][j] (List.getElem_mem hjl)
          have hlen2 : (incR d.next[i] j).length = d.next[i].length := incR_len _ _
          have hgq : ((incR d.next[i] j).map (Value.int .i64) ++ spi)[j]? = some (.int .i64 d.next[i][j]) := by
            rw [List.getElem?_append_left (by rw [List.length_map]; exact hll), List.getElem?_map, List.getElem?_eq_getElem hll, hgj]; rfl
          repeat' first
            | with_reducible refine Br.yes ?_
            | with_reducible refine Br.no ?_
            | with_reducible refine Br.dec (fun _ => ?_) (fun _ => ?_)
            | with_reducible refine Br.beqB (fun _ => ?_) (fun _ => ?_)
            | with_reducible refine Br.beqb (fun _ => ?_) (fun _ => ?_)
            | with_reducible refine Br.mk (fun _ => ?_) (fun _ => ?_)
            | with_reducible refine foundO.mk (fun _ _ => ?_) (fun _ => ?_)
            | with_reducible refine appV.zero ?_
            | with_reducible refine appV.own ?_
            | ((with_reducible refine NewB.mk fun nb hnb => ?_); have hnb1 := hnb.1.1; have hnb2 := hnb.1.2; try simp only [keys_cons, keys_app, keys_nil, NotIn_cons, NotIn_app, NotIn_nil, and_true] at hnb2)
            | ((with_reducible refine NewRow.mk fun nb nsp ncap hnb hncap => ?_); have hnb1 := hnb.1.1; have hnb2 := hnb.1.2; try simp only [keys_cons, keys_app, keys_nil, NotIn_cons, NotIn_app, NotIn_nil, and_true] at hnb2)
            | simp (dsimp := false) (implicitDefEqProofs := false) (disch := first | assumption | (simp only [List.mem_cons, List.mem_append, true_or, or_true, eq_self]; done) | omega | (with_reducible refine Row.adr (by assumption) ?_; simp only [List.length_map, List.length_take, List.length_drop]; omega) | (simp only [List.length_cons, List.length_nil, List.length_map, List.length_append, List.length_replicate, Nat.reduceAdd, true_and, and_true, and_self]; first | done | omega)) only [go_sem, ↓reduceIte, Nat.reduceEqDiff, Nat.reduceAdd, Nat.reduceSub, Nat.reduceMul, Nat.reduceBEq, Nat.reduceLT, Nat.reduceLeDiff, Nat.reduceMod, Nat.reducePow, List.reduceReplicate, UInt8.reduceOfNat, Int.reducePow, Int.reduceDiv, Int.reduceMod, Nat.reduceDiv, Int.reduceNeg, Int.reduceAdd, Int.reduceSub, Int.reduceMul, Int.reduceLE, Int.reduceLT, Int.reduceEq, Int.reduceToNat, reduceCtorEq, -List.reduceReplicate, hgq, hpj, hlen2, List.length_map]
          exact Upd.now ⟨q2 - 1, by omega, j + 1, by omega, rfl, rfl, rfl⟩
        · obtain rfl : j = d.next[i].length := by omega
          rw [incR_all (Nat.le_refl _)]
          repeat' first
            | with_reducible refine Br.yes ?_
            | with_reducible refine Br.no ?_
            | with_reducible refine Br.dec (fun _ => ?_) (fun _ => ?_)
            | with_reducible refine Br.beqB (fun _ => ?_) (fun _ => ?_)
            | with_reducible refine Br.beqb (fun _ => ?_) (fun _ => ?_)
            | with_reducible refine Br.mk (fun _ => ?_) (fun _ => ?_)
            | with_reducible refine foundO.mk (fun _ _ => ?_) (fun _ => ?_)
            | with_reducible refine appV.zero ?_
            | with_reducible refine appV.own ?_
            | ((with_reducible refine NewB.mk fun nb hnb => ?_); have hnb1 := hnb.1.1; have hnb2 := hnb.1.2; try simp only [keys_cons, keys_app, keys_nil, NotIn_cons, NotIn_app, NotIn_nil, and_true] at hnb2)
            | ((with_reducible refine NewRow.mk fun nb nsp ncap hnb hncap => ?_); have hnb1 := hnb.1.1; have hnb2 := hnb.1.2; try simp only [keys_cons, keys_app, keys_nil, NotIn_cons, NotIn_app, NotIn_nil, and_true] at hnb2)
            | simp (dsimp := false) (implicitDefEqProofs := false) (disch := first | assumption | (simp only [List.mem_cons, List.mem_append, true_or, or_true, eq_self]; done) | omega | (with_reducible refine Row.adr (by assumption) ?_; simp only [List.length_map, List.length_take, List.length_drop]; omega) | (simp only [List.length_cons, List.length_nil, List.length_map, List.length_append, List.length_replicate, Nat.reduceAdd, true_and, and_true, and_self]; first | done | omega)) only [go_sem, ↓reduceIte, Nat.reduceEqDiff, Nat.reduceAdd, Nat.reduceSub, Nat.reduceMul, Nat.reduceBEq, Nat.reduceLT, Nat.reduceLeDiff, Nat.reduceMod, Nat.reducePow, List.reduceReplicate, UInt8.reduceOfNat, Int.reducePow, Int.reduceDiv, Int.reduceMod, Nat.reduceDiv, Int.reduceNeg, Int.reduceAdd, Int.reduceSub, Int.reduceMul, Int.reduceLE, Int.reduceLT, Int.reduceEq, Int.reduceToNat, reduceCtorEq, -List.reduceReplicate]
          obtain ⟨F3, hF3, hs3⟩ := e4 ((d.next[i].map (· + 1)).map (Value.int .i64)) (by simp)
          rw [incM_set hin] at hF3
          refine Upd.leave (H' := (b4, .cells (cellsD d (.slice (some ⟨bn, 0, none⟩) d.label.length cn) vl vs) [] 27) :: (bn, .cells rv spn 24) :: (F3 ++ H)) (by intro fsum; have := hs3 fsum; simp only [List.map_append, List.map_cons, List.map_nil, List.sum_append, List.sum_cons, List.sum_nil]; omega) ?_
          exact ⟨q - 1, by omega, i + 1, F3, by omega, rfl, hF3, rfl, rfl⟩
    · obtain rfl : i = d.label.length := by omega
      repeat' first
        | with_reducible refine Br.yes ?_
        | with_reducible refine Br.no ?_
        | with_reducible refine Br.dec (fun _ => ?_) (fun _ => ?_)
        | with_reducible refine Br.beqB (fun _ => ?_) (fun _ => ?_)
        | with_reducible refine Br.beqb (fun _ => ?_) (fun _ => ?_)
        | with_reducible refine Br.mk (fun _ => ?_) (fun _ => ?_)
        | with_reducible refine foundO.mk (fun _ _ => ?_) (fun _ => ?_)
        | with_reducible refine appV.zero ?_
        | with_reducible refine appV.own ?_
        | ((with_reducible refine NewB.mk fun nb hnb => ?_); have hnb1 := hnb.1.1; have hnb2 := hnb.1.2; try simp only [keys_cons, keys_app, keys_nil, NotIn_cons, NotIn_app, NotIn_nil, and_true] at hnb2)
        | ((with_reducible refine NewRow.mk fun nb nsp ncap hnb hncap => ?_); have hnb1 := hnb.1.1; have hnb2 := hnb.1.2; try simp only [keys_cons, keys_app, keys_nil, NotIn_cons, NotIn_app, NotIn_nil, and_true] at hnb2)
        | simp (dsimp := false) (implicitDefEqProofs := false) (disch := first | assumption | (simp only [List.mem_cons, List.mem_append, true_or, or_true, eq_self]; done) | omega | (with_reducible refine Row.adr (by assumption) ?_; simp only [List.length_map, List.length_take, List.length_drop]; omega) | (simp only [List.length_cons, List.length_nil, List.length_map, List.length_append, List.length_replicate, Nat.reduceAdd, true_and, and_true, and_self]; first | done | omega)) only [go_sem, ↓reduceIte, Nat.reduceEqDiff, Nat.reduceAdd, Nat.reduceSub, Nat.reduceMul, Nat.reduceBEq, Nat.reduceLT, Nat.reduceLeDiff, Nat.reduceMod, Nat.reducePow, List.reduceReplicate, UInt8.reduceOfNat, Int.reducePow, Int.reduceDiv, Int.reduceMod, Nat.reduceDiv, Int.reduceNeg, Int.reduceAdd, Int.reduceSub, Int.reduceMul, Int.reduceLE, Int.reduceLT, Int.reduceEq, Int.reduceToNat, reduceCtorEq, -List.reduceReplicate]
      rw [incM_all (by omega)] at hF1
      exact Upd.now ⟨F1, rfl, hF1, rfl, rfl⟩
theorem plus1_t {d : DfaT} (hsm : SmallD d) {C : List Value} {an al ay : Option Addr} {cn cl cs : Nat} {rs : List Value} {bx : Nat} {s : Tx} {G : PHeap} {H : Heap} {R : Value → PHeap → Heap → Prop} (O : OpenD G d C an al ay cn cl cs rs) (hR : R (.int .i64 (findF d.names s + 1)) G ((bx, .cells C [] 27) :: H)) :
    FnT Try.prog 39 [str s, .pointer (some ⟨bx, 0, none⟩)] G ((bx, .cells C [] 27) :: H) R := by
  refine FnT.upd ?_
  have hCl := O.len
  have hCs := O.s
  have hl : d.names.length ≤ 2000000 := hsm.2.2.2.1
  have hv : Sl G str (.slice ay d.names.length cs) d.names := ⟨ay, cs, rfl, O.ry, O.ryc⟩
  have hb : -1 ≤ findF d.names s ∧ findF d.names s ≤ 2000000 := by
    cases hp : place d.names s with
    | none => rw [findF_none hp]; omega
    | some n =>
      have := (place_some hp).1
      rw [findF_some hp]; omega
  refine FnT.body tok [0, 1, 3] Try.func39 rfl (by kernel_rfl) (by kernel_rfl) (by show _ ≤ 9; simp) fun hsep => ?_
  rw [Try.results39]
  have hsE := hsep
  try simp only [keys_cons, keys_app, keys_nil, Sep_cons, Sep_nil, NotIn_cons, NotIn_app, NotIn_nil, List.cons_append, List.nil_append, List.append_assoc, and_assoc, and_true, true_and] at hsE
  repeat (obtain ⟨hsx, hsE⟩ := hsE)
  repeat' first
    | with_reducible refine Br.yes ?_
    | with_reducible refine Br.no ?_
    | with_reducible refine Br.dec (fun _ => ?_) (fun _ => ?_)
    | with_reducible refine Br.beqB (fun _ => ?_) (fun _ => ?_)
    | with_reducible refine Br.beqb (fun _ => ?_) (fun _ => ?_)
    | with_reducible refine Br.mk (fun _ => ?_) (fun _ => ?_)
    | with_reducible refine foundO.mk (fun _ _ => ?_) (fun _ => ?_)
    | with_reducible refine appV.zero ?_
    | with_reducible refine appV.own ?_
    | ((with_reducible refine NewB.mk fun nb hnb => ?_); have hnb1 := hnb.1.1; have hnb2 := hnb.1.2; try simp only [keys_cons, keys_app, keys_nil, NotIn_cons, NotIn_app, NotIn_nil, and_true] at hnb2)
    | ((with_reducible refine NewRow.mk fun nb nsp ncap hnb hncap => ?_); have hnb1 := hnb.1.1; have hnb2 := hnb.1.2; try simp only [keys_cons, keys_app, keys_nil, NotIn_cons, NotIn_app, NotIn_nil, and_true] at hnb2)
    | simp (dsimp := false) (implicitDefEqProofs := false) (disch := first | assumption | (simp only [List.mem_cons, List.mem_append, true_or, or_true, eq_self]; done) | omega | (with_reducible refine Row.adr (by assumption) ?_; simp only [List.length_map, List.length_take, List.length_drop]; omega) | (simp only [List.length_cons, List.length_nil, List.length_map, List.length_append, List.length_replicate, Nat.reduceAdd, true_and, and_true, and_self]; first | done | omega)) only [go_sem, ↓reduceIte, Nat.reduceEqDiff, Nat.reduceAdd, Nat.reduceSub, Nat.reduceMul, Nat.reduceBEq, Nat.reduceLT, Nat.reduceLeDiff, Nat.reduceMod, Nat.reducePow, List.reduceReplicate, UInt8.reduceOfNat, Int.reducePow, Int.reduceDiv, Int.reduceMod, Nat.reduceDiv, Int.reduceNeg, Int.reduceAdd, Int.reduceSub, Int.reduceMul, Int.reduceLE, Int.reduceLT, Int.reduceEq, Int.reduceToNat, reduceCtorEq, -List.reduceReplicate, List.toList_toArray, hCl, hCs]
    | with_reducible refine index_t d.names s hl hv ?_
  all_goals refine Upd.finL ?_ (Upd.now hR) ?_
  any_goals (intro fsum; first | exact Nat.le_refl _ | (simp only [List.map_append, List.map_cons, List.map_nil, List.sum_append, List.sum_cons, List.sum_nil, List.cons_append, List.nil_append]; omega))
  all_goals rfl
set_option maxHeartbeats 16000000 in
theorem lplus_t {d : DfaT} (hsm : SmallD d) {G : PHeap} {H : Heap} {R : Value → PHeap → Heap → Prop} {v : Value} (hv : IsD G d v)
    (hR : ∀ G' v', PLe G G' → Sep G' (keys H) → IsD G' (plusR d).1 v' → R (.tuple #[v', .int .i64 (plusR d).2]) G' H) : FnT Try.prog 20 [v] G H R := by
  obtain ⟨C, an, al, ay, cn, cl, cs, rs, rfl, O⟩ := hv.opened
  have hCl := O.len
  have hCa := O.all
  have hCs := O.s
  have hCx := O.l
  obtain ⟨hm1, hm2, hm3, hm4, hm5⟩ := id hsm
  have hr1 : ∀ x : Value, List.replicate 1 x = [x] := fun _ => rfl
  refine FnT.sep ?_
  by_cases hok : RightP d
  · have hb := boolOf_yes hok
    obtain ⟨hk1, hk2, hk3, hk4, hk5, hk6, hk7⟩ := id hok
    have hw1 : 1 ≤ d.width := by
      have h0 : 0 < d.of.length := by rw [O.ofl]; omega
      have := List.length_pos_of_mem ((mem_tabO d.of).2 (List.getElem_mem h0))
      omega
    refine FnT.bodyS tok [0, 1, 2, 3, 4, 6, 7, 10, 21, 26, 29, 30, 31, 32, 36, 37, 38] (.seq .run (.seq .run (.seq .run (.seq .run (.seq .run (.seq .cut .cut)))))) Try.func20 rfl (by kernel_rfl) (by kernel_rfl) (by show _ ≤ 64; simp) fun hsep => ?_
    rw [Try.results20]
    have hsE := hsep
    try simp only [keys_cons, keys_app, keys_nil, Sep_cons, Sep_nil, NotIn_cons, NotIn_app, NotIn_nil, List.cons_append, List.nil_append, List.append_assoc, and_assoc, and_true, true_and] at hsE
    repeat (obtain ⟨hsx, hsE⟩ := hsE)
    repeat' first
      | with_reducible refine Br.yes ?_
      | with_reducible refine Br.no ?_
      | with_reducible refine Br.dec (fun _ => ?_) (fun _ => ?_)
      | with_reducible refine Br.beqB (fun _ => ?_) (fun _ => ?_)
      | with_reducible refine Br.beqb (fun _ => ?_) (fun _ => ?_)
      | with_reducible refine Br.mk (fun _ => ?_) (fun _ => ?_)
      | with_reducible refine foundO.mk (fun _ _ => ?_) (fun _ => ?_)
      | with_reducible refine appV.zero ?_
      | with_reducible refine appV.own ?_
      | ((with_reducible refine NewB.mk fun nb hnb => ?_); have hnb1 := hnb.1.1; have hnb2 := hnb.1.2; try simp only [keys_cons, keys_app, keys_nil, NotIn_cons, NotIn_app, NotIn_nil, and_true] at hnb2)
      | ((with_reducible refine NewRow.mk fun nb nsp ncap hnb hncap => ?_); have hnb1 := hnb.1.1; have hnb2 := hnb.1.2; try simp only [keys_cons, keys_app, keys_nil, NotIn_cons, NotIn_app, NotIn_nil, and_true] at hnb2)
      | simp (dsimp := false) (implicitDefEqProofs := false) (disch := first | assumption | (simp only [List.mem_cons, List.mem_append, true_or, or_true, eq_self]; done) | omega | (with_reducible refine Row.adr (by assumption) ?_; simp only [List.length_map, List.length_take, List.length_drop]; omega) | (simp only [List.length_cons, List.length_nil, List.length_map, List.length_append, List.length_replicate, Nat.reduceAdd, true_and, and_true, and_self]; first | done | omega)) only [go_sem, ↓reduceIte, Nat.reduceEqDiff, Nat.reduceAdd, Nat.reduceSub, Nat.reduceMul, Nat.reduceBEq, Nat.reduceLT, Nat.reduceLeDiff, Nat.reduceMod, Nat.reducePow, List.reduceReplicate, UInt8.reduceOfNat, Int.reducePow, Int.reduceDiv, Int.reduceMod, Nat.reduceDiv, Int.reduceNeg, Int.reduceAdd, Int.reduceSub, Int.reduceMul, Int.reduceLE, Int.reduceLT, Int.reduceEq, Int.reduceToNat, reduceCtorEq, -List.reduceReplicate, List.toList_toArray, hCl, hCa, hCs, zeroC_len, zeroC_one, zeroC_take, zeroC_put, hb]
      | with_reducible refine right_t hsm O.is ?_
    rename_i b1 h10 h11 h12
    obtain ⟨b2, e0⟩ : ∃ x, x = nb := ⟨_, rfl⟩
    subst e0
    refine FnT.leave (H' := (b1, .cells C [] 27) :: (b2, .cells (List.replicate 256 (Value.int .u8 0) ++ [Value.int .i64 0, Value.slice none 0 0, Value.slice none 0 0, Value.slice none 0 0]) [] 27) :: H) ?_ (by intro fsum; first | exact Nat.le_refl _ | (simp only [List.map_append, List.map_cons, List.map_nil, List.sum_append, List.sum_cons, List.sum_nil, List.cons_append, List.nil_append]; omega))
    have hlab := labW_same hok
    refine FnT.sep (FnT.upd (with_t hsm hok hm4 O.is ⟨ay, cs, rfl, O.ry, O.ryc⟩ (g := fun s => findF d.names s + 1) (fun s G1 H1 R1 hle hs hR1 => plus1_t hsm (O.mono hle) hR1) fun G1 vs bn cn1 spn rv bl cl1 spl F hle1 hs1 hvs hF hcn1 hcl1 => ?_))
    have hz : List.replicate 256 (Value.int .u8 0) ++ [Value.int .i64 0, Value.slice none 0 0, Value.slice none 0 0, Value.slice none 0 0] = zeroC := rfl
    rw [hlab, hz]
    refine Upd.go (H' := (b1, .cells C [] 27) :: (b2, .cells zeroC [] 27) :: (bn, .cells rv spn 24) :: (bl, .cells (d.label.map (Value.int .i64)) spl 3) :: (F ++ H)) (by intro fsum; simp only [List.map_append, List.map_cons, List.map_nil, List.sum_append, List.sum_cons, List.sum_nil, List.cons_append, List.nil_append]; omega) (Upd.now fun _ hs2 => ?_)
    have hl2 : ∀ a b c : Value, (cellsD d a b c).length = 260 := fun a b c => cellsD_len O.ofl _ _ _
    have ht2 : ∀ a b c : Value, List.take 260 (cellsD d a b c) = cellsD d a b c := fun a b c => cellsD_all O.ofl _ _ _
    have hputz : ∀ a b c : Value, splice zeroC 0 (cellsD d a b c) = cellsD d a b c := fun a b c => wdf_over zeroC_len (hl2 _ _ _)
    obtain ⟨ay1, cy1, rfl, hry1, hcy1⟩ := id hvs
    have hone := cellsD_one (d := d) (vn := .slice (some ⟨bn, 0, none⟩) d.label.length cn1) (vl := .slice (some ⟨bl, 0, none⟩) d.label.length cl1) (vs := .slice ay1 d.names.length cy1) rfl rfl rfl
    obtain ⟨x0, hx0⟩ : ∃ x0, x0 = d.label[0]'(by omega) := ⟨_, rfl⟩
    have hxh : d.label.headD 0 = x0 := by
      have hh : ∀ (l : List Int) (h : 0 < l.length), l.headD 0 = l[0] := fun l h => by
        cases l with
        | nil => cases h
        | cons a l => rfl
      rw [hx0]
      exact hh d.label (by omega)
    have O1 := OpenD.mono hle1 O
    have hadl : Adr al := O1.rl.adr (by rw [List.length_map]; omega)
    have hl0 : 0 < d.label.length := by omega
    have hsE := hs2
    try simp only [keys_cons, keys_app, keys_nil, Sep_cons, Sep_nil, NotIn_cons, NotIn_app, NotIn_nil, List.cons_append, List.nil_append, List.append_assoc, and_assoc, and_true, true_and] at hsE
    repeat (obtain ⟨hsx, hsE⟩ := hsE)
    repeat' first
      | with_reducible refine Br.yes ?_
      | with_reducible refine Br.no ?_
      | with_reducible refine Br.dec (fun _ => ?_) (fun _ => ?_)
      | with_reducible refine Br.beqB (fun _ => ?_) (fun _ => ?_)
      | with_reducible refine Br.beqb (fun _ => ?_) (fun _ => ?_)
      | with_reducible refine Br.mk (fun _ => ?_) (fun _ => ?_)
      | with_reducible refine foundO.mk (fun _ _ => ?_) (fun _ => ?_)
      | with_reducible refine appV.zero ?_
      | with_reducible refine appV.own ?_
      | ((with_reducible refine NewB.mk fun nb hnb => ?_); have hnb1 := hnb.1.1; have hnb2 := hnb.1.2; try simp only [keys_cons, keys_app, keys_nil, NotIn_cons, NotIn_app, NotIn_nil, and_true] at hnb2)
      | ((with_reducible refine NewRow.mk fun nb nsp ncap hnb hncap => ?_); have hnb1 := hnb.1.1; have hnb2 := hnb.1.2; try simp only [keys_cons, keys_app, keys_nil, NotIn_cons, NotIn_app, NotIn_nil, and_true] at hnb2)
      | simp (dsimp := false) (implicitDefEqProofs := false) (disch := first | assumption | (simp only [List.mem_cons, List.mem_append, true_or, or_true, eq_self]; done) | omega | (with_reducible refine Row.adr (by assumption) ?_; simp only [List.length_map, List.length_take, List.length_drop]; omega) | (simp only [List.length_cons, List.length_nil, List.length_map, List.length_append, List.length_replicate, Nat.reduceAdd, true_and, and_true, and_self]; first | done | omega)) only [go_sem, ↓reduceIte, Nat.reduceEqDiff, Nat.reduceAdd, Nat.reduceSub, Nat.reduceMul, Nat.reduceBEq, Nat.reduceLT, Nat.reduceLeDiff, Nat.reduceMod, Nat.reducePow, List.reduceReplicate, UInt8.reduceOfNat, Int.reducePow, Int.reduceDiv, Int.reduceMod, Nat.reduceDiv, Int.reduceNeg, Int.reduceAdd, Int.reduceSub, Int.reduceMul, Int.reduceLE, Int.reduceLT, Int.reduceEq, Int.reduceToNat, reduceCtorEq, -List.reduceReplicate, List.toList_toArray, hCl, hCx, hl2, ht2, hputz, hone, zeroC_len, Row.obj0 O1.rl, List.getElem_map, ← hx0, zeroC_one, zeroC_take, zeroC_put]
    · rename_i hx
      rw [plusR_none hok (hxh.trans hx)] at hR
      unfold UpdR
      refine Upd.go (H' := (bn, .cells rv spn 24) :: (bl, .cells (d.label.map (Value.int .i64)) spl 3) :: (F ++ H)) (by intro fsum; simp only [List.map_append, List.map_cons, List.map_nil, List.sum_append, List.sum_cons, List.sum_nil, List.cons_append, List.nil_append]; omega) ?_
      refine Upd.trans (Upd.shareRow (by assumption) fun G2 hle2 hs3 hr2 => ?_)
      refine Upd.trans (Upd.shareRow hs3.1.1 fun G3 hle3 hs4 hr3 => ?_)
      refine hF.share hs4 fun G4 hle4 hs5 hall => ?_
      have hrv := hF.lenv
      rw [matN_len] at hrv
      exact fun _ _ => hR G4 _ (hle1.trans (hle2.trans (hle3.trans hle4))) hs5 ⟨O.ofl, O.ofb, _, _, _, rfl, matN_slS (rows := d.next) hk3 (hr2.mono (hle3.trans hle4)) (by omega) (by omega) hall, ⟨_, cl1, rfl, hr3.mono hle4, (by show d.label.length ≤ _; omega)⟩, hvs.mono (hle2.trans (hle3.trans hle4))⟩
    · rename_i hx hbig
      rw [plusR_big hok (fun h => hx (hxh.symm.trans h)) (by omega)] at hR
      unfold UpdR
      refine Upd.leave (H' := H) (by intro fsum; simp only [List.map_append, List.map_cons, List.map_nil, List.sum_append, List.sum_cons, List.sum_nil, List.cons_append, List.nil_append]; omega) ?_
      exact fun _ hs => hR G1 _ hle1 hs (zeroD_is _)
    · rename_i hx hbig
      obtain ⟨b4, e40⟩ : ∃ x, x = nb := ⟨_, rfl⟩
      subst e40
      rw [plusR_ok hok (fun h => hx (hxh.symm.trans h)) (fun h => hbig (by omega))] at hR
      refine Tri.live [2, 3, 4] ?_
      refine Tri.upd (Upd.go (H' := (b4, .cells (cellsD d (.slice (some ⟨bn, 0, none⟩) d.label.length cn1) (.slice (some ⟨bl, 0, none⟩) d.label.length cl1) (.slice ay1 d.names.length cy1)) [] 27) :: (bn, .cells rv spn 24) :: (F ++ ((b2, .cells zeroC [] 27) :: (bl, .cells (d.label.map (Value.int .i64)) spl 3) :: H))) (by intro fsum; simp only [List.map_append, List.map_cons, List.map_nil, List.sum_append, List.sum_cons, List.sum_nil, List.cons_append, List.nil_append]; omega) (Upd.now ?_))
      refine Tri.isPiece [1, 1, 1, 1, 1, 0] Try.f20 (by kernel_rfl) ?_
      refine Tri.onlyN (pl_t hsm hok O.ofl hF) fun G2 l2 H2 hle2 hs3 hM => ?_
      obtain ⟨F', rfl, hF', hfr, rfl⟩ := hM
      simp only [go_sem]
      refine Tri.live [2, 3, 4] ?_
      rw [hfr]
      refine Tri.upd (Upd.go (H' := F' ++ ((b4, .cells (cellsD d (.slice (some ⟨bn, 0, none⟩) d.label.length cn1) (.slice (some ⟨bl, 0, none⟩) d.label.length cl1) (.slice ay1 d.names.length cy1)) [] 27) :: (bn, .cells rv spn 24) :: (b2, .cells zeroC [] 27) :: (bl, .cells (d.label.map (Value.int .i64)) spl 3) :: H)) (by intro fsum; simp only [List.map_append, List.map_cons, List.map_nil, List.sum_append, List.sum_cons, List.sum_nil, List.cons_append, List.nil_append]; omega) (Upd.now ?_))
      refine Tri.sepT fun hsF => ?_
      refine Tri.upd (hF'.share hsF fun G3 hle3 hs4 hall => ?_)
      have hsE := hs4
      try simp only [keys_cons, keys_app, keys_nil, Sep_cons, Sep_nil, NotIn_cons, NotIn_app, NotIn_nil, List.cons_append, List.nil_append, List.append_assoc, and_assoc, and_true, true_and] at hsE
      repeat (obtain ⟨hsx, hsE⟩ := hsE)
      refine Tri.run tok [0, 1, 2, 3, 4, 6, 7, 10, 21, 26, 29, 30, 31, 32, 36, 37, 38] (by kernel_rfl) ?_
      have hg1 : ∀ a b c : Value, (cellsD d a b c)[257]? = some a := fun a b c => cellsD_n O.ofl _ _ _
      have hg2 : ∀ a b c : Value, (cellsD d a b c)[258]? = some b := fun a b c => cellsD_l O.ofl _ _ _
      have hputN : ∀ a b c x : Value, splice (cellsD d a b c) 257 [x] = cellsD d x b c := fun a b c x => cellsD_putN O.ofl _ _ _ _
      have hputL : ∀ a b c x : Value, splice (cellsD d a b c) 258 [x] = cellsD d a x c := fun a b c x => cellsD_putL O.ofl _ _ _ _
      have hrv := hF.lenv
      rw [matN_len] at hrv
      obtain ⟨hw0, hlt0, hlt1, hrng⟩ := hk7 0 (by omega) (by omega)
      have h0M : 0 < (matN (d.next.map fun r => r.map (· + 1))).length := by rw [matN_len, List.length_map]; omega
      obtain ⟨a0, c0, e1, e2, e3⟩ := hall 0 h0M (by omega)
      have hg0 : (matN (d.next.map fun r => r.map (· + 1)))[0]'h0M = ((d.next[0]'(by omega)).map (· + 1)).map (Value.int .i64) := by simp only [matN, List.getElem_map]
      rw [hg0] at e1 e2 e3
      rw [List.length_map, List.length_map] at e1 e3
      have hgv : (rv ++ spn)[0]? = some (.slice a0 (d.next[0]'(by omega)).length c0) := by
        rw [List.getElem?_append_left (by omega), List.getElem?_eq_getElem (by omega), e1]
      have hrl := hm2 _ (List.getElem_mem (show 0 < d.next.length by omega))
      repeat' first
        | with_reducible refine Br.yes ?_
        | with_reducible refine Br.no ?_
        | with_reducible refine Br.dec (fun _ => ?_) (fun _ => ?_)
        | with_reducible refine Br.beqB (fun _ => ?_) (fun _ => ?_)
        | with_reducible refine Br.beqb (fun _ => ?_) (fun _ => ?_)
        | with_reducible refine Br.mk (fun _ => ?_) (fun _ => ?_)
        | with_reducible refine foundO.mk (fun _ _ => ?_) (fun _ => ?_)
        | with_reducible refine appV.zero ?_
        | with_reducible refine appV.own ?_
        | ((with_reducible refine NewB.mk fun nb hnb => ?_); have hnb1 := hnb.1.1; have hnb2 := hnb.1.2; try simp only [keys_cons, keys_app, keys_nil, NotIn_cons, NotIn_app, NotIn_nil, and_true] at hnb2)
        | ((with_reducible refine NewRow.mk fun nb nsp ncap hnb hncap => ?_); have hnb1 := hnb.1.1; have hnb2 := hnb.1.2; try simp only [keys_cons, keys_app, keys_nil, NotIn_cons, NotIn_app, NotIn_nil, and_true] at hnb2)
        | simp (dsimp := false) (implicitDefEqProofs := false) (disch := first | assumption | (simp only [List.mem_cons, List.mem_append, true_or, or_true, eq_self]; done) | omega | (with_reducible refine Row.adr (by assumption) ?_; simp only [List.length_map, List.length_take, List.length_drop]; omega) | (simp only [List.length_cons, List.length_nil, List.length_map, List.length_append, List.length_replicate, Nat.reduceAdd, true_and, and_true, and_self]; first | done | omega)) only [go_sem, ↓reduceIte, Nat.reduceEqDiff, Nat.reduceAdd, Nat.reduceSub, Nat.reduceMul, Nat.reduceBEq, Nat.reduceLT, Nat.reduceLeDiff, Nat.reduceMod, Nat.reducePow, List.reduceReplicate, UInt8.reduceOfNat, Int.reducePow, Int.reduceDiv, Int.reduceMod, Nat.reduceDiv, Int.reduceNeg, Int.reduceAdd, Int.reduceSub, Int.reduceMul, Int.reduceLE, Int.reduceLT, Int.reduceEq, Int.reduceToNat, reduceCtorEq, -List.reduceReplicate, hl2, hg1, hg2, hputN, hputL, hgv, hr1]
        | with_reducible refine Tri.drawS tok mixed [0, 1, 2, 3, 4, 6, 7, 10, 21, 26, 29, 30, 31, 32, 36, 37, 38] 17 [1] (.op 0 .plain (.op 1 .held (.op 2 .plain (.op 3 .keeps (.op 4 .plain (.op 5 .keeps (.op 6 .keeps (.op 7 .keeps (.op 8 .plain (.op 9 .plain (.op 10 .plain .nil))))))))))) (by kernel_rfl) [(b4, .cells (cellsD d (.slice (some ⟨bn, 0, none⟩) d.label.length cn1) (.slice (some ⟨bl, 0, none⟩) d.label.length cl1) (.slice ay1 d.names.length cy1)) [] 27)] (by intro fsum; first | exact Nat.le_refl _ | (simp only [List.map_append, List.map_cons, List.map_nil, List.sum_append, List.sum_cons, List.sum_nil, List.cons_append, List.nil_append]; omega)) ?_
      refine clonei_t ((d.next[0]'(by omega)).map (· + 1)) (by rw [List.length_map]; exact hrl) ⟨a0, c0, by rw [List.length_map], e2, by rw [List.length_map]; exact e3⟩ fun v5 k5 hs5 hO5 => ?_
      rcases hO5 with ⟨_, _, h0, _, _⟩ | ⟨br, cr, spr, rfl, rfl, hy, hyc⟩
      · rw [List.length_map] at h0; omega
      rw [List.length_map, Nat.mul_one, List.length_map] at hyc
      rw [List.length_map]
      have hsE := hs5
      try simp only [keys_cons, keys_app, keys_nil, Sep_cons, Sep_nil, NotIn_cons, NotIn_app, NotIn_nil, List.cons_append, List.nil_append, List.append_assoc, and_assoc, and_true, true_and] at hsE
      repeat (obtain ⟨hsx, hsE⟩ := hsE)
      have hx1 : oneV (.slice (some ⟨br, 0, none⟩) (d.next[0]'(by omega)).length cr) = true := rfl
      repeat' first
        | with_reducible refine Br.yes ?_
        | with_reducible refine Br.no ?_
        | with_reducible refine Br.dec (fun _ => ?_) (fun _ => ?_)
        | with_reducible refine Br.beqB (fun _ => ?_) (fun _ => ?_)
        | with_reducible refine Br.beqb (fun _ => ?_) (fun _ => ?_)
        | with_reducible refine Br.mk (fun _ => ?_) (fun _ => ?_)
        | with_reducible refine foundO.mk (fun _ _ => ?_) (fun _ => ?_)
        | with_reducible refine appV.zero ?_
        | with_reducible refine appV.own ?_
        | ((with_reducible refine NewB.mk fun nb hnb => ?_); have hnb1 := hnb.1.1; have hnb2 := hnb.1.2; try simp only [keys_cons, keys_app, keys_nil, NotIn_cons, NotIn_app, NotIn_nil, and_true] at hnb2)
        | ((with_reducible refine NewRow.mk fun nb nsp ncap hnb hncap => ?_); have hnb1 := hnb.1.1; have hnb2 := hnb.1.2; try simp only [keys_cons, keys_app, keys_nil, NotIn_cons, NotIn_app, NotIn_nil, and_true] at hnb2)
        | simp (dsimp := false) (implicitDefEqProofs := false) (disch := first | assumption | (simp only [List.mem_cons, List.mem_append, true_or, or_true, eq_self]; done) | omega | (with_reducible refine Row.adr (by assumption) ?_; simp only [List.length_map, List.length_take, List.length_drop]; omega) | (simp only [List.length_cons, List.length_nil, List.length_map, List.length_append, List.length_replicate, Nat.reduceAdd, true_and, and_true, and_self]; first | done | omega)) only [go_sem, ↓reduceIte, Nat.reduceEqDiff, Nat.reduceAdd, Nat.reduceSub, Nat.reduceMul, Nat.reduceBEq, Nat.reduceLT, Nat.reduceLeDiff, Nat.reduceMod, Nat.reducePow, List.reduceReplicate, UInt8.reduceOfNat, Int.reducePow, Int.reduceDiv, Int.reduceMod, Nat.reduceDiv, Int.reduceNeg, Int.reduceAdd, Int.reduceSub, Int.reduceMul, Int.reduceLE, Int.reduceLT, Int.reduceEq, Int.reduceToNat, reduceCtorEq, -List.reduceReplicate, hl2, hg1, hg2, hputN, hputL, hgv, hr1]
      have hrvone : rv.all oneV = true := by
        refine List.all_eq_true.2 fun v hv => ?_
        obtain ⟨i, hi, rfl⟩ := List.getElem_of_mem hv
        obtain ⟨a, c, e, _⟩ := hall i (by rw [matN_len, List.length_map]; omega) hi
        rw [e]; rfl
      refine FnT.sep (FnT.leave (H' := (bn, .cells rv spn 24) :: (nb, .cells [.slice (some ⟨br, 0, none⟩) (d.next[0]'(by omega)).length cr] [] 24) :: (b4, .cells (cellsD d (.slice (some ⟨bn, 0, none⟩) d.label.length cn1) (.slice (some ⟨bl, 0, none⟩) d.label.length cl1) (.slice ay1 d.names.length cy1)) [] 27) :: (br, .cells (((d.next[0]'(by omega)).map (· + 1)).map (Value.int .i64)) spr 3) :: (b2, .cells zeroC [] 27) :: (bl, .cells (d.label.map (Value.int .i64)) spl 3) :: H) ?_ (by intro fsum; simp only [List.map_append, List.map_cons, List.map_nil, List.sum_append, List.sum_cons, List.sum_nil, List.cons_append, List.nil_append]; omega))
      refine insR_t (by omega) (by omega) (by omega) hcn1 hrvone hx1 fun b7 c7 sp7 _ hc7 _ hs7 => ?_
      have hsE := hs7
      try simp only [keys_cons, keys_app, keys_nil, Sep_cons, Sep_nil, NotIn_cons, NotIn_app, NotIn_nil, List.cons_append, List.nil_append, List.append_assoc, and_assoc, and_true, true_and] at hsE
      repeat (obtain ⟨hsx, hsE⟩ := hsE)
      have hone2 : ∀ (a a' a'' : Option Addr) (n c n' c' n'' c'' : Nat), (cellsD d (.slice a n c) (.slice a' n' c') (.slice a'' n'' c'')).all oneV = true := fun a a' a'' n c n' c' n'' c'' => cellsD_one rfl rfl rfl
      repeat' first
        | with_reducible refine Br.yes ?_
        | with_reducible refine Br.no ?_
        | with_reducible refine Br.dec (fun _ => ?_) (fun _ => ?_)
        | with_reducible refine Br.beqB (fun _ => ?_) (fun _ => ?_)
        | with_reducible refine Br.beqb (fun _ => ?_) (fun _ => ?_)
        | with_reducible refine Br.mk (fun _ => ?_) (fun _ => ?_)
        | with_reducible refine foundO.mk (fun _ _ => ?_) (fun _ => ?_)
        | with_reducible refine appV.zero ?_
        | with_reducible refine appV.own ?_
        | ((with_reducible refine NewB.mk fun nb hnb => ?_); have hnb1 := hnb.1.1; have hnb2 := hnb.1.2; try simp only [keys_cons, keys_app, keys_nil, NotIn_cons, NotIn_app, NotIn_nil, and_true] at hnb2)
        | ((with_reducible refine NewRow.mk fun nb nsp ncap hnb hncap => ?_); have hnb1 := hnb.1.1; have hnb2 := hnb.1.2; try simp only [keys_cons, keys_app, keys_nil, NotIn_cons, NotIn_app, NotIn_nil, and_true] at hnb2)
        | simp (dsimp := false) (implicitDefEqProofs := false) (disch := first | assumption | (simp only [List.mem_cons, List.mem_append, true_or, or_true, eq_self]; done) | omega | (with_reducible refine Row.adr (by assumption) ?_; simp only [List.length_map, List.length_take, List.length_drop]; omega) | (simp only [List.length_cons, List.length_nil, List.length_map, List.length_append, List.length_replicate, Nat.reduceAdd, true_and, and_true, and_self]; first | done | omega)) only [go_sem, ↓reduceIte, Nat.reduceEqDiff, Nat.reduceAdd, Nat.reduceSub, Nat.reduceMul, Nat.reduceBEq, Nat.reduceLT, Nat.reduceLeDiff, Nat.reduceMod, Nat.reducePow, List.reduceReplicate, UInt8.reduceOfNat, Int.reducePow, Int.reduceDiv, Int.reduceMod, Nat.reduceDiv, Int.reduceNeg, Int.reduceAdd, Int.reduceSub, Int.reduceMul, Int.reduceLE, Int.reduceLT, Int.reduceEq, Int.reduceToNat, reduceCtorEq, -List.reduceReplicate, hl2, hg1, hg2, hputN, hputL, hgv, hr1]
      refine FnT.sep (FnT.leave (H' := (bl, .cells (d.label.map (Value.int .i64)) spl 3) :: (nb, .cells [.int .i64 0] [] 3) :: (b4, .cells (cellsD d (.slice (some ⟨b7, 0, none⟩) (d.label.length + 1) c7) (.slice (some ⟨bl, 0, none⟩) d.label.length cl1) (.slice ay1 d.names.length cy1)) [] 27) :: (b7, .cells (.slice (some ⟨br, 0, none⟩) (d.next[0]'(by omega)).length cr :: rv) sp7 24) :: (br, .cells (((d.next[0]'(by omega)).map (· + 1)).map (Value.int .i64)) spr 3) :: (b2, .cells zeroC [] 27) :: H) ?_ (by intro fsum; simp only [List.map_append, List.map_cons, List.map_nil, List.sum_append, List.sum_cons, List.sum_nil, List.cons_append, List.nil_append]; omega))
      refine insI_t (by omega) (by omega) (by rw [List.length_map]) hcl1 (one_int _ _) rfl fun b8 c8 sp8 _ hc8 _ hs8 => ?_
      have hsE := hs8
      try simp only [keys_cons, keys_app, keys_nil, Sep_cons, Sep_nil, NotIn_cons, NotIn_app, NotIn_nil, List.cons_append, List.nil_append, List.append_assoc, and_assoc, and_true, true_and] at hsE
      repeat (obtain ⟨hsx, hsE⟩ := hsE)
      repeat' first
        | with_reducible refine Br.yes ?_
        | with_reducible refine Br.no ?_
        | with_reducible refine Br.dec (fun _ => ?_) (fun _ => ?_)
        | with_reducible refine Br.beqB (fun _ => ?_) (fun _ => ?_)
        | with_reducible refine Br.beqb (fun _ => ?_) (fun _ => ?_)
        | with_reducible refine Br.mk (fun _ => ?_) (fun _ => ?_)
        | with_reducible refine foundO.mk (fun _ _ => ?_) (fun _ => ?_)
        | with_reducible refine appV.zero ?_
        | with_reducible refine appV.own ?_
        | ((with_reducible refine NewB.mk fun nb hnb => ?_); have hnb1 := hnb.1.1; have hnb2 := hnb.1.2; try simp only [keys_cons, keys_app, keys_nil, NotIn_cons, NotIn_app, NotIn_nil, and_true] at hnb2)
        | ((with_reducible refine NewRow.mk fun nb nsp ncap hnb hncap => ?_); have hnb1 := hnb.1.1; have hnb2 := hnb.1.2; try simp only [keys_cons, keys_app, keys_nil, NotIn_cons, NotIn_app, NotIn_nil, and_true] at hnb2)
        | simp (dsimp := false) (implicitDefEqProofs := false) (disch := first | assumption | (simp only [List.mem_cons, List.mem_append, true_or, or_true, eq_self]; done) | omega | (with_reducible refine Row.adr (by assumption) ?_; simp only [List.length_map, List.length_take, List.length_drop]; omega) | (simp only [List.length_cons, List.length_nil, List.length_map, List.length_append, List.length_replicate, Nat.reduceAdd, true_and, and_true, and_self]; first | done | omega)) only [go_sem, ↓reduceIte, Nat.reduceEqDiff, Nat.reduceAdd, Nat.reduceSub, Nat.reduceMul, Nat.reduceBEq, Nat.reduceLT, Nat.reduceLeDiff, Nat.reduceMod, Nat.reducePow, List.reduceReplicate, UInt8.reduceOfNat, Int.reducePow, Int.reduceDiv, Int.reduceMod, Nat.reduceDiv, Int.reduceNeg, Int.reduceAdd, Int.reduceSub, Int.reduceMul, Int.reduceLE, Int.reduceLT, Int.reduceEq, Int.reduceToNat, reduceCtorEq, -List.reduceReplicate, hl2, ht2, hputz, hone2, zeroC_len, hg1, hg2, hputN, hputL, hgv, hr1]
      unfold UpdR
      refine Upd.go (H' := (b7, .cells (.slice (some ⟨br, 0, none⟩) (d.next[0]'(by omega)).length cr :: rv) sp7 24) :: (b8, .cells (.int .i64 0 :: d.label.map (Value.int .i64)) sp8 3) :: (br, .cells (((d.next[0]'(by omega)).map (· + 1)).map (Value.int .i64)) spr 3) :: H) (by intro fsum; simp only [List.map_append, List.map_cons, List.map_nil, List.sum_append, List.sum_cons, List.sum_nil, List.cons_append, List.nil_append]; omega) ?_
      refine Upd.trans (Upd.shareRow (by assumption) fun G5 hle5 hs9 hr5 => ?_)
      refine Upd.trans (Upd.shareRow hs9.1.1 fun G6 hle6 hs10 hr6 => ?_)
      refine Upd.shareRow hs10.1.1 fun G7 hle7 hs11 hr7 => ?_
      have hn0 : d.next.headD [] = d.next[0]'(by omega) := by
        have hh : ∀ (l : List (List Int)) (h : 0 < l.length), l.headD [] = l[0] := fun l h => by
          cases l with
          | nil => cases h
          | cons a l => rfl
        exact hh d.next (by omega)
      have k7 := hle5.trans (hle6.trans hle7)
      have hxs : (plusD d).next.length = d.label.length + 1 := by
        show ((d.next.headD []).map (· + 1) :: d.next.map (fun r => r.map (· + 1))).length = _
        rw [List.length_cons, List.length_map, hk3]
      have hls : (plusD d).label.length = d.label.length + 1 := by
        show (0 :: d.label).length = _
        rw [List.length_cons]
      have k17 := hle1.trans (hle3.trans k7)
      refine fun _ _ => hR G7 _ k17 hs11 ⟨O.ofl, O.ofb, _, _, _, rfl, ⟨some ⟨b7, 0, none⟩, c7, _, ?_, hr5.mono (hle6.trans hle7), ?_, ?_, fun i h h2 => ?_⟩, ⟨some ⟨b8, 0, none⟩, c8, ?_, hr6.mono hle7, ?_⟩, hvs.mono (hle3.trans k7)⟩
      · show _ = Value.slice _ (plusD d).next.length _
        rw [hxs]
      · show _ = (plusD d).next.length
        rw [hxs, List.length_cons]; omega
      · show (plusD d).next.length ≤ _
        rw [hxs]; omega
      · cases i with
        | zero =>
          have hg : (plusD d, (0 : Int)).fst.next[0]'h = (d.next[0]'(by omega)).map (· + 1) := by
            show (d.next.headD []).map (· + 1) = _
            rw [hn0]
          rw [hg, List.length_map]
          exact ⟨some ⟨br, 0, none⟩, cr, rfl, hr7, by omega⟩
        | succ i =>
          have hi : i < d.next.length := by
            have h' : i + 1 < (plusD d).next.length := h
            omega
          have hg : (plusD d, (0 : Int)).fst.next[i + 1]'h = (d.next[i]'hi).map (· + 1) := by
            show (d.next.map (fun r => r.map (· + 1)))[i]'_ = _
            rw [List.getElem_map]
          obtain ⟨a, c, e1', e2', e3'⟩ := hall i (by rw [matN_len, List.length_map]; exact hi) (by omega)
          have hgi : (matN (d.next.map fun r => r.map (· + 1)))[i]'(by rw [matN_len, List.length_map]; exact hi) = ((d.next[i]'hi).map (· + 1)).map (Value.int .i64) := by simp only [matN, List.getElem_map]
          rw [hgi] at e1' e2' e3'
          rw [List.length_map] at e1' e3'
          rw [hg]
          exact ⟨a, c, e1', e2'.mono k7, e3'⟩
      · show _ = Value.slice _ (plusD d).label.length _
        rw [hls]
      · show (plusD d).label.length ≤ _
        rw [hls]; omega
  · have hb := boolOf_no hok
    rw [plusR_bad hok] at hR
    refine FnT.body tok [0, 1, 2, 3, 4, 6, 7, 10, 21, 26, 29, 30, 31, 32, 36, 37, 38] Try.func20 rfl (by kernel_rfl) (by kernel_rfl) (by show _ ≤ 64; simp) fun hsep => ?_
    rw [Try.results20]
    have hsE := hsep
    try simp only [keys_cons, keys_app, keys_nil, Sep_cons, Sep_nil, NotIn_cons, NotIn_app, NotIn_nil, List.cons_append, List.nil_append, List.append_assoc, and_assoc, and_true, true_and] at hsE
    repeat (obtain ⟨hsx, hsE⟩ := hsE)
    repeat' first
      | with_reducible refine Br.yes ?_
      | with_reducible refine Br.no ?_
      | with_reducible refine Br.dec (fun _ => ?_) (fun _ => ?_)
      | with_reducible refine Br.beqB (fun _ => ?_) (fun _ => ?_)
      | with_reducible refine Br.beqb (fun _ => ?_) (fun _ => ?_)
      | with_reducible refine Br.mk (fun _ => ?_) (fun _ => ?_)
      | with_reducible refine foundO.mk (fun _ _ => ?_) (fun _ => ?_)
      | with_reducible refine appV.zero ?_
      | with_reducible refine appV.own ?_
      | ((with_reducible refine NewB.mk fun nb hnb => ?_); have hnb1 := hnb.1.1; have hnb2 := hnb.1.2; try simp only [keys_cons, keys_app, keys_nil, NotIn_cons, NotIn_app, NotIn_nil, and_true] at hnb2)
      | ((with_reducible refine NewRow.mk fun nb nsp ncap hnb hncap => ?_); have hnb1 := hnb.1.1; have hnb2 := hnb.1.2; try simp only [keys_cons, keys_app, keys_nil, NotIn_cons, NotIn_app, NotIn_nil, and_true] at hnb2)
      | simp (dsimp := false) (implicitDefEqProofs := false) (disch := first | assumption | (simp only [List.mem_cons, List.mem_append, true_or, or_true, eq_self]; done) | omega | (with_reducible refine Row.adr (by assumption) ?_; simp only [List.length_map, List.length_take, List.length_drop]; omega) | (simp only [List.length_cons, List.length_nil, List.length_map, List.length_append, List.length_replicate, Nat.reduceAdd, true_and, and_true, and_self]; first | done | omega)) only [go_sem, ↓reduceIte, Nat.reduceEqDiff, Nat.reduceAdd, Nat.reduceSub, Nat.reduceMul, Nat.reduceBEq, Nat.reduceLT, Nat.reduceLeDiff, Nat.reduceMod, Nat.reducePow, List.reduceReplicate, UInt8.reduceOfNat, Int.reducePow, Int.reduceDiv, Int.reduceMod, Nat.reduceDiv, Int.reduceNeg, Int.reduceAdd, Int.reduceSub, Int.reduceMul, Int.reduceLE, Int.reduceLT, Int.reduceEq, Int.reduceToNat, reduceCtorEq, -List.reduceReplicate, List.toList_toArray, hCl, hCa, zeroC_len, zeroC_one, zeroC_take, zeroC_put, hb]
      | with_reducible refine right_t hsm O.is ?_
    unfold UpdR
    refine Upd.leave (H' := H) (by intro fsum; first | exact Nat.le_refl _ | (simp only [List.map_append, List.map_cons, List.map_nil, List.sum_append, List.sum_cons, List.sum_nil, List.cons_append, List.nil_append]; omega)) ?_
    exact fun _ hs => hR G _ (PLe.refl _) hs (zeroD_is _)
/-- the i-th row of the new machine, and its label -/
theorem plusD_next {d : DfaT} (h : 0 < d.next.length) {i : Nat} (hi : i ≤ d.next.length) : (plusD d).next[i]'(by show i < ((d.next.headD []).map (· + 1) :: d.next.map (fun r => r.map (· + 1))).length; rw [List.length_cons, List.length_map]; omega) = (d.next[i - 1]'(by omega)).map (· + 1) := by
  cases i with
  | zero =>
    show (d.next.headD []).map (· + 1) = _
    have hh : ∀ (l : List (List Int)) (h : 0 < l.length), l.headD [] = l[0] := fun l h => by
      cases l with
      | nil => cases h
      | cons a l => rfl
    rw [hh d.next h]
  | succ i =>
    show (d.next.map (fun r => r.map (· + 1)))[i]'_ = _
    rw [List.getElem_map]
    rfl
end Go.Proofs.Ytpagkndgjihbbaa
