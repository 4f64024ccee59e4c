/- The document's table of states that are told apart: one pair. -/
import Derived.Test.YtmlmhcejdlljjaaMe
import Derived.Test.YtmlmhcejdlljjaaVeM
set_option linter.unusedSimpArgs false
set_option linter.unusedVariables false
namespace Go.Proofs.Ytmlmhcejdlljjaa
open Go Go.V Go.Proofs

/-- the state behind one, by a class -/
def nxN (d : DfaT) (s c : Nat) : Nat := (atL (d.next.getD s []) c).toNat
/-- is a pair told apart by a word more? -/
def yTo (d : DfaT) (f : Nat → Nat → Bool) (s t k : Nat) : Bool := (List.range k).any fun c => f (nxN d s c) (nxN d t c)
def yB (d : DfaT) (f : Nat → Nat → Bool) (s t : Nat) : Bool := yTo d f s t d.width.toNat
theorem yTo_succ (d : DfaT) (f : Nat → Nat → Bool) (s t k : Nat) : yTo d f s t (k + 1) = (yTo d f s t k || f (nxN d s k) (nxN d t k)) := by
  unfold yTo; rw [List.range_succ, List.any_append]; simp
theorem yTo_mono {d : DfaT} {f : Nat → Nat → Bool} {s t k : Nat} (h : yTo d f s t k = true) : ∀ j, yTo d f s t (k + j) = true
  | 0 => h
  | j + 1 => by rw [← Nat.add_assoc, yTo_succ, yTo_mono h j]; rfl
/-- a table that is read alone -/
def WasO (G : PHeap) (n : Nat) (f : Nat → Nat → Bool) (aw : Option Addr) : Prop := ∃ wv, Row G aw wv ∧ wv.length = n ∧ ∀ i (h : i < n) (h1 : i < wv.length), ∃ a c, wv[i] = .slice a n c ∧ Row G a (rowV n (f i)) ∧ n ≤ c
theorem WasO.mono {G G' : PHeap} (hle : PLe G G') {n : Nat} {f : Nat → Nat → Bool} {aw : Option Addr} (h : WasO G n f aw) : WasO G' n f aw := by
  obtain ⟨wv, h1, h2, h3⟩ := h
  exact ⟨wv, h1.mono hle, h2, fun i hi h1 => by
    obtain ⟨a, c, e1, e2, e3⟩ := h3 i hi h1
    exact ⟨a, c, e1, e2.mono hle, e3⟩⟩
theorem rowV_sp {n : Nat} (g : Nat → Bool) {sp : List Value} {t : Nat} (h : t < n) : (rowV n g ++ sp)[t]? = some (.bool (g t)) := by
  rw [List.getElem?_append_left (by rw [rowV_len]; exact h)]; exact rowV_get? g h
set_option maxHeartbeats 16000000 in
set_option maxRecDepth 4000 in
theorem pc_t {d : DfaT} (hsm : SmallD d) (hok : RightP d) {C : List Value} {an al ay : Option Addr} {cn cl cs : Nat} {rs : List Value} {G : PHeap} (O : OpenD G d C an al ay cn cl cs rs) {n : Nat} (hn : n = d.label.length)
    {ao : Option Addr} {co : Nat} {vs : List Value} (hro : Row G ao vs) (hvl : vs.length = n) {s t : Nat} (hs : s < n) (ht : t < n) {bs cc : Nat} (hvs : vs[s]'(by omega) = .slice (some ⟨bs, 0, none⟩) n cc) {aw : Option Addr} {cw : Nat} {f : Nat → Nat → Bool} (hW : WasO G n f aw)
    {g : Nat → Bool} {more : Bool} {sp : List Value} {v1 v4 v10 : Value} {b2 : Nat} {H : Heap} :
    Tri Try.prog Try.f25.ntmps (piece [1, 1, 1, 1, 0, 1, 0, 0, 1, 0, 0, 1, 1, 1, 0, 1, 0, 0, 1, 0, 0, 1, 0, 0, 1, 0, 0] Try.f25) G
      [(1, v1), (2, .pointer (some ⟨b2, 0, none⟩)), (4, v4), (5, .int .i64 (n : Nat)), (6, .slice ao n co), (10, v10), (11, .bool more), (12, .slice aw n cw), (14, .int .i64 (s : Nat)), (15, .int .i64 (t : Nat))]
      ((bs, .cells (rowV n g) sp 4) :: (b2, .cells C [] 27) :: H) (onlyN fun G' fr' H' => ∃ g' more', (∀ j, j < n → g' j = if j = t then g t || yB d f s t else g j) ∧ more' = (more || (!g t && yB d f s t)) ∧ G' = G ∧
        restrict [1, 2, 4, 5, 6, 10, 11, 12, 14, 15] fr' = [(1, v1), (2, .pointer (some ⟨b2, 0, none⟩)), (4, v4), (5, .int .i64 (n : Nat)), (6, .slice ao n co), (10, v10), (11, .bool more'), (12, .slice aw n cw), (14, .int .i64 (s : Nat)), (15, .int .i64 (t : Nat))] ∧
        H' = (bs, .cells (rowV n g') sp 4) :: (b2, .cells C [] 27) :: H) := by
  obtain ⟨hm1, hm2, hm3, hm4, hm5⟩ := id hsm
  obtain ⟨hk1, hk2, hk3, hk4, hk5, hk6, hk7⟩ := id hok
  have hCl := O.len
  have hCw := O.w
  have hCn := O.n
  obtain ⟨W, hWd⟩ := Int.eq_ofNat_of_zero_le (show 0 ≤ d.width by omega)
  obtain ⟨wv, hwr, hwl, hwg⟩ := hW
  have hsn : s < d.next.length := by omega
  have htn : t < d.next.length := by omega
  have hrnl := O.rnl
  obtain ⟨b, c, e1, e2, e3⟩ := O.rs s hsn (by omega)
  obtain ⟨b', c', f1, f2, f3⟩ := O.rs t htn (by omega)
  obtain ⟨hw1, _, _, hr1⟩ := hk7 s hsn (by omega)
  obtain ⟨hw2, _, _, hr2⟩ := hk7 t htn (by omega)
  have hWb : W ≤ 256 := by
    have h1 := tabO_len d.of
    rw [O.ofl] at h1
    omega
  have hsl : s < vs.length := by omega
  have had : Adr an := O.rn.adr (by omega)
  have hado : Adr ao := hro.adr (by omega)
  have hadw : Adr aw := hwr.adr (by omega)
  have hyW : yB d f s t = yTo d f s t W := by unfold yB; rw [hWd]; rfl
  have hrowl := rowV_len n
  refine Tri.sepT fun hs0 => ?_
  have hsE := hs0
  try simp only [keys_cons, keys_app, keys_nil, Sep_cons, Sep_nil, NotIn_cons, NotIn_app, NotIn_nil, List.cons_append, List.nil_append, List.append_assoc, and_assoc, and_true, true_and] at hsE
  repeat (obtain ⟨hsx, hsE⟩ := hsE)
  refine Tri.piece (f := Try.f25) rfl ?_
  refine Tri.run tok [0, 1, 2, 4, 5, 6, 7, 8, 9, 10, 11, 12, 13, 14, 15, 16, 23, 29, 52, 58, 72, 77, 93, 134] (by kernel_rfl) ?_
  repeat' first
    | with_reducible refine Br.yes ?_
    | with_reducible refine Br.no ?_
    | with_reducible refine Br.dec (fun _ => ?_) (fun _ => ?_)
    | with_reducible refine Br.beqB (fun _ => ?_) (fun _ => ?_)
    | with_reducible refine Br.beqb (fun _ => ?_) (fun _ => ?_)
    | with_reducible refine Br.mk (fun _ => ?_) (fun _ => ?_)
    | with_reducible refine foundO.mk (fun _ _ => ?_) (fun _ => ?_)
    | with_reducible refine appV.zero ?_
    | with_reducible refine appV.own ?_
    | ((with_reducible refine NewB.mk fun nb hnb => ?_); have hnb1 := hnb.1.1; have hnb2 := hnb.1.2; try simp only [keys_cons, keys_app, keys_nil, NotIn_cons, NotIn_app, NotIn_nil, and_true] at hnb2)
    | ((with_reducible refine NewRow.mk fun nb nsp ncap hnb hncap => ?_); have hnb1 := hnb.1.1; have hnb2 := hnb.1.2; try simp only [keys_cons, keys_app, keys_nil, NotIn_cons, NotIn_app, NotIn_nil, and_true] at hnb2)
    | simp (dsimp := false) (implicitDefEqProofs := false) (disch := first | assumption | (simp only [List.mem_cons, List.mem_append, true_or, or_true, eq_self]; done) | omega | (with_reducible refine Row.adr (by assumption) ?_; simp only [List.length_map, List.length_take, List.length_drop]; omega) | (simp only [List.length_cons, List.length_nil, List.length_map, List.length_append, List.length_replicate, Nat.reduceAdd, true_and, and_true, and_self]; first | done | omega)) only [go_sem, ↓reduceIte, Nat.reduceEqDiff, Nat.reduceAdd, Nat.reduceSub, Nat.reduceMul, Nat.reduceBEq, Nat.reduceLT, Nat.reduceLeDiff, Nat.reduceMod, Nat.reducePow, List.reduceReplicate, UInt8.reduceOfNat, Int.reducePow, Int.reduceDiv, Int.reduceMod, Nat.reduceDiv, Int.reduceNeg, Int.reduceAdd, Int.reduceSub, Int.reduceMul, Int.reduceLE, Int.reduceLT, Int.reduceEq, Int.reduceToNat, decide_true, decide_false, reduceCtorEq, ne_eq, not_false_eq_true, not_true_eq_false, and_true, true_and, and_self, or_true, true_or, or_false, false_or, or_self, eq_self, Option.isNone_some, Option.isNone_none, Nat.zero_add, Nat.add_zero, Nat.mul_one, Nat.one_mul, Nat.zero_mul, List.length_cons, List.length_nil, List.getElem?_cons_zero, List.getElem?_cons_succ, List.map_cons, List.map_nil, List.append_nil]
  refine Tri.loopU tok [0, 1, 2, 4, 5, 6, 7, 8, 9, 10, 11, 12, 13, 14, 15, 16, 23, 29, 52, 58, 72, 77, 93, 134] (by kernel_rfl) [1, 2, 4, 5, 6, 10, 11, 12, 14, 15, 16] (fun q G' fr H' => ∃ (k : Nat) (g' : Nat → Bool) (more' : Bool), k + q = W ∧ (∀ j, j < n → g' j = if j = t then g t || yTo d f s t k else g j) ∧ more' = (more || (!g t && yTo d f s t k)) ∧ G' = G ∧ H' = (bs, .cells (rowV n g') sp 4) :: (b2, .cells C [] 27) :: H ∧ fr = [(1, v1), (2, .pointer (some ⟨b2, 0, none⟩)), (4, v4), (5, .int .i64 (n : Nat)), (6, .slice ao n co), (10, v10), (11, .bool more'), (12, .slice aw n cw), (14, .int .i64 (s : Nat)), (15, .int .i64 (t : Nat)), (16, .int .i64 (k : Nat))]) (W) ?_ ?_
  · exact Upd.now ⟨0, g, more, by omega, fun j hj => by
      have h0 : yTo d f s t 0 = false := rfl
      rw [h0, Bool.or_false]
      split
      · rename_i h; rw [h]
      · rfl, by
      have h0 : yTo d f s t 0 = false := rfl
      rw [h0, Bool.and_false, Bool.or_false], rfl, rfl, rfl⟩
  · rintro q G1 fr H' hle hs1 ⟨k, g', more', hkq, hg', hmore, rfl, rfl, rfl⟩
    have hsE := hs1
    try simp only [keys_cons, keys_app, keys_nil, Sep_cons, Sep_nil, NotIn_cons, NotIn_app, NotIn_nil, List.cons_append, List.nil_append, List.append_assoc, and_assoc, and_true, true_and] at hsE
    repeat (obtain ⟨hsx, hsE⟩ := hsE)
    have hgt : g' t = (g t || yTo d f s t k) := by rw [hg' t ht, if_pos rfl]
    by_cases hkw : k < W ∧ g' t = false
    · obtain ⟨hkW, hgf⟩ := hkw
      have hz : g t = false ∧ yTo d f s t k = false := by
        rw [hgf] at hgt
        exact Bool.or_eq_false_iff.1 hgt.symm
      have hk1' : k < (d.next[s]).length := by omega
      have hk2' : k < (d.next[t]).length := by omega
      have hx := hr1 _ (List.getElem_mem hk1')
      have hy := hr2 _ (List.getElem_mem hk2')
      obtain ⟨x, hxe⟩ := Int.eq_ofNat_of_zero_le hx.1
      obtain ⟨y, hye⟩ := Int.eq_ofNat_of_zero_le hy.1
      have hxn : x < n := by omega
      have hyn : y < n := by omega
      obtain ⟨ax, cx, g1, g2, g3⟩ := hwg x hxn (by omega)
      have had2 : Adr b := e2.adr (by rw [List.length_map]; omega)
      have had3 : Adr b' := f2.adr (by rw [List.length_map]; omega)
      have had4 : Adr ax := g2.adr (by rw [rowV_len]; omega)
      have hnx : nxN d s k = x := by
        unfold nxN
        rw [List.getD_eq_getElem?_getD, List.getElem?_eq_getElem hsn]
        show (atL d.next[s] k).toNat = x
        rw [atL_get (by simpa using hk1')]
        simp only [Int.toNat_natCast]
        omega
      have hny : nxN d t k = y := by
        unfold nxN
        rw [List.getD_eq_getElem?_getD, List.getElem?_eq_getElem htn]
        show (atL d.next[t] k).toNat = y
        rw [atL_get (by simpa using hk2')]
        simp only [Int.toNat_natCast]
        omega
      have hrl1 := hm2 _ (List.getElem_mem hsn)
      have hyr : y < (rowV n (f x)).length := by rw [rowV_len]; exact hyn
      have hy1 : yTo d f s t (k + 1) = f x y := by rw [yTo_succ, hz.2, hnx, hny, Bool.false_or]
      have hg1 : ∀ j, j < n → (if j = t then f x y else g' j) = if j = t then g t || yTo d f s t (k + 1) else g j := fun j hj => by
        rw [hy1, hz.1, Bool.false_or]
        split
        · rfl
        · rename_i hne; rw [hg' j hj, if_neg hne]
      have hm1 : more' = more := by rw [hmore, hz.1, hz.2]; simp
      repeat' first
        | with_reducible refine Br.yes ?_
        | with_reducible refine Br.no ?_
        | with_reducible refine Br.dec (fun _ => ?_) (fun _ => ?_)
        | with_reducible refine Br.beqB (fun _ => ?_) (fun _ => ?_)
        | with_reducible refine Br.beqb (fun _ => ?_) (fun _ => ?_)
        | with_reducible refine Br.mk (fun _ => ?_) (fun _ => ?_)
        | with_reducible refine foundO.mk (fun _ _ => ?_) (fun _ => ?_)
        | with_reducible refine appV.zero ?_
        | with_reducible refine appV.own ?_
        | ((with_reducible refine NewB.mk fun nb hnb => ?_); have hnb1 := hnb.1.1; have hnb2 := hnb.1.2; try simp only [keys_cons, keys_app, keys_nil, NotIn_cons, NotIn_app, NotIn_nil, and_true] at hnb2)
        | ((with_reducible refine NewRow.mk fun nb nsp ncap hnb hncap => ?_); have hnb1 := hnb.1.1; have hnb2 := hnb.1.2; try simp only [keys_cons, keys_app, keys_nil, NotIn_cons, NotIn_app, NotIn_nil, and_true] at hnb2)
        | simp (dsimp := false) (implicitDefEqProofs := false) (disch := first | assumption | (simp only [List.mem_cons, List.mem_append, true_or, or_true, eq_self]; done) | omega | (with_reducible refine Row.adr (by assumption) ?_; simp only [List.length_map, List.length_take, List.length_drop]; omega) | (simp only [List.length_cons, List.length_nil, List.length_map, List.length_append, List.length_replicate, Nat.reduceAdd, true_and, and_true, and_self]; first | done | omega)) only [go_sem, ↓reduceIte, Nat.reduceEqDiff, Nat.reduceAdd, Nat.reduceSub, Nat.reduceMul, Nat.reduceBEq, Nat.reduceLT, Nat.reduceLeDiff, Nat.reduceMod, Nat.reducePow, List.reduceReplicate, UInt8.reduceOfNat, Int.reducePow, Int.reduceDiv, Int.reduceMod, Nat.reduceDiv, Int.reduceNeg, Int.reduceAdd, Int.reduceSub, Int.reduceMul, Int.reduceLE, Int.reduceLT, Int.reduceEq, Int.reduceToNat, decide_true, decide_false, reduceCtorEq, ne_eq, not_false_eq_true, not_true_eq_false, and_true, true_and, and_self, or_true, true_or, or_false, false_or, or_self, eq_self, Option.isNone_some, Option.isNone_none, Nat.zero_add, Nat.add_zero, Nat.mul_one, Nat.one_mul, Nat.zero_mul, List.length_cons, List.length_nil, List.getElem?_cons_zero, List.getElem?_cons_succ, List.map_cons, List.map_nil, List.append_nil, -List.reduceReplicate, List.toList_toArray, hCl, hCw, hWd, hCn, Row.obj hro, hvs, rowV_sp, hgf, hrowl, Row.obj O.rn, e1, f1, Row.obj e2, Row.obj f2, List.getElem_map, hxe, hye, Int.toNat_natCast, Row.obj hwr, g1, Row.obj g2, rowV_get, rowV_put]
        | with_reducible refine Tri.drawH tok mixed [0, 1, 2, 4, 5, 6, 7, 8, 9, 10, 11, 12, 13, 14, 15, 16, 23, 29, 52, 58, 72, 77, 93, 134] 30 [3, 7, 10, 13, 15, 17, 20, 23, 25] (.op 0 .plain (.op 1 .plain (.op 2 .plain (.op 3 .held (.op 4 .plain (.op 5 .plain (.op 6 .plain (.op 7 .held (.op 8 .plain (.op 9 .plain (.op 10 .held (.op 11 .plain (.op 12 .plain (.op 13 .held (.op 14 .plain (.op 15 .held (.op 16 .plain (.op 17 .held (.op 18 .plain (.op 19 .plain (.op 20 .held (.op 21 .plain (.op 22 .plain (.op 23 .held (.op 24 .plain (.op 25 .held (.op 26 .plain (.op 27 .plain .nil)))))))))))))))))))))))))))) (by kernel_rfl) [6, 2, 12] ?_
      · rename_i hmt
        exact Upd.now ⟨q - 1, by omega, k + 1, fun j => if j = t then f x y else g' j, true, by omega, hg1, by rw [← hm1, hmt]; rfl, rfl, rfl, rfl⟩
      · rename_i hmf
        exact Upd.now ⟨q - 1, by omega, k + 1, fun j => if j = t then f x y else g' j, f x y, by omega, hg1, by rw [← hm1, hmf, hy1, hz.1]; rfl, rfl, rfl, rfl⟩
    · have hexit : yTo d f s t k = true ∨ g t = true ∨ k = W := by
        rcases Nat.lt_or_ge k W with h | h
        · cases hgv : g' t with
          | false => exact (hkw ⟨h, hgv⟩).elim
          | true =>
            rw [hgv] at hgt
            cases hg1 : g t with
            | true => exact .inr (.inl rfl)
            | false => rw [hg1, Bool.false_or] at hgt; exact .inl hgt.symm
        · exact .inr (.inr (by omega))
      have hfin : (∀ j, j < n → g' j = if j = t then g t || yB d f s t else g j) ∧ more' = (more || (!g t && yB d f s t)) := by
        rw [hyW]
        rcases hexit with h | h | h
        · have h2 := yTo_mono h (W - k)
          rw [show k + (W - k) = W by omega] at h2
          rw [h] at hg' hmore
          rw [h2]
          exact ⟨hg', hmore⟩
        · rw [h] at hg' hmore
          rw [h]
          simp only [Bool.true_or, Bool.not_true, Bool.false_and, Bool.or_false] at hg' hmore ⊢
          exact ⟨hg', hmore⟩
        · subst h; exact ⟨hg', hmore⟩
      by_cases hkW : k < W
      · have hgv : g' t = true := by
          cases hgv : g' t with
          | false => exact (hkw ⟨hkW, hgv⟩).elim
          | true => rfl
        repeat' first
          | with_reducible refine Br.yes ?_
          | with_reducible refine Br.no ?_
          | with_reducible refine Br.dec (fun _ => ?_) (fun _ => ?_)
          | with_reducible refine Br.beqB (fun _ => ?_) (fun _ => ?_)
          | with_reducible refine Br.beqb (fun _ => ?_) (fun _ => ?_)
          | with_reducible refine Br.mk (fun _ => ?_) (fun _ => ?_)
          | with_reducible refine foundO.mk (fun _ _ => ?_) (fun _ => ?_)
          | with_reducible refine appV.zero ?_
          | with_reducible refine appV.own ?_
          | ((with_reducible refine NewB.mk fun nb hnb => ?_); have hnb1 := hnb.1.1; have hnb2 := hnb.1.2; try simp only [keys_cons, keys_app, keys_nil, NotIn_cons, NotIn_app, NotIn_nil, and_true] at hnb2)
          | ((with_reducible refine NewRow.mk fun nb nsp ncap hnb hncap => ?_); have hnb1 := hnb.1.1; have hnb2 := hnb.1.2; try simp only [keys_cons, keys_app, keys_nil, NotIn_cons, NotIn_app, NotIn_nil, and_true] at hnb2)
          | simp (dsimp := false) (implicitDefEqProofs := false) (disch := first | assumption | (simp only [List.mem_cons, List.mem_append, true_or, or_true, eq_self]; done) | omega | (with_reducible refine Row.adr (by assumption) ?_; simp only [List.length_map, List.length_take, List.length_drop]; omega) | (simp only [List.length_cons, List.length_nil, List.length_map, List.length_append, List.length_replicate, Nat.reduceAdd, true_and, and_true, and_self]; first | done | omega)) only [go_sem, ↓reduceIte, Nat.reduceEqDiff, Nat.reduceAdd, Nat.reduceSub, Nat.reduceMul, Nat.reduceBEq, Nat.reduceLT, Nat.reduceLeDiff, Nat.reduceMod, Nat.reducePow, List.reduceReplicate, UInt8.reduceOfNat, Int.reducePow, Int.reduceDiv, Int.reduceMod, Nat.reduceDiv, Int.reduceNeg, Int.reduceAdd, Int.reduceSub, Int.reduceMul, Int.reduceLE, Int.reduceLT, Int.reduceEq, Int.reduceToNat, decide_true, decide_false, reduceCtorEq, ne_eq, not_false_eq_true, not_true_eq_false, and_true, true_and, and_self, or_true, true_or, or_false, false_or, or_self, eq_self, Option.isNone_some, Option.isNone_none, Nat.zero_add, Nat.add_zero, Nat.mul_one, Nat.one_mul, Nat.zero_mul, List.length_cons, List.length_nil, List.getElem?_cons_zero, List.getElem?_cons_succ, List.map_cons, List.map_nil, List.append_nil, -List.reduceReplicate, List.toList_toArray, hCl, hCw, hWd, hCn, Row.obj hro, hvs, rowV_sp, hgv, hrowl]
        exact Upd.now ⟨g', more', hfin.1, hfin.2, rfl, rfl, rfl⟩
      · repeat' first
          | with_reducible refine Br.yes ?_
          | with_reducible refine Br.no ?_
          | with_reducible refine Br.dec (fun _ => ?_) (fun _ => ?_)
          | with_reducible refine Br.beqB (fun _ => ?_) (fun _ => ?_)
          | with_reducible refine Br.beqb (fun _ => ?_) (fun _ => ?_)
          | with_reducible refine Br.mk (fun _ => ?_) (fun _ => ?_)
          | with_reducible refine foundO.mk (fun _ _ => ?_) (fun _ => ?_)
          | with_reducible refine appV.zero ?_
          | with_reducible refine appV.own ?_
          | ((with_reducible refine NewB.mk fun nb hnb => ?_); have hnb1 := hnb.1.1; have hnb2 := hnb.1.2; try simp only [keys_cons, keys_app, keys_nil, NotIn_cons, NotIn_app, NotIn_nil, and_true] at hnb2)
          | ((with_reducible refine NewRow.mk fun nb nsp ncap hnb hncap => ?_); have hnb1 := hnb.1.1; have hnb2 := hnb.1.2; try simp only [keys_cons, keys_app, keys_nil, NotIn_cons, NotIn_app, NotIn_nil, and_true] at hnb2)
          | simp (dsimp := false) (implicitDefEqProofs := false) (disch := first | assumption | (simp only [List.mem_cons, List.mem_append, true_or, or_true, eq_self]; done) | omega | (with_reducible refine Row.adr (by assumption) ?_; simp only [List.length_map, List.length_take, List.length_drop]; omega) | (simp only [List.length_cons, List.length_nil, List.length_map, List.length_append, List.length_replicate, Nat.reduceAdd, true_and, and_true, and_self]; first | done | omega)) only [go_sem, ↓reduceIte, Nat.reduceEqDiff, Nat.reduceAdd, Nat.reduceSub, Nat.reduceMul, Nat.reduceBEq, Nat.reduceLT, Nat.reduceLeDiff, Nat.reduceMod, Nat.reducePow, List.reduceReplicate, UInt8.reduceOfNat, Int.reducePow, Int.reduceDiv, Int.reduceMod, Nat.reduceDiv, Int.reduceNeg, Int.reduceAdd, Int.reduceSub, Int.reduceMul, Int.reduceLE, Int.reduceLT, Int.reduceEq, Int.reduceToNat, decide_true, decide_false, reduceCtorEq, ne_eq, not_false_eq_true, not_true_eq_false, and_true, true_and, and_self, or_true, true_or, or_false, false_or, or_self, eq_self, Option.isNone_some, Option.isNone_none, Nat.zero_add, Nat.add_zero, Nat.mul_one, Nat.one_mul, Nat.zero_mul, List.length_cons, List.length_nil, List.getElem?_cons_zero, List.getElem?_cons_succ, List.map_cons, List.map_nil, List.append_nil, -List.reduceReplicate, List.toList_toArray, hCl, hCw, hWd, hCn, Row.obj hro, hvs, rowV_sp, hrowl]
        exact Upd.now ⟨g', more', hfin.1, hfin.2, rfl, rfl, rfl⟩
end Go.Proofs.Ytmlmhcejdlljjaa
