/- Machines as bytes: all of a machine read. -/
import Derived.Test.YtomdbjfdbkejoaaYe
import Derived.Test.YtomdbjfdbkejoaaSp
set_option linter.unusedSimpArgs false
set_option linter.unusedVariables false
namespace Go.Proofs.Ytomdbjfdbkejoaa
open Go Go.V Go.Proofs

/-! a row -/
def rowStep (t : List Int × Rdr) : List Int × Rdr := (t.1 ++ [((numP 2 t.2).1 : Int)], (numP 2 t.2).2)
def rowR : Nat → List Int × Rdr → List Int × Rdr
  | 0, t => t
  | k + 1, t => rowR k (rowStep t)
theorem rowR_succ (k : Nat) (t : List Int × Rdr) : rowR (k + 1) t = rowR k (rowStep t) := rfl
theorem rowR_zero (t : List Int × Rdr) : rowR 0 t = t := rfl
theorem rowR_le : ∀ (k : Nat) (t : List Int × Rdr), (rowR k t).2.2.length ≤ t.2.2.length
  | 0, _ => Nat.le_refl _
  | k + 1, t => Nat.le_trans (rowR_le k (rowStep t)) (numP_le 2 t.2)
theorem rowR_len : ∀ (k : Nat) (t : List Int × Rdr), (rowR k t).1.length = t.1.length + k
  | 0, _ => rfl
  | k + 1, t => by
    rw [rowR_succ, rowR_len k]
    show (t.1 ++ [_]).length + k = _
    rw [List.length_append, List.length_singleton]; omega
/-! rows -/
structure MacS where
  lab : List Int
  nxt : List (List Int)
  s : Rdr
def macStep (w : Nat) (t : MacS) : MacS :=
  if t.s.1 = true then t else ⟨t.lab ++ [((numP 1 t.s).1 : Int)], t.nxt ++ [(rowR w ([], (numP 1 t.s).2)).1], (rowR w ([], (numP 1 t.s).2)).2⟩
def macR (w : Nat) : Nat → MacS → MacS
  | 0, t => t
  | k + 1, t => macR w k (macStep w t)
theorem macR_succ (w k : Nat) (t : MacS) : macR w (k + 1) t = macR w k (macStep w t) := rfl
theorem macR_zero (w : Nat) (t : MacS) : macR w 0 t = t := rfl
theorem macR_id {w : Nat} {t : MacS} (h : t.s.1 = true) : ∀ k, macR w k t = t
  | 0 => rfl
  | k + 1 => by
    have e : macStep w t = t := by unfold macStep; rw [if_pos h]
    rw [macR_succ, e]; exact macR_id h k
theorem macStep_le (w : Nat) (t : MacS) : (macStep w t).s.2.length ≤ t.s.2.length := by
  unfold macStep
  split
  · exact Nat.le_refl _
  · exact Nat.le_trans (rowR_le _ _) (numP_le 1 t.s)
theorem macR_le (w : Nat) : ∀ (k : Nat) (t : MacS), (macR w k t).s.2.length ≤ t.s.2.length
  | 0, _ => Nat.le_refl _
  | k + 1, t => Nat.le_trans (macR_le w k (macStep w t)) (macStep_le w t)
theorem macStep_sz {w n : Nat} {t : MacS} (h : t.lab.length ≤ n ∧ t.nxt.length ≤ n ∧ ∀ r ∈ t.nxt, r.length = w) : (macStep w t).lab.length ≤ n + 1 ∧ (macStep w t).nxt.length ≤ n + 1 ∧ ∀ r ∈ (macStep w t).nxt, r.length = w := by
  unfold macStep
  split
  · exact ⟨by omega, by omega, h.2.2⟩
  · refine ⟨?_, ?_, fun r hr => ?_⟩
    · show (t.lab ++ [_]).length ≤ _; rw [List.length_append, List.length_singleton]; omega
    · show (t.nxt ++ [_]).length ≤ _; rw [List.length_append, List.length_singleton]; omega
    · have hr : r ∈ t.nxt ++ [_] := hr
      rcases List.mem_append.1 hr with hr | hr
      · exact h.2.2 r hr
      · rw [List.mem_singleton.1 hr, rowR_len]; show 0 + w = w; omega
theorem macR_sz (w : Nat) : ∀ (k n : Nat) {t : MacS}, (t.lab.length ≤ n ∧ t.nxt.length ≤ n ∧ ∀ r ∈ t.nxt, r.length = w) → (macR w k t).lab.length ≤ n + k ∧ (macR w k t).nxt.length ≤ n + k ∧ ∀ r ∈ (macR w k t).nxt, r.length = w
  | 0, _, _, h => h
  | k + 1, n, t, h => by
    have := macR_sz w k (n + 1) (macStep_sz h)
    rw [macR_succ]
    exact ⟨by omega, by omega, this.2.2⟩
def ofF (f : Nat → Int) : List Int := (List.range 256).map f
theorem ofF_len (f : Nat → Int) : (ofF f).length = 256 := by simp [ofF]
theorem ofF_u8 (f : Nat → Int) : u8L (ofF f) = u8F f := by unfold u8L ofF u8F; rw [List.map_map]; rfl
def machRest (s : Rdr) : MacS := macR (clsP (namesP s).2).w ((numP 2 (clsP (namesP s).2).s).1 + 1) ⟨[], [], (numP 2 (clsP (namesP s).2).s).2⟩
def machD (s : Rdr) : DfaT := ⟨ofF (clsP (namesP s).2).f, ((clsP (namesP s).2).w : Nat), (machRest s).nxt, (machRest s).lab, (namesP s).1⟩
theorem numP2 (s : Rdr) : (numP 2 s).1 < 65536 := by have := numP_lt 2 s; omega
theorem clsP_w (s : Rdr) : (clsP s).w ≤ 256 ∧ ∀ i, 0 ≤ (clsP s).f i ∧ (clsP s).f i ≤ 255 := by
  rw [← clsP_eq]
  exact clsR_w 256 ⟨Nat.zero_le _, fun i => ⟨Int.le_refl 0, by show (0 : Int) ≤ 255; omega⟩⟩
theorem clsP_le (s : Rdr) : (clsP s).s.2.length ≤ s.2.length := by rw [← clsP_eq]; exact clsR_le 256 _
theorem machD_small (s : Rdr) : SmallD (machD s) := by
  have h1 := namesP_small s
  have h2 := clsP_w (namesP s).2
  have h3 := numP2 (clsP (namesP s).2).s
  obtain ⟨h4, h5, h6⟩ := macR_sz (clsP (namesP s).2).w ((numP 2 (clsP (namesP s).2).s).1 + 1) 0 (t := ⟨[], [], (numP 2 (clsP (namesP s).2).s).2⟩) ⟨Nat.le_refl 0, Nat.le_refl 0, fun r hr => by cases hr⟩
  refine ⟨?_, fun r hr => ?_, ?_, ?_, fun x hx => ?_⟩
  · show (machRest s).nxt.length ≤ _; unfold machRest; omega
  · have := h6 r hr; omega
  · show (machRest s).lab.length ≤ _; unfold machRest; omega
  · show (namesP s).1.length ≤ _; omega
  · have := h1.2 x hx; omega
/-! memory -/
theorem cells_of {e : DfaT} (h : e.of.length = 256) (f : Nat → Int) (a b c : Value) : splice (cellsD e a b c) 0 (u8F f) = u8F f ++ [.int .i64 e.width, a, b, c] := by
  unfold splice cellsD
  rw [List.take_zero, List.nil_append, List.drop_append, List.drop_of_length_le (by rw [List.length_map, h, u8F_len]; omega), u8F_len, List.length_map, h]
  rfl
theorem cells_w (f : Nat → Int) (w : Int) (d : DfaT) (hd : d.of = ofF f) (hw : d.width = w) (x a b c : Value) : splice (u8F f ++ [x, a, b, c]) 256 [.int .i64 w] = cellsD d a b c := by
  have hl := u8F_len f
  unfold splice cellsD
  rw [hd, ofF_u8, hw, show 256 = (u8F f).length + 0 by omega, List.take_length_add_append, List.length_singleton, show (u8F f).length + 0 + 1 = (u8F f).length + 1 by omega, List.drop_length_add_append, List.append_assoc, List.append_assoc]
  rfl
/-- rows in memory -/
def RowY (rows : List (List Int)) (G' : PHeap) (vn : Value) (kn : Heap) : Prop :=
  (rows = [] ∧ vn = .slice none 0 0 ∧ kn = []) ∨ ∃ bn c1 rv sp1, vn = .slice (some ⟨bn, 0, none⟩) rows.length c1 ∧ kn = [(bn, .cells rv sp1 25)] ∧ rv.length = rows.length ∧ rows.length + sp1.length = c1 ∧
    ∀ i (h : i < rows.length) (h2 : i < rv.length), ∃ b c, rv[i] = .slice b rows[i].length c ∧ Row G' b (rows[i].map (Value.int .i64)) ∧ rows[i].length ≤ c
theorem RowY.mono {rows : List (List Int)} {G G' : PHeap} (hle : PLe G G') {vn : Value} {kn : Heap} (h : RowY rows G vn kn) : RowY rows G' vn kn := by
  rcases h with h | ⟨bn, c1, rv, sp1, h1, h2, h3, h4, h5⟩
  · exact .inl h
  · exact .inr ⟨bn, c1, rv, sp1, h1, h2, h3, h4, fun i a b => by
      obtain ⟨x, y, e1, e2, e3⟩ := h5 i a b
      exact ⟨x, y, e1, e2.mono hle, e3⟩⟩
def padL (w : Nat) (l : List Int) : List Int := l ++ List.replicate (w - l.length) 0
theorem padL_nil (w : Nat) : List.replicate w (Value.int .i64 0) = (padL w []).map (Value.int .i64) := by unfold padL; rw [List.nil_append, List.map_replicate]; rfl
theorem padL_len {w : Nat} {l : List Int} (h : l.length ≤ w) : (padL w l).length = w := by unfold padL; rw [List.length_append, List.length_replicate]; omega
theorem padL_all {w : Nat} {l : List Int} (h : l.length = w) : padL w l = l := by unfold padL; rw [h, Nat.sub_self]; simp
theorem padL_put {w : Nat} {l : List Int} (h : l.length < w) (x : Int) : splice ((padL w l).map (Value.int .i64)) l.length [.int .i64 x] = (padL w (l ++ [x])).map (Value.int .i64) := by
  unfold splice padL
  obtain ⟨k, hk⟩ : ∃ k, w - l.length = k + 1 := ⟨w - l.length - 1, by omega⟩
  rw [hk, List.length_append, show w - (l.length + [x].length) = k by simp; omega, List.replicate_succ]
  simp only [List.map_append, List.map_cons, List.length_singleton]
  rw [List.take_append_of_le_length (by rw [List.length_map]; omega), List.take_of_length_le (by rw [List.length_map]; omega), List.drop_append, List.drop_of_length_le (by rw [List.length_map]; omega), List.length_map, show l.length + 1 - l.length = 1 by omega]
  simp
attribute [irreducible] macR rowR
set_option maxHeartbeats 16000000 in
theorem machine_t {s : Rdr} (hsl : s.2.length ≤ 200000000) {bR : Nat} {sv : Value} {G : PHeap} {H : Heap} {R : Value → PHeap → Heap → Prop} (hs : Sl G byteV sv s.2)
    (hR : ∀ G' v sv', PLe G G' → Sep G' (keys ((bR, Res.cells [sv', .bool (machRest s).s.1] [] 43) :: H)) → IsD G' (machD s) v → Sl G' byteV sv' (machRest s).s.2 → R v G' ((bR, .cells [sv', .bool (machRest s).s.1] [] 43) :: H)) :
    FnT Try.prog 15 [.pointer (some ⟨bR, 0, none⟩)] G ((bR, .cells [sv, .bool s.1] [] 43) :: H) R := by
  have hzl : zeroD.of.length = 256 := List.length_replicate ..
  have hzs : ∀ x, splice zeroC 259 [x] = cellsD zeroD (.slice none 0 0) (.slice none 0 0) x := fun x => by rw [← zeroD_cells]; exact build_s hzl _ _ _ _
  have hr1 : ∀ x : Value, List.replicate 1 x = [x] := fun _ => rfl
  have hof1 : ∀ a b c, splice (cellsD zeroD a b c) 0 (u8F (clsP (namesP s).2).f) = u8F (clsP (namesP s).2).f ++ [.int .i64 0, a, b, c] := fun a b c => cells_of hzl _ _ _ _
  have hw1 : ∀ x a b c, splice (u8F (clsP (namesP s).2).f ++ [x, a, b, c]) 256 [.int .i64 ((clsP (namesP s).2).w : Nat)] = cellsD (machD s) a b c := fun x a b c => cells_w _ _ (machD s) rfl rfl _ _ _ _
  have hcl0 : ∀ a b c, (cellsD zeroD a b c).length = 260 := fun a b c => cellsD_len hzl _ _ _
  have hcl1 : ∀ x a b c : Value, (u8F (clsP (namesP s).2).f ++ [x, a, b, c]).length = 260 := fun x a b c => by rw [List.length_append, u8F_len]; rfl
  have hl1 := namesP_le s
  have hl2 := clsP_le (namesP s).2
  have hcw := clsP_w (namesP s).2
  have hn2 := numP2 (clsP (namesP s).2).s
  have hl3 := numP_le 2 (clsP (namesP s).2).s
  refine FnT.sep ?_
  refine FnT.body tok [0, 2, 3, 4, 5, 6, 7, 8, 33, 47, 48, 49] Try.func15 rfl (by kernel_rfl) (by kernel_rfl) (by show _ ≤ 64; simp) fun hsep => ?_
  rw [Try.results15]
  have hsE := hsep
  try simp only [keys_cons, keys_app, keys_nil, Sep_cons, Sep_nil, NotIn_cons, NotIn_app, NotIn_nil, List.cons_append, List.nil_append, List.append_assoc, and_assoc, and_true, true_and] at hsE
  repeat (obtain ⟨hsx, hsE⟩ := hsE)
  repeat' first
    | with_reducible refine Br.yes ?_
    | with_reducible refine Br.no ?_
    | with_reducible refine Br.dec (fun _ => ?_) (fun _ => ?_)
    | with_reducible refine Br.beqB (fun _ => ?_) (fun _ => ?_)
    | with_reducible refine Br.beqb (fun _ => ?_) (fun _ => ?_)
    | with_reducible refine Br.mk (fun _ => ?_) (fun _ => ?_)
    | with_reducible refine foundO.mk (fun _ _ => ?_) (fun _ => ?_)
    | with_reducible refine appV.zero ?_
    | with_reducible refine appV.own ?_
    | ((with_reducible refine NewB.mk fun nb hnb => ?_); have hnb1 := hnb.1.1; have hnb2 := hnb.1.2; try simp only [keys_cons, keys_app, keys_nil, NotIn_cons, NotIn_app, NotIn_nil, and_true] at hnb2)
    | ((with_reducible refine NewRow.mk fun nb nsp ncap hnb hncap => ?_); have hnb1 := hnb.1.1; have hnb2 := hnb.1.2; try simp only [keys_cons, keys_app, keys_nil, NotIn_cons, NotIn_app, NotIn_nil, and_true] at hnb2)
    | simp (dsimp := false) (implicitDefEqProofs := false) (disch := first | assumption | (simp only [List.mem_cons, List.mem_append, true_or, or_true, eq_self]; done) | omega | (with_reducible refine Row.adr (by assumption) ?_; simp only [List.length_map, List.length_take, List.length_drop]; omega) | (simp only [List.length_cons, List.length_nil, List.length_map, List.length_append, List.length_replicate, Nat.reduceAdd, true_and, and_true, and_self]; first | done | omega)) only [go_sem, ↓reduceIte, Nat.reduceEqDiff, Nat.reduceAdd, Nat.reduceSub, Nat.reduceMul, Nat.reduceBEq, Nat.reduceLT, Nat.reduceLeDiff, Nat.reduceMod, Nat.reducePow, List.reduceReplicate, UInt8.reduceOfNat, Int.reducePow, Int.reduceDiv, Int.reduceMod, Nat.reduceDiv, Int.reduceNeg, Int.reduceAdd, Int.reduceSub, Int.reduceMul, Int.reduceLE, Int.reduceLT, Int.reduceEq, Int.reduceToNat, reduceCtorEq, -List.reduceReplicate]
  rename_i b2 hb2 hb21 hb22
  revert nb
  intro b3 hb3 hb31 hb32
  refine FnT.leave (H' := (bR, .cells [sv, .bool s.1] [] 43) :: (b3, .cells (List.replicate 256 (Value.int .u8 0) ++ [Value.int .i64 0, Value.slice none 0 0, Value.slice none 0 0, Value.slice none 0 0]) [] 28) :: (b2, .cells (List.replicate 256 (Value.int .u8 0) ++ [Value.int .i64 0, Value.slice none 0 0, Value.slice none 0 0, Value.slice none 0 0]) [] 28) :: H) (names35_t hsl hs fun G1 v1 sv1 hle1 hs1 hnm hsv1 => ?_) (by intro fsum; first | exact Nat.le_refl _ | (simp only [List.map_append, List.map_cons, List.map_nil, List.sum_append, List.sum_cons, List.sum_nil, List.cons_append, List.nil_append]; omega))
  have hnm0 := hnm
  obtain ⟨a1, c1, rfl, hrn1, hcn1⟩ := hnm
  have hsE := hs1
  try simp only [keys_cons, keys_app, keys_nil, Sep_cons, Sep_nil, NotIn_cons, NotIn_app, NotIn_nil, List.cons_append, List.nil_append, List.append_assoc, and_assoc, and_true, true_and] at hsE
  repeat (obtain ⟨hsx, hsE⟩ := hsE)
  repeat' first
    | with_reducible refine Br.yes ?_
    | with_reducible refine Br.no ?_
    | with_reducible refine Br.dec (fun _ => ?_) (fun _ => ?_)
    | with_reducible refine Br.beqB (fun _ => ?_) (fun _ => ?_)
    | with_reducible refine Br.beqb (fun _ => ?_) (fun _ => ?_)
    | with_reducible refine Br.mk (fun _ => ?_) (fun _ => ?_)
    | with_reducible refine foundO.mk (fun _ _ => ?_) (fun _ => ?_)
    | with_reducible refine appV.zero ?_
    | with_reducible refine appV.own ?_
    | ((with_reducible refine NewB.mk fun nb hnb => ?_); have hnb1 := hnb.1.1; have hnb2 := hnb.1.2; try simp only [keys_cons, keys_app, keys_nil, NotIn_cons, NotIn_app, NotIn_nil, and_true] at hnb2)
    | ((with_reducible refine NewRow.mk fun nb nsp ncap hnb hncap => ?_); have hnb1 := hnb.1.1; have hnb2 := hnb.1.2; try simp only [keys_cons, keys_app, keys_nil, NotIn_cons, NotIn_app, NotIn_nil, and_true] at hnb2)
    | simp (dsimp := false) (implicitDefEqProofs := false) (disch := first | assumption | (simp only [List.mem_cons, List.mem_append, true_or, or_true, eq_self]; done) | omega | (with_reducible refine Row.adr (by assumption) ?_; simp only [List.length_map, List.length_take, List.length_drop]; omega) | (simp only [List.length_cons, List.length_nil, List.length_map, List.length_append, List.length_replicate, Nat.reduceAdd, true_and, and_true, and_self]; first | done | omega)) only [go_sem, ↓reduceIte, Nat.reduceEqDiff, Nat.reduceAdd, Nat.reduceSub, Nat.reduceMul, Nat.reduceBEq, Nat.reduceLT, Nat.reduceLeDiff, Nat.reduceMod, Nat.reducePow, List.reduceReplicate, UInt8.reduceOfNat, Int.reducePow, Int.reduceDiv, Int.reduceMod, Nat.reduceDiv, Int.reduceNeg, Int.reduceAdd, Int.reduceSub, Int.reduceMul, Int.reduceLE, Int.reduceLT, Int.reduceEq, Int.reduceToNat, reduceCtorEq, -List.reduceReplicate, zeroC_len, hzs]
  refine classes_t (by omega) hsv1 fun G2 sv2 hle2 hs2 hsv2 => ?_
  have hsE := hs2
  try simp only [keys_cons, keys_app, keys_nil, Sep_cons, Sep_nil, NotIn_cons, NotIn_app, NotIn_nil, List.cons_append, List.nil_append, List.append_assoc, and_assoc, and_true, true_and] at hsE
  repeat (obtain ⟨hsx, hsE⟩ := hsE)
  repeat' first
    | with_reducible refine Br.yes ?_
    | with_reducible refine Br.no ?_
    | with_reducible refine Br.dec (fun _ => ?_) (fun _ => ?_)
    | with_reducible refine Br.beqB (fun _ => ?_) (fun _ => ?_)
    | with_reducible refine Br.beqb (fun _ => ?_) (fun _ => ?_)
    | with_reducible refine Br.mk (fun _ => ?_) (fun _ => ?_)
    | with_reducible refine foundO.mk (fun _ _ => ?_) (fun _ => ?_)
    | with_reducible refine appV.zero ?_
    | with_reducible refine appV.own ?_
    | ((with_reducible refine NewB.mk fun nb hnb => ?_); have hnb1 := hnb.1.1; have hnb2 := hnb.1.2; try simp only [keys_cons, keys_app, keys_nil, NotIn_cons, NotIn_app, NotIn_nil, and_true] at hnb2)
    | ((with_reducible refine NewRow.mk fun nb nsp ncap hnb hncap => ?_); have hnb1 := hnb.1.1; have hnb2 := hnb.1.2; try simp only [keys_cons, keys_app, keys_nil, NotIn_cons, NotIn_app, NotIn_nil, and_true] at hnb2)
    | simp (dsimp := false) (implicitDefEqProofs := false) (disch := first | assumption | (simp only [List.mem_cons, List.mem_append, true_or, or_true, eq_self]; done) | omega | (with_reducible refine Row.adr (by assumption) ?_; simp only [List.length_map, List.length_take, List.length_drop]; omega) | (simp only [List.length_cons, List.length_nil, List.length_map, List.length_append, List.length_replicate, Nat.reduceAdd, true_and, and_true, and_self]; first | done | omega)) only [go_sem, ↓reduceIte, Nat.reduceEqDiff, Nat.reduceAdd, Nat.reduceSub, Nat.reduceMul, Nat.reduceBEq, Nat.reduceLT, Nat.reduceLeDiff, Nat.reduceMod, Nat.reducePow, List.reduceReplicate, UInt8.reduceOfNat, Int.reducePow, Int.reduceDiv, Int.reduceMod, Nat.reduceDiv, Int.reduceNeg, Int.reduceAdd, Int.reduceSub, Int.reduceMul, Int.reduceLE, Int.reduceLT, Int.reduceEq, Int.reduceToNat, reduceCtorEq, -List.reduceReplicate, zeroC_len, hzs, hof1, hw1, hcl0, hcl1, u8F_len, u8F_one]
  refine number_t (n := 2) (by omega) (by omega) hsv2 fun G3 sv3 hle3 hs3 hsv3 => ?_
  have hsE := hs3
  try simp only [keys_cons, keys_app, keys_nil, Sep_cons, Sep_nil, NotIn_cons, NotIn_app, NotIn_nil, List.cons_append, List.nil_append, List.append_assoc, and_assoc, and_true, true_and] at hsE
  repeat (obtain ⟨hsx, hsE⟩ := hsE)
  obtain ⟨t0, ht0⟩ : ∃ t, t = (⟨[], [], (numP 2 (clsP (namesP s).2).s).2⟩ : MacS) := ⟨_, rfl⟩
  obtain ⟨N, hN⟩ : ∃ n, n = (numP 2 (clsP (namesP s).2).s).1 := ⟨_, rfl⟩
  obtain ⟨w, hw⟩ : ∃ w, w = (clsP (namesP s).2).w := ⟨_, rfl⟩
  have hfin : machRest s = macR w (N + 1) t0 := by unfold machRest; rw [hw, hN, ht0]
  have hml : (machD s).of.length = 256 := ofF_len _
  have hL : ∀ a b c : Value, (cellsD (machD s) a b c).length = 260 := fun a b c => cellsD_len hml _ _ _
  have hgl : ∀ a b c : Value, (cellsD (machD s) a b c)[258]? = some b := fun a b c => cellsD_l hml _ _ _
  have hgn : ∀ a b c : Value, (cellsD (machD s) a b c)[257]? = some a := fun a b c => cellsD_n hml _ _ _
  have hgw : ∀ a b c : Value, (cellsD (machD s) a b c)[256]? = some (.int .i64 (w : Nat)) := fun a b c => by rw [hw]; exact cellsD_w hml _ _ _
  have hpl : ∀ a b c x : Value, splice (cellsD (machD s) a b c) 258 [x] = cellsD (machD s) a x c := fun a b c x => cellsD_putL hml _ _ _ _
  have hpn : ∀ a b c x : Value, splice (cellsD (machD s) a b c) 257 [x] = cellsD (machD s) x b c := fun a b c x => cellsD_putN hml _ _ _ _
  have hputz : ∀ a b c : Value, splice zeroC 0 (cellsD (machD s) a b c) = cellsD (machD s) a b c := fun a b c => by
    unfold splice
    rw [List.take_zero, List.nil_append, List.drop_of_length_le (by rw [zeroC_len, hL]; omega), List.append_nil]
  have hone : ∀ (a a' a'' : Option Addr) (b c b' c' b'' c'' : Nat), (cellsD (machD s) (.slice a'' b'' c'') (.slice a b c) (.slice a' b' c')).all oneV = true := fun a a' a'' b c b' c' b'' c'' => cellsD_one rfl rfl rfl
  have htk : ∀ a b c : Value, List.take 260 (cellsD (machD s) a b c) = cellsD (machD s) a b c := fun a b c => List.take_of_length_le (by rw [hL]; omega)
  rw [← hw] at hcw
  rw [← hN] at hn2 ⊢
  have hle03 := hle1.trans (hle2.trans hle3)
  obtain ⟨vs, hvs⟩ : ∃ vs, vs = Value.slice a1 (namesP s).1.length c1 := ⟨_, rfl⟩
  repeat' first
    | with_reducible refine Br.yes ?_
    | with_reducible refine Br.no ?_
    | with_reducible refine Br.dec (fun _ => ?_) (fun _ => ?_)
    | with_reducible refine Br.beqB (fun _ => ?_) (fun _ => ?_)
    | with_reducible refine Br.beqb (fun _ => ?_) (fun _ => ?_)
    | with_reducible refine Br.mk (fun _ => ?_) (fun _ => ?_)
    | with_reducible refine foundO.mk (fun _ _ => ?_) (fun _ => ?_)
    | with_reducible refine appV.zero ?_
    | with_reducible refine appV.own ?_
    | ((with_reducible refine NewB.mk fun nb hnb => ?_); have hnb1 := hnb.1.1; have hnb2 := hnb.1.2; try simp only [keys_cons, keys_app, keys_nil, NotIn_cons, NotIn_app, NotIn_nil, and_true] at hnb2)
    | ((with_reducible refine NewRow.mk fun nb nsp ncap hnb hncap => ?_); have hnb1 := hnb.1.1; have hnb2 := hnb.1.2; try simp only [keys_cons, keys_app, keys_nil, NotIn_cons, NotIn_app, NotIn_nil, and_true] at hnb2)
    | simp (dsimp := false) (implicitDefEqProofs := false) (disch := first | assumption | (simp only [List.mem_cons, List.mem_append, true_or, or_true, eq_self]; done) | omega | (with_reducible refine Row.adr (by assumption) ?_; simp only [List.length_map, List.length_take, List.length_drop]; omega) | (simp only [List.length_cons, List.length_nil, List.length_map, List.length_append, List.length_replicate, Nat.reduceAdd, true_and, and_true, and_self]; first | done | omega)) only [go_sem, ↓reduceIte, Nat.reduceEqDiff, Nat.reduceAdd, Nat.reduceSub, Nat.reduceMul, Nat.reduceBEq, Nat.reduceLT, Nat.reduceLeDiff, Nat.reduceMod, Nat.reducePow, List.reduceReplicate, UInt8.reduceOfNat, Int.reducePow, Int.reduceDiv, Int.reduceMod, Nat.reduceDiv, Int.reduceNeg, Int.reduceAdd, Int.reduceSub, Int.reduceMul, Int.reduceLE, Int.reduceLT, Int.reduceEq, Int.reduceToNat, reduceCtorEq, -List.reduceReplicate, zeroC_len, hzs]
  refine Tri.loopU tok [0, 2, 3, 4, 5, 6, 7, 8, 33, 47, 48, 49] (by kernel_rfl) [0, 2, 3, 4, 5, 6] (fun q G' fr H' => ∃ (i : Nat) (t : MacS) (sv' vn vl : Value) (kn kl : Heap), i + q = N + 1 ∧ PLe G3 G' ∧ macR w q t = machRest s ∧ t.lab.length = i ∧ t.nxt.length = i ∧ t.s.2.length ≤ 200000000 ∧ Sl G' byteV sv' t.s.2 ∧ RowY t.nxt G' vn kn ∧ SliceO [] 3 1 vl i (t.lab.map (Value.int .i64)) kl ∧ H' = (bR, .cells [sv', .bool t.s.1] [] 43) :: (b3, .cells (cellsD (machD s) vn vl vs) [] 28) :: (b2, .cells zeroC [] 28) :: (kl ++ (kn ++ H)) ∧ fr = [(0, .pointer (some ⟨bR, 0, none⟩)), (2, .pointer (some ⟨b2, 0, none⟩)), (3, .pointer (some ⟨b3, 0, none⟩)), (4, .func (.func 13) #[.pointer (some ⟨bR, 0, none⟩)] #[]), (5, .int .i64 ((N : Nat) + 1)), (6, .int .i64 (i : Nat))]) ((N + 1)) ?_ ?_
  · rw [← hvs]
    exact Upd.now ⟨0, t0, sv3, _, _, [], [], by omega, PLe.refl _, hfin.symm, by rw [ht0]; rfl, by rw [ht0]; rfl, by rw [ht0]; exact Nat.le_trans hl3 (by omega), by rw [ht0]; exact hsv3, .inl ⟨by rw [ht0], rfl, rfl⟩, .inl ⟨none, rfl, rfl, by rw [ht0]; rfl, rfl⟩, by rw [ht0]; rfl, rfl⟩
  · rintro q G4 fr H' hle4 hs4 ⟨i, t, sv4, vn, vl, kn, kl, hiq, hle34, hst, hti, htn, htl, hsv4, hY, hO, rfl, rfl⟩
    have hsE := hs4
    try simp only [keys_cons, keys_app, keys_nil, Sep_cons, Sep_nil, NotIn_cons, NotIn_app, NotIn_nil, List.cons_append, List.nil_append, List.append_assoc, and_assoc, and_true, true_and] at hsE
    repeat (obtain ⟨hsx, hsE⟩ := hsE)
    by_cases hrun : i < N + 1 ∧ t.s.1 = false
    · obtain ⟨hin, hbad⟩ := hrun
      obtain ⟨q, rfl⟩ : ∃ p, q = p + 1 := ⟨q - 1, by omega⟩
      obtain ⟨lab, nxt, bad, l⟩ := t
      simp only at hbad hti htn htl hsv4 hY hO
      subst hbad
      have hn1 := numP1 (false, l)
      have hl4 := numP_le 1 (false, l)
      simp only at hl4
      obtain ⟨rfin, hrfin⟩ : ∃ r, r = rowR w ([], (numP 1 (false, l)).2) := ⟨_, rfl⟩
      have hstep : macStep w ⟨lab, nxt, (false, l)⟩ = ⟨lab ++ [((numP 1 (false, l)).1 : Int)], nxt ++ [rfin.1], rfin.2⟩ := by
        unfold macStep; rw [if_neg (by simp), hrfin]
      have hno : macR w q ⟨lab ++ [((numP 1 (false, l)).1 : Int)], nxt ++ [rfin.1], rfin.2⟩ = machRest s := by rw [← hstep, ← macR_succ]; exact hst
      rcases hO with ⟨al, rfl, hi0, hx, rfl⟩ | ⟨bl, cl, sp, rfl, rfl, hx, hc⟩
      · repeat' first
          | with_reducible refine Br.yes ?_
          | with_reducible refine Br.no ?_
          | with_reducible refine Br.dec (fun _ => ?_) (fun _ => ?_)
          | with_reducible refine Br.beqB (fun _ => ?_) (fun _ => ?_)
          | with_reducible refine Br.beqb (fun _ => ?_) (fun _ => ?_)
          | with_reducible refine Br.mk (fun _ => ?_) (fun _ => ?_)
          | with_reducible refine foundO.mk (fun _ _ => ?_) (fun _ => ?_)
          | with_reducible refine appV.zero ?_
          | with_reducible refine appV.own ?_
          | ((with_reducible refine NewB.mk fun nb hnb => ?_); have hnb1 := hnb.1.1; have hnb2 := hnb.1.2; try simp only [keys_cons, keys_app, keys_nil, NotIn_cons, NotIn_app, NotIn_nil, and_true] at hnb2)
          | ((with_reducible refine NewRow.mk fun nb nsp ncap hnb hncap => ?_); have hnb1 := hnb.1.1; have hnb2 := hnb.1.2; try simp only [keys_cons, keys_app, keys_nil, NotIn_cons, NotIn_app, NotIn_nil, and_true] at hnb2)
          | simp (dsimp := false) (implicitDefEqProofs := false) (disch := first | assumption | (simp only [List.mem_cons, List.mem_append, true_or, or_true, eq_self]; done) | omega | (with_reducible refine Row.adr (by assumption) ?_; simp only [List.length_map, List.length_take, List.length_drop]; omega) | (simp only [List.length_cons, List.length_nil, List.length_map, List.length_append, List.length_replicate, Nat.reduceAdd, true_and, and_true, and_self]; first | done | omega)) only [go_sem, ↓reduceIte, Nat.reduceEqDiff, Nat.reduceAdd, Nat.reduceSub, Nat.reduceMul, Nat.reduceBEq, Nat.reduceLT, Nat.reduceLeDiff, Nat.reduceMod, Nat.reducePow, List.reduceReplicate, UInt8.reduceOfNat, Int.reducePow, Int.reduceDiv, Int.reduceMod, Nat.reduceDiv, Int.reduceNeg, Int.reduceAdd, Int.reduceSub, Int.reduceMul, Int.reduceLE, Int.reduceLT, Int.reduceEq, Int.reduceToNat, reduceCtorEq, -List.reduceReplicate, hL, hgl, hgn, hgw, hpl, hpn, hr1]
          | with_reducible refine Tri.drawS tok mixed [0, 2, 3, 4, 5, 6, 7, 8, 33, 47, 48, 49] 9 [1] (.op 0 .plain (.op 1 .held (.op 2 .plain (.op 3 .keeps (.op 4 .keeps (.op 5 .plain (.op 6 .plain (.op 7 .plain .nil)))))))) (by kernel_rfl) [(b3, .cells (cellsD (machD s) vn (.slice al 0 0) vs) [] 28)] (by intro fsum; first | exact Nat.le_refl _ | (simp only [List.map_append, List.map_cons, List.map_nil, List.sum_append, List.sum_cons, List.sum_nil, List.cons_append, List.nil_append]; omega)) ?_
        refine number_t (s := (false, l)) htl (n := 1) (by omega) hsv4 fun G5 sv5 hle5 hs5 hsv5 => ?_
        have hsE := hs5
        try simp only [keys_cons, keys_app, keys_nil, Sep_cons, Sep_nil, NotIn_cons, NotIn_app, NotIn_nil, List.cons_append, List.nil_append, List.append_assoc, and_assoc, and_true, true_and] at hsE
        repeat (obtain ⟨hsx, hsE⟩ := hsE)
        repeat' first
          | with_reducible refine Br.yes ?_
          | with_reducible refine Br.no ?_
          | with_reducible refine Br.dec (fun _ => ?_) (fun _ => ?_)
          | with_reducible refine Br.beqB (fun _ => ?_) (fun _ => ?_)
          | with_reducible refine Br.beqb (fun _ => ?_) (fun _ => ?_)
          | with_reducible refine Br.mk (fun _ => ?_) (fun _ => ?_)
          | with_reducible refine foundO.mk (fun _ _ => ?_) (fun _ => ?_)
          | with_reducible refine appV.zero ?_
          | with_reducible refine appV.own ?_
          | ((with_reducible refine NewB.mk fun nb hnb => ?_); have hnb1 := hnb.1.1; have hnb2 := hnb.1.2; try simp only [keys_cons, keys_app, keys_nil, NotIn_cons, NotIn_app, NotIn_nil, and_true] at hnb2)
          | ((with_reducible refine NewRow.mk fun nb nsp ncap hnb hncap => ?_); have hnb1 := hnb.1.1; have hnb2 := hnb.1.2; try simp only [keys_cons, keys_app, keys_nil, NotIn_cons, NotIn_app, NotIn_nil, and_true] at hnb2)
          | simp (dsimp := false) (implicitDefEqProofs := false) (disch := first | assumption | (simp only [List.mem_cons, List.mem_append, true_or, or_true, eq_self]; done) | omega | (with_reducible refine Row.adr (by assumption) ?_; simp only [List.length_map, List.length_take, List.length_drop]; omega) | (simp only [List.length_cons, List.length_nil, List.length_map, List.length_append, List.length_replicate, Nat.reduceAdd, true_and, and_true, and_self]; first | done | omega)) only [go_sem, ↓reduceIte, Nat.reduceEqDiff, Nat.reduceAdd, Nat.reduceSub, Nat.reduceMul, Nat.reduceBEq, Nat.reduceLT, Nat.reduceLeDiff, Nat.reduceMod, Nat.reducePow, List.reduceReplicate, UInt8.reduceOfNat, Int.reducePow, Int.reduceDiv, Int.reduceMod, Nat.reduceDiv, Int.reduceNeg, Int.reduceAdd, Int.reduceSub, Int.reduceMul, Int.reduceLE, Int.reduceLT, Int.reduceEq, Int.reduceToNat, reduceCtorEq, -List.reduceReplicate, hL, hgl, hgn, hgw, hpl, hpn, hr1]
        rename_i bq hbq1 hbq2 hbq3
        obtain ⟨br, e0⟩ : ∃ x, x = nb := ⟨_, rfl⟩
        subst e0
        obtain ⟨cq, e0⟩ : ∃ x, x = ncap := ⟨_, rfl⟩
        subst e0
        obtain ⟨sq, e0⟩ : ∃ x, x = nsp := ⟨_, rfl⟩
        subst e0
        refine Tri.loopU tok [0, 2, 3, 4, 5, 6, 7, 8, 33, 47, 48, 49] (by kernel_rfl) [0, 2, 3, 4, 5, 6, 7, 47, 48] (fun q2 G' fr H' => ∃ (j : Nat) (u : List Int × Rdr) (sv' : Value), j + q2 = w ∧ PLe G5 G' ∧ rowR q2 u = rfin ∧ u.1.length = j ∧ u.2.2.length ≤ 200000000 ∧ Sl G' byteV sv' u.2.2 ∧ H' = (bR, .cells [sv', .bool u.2.1] [] 43) :: (br, .cells ((padL w u.1).map (Value.int .i64)) [] 3) :: (b3, .cells (cellsD (machD s) vn (.slice (some ⟨bq, 0, none⟩) 1 cq) vs) [] 28) :: (b2, .cells zeroC [] 28) :: (bq, .cells [Value.int .i64 ((numP 1 (false, l)).1 : Nat)] sq 3) :: (kn ++ H) ∧ fr = [(0, .pointer (some ⟨bR, 0, none⟩)), (2, .pointer (some ⟨b2, 0, none⟩)), (3, .pointer (some ⟨b3, 0, none⟩)), (4, .func (.func 13) #[.pointer (some ⟨bR, 0, none⟩)] #[]), (5, .int .i64 ((N : Nat) + 1)), (6, .int .i64 (i : Nat)), (7, .slice (some ⟨br, 0, none⟩) w w), (47, .int .i64 w), (48, .int .i64 (j : Nat))]) (w) ?_ ?_
        · rw [Nat.sub_self, List.replicate_zero, padL_nil]
          exact Upd.go (H' := (bR, .cells [sv5, .bool (numP 1 (false, l)).2.1] [] 43) :: (br, .cells ((padL w []).map (Value.int .i64)) [] 3) :: (b3, .cells (cellsD (machD s) vn (.slice (some ⟨bq, 0, none⟩) 1 cq) vs) [] 28) :: (b2, .cells zeroC [] 28) :: (bq, .cells [Value.int .i64 ((numP 1 (false, l)).1 : Nat)] sq 3) :: (kn ++ H)) (by intro fsum; first | exact Nat.le_refl _ | (simp only [List.map_append, List.map_cons, List.map_nil, List.sum_append, List.sum_cons, List.sum_nil, List.cons_append, List.nil_append]; omega)) (Upd.now ⟨0, ([], (numP 1 (false, l)).2), sv5, by omega, PLe.refl _, hrfin.symm, rfl, Nat.le_trans hl4 htl, hsv5, rfl, rfl⟩)
        · rintro q2 G6 fr H' hle6 hs6 ⟨j, u, sv6, hjq, hle56, hu, huj, hul, hsv6, rfl, rfl⟩
          have hsE := hs6
          try simp only [keys_cons, keys_app, keys_nil, Sep_cons, Sep_nil, NotIn_cons, NotIn_app, NotIn_nil, List.cons_append, List.nil_append, List.append_assoc, and_assoc, and_true, true_and] at hsE
          repeat (obtain ⟨hsx, hsE⟩ := hsE)
          have hpd := padL_len (w := w) (l := u.1) (by omega)
          by_cases hjw : j < w
          · obtain ⟨q2, rfl⟩ : ∃ p, q2 = p + 1 := ⟨q2 - 1, by omega⟩
            rw [rowR_succ] at hu
            have hl7 := numP_le 2 u.2
            have hn7 := numP2 u.2
            repeat' first
              | with_reducible refine Br.yes ?_
              | with_reducible refine Br.no ?_
              | with_reducible refine Br.dec (fun _ => ?_) (fun _ => ?_)
              | with_reducible refine Br.beqB (fun _ => ?_) (fun _ => ?_)
              | with_reducible refine Br.beqb (fun _ => ?_) (fun _ => ?_)
              | with_reducible refine Br.mk (fun _ => ?_) (fun _ => ?_)
              | with_reducible refine foundO.mk (fun _ _ => ?_) (fun _ => ?_)
              | with_reducible refine appV.zero ?_
              | with_reducible refine appV.own ?_
              | ((with_reducible refine NewB.mk fun nb hnb => ?_); have hnb1 := hnb.1.1; have hnb2 := hnb.1.2; try simp only [keys_cons, keys_app, keys_nil, NotIn_cons, NotIn_app, NotIn_nil, and_true] at hnb2)
              | ((with_reducible refine NewRow.mk fun nb nsp ncap hnb hncap => ?_); have hnb1 := hnb.1.1; have hnb2 := hnb.1.2; try simp only [keys_cons, keys_app, keys_nil, NotIn_cons, NotIn_app, NotIn_nil, and_true] at hnb2)
              | simp (dsimp := false) (implicitDefEqProofs := false) (disch := first | assumption | (simp only [List.mem_cons, List.mem_append, true_or, or_true, eq_self]; done) | omega | (with_reducible refine Row.adr (by assumption) ?_; simp only [List.length_map, List.length_take, List.length_drop]; omega) | (simp only [List.length_cons, List.length_nil, List.length_map, List.length_append, List.length_replicate, Nat.reduceAdd, true_and, and_true, and_self]; first | done | omega)) only [go_sem, ↓reduceIte, Nat.reduceEqDiff, Nat.reduceAdd, Nat.reduceSub, Nat.reduceMul, Nat.reduceBEq, Nat.reduceLT, Nat.reduceLeDiff, Nat.reduceMod, Nat.reducePow, List.reduceReplicate, UInt8.reduceOfNat, Int.reducePow, Int.reduceDiv, Int.reduceMod, Nat.reduceDiv, Int.reduceNeg, Int.reduceAdd, Int.reduceSub, Int.reduceMul, Int.reduceLE, Int.reduceLT, Int.reduceEq, Int.reduceToNat, reduceCtorEq, -List.reduceReplicate, hL, hgl, hgn, hgw, hpl, hpn, hr1]
            refine number_t hul (n := 2) (by omega) hsv6 fun G7 sv7 hle7 hs7 hsv7 => ?_
            have hput := padL_put (w := w) (l := u.1) (by omega) ((numP 2 u.2).1 : Nat)
            rw [huj] at hput
            have hsE := hs7
            try simp only [keys_cons, keys_app, keys_nil, Sep_cons, Sep_nil, NotIn_cons, NotIn_app, NotIn_nil, List.cons_append, List.nil_append, List.append_assoc, and_assoc, and_true, true_and] at hsE
            repeat (obtain ⟨hsx, hsE⟩ := hsE)
            repeat' first
              | with_reducible refine Br.yes ?_
              | with_reducible refine Br.no ?_
              | with_reducible refine Br.dec (fun _ => ?_) (fun _ => ?_)
              | with_reducible refine Br.beqB (fun _ => ?_) (fun _ => ?_)
              | with_reducible refine Br.beqb (fun _ => ?_) (fun _ => ?_)
              | with_reducible refine Br.mk (fun _ => ?_) (fun _ => ?_)
              | with_reducible refine foundO.mk (fun _ _ => ?_) (fun _ => ?_)
              | with_reducible refine appV.zero ?_
              | with_reducible refine appV.own ?_
              | ((with_reducible refine NewB.mk fun nb hnb => ?_); have hnb1 := hnb.1.1; have hnb2 := hnb.1.2; try simp only [keys_cons, keys_app, keys_nil, NotIn_cons, NotIn_app, NotIn_nil, and_true] at hnb2)
              | ((with_reducible refine NewRow.mk fun nb nsp ncap hnb hncap => ?_); have hnb1 := hnb.1.1; have hnb2 := hnb.1.2; try simp only [keys_cons, keys_app, keys_nil, NotIn_cons, NotIn_app, NotIn_nil, and_true] at hnb2)
              | simp (dsimp := false) (implicitDefEqProofs := false) (disch := first | assumption | (simp only [List.mem_cons, List.mem_append, true_or, or_true, eq_self]; done) | omega | (with_reducible refine Row.adr (by assumption) ?_; simp only [List.length_map, List.length_take, List.length_drop]; omega) | (simp only [List.length_cons, List.length_nil, List.length_map, List.length_append, List.length_replicate, Nat.reduceAdd, true_and, and_true, and_self]; first | done | omega)) only [go_sem, ↓reduceIte, Nat.reduceEqDiff, Nat.reduceAdd, Nat.reduceSub, Nat.reduceMul, Nat.reduceBEq, Nat.reduceLT, Nat.reduceLeDiff, Nat.reduceMod, Nat.reducePow, List.reduceReplicate, UInt8.reduceOfNat, Int.reducePow, Int.reduceDiv, Int.reduceMod, Nat.reduceDiv, Int.reduceNeg, Int.reduceAdd, Int.reduceSub, Int.reduceMul, Int.reduceLE, Int.reduceLT, Int.reduceEq, Int.reduceToNat, reduceCtorEq, -List.reduceReplicate, hL, hgl, hgn, hgw, hpl, hpn, hr1, hput, List.length_map, hpd]
            exact Upd.now ⟨q2, by omega, j + 1, rowStep u, sv7, by omega, hle56.trans hle7, hu, by show (u.1 ++ [_]).length = _; rw [List.length_append, huj]; rfl, Nat.le_trans hl7 hul, hsv7, rfl, rfl⟩
          · obtain rfl : j = w := by omega
            obtain rfl : q2 = 0 := by omega
            rw [rowR_zero] at hu
            have hall := padL_all (w := j) (l := u.1) huj
            rw [hall] at hs6 ⊢
            rw [← hu] at hno
            have hY6 := hY.mono (hle5.trans hle56)
            have hlab : SliceO [] 3 1 (.slice (some ⟨bq, 0, none⟩) 1 cq) (i + 1) ((lab ++ [((numP 1 (false, l)).1 : Int)]).map (Value.int .i64)) [(bq, .cells [Value.int .i64 ((numP 1 (false, l)).1 : Nat)] sq 3)] := by rw [hi0, List.map_append, hx]; exact .inr ⟨bq, cq, sq, rfl, rfl, rfl, hncap⟩
            rcases hY6 with ⟨hnil, rfl, rfl⟩ | ⟨bn, c2, rv, sp1, rfl, rfl, hrv, hc2, hrws⟩
            · have hsE := hs6
              try simp only [keys_cons, keys_app, keys_nil, Sep_cons, Sep_nil, NotIn_cons, NotIn_app, NotIn_nil, List.cons_append, List.nil_append, List.append_assoc, and_assoc, and_true, true_and] at hsE
              repeat (obtain ⟨hsx, hsE⟩ := hsE)
              repeat' first
                | with_reducible refine Br.yes ?_
                | with_reducible refine Br.no ?_
                | with_reducible refine Br.dec (fun _ => ?_) (fun _ => ?_)
                | with_reducible refine Br.beqB (fun _ => ?_) (fun _ => ?_)
                | with_reducible refine Br.beqb (fun _ => ?_) (fun _ => ?_)
                | with_reducible refine Br.mk (fun _ => ?_) (fun _ => ?_)
                | with_reducible refine foundO.mk (fun _ _ => ?_) (fun _ => ?_)
                | with_reducible refine appV.zero ?_
                | with_reducible refine appV.own ?_
                | ((with_reducible refine NewB.mk fun nb hnb => ?_); have hnb1 := hnb.1.1; have hnb2 := hnb.1.2; try simp only [keys_cons, keys_app, keys_nil, NotIn_cons, NotIn_app, NotIn_nil, and_true] at hnb2)
                | ((with_reducible refine NewRow.mk fun nb nsp ncap hnb hncap => ?_); have hnb1 := hnb.1.1; have hnb2 := hnb.1.2; try simp only [keys_cons, keys_app, keys_nil, NotIn_cons, NotIn_app, NotIn_nil, and_true] at hnb2)
                | simp (dsimp := false) (implicitDefEqProofs := false) (disch := first | assumption | (simp only [List.mem_cons, List.mem_append, true_or, or_true, eq_self]; done) | omega | (with_reducible refine Row.adr (by assumption) ?_; simp only [List.length_map, List.length_take, List.length_drop]; omega) | (simp only [List.length_cons, List.length_nil, List.length_map, List.length_append, List.length_replicate, Nat.reduceAdd, true_and, and_true, and_self]; first | done | omega)) only [go_sem, ↓reduceIte, Nat.reduceEqDiff, Nat.reduceAdd, Nat.reduceSub, Nat.reduceMul, Nat.reduceBEq, Nat.reduceLT, Nat.reduceLeDiff, Nat.reduceMod, Nat.reducePow, List.reduceReplicate, UInt8.reduceOfNat, Int.reducePow, Int.reduceDiv, Int.reduceMod, Nat.reduceDiv, Int.reduceNeg, Int.reduceAdd, Int.reduceSub, Int.reduceMul, Int.reduceLE, Int.reduceLT, Int.reduceEq, Int.reduceToNat, reduceCtorEq, -List.reduceReplicate, hL, hgl, hgn, hgw, hpl, hpn, hr1]
              refine Upd.go (H' := (br, .cells (u.1.map (Value.int .i64)) [] 3) :: (bR, .cells [sv6, .bool u.2.1] [] 43) :: (b3, .cells (cellsD (machD s) (.slice (some ⟨nb, 0, none⟩) 1 ncap) (.slice (some ⟨bq, 0, none⟩) 1 cq) vs) [] 28) :: (b2, .cells zeroC [] 28) :: ([(bq, .cells [Value.int .i64 ((numP 1 (false, l)).1 : Nat)] sq 3)] ++ ([(nb, .cells [.slice (some ⟨br, 0, none⟩) j j] nsp 25)] ++ H))) (by intro fsum; first | exact Nat.le_refl _ | (simp only [List.map_append, List.map_cons, List.map_nil, List.sum_append, List.sum_cons, List.sum_nil, List.cons_append, List.nil_append]; omega)) (Upd.shareRow (by assumption) fun G8 hle8 hs8 hr8 => ?_)
              exact ⟨q, by omega, i + 1, ⟨lab ++ [((numP 1 (false, l)).1 : Int)], nxt ++ [u.1], u.2⟩, sv6, _, _, _, _, by omega, hle34.trans ((hle5.trans hle56).trans hle8), hno, by simp [hti], by simp [htn], hul, hsv6.mono hle8, .inr ⟨nb, ncap, _, nsp, by rw [hnil]; rfl, rfl, by rw [hnil]; rfl, by rw [hnil]; exact (by simp at hncap ⊢; omega), fun i2 h h2 => by
                rw [hnil] at h
                obtain rfl : i2 = 0 := by simp at h; omega
                refine ⟨some ⟨br, 0, none⟩, j, ?_, ?_, ?_⟩
                · simp only [hnil, List.nil_append, List.getElem_cons_zero]; rw [huj]
                · simp only [hnil, List.nil_append, List.getElem_cons_zero]; exact hr8
                · simp only [hnil, List.nil_append, List.getElem_cons_zero]; omega⟩, hlab, rfl, rfl⟩
            · have hn0 : nxt.length + sp1.length = c2 := hc2
              have hsE := hs6
              try simp only [keys_cons, keys_app, keys_nil, Sep_cons, Sep_nil, NotIn_cons, NotIn_app, NotIn_nil, List.cons_append, List.nil_append, List.append_assoc, and_assoc, and_true, true_and] at hsE
              repeat (obtain ⟨hsx, hsE⟩ := hsE)
              repeat' first
                | with_reducible refine Br.yes ?_
                | with_reducible refine Br.no ?_
                | with_reducible refine Br.dec (fun _ => ?_) (fun _ => ?_)
                | with_reducible refine Br.beqB (fun _ => ?_) (fun _ => ?_)
                | with_reducible refine Br.beqb (fun _ => ?_) (fun _ => ?_)
                | with_reducible refine Br.mk (fun _ => ?_) (fun _ => ?_)
                | with_reducible refine foundO.mk (fun _ _ => ?_) (fun _ => ?_)
                | with_reducible refine appV.zero ?_
                | with_reducible refine appV.own ?_
                | ((with_reducible refine NewB.mk fun nb hnb => ?_); have hnb1 := hnb.1.1; have hnb2 := hnb.1.2; try simp only [keys_cons, keys_app, keys_nil, NotIn_cons, NotIn_app, NotIn_nil, and_true] at hnb2)
                | ((with_reducible refine NewRow.mk fun nb nsp ncap hnb hncap => ?_); have hnb1 := hnb.1.1; have hnb2 := hnb.1.2; try simp only [keys_cons, keys_app, keys_nil, NotIn_cons, NotIn_app, NotIn_nil, and_true] at hnb2)
                | simp (dsimp := false) (implicitDefEqProofs := false) (disch := first | assumption | (simp only [List.mem_cons, List.mem_append, true_or, or_true, eq_self]; done) | omega | (with_reducible refine Row.adr (by assumption) ?_; simp only [List.length_map, List.length_take, List.length_drop]; omega) | (simp only [List.length_cons, List.length_nil, List.length_map, List.length_append, List.length_replicate, Nat.reduceAdd, true_and, and_true, and_self]; first | done | omega)) only [go_sem, ↓reduceIte, Nat.reduceEqDiff, Nat.reduceAdd, Nat.reduceSub, Nat.reduceMul, Nat.reduceBEq, Nat.reduceLT, Nat.reduceLeDiff, Nat.reduceMod, Nat.reducePow, List.reduceReplicate, UInt8.reduceOfNat, Int.reducePow, Int.reduceDiv, Int.reduceMod, Nat.reduceDiv, Int.reduceNeg, Int.reduceAdd, Int.reduceSub, Int.reduceMul, Int.reduceLE, Int.reduceLT, Int.reduceEq, Int.reduceToNat, reduceCtorEq, -List.reduceReplicate, hL, hgl, hgn, hgw, hpl, hpn, hr1]
              refine Upd.go (H' := (br, .cells (u.1.map (Value.int .i64)) [] 3) :: (bR, .cells [sv6, .bool u.2.1] [] 43) :: (b3, .cells (cellsD (machD s) (.slice (some ⟨nb, 0, none⟩) (nxt.length + 1) ncap) (.slice (some ⟨bq, 0, none⟩) 1 cq) vs) [] 28) :: (b2, .cells zeroC [] 28) :: ([(bq, .cells [Value.int .i64 ((numP 1 (false, l)).1 : Nat)] sq 3)] ++ ([(nb, .cells (rv ++ [.slice (some ⟨br, 0, none⟩) j j]) nsp 25)] ++ H))) (by intro fsum; first | exact Nat.le_refl _ | (simp only [List.map_append, List.map_cons, List.map_nil, List.sum_append, List.sum_cons, List.sum_nil, List.cons_append, List.nil_append]; omega)) (Upd.shareRow (by assumption) fun G8 hle8 hs8 hr8 => ?_)
              exact ⟨q, by omega, i + 1, ⟨lab ++ [((numP 1 (false, l)).1 : Int)], nxt ++ [u.1], u.2⟩, sv6, _, _, _, _, by omega, hle34.trans ((hle5.trans hle56).trans hle8), hno, by simp [hti], by simp [htn], hul, hsv6.mono hle8, .inr ⟨nb, ncap, _, nsp, by rw [List.length_append]; rfl, rfl, by rw [List.length_append, List.length_append, hrv]; rfl, by rw [List.length_append]; exact (by simp at hncap ⊢; omega), fun i2 h h2 => by
                rcases Nat.lt_or_ge i2 nxt.length with hij | hij
                · obtain ⟨b', c', f1, f2, f3⟩ := hrws i2 hij (by omega)
                  refine ⟨b', c', ?_, ?_, ?_⟩
                  · rw [List.getElem_append_left (by omega)]; simp only [List.getElem_append_left hij]; exact f1
                  · simp only [List.getElem_append_left hij]; exact f2.mono hle8
                  · simp only [List.getElem_append_left hij]; exact f3
                · obtain rfl : i2 = nxt.length := by rw [List.length_append] at h; simp at h; omega
                  refine ⟨some ⟨br, 0, none⟩, j, ?_, ?_, ?_⟩
                  · rw [List.getElem_append_right (by omega)]; simp [hrv, huj]
                  · simpa using hr8
                  · simp; omega⟩, hlab, rfl, rfl⟩
      · rw [List.length_map, Nat.mul_one] at hx hc
        repeat' first
          | with_reducible refine Br.yes ?_
          | with_reducible refine Br.no ?_
          | with_reducible refine Br.dec (fun _ => ?_) (fun _ => ?_)
          | with_reducible refine Br.beqB (fun _ => ?_) (fun _ => ?_)
          | with_reducible refine Br.beqb (fun _ => ?_) (fun _ => ?_)
          | with_reducible refine Br.mk (fun _ => ?_) (fun _ => ?_)
          | with_reducible refine foundO.mk (fun _ _ => ?_) (fun _ => ?_)
          | with_reducible refine appV.zero ?_
          | with_reducible refine appV.own ?_
          | ((with_reducible refine NewB.mk fun nb hnb => ?_); have hnb1 := hnb.1.1; have hnb2 := hnb.1.2; try simp only [keys_cons, keys_app, keys_nil, NotIn_cons, NotIn_app, NotIn_nil, and_true] at hnb2)
          | ((with_reducible refine NewRow.mk fun nb nsp ncap hnb hncap => ?_); have hnb1 := hnb.1.1; have hnb2 := hnb.1.2; try simp only [keys_cons, keys_app, keys_nil, NotIn_cons, NotIn_app, NotIn_nil, and_true] at hnb2)
          | simp (dsimp := false) (implicitDefEqProofs := false) (disch := first | assumption | (simp only [List.mem_cons, List.mem_append, true_or, or_true, eq_self]; done) | omega | (with_reducible refine Row.adr (by assumption) ?_; simp only [List.length_map, List.length_take, List.length_drop]; omega) | (simp only [List.length_cons, List.length_nil, List.length_map, List.length_append, List.length_replicate, Nat.reduceAdd, true_and, and_true, and_self]; first | done | omega)) only [go_sem, ↓reduceIte, Nat.reduceEqDiff, Nat.reduceAdd, Nat.reduceSub, Nat.reduceMul, Nat.reduceBEq, Nat.reduceLT, Nat.reduceLeDiff, Nat.reduceMod, Nat.reducePow, List.reduceReplicate, UInt8.reduceOfNat, Int.reducePow, Int.reduceDiv, Int.reduceMod, Nat.reduceDiv, Int.reduceNeg, Int.reduceAdd, Int.reduceSub, Int.reduceMul, Int.reduceLE, Int.reduceLT, Int.reduceEq, Int.reduceToNat, reduceCtorEq, -List.reduceReplicate, hL, hgl, hgn, hgw, hpl, hpn, hr1]
          | with_reducible refine Tri.drawS tok mixed [0, 2, 3, 4, 5, 6, 7, 8, 33, 47, 48, 49] 9 [1] (.op 0 .plain (.op 1 .held (.op 2 .plain (.op 3 .keeps (.op 4 .keeps (.op 5 .plain (.op 6 .plain (.op 7 .plain .nil)))))))) (by kernel_rfl) [(b3, .cells (cellsD (machD s) vn (.slice (some ⟨bl, 0, none⟩) i cl) vs) [] 28)] (by intro fsum; first | exact Nat.le_refl _ | (simp only [List.map_append, List.map_cons, List.map_nil, List.sum_append, List.sum_cons, List.sum_nil, List.cons_append, List.nil_append]; omega)) ?_
        refine number_t (s := (false, l)) htl (n := 1) (by omega) hsv4 fun G5 sv5 hle5 hs5 hsv5 => ?_
        have hsE := hs5
        try simp only [keys_cons, keys_app, keys_nil, Sep_cons, Sep_nil, NotIn_cons, NotIn_app, NotIn_nil, List.cons_append, List.nil_append, List.append_assoc, and_assoc, and_true, true_and] at hsE
        repeat (obtain ⟨hsx, hsE⟩ := hsE)
        repeat' first
          | with_reducible refine Br.yes ?_
          | with_reducible refine Br.no ?_
          | with_reducible refine Br.dec (fun _ => ?_) (fun _ => ?_)
          | with_reducible refine Br.beqB (fun _ => ?_) (fun _ => ?_)
          | with_reducible refine Br.beqb (fun _ => ?_) (fun _ => ?_)
          | with_reducible refine Br.mk (fun _ => ?_) (fun _ => ?_)
          | with_reducible refine foundO.mk (fun _ _ => ?_) (fun _ => ?_)
          | with_reducible refine appV.zero ?_
          | with_reducible refine appV.own ?_
          | ((with_reducible refine NewB.mk fun nb hnb => ?_); have hnb1 := hnb.1.1; have hnb2 := hnb.1.2; try simp only [keys_cons, keys_app, keys_nil, NotIn_cons, NotIn_app, NotIn_nil, and_true] at hnb2)
          | ((with_reducible refine NewRow.mk fun nb nsp ncap hnb hncap => ?_); have hnb1 := hnb.1.1; have hnb2 := hnb.1.2; try simp only [keys_cons, keys_app, keys_nil, NotIn_cons, NotIn_app, NotIn_nil, and_true] at hnb2)
          | simp (dsimp := false) (implicitDefEqProofs := false) (disch := first | assumption | (simp only [List.mem_cons, List.mem_append, true_or, or_true, eq_self]; done) | omega | (with_reducible refine Row.adr (by assumption) ?_; simp only [List.length_map, List.length_take, List.length_drop]; omega) | (simp only [List.length_cons, List.length_nil, List.length_map, List.length_append, List.length_replicate, Nat.reduceAdd, true_and, and_true, and_self]; first | done | omega)) only [go_sem, ↓reduceIte, Nat.reduceEqDiff, Nat.reduceAdd, Nat.reduceSub, Nat.reduceMul, Nat.reduceBEq, Nat.reduceLT, Nat.reduceLeDiff, Nat.reduceMod, Nat.reducePow, List.reduceReplicate, UInt8.reduceOfNat, Int.reducePow, Int.reduceDiv, Int.reduceMod, Nat.reduceDiv, Int.reduceNeg, Int.reduceAdd, Int.reduceSub, Int.reduceMul, Int.reduceLE, Int.reduceLT, Int.reduceEq, Int.reduceToNat, reduceCtorEq, -List.reduceReplicate, hL, hgl, hgn, hgw, hpl, hpn, hr1]
        rename_i bq hbq1 hbq2 hbq3
        obtain ⟨br, e0⟩ : ∃ x, x = nb := ⟨_, rfl⟩
        subst e0
        obtain ⟨cq, e0⟩ : ∃ x, x = ncap := ⟨_, rfl⟩
        subst e0
        obtain ⟨sq, e0⟩ : ∃ x, x = nsp := ⟨_, rfl⟩
        subst e0
        refine Tri.loopU tok [0, 2, 3, 4, 5, 6, 7, 8, 33, 47, 48, 49] (by kernel_rfl) [0, 2, 3, 4, 5, 6, 7, 47, 48] (fun q2 G' fr H' => ∃ (j : Nat) (u : List Int × Rdr) (sv' : Value), j + q2 = w ∧ PLe G5 G' ∧ rowR q2 u = rfin ∧ u.1.length = j ∧ u.2.2.length ≤ 200000000 ∧ Sl G' byteV sv' u.2.2 ∧ H' = (bR, .cells [sv', .bool u.2.1] [] 43) :: (br, .cells ((padL w u.1).map (Value.int .i64)) [] 3) :: (b3, .cells (cellsD (machD s) vn (.slice (some ⟨bq, 0, none⟩) (i + 1) cq) vs) [] 28) :: (b2, .cells zeroC [] 28) :: (bq, .cells (lab.map (Value.int .i64) ++ [Value.int .i64 ((numP 1 (false, l)).1 : Nat)]) sq 3) :: (kn ++ H) ∧ fr = [(0, .pointer (some ⟨bR, 0, none⟩)), (2, .pointer (some ⟨b2, 0, none⟩)), (3, .pointer (some ⟨b3, 0, none⟩)), (4, .func (.func 13) #[.pointer (some ⟨bR, 0, none⟩)] #[]), (5, .int .i64 ((N : Nat) + 1)), (6, .int .i64 (i : Nat)), (7, .slice (some ⟨br, 0, none⟩) w w), (47, .int .i64 w), (48, .int .i64 (j : Nat))]) (w) ?_ ?_
        · rw [Nat.sub_self, List.replicate_zero, padL_nil]
          exact Upd.go (H' := (bR, .cells [sv5, .bool (numP 1 (false, l)).2.1] [] 43) :: (br, .cells ((padL w []).map (Value.int .i64)) [] 3) :: (b3, .cells (cellsD (machD s) vn (.slice (some ⟨bq, 0, none⟩) (i + 1) cq) vs) [] 28) :: (b2, .cells zeroC [] 28) :: (bq, .cells (lab.map (Value.int .i64) ++ [Value.int .i64 ((numP 1 (false, l)).1 : Nat)]) sq 3) :: (kn ++ H)) (by intro fsum; first | exact Nat.le_refl _ | (simp only [List.map_append, List.map_cons, List.map_nil, List.sum_append, List.sum_cons, List.sum_nil, List.cons_append, List.nil_append]; omega)) (Upd.now ⟨0, ([], (numP 1 (false, l)).2), sv5, by omega, PLe.refl _, hrfin.symm, rfl, Nat.le_trans hl4 htl, hsv5, rfl, rfl⟩)
        · rintro q2 G6 fr H' hle6 hs6 ⟨j, u, sv6, hjq, hle56, hu, huj, hul, hsv6, rfl, rfl⟩
          have hsE := hs6
          try simp only [keys_cons, keys_app, keys_nil, Sep_cons, Sep_nil, NotIn_cons, NotIn_app, NotIn_nil, List.cons_append, List.nil_append, List.append_assoc, and_assoc, and_true, true_and] at hsE
          repeat (obtain ⟨hsx, hsE⟩ := hsE)
          have hpd := padL_len (w := w) (l := u.1) (by omega)
          by_cases hjw : j < w
          · obtain ⟨q2, rfl⟩ : ∃ p, q2 = p + 1 := ⟨q2 - 1, by omega⟩
            rw [rowR_succ] at hu
            have hl7 := numP_le 2 u.2
            have hn7 := numP2 u.2
            repeat' first
              | with_reducible refine Br.yes ?_
              | with_reducible refine Br.no ?_
              | with_reducible refine Br.dec (fun _ => ?_) (fun _ => ?_)
              | with_reducible refine Br.beqB (fun _ => ?_) (fun _ => ?_)
              | with_reducible refine Br.beqb (fun _ => ?_) (fun _ => ?_)
              | with_reducible refine Br.mk (fun _ => ?_) (fun _ => ?_)
              | with_reducible refine foundO.mk (fun _ _ => ?_) (fun _ => ?_)
              | with_reducible refine appV.zero ?_
              | with_reducible refine appV.own ?_
              | ((with_reducible refine NewB.mk fun nb hnb => ?_); have hnb1 := hnb.1.1; have hnb2 := hnb.1.2; try simp only [keys_cons, keys_app, keys_nil, NotIn_cons, NotIn_app, NotIn_nil, and_true] at hnb2)
              | ((with_reducible refine NewRow.mk fun nb nsp ncap hnb hncap => ?_); have hnb1 := hnb.1.1; have hnb2 := hnb.1.2; try simp only [keys_cons, keys_app, keys_nil, NotIn_cons, NotIn_app, NotIn_nil, and_true] at hnb2)
              | simp (dsimp := false) (implicitDefEqProofs := false) (disch := first | assumption | (simp only [List.mem_cons, List.mem_append, true_or, or_true, eq_self]; done) | omega | (with_reducible refine Row.adr (by assumption) ?_; simp only [List.length_map, List.length_take, List.length_drop]; omega) | (simp only [List.length_cons, List.length_nil, List.length_map, List.length_append, List.length_replicate, Nat.reduceAdd, true_and, and_true, and_self]; first | done | omega)) only [go_sem, ↓reduceIte, Nat.reduceEqDiff, Nat.reduceAdd, Nat.reduceSub, Nat.reduceMul, Nat.reduceBEq, Nat.reduceLT, Nat.reduceLeDiff, Nat.reduceMod, Nat.reducePow, List.reduceReplicate, UInt8.reduceOfNat, Int.reducePow, Int.reduceDiv, Int.reduceMod, Nat.reduceDiv, Int.reduceNeg, Int.reduceAdd, Int.reduceSub, Int.reduceMul, Int.reduceLE, Int.reduceLT, Int.reduceEq, Int.reduceToNat, reduceCtorEq, -List.reduceReplicate, hL, hgl, hgn, hgw, hpl, hpn, hr1]
            refine number_t hul (n := 2) (by omega) hsv6 fun G7 sv7 hle7 hs7 hsv7 => ?_
            have hput := padL_put (w := w) (l := u.1) (by omega) ((numP 2 u.2).1 : Nat)
            rw [huj] at hput
            have hsE := hs7
            try simp only [keys_cons, keys_app, keys_nil, Sep_cons, Sep_nil, NotIn_cons, NotIn_app, NotIn_nil, List.cons_append, List.nil_append, List.append_assoc, and_assoc, and_true, true_and] at hsE
            repeat (obtain ⟨hsx, hsE⟩ := hsE)
            repeat' first
              | with_reducible refine Br.yes ?_
              | with_reducible refine Br.no ?_
              | with_reducible refine Br.dec (fun _ => ?_) (fun _ => ?_)
              | with_reducible refine Br.beqB (fun _ => ?_) (fun _ => ?_)
              | with_reducible refine Br.beqb (fun _ => ?_) (fun _ => ?_)
              | with_reducible refine Br.mk (fun _ => ?_) (fun _ => ?_)
              | with_reducible refine foundO.mk (fun _ _ => ?_) (fun _ => ?_)
              | with_reducible refine appV.zero ?_
              | with_reducible refine appV.own ?_
              | ((with_reducible refine NewB.mk fun nb hnb => ?_); have hnb1 := hnb.1.1; have hnb2 := hnb.1.2; try simp only [keys_cons, keys_app, keys_nil, NotIn_cons, NotIn_app, NotIn_nil, and_true] at hnb2)
              | ((with_reducible refine NewRow.mk fun nb nsp ncap hnb hncap => ?_); have hnb1 := hnb.1.1; have hnb2 := hnb.1.2; try simp only [keys_cons, keys_app, keys_nil, NotIn_cons, NotIn_app, NotIn_nil, and_true] at hnb2)
              | simp (dsimp := false) (implicitDefEqProofs := false) (disch := first | assumption | (simp only [List.mem_cons, List.mem_append, true_or, or_true, eq_self]; done) | omega | (with_reducible refine Row.adr (by assumption) ?_; simp only [List.length_map, List.length_take, List.length_drop]; omega) | (simp only [List.length_cons, List.length_nil, List.length_map, List.length_append, List.length_replicate, Nat.reduceAdd, true_and, and_true, and_self]; first | done | omega)) only [go_sem, ↓reduceIte, Nat.reduceEqDiff, Nat.reduceAdd, Nat.reduceSub, Nat.reduceMul, Nat.reduceBEq, Nat.reduceLT, Nat.reduceLeDiff, Nat.reduceMod, Nat.reducePow, List.reduceReplicate, UInt8.reduceOfNat, Int.reducePow, Int.reduceDiv, Int.reduceMod, Nat.reduceDiv, Int.reduceNeg, Int.reduceAdd, Int.reduceSub, Int.reduceMul, Int.reduceLE, Int.reduceLT, Int.reduceEq, Int.reduceToNat, reduceCtorEq, -List.reduceReplicate, hL, hgl, hgn, hgw, hpl, hpn, hr1, hput, List.length_map, hpd]
            exact Upd.now ⟨q2, by omega, j + 1, rowStep u, sv7, by omega, hle56.trans hle7, hu, by show (u.1 ++ [_]).length = _; rw [List.length_append, huj]; rfl, Nat.le_trans hl7 hul, hsv7, rfl, rfl⟩
          · obtain rfl : j = w := by omega
            obtain rfl : q2 = 0 := by omega
            rw [rowR_zero] at hu
            have hall := padL_all (w := j) (l := u.1) huj
            rw [hall] at hs6 ⊢
            rw [← hu] at hno
            have hY6 := hY.mono (hle5.trans hle56)
            have hlab : SliceO [] 3 1 (.slice (some ⟨bq, 0, none⟩) (i + 1) cq) (i + 1) ((lab ++ [((numP 1 (false, l)).1 : Int)]).map (Value.int .i64)) [(bq, .cells (lab.map (Value.int .i64) ++ [Value.int .i64 ((numP 1 (false, l)).1 : Nat)]) sq 3)] := by rw [List.map_append]; exact .inr ⟨bq, cq, sq, rfl, rfl, by simp; omega, by simp at hncap ⊢; omega⟩
            rcases hY6 with ⟨hnil, rfl, rfl⟩ | ⟨bn, c2, rv, sp1, rfl, rfl, hrv, hc2, hrws⟩
            · have hsE := hs6
              try simp only [keys_cons, keys_app, keys_nil, Sep_cons, Sep_nil, NotIn_cons, NotIn_app, NotIn_nil, List.cons_append, List.nil_append, List.append_assoc, and_assoc, and_true, true_and] at hsE
              repeat (obtain ⟨hsx, hsE⟩ := hsE)
              repeat' first
                | with_reducible refine Br.yes ?_
                | with_reducible refine Br.no ?_
                | with_reducible refine Br.dec (fun _ => ?_) (fun _ => ?_)
                | with_reducible refine Br.beqB (fun _ => ?_) (fun _ => ?_)
                | with_reducible refine Br.beqb (fun _ => ?_) (fun _ => ?_)
                | with_reducible refine Br.mk (fun _ => ?_) (fun _ => ?_)
                | with_reducible refine foundO.mk (fun _ _ => ?_) (fun _ => ?_)
                | with_reducible refine appV.zero ?_
                | with_reducible refine appV.own ?_
                | ((with_reducible refine NewB.mk fun nb hnb => ?_); have hnb1 := hnb.1.1; have hnb2 := hnb.1.2; try simp only [keys_cons, keys_app, keys_nil, NotIn_cons, NotIn_app, NotIn_nil, and_true] at hnb2)
                | ((with_reducible refine NewRow.mk fun nb nsp ncap hnb hncap => ?_); have hnb1 := hnb.1.1; have hnb2 := hnb.1.2; try simp only [keys_cons, keys_app, keys_nil, NotIn_cons, NotIn_app, NotIn_nil, and_true] at hnb2)
                | simp (dsimp := false) (implicitDefEqProofs := false) (disch := first | assumption | (simp only [List.mem_cons, List.mem_append, true_or, or_true, eq_self]; done) | omega | (with_reducible refine Row.adr (by assumption) ?_; simp only [List.length_map, List.length_take, List.length_drop]; omega) | (simp only [List.length_cons, List.length_nil, List.length_map, List.length_append, List.length_replicate, Nat.reduceAdd, true_and, and_true, and_self]; first | done | omega)) only [go_sem, ↓reduceIte, Nat.reduceEqDiff, Nat.reduceAdd, Nat.reduceSub, Nat.reduceMul, Nat.reduceBEq, Nat.reduceLT, Nat.reduceLeDiff, Nat.reduceMod, Nat.reducePow, List.reduceReplicate, UInt8.reduceOfNat, Int.reducePow, Int.reduceDiv, Int.reduceMod, Nat.reduceDiv, Int.reduceNeg, Int.reduceAdd, Int.reduceSub, Int.reduceMul, Int.reduceLE, Int.reduceLT, Int.reduceEq, Int.reduceToNat, reduceCtorEq, -List.reduceReplicate, hL, hgl, hgn, hgw, hpl, hpn, hr1]
              refine Upd.go (H' := (br, .cells (u.1.map (Value.int .i64)) [] 3) :: (bR, .cells [sv6, .bool u.2.1] [] 43) :: (b3, .cells (cellsD (machD s) (.slice (some ⟨nb, 0, none⟩) 1 ncap) (.slice (some ⟨bq, 0, none⟩) (i + 1) cq) vs) [] 28) :: (b2, .cells zeroC [] 28) :: ([(bq, .cells (lab.map (Value.int .i64) ++ [Value.int .i64 ((numP 1 (false, l)).1 : Nat)]) sq 3)] ++ ([(nb, .cells [.slice (some ⟨br, 0, none⟩) j j] nsp 25)] ++ H))) (by intro fsum; first | exact Nat.le_refl _ | (simp only [List.map_append, List.map_cons, List.map_nil, List.sum_append, List.sum_cons, List.sum_nil, List.cons_append, List.nil_append]; omega)) (Upd.shareRow (by assumption) fun G8 hle8 hs8 hr8 => ?_)
              exact ⟨q, by omega, i + 1, ⟨lab ++ [((numP 1 (false, l)).1 : Int)], nxt ++ [u.1], u.2⟩, sv6, _, _, _, _, by omega, hle34.trans ((hle5.trans hle56).trans hle8), hno, by simp [hti], by simp [htn], hul, hsv6.mono hle8, .inr ⟨nb, ncap, _, nsp, by rw [hnil]; rfl, rfl, by rw [hnil]; rfl, by rw [hnil]; exact (by simp at hncap ⊢; omega), fun i2 h h2 => by
                rw [hnil] at h
                obtain rfl : i2 = 0 := by simp at h; omega
                refine ⟨some ⟨br, 0, none⟩, j, ?_, ?_, ?_⟩
                · simp only [hnil, List.nil_append, List.getElem_cons_zero]; rw [huj]
                · simp only [hnil, List.nil_append, List.getElem_cons_zero]; exact hr8
                · simp only [hnil, List.nil_append, List.getElem_cons_zero]; omega⟩, hlab, rfl, rfl⟩
            · have hn0 : nxt.length + sp1.length = c2 := hc2
              have hsE := hs6
              try simp only [keys_cons, keys_app, keys_nil, Sep_cons, Sep_nil, NotIn_cons, NotIn_app, NotIn_nil, List.cons_append, List.nil_append, List.append_assoc, and_assoc, and_true, true_and] at hsE
              repeat (obtain ⟨hsx, hsE⟩ := hsE)
              repeat' first
                | with_reducible refine Br.yes ?_
                | with_reducible refine Br.no ?_
                | with_reducible refine Br.dec (fun _ => ?_) (fun _ => ?_)
                | with_reducible refine Br.beqB (fun _ => ?_) (fun _ => ?_)
                | with_reducible refine Br.beqb (fun _ => ?_) (fun _ => ?_)
                | with_reducible refine Br.mk (fun _ => ?_) (fun _ => ?_)
                | with_reducible refine foundO.mk (fun _ _ => ?_) (fun _ => ?_)
                | with_reducible refine appV.zero ?_
                | with_reducible refine appV.own ?_
                | ((with_reducible refine NewB.mk fun nb hnb => ?_); have hnb1 := hnb.1.1; have hnb2 := hnb.1.2; try simp only [keys_cons, keys_app, keys_nil, NotIn_cons, NotIn_app, NotIn_nil, and_true] at hnb2)
                | ((with_reducible refine NewRow.mk fun nb nsp ncap hnb hncap => ?_); have hnb1 := hnb.1.1; have hnb2 := hnb.1.2; try simp only [keys_cons, keys_app, keys_nil, NotIn_cons, NotIn_app, NotIn_nil, and_true] at hnb2)
                | simp (dsimp := false) (implicitDefEqProofs := false) (disch := first | assumption | (simp only [List.mem_cons, List.mem_append, true_or, or_true, eq_self]; done) | omega | (with_reducible refine Row.adr (by assumption) ?_; simp only [List.length_map, List.length_take, List.length_drop]; omega) | (simp only [List.length_cons, List.length_nil, List.length_map, List.length_append, List.length_replicate, Nat.reduceAdd, true_and, and_true, and_self]; first | done | omega)) only [go_sem, ↓reduceIte, Nat.reduceEqDiff, Nat.reduceAdd, Nat.reduceSub, Nat.reduceMul, Nat.reduceBEq, Nat.reduceLT, Nat.reduceLeDiff, Nat.reduceMod, Nat.reducePow, List.reduceReplicate, UInt8.reduceOfNat, Int.reducePow, Int.reduceDiv, Int.reduceMod, Nat.reduceDiv, Int.reduceNeg, Int.reduceAdd, Int.reduceSub, Int.reduceMul, Int.reduceLE, Int.reduceLT, Int.reduceEq, Int.reduceToNat, reduceCtorEq, -List.reduceReplicate, hL, hgl, hgn, hgw, hpl, hpn, hr1]
              refine Upd.go (H' := (br, .cells (u.1.map (Value.int .i64)) [] 3) :: (bR, .cells [sv6, .bool u.2.1] [] 43) :: (b3, .cells (cellsD (machD s) (.slice (some ⟨nb, 0, none⟩) (nxt.length + 1) ncap) (.slice (some ⟨bq, 0, none⟩) (i + 1) cq) vs) [] 28) :: (b2, .cells zeroC [] 28) :: ([(bq, .cells (lab.map (Value.int .i64) ++ [Value.int .i64 ((numP 1 (false, l)).1 : Nat)]) sq 3)] ++ ([(nb, .cells (rv ++ [.slice (some ⟨br, 0, none⟩) j j]) nsp 25)] ++ H))) (by intro fsum; first | exact Nat.le_refl _ | (simp only [List.map_append, List.map_cons, List.map_nil, List.sum_append, List.sum_cons, List.sum_nil, List.cons_append, List.nil_append]; omega)) (Upd.shareRow (by assumption) fun G8 hle8 hs8 hr8 => ?_)
              exact ⟨q, by omega, i + 1, ⟨lab ++ [((numP 1 (false, l)).1 : Int)], nxt ++ [u.1], u.2⟩, sv6, _, _, _, _, by omega, hle34.trans ((hle5.trans hle56).trans hle8), hno, by simp [hti], by simp [htn], hul, hsv6.mono hle8, .inr ⟨nb, ncap, _, nsp, by rw [List.length_append]; rfl, rfl, by rw [List.length_append, List.length_append, hrv]; rfl, by rw [List.length_append]; exact (by simp at hncap ⊢; omega), fun i2 h h2 => by
                rcases Nat.lt_or_ge i2 nxt.length with hij | hij
                · obtain ⟨b', c', f1, f2, f3⟩ := hrws i2 hij (by omega)
                  refine ⟨b', c', ?_, ?_, ?_⟩
                  · rw [List.getElem_append_left (by omega)]; simp only [List.getElem_append_left hij]; exact f1
                  · simp only [List.getElem_append_left hij]; exact f2.mono hle8
                  · simp only [List.getElem_append_left hij]; exact f3
                · obtain rfl : i2 = nxt.length := by rw [List.length_append] at h; simp at h; omega
                  refine ⟨some ⟨br, 0, none⟩, j, ?_, ?_, ?_⟩
                  · rw [List.getElem_append_right (by omega)]; simp [hrv, huj]
                  · simpa using hr8
                  · simp; omega⟩, hlab, rfl, rfl⟩
    · have hfin2 : t = machRest s := by
        by_cases hin : i < N + 1
        · have hbad : t.s.1 = true := by cases e : t.s.1 with | true => rfl | false => exact absurd ⟨hin, e⟩ hrun
          rw [macR_id hbad] at hst; exact hst
        · obtain rfl : q = 0 := by omega
          rw [macR_zero] at hst; exact hst
      have hD : ∀ (G' : PHeap) (an al : Option Addr) (cn cl : Nat), PLe G4 G' → SlS G' (.slice an i cn) t.nxt → Sl G' (Value.int .i64) (.slice al i cl) t.lab → IsD G' (machD s) (.agg (cellsD (machD s) (.slice an i cn) (.slice al i cl) vs).toArray) := fun G' an al cn cl hle h1 h2 => by
        refine ⟨hml, fun x hx => ?_, _, _, _, rfl, ?_, ?_, ?_⟩
        · have hx : x ∈ ofF (clsP (namesP s).2).f := hx
          unfold ofF at hx
          obtain ⟨k, _, rfl⟩ := List.mem_map.1 hx
          exact (clsP_w (namesP s).2).2 k
        · rw [hfin2] at h1; exact h1
        · rw [hfin2] at h2; exact h2
        · rw [hvs]; exact hnm0.mono ((hle2.trans hle3).trans (hle34.trans hle))
      have hkey : ∀ (G' : PHeap) (an al : Option Addr) (cn cl : Nat), PLe G4 G' → SlS G' (.slice an i cn) t.nxt → Sl G' (Value.int .i64) (.slice al i cl) t.lab → Sep G' (keys ((bR, Res.cells [sv4, .bool t.s.1] [] 43) :: H)) → R (.agg (cellsD (machD s) (.slice an i cn) (.slice al i cl) vs).toArray) G' ((bR, .cells [sv4, .bool t.s.1] [] 43) :: H) := fun G' an al cn cl hle h1 h2 hsp => by
        have := hR G' _ sv4 (hle03.trans (hle34.trans hle)) (by rw [← hfin2]; exact hsp) (hD G' an al cn cl hle h1 h2) (by rw [← hfin2]; exact hsv4.mono hle)
        rw [← hfin2] at this
        exact this
      have hvsl : ∃ a n c, vs = Value.slice a n c := ⟨_, _, _, hvs⟩
      obtain ⟨av, nv, cv, hvs2⟩ := hvsl
      clear hD
      rw [hvs2] at hkey ⊢
      rcases hO with ⟨al, rfl, hi0, hx, rfl⟩ | ⟨bl, cl, sp, rfl, rfl, hx, hc⟩
      · rcases hY with ⟨hnil, rfl, rfl⟩ | ⟨bn, c2, rv, sp1, rfl, rfl, hrv, hc2, hrws⟩
        · have hdum : True := trivial
          obtain rfl : i = 0 := by rw [← htn, hnil]; rfl
          have hsE := hs4
          try simp only [keys_cons, keys_app, keys_nil, Sep_cons, Sep_nil, NotIn_cons, NotIn_app, NotIn_nil, List.cons_append, List.nil_append, List.append_assoc, and_assoc, and_true, true_and] at hsE
          repeat (obtain ⟨hsx, hsE⟩ := hsE)
          have hlz : t.lab = [] := List.eq_nil_of_length_eq_zero (by omega)
          by_cases hin : 0 < N + 1
          · have hbad : t.s.1 = true := by cases e : t.s.1 with | true => rfl | false => exact absurd ⟨hin, e⟩ hrun
            have hkeyb := hkey
            rw [hbad] at hkeyb
            repeat' first
              | with_reducible refine Br.yes ?_
              | with_reducible refine Br.no ?_
              | with_reducible refine Br.dec (fun _ => ?_) (fun _ => ?_)
              | with_reducible refine Br.beqB (fun _ => ?_) (fun _ => ?_)
              | with_reducible refine Br.beqb (fun _ => ?_) (fun _ => ?_)
              | with_reducible refine Br.mk (fun _ => ?_) (fun _ => ?_)
              | with_reducible refine foundO.mk (fun _ _ => ?_) (fun _ => ?_)
              | with_reducible refine appV.zero ?_
              | with_reducible refine appV.own ?_
              | ((with_reducible refine NewB.mk fun nb hnb => ?_); have hnb1 := hnb.1.1; have hnb2 := hnb.1.2; try simp only [keys_cons, keys_app, keys_nil, NotIn_cons, NotIn_app, NotIn_nil, and_true] at hnb2)
              | ((with_reducible refine NewRow.mk fun nb nsp ncap hnb hncap => ?_); have hnb1 := hnb.1.1; have hnb2 := hnb.1.2; try simp only [keys_cons, keys_app, keys_nil, NotIn_cons, NotIn_app, NotIn_nil, and_true] at hnb2)
              | simp (dsimp := false) (implicitDefEqProofs := false) (disch := first | assumption | (simp only [List.mem_cons, List.mem_append, true_or, or_true, eq_self]; done) | omega | (with_reducible refine Row.adr (by assumption) ?_; simp only [List.length_map, List.length_take, List.length_drop]; omega) | (simp only [List.length_cons, List.length_nil, List.length_map, List.length_append, List.length_replicate, Nat.reduceAdd, true_and, and_true, and_self]; first | done | omega)) only [go_sem, ↓reduceIte, Nat.reduceEqDiff, Nat.reduceAdd, Nat.reduceSub, Nat.reduceMul, Nat.reduceBEq, Nat.reduceLT, Nat.reduceLeDiff, Nat.reduceMod, Nat.reducePow, List.reduceReplicate, UInt8.reduceOfNat, Int.reducePow, Int.reduceDiv, Int.reduceMod, Nat.reduceDiv, Int.reduceNeg, Int.reduceAdd, Int.reduceSub, Int.reduceMul, Int.reduceLE, Int.reduceLT, Int.reduceEq, Int.reduceToNat, reduceCtorEq, -List.reduceReplicate, zeroC_len, hL, hputz, hone, htk, hbad]
            unfold UpdR
            refine Upd.go (H' := ((bR, .cells [sv4, .bool true] [] 43) :: H)) (by intro fsum; simp only [List.map_append, List.map_cons, List.map_nil, List.sum_append, List.sum_cons, List.sum_nil, List.cons_append, List.nil_append]; omega) ?_
            refine Upd.now ?_
            exact fun _ hs => hkeyb G4 _ _ _ _ (PLe.refl _) ⟨none, 0, [], by rw [hnil]; rfl, Row.nil _ _, by rw [hnil]; rfl, by rw [hnil]; exact Nat.le_refl _, fun i h => by rw [hnil] at h; cases h⟩ ⟨al, 0, by rw [hlz]; rfl, by rw [hlz]; exact Row.nil _ _, by rw [hlz]; exact Nat.le_refl _⟩ hs
          · exact absurd (Nat.succ_pos N) hin
        · have hdum : True := trivial
          obtain rfl : i = 0 := hi0
          rw [htn] at hs4 ⊢
          have hsE := hs4
          try simp only [keys_cons, keys_app, keys_nil, Sep_cons, Sep_nil, NotIn_cons, NotIn_app, NotIn_nil, List.cons_append, List.nil_append, List.append_assoc, and_assoc, and_true, true_and] at hsE
          repeat (obtain ⟨hsx, hsE⟩ := hsE)
          have hlz : t.lab = [] := List.eq_nil_of_length_eq_zero (by omega)
          by_cases hin : 0 < N + 1
          · have hbad : t.s.1 = true := by cases e : t.s.1 with | true => rfl | false => exact absurd ⟨hin, e⟩ hrun
            have hkeyb := hkey
            rw [hbad] at hkeyb
            repeat' first
              | with_reducible refine Br.yes ?_
              | with_reducible refine Br.no ?_
              | with_reducible refine Br.dec (fun _ => ?_) (fun _ => ?_)
              | with_reducible refine Br.beqB (fun _ => ?_) (fun _ => ?_)
              | with_reducible refine Br.beqb (fun _ => ?_) (fun _ => ?_)
              | with_reducible refine Br.mk (fun _ => ?_) (fun _ => ?_)
              | with_reducible refine foundO.mk (fun _ _ => ?_) (fun _ => ?_)
              | with_reducible refine appV.zero ?_
              | with_reducible refine appV.own ?_
              | ((with_reducible refine NewB.mk fun nb hnb => ?_); have hnb1 := hnb.1.1; have hnb2 := hnb.1.2; try simp only [keys_cons, keys_app, keys_nil, NotIn_cons, NotIn_app, NotIn_nil, and_true] at hnb2)
              | ((with_reducible refine NewRow.mk fun nb nsp ncap hnb hncap => ?_); have hnb1 := hnb.1.1; have hnb2 := hnb.1.2; try simp only [keys_cons, keys_app, keys_nil, NotIn_cons, NotIn_app, NotIn_nil, and_true] at hnb2)
              | simp (dsimp := false) (implicitDefEqProofs := false) (disch := first | assumption | (simp only [List.mem_cons, List.mem_append, true_or, or_true, eq_self]; done) | omega | (with_reducible refine Row.adr (by assumption) ?_; simp only [List.length_map, List.length_take, List.length_drop]; omega) | (simp only [List.length_cons, List.length_nil, List.length_map, List.length_append, List.length_replicate, Nat.reduceAdd, true_and, and_true, and_self]; first | done | omega)) only [go_sem, ↓reduceIte, Nat.reduceEqDiff, Nat.reduceAdd, Nat.reduceSub, Nat.reduceMul, Nat.reduceBEq, Nat.reduceLT, Nat.reduceLeDiff, Nat.reduceMod, Nat.reducePow, List.reduceReplicate, UInt8.reduceOfNat, Int.reducePow, Int.reduceDiv, Int.reduceMod, Nat.reduceDiv, Int.reduceNeg, Int.reduceAdd, Int.reduceSub, Int.reduceMul, Int.reduceLE, Int.reduceLT, Int.reduceEq, Int.reduceToNat, reduceCtorEq, -List.reduceReplicate, zeroC_len, hL, hputz, hone, htk, hbad]
            unfold UpdR
            refine Upd.go (H' := [(bn, .cells rv sp1 25)] ++ ((bR, .cells [sv4, .bool true] [] 43) :: H)) (by intro fsum; simp only [List.map_append, List.map_cons, List.map_nil, List.sum_append, List.sum_cons, List.sum_nil, List.cons_append, List.nil_append]; omega) ?_
            refine Upd.shareRow (by assumption) fun G6 hle6 hs6 hr6 => ?_
            exact fun _ hs => hkeyb G6 _ _ _ _ hle6 ⟨some ⟨bn, 0, none⟩, c2, rv, by first | rfl | rw [htn], hr6, hrv, by omega, fun i h h2 => by
                        obtain ⟨b', c', f1, f2, f3⟩ := hrws i h h2
                        exact ⟨b', c', f1, f2.mono hle6, f3⟩⟩ ⟨al, 0, by rw [hlz]; rfl, by rw [hlz]; exact Row.nil _ _, by rw [hlz]; exact Nat.le_refl _⟩ hs
          · exact absurd (Nat.succ_pos N) hin
      · rcases hY with ⟨hnil, rfl, rfl⟩ | ⟨bn, c2, rv, sp1, rfl, rfl, hrv, hc2, hrws⟩
        · have hdum : True := trivial
          obtain rfl : i = 0 := by rw [← htn, hnil]; rfl
          have hsE := hs4
          try simp only [keys_cons, keys_app, keys_nil, Sep_cons, Sep_nil, NotIn_cons, NotIn_app, NotIn_nil, List.cons_append, List.nil_append, List.append_assoc, and_assoc, and_true, true_and] at hsE
          repeat (obtain ⟨hsx, hsE⟩ := hsE)
          rw [List.length_map, Nat.mul_one] at hx hc
          by_cases hin : 0 < N + 1
          · have hbad : t.s.1 = true := by cases e : t.s.1 with | true => rfl | false => exact absurd ⟨hin, e⟩ hrun
            have hkeyb := hkey
            rw [hbad] at hkeyb
            repeat' first
              | with_reducible refine Br.yes ?_
              | with_reducible refine Br.no ?_
              | with_reducible refine Br.dec (fun _ => ?_) (fun _ => ?_)
              | with_reducible refine Br.beqB (fun _ => ?_) (fun _ => ?_)
              | with_reducible refine Br.beqb (fun _ => ?_) (fun _ => ?_)
              | with_reducible refine Br.mk (fun _ => ?_) (fun _ => ?_)
              | with_reducible refine foundO.mk (fun _ _ => ?_) (fun _ => ?_)
              | with_reducible refine appV.zero ?_
              | with_reducible refine appV.own ?_
              | ((with_reducible refine NewB.mk fun nb hnb => ?_); have hnb1 := hnb.1.1; have hnb2 := hnb.1.2; try simp only [keys_cons, keys_app, keys_nil, NotIn_cons, NotIn_app, NotIn_nil, and_true] at hnb2)
              | ((with_reducible refine NewRow.mk fun nb nsp ncap hnb hncap => ?_); have hnb1 := hnb.1.1; have hnb2 := hnb.1.2; try simp only [keys_cons, keys_app, keys_nil, NotIn_cons, NotIn_app, NotIn_nil, and_true] at hnb2)
              | simp (dsimp := false) (implicitDefEqProofs := false) (disch := first | assumption | (simp only [List.mem_cons, List.mem_append, true_or, or_true, eq_self]; done) | omega | (with_reducible refine Row.adr (by assumption) ?_; simp only [List.length_map, List.length_take, List.length_drop]; omega) | (simp only [List.length_cons, List.length_nil, List.length_map, List.length_append, List.length_replicate, Nat.reduceAdd, true_and, and_true, and_self]; first | done | omega)) only [go_sem, ↓reduceIte, Nat.reduceEqDiff, Nat.reduceAdd, Nat.reduceSub, Nat.reduceMul, Nat.reduceBEq, Nat.reduceLT, Nat.reduceLeDiff, Nat.reduceMod, Nat.reducePow, List.reduceReplicate, UInt8.reduceOfNat, Int.reducePow, Int.reduceDiv, Int.reduceMod, Nat.reduceDiv, Int.reduceNeg, Int.reduceAdd, Int.reduceSub, Int.reduceMul, Int.reduceLE, Int.reduceLT, Int.reduceEq, Int.reduceToNat, reduceCtorEq, -List.reduceReplicate, zeroC_len, hL, hputz, hone, htk, hbad]
            unfold UpdR
            refine Upd.go (H' := [(bl, .cells (t.lab.map (Value.int .i64)) sp 3)] ++ ((bR, .cells [sv4, .bool true] [] 43) :: H)) (by intro fsum; simp only [List.map_append, List.map_cons, List.map_nil, List.sum_append, List.sum_cons, List.sum_nil, List.cons_append, List.nil_append]; omega) ?_
            refine Upd.shareRow (by assumption) fun G5 hle5 hs5 hr5 => ?_
            exact fun _ hs => hkeyb G5 _ _ _ _ hle5 ⟨none, 0, [], by rw [hnil]; rfl, Row.nil _ _, by rw [hnil]; rfl, by rw [hnil]; exact Nat.le_refl _, fun i h => by rw [hnil] at h; cases h⟩ ⟨some ⟨bl, 0, none⟩, cl, by rw [hti], hr5, by omega⟩ hs
          · exact absurd (Nat.succ_pos N) hin
        · have hdum : True := trivial
          subst htn
          have hsE := hs4
          try simp only [keys_cons, keys_app, keys_nil, Sep_cons, Sep_nil, NotIn_cons, NotIn_app, NotIn_nil, List.cons_append, List.nil_append, List.append_assoc, and_assoc, and_true, true_and] at hsE
          repeat (obtain ⟨hsx, hsE⟩ := hsE)
          rw [List.length_map, Nat.mul_one] at hx hc
          by_cases hin : t.nxt.length < N + 1
          · have hbad : t.s.1 = true := by cases e : t.s.1 with | true => rfl | false => exact absurd ⟨hin, e⟩ hrun
            have hkeyb := hkey
            rw [hbad] at hkeyb
            repeat' first
              | with_reducible refine Br.yes ?_
              | with_reducible refine Br.no ?_
              | with_reducible refine Br.dec (fun _ => ?_) (fun _ => ?_)
              | with_reducible refine Br.beqB (fun _ => ?_) (fun _ => ?_)
              | with_reducible refine Br.beqb (fun _ => ?_) (fun _ => ?_)
              | with_reducible refine Br.mk (fun _ => ?_) (fun _ => ?_)
              | with_reducible refine foundO.mk (fun _ _ => ?_) (fun _ => ?_)
              | with_reducible refine appV.zero ?_
              | with_reducible refine appV.own ?_
              | ((with_reducible refine NewB.mk fun nb hnb => ?_); have hnb1 := hnb.1.1; have hnb2 := hnb.1.2; try simp only [keys_cons, keys_app, keys_nil, NotIn_cons, NotIn_app, NotIn_nil, and_true] at hnb2)
              | ((with_reducible refine NewRow.mk fun nb nsp ncap hnb hncap => ?_); have hnb1 := hnb.1.1; have hnb2 := hnb.1.2; try simp only [keys_cons, keys_app, keys_nil, NotIn_cons, NotIn_app, NotIn_nil, and_true] at hnb2)
              | simp (dsimp := false) (implicitDefEqProofs := false) (disch := first | assumption | (simp only [List.mem_cons, List.mem_append, true_or, or_true, eq_self]; done) | omega | (with_reducible refine Row.adr (by assumption) ?_; simp only [List.length_map, List.length_take, List.length_drop]; omega) | (simp only [List.length_cons, List.length_nil, List.length_map, List.length_append, List.length_replicate, Nat.reduceAdd, true_and, and_true, and_self]; first | done | omega)) only [go_sem, ↓reduceIte, Nat.reduceEqDiff, Nat.reduceAdd, Nat.reduceSub, Nat.reduceMul, Nat.reduceBEq, Nat.reduceLT, Nat.reduceLeDiff, Nat.reduceMod, Nat.reducePow, List.reduceReplicate, UInt8.reduceOfNat, Int.reducePow, Int.reduceDiv, Int.reduceMod, Nat.reduceDiv, Int.reduceNeg, Int.reduceAdd, Int.reduceSub, Int.reduceMul, Int.reduceLE, Int.reduceLT, Int.reduceEq, Int.reduceToNat, reduceCtorEq, -List.reduceReplicate, zeroC_len, hL, hputz, hone, htk, hbad]
            unfold UpdR
            refine Upd.go (H' := [(bl, .cells (t.lab.map (Value.int .i64)) sp 3)] ++ [(bn, .cells rv sp1 25)] ++ ((bR, .cells [sv4, .bool true] [] 43) :: H)) (by intro fsum; simp only [List.map_append, List.map_cons, List.map_nil, List.sum_append, List.sum_cons, List.sum_nil, List.cons_append, List.nil_append]; omega) ?_
            refine Upd.trans (Upd.shareRow (by assumption) fun G5 hle5 hs5 hr5 => ?_)
            refine Upd.shareRow (hs5.1.1) fun G6 hle6 hs6 hr6 => ?_
            exact fun _ hs => hkeyb G6 _ _ _ _ (hle5.trans hle6) ⟨some ⟨bn, 0, none⟩, c2, rv, by first | rfl | rw [htn], hr6, hrv, by omega, fun i h h2 => by
                        obtain ⟨b', c', f1, f2, f3⟩ := hrws i h h2
                        exact ⟨b', c', f1, f2.mono (hle5.trans hle6), f3⟩⟩ ⟨some ⟨bl, 0, none⟩, cl, by rw [hti], hr5.mono hle6, by omega⟩ hs
          · repeat' first
              | with_reducible refine Br.yes ?_
              | with_reducible refine Br.no ?_
              | with_reducible refine Br.dec (fun _ => ?_) (fun _ => ?_)
              | with_reducible refine Br.beqB (fun _ => ?_) (fun _ => ?_)
              | with_reducible refine Br.beqb (fun _ => ?_) (fun _ => ?_)
              | with_reducible refine Br.mk (fun _ => ?_) (fun _ => ?_)
              | with_reducible refine foundO.mk (fun _ _ => ?_) (fun _ => ?_)
              | with_reducible refine appV.zero ?_
              | with_reducible refine appV.own ?_
              | ((with_reducible refine NewB.mk fun nb hnb => ?_); have hnb1 := hnb.1.1; have hnb2 := hnb.1.2; try simp only [keys_cons, keys_app, keys_nil, NotIn_cons, NotIn_app, NotIn_nil, and_true] at hnb2)
              | ((with_reducible refine NewRow.mk fun nb nsp ncap hnb hncap => ?_); have hnb1 := hnb.1.1; have hnb2 := hnb.1.2; try simp only [keys_cons, keys_app, keys_nil, NotIn_cons, NotIn_app, NotIn_nil, and_true] at hnb2)
              | simp (dsimp := false) (implicitDefEqProofs := false) (disch := first | assumption | (simp only [List.mem_cons, List.mem_append, true_or, or_true, eq_self]; done) | omega | (with_reducible refine Row.adr (by assumption) ?_; simp only [List.length_map, List.length_take, List.length_drop]; omega) | (simp only [List.length_cons, List.length_nil, List.length_map, List.length_append, List.length_replicate, Nat.reduceAdd, true_and, and_true, and_self]; first | done | omega)) only [go_sem, ↓reduceIte, Nat.reduceEqDiff, Nat.reduceAdd, Nat.reduceSub, Nat.reduceMul, Nat.reduceBEq, Nat.reduceLT, Nat.reduceLeDiff, Nat.reduceMod, Nat.reducePow, List.reduceReplicate, UInt8.reduceOfNat, Int.reducePow, Int.reduceDiv, Int.reduceMod, Nat.reduceDiv, Int.reduceNeg, Int.reduceAdd, Int.reduceSub, Int.reduceMul, Int.reduceLE, Int.reduceLT, Int.reduceEq, Int.reduceToNat, reduceCtorEq, -List.reduceReplicate, zeroC_len, hL, hputz, hone, htk]
            unfold UpdR
            refine Upd.go (H' := [(bl, .cells (t.lab.map (Value.int .i64)) sp 3)] ++ [(bn, .cells rv sp1 25)] ++ ((bR, .cells [sv4, .bool t.s.1] [] 43) :: H)) (by intro fsum; simp only [List.map_append, List.map_cons, List.map_nil, List.sum_append, List.sum_cons, List.sum_nil, List.cons_append, List.nil_append]; omega) ?_
            refine Upd.trans (Upd.shareRow (by assumption) fun G5 hle5 hs5 hr5 => ?_)
            refine Upd.shareRow (hs5.1.1) fun G6 hle6 hs6 hr6 => ?_
            exact fun _ hs => hkey G6 _ _ _ _ (hle5.trans hle6) ⟨some ⟨bn, 0, none⟩, c2, rv, by first | rfl | rw [htn], hr6, hrv, by omega, fun i h h2 => by
                        obtain ⟨b', c', f1, f2, f3⟩ := hrws i h h2
                        exact ⟨b', c', f1, f2.mono (hle5.trans hle6), f3⟩⟩ ⟨some ⟨bl, 0, none⟩, cl, by rw [hti], hr5.mono hle6, by omega⟩ hs
end Go.Proofs.Ytomdbjfdbkejoaa
