/- Machines as bytes: the document's guess. -/
import Derived.Test.YtomdbjfdbkejoaaYn
set_option linter.unusedSimpArgs false
set_option linter.unusedVariables false
namespace Go.Proofs.Ytomdbjfdbkejoaa
open Go Go.V Go.Proofs

def gD (f : Nat → Int) (w : Int) (rows : List (List Int)) (lab : List Int) (l : List (List UInt8)) : DfaT := ⟨ofF f, w, rows, lab, l⟩
theorem gD_is {G : PHeap} {f : Nat → Int} (hf : ∀ i, 0 ≤ f i ∧ f i ≤ 255) (w : Int) {rows : List (List Int)} {lab : List Int} {l : List (List UInt8)} {vn vl vs : Value} (h1 : SlS G vn rows) (h2 : Sl G (Value.int .i64) vl lab) (h3 : Sl G str vs l) : IsD G (gD f w rows lab l) (.agg (gC f w vn vl vs).toArray) := by
  refine ⟨ofF_len f, fun x hx => ?_, vn, vl, vs, rfl, h1, h2, h3⟩
  have hx : x ∈ ofF f := hx
  unfold ofF at hx
  obtain ⟨k, _, rfl⟩ := List.mem_map.1 hx
  exact hf k
theorem slS_nil (G : PHeap) : SlS G (.slice none 0 0) [] := ⟨none, 0, [], rfl, Row.nil _ _, rfl, Nat.le_refl _, fun i h => by cases h⟩
theorem sl_nil {α : Type} (G : PHeap) (enc : α → Value) : Sl G enc (.slice none 0 0) [] := ⟨none, 0, rfl, Row.nil _ _, Nat.le_refl _⟩
theorem gC_oneS (f : Nat → Int) (w : Int) (a a' a'' : Option Addr) (n c n' c' n'' c'' : Nat) : (gC f w (.slice a n c) (.slice a' n' c') (.slice a'' n'' c'')).all oneV = true := gC_one rfl rfl rfl
theorem rowY_share {rows : List (List Int)} {G : PHeap} {vn : Value} {kn H : Heap} {k : PHeap → Heap → Prop} (h : RowY rows G vn kn) (hsep : Sep G (keys (kn ++ H))) (hk : ∀ G', PLe G G' → Sep G' (keys H) → SlS G' vn rows → k G' H) : Upd G (kn ++ H) k := by
  rcases h with ⟨rfl, rfl, rfl⟩ | ⟨bn, c1, rv, sp1, rfl, rfl, h1, h2, h3⟩
  · exact Upd.now (hk G (PLe.refl _) hsep (slS_nil G))
  · refine Upd.shareRow hsep.1.1 fun G' hle hs hr => hk G' hle hs ⟨_, c1, rv, rfl, hr, h1, by omega, fun i a b => ?_⟩
    obtain ⟨x, y, e1, e2, e3⟩ := h3 i a b
    exact ⟨x, y, e1, e2.mono hle, e3⟩
theorem gD_small {f : Nat → Int} {w : Int} {rows : List (List Int)} {lab : List Int} {l : List (List UInt8)} (h1 : rows.length ≤ 70000) (h2 : ∀ r ∈ rows, r.length ≤ 256) (h3 : lab.length ≤ 70000) (h4 : l.length ≤ 255) (h5 : ∀ s ∈ l, s.length ≤ 2000000) : SmallD (gD f w rows lab l) :=
  ⟨by show rows.length ≤ _; omega, fun r hr => by have := h2 r hr; omega, by show lab.length ≤ _; omega, by show l.length ≤ _; omega, h5⟩
theorem fillF_bd {f : Nat → Int} (h : ∀ i, 0 ≤ f i ∧ f i ≤ 255) (c n : Nat) {k : Nat} (hk : k < 256) : ∀ i, 0 ≤ fillF f c n (k : Nat) i ∧ fillF f c n (k : Nat) i ≤ 255 := fun i => by
  unfold fillF
  split
  · omega
  · exact h i
theorem atB_lt (b : List UInt8) (i : Nat) : atB b i < 256 := UInt8.toNat_lt _
theorem rat4_t {b : List UInt8} {G : PHeap} {H : Heap} {R : Value → PHeap → Heap → Prop} {v : Value} (hv : Sl G byteV v b) (hR : R (.int .i64 (atB b 4 : Nat)) G H) : FnT Try.prog 34 [v, .int .i64 4] G H R := rat_t (i := 4) hv hR
set_option maxHeartbeats 64000000 in
/-- the states -/
theorem rest4_t {b : List UInt8} (hbl : b.length ≤ 2000000) {a : Option Addr} {c : Nat} {G : PHeap} {H : Heap} {R : Value → PHeap → Heap → Prop} (hr : Row G a (b.map byteV)) (hc : b.length ≤ c)
    (hR : ∀ G' v' e, PLe G G' → Sep G' (keys H) → IsD G' e v' → SmallD e → (∀ d, Fit d → layL d = b → e = d) → R v' G' H) {b2 b3 : Nat} {i w : Nat} (hi : i ≤ 3000000) (hw : w ≤ 256) {f : Nat → Int} (hf : ∀ i, 0 ≤ f i ∧ f i ≤ 255) {l : List (List UInt8)} (hll : l.length ≤ 255) (hls : ∀ s ∈ l, s.length ≤ 2000000) {vs : Value} {ks : Heap} (hks : SliceO [] 9 1 vs l.length (l.map str) ks)
    (hlk : LinkS b l w f (256 * atB b i + atB b (i + 1) + 1) (i + 2) [] []) :
    Tri Try.prog Try.f19.ntmps (piece [1, 1, 1, 1, 1] Try.f19) G [(0, .slice a b.length c), (2, .pointer (some ⟨b2, 0, none⟩)), (3, .pointer (some ⟨b3, 0, none⟩)), (4, .int .i64 (i : Nat))] ((b3, .cells (gC f (w : Nat) (.slice none 0 0) (.slice none 0 0) vs) [] 28) :: (b2, .cells (gC (fun _ => 0) 0 (.slice none 0 0) (.slice none 0 0) (.slice none 0 0)) [] 28) :: (ks ++ H)) (endK T #[ResultVar.cell 2 28].toList (UpdR R) .mk) := by
  have hv0 : Sl G byteV (.slice a b.length c) b := ⟨a, c, rfl, hr, hc⟩
  obtain ⟨av, nv, cv, hvs⟩ := sliceO_one hks
  subst hvs
  have hib := atB_lt b i
  have hib1 := atB_lt b (i + 1)
  have hi1 : ((i : Nat) : Int) + 1 = ((i + 1 : Nat) : Int) := rfl
  have hi2 : ((i : Nat) : Int) + 2 = ((i + 2 : Nat) : Int) := rfl
  obtain ⟨N, hN⟩ : ∃ N, N = 256 * atB b i + atB b (i + 1) + 1 := ⟨_, rfl⟩
  have hN1 : 256 * ((atB b i : Nat) : Int) + ((atB b (i + 1) : Nat) : Int) + 1 = (N : Nat) := by omega
  rw [← hN] at hlk
  refine Tri.sepT fun hs0 => ?_
  have hsE := hs0
  try simp only [keys_cons, keys_app, keys_nil, Sep_cons, Sep_nil, NotIn_cons, NotIn_app, NotIn_nil, List.cons_append, List.nil_append, List.append_assoc, and_assoc, and_true, true_and] at hsE
  repeat (obtain ⟨hsx, hsE⟩ := hsE)
  refine Tri.piece (f := Try.f19) rfl ?_
  refine Tri.run tok [0, 2, 3, 4, 5, 6, 7, 8, 9, 10, 11, 12, 23, 35, 56, 68, 108, 125] (by kernel_rfl) ?_
  repeat' first
    | with_reducible refine Br.yes ?_
    | with_reducible refine Br.no ?_
    | with_reducible refine Br.dec (fun _ => ?_) (fun _ => ?_)
    | with_reducible refine Br.beqB (fun _ => ?_) (fun _ => ?_)
    | with_reducible refine Br.beqb (fun _ => ?_) (fun _ => ?_)
    | with_reducible refine Br.mk (fun _ => ?_) (fun _ => ?_)
    | with_reducible refine foundO.mk (fun _ _ => ?_) (fun _ => ?_)
    | with_reducible refine appV.zero ?_
    | with_reducible refine appV.own ?_
    | ((with_reducible refine NewB.mk fun nb hnb => ?_); have hnb1 := hnb.1.1; have hnb2 := hnb.1.2; try simp only [keys_cons, keys_app, keys_nil, NotIn_cons, NotIn_app, NotIn_nil, and_true] at hnb2)
    | ((with_reducible refine NewRow.mk fun nb nsp ncap hnb hncap => ?_); have hnb1 := hnb.1.1; have hnb2 := hnb.1.2; try simp only [keys_cons, keys_app, keys_nil, NotIn_cons, NotIn_app, NotIn_nil, and_true] at hnb2)
    | simp (dsimp := false) (implicitDefEqProofs := false) (disch := first | assumption | (simp only [List.mem_cons, List.mem_append, true_or, or_true, eq_self]; done) | omega | (with_reducible refine Row.adr (by assumption) ?_; simp only [List.length_map, List.length_take, List.length_drop]; omega) | (simp only [List.length_cons, List.length_nil, List.length_map, List.length_append, List.length_replicate, Nat.reduceAdd, true_and, and_true, and_self]; first | done | omega)) only [go_sem, ↓reduceIte, Nat.reduceEqDiff, Nat.reduceAdd, Nat.reduceSub, Nat.reduceMul, Nat.reduceBEq, Nat.reduceLT, Nat.reduceLeDiff, Nat.reduceMod, Nat.reducePow, List.reduceReplicate, UInt8.reduceOfNat, Int.reducePow, Int.reduceDiv, Int.reduceMod, Nat.reduceDiv, Int.reduceNeg, Int.reduceAdd, Int.reduceSub, Int.reduceMul, Int.reduceLE, Int.reduceLT, Int.reduceEq, Int.reduceToNat, reduceCtorEq, -List.reduceReplicate, hi1, hi2, hN1]
    | with_reducible refine rat_t hv0 ?_
  refine Tri.loopS tok [0, 2, 3, 4, 5, 6, 7, 8, 9, 10, 11, 12, 23, 35, 56, 68, 108, 125] (.seq .run (.seq (.block (.seq .cut .cut)) .cut)) (by kernel_rfl) [0, 2, 3, 4, 9, 10] (fun q G' fr H' => ∃ (i n : Nat) (lab : List Int) (rows : List (List Int)) (vl vn : Value) (kl kn : Heap), n + q = N ∧ PLe G G' ∧ lab.length = n ∧ rows.length = n ∧ i ≤ 3000002 + 513 * n ∧ (∀ r ∈ rows, r.length = w) ∧ SliceO [] 3 1 vl n (lab.map (Value.int .i64)) kl ∧ RowY rows G' vn kn ∧ LinkS b l w f N i lab rows ∧ H' = (b3, .cells (gC f (w : Nat) vn vl (.slice av nv cv)) [] 28) :: (b2, .cells (gC (fun _ => 0) 0 (.slice none 0 0) (.slice none 0 0) (.slice none 0 0)) [] 28) :: (kl ++ (kn ++ (ks ++ H))) ∧ fr = [(0, .slice a b.length c), (2, .pointer (some ⟨b2, 0, none⟩)), (3, .pointer (some ⟨b3, 0, none⟩)), (4, .int .i64 (i : Nat)), (9, .int .i64 (N : Nat)), (10, .int .i64 (n : Nat))]) (N) ?_ ?_
  · exact Upd.now ⟨i + 2, 0, [], [], _, _, [], [], by omega, PLe.refl _, rfl, rfl, by omega, fun s hs => by (cases hs), .inl ⟨none, rfl, rfl, rfl, rfl⟩, .inl ⟨rfl, rfl, rfl⟩, hlk, rfl, rfl⟩
  · rintro q G1 fr H' hle hs1 ⟨i, n, lab, rows, vl, vn, kl, kn, hnq, hle01, hln, hrn, hi3, hrw, hkl, hY, hlk, rfl, rfl⟩
    have hv1 := hv0.mono hle
    have hr1 := hr.mono hle
    obtain ⟨al, nl, cl, hvl⟩ := sliceO_one hkl
    subst hvl
    obtain ⟨an, nn, cn, hvn⟩ : ∃ a n c, vn = .slice a n c := by
      rcases hY with ⟨_, h, _⟩ | ⟨_, _, _, _, h, _⟩ <;> exact ⟨_, _, _, h⟩
    subst hvn
    by_cases hgo : n < N ∧ i < b.length
    · obtain ⟨hn4, hil⟩ := hgo
      have hsE := hs1
      try simp only [keys_cons, keys_app, keys_nil, Sep_cons, Sep_nil, NotIn_cons, NotIn_app, NotIn_nil, List.cons_append, List.nil_append, List.append_assoc, and_assoc, and_true, true_and] at hsE
      repeat (obtain ⟨hsx, hsE⟩ := hsE)
      repeat' first
        | with_reducible refine Br.yes ?_
        | with_reducible refine Br.no ?_
        | with_reducible refine Br.dec (fun _ => ?_) (fun _ => ?_)
        | with_reducible refine Br.beqB (fun _ => ?_) (fun _ => ?_)
        | with_reducible refine Br.beqb (fun _ => ?_) (fun _ => ?_)
        | with_reducible refine Br.mk (fun _ => ?_) (fun _ => ?_)
        | with_reducible refine foundO.mk (fun _ _ => ?_) (fun _ => ?_)
        | with_reducible refine appV.zero ?_
        | with_reducible refine appV.own ?_
        | ((with_reducible refine NewB.mk fun nb hnb => ?_); have hnb1 := hnb.1.1; have hnb2 := hnb.1.2; try simp only [keys_cons, keys_app, keys_nil, NotIn_cons, NotIn_app, NotIn_nil, and_true] at hnb2)
        | ((with_reducible refine NewRow.mk fun nb nsp ncap hnb hncap => ?_); have hnb1 := hnb.1.1; have hnb2 := hnb.1.2; try simp only [keys_cons, keys_app, keys_nil, NotIn_cons, NotIn_app, NotIn_nil, and_true] at hnb2)
        | simp (dsimp := false) (implicitDefEqProofs := false) (disch := first | assumption | (simp only [List.mem_cons, List.mem_append, true_or, or_true, eq_self]; done) | omega | (with_reducible refine Row.adr (by assumption) ?_; simp only [List.length_map, List.length_take, List.length_drop]; omega) | (simp only [List.length_cons, List.length_nil, List.length_map, List.length_append, List.length_replicate, Nat.reduceAdd, true_and, and_true, and_self]; first | done | omega)) only [go_sem, ↓reduceIte, Nat.reduceEqDiff, Nat.reduceAdd, Nat.reduceSub, Nat.reduceMul, Nat.reduceBEq, Nat.reduceLT, Nat.reduceLeDiff, Nat.reduceMod, Nat.reducePow, List.reduceReplicate, UInt8.reduceOfNat, Int.reducePow, Int.reduceDiv, Int.reduceMod, Nat.reduceDiv, Int.reduceNeg, Int.reduceAdd, Int.reduceSub, Int.reduceMul, Int.reduceLE, Int.reduceLT, Int.reduceEq, Int.reduceToNat, reduceCtorEq, -List.reduceReplicate, gC_len]
      refine Tri.upd (Upd.go (H' := (b3, .cells (gC f (w : Nat) (.slice an nn cn) (.slice al nl cl) (.slice av nv cv)) [] 28) :: (kl ++ ((b2, .cells (gC (fun _ => 0) 0 (.slice none 0 0) (.slice none 0 0) (.slice none 0 0)) [] 28) :: (kn ++ (ks ++ H))))) (by intro fsum; simp only [List.map_append, List.map_cons, List.map_nil, List.sum_append, List.sum_cons, List.sum_nil, List.cons_append, List.nil_append]; omega) (Upd.now ?_))
      refine Tri.live [0, 2, 3, 4, 9, 10] ?_
      refine Tri.isPiece [1, 1, 1, 1, 1, 1, 1, 0, 1, 0, 0, 1, 0, 0, 0] Try.f19 (by kernel_rfl) ?_
      refine Tri.onlyN (g25_t hr1 hc (by omega) hln hkl) fun G5 l5 H5 hle5 hs5 hM => ?_
      obtain ⟨vl', kl', hle6, hkl', hfr', rfl⟩ := hM
      obtain ⟨al', nl', cl', hvl'⟩ := sliceO_one hkl'
      subst hvl'
      have hr5 := hr1.mono hle5
      have hv5 := hv1.mono hle5
      simp only [go_sem]
      refine Tri.live [0, 2, 3, 4, 9, 10] ?_
      rw [hfr']
      obtain ⟨lab', hlab'⟩ : ∃ x, x = lab ++ [((atB b i : Nat) : Int)] := ⟨_, rfl⟩
      rw [← hlab'] at hkl'
      have hlk5 := linkR_zero hlk (by omega) (by omega)
      rw [← hlab'] at hlk5
      refine Tri.upd (Upd.go (H' := (b3, .cells (gC f (w : Nat) (.slice an nn cn) (.slice al' nl' cl') (.slice av nv cv)) [] 28) :: (b2, .cells (gC (fun _ => 0) 0 (.slice none 0 0) (.slice none 0 0) (.slice none 0 0)) [] 28) :: (kl' ++ (kn ++ (ks ++ H)))) (by intro fsum; simp only [List.map_append, List.map_cons, List.map_nil, List.sum_append, List.sum_cons, List.sum_nil, List.cons_append, List.nil_append]; omega) (Upd.sepI fun hs6 => Upd.now ?_))
      have hsE := hs6
      try simp only [keys_cons, keys_app, keys_nil, Sep_cons, Sep_nil, NotIn_cons, NotIn_app, NotIn_nil, List.cons_append, List.nil_append, List.append_assoc, and_assoc, and_true, true_and] at hsE
      repeat (obtain ⟨hsx, hsE⟩ := hsE)
      refine Tri.runS tok [0, 2, 3, 4, 5, 6, 7, 8, 9, 10, 11, 12, 23, 35, 56, 68, 108, 125] (.seq .run (.seq .run (.seq .run .cut))) (by kernel_rfl) ?_
      repeat' first
        | with_reducible refine Br.yes ?_
        | with_reducible refine Br.no ?_
        | with_reducible refine Br.dec (fun _ => ?_) (fun _ => ?_)
        | with_reducible refine Br.beqB (fun _ => ?_) (fun _ => ?_)
        | with_reducible refine Br.beqb (fun _ => ?_) (fun _ => ?_)
        | with_reducible refine Br.mk (fun _ => ?_) (fun _ => ?_)
        | with_reducible refine foundO.mk (fun _ _ => ?_) (fun _ => ?_)
        | with_reducible refine appV.zero ?_
        | with_reducible refine appV.own ?_
        | ((with_reducible refine NewB.mk fun nb hnb => ?_); have hnb1 := hnb.1.1; have hnb2 := hnb.1.2; try simp only [keys_cons, keys_app, keys_nil, NotIn_cons, NotIn_app, NotIn_nil, and_true] at hnb2)
        | ((with_reducible refine NewRow.mk fun nb nsp ncap hnb hncap => ?_); have hnb1 := hnb.1.1; have hnb2 := hnb.1.2; try simp only [keys_cons, keys_app, keys_nil, NotIn_cons, NotIn_app, NotIn_nil, and_true] at hnb2)
        | simp (dsimp := false) (implicitDefEqProofs := false) (disch := first | assumption | (simp only [List.mem_cons, List.mem_append, true_or, or_true, eq_self]; done) | omega | (with_reducible refine Row.adr (by assumption) ?_; simp only [List.length_map, List.length_take, List.length_drop]; omega) | (simp only [List.length_cons, List.length_nil, List.length_map, List.length_append, List.length_replicate, Nat.reduceAdd, true_and, and_true, and_self]; first | done | omega)) only [go_sem, ↓reduceIte, Nat.reduceEqDiff, Nat.reduceAdd, Nat.reduceSub, Nat.reduceMul, Nat.reduceBEq, Nat.reduceLT, Nat.reduceLeDiff, Nat.reduceMod, Nat.reducePow, List.reduceReplicate, UInt8.reduceOfNat, Int.reducePow, Int.reduceDiv, Int.reduceMod, Nat.reduceDiv, Int.reduceNeg, Int.reduceAdd, Int.reduceSub, Int.reduceMul, Int.reduceLE, Int.reduceLT, Int.reduceEq, Int.reduceToNat, reduceCtorEq, -List.reduceReplicate, gC_len, gC_w]
      obtain ⟨br0, e0⟩ : ∃ x, x = nb := ⟨_, rfl⟩
      subst e0
      refine Tri.loopU tok [0, 2, 3, 4, 5, 6, 7, 8, 9, 10, 11, 12, 23, 35, 56, 68, 108, 125] (by kernel_rfl) [0, 2, 3, 4, 9, 10, 11, 12] (fun q2 G' fr H' => ∃ (i2 : Nat) (row : List Int) (br cr : Nat) (sp : List Value), row.length + q2 = w ∧ G' = G5 ∧ row.length + sp.length = cr ∧ i2 ≤ i + 1 + 2 * row.length ∧ LinkR b l w f N i2 lab' rows row ∧ H' = (br, .cells (row.map (Value.int .i64)) sp 3) :: (b3, .cells (gC f (w : Nat) (.slice an nn cn) (.slice al' nl' cl') (.slice av nv cv)) [] 28) :: (b2, .cells (gC (fun _ => 0) 0 (.slice none 0 0) (.slice none 0 0) (.slice none 0 0)) [] 28) :: (kl' ++ (kn ++ (ks ++ H))) ∧ fr = [(0, .slice a b.length c), (2, .pointer (some ⟨b2, 0, none⟩)), (3, .pointer (some ⟨b3, 0, none⟩)), (4, .int .i64 (i2 : Nat)), (9, .int .i64 (N : Nat)), (10, .int .i64 (n : Nat)), (11, .slice (some ⟨br, 0, none⟩) row.length cr), (12, .int .i64 (row.length : Nat))]) (w) ?_ ?_
      · exact Upd.now ⟨i + 1, [], br0, 0, [], by simp, rfl, rfl, by simp, hlk5, rfl, rfl⟩
      · rintro q2 G6 fr H' hle7 hs7 ⟨i2, row, br, cr, sp, hjq, rfl, hsp, hi4, hlk6, rfl, rfl⟩
        have hsE := hs7
        try simp only [keys_cons, keys_app, keys_nil, Sep_cons, Sep_nil, NotIn_cons, NotIn_app, NotIn_nil, List.cons_append, List.nil_append, List.append_assoc, and_assoc, and_true, true_and] at hsE
        repeat (obtain ⟨hsx, hsE⟩ := hsE)
        by_cases hjw : row.length < w
        · have h21 : ((i2 : Nat) : Int) + 1 = ((i2 + 1 : Nat) : Int) := rfl
          have h22 : ((i2 : Nat) : Int) + 2 = ((i2 + 2 : Nat) : Int) := rfl
          have hb1 := atB_lt b i2
          have hb2 := atB_lt b (i2 + 1)
          have hx : 256 * ((atB b i2 : Nat) : Int) + ((atB b (i2 + 1) : Nat) : Int) = ((256 * atB b i2 + atB b (i2 + 1) : Nat) : Int) := by omega
          repeat' first
            | with_reducible refine Br.yes ?_
            | with_reducible refine Br.no ?_
            | with_reducible refine Br.dec (fun _ => ?_) (fun _ => ?_)
            | with_reducible refine Br.beqB (fun _ => ?_) (fun _ => ?_)
            | with_reducible refine Br.beqb (fun _ => ?_) (fun _ => ?_)
            | with_reducible refine Br.mk (fun _ => ?_) (fun _ => ?_)
            | with_reducible refine foundO.mk (fun _ _ => ?_) (fun _ => ?_)
            | with_reducible refine appV.zero ?_
            | with_reducible refine appV.own ?_
            | ((with_reducible refine NewB.mk fun nb hnb => ?_); have hnb1 := hnb.1.1; have hnb2 := hnb.1.2; try simp only [keys_cons, keys_app, keys_nil, NotIn_cons, NotIn_app, NotIn_nil, and_true] at hnb2)
            | ((with_reducible refine NewRow.mk fun nb nsp ncap hnb hncap => ?_); have hnb1 := hnb.1.1; have hnb2 := hnb.1.2; try simp only [keys_cons, keys_app, keys_nil, NotIn_cons, NotIn_app, NotIn_nil, and_true] at hnb2)
            | simp (dsimp := false) (implicitDefEqProofs := false) (disch := first | assumption | (simp only [List.mem_cons, List.mem_append, true_or, or_true, eq_self]; done) | omega | (with_reducible refine Row.adr (by assumption) ?_; simp only [List.length_map, List.length_take, List.length_drop]; omega) | (simp only [List.length_cons, List.length_nil, List.length_map, List.length_append, List.length_replicate, Nat.reduceAdd, true_and, and_true, and_self]; first | done | omega)) only [go_sem, ↓reduceIte, Nat.reduceEqDiff, Nat.reduceAdd, Nat.reduceSub, Nat.reduceMul, Nat.reduceBEq, Nat.reduceLT, Nat.reduceLeDiff, Nat.reduceMod, Nat.reducePow, List.reduceReplicate, UInt8.reduceOfNat, Int.reducePow, Int.reduceDiv, Int.reduceMod, Nat.reduceDiv, Int.reduceNeg, Int.reduceAdd, Int.reduceSub, Int.reduceMul, Int.reduceLE, Int.reduceLT, Int.reduceEq, Int.reduceToNat, reduceCtorEq, -List.reduceReplicate, gC_len, gC_w, h21, h22, hx, List.length_map, List.replicate_one]
            | with_reducible refine rat_t hv5 ?_
          refine Upd.leave (H' := (nb, .cells (row.map (Value.int .i64) ++ [.int .i64 ((256 * atB b i2 + atB b (i2 + 1) : Nat))]) nsp 3) :: (b3, .cells (gC f (w : Nat) (.slice an nn cn) (.slice al' nl' cl') (.slice av nv cv)) [] 28) :: (b2, .cells (gC (fun _ => 0) 0 (.slice none 0 0) (.slice none 0 0) (.slice none 0 0)) [] 28) :: (kl' ++ (kn ++ (ks ++ H)))) (by intro fsum; simp only [List.map_append, List.map_cons, List.map_nil, List.sum_append, List.sum_cons, List.sum_nil, List.cons_append, List.nil_append]; omega) ?_
          exact ⟨q2 - 1, by omega, i2 + 2, row ++ [((256 * atB b i2 + atB b (i2 + 1) : Nat) : Int)], nb, ncap, nsp, by simp; omega, rfl, by simp at hncap ⊢; omega, by simp; omega, linkR_next hlk6 hjw, by rw [List.map_append]; rfl, by rw [List.length_append]; rfl⟩
        · obtain ⟨rfl⟩ : row.length = w := by omega
          repeat' first
            | with_reducible refine Br.yes ?_
            | with_reducible refine Br.no ?_
            | with_reducible refine Br.dec (fun _ => ?_) (fun _ => ?_)
            | with_reducible refine Br.beqB (fun _ => ?_) (fun _ => ?_)
            | with_reducible refine Br.beqb (fun _ => ?_) (fun _ => ?_)
            | with_reducible refine Br.mk (fun _ => ?_) (fun _ => ?_)
            | with_reducible refine foundO.mk (fun _ _ => ?_) (fun _ => ?_)
            | with_reducible refine appV.zero ?_
            | with_reducible refine appV.own ?_
            | ((with_reducible refine NewB.mk fun nb hnb => ?_); have hnb1 := hnb.1.1; have hnb2 := hnb.1.2; try simp only [keys_cons, keys_app, keys_nil, NotIn_cons, NotIn_app, NotIn_nil, and_true] at hnb2)
            | ((with_reducible refine NewRow.mk fun nb nsp ncap hnb hncap => ?_); have hnb1 := hnb.1.1; have hnb2 := hnb.1.2; try simp only [keys_cons, keys_app, keys_nil, NotIn_cons, NotIn_app, NotIn_nil, and_true] at hnb2)
            | simp (dsimp := false) (implicitDefEqProofs := false) (disch := first | assumption | (simp only [List.mem_cons, List.mem_append, true_or, or_true, eq_self]; done) | omega | (with_reducible refine Row.adr (by assumption) ?_; simp only [List.length_map, List.length_take, List.length_drop]; omega) | (simp only [List.length_cons, List.length_nil, List.length_map, List.length_append, List.length_replicate, Nat.reduceAdd, true_and, and_true, and_self]; first | done | omega)) only [go_sem, ↓reduceIte, Nat.reduceEqDiff, Nat.reduceAdd, Nat.reduceSub, Nat.reduceMul, Nat.reduceBEq, Nat.reduceLT, Nat.reduceLeDiff, Nat.reduceMod, Nat.reducePow, List.reduceReplicate, UInt8.reduceOfNat, Int.reducePow, Int.reduceDiv, Int.reduceMod, Nat.reduceDiv, Int.reduceNeg, Int.reduceAdd, Int.reduceSub, Int.reduceMul, Int.reduceLE, Int.reduceLT, Int.reduceEq, Int.reduceToNat, reduceCtorEq, -List.reduceReplicate, gC_len, gC_w]
          refine Tri.upd (Upd.go (H' := (b3, .cells (gC f (row.length : Nat) (.slice an nn cn) (.slice al' nl' cl') (.slice av nv cv)) [] 28) :: (kn ++ ([(br, .cells (row.map (Value.int .i64)) sp 3)] ++ ((b2, .cells (gC (fun _ => 0) 0 (.slice none 0 0) (.slice none 0 0) (.slice none 0 0)) [] 28) :: (kl' ++ (ks ++ H)))))) (by intro fsum; simp only [List.map_append, List.map_cons, List.map_nil, List.sum_append, List.sum_cons, List.sum_nil, List.cons_append, List.nil_append]; omega) (Upd.now ?_))
          refine Tri.live [0, 2, 3, 4, 9, 10, 11] ?_
          refine Tri.isPiece [1, 1, 1, 1, 1, 1, 1, 0, 1, 0, 0, 1, 0, 0, 1, 1, 1, 1] Try.f19 (by kernel_rfl) ?_
          refine Tri.onlyN (g33_t (rows := rows) (row := row) (by omega) (hY.mono hle5) (.inr ⟨br, cr, sp, rfl, rfl, by simp, by simp; omega⟩)) fun G8 l8 H8 hle8 hs8 hM => ?_
          obtain ⟨vn', kn', hle9, hY', hfr9, rfl⟩ := hM
          simp only [go_sem]
          refine Tri.live [0, 2, 3, 4, 9, 10] ?_
          rw [hfr9]
          have hsE := hs8
          try simp only [keys_cons, keys_app, keys_nil, Sep_cons, Sep_nil, NotIn_cons, NotIn_app, NotIn_nil, List.cons_append, List.nil_append, List.append_assoc, and_assoc, and_true, true_and] at hsE
          repeat (obtain ⟨hsx, hsE⟩ := hsE)
          refine Tri.run tok [0, 2, 3, 4, 5, 6, 7, 8, 9, 10, 11, 12, 23, 35, 56, 68, 108, 125] (by kernel_rfl) ?_
          repeat' first
            | with_reducible refine Br.yes ?_
            | with_reducible refine Br.no ?_
            | with_reducible refine Br.dec (fun _ => ?_) (fun _ => ?_)
            | with_reducible refine Br.beqB (fun _ => ?_) (fun _ => ?_)
            | with_reducible refine Br.beqb (fun _ => ?_) (fun _ => ?_)
            | with_reducible refine Br.mk (fun _ => ?_) (fun _ => ?_)
            | with_reducible refine foundO.mk (fun _ _ => ?_) (fun _ => ?_)
            | with_reducible refine appV.zero ?_
            | with_reducible refine appV.own ?_
            | ((with_reducible refine NewB.mk fun nb hnb => ?_); have hnb1 := hnb.1.1; have hnb2 := hnb.1.2; try simp only [keys_cons, keys_app, keys_nil, NotIn_cons, NotIn_app, NotIn_nil, and_true] at hnb2)
            | ((with_reducible refine NewRow.mk fun nb nsp ncap hnb hncap => ?_); have hnb1 := hnb.1.1; have hnb2 := hnb.1.2; try simp only [keys_cons, keys_app, keys_nil, NotIn_cons, NotIn_app, NotIn_nil, and_true] at hnb2)
            | simp (dsimp := false) (implicitDefEqProofs := false) (disch := first | assumption | (simp only [List.mem_cons, List.mem_append, true_or, or_true, eq_self]; done) | omega | (with_reducible refine Row.adr (by assumption) ?_; simp only [List.length_map, List.length_take, List.length_drop]; omega) | (simp only [List.length_cons, List.length_nil, List.length_map, List.length_append, List.length_replicate, Nat.reduceAdd, true_and, and_true, and_self]; first | done | omega)) only [go_sem, ↓reduceIte, Nat.reduceEqDiff, Nat.reduceAdd, Nat.reduceSub, Nat.reduceMul, Nat.reduceBEq, Nat.reduceLT, Nat.reduceLeDiff, Nat.reduceMod, Nat.reducePow, List.reduceReplicate, UInt8.reduceOfNat, Int.reducePow, Int.reduceDiv, Int.reduceMod, Nat.reduceDiv, Int.reduceNeg, Int.reduceAdd, Int.reduceSub, Int.reduceMul, Int.reduceLE, Int.reduceLT, Int.reduceEq, Int.reduceToNat, reduceCtorEq, -List.reduceReplicate]
          refine Upd.leave (H' := (b3, .cells (gC f (row.length : Nat) vn' (.slice al' nl' cl') (.slice av nv cv)) [] 28) :: (b2, .cells (gC (fun _ => 0) 0 (.slice none 0 0) (.slice none 0 0) (.slice none 0 0)) [] 28) :: (kl' ++ (kn' ++ (ks ++ H)))) (by intro fsum; simp only [List.map_append, List.map_cons, List.map_nil, List.sum_append, List.sum_cons, List.sum_nil, List.cons_append, List.nil_append]; omega) ?_
          refine ⟨q - 1, by omega, i2, n + 1, lab', rows ++ [row], _, _, kl', kn', by omega, hle01.trans (hle5.trans hle8), ?_, by simp [hrn], by omega, fun r hr => ?_, by rw [hlab']; exact hlab' ▸ hkl', hY', linkR_end hlk6 ?_ rfl, rfl, rfl⟩
          · rw [hlab', List.length_append, hln]; rfl
          · rcases List.mem_append.1 hr with h | h
            · exact hrw r h
            · rw [List.mem_singleton] at h; rw [h]
          · rw [hlab', List.length_append, hln, hrn]; rfl
    · by_cases hn4 : n < N
      · have hil : ¬ i < b.length := fun h => hgo ⟨hn4, h⟩
        have hsE := hs1
        try simp only [keys_cons, keys_app, keys_nil, Sep_cons, Sep_nil, NotIn_cons, NotIn_app, NotIn_nil, List.cons_append, List.nil_append, List.append_assoc, and_assoc, and_true, true_and] at hsE
        repeat (obtain ⟨hsx, hsE⟩ := hsE)
        repeat' first
          | with_reducible refine Br.yes ?_
          | with_reducible refine Br.no ?_
          | with_reducible refine Br.dec (fun _ => ?_) (fun _ => ?_)
          | with_reducible refine Br.beqB (fun _ => ?_) (fun _ => ?_)
          | with_reducible refine Br.beqb (fun _ => ?_) (fun _ => ?_)
          | with_reducible refine Br.mk (fun _ => ?_) (fun _ => ?_)
          | with_reducible refine foundO.mk (fun _ _ => ?_) (fun _ => ?_)
          | with_reducible refine appV.zero ?_
          | with_reducible refine appV.own ?_
          | ((with_reducible refine NewB.mk fun nb hnb => ?_); have hnb1 := hnb.1.1; have hnb2 := hnb.1.2; try simp only [keys_cons, keys_app, keys_nil, NotIn_cons, NotIn_app, NotIn_nil, and_true] at hnb2)
          | ((with_reducible refine NewRow.mk fun nb nsp ncap hnb hncap => ?_); have hnb1 := hnb.1.1; have hnb2 := hnb.1.2; try simp only [keys_cons, keys_app, keys_nil, NotIn_cons, NotIn_app, NotIn_nil, and_true] at hnb2)
          | simp (dsimp := false) (implicitDefEqProofs := false) (disch := first | assumption | (simp only [List.mem_cons, List.mem_append, true_or, or_true, eq_self]; done) | omega | (with_reducible refine Row.adr (by assumption) ?_; simp only [List.length_map, List.length_take, List.length_drop]; omega) | (simp only [List.length_cons, List.length_nil, List.length_map, List.length_append, List.length_replicate, Nat.reduceAdd, true_and, and_true, and_self]; first | done | omega)) only [go_sem, ↓reduceIte, Nat.reduceEqDiff, Nat.reduceAdd, Nat.reduceSub, Nat.reduceMul, Nat.reduceBEq, Nat.reduceLT, Nat.reduceLeDiff, Nat.reduceMod, Nat.reducePow, List.reduceReplicate, UInt8.reduceOfNat, Int.reducePow, Int.reduceDiv, Int.reduceMod, Nat.reduceDiv, Int.reduceNeg, Int.reduceAdd, Int.reduceSub, Int.reduceMul, Int.reduceLE, Int.reduceLT, Int.reduceEq, Int.reduceToNat, reduceCtorEq, -List.reduceReplicate, gC_len, gC_over, gC_take, gC_oneS]
        refine Upd.go (H' := kl ++ (kn ++ (ks ++ H))) (by intro fsum; simp only [List.map_append, List.map_cons, List.map_nil, List.sum_append, List.sum_cons, List.sum_nil, List.cons_append, List.nil_append]; omega) (Upd.sepI fun hs7 => Upd.trans (hkl.shareApp hs7 fun G7 a7 c7 hle7 hs7 hv7 hr7 hc7 => Upd.trans (rowY_share (hY.mono hle7) hs7 fun G8 hle8 hs8 hS8 => hks.shareApp hs8 fun G9 a9 c9 hle9 hs9 hv9 hr9 hc9 => ?_)))
        refine hR G9 _ (gD f (w : Nat) rows lab l) (hle01.trans (hle7.trans (hle8.trans hle9))) hs9 (gD_is hf _ (hS8.mono hle9) ?_ ?_) (gD_small (by omega) (fun r hr => by rw [hrw r hr]; omega) (by omega) hll hls) fun d hd e => linkS_end hlk (by rw [hln]; exact hgo) hd e
        · exact ⟨a7, c7, by rw [hln]; exact hv7, (hr7.mono hle8).mono hle9, by omega⟩
        · exact ⟨a9, c9, hv9, hr9, hc9⟩
      · have hsE := hs1
        try simp only [keys_cons, keys_app, keys_nil, Sep_cons, Sep_nil, NotIn_cons, NotIn_app, NotIn_nil, List.cons_append, List.nil_append, List.append_assoc, and_assoc, and_true, true_and] at hsE
        repeat (obtain ⟨hsx, hsE⟩ := hsE)
        repeat' first
          | with_reducible refine Br.yes ?_
          | with_reducible refine Br.no ?_
          | with_reducible refine Br.dec (fun _ => ?_) (fun _ => ?_)
          | with_reducible refine Br.beqB (fun _ => ?_) (fun _ => ?_)
          | with_reducible refine Br.beqb (fun _ => ?_) (fun _ => ?_)
          | with_reducible refine Br.mk (fun _ => ?_) (fun _ => ?_)
          | with_reducible refine foundO.mk (fun _ _ => ?_) (fun _ => ?_)
          | with_reducible refine appV.zero ?_
          | with_reducible refine appV.own ?_
          | ((with_reducible refine NewB.mk fun nb hnb => ?_); have hnb1 := hnb.1.1; have hnb2 := hnb.1.2; try simp only [keys_cons, keys_app, keys_nil, NotIn_cons, NotIn_app, NotIn_nil, and_true] at hnb2)
          | ((with_reducible refine NewRow.mk fun nb nsp ncap hnb hncap => ?_); have hnb1 := hnb.1.1; have hnb2 := hnb.1.2; try simp only [keys_cons, keys_app, keys_nil, NotIn_cons, NotIn_app, NotIn_nil, and_true] at hnb2)
          | simp (dsimp := false) (implicitDefEqProofs := false) (disch := first | assumption | (simp only [List.mem_cons, List.mem_append, true_or, or_true, eq_self]; done) | omega | (with_reducible refine Row.adr (by assumption) ?_; simp only [List.length_map, List.length_take, List.length_drop]; omega) | (simp only [List.length_cons, List.length_nil, List.length_map, List.length_append, List.length_replicate, Nat.reduceAdd, true_and, and_true, and_self]; first | done | omega)) only [go_sem, ↓reduceIte, Nat.reduceEqDiff, Nat.reduceAdd, Nat.reduceSub, Nat.reduceMul, Nat.reduceBEq, Nat.reduceLT, Nat.reduceLeDiff, Nat.reduceMod, Nat.reducePow, List.reduceReplicate, UInt8.reduceOfNat, Int.reducePow, Int.reduceDiv, Int.reduceMod, Nat.reduceDiv, Int.reduceNeg, Int.reduceAdd, Int.reduceSub, Int.reduceMul, Int.reduceLE, Int.reduceLT, Int.reduceEq, Int.reduceToNat, reduceCtorEq, -List.reduceReplicate, gC_len, gC_over, gC_take, gC_oneS]
        refine Upd.go (H' := kl ++ (kn ++ (ks ++ H))) (by intro fsum; simp only [List.map_append, List.map_cons, List.map_nil, List.sum_append, List.sum_cons, List.sum_nil, List.cons_append, List.nil_append]; omega) (Upd.sepI fun hs7 => Upd.trans (hkl.shareApp hs7 fun G7 a7 c7 hle7 hs7 hv7 hr7 hc7 => Upd.trans (rowY_share (hY.mono hle7) hs7 fun G8 hle8 hs8 hS8 => hks.shareApp hs8 fun G9 a9 c9 hle9 hs9 hv9 hr9 hc9 => ?_)))
        refine hR G9 _ (gD f (w : Nat) rows lab l) (hle01.trans (hle7.trans (hle8.trans hle9))) hs9 (gD_is hf _ (hS8.mono hle9) ?_ ?_) (gD_small (by omega) (fun r hr => by rw [hrw r hr]; omega) (by omega) hll hls) fun d hd e => linkS_end hlk (by rw [hln]; exact hgo) hd e
        · exact ⟨a7, c7, by rw [hln]; exact hv7, (hr7.mono hle8).mono hle9, by omega⟩
        · exact ⟨a9, c9, hv9, hr9, hc9⟩
set_option maxHeartbeats 64000000 in
/-- the classes -/
theorem rest2_t {b : List UInt8} (hbl : b.length ≤ 2000000) {a : Option Addr} {c : Nat} {G : PHeap} {H : Heap} {R : Value → PHeap → Heap → Prop} (hr : Row G a (b.map byteV)) (hc : b.length ≤ c)
    (hR : ∀ G' v' e, PLe G G' → Sep G' (keys H) → IsD G' e v' → SmallD e → (∀ d, Fit d → layL d = b → e = d) → R v' G' H) {b2 b3 : Nat} {i : Nat} (hi : i ≤ 2000000) {l : List (List UInt8)} (hll : l.length ≤ 255) (hls : ∀ s ∈ l, s.length ≤ 2000000) {vs : Value} {ks : Heap} (hks : SliceO [] 9 1 vs l.length (l.map str) ks)
    (hlk : LinkN b i l) (hno : ¬ (l.length < atB b 4 ∧ i < b.length)) :
    Tri Try.prog Try.f19.ntmps (piece [1, 1, 1, 1] Try.f19) G [(0, .slice a b.length c), (2, .pointer (some ⟨b2, 0, none⟩)), (3, .pointer (some ⟨b3, 0, none⟩)), (4, .int .i64 (i : Nat))] ((b3, .cells (gC (fun _ => 0) 0 (.slice none 0 0) (.slice none 0 0) vs) [] 28) :: (b2, .cells (gC (fun _ => 0) 0 (.slice none 0 0) (.slice none 0 0) (.slice none 0 0)) [] 28) :: (ks ++ H)) (endK T #[ResultVar.cell 2 28].toList (UpdR R) .mk) := by
  have hv0 : Sl G byteV (.slice a b.length c) b := ⟨a, c, rfl, hr, hc⟩
  obtain ⟨av, nv, cv, hvs⟩ := sliceO_one hks
  subst hvs
  have hlk0 := linkC_zero hlk hno
  refine Tri.sepT fun hs0 => ?_
  have hsE := hs0
  try simp only [keys_cons, keys_app, keys_nil, Sep_cons, Sep_nil, NotIn_cons, NotIn_app, NotIn_nil, List.cons_append, List.nil_append, List.append_assoc, and_assoc, and_true, true_and] at hsE
  repeat (obtain ⟨hsx, hsE⟩ := hsE)
  refine Tri.piece (f := Try.f19) rfl ?_
  refine Tri.runS tok [0, 2, 3, 4, 5, 6, 7, 8, 9, 10, 11, 12, 23, 35, 56, 68, 108, 125] (.seq .run .cut) (by kernel_rfl) ?_
  repeat' first
    | with_reducible refine Br.yes ?_
    | with_reducible refine Br.no ?_
    | with_reducible refine Br.dec (fun _ => ?_) (fun _ => ?_)
    | with_reducible refine Br.beqB (fun _ => ?_) (fun _ => ?_)
    | with_reducible refine Br.beqb (fun _ => ?_) (fun _ => ?_)
    | with_reducible refine Br.mk (fun _ => ?_) (fun _ => ?_)
    | with_reducible refine foundO.mk (fun _ _ => ?_) (fun _ => ?_)
    | with_reducible refine appV.zero ?_
    | with_reducible refine appV.own ?_
    | ((with_reducible refine NewB.mk fun nb hnb => ?_); have hnb1 := hnb.1.1; have hnb2 := hnb.1.2; try simp only [keys_cons, keys_app, keys_nil, NotIn_cons, NotIn_app, NotIn_nil, and_true] at hnb2)
    | ((with_reducible refine NewRow.mk fun nb nsp ncap hnb hncap => ?_); have hnb1 := hnb.1.1; have hnb2 := hnb.1.2; try simp only [keys_cons, keys_app, keys_nil, NotIn_cons, NotIn_app, NotIn_nil, and_true] at hnb2)
    | simp (dsimp := false) (implicitDefEqProofs := false) (disch := first | assumption | (simp only [List.mem_cons, List.mem_append, true_or, or_true, eq_self]; done) | omega | (with_reducible refine Row.adr (by assumption) ?_; simp only [List.length_map, List.length_take, List.length_drop]; omega) | (simp only [List.length_cons, List.length_nil, List.length_map, List.length_append, List.length_replicate, Nat.reduceAdd, true_and, and_true, and_self]; first | done | omega)) only [go_sem, ↓reduceIte, Nat.reduceEqDiff, Nat.reduceAdd, Nat.reduceSub, Nat.reduceMul, Nat.reduceBEq, Nat.reduceLT, Nat.reduceLeDiff, Nat.reduceMod, Nat.reducePow, List.reduceReplicate, UInt8.reduceOfNat, Int.reducePow, Int.reduceDiv, Int.reduceMod, Nat.reduceDiv, Int.reduceNeg, Int.reduceAdd, Int.reduceSub, Int.reduceMul, Int.reduceLE, Int.reduceLT, Int.reduceEq, Int.reduceToNat, reduceCtorEq, -List.reduceReplicate]
  refine Tri.loopU tok [0, 2, 3, 4, 5, 6, 7, 8, 9, 10, 11, 12, 23, 35, 56, 68, 108, 125] (by kernel_rfl) [0, 2, 3, 4, 7] (fun q G' fr H' => ∃ (i k w : Nat) (f : Nat → Int), k + q = 256 ∧ G' = G ∧ i ≤ 2000000 + 2 * k ∧ w ≤ 256 ∧ (∀ i, 0 ≤ f i ∧ f i ≤ 255) ∧ LinkC b l i k w f ∧ H' = (b3, .cells (gC f (w : Nat) (.slice none 0 0) (.slice none 0 0) (.slice av nv cv)) [] 28) :: (b2, .cells (gC (fun _ => 0) 0 (.slice none 0 0) (.slice none 0 0) (.slice none 0 0)) [] 28) :: (ks ++ H) ∧ fr = [(0, .slice a b.length c), (2, .pointer (some ⟨b2, 0, none⟩)), (3, .pointer (some ⟨b3, 0, none⟩)), (4, .int .i64 (i : Nat)), (7, .int .i64 (k : Nat))]) (256) ?_ ?_
  · exact Upd.now ⟨i, 0, 0, _, by omega, rfl, by omega, by omega, fun i => ⟨Int.le_refl _, by omega⟩, hlk0, rfl, rfl⟩
  · rintro q G1 fr H' hle hs1 ⟨i, k, w, f, hkq, rfl, hi2, hw, hf, hlk, rfl, rfl⟩
    have hsE := hs1
    try simp only [keys_cons, keys_app, keys_nil, Sep_cons, Sep_nil, NotIn_cons, NotIn_app, NotIn_nil, List.cons_append, List.nil_append, List.append_assoc, and_assoc, and_true, true_and] at hsE
    repeat (obtain ⟨hsx, hsE⟩ := hsE)
    by_cases hgo : k < 256 ∧ i < b.length
    · obtain ⟨hk, hil⟩ := hgo
      have hi1 : ((i : Nat) : Int) + 1 = ((i + 1 : Nat) : Int) := rfl
      have hi2' : ((i : Nat) : Int) + 2 = ((i + 2 : Nat) : Int) := rfl
      have hy := atB_lt b i
      have hN := atB_lt b (i + 1)
      obtain ⟨y, hyd⟩ : ∃ y, y = atB b i := ⟨_, rfl⟩
      obtain ⟨N, hNd⟩ : ∃ N, N = atB b (i + 1) := ⟨_, rfl⟩
      obtain ⟨wm, hwm⟩ : ∃ g : Nat → Nat, g = fun m => if m = 0 then w else max w (y + 1) := ⟨_, rfl⟩
      have hwm0 : wm 0 = w := by rw [hwm]; rfl
      have hwm1 : ∀ m, wm (m + 1) = max w (y + 1) := fun m => by rw [hwm]; rfl
      have hwml : ∀ m, wm m ≤ 256 := fun m => by rw [hwm]; show (if m = 0 then w else max w (y + 1)) ≤ 256; split <;> omega
      have hmx : ∀ m, maxI ((wm m : Nat) : Int) ((y : Nat) + 1) = ((max w (y + 1) : Nat) : Int) := fun m => by
        rw [hwm]
        show maxI (((if m = 0 then w else max w (y + 1)) : Nat) : Int) _ = _
        unfold maxI
        split <;> split <;> omega
      have hk8 : IntKind.u8.wrap ((y : Nat) : Int) = (y : Nat) := wrap_nat (k := .u8) rfl (by show _ < 256; omega)
      rw [← hyd] at hy
      rw [← hNd] at hN
      repeat' first
        | with_reducible refine Br.yes ?_
        | with_reducible refine Br.no ?_
        | with_reducible refine Br.dec (fun _ => ?_) (fun _ => ?_)
        | with_reducible refine Br.beqB (fun _ => ?_) (fun _ => ?_)
        | with_reducible refine Br.beqb (fun _ => ?_) (fun _ => ?_)
        | with_reducible refine Br.mk (fun _ => ?_) (fun _ => ?_)
        | with_reducible refine foundO.mk (fun _ _ => ?_) (fun _ => ?_)
        | with_reducible refine appV.zero ?_
        | with_reducible refine appV.own ?_
        | ((with_reducible refine NewB.mk fun nb hnb => ?_); have hnb1 := hnb.1.1; have hnb2 := hnb.1.2; try simp only [keys_cons, keys_app, keys_nil, NotIn_cons, NotIn_app, NotIn_nil, and_true] at hnb2)
        | ((with_reducible refine NewRow.mk fun nb nsp ncap hnb hncap => ?_); have hnb1 := hnb.1.1; have hnb2 := hnb.1.2; try simp only [keys_cons, keys_app, keys_nil, NotIn_cons, NotIn_app, NotIn_nil, and_true] at hnb2)
        | simp (dsimp := false) (implicitDefEqProofs := false) (disch := first | assumption | (simp only [List.mem_cons, List.mem_append, true_or, or_true, eq_self]; done) | omega | (with_reducible refine Row.adr (by assumption) ?_; simp only [List.length_map, List.length_take, List.length_drop]; omega) | (simp only [List.length_cons, List.length_nil, List.length_map, List.length_append, List.length_replicate, Nat.reduceAdd, true_and, and_true, and_self]; first | done | omega)) only [go_sem, ↓reduceIte, Nat.reduceEqDiff, Nat.reduceAdd, Nat.reduceSub, Nat.reduceMul, Nat.reduceBEq, Nat.reduceLT, Nat.reduceLeDiff, Nat.reduceMod, Nat.reducePow, List.reduceReplicate, UInt8.reduceOfNat, Int.reducePow, Int.reduceDiv, Int.reduceMod, Nat.reduceDiv, Int.reduceNeg, Int.reduceAdd, Int.reduceSub, Int.reduceMul, Int.reduceLE, Int.reduceLT, Int.reduceEq, Int.reduceToNat, reduceCtorEq, -List.reduceReplicate, hi1]
        | with_reducible refine rat_t hv0 ?_
      rw [← hNd]
      refine Tri.loopU tok [0, 2, 3, 4, 5, 6, 7, 8, 9, 10, 11, 12, 23, 35, 56, 68, 108, 125] (by kernel_rfl) [0, 2, 3, 4, 7, 8] (fun q2 G' fr H' => ∃ m : Nat, m + q2 = N + 1 ∧ G' = G1 ∧ k + m ≤ 256 ∧ H' = (b3, .cells (gC (fillF f k m (y : Nat)) ((wm m : Nat) : Int) (.slice none 0 0) (.slice none 0 0) (.slice av nv cv)) [] 28) :: (b2, .cells (gC (fun _ => 0) 0 (.slice none 0 0) (.slice none 0 0) (.slice none 0 0)) [] 28) :: (ks ++ H) ∧ fr = [(0, .slice a b.length c), (2, .pointer (some ⟨b2, 0, none⟩)), (3, .pointer (some ⟨b3, 0, none⟩)), (4, .int .i64 (i : Nat)), (7, .int .i64 ((k + m : Nat))), (8, .int .i64 ((N : Nat) - (m : Nat)))]) ((N + 1)) ?_ ?_
      · exact Upd.now ⟨0, by omega, rfl, by omega, by rw [fillF_zero, hwm0], by rw [show ((N : Nat) : Int) - ((0 : Nat) : Int) = (N : Nat) by omega]; rfl⟩
      · rintro q2 G2 fr H' hle2 hs2 ⟨m, hmq, rfl, hkm, rfl, rfl⟩
        have hsE := hs2
        try simp only [keys_cons, keys_app, keys_nil, Sep_cons, Sep_nil, NotIn_cons, NotIn_app, NotIn_nil, List.cons_append, List.nil_append, List.append_assoc, and_assoc, and_true, true_and] at hsE
        repeat (obtain ⟨hsx, hsE⟩ := hsE)
        have hcc : ∀ m, ((k + m : Nat) : Int) + 1 = ((k + (m + 1) : Nat) : Int) := fun m => by omega
        by_cases hm : m = N + 1
        · subst hm
          have hlk2 := linkC_next hlk hk (m := N + 1) (by omega) (by omega) hkm
          rw [← hyd] at hlk2
          repeat' first
            | with_reducible refine Br.yes ?_
            | with_reducible refine Br.no ?_
            | with_reducible refine Br.dec (fun _ => ?_) (fun _ => ?_)
            | with_reducible refine Br.beqB (fun _ => ?_) (fun _ => ?_)
            | with_reducible refine Br.beqb (fun _ => ?_) (fun _ => ?_)
            | with_reducible refine Br.mk (fun _ => ?_) (fun _ => ?_)
            | with_reducible refine foundO.mk (fun _ _ => ?_) (fun _ => ?_)
            | with_reducible refine appV.zero ?_
            | with_reducible refine appV.own ?_
            | ((with_reducible refine NewB.mk fun nb hnb => ?_); have hnb1 := hnb.1.1; have hnb2 := hnb.1.2; try simp only [keys_cons, keys_app, keys_nil, NotIn_cons, NotIn_app, NotIn_nil, and_true] at hnb2)
            | ((with_reducible refine NewRow.mk fun nb nsp ncap hnb hncap => ?_); have hnb1 := hnb.1.1; have hnb2 := hnb.1.2; try simp only [keys_cons, keys_app, keys_nil, NotIn_cons, NotIn_app, NotIn_nil, and_true] at hnb2)
            | simp (dsimp := false) (implicitDefEqProofs := false) (disch := first | assumption | (simp only [List.mem_cons, List.mem_append, true_or, or_true, eq_self]; done) | omega | (with_reducible refine Row.adr (by assumption) ?_; simp only [List.length_map, List.length_take, List.length_drop]; omega) | (simp only [List.length_cons, List.length_nil, List.length_map, List.length_append, List.length_replicate, Nat.reduceAdd, true_and, and_true, and_self]; first | done | omega)) only [go_sem, ↓reduceIte, Nat.reduceEqDiff, Nat.reduceAdd, Nat.reduceSub, Nat.reduceMul, Nat.reduceBEq, Nat.reduceLT, Nat.reduceLeDiff, Nat.reduceMod, Nat.reducePow, List.reduceReplicate, UInt8.reduceOfNat, Int.reducePow, Int.reduceDiv, Int.reduceMod, Nat.reduceDiv, Int.reduceNeg, Int.reduceAdd, Int.reduceSub, Int.reduceMul, Int.reduceLE, Int.reduceLT, Int.reduceEq, Int.reduceToNat, reduceCtorEq, -List.reduceReplicate, hi2']
          exact Upd.now ⟨256 - (k + (N + 1)), by omega, i + 2, k + (N + 1), wm (N + 1), _, by omega, rfl, by omega, hwml _, fillF_bd hf _ _ hy, by rw [hwm1]; exact hlk2, rfl, rfl⟩
        · by_cases hm2 : k + m = 256
          · repeat' first
              | with_reducible refine Br.yes ?_
              | with_reducible refine Br.no ?_
              | with_reducible refine Br.dec (fun _ => ?_) (fun _ => ?_)
              | with_reducible refine Br.beqB (fun _ => ?_) (fun _ => ?_)
              | with_reducible refine Br.beqb (fun _ => ?_) (fun _ => ?_)
              | with_reducible refine Br.mk (fun _ => ?_) (fun _ => ?_)
              | with_reducible refine foundO.mk (fun _ _ => ?_) (fun _ => ?_)
              | with_reducible refine appV.zero ?_
              | with_reducible refine appV.own ?_
              | ((with_reducible refine NewB.mk fun nb hnb => ?_); have hnb1 := hnb.1.1; have hnb2 := hnb.1.2; try simp only [keys_cons, keys_app, keys_nil, NotIn_cons, NotIn_app, NotIn_nil, and_true] at hnb2)
              | ((with_reducible refine NewRow.mk fun nb nsp ncap hnb hncap => ?_); have hnb1 := hnb.1.1; have hnb2 := hnb.1.2; try simp only [keys_cons, keys_app, keys_nil, NotIn_cons, NotIn_app, NotIn_nil, and_true] at hnb2)
              | simp (dsimp := false) (implicitDefEqProofs := false) (disch := first | assumption | (simp only [List.mem_cons, List.mem_append, true_or, or_true, eq_self]; done) | omega | (with_reducible refine Row.adr (by assumption) ?_; simp only [List.length_map, List.length_take, List.length_drop]; omega) | (simp only [List.length_cons, List.length_nil, List.length_map, List.length_append, List.length_replicate, Nat.reduceAdd, true_and, and_true, and_self]; first | done | omega)) only [go_sem, ↓reduceIte, Nat.reduceEqDiff, Nat.reduceAdd, Nat.reduceSub, Nat.reduceMul, Nat.reduceBEq, Nat.reduceLT, Nat.reduceLeDiff, Nat.reduceMod, Nat.reducePow, List.reduceReplicate, UInt8.reduceOfNat, Int.reducePow, Int.reduceDiv, Int.reduceMod, Nat.reduceDiv, Int.reduceNeg, Int.reduceAdd, Int.reduceSub, Int.reduceMul, Int.reduceLE, Int.reduceLT, Int.reduceEq, Int.reduceToNat, reduceCtorEq, -List.reduceReplicate, hi2']
            obtain ⟨m, rfl⟩ : ∃ p, m = p + 1 := ⟨m - 1, by omega⟩
            have hlk2 := linkC_next hlk hk (m := m + 1) (by omega) (by omega) hkm
            rw [← hyd] at hlk2
            exact Upd.now ⟨256 - (k + (m + 1)), by omega, i + 2, k + (m + 1), wm (m + 1), _, by omega, rfl, by omega, hwml _, fillF_bd hf _ _ hy, by rw [hwm1]; exact hlk2, rfl, rfl⟩
          · have hput := fun w' : Int => gC_putO (f := fillF f k m (y : Nat)) (k := k + m) (by omega) w' (.slice none 0 0) (.slice none 0 0) (.slice av nv cv) (y : Nat)
            rw [fillF_succ] at hput
            repeat' first
              | with_reducible refine Br.yes ?_
              | with_reducible refine Br.no ?_
              | with_reducible refine Br.dec (fun _ => ?_) (fun _ => ?_)
              | with_reducible refine Br.beqB (fun _ => ?_) (fun _ => ?_)
              | with_reducible refine Br.beqb (fun _ => ?_) (fun _ => ?_)
              | with_reducible refine Br.mk (fun _ => ?_) (fun _ => ?_)
              | with_reducible refine foundO.mk (fun _ _ => ?_) (fun _ => ?_)
              | with_reducible refine appV.zero ?_
              | with_reducible refine appV.own ?_
              | ((with_reducible refine NewB.mk fun nb hnb => ?_); have hnb1 := hnb.1.1; have hnb2 := hnb.1.2; try simp only [keys_cons, keys_app, keys_nil, NotIn_cons, NotIn_app, NotIn_nil, and_true] at hnb2)
              | ((with_reducible refine NewRow.mk fun nb nsp ncap hnb hncap => ?_); have hnb1 := hnb.1.1; have hnb2 := hnb.1.2; try simp only [keys_cons, keys_app, keys_nil, NotIn_cons, NotIn_app, NotIn_nil, and_true] at hnb2)
              | simp (dsimp := false) (implicitDefEqProofs := false) (disch := first | assumption | (simp only [List.mem_cons, List.mem_append, true_or, or_true, eq_self]; done) | omega | (with_reducible refine Row.adr (by assumption) ?_; simp only [List.length_map, List.length_take, List.length_drop]; omega) | (simp only [List.length_cons, List.length_nil, List.length_map, List.length_append, List.length_replicate, Nat.reduceAdd, true_and, and_true, and_self]; first | done | omega)) only [go_sem, ↓reduceIte, Nat.reduceEqDiff, Nat.reduceAdd, Nat.reduceSub, Nat.reduceMul, Nat.reduceBEq, Nat.reduceLT, Nat.reduceLeDiff, Nat.reduceMod, Nat.reducePow, List.reduceReplicate, UInt8.reduceOfNat, Int.reducePow, Int.reduceDiv, Int.reduceMod, Nat.reduceDiv, Int.reduceNeg, Int.reduceAdd, Int.reduceSub, Int.reduceMul, Int.reduceLE, Int.reduceLT, Int.reduceEq, Int.reduceToNat, reduceCtorEq, -List.reduceReplicate, gC_len, gC_w, gC_putW, hk8, hput, ← hyd, hmx]
              | with_reducible refine rat_t hv0 ?_
              | with_reducible refine Tri.drawS tok mixed [0, 2, 3, 4, 5, 6, 7, 8, 9, 10, 11, 12, 23, 35, 56, 68, 108, 125] 18 [1] (.op 0 .plain (.op 1 .held (.op 2 .plain (.op 3 .plain (.op 4 .keeps (.op 5 .plain (.op 6 .plain (.op 7 .plain (.op 8 .plain .nil))))))))) (by kernel_rfl) [(b3, .cells (gC (fillF f k (m + 1) (y : Nat)) ((wm m : Nat) : Int) (.slice none 0 0) (.slice none 0 0) (.slice av nv cv)) [] 28)] (by intro fsum; first | exact Nat.le_refl _ | (simp only [List.map_append, List.map_cons, List.map_nil, List.sum_append, List.sum_cons, List.sum_nil, List.cons_append, List.nil_append]; omega)) ?_
            exact Upd.now ⟨q2 - 1, by omega, m + 1, by omega, rfl, by omega, by rw [hwm1], by rw [hcc, show ((N : Nat) : Int) - (m : Nat) - 1 = (N : Nat) - ((m + 1 : Nat) : Int) by omega]; rfl⟩
    · have hfin := fun hk => rest4_t (b2 := b2) (b3 := b3) (i := i) hbl (hr.mono hle) hc hR (by omega) hw hf hll hls hks (linkS_zero hlk (by omega) hk)
      by_cases hk : k < 256
      · have hil : ¬ i < b.length := fun h => hgo ⟨hk, h⟩
        repeat' first
          | with_reducible refine Br.yes ?_
          | with_reducible refine Br.no ?_
          | with_reducible refine Br.dec (fun _ => ?_) (fun _ => ?_)
          | with_reducible refine Br.beqB (fun _ => ?_) (fun _ => ?_)
          | with_reducible refine Br.beqb (fun _ => ?_) (fun _ => ?_)
          | with_reducible refine Br.mk (fun _ => ?_) (fun _ => ?_)
          | with_reducible refine foundO.mk (fun _ _ => ?_) (fun _ => ?_)
          | with_reducible refine appV.zero ?_
          | with_reducible refine appV.own ?_
          | ((with_reducible refine NewB.mk fun nb hnb => ?_); have hnb1 := hnb.1.1; have hnb2 := hnb.1.2; try simp only [keys_cons, keys_app, keys_nil, NotIn_cons, NotIn_app, NotIn_nil, and_true] at hnb2)
          | ((with_reducible refine NewRow.mk fun nb nsp ncap hnb hncap => ?_); have hnb1 := hnb.1.1; have hnb2 := hnb.1.2; try simp only [keys_cons, keys_app, keys_nil, NotIn_cons, NotIn_app, NotIn_nil, and_true] at hnb2)
          | simp (dsimp := false) (implicitDefEqProofs := false) (disch := first | assumption | (simp only [List.mem_cons, List.mem_append, true_or, or_true, eq_self]; done) | omega | (with_reducible refine Row.adr (by assumption) ?_; simp only [List.length_map, List.length_take, List.length_drop]; omega) | (simp only [List.length_cons, List.length_nil, List.length_map, List.length_append, List.length_replicate, Nat.reduceAdd, true_and, and_true, and_self]; first | done | omega)) only [go_sem, ↓reduceIte, Nat.reduceEqDiff, Nat.reduceAdd, Nat.reduceSub, Nat.reduceMul, Nat.reduceBEq, Nat.reduceLT, Nat.reduceLeDiff, Nat.reduceMod, Nat.reducePow, List.reduceReplicate, UInt8.reduceOfNat, Int.reducePow, Int.reduceDiv, Int.reduceMod, Nat.reduceDiv, Int.reduceNeg, Int.reduceAdd, Int.reduceSub, Int.reduceMul, Int.reduceLE, Int.reduceLT, Int.reduceEq, Int.reduceToNat, reduceCtorEq, -List.reduceReplicate]
        refine Tri.live [0, 2, 3, 4] ?_
        refine Tri.isPiece [1, 1, 1, 1, 1] Try.f19 (by kernel_rfl) ?_
        exact hfin hgo
      · repeat' first
          | with_reducible refine Br.yes ?_
          | with_reducible refine Br.no ?_
          | with_reducible refine Br.dec (fun _ => ?_) (fun _ => ?_)
          | with_reducible refine Br.beqB (fun _ => ?_) (fun _ => ?_)
          | with_reducible refine Br.beqb (fun _ => ?_) (fun _ => ?_)
          | with_reducible refine Br.mk (fun _ => ?_) (fun _ => ?_)
          | with_reducible refine foundO.mk (fun _ _ => ?_) (fun _ => ?_)
          | with_reducible refine appV.zero ?_
          | with_reducible refine appV.own ?_
          | ((with_reducible refine NewB.mk fun nb hnb => ?_); have hnb1 := hnb.1.1; have hnb2 := hnb.1.2; try simp only [keys_cons, keys_app, keys_nil, NotIn_cons, NotIn_app, NotIn_nil, and_true] at hnb2)
          | ((with_reducible refine NewRow.mk fun nb nsp ncap hnb hncap => ?_); have hnb1 := hnb.1.1; have hnb2 := hnb.1.2; try simp only [keys_cons, keys_app, keys_nil, NotIn_cons, NotIn_app, NotIn_nil, and_true] at hnb2)
          | simp (dsimp := false) (implicitDefEqProofs := false) (disch := first | assumption | (simp only [List.mem_cons, List.mem_append, true_or, or_true, eq_self]; done) | omega | (with_reducible refine Row.adr (by assumption) ?_; simp only [List.length_map, List.length_take, List.length_drop]; omega) | (simp only [List.length_cons, List.length_nil, List.length_map, List.length_append, List.length_replicate, Nat.reduceAdd, true_and, and_true, and_self]; first | done | omega)) only [go_sem, ↓reduceIte, Nat.reduceEqDiff, Nat.reduceAdd, Nat.reduceSub, Nat.reduceMul, Nat.reduceBEq, Nat.reduceLT, Nat.reduceLeDiff, Nat.reduceMod, Nat.reducePow, List.reduceReplicate, UInt8.reduceOfNat, Int.reducePow, Int.reduceDiv, Int.reduceMod, Nat.reduceDiv, Int.reduceNeg, Int.reduceAdd, Int.reduceSub, Int.reduceMul, Int.reduceLE, Int.reduceLT, Int.reduceEq, Int.reduceToNat, reduceCtorEq, -List.reduceReplicate]
        refine Tri.live [0, 2, 3, 4] ?_
        refine Tri.isPiece [1, 1, 1, 1, 1] Try.f19 (by kernel_rfl) ?_
        exact hfin hgo
set_option maxHeartbeats 64000000 in
theorem guess_t {b : List UInt8} (hbl : b.length ≤ 2000000) {G : PHeap} {H : Heap} {R : Value → PHeap → Heap → Prop} {v : Value} (hv : Sl G byteV v b)
    (hR : ∀ G' v' e, PLe G G' → Sep G' (keys H) → IsD G' e v' → SmallD e → (∀ d, Fit d → layL d = b → e = d) → R v' G' H) : FnT Try.prog 19 [v] G H R := by
  have hv0 := hv
  obtain ⟨a, c, rfl, hr, hc⟩ := hv
  have h4b := atB_lt b 4
  refine FnT.bodyS tok [0, 2, 3, 4, 5, 6, 7, 8, 9, 10, 11, 12, 23, 35, 56, 68, 108, 125] (.seq .run (.seq .run (.seq .run (.seq .run .cut)))) Try.func19 rfl (by kernel_rfl) (by kernel_rfl) (by show _ ≤ 149; simp) fun hsep => ?_
  rw [Try.results19]
  have hsE := hsep
  try simp only [keys_cons, keys_app, keys_nil, Sep_cons, Sep_nil, NotIn_cons, NotIn_app, NotIn_nil, List.cons_append, List.nil_append, List.append_assoc, and_assoc, and_true, true_and] at hsE
  repeat (obtain ⟨hsx, hsE⟩ := hsE)
  repeat' first
    | with_reducible refine Br.yes ?_
    | with_reducible refine Br.no ?_
    | with_reducible refine Br.dec (fun _ => ?_) (fun _ => ?_)
    | with_reducible refine Br.beqB (fun _ => ?_) (fun _ => ?_)
    | with_reducible refine Br.beqb (fun _ => ?_) (fun _ => ?_)
    | with_reducible refine Br.mk (fun _ => ?_) (fun _ => ?_)
    | with_reducible refine foundO.mk (fun _ _ => ?_) (fun _ => ?_)
    | with_reducible refine appV.zero ?_
    | with_reducible refine appV.own ?_
    | ((with_reducible refine NewB.mk fun nb hnb => ?_); have hnb1 := hnb.1.1; have hnb2 := hnb.1.2; try simp only [keys_cons, keys_app, keys_nil, NotIn_cons, NotIn_app, NotIn_nil, and_true] at hnb2)
    | ((with_reducible refine NewRow.mk fun nb nsp ncap hnb hncap => ?_); have hnb1 := hnb.1.1; have hnb2 := hnb.1.2; try simp only [keys_cons, keys_app, keys_nil, NotIn_cons, NotIn_app, NotIn_nil, and_true] at hnb2)
    | simp (dsimp := false) (implicitDefEqProofs := false) (disch := first | assumption | (simp only [List.mem_cons, List.mem_append, true_or, or_true, eq_self]; done) | omega | (with_reducible refine Row.adr (by assumption) ?_; simp only [List.length_map, List.length_take, List.length_drop]; omega) | (simp only [List.length_cons, List.length_nil, List.length_map, List.length_append, List.length_replicate, Nat.reduceAdd, true_and, and_true, and_self]; first | done | omega)) only [go_sem, ↓reduceIte, Nat.reduceEqDiff, Nat.reduceAdd, Nat.reduceSub, Nat.reduceMul, Nat.reduceBEq, Nat.reduceLT, Nat.reduceLeDiff, Nat.reduceMod, Nat.reducePow, List.reduceReplicate, UInt8.reduceOfNat, Int.reducePow, Int.reduceDiv, Int.reduceMod, Nat.reduceDiv, Int.reduceNeg, Int.reduceAdd, Int.reduceSub, Int.reduceMul, Int.reduceLE, Int.reduceLT, Int.reduceEq, Int.reduceToNat, reduceCtorEq, -List.reduceReplicate, gC_zero, gC_zero2, gC_len, gC_over, gC_take, gC_oneS]
  rename_i b2 hb20 hb21 hb22
  revert nb
  intro b3 hb30 hb31 hb32
  refine Tri.loopS tok [0, 2, 3, 4, 5, 6, 7, 8, 9, 10, 11, 12, 23, 35, 56, 68, 108, 125] (.seq .run (.seq (.block (.seq .run (.seq .run (.seq .cut .cut)))) .cut)) (by kernel_rfl) [0, 2, 3, 4, 5] (fun q G' fr H' => ∃ (i n : Nat) (l : List (List UInt8)) (vs : Value) (ks : Heap), n + q = atB b 4 ∧ PLe G G' ∧ l.length = n ∧ i ≤ 2000000 ∧ (∀ s ∈ l, s.length ≤ 2000000) ∧ SliceO [] 9 1 vs n (l.map str) ks ∧ LinkN b i l ∧ H' = (b3, .cells (gC (fun _ => 0) 0 (.slice none 0 0) (.slice none 0 0) vs) [] 28) :: (b2, .cells (gC (fun _ => 0) 0 (.slice none 0 0) (.slice none 0 0) (.slice none 0 0)) [] 28) :: (ks ++ H) ∧ fr = [(0, .slice a b.length c), (2, .pointer (some ⟨b2, 0, none⟩)), (3, .pointer (some ⟨b3, 0, none⟩)), (4, .int .i64 (i : Nat)), (5, .int .i64 (n : Nat))]) ((atB b 4)) ?_ ?_
  · exact Upd.now ⟨5, 0, [], _, [], by omega, PLe.refl _, rfl, by omega, fun s hs => by (cases hs), .inl ⟨none, rfl, rfl, rfl, rfl⟩, linkN_zero b, rfl, rfl⟩
  · rintro q G1 fr H' hle hs1 ⟨i, n, l, vs, ks, hnq, hle01, hln, hi2, hls, hks, hlk, rfl, rfl⟩
    have hv1 := hv0.mono hle
    have hr1 := hr.mono hle
    have hib := atB_lt b i
    obtain ⟨av, nv, cv, hvs⟩ := sliceO_one hks
    subst hvs
    by_cases hgo : n < atB b 4 ∧ i < b.length
    · obtain ⟨hn4, hil⟩ := hgo
      have hsE := hs1
      try simp only [keys_cons, keys_app, keys_nil, Sep_cons, Sep_nil, NotIn_cons, NotIn_app, NotIn_nil, List.cons_append, List.nil_append, List.append_assoc, and_assoc, and_true, true_and] at hsE
      repeat (obtain ⟨hsx, hsE⟩ := hsE)
      obtain ⟨to, hto⟩ : ∃ to, to = i + 1 + atB b i := ⟨_, rfl⟩
      have hto2 : ((i : Nat) : Int) + 1 + ((atB b i : Nat) : Int) = (to : Nat) := by omega
      repeat' first
        | with_reducible refine Br.yes ?_
        | with_reducible refine Br.no ?_
        | with_reducible refine Br.dec (fun _ => ?_) (fun _ => ?_)
        | with_reducible refine Br.beqB (fun _ => ?_) (fun _ => ?_)
        | with_reducible refine Br.beqb (fun _ => ?_) (fun _ => ?_)
        | with_reducible refine Br.mk (fun _ => ?_) (fun _ => ?_)
        | with_reducible refine foundO.mk (fun _ _ => ?_) (fun _ => ?_)
        | with_reducible refine appV.zero ?_
        | with_reducible refine appV.own ?_
        | ((with_reducible refine NewB.mk fun nb hnb => ?_); have hnb1 := hnb.1.1; have hnb2 := hnb.1.2; try simp only [keys_cons, keys_app, keys_nil, NotIn_cons, NotIn_app, NotIn_nil, and_true] at hnb2)
        | ((with_reducible refine NewRow.mk fun nb nsp ncap hnb hncap => ?_); have hnb1 := hnb.1.1; have hnb2 := hnb.1.2; try simp only [keys_cons, keys_app, keys_nil, NotIn_cons, NotIn_app, NotIn_nil, and_true] at hnb2)
        | simp (dsimp := false) (implicitDefEqProofs := false) (disch := first | assumption | (simp only [List.mem_cons, List.mem_append, true_or, or_true, eq_self]; done) | omega | (with_reducible refine Row.adr (by assumption) ?_; simp only [List.length_map, List.length_take, List.length_drop]; omega) | (simp only [List.length_cons, List.length_nil, List.length_map, List.length_append, List.length_replicate, Nat.reduceAdd, true_and, and_true, and_self]; first | done | omega)) only [go_sem, ↓reduceIte, Nat.reduceEqDiff, Nat.reduceAdd, Nat.reduceSub, Nat.reduceMul, Nat.reduceBEq, Nat.reduceLT, Nat.reduceLeDiff, Nat.reduceMod, Nat.reducePow, List.reduceReplicate, UInt8.reduceOfNat, Int.reducePow, Int.reduceDiv, Int.reduceMod, Nat.reduceDiv, Int.reduceNeg, Int.reduceAdd, Int.reduceSub, Int.reduceMul, Int.reduceLE, Int.reduceLT, Int.reduceEq, Int.reduceToNat, reduceCtorEq, -List.reduceReplicate, gC_len, gC_over, gC_take, gC_oneS, hto2]
        | with_reducible refine rat4_t hv1 ?_
        | with_reducible refine rat_t hv1 ?_
      · rename_i hbig
        unfold UpdR
        refine Upd.go (H' := ks ++ H) (by intro fsum; simp only [List.map_append, List.map_cons, List.map_nil, List.sum_append, List.sum_cons, List.sum_nil, List.cons_append, List.nil_append]; omega) (Upd.sepI fun hs7 => hks.shareApp hs7 fun G9 a9 c9 hle9 hs9 hv9 hr9 hc9 => ?_)
        refine hR G9 _ (gD (fun _ => 0) 0 [] [] l) (hle01.trans hle9) hs9 (gD_is (fun i => ⟨Int.le_refl _, by omega⟩) _ (slS_nil _) (sl_nil _ _) ⟨a9, c9, by rw [hln]; exact hv9, hr9, by omega⟩) (gD_small (Nat.zero_le _) (fun r hr => by cases hr) (Nat.zero_le _) (by omega) hls) fun d hd e => ?_
        obtain ⟨_, h1, _⟩ := linkN_next hlk (by omega) hd e
        omega
      · rename_i hbig
        refine Tri.upd (Upd.go (H' := (b3, .cells (gC (fun _ => 0) 0 (.slice none 0 0) (.slice none 0 0) (.slice av nv cv)) [] 28) :: (ks ++ ((b2, .cells (gC (fun _ => 0) 0 (.slice none 0 0) (.slice none 0 0) (.slice none 0 0)) [] 28) :: H))) (by intro fsum; simp only [List.map_append, List.map_cons, List.map_nil, List.sum_append, List.sum_cons, List.sum_nil, List.cons_append, List.nil_append]; omega) (Upd.now ?_))
        refine Tri.live [0, 2, 3, 4, 5, 6] ?_
        refine Tri.isPiece [1, 1, 1, 0, 1, 0, 0, 1, 0, 0, 1, 1, 0] Try.f19 (by kernel_rfl) ?_
        refine Tri.onlyN (g9_t (to := to) hbl hr1 hc (by omega) (by omega) (by omega) hln hks) fun G5 l5 H5 hle5 hs5 hM => ?_
        obtain ⟨vs', ks', hle6, hks', hfr', rfl⟩ := hM
        simp only [go_sem]
        refine Tri.live [0, 2, 3, 4, 5, 6] ?_
        rw [hfr']
        have hsE := hs5
        try simp only [keys_cons, keys_app, keys_nil, Sep_cons, Sep_nil, NotIn_cons, NotIn_app, NotIn_nil, List.cons_append, List.nil_append, List.append_assoc, and_assoc, and_true, true_and] at hsE
        repeat (obtain ⟨hsx, hsE⟩ := hsE)
        refine Tri.run tok [0, 2, 3, 4, 5, 6, 7, 8, 9, 10, 11, 12, 23, 35, 56, 68, 108, 125] (by kernel_rfl) ?_
        repeat' first
          | with_reducible refine Br.yes ?_
          | with_reducible refine Br.no ?_
          | with_reducible refine Br.dec (fun _ => ?_) (fun _ => ?_)
          | with_reducible refine Br.beqB (fun _ => ?_) (fun _ => ?_)
          | with_reducible refine Br.beqb (fun _ => ?_) (fun _ => ?_)
          | with_reducible refine Br.mk (fun _ => ?_) (fun _ => ?_)
          | with_reducible refine foundO.mk (fun _ _ => ?_) (fun _ => ?_)
          | with_reducible refine appV.zero ?_
          | with_reducible refine appV.own ?_
          | ((with_reducible refine NewB.mk fun nb hnb => ?_); have hnb1 := hnb.1.1; have hnb2 := hnb.1.2; try simp only [keys_cons, keys_app, keys_nil, NotIn_cons, NotIn_app, NotIn_nil, and_true] at hnb2)
          | ((with_reducible refine NewRow.mk fun nb nsp ncap hnb hncap => ?_); have hnb1 := hnb.1.1; have hnb2 := hnb.1.2; try simp only [keys_cons, keys_app, keys_nil, NotIn_cons, NotIn_app, NotIn_nil, and_true] at hnb2)
          | simp (dsimp := false) (implicitDefEqProofs := false) (disch := first | assumption | (simp only [List.mem_cons, List.mem_append, true_or, or_true, eq_self]; done) | omega | (with_reducible refine Row.adr (by assumption) ?_; simp only [List.length_map, List.length_take, List.length_drop]; omega) | (simp only [List.length_cons, List.length_nil, List.length_map, List.length_append, List.length_replicate, Nat.reduceAdd, true_and, and_true, and_self]; first | done | omega)) only [go_sem, ↓reduceIte, Nat.reduceEqDiff, Nat.reduceAdd, Nat.reduceSub, Nat.reduceMul, Nat.reduceBEq, Nat.reduceLT, Nat.reduceLeDiff, Nat.reduceMod, Nat.reducePow, List.reduceReplicate, UInt8.reduceOfNat, Int.reducePow, Int.reduceDiv, Int.reduceMod, Nat.reduceDiv, Int.reduceNeg, Int.reduceAdd, Int.reduceSub, Int.reduceMul, Int.reduceLE, Int.reduceLT, Int.reduceEq, Int.reduceToNat, reduceCtorEq, -List.reduceReplicate]
        refine Tri.live [0, 2, 3, 4, 5] ?_
        refine Tri.run tok [0, 2, 3, 4, 5, 6, 7, 8, 9, 10, 11, 12, 23, 35, 56, 68, 108, 125] (by kernel_rfl) ?_
        repeat' first
          | with_reducible refine Br.yes ?_
          | with_reducible refine Br.no ?_
          | with_reducible refine Br.dec (fun _ => ?_) (fun _ => ?_)
          | with_reducible refine Br.beqB (fun _ => ?_) (fun _ => ?_)
          | with_reducible refine Br.beqb (fun _ => ?_) (fun _ => ?_)
          | with_reducible refine Br.mk (fun _ => ?_) (fun _ => ?_)
          | with_reducible refine foundO.mk (fun _ _ => ?_) (fun _ => ?_)
          | with_reducible refine appV.zero ?_
          | with_reducible refine appV.own ?_
          | ((with_reducible refine NewB.mk fun nb hnb => ?_); have hnb1 := hnb.1.1; have hnb2 := hnb.1.2; try simp only [keys_cons, keys_app, keys_nil, NotIn_cons, NotIn_app, NotIn_nil, and_true] at hnb2)
          | ((with_reducible refine NewRow.mk fun nb nsp ncap hnb hncap => ?_); have hnb1 := hnb.1.1; have hnb2 := hnb.1.2; try simp only [keys_cons, keys_app, keys_nil, NotIn_cons, NotIn_app, NotIn_nil, and_true] at hnb2)
          | simp (dsimp := false) (implicitDefEqProofs := false) (disch := first | assumption | (simp only [List.mem_cons, List.mem_append, true_or, or_true, eq_self]; done) | omega | (with_reducible refine Row.adr (by assumption) ?_; simp only [List.length_map, List.length_take, List.length_drop]; omega) | (simp only [List.length_cons, List.length_nil, List.length_map, List.length_append, List.length_replicate, Nat.reduceAdd, true_and, and_true, and_self]; first | done | omega)) only [go_sem, ↓reduceIte, Nat.reduceEqDiff, Nat.reduceAdd, Nat.reduceSub, Nat.reduceMul, Nat.reduceBEq, Nat.reduceLT, Nat.reduceLeDiff, Nat.reduceMod, Nat.reducePow, List.reduceReplicate, UInt8.reduceOfNat, Int.reducePow, Int.reduceDiv, Int.reduceMod, Nat.reduceDiv, Int.reduceNeg, Int.reduceAdd, Int.reduceSub, Int.reduceMul, Int.reduceLE, Int.reduceLT, Int.reduceEq, Int.reduceToNat, reduceCtorEq, -List.reduceReplicate]
        refine Upd.leave (H' := (b3, .cells (gC (fun _ => 0) 0 (.slice none 0 0) (.slice none 0 0) vs') [] 28) :: (b2, .cells (gC (fun _ => 0) 0 (.slice none 0 0) (.slice none 0 0) (.slice none 0 0)) [] 28) :: (ks' ++ H)) (by intro fsum; simp only [List.map_append, List.map_cons, List.map_nil, List.sum_append, List.sum_cons, List.sum_nil, List.cons_append, List.nil_append]; omega) ?_
        refine ⟨q - 1, by omega, to, n + 1, _, vs', ks', by omega, hle01.trans hle5, by rw [List.length_append, hln]; rfl, by omega, fun s hs => ?_, hks', ?_, rfl, rfl⟩
        · rcases List.mem_append.1 hs with h | h
          · exact hls s h
          · rw [List.mem_singleton] at h; rw [h, List.length_drop, List.length_take]; omega
        · rw [hto]; exact linkN_snoc hlk (by omega)
    · have hfin := rest2_t (b2 := b2) (b3 := b3) (i := i) (l := l) (G := G1) (R := R) (H := H) (vs := .slice av nv cv) (ks := ks) hbl hr1 hc (fun G' v' e h1 => hR G' v' e (hle01.trans h1)) hi2 (by omega) hls (by rw [hln]; exact hks) hlk (by rw [hln]; exact hgo)
      by_cases hn4 : n < atB b 4
      · have hil : ¬ i < b.length := fun h => hgo ⟨hn4, h⟩
        repeat' first
          | with_reducible refine Br.yes ?_
          | with_reducible refine Br.no ?_
          | with_reducible refine Br.dec (fun _ => ?_) (fun _ => ?_)
          | with_reducible refine Br.beqB (fun _ => ?_) (fun _ => ?_)
          | with_reducible refine Br.beqb (fun _ => ?_) (fun _ => ?_)
          | with_reducible refine Br.mk (fun _ => ?_) (fun _ => ?_)
          | with_reducible refine foundO.mk (fun _ _ => ?_) (fun _ => ?_)
          | with_reducible refine appV.zero ?_
          | with_reducible refine appV.own ?_
          | ((with_reducible refine NewB.mk fun nb hnb => ?_); have hnb1 := hnb.1.1; have hnb2 := hnb.1.2; try simp only [keys_cons, keys_app, keys_nil, NotIn_cons, NotIn_app, NotIn_nil, and_true] at hnb2)
          | ((with_reducible refine NewRow.mk fun nb nsp ncap hnb hncap => ?_); have hnb1 := hnb.1.1; have hnb2 := hnb.1.2; try simp only [keys_cons, keys_app, keys_nil, NotIn_cons, NotIn_app, NotIn_nil, and_true] at hnb2)
          | simp (dsimp := false) (implicitDefEqProofs := false) (disch := first | assumption | (simp only [List.mem_cons, List.mem_append, true_or, or_true, eq_self]; done) | omega | (with_reducible refine Row.adr (by assumption) ?_; simp only [List.length_map, List.length_take, List.length_drop]; omega) | (simp only [List.length_cons, List.length_nil, List.length_map, List.length_append, List.length_replicate, Nat.reduceAdd, true_and, and_true, and_self]; first | done | omega)) only [go_sem, ↓reduceIte, Nat.reduceEqDiff, Nat.reduceAdd, Nat.reduceSub, Nat.reduceMul, Nat.reduceBEq, Nat.reduceLT, Nat.reduceLeDiff, Nat.reduceMod, Nat.reducePow, List.reduceReplicate, UInt8.reduceOfNat, Int.reducePow, Int.reduceDiv, Int.reduceMod, Nat.reduceDiv, Int.reduceNeg, Int.reduceAdd, Int.reduceSub, Int.reduceMul, Int.reduceLE, Int.reduceLT, Int.reduceEq, Int.reduceToNat, reduceCtorEq, -List.reduceReplicate]
          | with_reducible refine rat4_t hv1 ?_
        refine Tri.live [0, 2, 3, 4] ?_
        refine Tri.isPiece [1, 1, 1, 1] Try.f19 (by kernel_rfl) ?_
        exact hfin
      · repeat' first
          | with_reducible refine Br.yes ?_
          | with_reducible refine Br.no ?_
          | with_reducible refine Br.dec (fun _ => ?_) (fun _ => ?_)
          | with_reducible refine Br.beqB (fun _ => ?_) (fun _ => ?_)
          | with_reducible refine Br.beqb (fun _ => ?_) (fun _ => ?_)
          | with_reducible refine Br.mk (fun _ => ?_) (fun _ => ?_)
          | with_reducible refine foundO.mk (fun _ _ => ?_) (fun _ => ?_)
          | with_reducible refine appV.zero ?_
          | with_reducible refine appV.own ?_
          | ((with_reducible refine NewB.mk fun nb hnb => ?_); have hnb1 := hnb.1.1; have hnb2 := hnb.1.2; try simp only [keys_cons, keys_app, keys_nil, NotIn_cons, NotIn_app, NotIn_nil, and_true] at hnb2)
          | ((with_reducible refine NewRow.mk fun nb nsp ncap hnb hncap => ?_); have hnb1 := hnb.1.1; have hnb2 := hnb.1.2; try simp only [keys_cons, keys_app, keys_nil, NotIn_cons, NotIn_app, NotIn_nil, and_true] at hnb2)
          | simp (dsimp := false) (implicitDefEqProofs := false) (disch := first | assumption | (simp only [List.mem_cons, List.mem_append, true_or, or_true, eq_self]; done) | omega | (with_reducible refine Row.adr (by assumption) ?_; simp only [List.length_map, List.length_take, List.length_drop]; omega) | (simp only [List.length_cons, List.length_nil, List.length_map, List.length_append, List.length_replicate, Nat.reduceAdd, true_and, and_true, and_self]; first | done | omega)) only [go_sem, ↓reduceIte, Nat.reduceEqDiff, Nat.reduceAdd, Nat.reduceSub, Nat.reduceMul, Nat.reduceBEq, Nat.reduceLT, Nat.reduceLeDiff, Nat.reduceMod, Nat.reducePow, List.reduceReplicate, UInt8.reduceOfNat, Int.reducePow, Int.reduceDiv, Int.reduceMod, Nat.reduceDiv, Int.reduceNeg, Int.reduceAdd, Int.reduceSub, Int.reduceMul, Int.reduceLE, Int.reduceLT, Int.reduceEq, Int.reduceToNat, reduceCtorEq, -List.reduceReplicate]
          | with_reducible refine rat4_t hv1 ?_
        refine Tri.live [0, 2, 3, 4] ?_
        refine Tri.isPiece [1, 1, 1, 1] Try.f19 (by kernel_rfl) ?_
        exact hfin
end Go.Proofs.Ytomdbjfdbkejoaa
