/- The document's states from which a label can be come to. -/
import Derived.Test.YtlblohmjikopbaaWj
set_option linter.unusedSimpArgs false
set_option linter.unusedVariables false
namespace Go.Proofs.Ytlblohmjikopbaa
open Go Go.V Go.Proofs

/-- all that is met is met further -/
theorem bw_closed {on : Int → List Int} {W0 : List Int} {n : Nat} (h0 : OnceN n W0) (hon : ∀ s : Int, 0 ≤ s → s < n → ∀ t ∈ on s, 0 ≤ t ∧ t < n) {x : Int} (hx : x ∈ walkL on n W0) : ∀ t ∈ on x, t ∈ walkL on n W0 := by
  obtain ⟨k, hk, rfl⟩ := List.getElem_of_mem hx
  intro t ht
  unfold walkL at hk ht ⊢
  have hkn : k < n := Nat.lt_of_lt_of_le hk (bw_once h0 hon n).len
  -- the k-th is there behind k rounds
  have hke : ∃ h : k < (bw on W0 k).length, (bw on W0 k)[k] = (bw on W0 n)[k] := by
    rcases Nat.lt_or_ge k (bw on W0 k).length with h | h
    · obtain ⟨h2, e⟩ := bw_get (on := on) (W0 := W0) (i := k) (j := n) (by omega) h
      exact ⟨h, e.symm⟩
    · have := bw_still h (n - k)
      rw [show k + (n - k) = n by omega] at this
      rw [this] at hk; omega
  obtain ⟨hk1, hk2⟩ := hke
  rw [← hk2] at ht
  have hin : t ∈ bw on W0 (k + 1) := by rw [bw_succ hk1]; exact mem_addN.2 (.inr ht)
  obtain ⟨X, hX⟩ := bw_pre' on W0 (k + 1) (n - (k + 1))
  rw [show k + 1 + (n - (k + 1)) = n by omega] at hX
  rw [hX]; exact List.mem_append.2 (.inl hin)
theorem walk_start {on : Int → List Int} {W0 : List Int} {n : Nat} {x : Int} (hx : x ∈ W0) : x ∈ walkL on n W0 := by
  obtain ⟨X, hX⟩ := bw_pre' on W0 0 n
  rw [Nat.zero_add] at hX
  unfold walkL; rw [hX]; exact List.mem_append.2 (.inl hx)
theorem walk_least {on : Int → List Int} {W0 : List Int} {X : Int → Prop} (h0 : ∀ x ∈ W0, X x) (h1 : ∀ x, X x → ∀ t ∈ on x, X t) : ∀ i x, x ∈ bw on W0 i → X x
  | 0, x, hx => h0 x hx
  | i + 1, x, hx => by
    rcases Nat.lt_or_ge i (bw on W0 i).length with h | h
    · rw [bw_succ h] at hx
      rcases mem_addN.1 hx with hx | hx
      · exact walk_least h0 h1 i x hx
      · exact h1 _ (walk_least h0 h1 i _ (List.getElem_mem h)) x hx
    · rw [bw_stop h] at hx; exact walk_least h0 h1 i x hx
/-- from a state a label can be come to -/
def LiveP (d : DfaT) (s : Int) : Prop := ∀ X : Int → Prop, (∀ i (h : i < d.label.length), d.label[i] ≠ 0 → X (i : Nat)) → (∀ i (h : i < d.next.length) t, t ∈ d.next[i] → X t → X (i : Nat)) → X s
theorem mem_endsL {d : DfaT} {x : Int} {n : Nat} (hn : n ≤ d.label.length) : x ∈ endsL d n ↔ ∃ (i : Nat) (h : i < d.label.length), i < n ∧ x = i ∧ d.label[i] ≠ 0 := by
  unfold endsL
  rw [List.mem_map]
  constructor
  · rintro ⟨i, hi, rfl⟩
    rw [List.mem_filter, List.mem_range] at hi
    have h2 := of_decide_eq_true hi.2
    have hil : i < d.label.length := by omega
    rw [List.getD_eq_getElem?_getD, List.getElem?_eq_getElem hil, Option.getD_some] at h2
    exact ⟨i, hil, hi.1, rfl, h2⟩
  · rintro ⟨i, hil, hi, rfl, h2⟩
    refine ⟨i, List.mem_filter.2 ⟨List.mem_range.2 hi, decide_eq_true ?_⟩, rfl⟩
    rw [List.getD_eq_getElem?_getD, List.getElem?_eq_getElem hil, Option.getD_some]
    exact h2
theorem mem_backF {d : DfaT} {s t : Int} : s ∈ backF d t ↔ ∃ (i : Nat) (h : i < d.next.length), s = i ∧ t ∈ d.next[i] := by
  unfold backF
  rw [mem_backE, mem_edgesL]
  constructor
  · rintro ⟨i, h, e, ht⟩
    rw [List.getD_eq_getElem?_getD, List.getElem?_eq_getElem h, Option.getD_some] at ht
    exact ⟨i, h, e, ht⟩
  · rintro ⟨i, h, e, ht⟩
    refine ⟨i, h, e, ?_⟩
    rw [List.getD_eq_getElem?_getD, List.getElem?_eq_getElem h, Option.getD_some]
    exact ht
theorem mem_liveL {d : DfaT} (hok : RightP d) {x : Int} : x ∈ liveL d ↔ LiveP d x := by
  unfold liveL
  rw [mem_sortI]
  have hO := endsL_once d d.label.length
  have hon := backF_ok hok
  constructor
  · intro hx X h0 h1
    refine walk_least (X := X) (fun y hy => ?_) (fun y hy t ht => ?_) _ x hx
    · obtain ⟨i, h, _, rfl, h2⟩ := (mem_endsL (Nat.le_refl _)).1 hy
      exact h0 i h h2
    · obtain ⟨i, h, rfl, h2⟩ := mem_backF.1 ht
      exact h1 i h y h2 hy
  · intro hx
    refine hx (fun y => y ∈ walkL (backF d) d.label.length (endsL d d.label.length)) (fun i h h2 => walk_start ((mem_endsL (Nat.le_refl _)).2 ⟨i, h, h, rfl, h2⟩)) (fun i h t ht hX => ?_)
    exact bw_closed hO hon hX _ (mem_backF.2 ⟨i, h, rfl, ht⟩)
theorem liveL_pw {d : DfaT} (hok : RightP d) : (liveL d).Pairwise (· < ·) := sortI_pw (bw_once (endsL_once d d.label.length) (backF_ok hok) _).1
/-- what is found comes to the same -/
theorem live_eq {d : DfaT} (hok : RightP d) {l : List Int} (h1 : l.Pairwise (· < ·)) (h2 : ∀ x ∈ l, LiveP d x) (h3 : ∀ i (h : i < d.label.length), d.label[i] ≠ 0 → (i : Int) ∈ l) (h4 : ∀ i (h : i < d.next.length) t, t ∈ d.next[i] → t ∈ l → (i : Int) ∈ l) : l = liveL d := by
  refine pw_ext h1 (liveL_pw hok) fun x => ?_
  rw [mem_liveL hok]
  exact ⟨h2 x, fun hx => hx (fun y => y ∈ l) h3 h4⟩
theorem pw_nodup {l : List Int} (h : l.Pairwise (· < ·)) : l.Nodup := h.imp fun h => by omega
theorem putL_once {n : Nat} {l : List Int} (h : l.Pairwise (· < ·)) (hb : ∀ x ∈ l, 0 ≤ x ∧ x < n) {x : Int} (hx : 0 ≤ x ∧ x < n) : ∀ y ∈ putL l x, 0 ≤ y ∧ y < n := fun y hy => by
  rcases mem_putL.1 hy with h1 | rfl
  · exact hb y h1
  · exact hx
/-- what is known of a set that grows -/
def LvI (d : DfaT) (l : List Int) : Prop := l.Pairwise (· < ·) ∧ (∀ x ∈ l, 0 ≤ x ∧ x < d.label.length) ∧ ∀ x ∈ l, LiveP d x
theorem LvI.len {d : DfaT} {l : List Int} (h : LvI d l) : l.length ≤ d.label.length := OnceN.len (n := d.label.length) ⟨pw_nodup h.1, h.2.1⟩
theorem LvI.put {d : DfaT} {l : List Int} (h : LvI d l) {x : Int} (hx : 0 ≤ x ∧ x < d.label.length) (hl : LiveP d x) : LvI d (putL l x) :=
  ⟨putL_pw h.1, putL_once h.1 h.2.1 hx, fun y hy => by
    rcases mem_putL.1 hy with h1 | rfl
    · exact h.2.2 y h1
    · exact hl⟩
theorem LiveP.label {d : DfaT} {i : Nat} (h : i < d.label.length) (h2 : d.label[i] ≠ 0) : LiveP d (i : Nat) := fun X h0 _ => h0 i h h2
theorem LiveP.next {d : DfaT} {i : Nat} (h : i < d.next.length) {t : Int} (ht : t ∈ d.next[i]) (hl : LiveP d t) : LiveP d (i : Nat) := fun X h0 h1 => h1 i h t ht (hl X h0 h1)
set_option maxHeartbeats 16000000 in
theorem rlive_t {d : DfaT} (hsm : SmallD d) (hok : RightP d) {G : PHeap} {H : Heap} {R : Value → PHeap → Heap → Prop} {v : Value} (hv : IsD G d v)
    (hR : ∀ G' v', PLe G G' → Sep G' (keys H) → Sl G' (Value.int .i64) v' (liveL d) → R v' G' H) : FnT Try.prog 15 [v] G H R := by
  obtain ⟨C, an, al, ay, cn, cl, cs, rs, rfl, O⟩ := hv.opened
  have hCl := O.len
  have hCa := O.all
  have hCw := O.w
  have hCn := O.n
  have hCx := O.l
  obtain ⟨hk1, hk2, hk3, hk4, hk5, hk6, hk7⟩ := id hok
  have hrnl := O.rnl
  have had : Adr an := O.rn.adr (by omega)
  have hadl : Adr al := O.rl.adr (by rw [List.length_map]; omega)
  have htw := tabO_len d.of
  have hofl := O.ofl
  obtain ⟨W, hWd⟩ := Int.eq_ofNat_of_zero_le (show 0 ≤ d.width by omega)
  refine FnT.sep ?_
  refine FnT.body tok [0, 1, 2, 3, 4, 5, 6, 7, 13, 21, 25, 30, 42, 54] Try.func15 rfl (by kernel_rfl) (by kernel_rfl) (by show _ ≤ 59; simp) fun hsep => ?_
  rw [Try.results15]
  have hsE := hsep
  try simp only [keys_cons, keys_app, keys_nil, Sep_cons, Sep_nil, NotIn_cons, NotIn_app, NotIn_nil, List.cons_append, List.nil_append, List.append_assoc, and_assoc, and_true, true_and] at hsE
  repeat (obtain ⟨hsx, hsE⟩ := hsE)
  repeat' first
    | with_reducible refine Br.yes ?_
    | with_reducible refine Br.no ?_
    | with_reducible refine Br.dec (fun _ => ?_) (fun _ => ?_)
    | with_reducible refine Br.beqB (fun _ => ?_) (fun _ => ?_)
    | with_reducible refine Br.beqb (fun _ => ?_) (fun _ => ?_)
    | with_reducible refine Br.mk (fun _ => ?_) (fun _ => ?_)
    | with_reducible refine foundO.mk (fun _ _ => ?_) (fun _ => ?_)
    | with_reducible refine appV.zero ?_
    | with_reducible refine appV.own ?_
    | ((with_reducible refine NewB.mk fun nb hnb => ?_); have hnb1 := hnb.1.1; have hnb2 := hnb.1.2; try simp only [keys_cons, keys_app, keys_nil, NotIn_cons, NotIn_app, NotIn_nil, and_true] at hnb2)
    | ((with_reducible refine NewRow.mk fun nb nsp ncap hnb hncap => ?_); have hnb1 := hnb.1.1; have hnb2 := hnb.1.2; try simp only [keys_cons, keys_app, keys_nil, NotIn_cons, NotIn_app, NotIn_nil, and_true] at hnb2)
    | simp (dsimp := false) (implicitDefEqProofs := false) (disch := first | assumption | (simp only [List.mem_cons, List.mem_append, true_or, or_true, eq_self]; done) | omega | (with_reducible refine Row.adr (by assumption) ?_; simp only [List.length_map, List.length_take, List.length_drop]; omega) | (simp only [List.length_cons, List.length_nil, List.length_map, List.length_append, List.length_replicate, Nat.reduceAdd, true_and, and_true, and_self]; first | done | omega)) only [go_sem, ↓reduceIte, Nat.reduceEqDiff, Nat.reduceAdd, Nat.reduceSub, Nat.reduceMul, Nat.reduceBEq, Nat.reduceLT, Nat.reduceLeDiff, Nat.reduceMod, Nat.reducePow, List.reduceReplicate, UInt8.reduceOfNat, Int.reducePow, Int.reduceDiv, Int.reduceMod, Nat.reduceDiv, Int.reduceNeg, Int.reduceAdd, Int.reduceSub, Int.reduceMul, Int.reduceLE, Int.reduceLT, Int.reduceEq, Int.reduceToNat, decide_true, decide_false, reduceCtorEq, ne_eq, not_false_eq_true, not_true_eq_false, and_true, true_and, and_self, or_true, true_or, or_false, false_or, or_self, eq_self, Option.isNone_some, Option.isNone_none, Nat.zero_add, Nat.add_zero, Nat.mul_one, Nat.one_mul, Nat.zero_mul, List.length_cons, List.length_nil, List.getElem?_cons_zero, List.getElem?_cons_succ, List.map_cons, List.map_nil, List.append_nil, -List.reduceReplicate, List.toList_toArray, hCl, hCa, Nat.sub_self]
  rename_i b1 x1 x2 x3
  refine Tri.loopU tok [0, 1, 2, 3, 4, 5, 6, 7, 13, 21, 25, 30, 42, 54] (by kernel_rfl) [1, 2, 3, 4] (fun q G' fr H' => ∃ (s : Nat) (v : Value) (l : List Int), s + q = d.label.length ∧ PLe G G' ∧ Sl G' (Value.int .i64) v l ∧ LvI d l ∧ (∀ i (h : i < d.label.length), i < s → d.label[i] ≠ 0 → (i : Int) ∈ l) ∧ H' = (b1, .cells C [] 27) :: H ∧ fr = [(1, .pointer (some ⟨b1, 0, none⟩)), (2, .slice none 0 0), (3, v), (4, .int .i64 (s : Nat))]) (d.label.length) ?_ ?_
  · exact Upd.go (H' := (b1, .cells C [] 27) :: H) (by intro fsum; first | exact Nat.le_refl _ | (simp only [List.map_append, List.map_cons, List.map_nil, List.sum_append, List.sum_cons, List.sum_nil, List.cons_append, List.nil_append]; omega)) (Upd.now ⟨0, _, [], by omega, PLe.refl _, ⟨some ⟨nb, 0, none⟩, 0, rfl, Row.nil _ _, Nat.le_refl _⟩, ⟨List.Pairwise.nil, (fun x hx => nomatch hx), (fun x hx => nomatch hx)⟩, (fun i h h2 => by omega), rfl, rfl⟩)
  · rintro q G1 fr H' hle hs1 ⟨s, v, l, hsq, hleG, hsl, hLv, hin, rfl, rfl⟩
    have hll := hLv.len
    have O1 := O.mono hleG
    have hsE := hs1
    try simp only [keys_cons, keys_app, keys_nil, Sep_cons, Sep_nil, NotIn_cons, NotIn_app, NotIn_nil, List.cons_append, List.nil_append, List.append_assoc, and_assoc, and_true, true_and] at hsE
    repeat (obtain ⟨hsx, hsE⟩ := hsE)
    by_cases hsn : s < d.label.length
    · by_cases hls : d.label[s] = 0
      · repeat' first
          | with_reducible refine Br.yes ?_
          | with_reducible refine Br.no ?_
          | with_reducible refine Br.dec (fun _ => ?_) (fun _ => ?_)
          | with_reducible refine Br.beqB (fun _ => ?_) (fun _ => ?_)
          | with_reducible refine Br.beqb (fun _ => ?_) (fun _ => ?_)
          | with_reducible refine Br.mk (fun _ => ?_) (fun _ => ?_)
          | with_reducible refine foundO.mk (fun _ _ => ?_) (fun _ => ?_)
          | with_reducible refine appV.zero ?_
          | with_reducible refine appV.own ?_
          | ((with_reducible refine NewB.mk fun nb hnb => ?_); have hnb1 := hnb.1.1; have hnb2 := hnb.1.2; try simp only [keys_cons, keys_app, keys_nil, NotIn_cons, NotIn_app, NotIn_nil, and_true] at hnb2)
          | ((with_reducible refine NewRow.mk fun nb nsp ncap hnb hncap => ?_); have hnb1 := hnb.1.1; have hnb2 := hnb.1.2; try simp only [keys_cons, keys_app, keys_nil, NotIn_cons, NotIn_app, NotIn_nil, and_true] at hnb2)
          | simp (dsimp := false) (implicitDefEqProofs := false) (disch := first | assumption | (simp only [List.mem_cons, List.mem_append, true_or, or_true, eq_self]; done) | omega | (with_reducible refine Row.adr (by assumption) ?_; simp only [List.length_map, List.length_take, List.length_drop]; omega) | (simp only [List.length_cons, List.length_nil, List.length_map, List.length_append, List.length_replicate, Nat.reduceAdd, true_and, and_true, and_self]; first | done | omega)) only [go_sem, ↓reduceIte, Nat.reduceEqDiff, Nat.reduceAdd, Nat.reduceSub, Nat.reduceMul, Nat.reduceBEq, Nat.reduceLT, Nat.reduceLeDiff, Nat.reduceMod, Nat.reducePow, List.reduceReplicate, UInt8.reduceOfNat, Int.reducePow, Int.reduceDiv, Int.reduceMod, Nat.reduceDiv, Int.reduceNeg, Int.reduceAdd, Int.reduceSub, Int.reduceMul, Int.reduceLE, Int.reduceLT, Int.reduceEq, Int.reduceToNat, decide_true, decide_false, reduceCtorEq, ne_eq, not_false_eq_true, not_true_eq_false, and_true, true_and, and_self, or_true, true_or, or_false, false_or, or_self, eq_self, Option.isNone_some, Option.isNone_none, Nat.zero_add, Nat.add_zero, Nat.mul_one, Nat.one_mul, Nat.zero_mul, List.length_cons, List.length_nil, List.getElem?_cons_zero, List.getElem?_cons_succ, List.map_cons, List.map_nil, List.append_nil, -List.reduceReplicate, hCl, hCx, Row.obj O1.rl, List.getElem_map, hls]
        exact Upd.now ⟨q - 1, by omega, s + 1, v, l, by omega, hleG, hsl, hLv, fun i h h2 h3 => by
          by_cases e : i = s
          · subst e; exact absurd hls h3
          · exact hin i h (by omega) h3, rfl, rfl⟩
      · repeat' first
          | with_reducible refine Br.yes ?_
          | with_reducible refine Br.no ?_
          | with_reducible refine Br.dec (fun _ => ?_) (fun _ => ?_)
          | with_reducible refine Br.beqB (fun _ => ?_) (fun _ => ?_)
          | with_reducible refine Br.beqb (fun _ => ?_) (fun _ => ?_)
          | with_reducible refine Br.mk (fun _ => ?_) (fun _ => ?_)
          | with_reducible refine foundO.mk (fun _ _ => ?_) (fun _ => ?_)
          | with_reducible refine appV.zero ?_
          | with_reducible refine appV.own ?_
          | ((with_reducible refine NewB.mk fun nb hnb => ?_); have hnb1 := hnb.1.1; have hnb2 := hnb.1.2; try simp only [keys_cons, keys_app, keys_nil, NotIn_cons, NotIn_app, NotIn_nil, and_true] at hnb2)
          | ((with_reducible refine NewRow.mk fun nb nsp ncap hnb hncap => ?_); have hnb1 := hnb.1.1; have hnb2 := hnb.1.2; try simp only [keys_cons, keys_app, keys_nil, NotIn_cons, NotIn_app, NotIn_nil, and_true] at hnb2)
          | simp (dsimp := false) (implicitDefEqProofs := false) (disch := first | assumption | (simp only [List.mem_cons, List.mem_append, true_or, or_true, eq_self]; done) | omega | (with_reducible refine Row.adr (by assumption) ?_; simp only [List.length_map, List.length_take, List.length_drop]; omega) | (simp only [List.length_cons, List.length_nil, List.length_map, List.length_append, List.length_replicate, Nat.reduceAdd, true_and, and_true, and_self]; first | done | omega)) only [go_sem, ↓reduceIte, Nat.reduceEqDiff, Nat.reduceAdd, Nat.reduceSub, Nat.reduceMul, Nat.reduceBEq, Nat.reduceLT, Nat.reduceLeDiff, Nat.reduceMod, Nat.reducePow, List.reduceReplicate, UInt8.reduceOfNat, Int.reducePow, Int.reduceDiv, Int.reduceMod, Nat.reduceDiv, Int.reduceNeg, Int.reduceAdd, Int.reduceSub, Int.reduceMul, Int.reduceLE, Int.reduceLT, Int.reduceEq, Int.reduceToNat, decide_true, decide_false, reduceCtorEq, ne_eq, not_false_eq_true, not_true_eq_false, and_true, true_and, and_self, or_true, true_or, or_false, false_or, or_self, eq_self, Option.isNone_some, Option.isNone_none, Nat.zero_add, Nat.add_zero, Nat.mul_one, Nat.one_mul, Nat.zero_mul, List.length_cons, List.length_nil, List.getElem?_cons_zero, List.getElem?_cons_succ, List.map_cons, List.map_nil, List.append_nil, -List.reduceReplicate, hCl, hCx, Row.obj O1.rl, List.getElem_map, hls]
        refine put_t (by omega) hsl fun G2 v2 hle2 hs2 hsl2 => ?_
        have hsE := hs2
        try simp only [keys_cons, keys_app, keys_nil, Sep_cons, Sep_nil, NotIn_cons, NotIn_app, NotIn_nil, List.cons_append, List.nil_append, List.append_assoc, and_assoc, and_true, true_and] at hsE
        repeat (obtain ⟨hsx, hsE⟩ := hsE)
        repeat' first
          | with_reducible refine Br.yes ?_
          | with_reducible refine Br.no ?_
          | with_reducible refine Br.dec (fun _ => ?_) (fun _ => ?_)
          | with_reducible refine Br.beqB (fun _ => ?_) (fun _ => ?_)
          | with_reducible refine Br.beqb (fun _ => ?_) (fun _ => ?_)
          | with_reducible refine Br.mk (fun _ => ?_) (fun _ => ?_)
          | with_reducible refine foundO.mk (fun _ _ => ?_) (fun _ => ?_)
          | with_reducible refine appV.zero ?_
          | with_reducible refine appV.own ?_
          | ((with_reducible refine NewB.mk fun nb hnb => ?_); have hnb1 := hnb.1.1; have hnb2 := hnb.1.2; try simp only [keys_cons, keys_app, keys_nil, NotIn_cons, NotIn_app, NotIn_nil, and_true] at hnb2)
          | ((with_reducible refine NewRow.mk fun nb nsp ncap hnb hncap => ?_); have hnb1 := hnb.1.1; have hnb2 := hnb.1.2; try simp only [keys_cons, keys_app, keys_nil, NotIn_cons, NotIn_app, NotIn_nil, and_true] at hnb2)
          | simp (dsimp := false) (implicitDefEqProofs := false) (disch := first | assumption | (simp only [List.mem_cons, List.mem_append, true_or, or_true, eq_self]; done) | omega | (with_reducible refine Row.adr (by assumption) ?_; simp only [List.length_map, List.length_take, List.length_drop]; omega) | (simp only [List.length_cons, List.length_nil, List.length_map, List.length_append, List.length_replicate, Nat.reduceAdd, true_and, and_true, and_self]; first | done | omega)) only [go_sem, ↓reduceIte, Nat.reduceEqDiff, Nat.reduceAdd, Nat.reduceSub, Nat.reduceMul, Nat.reduceBEq, Nat.reduceLT, Nat.reduceLeDiff, Nat.reduceMod, Nat.reducePow, List.reduceReplicate, UInt8.reduceOfNat, Int.reducePow, Int.reduceDiv, Int.reduceMod, Nat.reduceDiv, Int.reduceNeg, Int.reduceAdd, Int.reduceSub, Int.reduceMul, Int.reduceLE, Int.reduceLT, Int.reduceEq, Int.reduceToNat, decide_true, decide_false, reduceCtorEq, ne_eq, not_false_eq_true, not_true_eq_false, and_true, true_and, and_self, or_true, true_or, or_false, false_or, or_self, eq_self, Option.isNone_some, Option.isNone_none, Nat.zero_add, Nat.add_zero, Nat.mul_one, Nat.one_mul, Nat.zero_mul, List.length_cons, List.length_nil, List.getElem?_cons_zero, List.getElem?_cons_succ, List.map_cons, List.map_nil, List.append_nil, -List.reduceReplicate, hCl, hCx]
        exact Upd.now ⟨q - 1, by omega, s + 1, v2, _, by omega, hleG.trans hle2, hsl2, hLv.put (by omega) (LiveP.label hsn hls), fun i h h2 h3 => by
          by_cases e : i = s
          · subst e; exact mem_putL.2 (.inr rfl)
          · exact mem_putL.2 (.inl (hin i h (by omega) h3)), rfl, rfl⟩
    · obtain rfl : s = d.label.length := by omega
      repeat' first
        | with_reducible refine Br.yes ?_
        | with_reducible refine Br.no ?_
        | with_reducible refine Br.dec (fun _ => ?_) (fun _ => ?_)
        | with_reducible refine Br.beqB (fun _ => ?_) (fun _ => ?_)
        | with_reducible refine Br.beqb (fun _ => ?_) (fun _ => ?_)
        | with_reducible refine Br.mk (fun _ => ?_) (fun _ => ?_)
        | with_reducible refine foundO.mk (fun _ _ => ?_) (fun _ => ?_)
        | with_reducible refine appV.zero ?_
        | with_reducible refine appV.own ?_
        | ((with_reducible refine NewB.mk fun nb hnb => ?_); have hnb1 := hnb.1.1; have hnb2 := hnb.1.2; try simp only [keys_cons, keys_app, keys_nil, NotIn_cons, NotIn_app, NotIn_nil, and_true] at hnb2)
        | ((with_reducible refine NewRow.mk fun nb nsp ncap hnb hncap => ?_); have hnb1 := hnb.1.1; have hnb2 := hnb.1.2; try simp only [keys_cons, keys_app, keys_nil, NotIn_cons, NotIn_app, NotIn_nil, and_true] at hnb2)
        | simp (dsimp := false) (implicitDefEqProofs := false) (disch := first | assumption | (simp only [List.mem_cons, List.mem_append, true_or, or_true, eq_self]; done) | omega | (with_reducible refine Row.adr (by assumption) ?_; simp only [List.length_map, List.length_take, List.length_drop]; omega) | (simp only [List.length_cons, List.length_nil, List.length_map, List.length_append, List.length_replicate, Nat.reduceAdd, true_and, and_true, and_self]; first | done | omega)) only [go_sem, ↓reduceIte, Nat.reduceEqDiff, Nat.reduceAdd, Nat.reduceSub, Nat.reduceMul, Nat.reduceBEq, Nat.reduceLT, Nat.reduceLeDiff, Nat.reduceMod, Nat.reducePow, List.reduceReplicate, UInt8.reduceOfNat, Int.reducePow, Int.reduceDiv, Int.reduceMod, Nat.reduceDiv, Int.reduceNeg, Int.reduceAdd, Int.reduceSub, Int.reduceMul, Int.reduceLE, Int.reduceLT, Int.reduceEq, Int.reduceToNat, decide_true, decide_false, reduceCtorEq, ne_eq, not_false_eq_true, not_true_eq_false, and_true, true_and, and_self, or_true, true_or, or_false, false_or, or_self, eq_self, Option.isNone_some, Option.isNone_none, Nat.zero_add, Nat.add_zero, Nat.mul_one, Nat.one_mul, Nat.zero_mul, List.length_cons, List.length_nil, List.getElem?_cons_zero, List.getElem?_cons_succ, List.map_cons, List.map_nil, List.append_nil, -List.reduceReplicate, hCl, hCx]
      all_goals try (exfalso; omega)
      refine Tri.loopU tok [0, 1, 2, 3, 4, 5, 6, 7, 13, 21, 25, 30, 42, 54] (by kernel_rfl) [1, 2, 3, 5] (fun q G' fr H' => ∃ (more : Bool) (v : Value) (l : List Int), (if more then d.label.length + 1 ≤ q + l.length else True) ∧ PLe G G' ∧ Sl G' (Value.int .i64) v l ∧ LvI d l ∧ (∀ i (h : i < d.label.length), d.label[i] ≠ 0 → (i : Int) ∈ l) ∧ (more = false → ∀ i (h : i < d.next.length) t, t ∈ d.next[i] → t ∈ l → (i : Int) ∈ l) ∧ H' = (b1, .cells C [] 27) :: H ∧ fr = [(1, .pointer (some ⟨b1, 0, none⟩)), (2, .slice none 0 0), (3, v), (5, .bool more)]) ((d.label.length + 1)) ?_ ?_
      · refine Upd.now ?_
        exact ⟨true, v, l, by simp, hleG, hsl, hLv, fun i h h3 => hin i h h h3, (fun e => nomatch e), rfl, rfl⟩
      · rintro q G2 fr H' hle2 hs2 ⟨more, v, l, hmq, hleG2, hsl, hLv, hin2, hcl, rfl, rfl⟩
        have hsE := hs2
        try simp only [keys_cons, keys_app, keys_nil, Sep_cons, Sep_nil, NotIn_cons, NotIn_app, NotIn_nil, List.cons_append, List.nil_append, List.append_assoc, and_assoc, and_true, true_and] at hsE
        repeat (obtain ⟨hsx, hsE⟩ := hsE)
        cases more with
        | false =>
          have he := live_eq hok hLv.1 hLv.2.2 hin2 (hcl rfl)
          subst he
          repeat' first
            | with_reducible refine Br.yes ?_
            | with_reducible refine Br.no ?_
            | with_reducible refine Br.dec (fun _ => ?_) (fun _ => ?_)
            | with_reducible refine Br.beqB (fun _ => ?_) (fun _ => ?_)
            | with_reducible refine Br.beqb (fun _ => ?_) (fun _ => ?_)
            | with_reducible refine Br.mk (fun _ => ?_) (fun _ => ?_)
            | with_reducible refine foundO.mk (fun _ _ => ?_) (fun _ => ?_)
            | with_reducible refine appV.zero ?_
            | with_reducible refine appV.own ?_
            | ((with_reducible refine NewB.mk fun nb hnb => ?_); have hnb1 := hnb.1.1; have hnb2 := hnb.1.2; try simp only [keys_cons, keys_app, keys_nil, NotIn_cons, NotIn_app, NotIn_nil, and_true] at hnb2)
            | ((with_reducible refine NewRow.mk fun nb nsp ncap hnb hncap => ?_); have hnb1 := hnb.1.1; have hnb2 := hnb.1.2; try simp only [keys_cons, keys_app, keys_nil, NotIn_cons, NotIn_app, NotIn_nil, and_true] at hnb2)
            | simp (dsimp := false) (implicitDefEqProofs := false) (disch := first | assumption | (simp only [List.mem_cons, List.mem_append, true_or, or_true, eq_self]; done) | omega | (with_reducible refine Row.adr (by assumption) ?_; simp only [List.length_map, List.length_take, List.length_drop]; omega) | (simp only [List.length_cons, List.length_nil, List.length_map, List.length_append, List.length_replicate, Nat.reduceAdd, true_and, and_true, and_self]; first | done | omega)) only [go_sem, ↓reduceIte, Nat.reduceEqDiff, Nat.reduceAdd, Nat.reduceSub, Nat.reduceMul, Nat.reduceBEq, Nat.reduceLT, Nat.reduceLeDiff, Nat.reduceMod, Nat.reducePow, List.reduceReplicate, UInt8.reduceOfNat, Int.reducePow, Int.reduceDiv, Int.reduceMod, Nat.reduceDiv, Int.reduceNeg, Int.reduceAdd, Int.reduceSub, Int.reduceMul, Int.reduceLE, Int.reduceLT, Int.reduceEq, Int.reduceToNat, decide_true, decide_false, reduceCtorEq, ne_eq, not_false_eq_true, not_true_eq_false, and_true, true_and, and_self, or_true, true_or, or_false, false_or, or_self, eq_self, Option.isNone_some, Option.isNone_none, Nat.zero_add, Nat.add_zero, Nat.mul_one, Nat.one_mul, Nat.zero_mul, List.length_cons, List.length_nil, List.getElem?_cons_zero, List.getElem?_cons_succ, List.map_cons, List.map_nil, List.append_nil]
          unfold UpdR
          refine Upd.leave (H' := H) (by intro fsum; first | exact Nat.le_refl _ | (simp only [List.map_append, List.map_cons, List.map_nil, List.sum_append, List.sum_cons, List.sum_nil, List.cons_append, List.nil_append]; omega)) ?_
          exact fun hle hs => hR G2 _ hleG2 hs hsl
        | true =>
          simp only [if_true] at hmq
          have hll2 := hLv.len
          repeat' first
            | with_reducible refine Br.yes ?_
            | with_reducible refine Br.no ?_
            | with_reducible refine Br.dec (fun _ => ?_) (fun _ => ?_)
            | with_reducible refine Br.beqB (fun _ => ?_) (fun _ => ?_)
            | with_reducible refine Br.beqb (fun _ => ?_) (fun _ => ?_)
            | with_reducible refine Br.mk (fun _ => ?_) (fun _ => ?_)
            | with_reducible refine foundO.mk (fun _ _ => ?_) (fun _ => ?_)
            | with_reducible refine appV.zero ?_
            | with_reducible refine appV.own ?_
            | ((with_reducible refine NewB.mk fun nb hnb => ?_); have hnb1 := hnb.1.1; have hnb2 := hnb.1.2; try simp only [keys_cons, keys_app, keys_nil, NotIn_cons, NotIn_app, NotIn_nil, and_true] at hnb2)
            | ((with_reducible refine NewRow.mk fun nb nsp ncap hnb hncap => ?_); have hnb1 := hnb.1.1; have hnb2 := hnb.1.2; try simp only [keys_cons, keys_app, keys_nil, NotIn_cons, NotIn_app, NotIn_nil, and_true] at hnb2)
            | simp (dsimp := false) (implicitDefEqProofs := false) (disch := first | assumption | (simp only [List.mem_cons, List.mem_append, true_or, or_true, eq_self]; done) | omega | (with_reducible refine Row.adr (by assumption) ?_; simp only [List.length_map, List.length_take, List.length_drop]; omega) | (simp only [List.length_cons, List.length_nil, List.length_map, List.length_append, List.length_replicate, Nat.reduceAdd, true_and, and_true, and_self]; first | done | omega)) only [go_sem, ↓reduceIte, Nat.reduceEqDiff, Nat.reduceAdd, Nat.reduceSub, Nat.reduceMul, Nat.reduceBEq, Nat.reduceLT, Nat.reduceLeDiff, Nat.reduceMod, Nat.reducePow, List.reduceReplicate, UInt8.reduceOfNat, Int.reducePow, Int.reduceDiv, Int.reduceMod, Nat.reduceDiv, Int.reduceNeg, Int.reduceAdd, Int.reduceSub, Int.reduceMul, Int.reduceLE, Int.reduceLT, Int.reduceEq, Int.reduceToNat, decide_true, decide_false, reduceCtorEq, ne_eq, not_false_eq_true, not_true_eq_false, and_true, true_and, and_self, or_true, true_or, or_false, false_or, or_self, eq_self, Option.isNone_some, Option.isNone_none, Nat.zero_add, Nat.add_zero, Nat.mul_one, Nat.one_mul, Nat.zero_mul, List.length_cons, List.length_nil, List.getElem?_cons_zero, List.getElem?_cons_succ, List.map_cons, List.map_nil, List.append_nil]
          refine Tri.loopU tok [0, 1, 2, 3, 4, 5, 6, 7, 13, 21, 25, 30, 42, 54] (by kernel_rfl) [1, 2, 3, 5, 6] (fun q' G' fr H' => ∃ (s : Nat) (v' : Value) (l' : List Int) (more' : Bool), s + q' = d.label.length ∧ PLe G G' ∧ Sl G' (Value.int .i64) v' l' ∧ LvI d l' ∧ (∀ x ∈ l, x ∈ l') ∧ (more' = true → l.length < l'.length) ∧ (more' = false → l' = l ∧ ∀ i (h : i < d.next.length), i < s → ∀ t, t ∈ d.next[i] → t ∈ l → (i : Int) ∈ l) ∧ H' = (b1, .cells C [] 27) :: H ∧ fr = [(1, .pointer (some ⟨b1, 0, none⟩)), (2, .slice none 0 0), (3, v'), (5, .bool more'), (6, .int .i64 (s : Nat))]) (d.label.length) ?_ ?_
          · refine Upd.now ?_
            exact ⟨0, v, l, false, by omega, hleG2, hsl, hLv, fun x hx => hx, (fun e => nomatch e), fun _ => ⟨rfl, fun i h h2 => by omega⟩, rfl, rfl⟩
          · rintro q' G3 fr H' hle3 hs3 ⟨s, v', l', more', hsq', hleG3, hsl', hLv', hsub, hm1, hm2, rfl, rfl⟩
            have O3 := O.mono hleG3
            have hsE := hs3
            try simp only [keys_cons, keys_app, keys_nil, Sep_cons, Sep_nil, NotIn_cons, NotIn_app, NotIn_nil, List.cons_append, List.nil_append, List.append_assoc, and_assoc, and_true, true_and] at hsE
            repeat (obtain ⟨hsx, hsE⟩ := hsE)
            by_cases hsn : s < d.label.length
            · obtain ⟨br, cr, e1, e2, e3⟩ := O3.rs s (by omega) (by omega)
              obtain ⟨hw1, hw2, hw3, hw4⟩ := hk7 s (by omega) hsn
              have hll' := hLv'.len
              repeat' first
                | with_reducible refine Br.yes ?_
                | with_reducible refine Br.no ?_
                | with_reducible refine Br.dec (fun _ => ?_) (fun _ => ?_)
                | with_reducible refine Br.beqB (fun _ => ?_) (fun _ => ?_)
                | with_reducible refine Br.beqb (fun _ => ?_) (fun _ => ?_)
                | with_reducible refine Br.mk (fun _ => ?_) (fun _ => ?_)
                | with_reducible refine foundO.mk (fun _ _ => ?_) (fun _ => ?_)
                | with_reducible refine appV.zero ?_
                | with_reducible refine appV.own ?_
                | ((with_reducible refine NewB.mk fun nb hnb => ?_); have hnb1 := hnb.1.1; have hnb2 := hnb.1.2; try simp only [keys_cons, keys_app, keys_nil, NotIn_cons, NotIn_app, NotIn_nil, and_true] at hnb2)
                | ((with_reducible refine NewRow.mk fun nb nsp ncap hnb hncap => ?_); have hnb1 := hnb.1.1; have hnb2 := hnb.1.2; try simp only [keys_cons, keys_app, keys_nil, NotIn_cons, NotIn_app, NotIn_nil, and_true] at hnb2)
                | simp (dsimp := false) (implicitDefEqProofs := false) (disch := first | assumption | (simp only [List.mem_cons, List.mem_append, true_or, or_true, eq_self]; done) | omega | (with_reducible refine Row.adr (by assumption) ?_; simp only [List.length_map, List.length_take, List.length_drop]; omega) | (simp only [List.length_cons, List.length_nil, List.length_map, List.length_append, List.length_replicate, Nat.reduceAdd, true_and, and_true, and_self]; first | done | omega)) only [go_sem, ↓reduceIte, Nat.reduceEqDiff, Nat.reduceAdd, Nat.reduceSub, Nat.reduceMul, Nat.reduceBEq, Nat.reduceLT, Nat.reduceLeDiff, Nat.reduceMod, Nat.reducePow, List.reduceReplicate, UInt8.reduceOfNat, Int.reducePow, Int.reduceDiv, Int.reduceMod, Nat.reduceDiv, Int.reduceNeg, Int.reduceAdd, Int.reduceSub, Int.reduceMul, Int.reduceLE, Int.reduceLT, Int.reduceEq, Int.reduceToNat, decide_true, decide_false, reduceCtorEq, ne_eq, not_false_eq_true, not_true_eq_false, and_true, true_and, and_self, or_true, true_or, or_false, false_or, or_self, eq_self, Option.isNone_some, Option.isNone_none, Nat.zero_add, Nat.add_zero, Nat.mul_one, Nat.one_mul, Nat.zero_mul, List.length_cons, List.length_nil, List.getElem?_cons_zero, List.getElem?_cons_succ, List.map_cons, List.map_nil, List.append_nil, -List.reduceReplicate, hCl, hCx]
              all_goals try (exfalso; omega)
              refine Tri.loopU tok [0, 1, 2, 3, 4, 5, 6, 7, 13, 21, 25, 30, 42, 54] (by kernel_rfl) [1, 2, 3, 5, 6, 7] (fun q2 G' fr H' => ∃ (k : Nat) (v2 : Value) (l2 : List Int) (more2 : Bool), k + q2 = W ∧ PLe G G' ∧ Sl G' (Value.int .i64) v2 l2 ∧ LvI d l2 ∧ ((l2 = l' ∧ more2 = more' ∧ ∀ j (h : j < (d.next[s]'(by omega)).length), j < k → (d.next[s]'(by omega))[j] ∉ l') ∨ (l2 = putL l' s ∧ (s : Int) ∉ l' ∧ more2 = true)) ∧ H' = (b1, .cells C [] 27) :: H ∧ fr = [(1, .pointer (some ⟨b1, 0, none⟩)), (2, .slice none 0 0), (3, v2), (5, .bool more2), (6, .int .i64 (s : Nat)), (7, .int .i64 (k : Nat))]) (W) ?_ ?_
              · refine Upd.now ?_
                exact ⟨0, v', l', more', by omega, hleG3, hsl', hLv', .inl ⟨rfl, rfl, fun j h h2 => by omega⟩, rfl, rfl⟩
              · rintro q2 G4 fr H' hle4 hs4 ⟨k, v2, l2, more2, hkq, hleG4, hsl2, hLv2, hAB, rfl, rfl⟩
                have O4 := O.mono hleG4
                have hll2' := hLv2.len
                have hsE := hs4
                try simp only [keys_cons, keys_app, keys_nil, Sep_cons, Sep_nil, NotIn_cons, NotIn_app, NotIn_nil, List.cons_append, List.nil_append, List.append_assoc, and_assoc, and_true, true_and] at hsE
                repeat (obtain ⟨hsx, hsE⟩ := hsE)
                have fin : ((s : Int) ∈ l2 ∨ k = W) → ∃ (l3 : List Int) (more3 : Bool), l3 = l2 ∧ more3 = more2 ∧ (∀ x ∈ l, x ∈ l3) ∧ (more3 = true → l.length < l3.length) ∧ (more3 = false → l3 = l ∧ ∀ i (h : i < d.next.length), i < s + 1 → ∀ t, t ∈ d.next[i] → t ∈ l → (i : Int) ∈ l) := by
                  intro hend
                  refine ⟨l2, more2, rfl, rfl, ?_⟩
                  rcases hAB with ⟨rfl, rfl, hA⟩ | ⟨rfl, hB1, rfl⟩
                  · refine ⟨hsub, hm1, fun e => ?_⟩
                    obtain ⟨g1, g2⟩ := hm2 e
                    refine ⟨g1, fun i h hi t ht htl => ?_⟩
                    by_cases e2 : i = s
                    · subst e2
                      rcases hend with hend | hend
                      · rw [g1] at hend; exact hend
                      · obtain ⟨j, hj, rfl⟩ := List.getElem_of_mem ht
                        exact absurd (g1 ▸ htl) (hA j hj (by omega))
                    · exact g2 i h (by omega) t ht htl
                  · refine ⟨fun x hx => mem_putL.2 (.inl (hsub x hx)), fun _ => ?_, (fun e => nomatch e)⟩
                    rw [putL_new hB1]
                    cases more' with
                    | true => have := hm1 rfl; omega
                    | false => have := (hm2 rfl).1; rw [this]; omega
                by_cases hk : k < W
                · have hkr : k < (d.next[s]'(by omega)).length := by omega
                  have had2 : Adr br := e2.adr (by rw [List.length_map]; omega)
                  by_cases hin : (s : Int) ∈ l2
                  · repeat' first
                      | with_reducible refine Br.yes ?_
                      | with_reducible refine Br.no ?_
                      | with_reducible refine Br.dec (fun _ => ?_) (fun _ => ?_)
                      | with_reducible refine Br.beqB (fun _ => ?_) (fun _ => ?_)
                      | with_reducible refine Br.beqb (fun _ => ?_) (fun _ => ?_)
                      | with_reducible refine Br.mk (fun _ => ?_) (fun _ => ?_)
                      | with_reducible refine foundO.mk (fun _ _ => ?_) (fun _ => ?_)
                      | with_reducible refine appV.zero ?_
                      | with_reducible refine appV.own ?_
                      | ((with_reducible refine NewB.mk fun nb hnb => ?_); have hnb1 := hnb.1.1; have hnb2 := hnb.1.2; try simp only [keys_cons, keys_app, keys_nil, NotIn_cons, NotIn_app, NotIn_nil, and_true] at hnb2)
                      | ((with_reducible refine NewRow.mk fun nb nsp ncap hnb hncap => ?_); have hnb1 := hnb.1.1; have hnb2 := hnb.1.2; try simp only [keys_cons, keys_app, keys_nil, NotIn_cons, NotIn_app, NotIn_nil, and_true] at hnb2)
                      | simp (dsimp := false) (implicitDefEqProofs := false) (disch := first | assumption | (simp only [List.mem_cons, List.mem_append, true_or, or_true, eq_self]; done) | omega | (with_reducible refine Row.adr (by assumption) ?_; simp only [List.length_map, List.length_take, List.length_drop]; omega) | (simp only [List.length_cons, List.length_nil, List.length_map, List.length_append, List.length_replicate, Nat.reduceAdd, true_and, and_true, and_self]; first | done | omega)) only [go_sem, ↓reduceIte, Nat.reduceEqDiff, Nat.reduceAdd, Nat.reduceSub, Nat.reduceMul, Nat.reduceBEq, Nat.reduceLT, Nat.reduceLeDiff, Nat.reduceMod, Nat.reducePow, List.reduceReplicate, UInt8.reduceOfNat, Int.reducePow, Int.reduceDiv, Int.reduceMod, Nat.reduceDiv, Int.reduceNeg, Int.reduceAdd, Int.reduceSub, Int.reduceMul, Int.reduceLE, Int.reduceLT, Int.reduceEq, Int.reduceToNat, decide_true, decide_false, reduceCtorEq, ne_eq, not_false_eq_true, not_true_eq_false, and_true, true_and, and_self, or_true, true_or, or_false, false_or, or_self, eq_self, Option.isNone_some, Option.isNone_none, Nat.zero_add, Nat.add_zero, Nat.mul_one, Nat.one_mul, Nat.zero_mul, List.length_cons, List.length_nil, List.getElem?_cons_zero, List.getElem?_cons_succ, List.map_cons, List.map_nil, List.append_nil, -List.reduceReplicate, hCl, hCw, hWd]
                      | with_reducible refine has_t (l := l2) (by omega) hsl2 ?_
                    all_goals try (exfalso; omega)
                    obtain ⟨l3, more3, rfl, rfl, f1, f2, f3⟩ := fin (.inl hin)
                    exact Upd.now ⟨q' - 1, by omega, s + 1, v2, l3, more3, by omega, hleG4, hsl2, hLv2, f1, f2, f3, rfl, rfl⟩
                  · have hA : l2 = l' ∧ more2 = more' ∧ ∀ j (h : j < (d.next[s]'(by omega)).length), j < k → (d.next[s]'(by omega))[j] ∉ l' := by
                      rcases hAB with h | ⟨rfl, hB1, rfl⟩
                      · exact h
                      · exact absurd (mem_putL.2 (.inr rfl)) hin
                    have e24 := e2.mono hle4
                    by_cases hnx : (d.next[s]'(by omega))[k] ∈ l2
                    · repeat' first
                        | with_reducible refine Br.yes ?_
                        | with_reducible refine Br.no ?_
                        | with_reducible refine Br.dec (fun _ => ?_) (fun _ => ?_)
                        | with_reducible refine Br.beqB (fun _ => ?_) (fun _ => ?_)
                        | with_reducible refine Br.beqb (fun _ => ?_) (fun _ => ?_)
                        | with_reducible refine Br.mk (fun _ => ?_) (fun _ => ?_)
                        | with_reducible refine foundO.mk (fun _ _ => ?_) (fun _ => ?_)
                        | with_reducible refine appV.zero ?_
                        | with_reducible refine appV.own ?_
                        | ((with_reducible refine NewB.mk fun nb hnb => ?_); have hnb1 := hnb.1.1; have hnb2 := hnb.1.2; try simp only [keys_cons, keys_app, keys_nil, NotIn_cons, NotIn_app, NotIn_nil, and_true] at hnb2)
                        | ((with_reducible refine NewRow.mk fun nb nsp ncap hnb hncap => ?_); have hnb1 := hnb.1.1; have hnb2 := hnb.1.2; try simp only [keys_cons, keys_app, keys_nil, NotIn_cons, NotIn_app, NotIn_nil, and_true] at hnb2)
                        | simp (dsimp := false) (implicitDefEqProofs := false) (disch := first | assumption | (simp only [List.mem_cons, List.mem_append, true_or, or_true, eq_self]; done) | omega | (with_reducible refine Row.adr (by assumption) ?_; simp only [List.length_map, List.length_take, List.length_drop]; omega) | (simp only [List.length_cons, List.length_nil, List.length_map, List.length_append, List.length_replicate, Nat.reduceAdd, true_and, and_true, and_self]; first | done | omega)) only [go_sem, ↓reduceIte, Nat.reduceEqDiff, Nat.reduceAdd, Nat.reduceSub, Nat.reduceMul, Nat.reduceBEq, Nat.reduceLT, Nat.reduceLeDiff, Nat.reduceMod, Nat.reducePow, List.reduceReplicate, UInt8.reduceOfNat, Int.reducePow, Int.reduceDiv, Int.reduceMod, Nat.reduceDiv, Int.reduceNeg, Int.reduceAdd, Int.reduceSub, Int.reduceMul, Int.reduceLE, Int.reduceLT, Int.reduceEq, Int.reduceToNat, decide_true, decide_false, reduceCtorEq, ne_eq, not_false_eq_true, not_true_eq_false, and_true, true_and, and_self, or_true, true_or, or_false, false_or, or_self, eq_self, Option.isNone_some, Option.isNone_none, Nat.zero_add, Nat.add_zero, Nat.mul_one, Nat.one_mul, Nat.zero_mul, List.length_cons, List.length_nil, List.getElem?_cons_zero, List.getElem?_cons_succ, List.map_cons, List.map_nil, List.append_nil, -List.reduceReplicate, hCl, hCw, hWd, hCn, Row.obj O4.rn, e1, Row.obj e24, List.getElem_map, decide_eq_false hin, decide_eq_true hnx]
                        | with_reducible refine has_t (l := l2) (by omega) hsl2 ?_
                      all_goals try (exfalso; omega)
                      refine put_t (by omega) hsl2 fun G5 v5 hle5 hs5 hsl5 => ?_
                      have hsE := hs5
                      try simp only [keys_cons, keys_app, keys_nil, Sep_cons, Sep_nil, NotIn_cons, NotIn_app, NotIn_nil, List.cons_append, List.nil_append, List.append_assoc, and_assoc, and_true, true_and] at hsE
                      repeat (obtain ⟨hsx, hsE⟩ := hsE)
                      repeat' first
                        | with_reducible refine Br.yes ?_
                        | with_reducible refine Br.no ?_
                        | with_reducible refine Br.dec (fun _ => ?_) (fun _ => ?_)
                        | with_reducible refine Br.beqB (fun _ => ?_) (fun _ => ?_)
                        | with_reducible refine Br.beqb (fun _ => ?_) (fun _ => ?_)
                        | with_reducible refine Br.mk (fun _ => ?_) (fun _ => ?_)
                        | with_reducible refine foundO.mk (fun _ _ => ?_) (fun _ => ?_)
                        | with_reducible refine appV.zero ?_
                        | with_reducible refine appV.own ?_
                        | ((with_reducible refine NewB.mk fun nb hnb => ?_); have hnb1 := hnb.1.1; have hnb2 := hnb.1.2; try simp only [keys_cons, keys_app, keys_nil, NotIn_cons, NotIn_app, NotIn_nil, and_true] at hnb2)
                        | ((with_reducible refine NewRow.mk fun nb nsp ncap hnb hncap => ?_); have hnb1 := hnb.1.1; have hnb2 := hnb.1.2; try simp only [keys_cons, keys_app, keys_nil, NotIn_cons, NotIn_app, NotIn_nil, and_true] at hnb2)
                        | simp (dsimp := false) (implicitDefEqProofs := false) (disch := first | assumption | (simp only [List.mem_cons, List.mem_append, true_or, or_true, eq_self]; done) | omega | (with_reducible refine Row.adr (by assumption) ?_; simp only [List.length_map, List.length_take, List.length_drop]; omega) | (simp only [List.length_cons, List.length_nil, List.length_map, List.length_append, List.length_replicate, Nat.reduceAdd, true_and, and_true, and_self]; first | done | omega)) only [go_sem, ↓reduceIte, Nat.reduceEqDiff, Nat.reduceAdd, Nat.reduceSub, Nat.reduceMul, Nat.reduceBEq, Nat.reduceLT, Nat.reduceLeDiff, Nat.reduceMod, Nat.reducePow, List.reduceReplicate, UInt8.reduceOfNat, Int.reducePow, Int.reduceDiv, Int.reduceMod, Nat.reduceDiv, Int.reduceNeg, Int.reduceAdd, Int.reduceSub, Int.reduceMul, Int.reduceLE, Int.reduceLT, Int.reduceEq, Int.reduceToNat, decide_true, decide_false, reduceCtorEq, ne_eq, not_false_eq_true, not_true_eq_false, and_true, true_and, and_self, or_true, true_or, or_false, false_or, or_self, eq_self, Option.isNone_some, Option.isNone_none, Nat.zero_add, Nat.add_zero, Nat.mul_one, Nat.one_mul, Nat.zero_mul, List.length_cons, List.length_nil, List.getElem?_cons_zero, List.getElem?_cons_succ, List.map_cons, List.map_nil, List.append_nil, -List.reduceReplicate, hCl, hCx]
                      obtain ⟨rfl, rfl, hA3⟩ := hA
                      exact Upd.now ⟨q2 - 1, by omega, k + 1, v5, _, true, by omega, hleG4.trans hle5, hsl5, hLv2.put (by omega) (LiveP.next (by omega) (List.getElem_mem hkr) (hLv2.2.2 _ hnx)), .inr ⟨rfl, hin, rfl⟩, rfl, rfl⟩
                    · repeat' first
                        | with_reducible refine Br.yes ?_
                        | with_reducible refine Br.no ?_
                        | with_reducible refine Br.dec (fun _ => ?_) (fun _ => ?_)
                        | with_reducible refine Br.beqB (fun _ => ?_) (fun _ => ?_)
                        | with_reducible refine Br.beqb (fun _ => ?_) (fun _ => ?_)
                        | with_reducible refine Br.mk (fun _ => ?_) (fun _ => ?_)
                        | with_reducible refine foundO.mk (fun _ _ => ?_) (fun _ => ?_)
                        | with_reducible refine appV.zero ?_
                        | with_reducible refine appV.own ?_
                        | ((with_reducible refine NewB.mk fun nb hnb => ?_); have hnb1 := hnb.1.1; have hnb2 := hnb.1.2; try simp only [keys_cons, keys_app, keys_nil, NotIn_cons, NotIn_app, NotIn_nil, and_true] at hnb2)
                        | ((with_reducible refine NewRow.mk fun nb nsp ncap hnb hncap => ?_); have hnb1 := hnb.1.1; have hnb2 := hnb.1.2; try simp only [keys_cons, keys_app, keys_nil, NotIn_cons, NotIn_app, NotIn_nil, and_true] at hnb2)
                        | simp (dsimp := false) (implicitDefEqProofs := false) (disch := first | assumption | (simp only [List.mem_cons, List.mem_append, true_or, or_true, eq_self]; done) | omega | (with_reducible refine Row.adr (by assumption) ?_; simp only [List.length_map, List.length_take, List.length_drop]; omega) | (simp only [List.length_cons, List.length_nil, List.length_map, List.length_append, List.length_replicate, Nat.reduceAdd, true_and, and_true, and_self]; first | done | omega)) only [go_sem, ↓reduceIte, Nat.reduceEqDiff, Nat.reduceAdd, Nat.reduceSub, Nat.reduceMul, Nat.reduceBEq, Nat.reduceLT, Nat.reduceLeDiff, Nat.reduceMod, Nat.reducePow, List.reduceReplicate, UInt8.reduceOfNat, Int.reducePow, Int.reduceDiv, Int.reduceMod, Nat.reduceDiv, Int.reduceNeg, Int.reduceAdd, Int.reduceSub, Int.reduceMul, Int.reduceLE, Int.reduceLT, Int.reduceEq, Int.reduceToNat, decide_true, decide_false, reduceCtorEq, ne_eq, not_false_eq_true, not_true_eq_false, and_true, true_and, and_self, or_true, true_or, or_false, false_or, or_self, eq_self, Option.isNone_some, Option.isNone_none, Nat.zero_add, Nat.add_zero, Nat.mul_one, Nat.one_mul, Nat.zero_mul, List.length_cons, List.length_nil, List.getElem?_cons_zero, List.getElem?_cons_succ, List.map_cons, List.map_nil, List.append_nil, -List.reduceReplicate, hCl, hCw, hWd, hCn, Row.obj O4.rn, e1, Row.obj e24, List.getElem_map, decide_eq_false hin, decide_eq_false hnx]
                        | with_reducible refine has_t (l := l2) (by omega) hsl2 ?_
                      all_goals try (exfalso; omega)
                      obtain ⟨rfl, rfl, hA3⟩ := hA
                      exact Upd.now ⟨q2 - 1, by omega, k + 1, v2, l2, more2, by omega, hleG4, hsl2, hLv2, .inl ⟨rfl, rfl, fun j h hj => by
                        by_cases e : j = k
                        · subst e; exact hnx
                        · exact hA3 j h (by omega)⟩, rfl, rfl⟩
                · obtain rfl : k = W := by omega
                  repeat' first
                    | with_reducible refine Br.yes ?_
                    | with_reducible refine Br.no ?_
                    | with_reducible refine Br.dec (fun _ => ?_) (fun _ => ?_)
                    | with_reducible refine Br.beqB (fun _ => ?_) (fun _ => ?_)
                    | with_reducible refine Br.beqb (fun _ => ?_) (fun _ => ?_)
                    | with_reducible refine Br.mk (fun _ => ?_) (fun _ => ?_)
                    | with_reducible refine foundO.mk (fun _ _ => ?_) (fun _ => ?_)
                    | with_reducible refine appV.zero ?_
                    | with_reducible refine appV.own ?_
                    | ((with_reducible refine NewB.mk fun nb hnb => ?_); have hnb1 := hnb.1.1; have hnb2 := hnb.1.2; try simp only [keys_cons, keys_app, keys_nil, NotIn_cons, NotIn_app, NotIn_nil, and_true] at hnb2)
                    | ((with_reducible refine NewRow.mk fun nb nsp ncap hnb hncap => ?_); have hnb1 := hnb.1.1; have hnb2 := hnb.1.2; try simp only [keys_cons, keys_app, keys_nil, NotIn_cons, NotIn_app, NotIn_nil, and_true] at hnb2)
                    | simp (dsimp := false) (implicitDefEqProofs := false) (disch := first | assumption | (simp only [List.mem_cons, List.mem_append, true_or, or_true, eq_self]; done) | omega | (with_reducible refine Row.adr (by assumption) ?_; simp only [List.length_map, List.length_take, List.length_drop]; omega) | (simp only [List.length_cons, List.length_nil, List.length_map, List.length_append, List.length_replicate, Nat.reduceAdd, true_and, and_true, and_self]; first | done | omega)) only [go_sem, ↓reduceIte, Nat.reduceEqDiff, Nat.reduceAdd, Nat.reduceSub, Nat.reduceMul, Nat.reduceBEq, Nat.reduceLT, Nat.reduceLeDiff, Nat.reduceMod, Nat.reducePow, List.reduceReplicate, UInt8.reduceOfNat, Int.reducePow, Int.reduceDiv, Int.reduceMod, Nat.reduceDiv, Int.reduceNeg, Int.reduceAdd, Int.reduceSub, Int.reduceMul, Int.reduceLE, Int.reduceLT, Int.reduceEq, Int.reduceToNat, decide_true, decide_false, reduceCtorEq, ne_eq, not_false_eq_true, not_true_eq_false, and_true, true_and, and_self, or_true, true_or, or_false, false_or, or_self, eq_self, Option.isNone_some, Option.isNone_none, Nat.zero_add, Nat.add_zero, Nat.mul_one, Nat.one_mul, Nat.zero_mul, List.length_cons, List.length_nil, List.getElem?_cons_zero, List.getElem?_cons_succ, List.map_cons, List.map_nil, List.append_nil, -List.reduceReplicate, hCl, hCw, hWd]
                  all_goals try (exfalso; omega)
                  obtain ⟨l3, more3, rfl, rfl, f1, f2, f3⟩ := fin (.inr rfl)
                  exact Upd.now ⟨q' - 1, by omega, s + 1, v2, l3, more3, by omega, hleG4, hsl2, hLv2, f1, f2, f3, rfl, rfl⟩
            · obtain rfl : s = d.label.length := by omega
              repeat' first
                | with_reducible refine Br.yes ?_
                | with_reducible refine Br.no ?_
                | with_reducible refine Br.dec (fun _ => ?_) (fun _ => ?_)
                | with_reducible refine Br.beqB (fun _ => ?_) (fun _ => ?_)
                | with_reducible refine Br.beqb (fun _ => ?_) (fun _ => ?_)
                | with_reducible refine Br.mk (fun _ => ?_) (fun _ => ?_)
                | with_reducible refine foundO.mk (fun _ _ => ?_) (fun _ => ?_)
                | with_reducible refine appV.zero ?_
                | with_reducible refine appV.own ?_
                | ((with_reducible refine NewB.mk fun nb hnb => ?_); have hnb1 := hnb.1.1; have hnb2 := hnb.1.2; try simp only [keys_cons, keys_app, keys_nil, NotIn_cons, NotIn_app, NotIn_nil, and_true] at hnb2)
                | ((with_reducible refine NewRow.mk fun nb nsp ncap hnb hncap => ?_); have hnb1 := hnb.1.1; have hnb2 := hnb.1.2; try simp only [keys_cons, keys_app, keys_nil, NotIn_cons, NotIn_app, NotIn_nil, and_true] at hnb2)
                | simp (dsimp := false) (implicitDefEqProofs := false) (disch := first | assumption | (simp only [List.mem_cons, List.mem_append, true_or, or_true, eq_self]; done) | omega | (with_reducible refine Row.adr (by assumption) ?_; simp only [List.length_map, List.length_take, List.length_drop]; omega) | (simp only [List.length_cons, List.length_nil, List.length_map, List.length_append, List.length_replicate, Nat.reduceAdd, true_and, and_true, and_self]; first | done | omega)) only [go_sem, ↓reduceIte, Nat.reduceEqDiff, Nat.reduceAdd, Nat.reduceSub, Nat.reduceMul, Nat.reduceBEq, Nat.reduceLT, Nat.reduceLeDiff, Nat.reduceMod, Nat.reducePow, List.reduceReplicate, UInt8.reduceOfNat, Int.reducePow, Int.reduceDiv, Int.reduceMod, Nat.reduceDiv, Int.reduceNeg, Int.reduceAdd, Int.reduceSub, Int.reduceMul, Int.reduceLE, Int.reduceLT, Int.reduceEq, Int.reduceToNat, decide_true, decide_false, reduceCtorEq, ne_eq, not_false_eq_true, not_true_eq_false, and_true, true_and, and_self, or_true, true_or, or_false, false_or, or_self, eq_self, Option.isNone_some, Option.isNone_none, Nat.zero_add, Nat.add_zero, Nat.mul_one, Nat.one_mul, Nat.zero_mul, List.length_cons, List.length_nil, List.getElem?_cons_zero, List.getElem?_cons_succ, List.map_cons, List.map_nil, List.append_nil, -List.reduceReplicate, hCl, hCx]
              all_goals try (exfalso; omega)
              have hll3 := hLv'.len
              refine Upd.now ⟨q - 1, by omega, more', v', l', ?_, hleG3, hsl', hLv', fun i h h3 => hsub _ (hin2 i h h3), fun e i h t ht htl => ?_, rfl, rfl⟩
              · cases more' with
                | false => simp
                | true =>
                  have := hm1 rfl
                  simp only [if_true]
                  omega
              · obtain ⟨g1, g2⟩ := hm2 e
                rw [g1] at htl ⊢
                exact g2 i h (by omega) t ht htl
end Go.Proofs.Ytlblohmjikopbaa
