/- Sets of bits: the document's functions, of sets. -/
import Derived.Test.YtagojpdkikcmpaaDoorFl
set_option linter.unusedSimpArgs false
set_option linter.unusedVariables false
namespace Go.Proofs.YtagojpdkikcmpaaDoor
open Go Go.V Go.Proofs

theorem sorted_ext : ∀ {a b : List Int}, a.Pairwise (· < ·) → b.Pairwise (· < ·) → (∀ x, x ∈ a ↔ x ∈ b) → a = b
  | [], [], _, _, _ => rfl
  | [], y :: b, _, _, h => by have := (h y).2 (List.mem_cons_self ..); cases this
  | y :: a, [], _, _, h => by have := (h y).1 (List.mem_cons_self ..); cases this
  | x :: a, y :: b, ha, hb, h => by
    rw [List.pairwise_cons] at ha hb
    have hxy : x = y := by
      rcases List.mem_cons.1 ((h x).1 (List.mem_cons_self ..)) with e | e
      · exact e
      · rcases List.mem_cons.1 ((h y).2 (List.mem_cons_self ..)) with e' | e'
        · exact e'.symm
        · have := ha.1 y e'; have := hb.1 x e; omega
    subst hxy
    rw [sorted_ext ha.2 hb.2 fun z => ?_]
    constructor
    · intro hz
      rcases List.mem_cons.1 ((h z).1 (List.mem_cons_of_mem _ hz)) with e | e
      · have := ha.1 z hz; omega
      · exact e
    · intro hz
      rcases List.mem_cons.1 ((h z).2 (List.mem_cons_of_mem _ hz)) with e | e
      · have := hb.1 z hz; omega
      · exact e
/-- the numbers below n that are so, rising -/
def els (n : Nat) (f : Nat → Bool) : List Int := ints ((List.range n).filter f)
theorem els_elems (n : Nat) (ws : Nat → Nat) : ints (elems n ws) = els n (mem ws) := rfl
theorem els_len (n : Nat) (f : Nat → Bool) : (els n f).length ≤ n := by
  unfold els; rw [ints_len]
  have := List.length_filter_le f (List.range n)
  rwa [List.length_range] at this
theorem els_sorted (n : Nat) (f : Nat → Bool) : (els n f).Pairwise (· < ·) := by
  unfold els ints
  rw [List.pairwise_map]
  refine List.Pairwise.imp (fun h => by omega) (List.Pairwise.filter f List.pairwise_lt_range)
theorem els_mem {n : Nat} {f : Nat → Bool} {i : Int} : i ∈ els n f ↔ 0 ≤ i ∧ i < n ∧ f i.toNat = true := by
  unfold els ints
  rw [List.mem_map]
  constructor
  · rintro ⟨x, hx, rfl⟩
    rw [List.mem_filter, List.mem_range] at hx
    exact ⟨by omega, by omega, by simpa using hx.2⟩
  · rintro ⟨h0, h1, h2⟩
    exact ⟨i.toNat, by rw [List.mem_filter, List.mem_range]; exact ⟨by omega, h2⟩, by omega⟩
def hasE (n : Nat) (f : Nat → Bool) (i : Int) : Bool := decide (0 ≤ i ∧ i < n) && f i.toNat
theorem els_has (n : Nat) (f : Nat → Bool) (i : Int) : decide (i ∈ els n f) = hasE n f i := by
  unfold hasE
  rw [Bool.eq_iff_iff]
  simp only [decide_eq_true_eq, Bool.and_eq_true, els_mem]
  exact ⟨fun h => ⟨⟨h.1, h.2.1⟩, h.2.2⟩, fun h => ⟨h.1.1, h.1.2, h.2⟩⟩
theorem insI_mem (i x : Int) : ∀ l : List Int, x ∈ insI i l ↔ x = i ∨ x ∈ l
  | [] => by simp [insI]
  | y :: l => by
    unfold insI
    split
    · simp
    · rw [List.mem_cons, insI_mem i x l, List.mem_cons]
      constructor
      · rintro (h | h | h)
        · exact .inr (.inl h)
        · exact .inl h
        · exact .inr (.inr h)
      · rintro (h | h | h)
        · exact .inr (.inl h)
        · exact .inl h
        · exact .inr (.inr h)
theorem insI_sorted (i : Int) : ∀ l : List Int, l.Pairwise (· < ·) → i ∉ l → (insI i l).Pairwise (· < ·)
  | [], _, _ => by simp [insI]
  | y :: l, h, hi => by
    have h' := List.pairwise_cons.1 h
    unfold insI
    split
    · rename_i hlt
      refine List.pairwise_cons.2 ⟨fun z hz => ?_, h⟩
      rcases List.mem_cons.1 hz with e | e
      · subst e; exact hlt
      · have := h'.1 z e; omega
    · rename_i hlt
      refine List.pairwise_cons.2 ⟨fun z hz => ?_, insI_sorted i l h'.2 fun e => hi (List.mem_cons_of_mem _ e)⟩
      rcases (insI_mem i z l).1 hz with e | e
      · subst e
        have : z ≠ y := fun e => hi (by subst e; exact List.mem_cons_self ..)
        omega
      · exact h'.1 z e
theorem els_put {n : Nat} {f : Nat → Bool} {i : Int} (h0 : 0 ≤ i) (h1 : i < n) (h2 : i ∉ els n f) : insI i (els n f) = els n (fun x => f x || decide ((x : Int) = i)) := by
  refine sorted_ext (insI_sorted i _ (els_sorted n f) h2) (els_sorted _ _) fun x => ?_
  rw [insI_mem, els_mem, els_mem]
  simp only [Bool.or_eq_true, decide_eq_true_eq]
  constructor
  · rintro (h | ⟨ha, hb, hc⟩)
    · exact ⟨by omega, by omega, .inr (by omega)⟩
    · exact ⟨ha, hb, .inl hc⟩
  · rintro ⟨ha, hb, hc | hc⟩
    · exact .inr ⟨ha, hb, hc⟩
    · exact .inl (by omega)
theorem els_congr {n : Nat} {f g : Nat → Bool} (h : ∀ x, x < n → f x = g x) : els n f = els n g := by
  refine sorted_ext (els_sorted _ _) (els_sorted _ _) fun x => ?_
  rw [els_mem, els_mem]
  constructor
  · rintro ⟨ha, hb, hc⟩; exact ⟨ha, hb, by rw [← h _ (by omega)]; exact hc⟩
  · rintro ⟨ha, hb, hc⟩; exact ⟨ha, hb, by rw [h _ (by omega)]; exact hc⟩
/-- the document's Put -/
theorem rputs_t (n : Nat) (f : Nat → Bool) (i : Int) (hn : n ≤ 1048576) {G : PHeap} {H : Heap} {R : Value → PHeap → Heap → Prop} {v : Value} (hv : Sl G (Value.int .i64) v (els n f))
    (hR : ∀ G' v', PLe G G' → Sep G' (keys H) → Sl G' (Value.int .i64) v' (els n (fun x => f x || decide ((x : Int) = i))) → R (.tuple #[.agg #[.int .i64 n, v'], .bool (decide (0 ≤ i ∧ i < n) && !f i.toNat)]) G' H) : FnT Tryd.prog 15 [.agg #[.int .i64 n, v], .int .i64 i] G H R := by
  refine FnT.sep ?_
  refine rput_t (els n f) i n (Nat.le_trans (els_len n f) hn) hv (fun h => fun hle hs => ?_) (fun G' v' h0 h1 h2 hle hs hsl => fun hle' hs' => ?_)
  · have hh : (decide (0 ≤ i ∧ i < n) && !f i.toNat) = false := by
      rcases h with h | h | h
      · rw [decide_eq_false (by omega)]; rfl
      · rw [decide_eq_false (by omega)]; rfl
      · rw [(els_mem.1 h).2.2]; simp
    have he : els n (fun x => f x || decide ((x : Int) = i)) = els n f := els_congr fun x hx => by
      by_cases e : (x : Int) = i
      · have : f x = true := by
          rcases h with h | h | h
          · omega
          · omega
          · have := (els_mem.1 h).2.2; rwa [show i.toNat = x by omega] at this
        rw [this]; rfl
      · rw [decide_eq_false e, Bool.or_false]
    have := hR G v (PLe.refl _) hs (by rw [he]; exact hv)
    rwa [hh] at this
  · have hh : (decide (0 ≤ i ∧ i < n) && !f i.toNat) = true := by
      rw [decide_eq_true ⟨h0, h1⟩]
      cases hf : f i.toNat with
      | false => rfl
      | true => exact absurd (els_mem.2 ⟨h0, h1, hf⟩) h2
    have := hR G' v' hle hs (by rw [← els_put h0 h1 h2]; exact hsl)
    rwa [hh] at this
def remI (i : Int) (l : List Int) : List Int := l.filter fun y => decide (y ≠ i)
theorem remI_len (i : Int) (l : List Int) : (remI i l).length ≤ l.length := List.length_filter_le _ _
theorem remI_short (i : Int) : ∀ l : List Int, (remI i l).length < l.length ↔ i ∈ l
  | [] => by simp [remI]
  | y :: l => by
    have ih := remI_short i l
    have hl := remI_len i l
    unfold remI at ih hl ⊢
    by_cases e : y = i
    · subst e
      simp only [ne_eq, List.filter_cons, not_true_eq_false, decide_false, Bool.false_eq_true, if_false, List.length_cons, List.mem_cons, true_or, iff_true] at hl ⊢
      omega
    · have e' : i ≠ y := fun h => e h.symm
      simp only [ne_eq, List.filter_cons, e, not_false_eq_true, decide_true, if_true, List.length_cons, List.mem_cons, e', false_or] at ih ⊢
      rw [← ih]; omega
theorem els_take (n : Nat) (f : Nat → Bool) (i : Int) : remI i (els n f) = els n (fun x => f x && decide ((x : Int) ≠ i)) := by
  refine sorted_ext (List.Pairwise.filter _ (els_sorted n f)) (els_sorted _ _) fun x => ?_
  unfold remI
  rw [List.mem_filter, els_mem, els_mem]
  simp only [Bool.and_eq_true, decide_eq_true_eq]
  constructor
  · rintro ⟨⟨ha, hb, hc⟩, hd⟩; exact ⟨ha, hb, hc, by omega⟩
  · rintro ⟨ha, hb, hc, hd⟩; exact ⟨⟨ha, hb, hc⟩, by omega⟩

theorem remI_take (i : Int) {l : List Int} {k : Nat} (h : k < l.length) : remI i (l.take (k + 1)) = if l[k] ≠ i then remI i (l.take k) ++ [l[k]] else remI i (l.take k) := by
  unfold remI
  rw [List.take_succ_eq_append_getElem h, List.filter_append]
  by_cases e : l[k] = i
  · simp [e]
  · simp [e]
set_option maxHeartbeats 8000000 in
theorem rtake_t (l : List Int) (i : Int) (n : Int) (hlen : l.length ≤ 1048576) {G : PHeap} {H : Heap} {R : Value → PHeap → Heap → Prop} {v : Value} (hv : Sl G (Value.int .i64) v l)
    (hR : ∀ G' v', PLe G G' → Sep G' (keys H) → Sl G' (Value.int .i64) v' (remI i l) → R (.tuple #[.agg #[.int .i64 n, v'], .bool (decide (i ∈ l))]) G' H) : FnT Tryd.prog 17 [.agg #[.int .i64 n, v], .int .i64 i] G H R := by
  obtain ⟨a, cap, rfl, hrow, hcap⟩ := hv
  refine FnT.sep ?_
  refine FnT.body tok [0, 1, 2, 4, 5, 6, 7, 13, 22] Tryd.func17 rfl (by kernel_rfl) (by kernel_rfl) (by show _ ≤ 41; simp) fun hsep => ?_
  rw [Tryd.results17]
  have hsE := hsep
  try simp only [keys_cons, keys_app, keys_nil, Sep_cons, Sep_nil, NotIn_cons, NotIn_app, NotIn_nil, List.cons_append, List.nil_append, List.append_assoc, and_assoc, and_true, true_and] at hsE
  repeat (obtain ⟨hsx, hsE⟩ := hsE)
  repeat' first
    | with_reducible refine Br.yes ?_
    | with_reducible refine Br.no ?_
    | with_reducible refine Br.dec (fun _ => ?_) (fun _ => ?_)
    | with_reducible refine Br.beqB (fun _ => ?_) (fun _ => ?_)
    | with_reducible refine Br.beqb (fun _ => ?_) (fun _ => ?_)
    | with_reducible refine Br.mk (fun _ => ?_) (fun _ => ?_)
    | with_reducible refine foundO.mk (fun _ _ => ?_) (fun _ => ?_)
    | with_reducible refine appV.zero ?_
    | with_reducible refine appV.own ?_
    | ((with_reducible refine NewB.mk fun nb hnb => ?_); have hnb1 := hnb.1.1; have hnb2 := hnb.1.2; try simp only [keys_cons, keys_app, keys_nil, NotIn_cons, NotIn_app, NotIn_nil, and_true] at hnb2)
    | ((with_reducible refine NewRow.mk fun nb nsp ncap hnb hncap => ?_); have hnb1 := hnb.1.1; have hnb2 := hnb.1.2; try simp only [keys_cons, keys_app, keys_nil, NotIn_cons, NotIn_app, NotIn_nil, and_true] at hnb2)
    | with_reducible refine Tri.drawH tok mixed [0, 1, 2, 4, 5, 6, 7, 13, 22] 7 [1, 7] (.op 0 .plain (.op 1 .held (.op 2 .plain (.op 3 .plain (.op 4 .plain (.op 5 .plain (.op 6 .plain (.op 7 .held (.op 8 .plain (.op 9 .plain (.op 10 .keeps (.op 11 .plain .nil)))))))))))) (by kernel_rfl) [2] ?_
    | simp (dsimp := false) (implicitDefEqProofs := false) (disch := first | assumption | (simp only [List.mem_cons, List.mem_append, true_or, or_true, eq_self]; done) | omega | (with_reducible refine Row.adr (by assumption) ?_; simp only [List.length_map, List.length_take, List.length_drop]; omega) | (simp only [List.length_cons, List.length_nil, List.length_map, List.length_append, List.length_replicate, Nat.reduceAdd, true_and, and_true, and_self]; first | done | omega)) only [go_sem, ↓reduceIte, Nat.reduceEqDiff, Nat.reduceAdd, Nat.reduceSub, Nat.reduceMul, Nat.reduceBEq, Nat.reduceLT, Nat.reduceLeDiff, Nat.reduceMod, Nat.reducePow, List.reduceReplicate, UInt8.reduceOfNat, Int.reducePow, Int.reduceDiv, Int.reduceMod, Nat.reduceDiv, Int.reduceNeg, Int.reduceAdd, Int.reduceSub, Int.reduceMul, Int.reduceLE, Int.reduceLT, Int.reduceEq, Int.reduceToNat, decide_true, decide_false, reduceCtorEq, ne_eq, not_false_eq_true, not_true_eq_false, and_true, true_and, and_self, or_true, true_or, or_false, false_or, or_self, eq_self, Option.isNone_some, Option.isNone_none, Nat.zero_add, Nat.add_zero, Nat.mul_one, Nat.one_mul, Nat.zero_mul, List.length_cons, List.length_nil, List.getElem?_cons_zero, List.getElem?_cons_succ, List.map_cons, List.map_nil, List.append_nil]
  rename_i b2 hb20 hb21 hb22 b4 hb40 hb41 hb42
  refine Tri.loopU tok [0, 1, 2, 4, 5, 6, 7, 13, 22] (by kernel_rfl) [0, 1, 2, 4, 5, 6, 7] (fun q G' fr H' => ∃ (k b c : Nat) (sp : List Value), k + q = l.length ∧ (remI i (l.take k)).length + sp.length = c ∧ G' = G ∧ H' = (b, .cells ((remI i (l.take k)).map (Value.int .i64)) sp 3) :: (b4, .cells [.int .i64 0, .slice none 0 0] [] 39) :: (b2, .cells [.int .i64 n, .slice a l.length cap] [] 39) :: H ∧ fr = [(0, .agg #[.int .i64 n, .slice a l.length cap]), (1, .int .i64 i), (2, .pointer (some ⟨b2, 0, none⟩)), (4, .pointer (some ⟨b4, 0, none⟩)), (5, .bool false), (6, .slice (some ⟨b, 0, none⟩) (remI i (l.take k)).length c), (7, .int .i64 k)]) (l.length) ?_ ?_
  · exact Upd.now ⟨0, nb, 0, [], by omega, rfl, rfl, rfl, rfl⟩
  · rintro q G1 fr H' hle hs ⟨k, b, c, sp, hk, hc, rfl, rfl, rfl⟩
    have hsE := hs
    try simp only [keys_cons, keys_app, keys_nil, Sep_cons, Sep_nil, NotIn_cons, NotIn_app, NotIn_nil, List.cons_append, List.nil_append, List.append_assoc, and_assoc, and_true, true_and] at hsE
    repeat (obtain ⟨hsx, hsE⟩ := hsE)
    have hpl : (remI i (l.take k)).length ≤ k := Nat.le_trans (remI_len _ _) (by rw [List.length_take]; omega)
    by_cases hkl : k < l.length
    · have had : Adr a := hrow.adr (by rw [List.length_map]; omega)
      have hps := remI_take i hkl
      by_cases he : l[k] = i
      · rw [if_neg (by simpa using he)] at hps
        repeat' first
          | with_reducible refine Br.yes ?_
          | with_reducible refine Br.no ?_
          | with_reducible refine Br.dec (fun _ => ?_) (fun _ => ?_)
          | with_reducible refine Br.beqB (fun _ => ?_) (fun _ => ?_)
          | with_reducible refine Br.beqb (fun _ => ?_) (fun _ => ?_)
          | with_reducible refine Br.mk (fun _ => ?_) (fun _ => ?_)
          | with_reducible refine foundO.mk (fun _ _ => ?_) (fun _ => ?_)
          | with_reducible refine appV.zero ?_
          | with_reducible refine appV.own ?_
          | ((with_reducible refine NewB.mk fun nb hnb => ?_); have hnb1 := hnb.1.1; have hnb2 := hnb.1.2; try simp only [keys_cons, keys_app, keys_nil, NotIn_cons, NotIn_app, NotIn_nil, and_true] at hnb2)
          | ((with_reducible refine NewRow.mk fun nb nsp ncap hnb hncap => ?_); have hnb1 := hnb.1.1; have hnb2 := hnb.1.2; try simp only [keys_cons, keys_app, keys_nil, NotIn_cons, NotIn_app, NotIn_nil, and_true] at hnb2)
          | with_reducible refine Tri.drawH tok mixed [0, 1, 2, 4, 5, 6, 7, 13, 22] 7 [1, 7] (.op 0 .plain (.op 1 .held (.op 2 .plain (.op 3 .plain (.op 4 .plain (.op 5 .plain (.op 6 .plain (.op 7 .held (.op 8 .plain (.op 9 .plain (.op 10 .keeps (.op 11 .plain .nil)))))))))))) (by kernel_rfl) [2] ?_
          | simp (dsimp := false) (implicitDefEqProofs := false) (disch := first | assumption | (simp only [List.mem_cons, List.mem_append, true_or, or_true, eq_self]; done) | omega | (with_reducible refine Row.adr (by assumption) ?_; simp only [List.length_map, List.length_take, List.length_drop]; omega) | (simp only [List.length_cons, List.length_nil, List.length_map, List.length_append, List.length_replicate, Nat.reduceAdd, true_and, and_true, and_self]; first | done | omega)) only [go_sem, ↓reduceIte, Nat.reduceEqDiff, Nat.reduceAdd, Nat.reduceSub, Nat.reduceMul, Nat.reduceBEq, Nat.reduceLT, Nat.reduceLeDiff, Nat.reduceMod, Nat.reducePow, List.reduceReplicate, UInt8.reduceOfNat, Int.reducePow, Int.reduceDiv, Int.reduceMod, Nat.reduceDiv, Int.reduceNeg, Int.reduceAdd, Int.reduceSub, Int.reduceMul, Int.reduceLE, Int.reduceLT, Int.reduceEq, Int.reduceToNat, decide_true, decide_false, reduceCtorEq, ne_eq, not_false_eq_true, not_true_eq_false, and_true, true_and, and_self, or_true, true_or, or_false, false_or, or_self, eq_self, Option.isNone_some, Option.isNone_none, Nat.zero_add, Nat.add_zero, Nat.mul_one, Nat.one_mul, Nat.zero_mul, List.length_cons, List.length_nil, List.getElem?_cons_zero, List.getElem?_cons_succ, List.map_cons, List.map_nil, List.append_nil, Row.obj hrow, List.getElem_map]
        exact Upd.now ⟨q - 1, by omega, k + 1, b, c, sp, by omega, by rw [hps]; exact hc, rfl, by rw [hps], by rw [hps]; rfl⟩
      · rw [if_pos he] at hps
        repeat' first
          | with_reducible refine Br.yes ?_
          | with_reducible refine Br.no ?_
          | with_reducible refine Br.dec (fun _ => ?_) (fun _ => ?_)
          | with_reducible refine Br.beqB (fun _ => ?_) (fun _ => ?_)
          | with_reducible refine Br.beqb (fun _ => ?_) (fun _ => ?_)
          | with_reducible refine Br.mk (fun _ => ?_) (fun _ => ?_)
          | with_reducible refine foundO.mk (fun _ _ => ?_) (fun _ => ?_)
          | with_reducible refine appV.zero ?_
          | with_reducible refine appV.own ?_
          | ((with_reducible refine NewB.mk fun nb hnb => ?_); have hnb1 := hnb.1.1; have hnb2 := hnb.1.2; try simp only [keys_cons, keys_app, keys_nil, NotIn_cons, NotIn_app, NotIn_nil, and_true] at hnb2)
          | ((with_reducible refine NewRow.mk fun nb nsp ncap hnb hncap => ?_); have hnb1 := hnb.1.1; have hnb2 := hnb.1.2; try simp only [keys_cons, keys_app, keys_nil, NotIn_cons, NotIn_app, NotIn_nil, and_true] at hnb2)
          | with_reducible refine Tri.drawH tok mixed [0, 1, 2, 4, 5, 6, 7, 13, 22] 7 [1, 7] (.op 0 .plain (.op 1 .held (.op 2 .plain (.op 3 .plain (.op 4 .plain (.op 5 .plain (.op 6 .plain (.op 7 .held (.op 8 .plain (.op 9 .plain (.op 10 .keeps (.op 11 .plain .nil)))))))))))) (by kernel_rfl) [2] ?_
          | simp (dsimp := false) (implicitDefEqProofs := false) (disch := first | assumption | (simp only [List.mem_cons, List.mem_append, true_or, or_true, eq_self]; done) | omega | (with_reducible refine Row.adr (by assumption) ?_; simp only [List.length_map, List.length_take, List.length_drop]; omega) | (simp only [List.length_cons, List.length_nil, List.length_map, List.length_append, List.length_replicate, Nat.reduceAdd, true_and, and_true, and_self]; first | done | omega)) only [go_sem, ↓reduceIte, Nat.reduceEqDiff, Nat.reduceAdd, Nat.reduceSub, Nat.reduceMul, Nat.reduceBEq, Nat.reduceLT, Nat.reduceLeDiff, Nat.reduceMod, Nat.reducePow, List.reduceReplicate, UInt8.reduceOfNat, Int.reducePow, Int.reduceDiv, Int.reduceMod, Nat.reduceDiv, Int.reduceNeg, Int.reduceAdd, Int.reduceSub, Int.reduceMul, Int.reduceLE, Int.reduceLT, Int.reduceEq, Int.reduceToNat, decide_true, decide_false, reduceCtorEq, ne_eq, not_false_eq_true, not_true_eq_false, and_true, true_and, and_self, or_true, true_or, or_false, false_or, or_self, eq_self, Option.isNone_some, Option.isNone_none, Nat.zero_add, Nat.add_zero, Nat.mul_one, Nat.one_mul, Nat.zero_mul, List.length_cons, List.length_nil, List.getElem?_cons_zero, List.getElem?_cons_succ, List.map_cons, List.map_nil, List.append_nil, Row.obj hrow, List.getElem_map]
        exact Upd.go (H' := (nb, .cells ((remI i (l.take k)).map (Value.int .i64) ++ [.int .i64 l[k]]) nsp 3) :: (b4, .cells [.int .i64 0, .slice none 0 0] [] 39) :: (b2, .cells [.int .i64 n, .slice a l.length cap] [] 39) :: H) (by intro fsum; first | exact Nat.le_refl _ | (simp only [List.map_append, List.map_cons, List.map_nil, List.sum_append, List.sum_cons, List.sum_nil, List.cons_append, List.nil_append]; omega)) (Upd.now ⟨q - 1, by omega, k + 1, nb, ncap, nsp, by omega, by rw [hps]; simp at hncap ⊢; omega, rfl, by rw [hps, List.map_append]; rfl, by rw [hps, List.length_append]; rfl⟩)
    · obtain rfl : k = l.length := by omega
      rw [List.take_length] at hpl hc ⊢
      repeat' first
        | with_reducible refine Br.yes ?_
        | with_reducible refine Br.no ?_
        | with_reducible refine Br.dec (fun _ => ?_) (fun _ => ?_)
        | with_reducible refine Br.beqB (fun _ => ?_) (fun _ => ?_)
        | with_reducible refine Br.beqb (fun _ => ?_) (fun _ => ?_)
        | with_reducible refine Br.mk (fun _ => ?_) (fun _ => ?_)
        | with_reducible refine foundO.mk (fun _ _ => ?_) (fun _ => ?_)
        | with_reducible refine appV.zero ?_
        | with_reducible refine appV.own ?_
        | ((with_reducible refine NewB.mk fun nb hnb => ?_); have hnb1 := hnb.1.1; have hnb2 := hnb.1.2; try simp only [keys_cons, keys_app, keys_nil, NotIn_cons, NotIn_app, NotIn_nil, and_true] at hnb2)
        | ((with_reducible refine NewRow.mk fun nb nsp ncap hnb hncap => ?_); have hnb1 := hnb.1.1; have hnb2 := hnb.1.2; try simp only [keys_cons, keys_app, keys_nil, NotIn_cons, NotIn_app, NotIn_nil, and_true] at hnb2)
        | with_reducible refine Tri.drawH tok mixed [0, 1, 2, 4, 5, 6, 7, 13, 22] 7 [1, 7] (.op 0 .plain (.op 1 .held (.op 2 .plain (.op 3 .plain (.op 4 .plain (.op 5 .plain (.op 6 .plain (.op 7 .held (.op 8 .plain (.op 9 .plain (.op 10 .keeps (.op 11 .plain .nil)))))))))))) (by kernel_rfl) [2] ?_
        | simp (dsimp := false) (implicitDefEqProofs := false) (disch := first | assumption | (simp only [List.mem_cons, List.mem_append, true_or, or_true, eq_self]; done) | omega | (with_reducible refine Row.adr (by assumption) ?_; simp only [List.length_map, List.length_take, List.length_drop]; omega) | (simp only [List.length_cons, List.length_nil, List.length_map, List.length_append, List.length_replicate, Nat.reduceAdd, true_and, and_true, and_self]; first | done | omega)) only [go_sem, ↓reduceIte, Nat.reduceEqDiff, Nat.reduceAdd, Nat.reduceSub, Nat.reduceMul, Nat.reduceBEq, Nat.reduceLT, Nat.reduceLeDiff, Nat.reduceMod, Nat.reducePow, List.reduceReplicate, UInt8.reduceOfNat, Int.reducePow, Int.reduceDiv, Int.reduceMod, Nat.reduceDiv, Int.reduceNeg, Int.reduceAdd, Int.reduceSub, Int.reduceMul, Int.reduceLE, Int.reduceLT, Int.reduceEq, Int.reduceToNat, decide_true, decide_false, reduceCtorEq, ne_eq, not_false_eq_true, not_true_eq_false, and_true, true_and, and_self, or_true, true_or, or_false, false_or, or_self, eq_self, Option.isNone_some, Option.isNone_none, Nat.zero_add, Nat.add_zero, Nat.mul_one, Nat.one_mul, Nat.zero_mul, List.length_cons, List.length_nil, List.getElem?_cons_zero, List.getElem?_cons_succ, List.map_cons, List.map_nil, List.append_nil]
      unfold UpdR
      refine Upd.go (H' := (b, .cells ((remI i l).map (Value.int .i64)) sp 3) :: H) (by intro fsum; first | exact Nat.le_refl _ | (simp only [List.map_append, List.map_cons, List.map_nil, List.sum_append, List.sum_cons, List.sum_nil, List.cons_append, List.nil_append]; omega)) (Upd.shareRow (by assumption) fun G2 hle2 hs2 hr2 => fun hle hs => ?_)
      have hd : decide (((remI i l).length : Int) < l.length) = decide (i ∈ l) := decide_eq_decide.2 (by rw [← remI_short]; omega)
      rw [hd]
      exact hR G2 _ hle hs ⟨some ⟨b, 0, none⟩, c, rfl, hr2, by omega⟩
/-- the document's Take -/
theorem rtakes_t (n : Nat) (f : Nat → Bool) (i : Int) (hn : n ≤ 1048576) {G : PHeap} {H : Heap} {R : Value → PHeap → Heap → Prop} {v : Value} (hv : Sl G (Value.int .i64) v (els n f))
    (hR : ∀ G' v', PLe G G' → Sep G' (keys H) → Sl G' (Value.int .i64) v' (els n (fun x => f x && decide ((x : Int) ≠ i))) → R (.tuple #[.agg #[.int .i64 n, v'], .bool (hasE n f i)]) G' H) : FnT Tryd.prog 17 [.agg #[.int .i64 n, v], .int .i64 i] G H R := by
  refine rtake_t (els n f) i n (Nat.le_trans (els_len n f) hn) hv fun G' v' hle hs hsl => ?_
  rw [els_take] at hsl
  rw [els_has]
  exact hR G' v' hle hs hsl
theorem rhass_t (n : Nat) (f : Nat → Bool) (i : Int) (hn : n ≤ 1048576) {G : PHeap} {H : Heap} {R : Value → PHeap → Heap → Prop} {v : Value} (hv : Sl G (Value.int .i64) v (els n f))
    (hR : R (.bool (hasE n f i)) G H) : FnT Tryd.prog 21 [.agg #[.int .i64 n, v], .int .i64 i] G H R := by
  refine rhas_t (els n f) i n (Nat.le_trans (els_len n f) hn) hv ?_
  rw [els_has]
  exact hR
end Go.Proofs.YtagojpdkikcmpaaDoor
