/- All texts of some lists, rising: the program's (it ranges over a map), and the document's. -/
import Derived.Test.YtpagkndgjihbbaaVd
set_option linter.unusedSimpArgs false
set_option linter.unusedVariables false
namespace Go.Proofs.Ytpagkndgjihbbaa
open Go Go.V Go.Proofs

/-- lists of texts -/
def SlT (G : PHeap) (v : Value) (xss : List (List Tx)) : Prop := ∃ a cap vs, v = .slice a xss.length cap ∧ Row G a vs ∧ vs.length = xss.length ∧ xss.length ≤ cap ∧ ∀ i (h : i < xss.length) (h2 : i < vs.length), ∃ b c, vs[i] = .slice b xss[i].length c ∧ Row G b (xss[i].map str) ∧ xss[i].length ≤ c
/-- the texts of some lists, rising -/
def unionS (xs : List Tx) : List Tx := xs.foldl putL []
theorem unionS_snoc (xs : List Tx) (s : Tx) : unionS (xs ++ [s]) = putL (unionS xs) s := by unfold unionS; rw [List.foldl_append]; rfl
theorem unionS_rising (xs : List Tx) : Rising (unionS xs) := by
  refine snocI (P := fun xs => Rising (unionS xs)) List.Pairwise.nil (fun l k ih => ?_) xs
  rw [unionS_snoc]; exact put_rising ih
theorem mem_unionS (x : Tx) (xs : List Tx) : x ∈ unionS xs ↔ x ∈ xs := by
  refine snocI (P := fun xs => x ∈ unionS xs ↔ x ∈ xs) (by simp [unionS]) (fun l k ih => ?_) xs
  rw [unionS_snoc, mem_put, ih, List.mem_append, List.mem_singleton]
theorem unionS_len (xs : List Tx) : (unionS xs).length ≤ xs.length := by
  refine snocI (P := fun xs => (unionS xs).length ≤ xs.length) (Nat.le_refl _) (fun l k ih => ?_) xs
  rw [unionS_snoc, List.length_append, List.length_singleton]
  have := putL_len (unionS l) k
  omega
/-! entries of a map -/
theorem aput_keys {k : Tx} {v : Int} : ∀ {l : List (Tx × Int)} {x : Tx}, x ∈ (aput k v l).map (·.1) ↔ x ∈ l.map (·.1) ∨ x = k
  | [], x => by simp [aput]
  | e :: l, x => by
    unfold aput
    split
    · rename_i h
      subst h
      simp only [List.map_cons, List.mem_cons]
      constructor
      · rintro (h | h)
        · exact .inr h
        · exact .inl (.inr h)
      · rintro ((h | h) | h)
        · exact .inl h
        · exact .inr h
        · exact .inl h
    · have ih := aput_keys (k := k) (v := v) (l := l) (x := x)
      simp only [List.map_cons, List.mem_cons] at ih ⊢
      rw [ih, or_assoc]
theorem aput_nodup {k : Tx} {v : Int} : ∀ {l : List (Tx × Int)}, (l.map (·.1)).Nodup → ((aput k v l).map (·.1)).Nodup
  | [], _ => by simp [aput]
  | e :: l, h => by
    obtain ⟨h1, h2⟩ := List.nodup_cons.1 (show (e.1 :: l.map (·.1)).Nodup from h)
    unfold aput
    split
    · rename_i hk; subst hk; exact h
    · rename_i hk
      show (e.1 :: (aput k v l).map (·.1)).Nodup
      rw [List.nodup_cons]
      refine ⟨fun hm => ?_, aput_nodup h2⟩
      rcases aput_keys.1 hm with hm | hm
      · exact h1 hm
      · exact hk hm.symm
theorem aput_bound {k : Tx} {v m : Int} (hv : 0 ≤ v ∧ v ≤ m) : ∀ {l : List (Tx × Int)}, (∀ p ∈ l, 0 ≤ p.2 ∧ p.2 ≤ m) → ∀ p ∈ aput k v l, 0 ≤ p.2 ∧ p.2 ≤ m
  | [], _, p, hp => by
    simp only [aput, List.mem_singleton] at hp
    subst hp; exact hv
  | e :: l, h, p, hp => by
    unfold aput at hp
    split at hp
    · rcases List.mem_cons.1 hp with rfl | hp
      · exact hv
      · exact h p (List.mem_cons_of_mem _ hp)
    · rcases List.mem_cons.1 hp with rfl | hp
      · exact h _ List.mem_cons_self
      · exact aput_bound hv (fun p hp => h p (List.mem_cons_of_mem _ hp)) p hp
theorem aget_mem {k : Tx} : ∀ {l : List (Tx × Int)} {n : Int}, aget k l = some n → (k, n) ∈ l
  | [], _, h => by cases h
  | e :: l, n, h => by
    unfold aget at h
    split at h
    · rename_i hk; cases h; subst hk; exact List.mem_cons_self
    · exact List.mem_cons_of_mem _ (aget_mem h)
theorem aput_len {k : Tx} {v : Int} : ∀ (l : List (Tx × Int)), (aput k v l).length ≤ l.length + 1
  | [] => Nat.le_refl _
  | e :: l => by
    unfold aput; split
    · simp
    · have := aput_len (k := k) (v := v) l
      simp only [List.length_cons]; omega
def entS (l : List (Tx × Int)) : List (Value × Value) := l.map fun p => (str p.1, Value.int .i64 p.2)
theorem hesT : KeyEnc T 9 str := keyEnc_str (T := T) (t := 9) rfl
theorem str_inj {a b : Tx} (h : str a = str b) : a = b := by
  injection h with h
  have := congrArg (fun x : ByteArray => x.data.toList) h
  simpa using this
set_option maxHeartbeats 8000000 in
theorem runion_t {xss : List (List Tx)} (hlen : xss.flatten.length ≤ 8000000) (hll : xss.length ≤ 2000000) {G : PHeap} {H : Heap} {R : Value → PHeap → Heap → Prop} {v : Value} (hv : SlT G v xss)
    (hR : ∀ G' v', PLe G G' → Sep G' (keys H) → Sl G' str v' (unionS xss.flatten) → R v' G' H) : FnT Try.prog 11 [v] G H R := by
  obtain ⟨a, cap, vs, rfl, hrow, hvl, hcap, hrs⟩ := hv
  have hil0 : ∀ i (h : i < xss.length), xss[i].length ≤ 8000000 := fun i h => by
    have := (List.sublist_flatten_of_mem (List.getElem_mem h)).length_le
    omega
  refine FnT.sep ?_
  refine FnT.body tok [0, 2, 3, 4, 5, 10, 19] Try.func11 rfl (by kernel_rfl) (by kernel_rfl) (by show _ ≤ 32; simp) fun hsep => ?_
  rw [Try.results11]
  have hsE := hsep
  try simp only [keys_cons, keys_app, keys_nil, Sep_cons, Sep_nil, NotIn_cons, NotIn_app, NotIn_nil, List.cons_append, List.nil_append, List.append_assoc, and_assoc, and_true, true_and] at hsE
  repeat (obtain ⟨hsx, hsE⟩ := hsE)
  repeat' first
    | with_reducible refine Br.yes ?_
    | with_reducible refine Br.no ?_
    | with_reducible refine Br.dec (fun _ => ?_) (fun _ => ?_)
    | with_reducible refine Br.beqB (fun _ => ?_) (fun _ => ?_)
    | with_reducible refine Br.beqb (fun _ => ?_) (fun _ => ?_)
    | with_reducible refine Br.mk (fun _ => ?_) (fun _ => ?_)
    | with_reducible refine foundO.mk (fun _ _ => ?_) (fun _ => ?_)
    | with_reducible refine appV.zero ?_
    | with_reducible refine appV.own ?_
    | ((with_reducible refine NewB.mk fun nb hnb => ?_); have hnb1 := hnb.1.1; have hnb2 := hnb.1.2; try simp only [keys_cons, keys_app, keys_nil, NotIn_cons, NotIn_app, NotIn_nil, and_true] at hnb2)
    | ((with_reducible refine NewRow.mk fun nb nsp ncap hnb hncap => ?_); have hnb1 := hnb.1.1; have hnb2 := hnb.1.2; try simp only [keys_cons, keys_app, keys_nil, NotIn_cons, NotIn_app, NotIn_nil, and_true] at hnb2)
    | simp (dsimp := false) (implicitDefEqProofs := false) (disch := first | assumption | (simp only [List.mem_cons, List.mem_append, true_or, or_true, eq_self]; done) | omega | (with_reducible refine Row.adr (by assumption) ?_; simp only [List.length_map, List.length_take, List.length_drop]; omega) | (simp only [List.length_cons, List.length_nil, List.length_map, List.length_append, List.length_replicate, Nat.reduceAdd, true_and, and_true, and_self]; first | done | omega)) only [go_sem, ↓reduceIte, Nat.reduceEqDiff, Nat.reduceAdd, Nat.reduceSub, Nat.reduceMul, Nat.reduceBEq, Nat.reduceLT, Nat.reduceLeDiff, Nat.reduceMod, Nat.reducePow, List.reduceReplicate, UInt8.reduceOfNat, Int.reducePow, Int.reduceDiv, Int.reduceMod, Nat.reduceDiv, Int.reduceNeg, Int.reduceAdd, Int.reduceSub, Int.reduceMul, Int.reduceLE, Int.reduceLT, Int.reduceEq, Int.reduceToNat, reduceCtorEq, List.replicate_zero]
  refine Tri.loopU tok [0, 2, 3, 4, 5, 10, 19] (by kernel_rfl) [0, 2, 3, 4] (fun q G' fr H' => ∃ (i : Nat) (v : Value), i + q = xss.length ∧ PLe G G' ∧ Sl G' str v (unionS (xss.take i).flatten) ∧ H' = H ∧ fr = [(0, .slice a xss.length cap), (2, .slice none 0 0), (3, v), (4, .int .i64 (i : Nat))]) (xss.length) ?_ ?_
  · refine Upd.go (H' := (nb, .cells [] [] 9) :: H) (by intro fsum; first | exact Nat.le_refl _ | (simp only [List.map_append, List.map_cons, List.map_nil, List.sum_append, List.sum_cons, List.sum_nil, List.cons_append, List.nil_append]; omega)) (Upd.shareRow (by assumption) fun G9 hle9 hs9 hr9 => ?_)
    exact ⟨0, _, by omega, hle9, ⟨_, 0, rfl, hr9, Nat.le_refl _⟩, rfl, rfl⟩
  · rintro q G1 fr H1 hle hs ⟨i, v, hiq, hle1, hsl, rfl, rfl⟩
    have hrow1 := hrow.mono hle1
    by_cases hil : i < xss.length
    · have had : Adr a := hrow1.adr (by omega)
      obtain ⟨b, c, e1, e2, e3⟩ := hrs i hil (by omega)
      obtain ⟨xs, hxs⟩ : ∃ xs, xs = xss[i] := ⟨_, rfl⟩
      have hxl := hil0 i hil
      rw [← hxs] at e1 e2 e3 hxl
      have htk : (xss.take (i + 1)).flatten = (xss.take i).flatten ++ xs := by rw [List.take_succ_eq_append_getElem hil, List.flatten_append, hxs]; simp
      have hfl : (xss.take (i + 1)).flatten.length ≤ 8000000 := by
        have e := congrArg (fun l : List (List Tx) => l.flatten.length) (List.take_append_drop (i + 1) xss)
        simp only [List.flatten_append, List.length_append] at e
        omega
      rw [htk, List.length_append] at hfl
      obtain ⟨av, cv, rfl, hrv, hcv⟩ := id hsl
      repeat' first
        | with_reducible refine Br.yes ?_
        | with_reducible refine Br.no ?_
        | with_reducible refine Br.dec (fun _ => ?_) (fun _ => ?_)
        | with_reducible refine Br.beqB (fun _ => ?_) (fun _ => ?_)
        | with_reducible refine Br.beqb (fun _ => ?_) (fun _ => ?_)
        | with_reducible refine Br.mk (fun _ => ?_) (fun _ => ?_)
        | with_reducible refine foundO.mk (fun _ _ => ?_) (fun _ => ?_)
        | with_reducible refine appV.zero ?_
        | with_reducible refine appV.own ?_
        | ((with_reducible refine NewB.mk fun nb hnb => ?_); have hnb1 := hnb.1.1; have hnb2 := hnb.1.2; try simp only [keys_cons, keys_app, keys_nil, NotIn_cons, NotIn_app, NotIn_nil, and_true] at hnb2)
        | ((with_reducible refine NewRow.mk fun nb nsp ncap hnb hncap => ?_); have hnb1 := hnb.1.1; have hnb2 := hnb.1.2; try simp only [keys_cons, keys_app, keys_nil, NotIn_cons, NotIn_app, NotIn_nil, and_true] at hnb2)
        | simp (dsimp := false) (implicitDefEqProofs := false) (disch := first | assumption | (simp only [List.mem_cons, List.mem_append, true_or, or_true, eq_self]; done) | omega | (with_reducible refine Row.adr (by assumption) ?_; simp only [List.length_map, List.length_take, List.length_drop]; omega) | (simp only [List.length_cons, List.length_nil, List.length_map, List.length_append, List.length_replicate, Nat.reduceAdd, true_and, and_true, and_self]; first | done | omega)) only [go_sem, ↓reduceIte, Nat.reduceEqDiff, Nat.reduceAdd, Nat.reduceSub, Nat.reduceMul, Nat.reduceBEq, Nat.reduceLT, Nat.reduceLeDiff, Nat.reduceMod, Nat.reducePow, List.reduceReplicate, UInt8.reduceOfNat, Int.reducePow, Int.reduceDiv, Int.reduceMod, Nat.reduceDiv, Int.reduceNeg, Int.reduceAdd, Int.reduceSub, Int.reduceMul, Int.reduceLE, Int.reduceLT, Int.reduceEq, Int.reduceToNat, reduceCtorEq]
      refine Tri.loopU tok [0, 2, 3, 4, 5, 10, 19] (by kernel_rfl) [0, 2, 3, 4, 5] (fun q2 G' fr H' => ∃ (j : Nat) (v : Value), j + q2 = xs.length ∧ PLe G1 G' ∧ Sl G' str v (unionS ((xss.take i).flatten ++ xs.take j)) ∧ H' = H1 ∧ fr = [(0, .slice a xss.length cap), (2, .slice none 0 0), (3, v), (4, .int .i64 (i : Nat)), (5, .int .i64 (j : Nat))]) (xs.length) ?_ ?_
      · exact Upd.now ⟨0, _, by omega, PLe.refl _, by rw [List.take_zero, List.append_nil]; exact hsl, rfl, rfl⟩
      · rintro q2 G2 fr H2 hle2 hs2 ⟨j, v, hjq, hle12, hsl2, rfl, rfl⟩
        have hrow2 := hrow1.mono hle12
        have e22 := e2.mono (hle1.trans hle12)
        by_cases hjl : j < xs.length
        · have had2 : Adr b := e22.adr (by rw [List.length_map]; omega)
          have hul := unionS_len ((xss.take i).flatten ++ xs.take j)
          rw [List.length_append, List.length_take] at hul
          obtain ⟨av2, cv2, rfl, hrv2, hcv2⟩ := id hsl2
          repeat' first
            | with_reducible refine Br.yes ?_
            | with_reducible refine Br.no ?_
            | with_reducible refine Br.dec (fun _ => ?_) (fun _ => ?_)
            | with_reducible refine Br.beqB (fun _ => ?_) (fun _ => ?_)
            | with_reducible refine Br.beqb (fun _ => ?_) (fun _ => ?_)
            | with_reducible refine Br.mk (fun _ => ?_) (fun _ => ?_)
            | with_reducible refine foundO.mk (fun _ _ => ?_) (fun _ => ?_)
            | with_reducible refine appV.zero ?_
            | with_reducible refine appV.own ?_
            | ((with_reducible refine NewB.mk fun nb hnb => ?_); have hnb1 := hnb.1.1; have hnb2 := hnb.1.2; try simp only [keys_cons, keys_app, keys_nil, NotIn_cons, NotIn_app, NotIn_nil, and_true] at hnb2)
            | ((with_reducible refine NewRow.mk fun nb nsp ncap hnb hncap => ?_); have hnb1 := hnb.1.1; have hnb2 := hnb.1.2; try simp only [keys_cons, keys_app, keys_nil, NotIn_cons, NotIn_app, NotIn_nil, and_true] at hnb2)
            | simp (dsimp := false) (implicitDefEqProofs := false) (disch := first | assumption | (simp only [List.mem_cons, List.mem_append, true_or, or_true, eq_self]; done) | omega | (with_reducible refine Row.adr (by assumption) ?_; simp only [List.length_map, List.length_take, List.length_drop]; omega) | (simp only [List.length_cons, List.length_nil, List.length_map, List.length_append, List.length_replicate, Nat.reduceAdd, true_and, and_true, and_self]; first | done | omega)) only [go_sem, ↓reduceIte, Nat.reduceEqDiff, Nat.reduceAdd, Nat.reduceSub, Nat.reduceMul, Nat.reduceBEq, Nat.reduceLT, Nat.reduceLeDiff, Nat.reduceMod, Nat.reducePow, List.reduceReplicate, UInt8.reduceOfNat, Int.reducePow, Int.reduceDiv, Int.reduceMod, Nat.reduceDiv, Int.reduceNeg, Int.reduceAdd, Int.reduceSub, Int.reduceMul, Int.reduceLE, Int.reduceLT, Int.reduceEq, Int.reduceToNat, reduceCtorEq, Row.obj hrow2, e1, Row.obj e22, List.getElem_map]
          refine put22_t _ xs[j] (by omega) hsl2 fun G3 v3 hle3 hs3 hsl3 => ?_
          repeat' first
            | with_reducible refine Br.yes ?_
            | with_reducible refine Br.no ?_
            | with_reducible refine Br.dec (fun _ => ?_) (fun _ => ?_)
            | with_reducible refine Br.beqB (fun _ => ?_) (fun _ => ?_)
            | with_reducible refine Br.beqb (fun _ => ?_) (fun _ => ?_)
            | with_reducible refine Br.mk (fun _ => ?_) (fun _ => ?_)
            | with_reducible refine foundO.mk (fun _ _ => ?_) (fun _ => ?_)
            | with_reducible refine appV.zero ?_
            | with_reducible refine appV.own ?_
            | ((with_reducible refine NewB.mk fun nb hnb => ?_); have hnb1 := hnb.1.1; have hnb2 := hnb.1.2; try simp only [keys_cons, keys_app, keys_nil, NotIn_cons, NotIn_app, NotIn_nil, and_true] at hnb2)
            | ((with_reducible refine NewRow.mk fun nb nsp ncap hnb hncap => ?_); have hnb1 := hnb.1.1; have hnb2 := hnb.1.2; try simp only [keys_cons, keys_app, keys_nil, NotIn_cons, NotIn_app, NotIn_nil, and_true] at hnb2)
            | simp (dsimp := false) (implicitDefEqProofs := false) (disch := first | assumption | (simp only [List.mem_cons, List.mem_append, true_or, or_true, eq_self]; done) | omega | (with_reducible refine Row.adr (by assumption) ?_; simp only [List.length_map, List.length_take, List.length_drop]; omega) | (simp only [List.length_cons, List.length_nil, List.length_map, List.length_append, List.length_replicate, Nat.reduceAdd, true_and, and_true, and_self]; first | done | omega)) only [go_sem, ↓reduceIte, Nat.reduceEqDiff, Nat.reduceAdd, Nat.reduceSub, Nat.reduceMul, Nat.reduceBEq, Nat.reduceLT, Nat.reduceLeDiff, Nat.reduceMod, Nat.reducePow, List.reduceReplicate, UInt8.reduceOfNat, Int.reducePow, Int.reduceDiv, Int.reduceMod, Nat.reduceDiv, Int.reduceNeg, Int.reduceAdd, Int.reduceSub, Int.reduceMul, Int.reduceLE, Int.reduceLT, Int.reduceEq, Int.reduceToNat, reduceCtorEq]
          refine Upd.now ⟨q2 - 1, by omega, j + 1, v3, by omega, hle12.trans hle3, ?_, rfl, rfl⟩
          rw [List.take_succ_eq_append_getElem hjl, ← List.append_assoc, unionS_snoc]; exact hsl3
        · obtain rfl : j = xs.length := by omega
          rw [List.take_length, ← htk] at hsl2
          obtain ⟨av2, cv2, rfl, hrv2, hcv2⟩ := id hsl2
          repeat' first
            | with_reducible refine Br.yes ?_
            | with_reducible refine Br.no ?_
            | with_reducible refine Br.dec (fun _ => ?_) (fun _ => ?_)
            | with_reducible refine Br.beqB (fun _ => ?_) (fun _ => ?_)
            | with_reducible refine Br.beqb (fun _ => ?_) (fun _ => ?_)
            | with_reducible refine Br.mk (fun _ => ?_) (fun _ => ?_)
            | with_reducible refine foundO.mk (fun _ _ => ?_) (fun _ => ?_)
            | with_reducible refine appV.zero ?_
            | with_reducible refine appV.own ?_
            | ((with_reducible refine NewB.mk fun nb hnb => ?_); have hnb1 := hnb.1.1; have hnb2 := hnb.1.2; try simp only [keys_cons, keys_app, keys_nil, NotIn_cons, NotIn_app, NotIn_nil, and_true] at hnb2)
            | ((with_reducible refine NewRow.mk fun nb nsp ncap hnb hncap => ?_); have hnb1 := hnb.1.1; have hnb2 := hnb.1.2; try simp only [keys_cons, keys_app, keys_nil, NotIn_cons, NotIn_app, NotIn_nil, and_true] at hnb2)
            | simp (dsimp := false) (implicitDefEqProofs := false) (disch := first | assumption | (simp only [List.mem_cons, List.mem_append, true_or, or_true, eq_self]; done) | omega | (with_reducible refine Row.adr (by assumption) ?_; simp only [List.length_map, List.length_take, List.length_drop]; omega) | (simp only [List.length_cons, List.length_nil, List.length_map, List.length_append, List.length_replicate, Nat.reduceAdd, true_and, and_true, and_self]; first | done | omega)) only [go_sem, ↓reduceIte, Nat.reduceEqDiff, Nat.reduceAdd, Nat.reduceSub, Nat.reduceMul, Nat.reduceBEq, Nat.reduceLT, Nat.reduceLeDiff, Nat.reduceMod, Nat.reducePow, List.reduceReplicate, UInt8.reduceOfNat, Int.reducePow, Int.reduceDiv, Int.reduceMod, Nat.reduceDiv, Int.reduceNeg, Int.reduceAdd, Int.reduceSub, Int.reduceMul, Int.reduceLE, Int.reduceLT, Int.reduceEq, Int.reduceToNat, reduceCtorEq, Row.obj hrow2, e1]
          refine Upd.now ⟨q - 1, by omega, i + 1, _, by omega, hle1.trans hle12, hsl2, rfl, rfl⟩
    · obtain rfl : i = xss.length := by omega
      rw [List.take_length] at hsl
      obtain ⟨av, cv, rfl, hrv, hcv⟩ := id hsl
      repeat' first
        | with_reducible refine Br.yes ?_
        | with_reducible refine Br.no ?_
        | with_reducible refine Br.dec (fun _ => ?_) (fun _ => ?_)
        | with_reducible refine Br.beqB (fun _ => ?_) (fun _ => ?_)
        | with_reducible refine Br.beqb (fun _ => ?_) (fun _ => ?_)
        | with_reducible refine Br.mk (fun _ => ?_) (fun _ => ?_)
        | with_reducible refine foundO.mk (fun _ _ => ?_) (fun _ => ?_)
        | with_reducible refine appV.zero ?_
        | with_reducible refine appV.own ?_
        | ((with_reducible refine NewB.mk fun nb hnb => ?_); have hnb1 := hnb.1.1; have hnb2 := hnb.1.2; try simp only [keys_cons, keys_app, keys_nil, NotIn_cons, NotIn_app, NotIn_nil, and_true] at hnb2)
        | ((with_reducible refine NewRow.mk fun nb nsp ncap hnb hncap => ?_); have hnb1 := hnb.1.1; have hnb2 := hnb.1.2; try simp only [keys_cons, keys_app, keys_nil, NotIn_cons, NotIn_app, NotIn_nil, and_true] at hnb2)
        | simp (dsimp := false) (implicitDefEqProofs := false) (disch := first | assumption | (simp only [List.mem_cons, List.mem_append, true_or, or_true, eq_self]; done) | omega | (with_reducible refine Row.adr (by assumption) ?_; simp only [List.length_map, List.length_take, List.length_drop]; omega) | (simp only [List.length_cons, List.length_nil, List.length_map, List.length_append, List.length_replicate, Nat.reduceAdd, true_and, and_true, and_self]; first | done | omega)) only [go_sem, ↓reduceIte, Nat.reduceEqDiff, Nat.reduceAdd, Nat.reduceSub, Nat.reduceMul, Nat.reduceBEq, Nat.reduceLT, Nat.reduceLeDiff, Nat.reduceMod, Nat.reducePow, List.reduceReplicate, UInt8.reduceOfNat, Int.reducePow, Int.reduceDiv, Int.reduceMod, Nat.reduceDiv, Int.reduceNeg, Int.reduceAdd, Int.reduceSub, Int.reduceMul, Int.reduceLE, Int.reduceLT, Int.reduceEq, Int.reduceToNat, reduceCtorEq]
      unfold UpdR
      exact Upd.now fun _ hs => hR G1 _ hle1 hs hsl
end Go.Proofs.Ytpagkndgjihbbaa
