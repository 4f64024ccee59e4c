/- All texts of some lists, rising: the program's, which ranges over a map. -/
import Derived.Test.YtpagkndgjihbbaaVi
set_option linter.unusedSimpArgs false
set_option linter.unusedVariables false
namespace Go.Proofs.Ytpagkndgjihbbaa
open Go Go.V Go.Proofs

/-- what has been handed out of a map -/
structure Out (a : Array MapEntry) (seen : Array Nat) (out : List Tx) : Prop where
  nd : out.Nodup
  from_ : ∀ x ∈ out, ∃ e ∈ a.toList, e.key = str x ∧ seen.contains e.born = true
  to : ∀ e ∈ a.toList, seen.contains e.born = true → ∃ x ∈ out, e.key = str x
theorem Out.zero (a : Array MapEntry) : Out a #[] [] := ⟨List.nodup_nil, (by intro x hx; cases hx), (by intro e _ h; simp at h)⟩
theorem keys_inj {a : Array MapEntry} {l : List (Tx × Int)} (ha : a.toList.map (fun e => (e.key, e.val)) = entS l) (hn : (l.map (·.1)).Nodup) {e e' : MapEntry} (he : e ∈ a.toList) (he' : e' ∈ a.toList) (h : e.key = e'.key) : e = e' := by
  obtain ⟨i, hi, rfl⟩ := List.getElem_of_mem he
  obtain ⟨j, hj, rfl⟩ := List.getElem_of_mem he'
  have hl : a.toList.length = l.length := by
    have := congrArg List.length ha
    simpa [entS] using this
  have hk : ∀ k (hk : k < a.toList.length), a.toList[k].key = str (l[k]'(by omega)).1 := fun k hk => by
    have := congrArg (fun x : List (Value × Value) => x[k]?) ha
    simp only [entS, List.getElem?_map, List.getElem?_eq_getElem hk, List.getElem?_eq_getElem (show k < l.length by omega), Option.map_some, Option.some.injEq, Prod.mk.injEq] at this
    exact this.1
  rw [hk i hi, hk j hj] at h
  have h := str_inj h
  have : i = j := (List.getElem_inj (xs := l.map (·.1)) hn (h₀ := by rw [List.length_map]; omega) (h₁ := by rw [List.length_map]; omega)).1 (by simpa using h)
  subst this; rfl
theorem key_of {a : Array MapEntry} {l : List (Tx × Int)} (ha : a.toList.map (fun e => (e.key, e.val)) = entS l) {e : MapEntry} (he : e ∈ a.toList) : ∃ x ∈ l.map (·.1), e.key = str x := by
  have : (e.key, e.val) ∈ entS l := by rw [← ha]; exact List.mem_map.2 ⟨e, he, rfl⟩
  obtain ⟨p, hp, h⟩ := List.mem_map.1 this
  exact ⟨p.1, List.mem_map.2 ⟨p, hp, rfl⟩, by injection h with h1 h2; exact h1.symm⟩
theorem of_key {a : Array MapEntry} {l : List (Tx × Int)} (ha : a.toList.map (fun e => (e.key, e.val)) = entS l) {x : Tx} (hx : x ∈ l.map (·.1)) : ∃ e ∈ a.toList, e.key = str x := by
  obtain ⟨p, hp, rfl⟩ := List.mem_map.1 hx
  have : (str p.1, Value.int .i64 p.2) ∈ a.toList.map (fun e => (e.key, e.val)) := by rw [ha]; exact List.mem_map.2 ⟨p, hp, rfl⟩
  obtain ⟨e, he, h⟩ := List.mem_map.1 this
  exact ⟨e, he, by injection h⟩
theorem Out.more {a : Array MapEntry} {seen : Array Nat} {out : List Tx} (h : Out a seen out) {l : List (Tx × Int)} (ha : a.toList.map (fun e => (e.key, e.val)) = entS l) (hn : (l.map (·.1)).Nodup) (hnd : (a.toList.map (·.born)).Nodup) {e : MapEntry} (he : e ∈ (leftOf a seen).toList) {x : Tx} (hx : e.key = str x) :
    Out a (seen.push e.born) (out ++ [x]) := by
  obtain ⟨h1, h2⟩ := mem_left he
  have hxo : x ∉ out := fun hm => by
    obtain ⟨e', he', h3, h4⟩ := h.from_ x hm
    have := keys_inj ha hn h1 he' (hx.trans h3.symm)
    subst this
    rw [h4] at h2; cases h2
  refine ⟨?_, fun y hy => ?_, fun e' he' hs => ?_⟩
  · rw [List.nodup_append]
    refine ⟨h.nd, by simp, fun y hy z hz => ?_⟩
    rw [List.mem_singleton] at hz
    subst hz
    exact fun e => hxo (e ▸ hy)
  · rcases List.mem_append.1 hy with hy | hy
    · obtain ⟨e', he', h3, h4⟩ := h.from_ y hy
      exact ⟨e', he', h3, by rw [contains_push, h4]; rfl⟩
    · rw [List.mem_singleton] at hy
      subst hy
      exact ⟨e, h1, hx, by rw [contains_push]; simp⟩
  · rw [contains_push, Bool.or_eq_true] at hs
    rcases hs with hs | hs
    · obtain ⟨y, hy, h3⟩ := h.to e' he' hs
      exact ⟨y, List.mem_append_left _ hy, h3⟩
    · have hb : e'.born = e.born := by simpa using hs
      have : e' = e := by
        obtain ⟨i, hi, rfl⟩ := List.getElem_of_mem he'
        obtain ⟨j, hj, rfl⟩ := List.getElem_of_mem h1
        have : i = j := (List.getElem_inj (xs := a.toList.map (·.born)) hnd (h₀ := by rw [List.length_map]; omega) (h₁ := by rw [List.length_map]; omega)).1 (by simpa using hb)
        subst this; rfl
      subst this
      exact ⟨x, List.mem_append_right _ (List.mem_singleton.2 rfl), hx⟩
theorem Out.all {a : Array MapEntry} {seen : Array Nat} {out : List Tx} (h : Out a seen out) {l : List (Tx × Int)} (ha : a.toList.map (fun e => (e.key, e.val)) = entS l) (h0 : (leftOf a seen).size = 0) (x : Tx) : x ∈ out ↔ x ∈ l.map (·.1) := by
  constructor
  · intro hx
    obtain ⟨e, he, h1, _⟩ := h.from_ x hx
    obtain ⟨y, hy, h2⟩ := key_of ha he
    rw [h1] at h2
    rw [str_inj h2]; exact hy
  · intro hx
    obtain ⟨e, he, h1⟩ := of_key ha hx
    have hs : seen.contains e.born = true := by
      cases hc : seen.contains e.born with
      | true => rfl
      | false =>
        have hm : e ∈ leftOf a seen := by
          unfold leftOf
          rw [Array.mem_filter]
          exact ⟨Array.mem_toList_iff.1 he, by rw [hc]; rfl⟩
        have := Array.size_pos_of_mem hm
        omega
    obtain ⟨y, hy, h2⟩ := h.to e he hs
    rw [h1] at h2
    rw [str_inj h2]; exact hy
theorem setH_hd (b : Nat) (r r' : Res) (H : Heap) : setH ((b, r) :: H) b r' = (b, r') :: H := by simp [setH]
set_option maxHeartbeats 16000000 in
theorem punion_t {xss : List (List Tx)} (hlen : xss.flatten.length ≤ 8000000) (hll : xss.length ≤ 2000000) {G : PHeap} {H : Heap} {R : Value → PHeap → Heap → Prop} {v : Value} (hv : SlT G v xss)
    (hR : ∀ G' v', PLe G G' → Sep G' (keys H) → Sl G' str v' (unionS xss.flatten) → R v' G' H) : FnT Try.prog 10 [v] G H R := by
  obtain ⟨a, cap, vs, rfl, hrow, hvl, hcap, hrs⟩ := hv
  have hil0 : ∀ i (h : i < xss.length), xss[i].length ≤ 8000000 := fun i h => by
    have := (List.sublist_flatten_of_mem (List.getElem_mem h)).length_le
    omega
  refine FnT.sep ?_
  refine FnT.body tok [0, 2, 3, 5, 7, 8, 9, 11, 12, 13, 14, 17, 18, 19, 20, 30, 32] Try.func10 rfl (by kernel_rfl) (by kernel_rfl) (by show _ ≤ 42; simp) fun hsep => ?_
  rw [Try.results10]
  have hsE := hsep
  try simp only [keys_cons, keys_app, keys_nil, Sep_cons, Sep_nil, NotIn_cons, NotIn_app, NotIn_nil, List.cons_append, List.nil_append, List.append_assoc, and_assoc, and_true, true_and] at hsE
  repeat (obtain ⟨hsx, hsE⟩ := hsE)
  repeat' first
    | with_reducible refine Br.yes ?_
    | with_reducible refine Br.no ?_
    | with_reducible refine Br.dec (fun _ => ?_) (fun _ => ?_)
    | with_reducible refine Br.beqB (fun _ => ?_) (fun _ => ?_)
    | with_reducible refine Br.beqb (fun _ => ?_) (fun _ => ?_)
    | with_reducible refine Br.mk (fun _ => ?_) (fun _ => ?_)
    | with_reducible refine foundO.mk (fun _ _ => ?_) (fun _ => ?_)
    | with_reducible refine appV.zero ?_
    | with_reducible refine appV.own ?_
    | ((with_reducible refine NewB.mk fun nb hnb => ?_); have hnb1 := hnb.1.1; have hnb2 := hnb.1.2; try simp only [keys_cons, keys_app, keys_nil, NotIn_cons, NotIn_app, NotIn_nil, and_true] at hnb2)
    | ((with_reducible refine NewRow.mk fun nb nsp ncap hnb hncap => ?_); have hnb1 := hnb.1.1; have hnb2 := hnb.1.2; try simp only [keys_cons, keys_app, keys_nil, NotIn_cons, NotIn_app, NotIn_nil, and_true] at hnb2)
    | simp (dsimp := false) (implicitDefEqProofs := false) (disch := first | assumption | (simp only [List.mem_cons, List.mem_append, true_or, or_true, eq_self]; done) | omega | (with_reducible refine Row.adr (by assumption) ?_; simp only [List.length_map, List.length_take, List.length_drop]; omega) | (simp only [List.length_cons, List.length_nil, List.length_map, List.length_append, List.length_replicate, Nat.reduceAdd, true_and, and_true, and_self]; first | done | omega)) only [go_sem, ↓reduceIte, Nat.reduceEqDiff, Nat.reduceAdd, Nat.reduceSub, Nat.reduceMul, Nat.reduceBEq, Nat.reduceLT, Nat.reduceLeDiff, Nat.reduceMod, Nat.reducePow, List.reduceReplicate, UInt8.reduceOfNat, Int.reducePow, Int.reduceDiv, Int.reduceMod, Nat.reduceDiv, Int.reduceNeg, Int.reduceAdd, Int.reduceSub, Int.reduceMul, Int.reduceLE, Int.reduceLT, Int.reduceEq, Int.reduceToNat, reduceCtorEq]
  obtain ⟨bm, e0⟩ : ∃ x, x = nb := ⟨_, rfl⟩
  subst e0
  refine Tri.loopU tok [0, 2, 3, 5, 7, 8, 9, 11, 12, 13, 14, 17, 18, 19, 20, 30, 32] (by kernel_rfl) [2, 3, 11, 12, 13] (fun q G' fr H' => ∃ (i : Nat) (L : List (Tx × Int)), i + q = xss.length ∧ G' = G ∧ (L.map (·.1)).Nodup ∧ (∀ x, x ∈ L.map (·.1) ↔ x ∈ (xss.take i).flatten) ∧ (∀ p ∈ L, 0 ≤ p.2 ∧ p.2 ≤ (xss.take i).flatten.length) ∧ L.length ≤ (xss.take i).flatten.length ∧ H' = (bm, .map (entS L)) :: H ∧ fr = [(2, .slice none 0 0), (3, .map (some bm)), (11, .slice a xss.length cap), (12, .int .i64 xss.length), (13, .int .i64 (i : Nat))]) (xss.length) ?_ ?_
  · exact Upd.now ⟨0, [], by omega, rfl, List.nodup_nil, fun x => Iff.rfl, fun p hp => by (cases hp), Nat.zero_le _, rfl, rfl⟩
  · rintro q G1 fr H1 hle hs ⟨i, L, hiq, rfl, hnd, hmem, hbd, hll2, rfl, rfl⟩
    have hsE := hs
    try simp only [keys_cons, keys_app, keys_nil, Sep_cons, Sep_nil, NotIn_cons, NotIn_app, NotIn_nil, List.cons_append, List.nil_append, List.append_assoc, and_assoc, and_true, true_and] at hsE
    repeat (obtain ⟨hsx, hsE⟩ := hsE)
    have htl : (xss.take i).flatten.length ≤ 8000000 := by
      have e := congrArg (fun l : List (List Tx) => l.flatten.length) (List.take_append_drop i xss)
      simp only [List.flatten_append, List.length_append] at e
      omega
    by_cases hil : i < xss.length
    · have had : Adr a := hrow.adr (by omega)
      obtain ⟨b, c, e1, e2, e3⟩ := hrs i hil (by omega)
      obtain ⟨xs, hxs⟩ : ∃ xs, xs = xss[i] := ⟨_, rfl⟩
      have hxl := hil0 i hil
      rw [← hxs] at e1 e2 e3 hxl
      have htk : (xss.take (i + 1)).flatten = (xss.take i).flatten ++ xs := by rw [List.take_succ_eq_append_getElem hil, List.flatten_append, hxs]; simp
      repeat' first
        | with_reducible refine Br.yes ?_
        | with_reducible refine Br.no ?_
        | with_reducible refine Br.dec (fun _ => ?_) (fun _ => ?_)
        | with_reducible refine Br.beqB (fun _ => ?_) (fun _ => ?_)
        | with_reducible refine Br.beqb (fun _ => ?_) (fun _ => ?_)
        | with_reducible refine Br.mk (fun _ => ?_) (fun _ => ?_)
        | with_reducible refine foundO.mk (fun _ _ => ?_) (fun _ => ?_)
        | with_reducible refine appV.zero ?_
        | with_reducible refine appV.own ?_
        | ((with_reducible refine NewB.mk fun nb hnb => ?_); have hnb1 := hnb.1.1; have hnb2 := hnb.1.2; try simp only [keys_cons, keys_app, keys_nil, NotIn_cons, NotIn_app, NotIn_nil, and_true] at hnb2)
        | ((with_reducible refine NewRow.mk fun nb nsp ncap hnb hncap => ?_); have hnb1 := hnb.1.1; have hnb2 := hnb.1.2; try simp only [keys_cons, keys_app, keys_nil, NotIn_cons, NotIn_app, NotIn_nil, and_true] at hnb2)
        | simp (dsimp := false) (implicitDefEqProofs := false) (disch := first | assumption | (simp only [List.mem_cons, List.mem_append, true_or, or_true, eq_self]; done) | omega | (with_reducible refine Row.adr (by assumption) ?_; simp only [List.length_map, List.length_take, List.length_drop]; omega) | (simp only [List.length_cons, List.length_nil, List.length_map, List.length_append, List.length_replicate, Nat.reduceAdd, true_and, and_true, and_self]; first | done | omega)) only [go_sem, ↓reduceIte, Nat.reduceEqDiff, Nat.reduceAdd, Nat.reduceSub, Nat.reduceMul, Nat.reduceBEq, Nat.reduceLT, Nat.reduceLeDiff, Nat.reduceMod, Nat.reducePow, List.reduceReplicate, UInt8.reduceOfNat, Int.reducePow, Int.reduceDiv, Int.reduceMod, Nat.reduceDiv, Int.reduceNeg, Int.reduceAdd, Int.reduceSub, Int.reduceMul, Int.reduceLE, Int.reduceLT, Int.reduceEq, Int.reduceToNat, reduceCtorEq, Row.obj hrow, e1]
      refine Tri.loopU tok [0, 2, 3, 5, 7, 8, 9, 11, 12, 13, 14, 17, 18, 19, 20, 30, 32] (by kernel_rfl) [2, 3, 11, 12, 13, 17, 18, 19] (fun q2 G' fr H' => ∃ (j : Nat) (L : List (Tx × Int)), j + q2 = xs.length ∧ G' = G1 ∧ (L.map (·.1)).Nodup ∧ (∀ x, x ∈ L.map (·.1) ↔ x ∈ (xss.take i).flatten ++ xs.take j) ∧ (∀ p ∈ L, 0 ≤ p.2 ∧ p.2 ≤ (((xss.take i).flatten.length + j : Nat) : Int)) ∧ L.length ≤ (xss.take i).flatten.length + j ∧ H' = (bm, .map (entS L)) :: H ∧ fr = [(2, .slice none 0 0), (3, .map (some bm)), (11, .slice a xss.length cap), (12, .int .i64 xss.length), (13, .int .i64 (i : Nat)), (17, .slice b xs.length c), (18, .int .i64 xs.length), (19, .int .i64 (j : Nat))]) (xs.length) ?_ ?_
      · exact Upd.now ⟨0, L, by omega, rfl, hnd, fun x => by rw [List.take_zero, List.append_nil]; exact hmem x, fun p hp => by rw [Nat.add_zero]; exact hbd p hp, by omega, rfl, rfl⟩
      · rintro q2 G2 fr H2 hle2 hs2 ⟨j, L, hjq, rfl, hnd, hmem, hbd, hll3, rfl, rfl⟩
        have hsE := hs2
        try simp only [keys_cons, keys_app, keys_nil, Sep_cons, Sep_nil, NotIn_cons, NotIn_app, NotIn_nil, List.cons_append, List.nil_append, List.append_assoc, and_assoc, and_true, true_and] at hsE
        repeat (obtain ⟨hsx, hsE⟩ := hsE)
        by_cases hjl : j < xs.length
        · have had2 : Adr b := e2.adr (by rw [List.length_map]; omega)
          have hget := findV_enc hesT (Value.int .i64) xs[j] L
          have hput := fun v => putV_enc hesT (Value.int .i64) xs[j] v L
          have hgb : ∀ n, aget xs[j] L = some n → 0 ≤ n ∧ n ≤ 20000000 := fun n hn => by
            have := hbd _ (aget_mem hn)
            simp only at this
            omega
          have hgb2 : ∀ n, aget xs[j] L = some n → 0 ≤ n + 1 ∧ n + 1 ≤ (((xss.take i).flatten.length + (j + 1) : Nat) : Int) := fun n hn => by
            have := hbd _ (aget_mem hn)
            simp only at this
            omega
          have hmem' : ∀ n x, x ∈ (aput xs[j] n L).map (·.1) ↔ x ∈ (xss.take i).flatten ++ xs.take (j + 1) := fun n x => by
            rw [aput_keys, hmem, List.take_succ_eq_append_getElem hjl, ← List.append_assoc, List.mem_append (t := [xs[j]]), List.mem_singleton]
          have hwid : ∀ p ∈ L, 0 ≤ p.2 ∧ p.2 ≤ (((xss.take i).flatten.length + (j + 1) : Nat) : Int) := fun p hp => by
            have := hbd p hp
            omega
          repeat' first
            | with_reducible refine Br.yes ?_
            | with_reducible refine Br.no ?_
            | with_reducible refine Br.dec (fun _ => ?_) (fun _ => ?_)
            | with_reducible refine Br.beqB (fun _ => ?_) (fun _ => ?_)
            | with_reducible refine Br.beqb (fun _ => ?_) (fun _ => ?_)
            | with_reducible refine Br.mk (fun _ => ?_) (fun _ => ?_)
            | with_reducible refine foundO.mk (fun _ _ => ?_) (fun _ => ?_)
            | with_reducible refine appV.zero ?_
            | with_reducible refine appV.own ?_
            | ((with_reducible refine NewB.mk fun nb hnb => ?_); have hnb1 := hnb.1.1; have hnb2 := hnb.1.2; try simp only [keys_cons, keys_app, keys_nil, NotIn_cons, NotIn_app, NotIn_nil, and_true] at hnb2)
            | ((with_reducible refine NewRow.mk fun nb nsp ncap hnb hncap => ?_); have hnb1 := hnb.1.1; have hnb2 := hnb.1.2; try simp only [keys_cons, keys_app, keys_nil, NotIn_cons, NotIn_app, NotIn_nil, and_true] at hnb2)
            | simp (dsimp := false) (implicitDefEqProofs := false) (disch := first | assumption | (simp only [List.mem_cons, List.mem_append, true_or, or_true, eq_self]; done) | omega | (with_reducible refine Row.adr (by assumption) ?_; simp only [List.length_map, List.length_take, List.length_drop]; omega) | (simp only [List.length_cons, List.length_nil, List.length_map, List.length_append, List.length_replicate, Nat.reduceAdd, true_and, and_true, and_self]; first | done | omega)) only [go_sem, ↓reduceIte, Nat.reduceEqDiff, Nat.reduceAdd, Nat.reduceSub, Nat.reduceMul, Nat.reduceBEq, Nat.reduceLT, Nat.reduceLeDiff, Nat.reduceMod, Nat.reducePow, List.reduceReplicate, UInt8.reduceOfNat, Int.reducePow, Int.reduceDiv, Int.reduceMod, Nat.reduceDiv, Int.reduceNeg, Int.reduceAdd, Int.reduceSub, Int.reduceMul, Int.reduceLE, Int.reduceLT, Int.reduceEq, Int.reduceToNat, reduceCtorEq, Row.obj e2, List.getElem_map, entS, hget, hput, keyOk_enc hesT]
          · rename_i n hn
            rw [wrap_i64 (by have := hgb n hn; omega) (by have := hgb n hn; omega)]
            exact Upd.now ⟨q2 - 1, by omega, j + 1, aput xs[j] (n + 1) L, by omega, rfl, aput_nodup hnd, hmem' _, aput_bound (hgb2 n hn) hwid, by have := aput_len (k := xs[j]) (v := n + 1) L; omega, rfl, rfl⟩
          · exact Upd.now ⟨q2 - 1, by omega, j + 1, aput xs[j] 1 L, by omega, rfl, aput_nodup hnd, hmem' _, aput_bound (by omega) hwid, by have := aput_len (k := xs[j]) (v := 1) L; omega, rfl, rfl⟩
        · obtain rfl : j = xs.length := by omega
          rw [List.take_length, ← htk] at hmem
          repeat' first
            | with_reducible refine Br.yes ?_
            | with_reducible refine Br.no ?_
            | with_reducible refine Br.dec (fun _ => ?_) (fun _ => ?_)
            | with_reducible refine Br.beqB (fun _ => ?_) (fun _ => ?_)
            | with_reducible refine Br.beqb (fun _ => ?_) (fun _ => ?_)
            | with_reducible refine Br.mk (fun _ => ?_) (fun _ => ?_)
            | with_reducible refine foundO.mk (fun _ _ => ?_) (fun _ => ?_)
            | with_reducible refine appV.zero ?_
            | with_reducible refine appV.own ?_
            | ((with_reducible refine NewB.mk fun nb hnb => ?_); have hnb1 := hnb.1.1; have hnb2 := hnb.1.2; try simp only [keys_cons, keys_app, keys_nil, NotIn_cons, NotIn_app, NotIn_nil, and_true] at hnb2)
            | ((with_reducible refine NewRow.mk fun nb nsp ncap hnb hncap => ?_); have hnb1 := hnb.1.1; have hnb2 := hnb.1.2; try simp only [keys_cons, keys_app, keys_nil, NotIn_cons, NotIn_app, NotIn_nil, and_true] at hnb2)
            | simp (dsimp := false) (implicitDefEqProofs := false) (disch := first | assumption | (simp only [List.mem_cons, List.mem_append, true_or, or_true, eq_self]; done) | omega | (with_reducible refine Row.adr (by assumption) ?_; simp only [List.length_map, List.length_take, List.length_drop]; omega) | (simp only [List.length_cons, List.length_nil, List.length_map, List.length_append, List.length_replicate, Nat.reduceAdd, true_and, and_true, and_self]; first | done | omega)) only [go_sem, ↓reduceIte, Nat.reduceEqDiff, Nat.reduceAdd, Nat.reduceSub, Nat.reduceMul, Nat.reduceBEq, Nat.reduceLT, Nat.reduceLeDiff, Nat.reduceMod, Nat.reducePow, List.reduceReplicate, UInt8.reduceOfNat, Int.reducePow, Int.reduceDiv, Int.reduceMod, Nat.reduceDiv, Int.reduceNeg, Int.reduceAdd, Int.reduceSub, Int.reduceMul, Int.reduceLE, Int.reduceLT, Int.reduceEq, Int.reduceToNat, reduceCtorEq]
          exact Upd.now ⟨q - 1, by omega, i + 1, L, by omega, rfl, hnd, hmem, fun p hp => by have := hbd p hp; rw [htk, List.length_append]; exact this, by rw [htk, List.length_append]; exact hll3, rfl, rfl⟩
    · obtain rfl : i = xss.length := by omega
      rw [List.take_length] at hmem hbd hll2
      repeat' first
        | with_reducible refine Br.yes ?_
        | with_reducible refine Br.no ?_
        | with_reducible refine Br.dec (fun _ => ?_) (fun _ => ?_)
        | with_reducible refine Br.beqB (fun _ => ?_) (fun _ => ?_)
        | with_reducible refine Br.beqb (fun _ => ?_) (fun _ => ?_)
        | with_reducible refine Br.mk (fun _ => ?_) (fun _ => ?_)
        | with_reducible refine foundO.mk (fun _ _ => ?_) (fun _ => ?_)
        | with_reducible refine appV.zero ?_
        | with_reducible refine appV.own ?_
        | ((with_reducible refine NewB.mk fun nb hnb => ?_); have hnb1 := hnb.1.1; have hnb2 := hnb.1.2; try simp only [keys_cons, keys_app, keys_nil, NotIn_cons, NotIn_app, NotIn_nil, and_true] at hnb2)
        | ((with_reducible refine NewRow.mk fun nb nsp ncap hnb hncap => ?_); have hnb1 := hnb.1.1; have hnb2 := hnb.1.2; try simp only [keys_cons, keys_app, keys_nil, NotIn_cons, NotIn_app, NotIn_nil, and_true] at hnb2)
        | simp (dsimp := false) (implicitDefEqProofs := false) (disch := first | assumption | (simp only [List.mem_cons, List.mem_append, true_or, or_true, eq_self]; done) | omega | (with_reducible refine Row.adr (by assumption) ?_; simp only [List.length_map, List.length_take, List.length_drop]; omega) | (simp only [List.length_cons, List.length_nil, List.length_map, List.length_append, List.length_replicate, Nat.reduceAdd, true_and, and_true, and_self]; first | done | omega)) only [go_sem, ↓reduceIte, Nat.reduceEqDiff, Nat.reduceAdd, Nat.reduceSub, Nat.reduceMul, Nat.reduceBEq, Nat.reduceLT, Nat.reduceLeDiff, Nat.reduceMod, Nat.reducePow, List.reduceReplicate, UInt8.reduceOfNat, Int.reducePow, Int.reduceDiv, Int.reduceMod, Nat.reduceDiv, Int.reduceNeg, Int.reduceAdd, Int.reduceSub, Int.reduceMul, Int.reduceLE, Int.reduceLT, Int.reduceEq, Int.reduceToNat, reduceCtorEq]
      intro am ca ha hnb0 hold b hsb
      have hal : am.size = L.length := by
        have := congrArg List.length ha
        simpa [entS] using this
      have hl0 : (leftOf am #[]).size ≤ am.size := Array.size_filter_le
      refine Tri.loopU tok [0, 2, 3, 5, 7, 8, 9, 11, 12, 13, 14, 17, 18, 19, 20, 30, 32] (by kernel_rfl) [3, 8, 30] (fun q G' fr H' => ∃ (seen : Array Nat) (out : List Tx) (vs : Value) (ko : Heap), (leftOf am seen).size = q ∧ G' = G1 ∧ Out am seen out ∧ out.length + (leftOf am seen).size ≤ am.size ∧ SliceO [] 9 1 vs out.length (out.map str) ko ∧ H' = (b, IterB bm ca seen ca) :: (bm, MapB am ca) :: (ko ++ H) ∧ fr = [(3, .map (some bm)), (8, vs), (30, .pointer (some ⟨b, 0, none⟩))]) ((leftOf am #[]).size) ?_ ?_
      · rw [setH_hd]
        exact Upd.now ⟨#[], [], _, [], rfl, rfl, Out.zero am, by simpa using hl0, .inl ⟨none, rfl, rfl, rfl, rfl⟩, rfl, rfl⟩
      · rintro q2 G2 fr H2 hle2 hs2 ⟨seen, out, vs, ko, hq, rfl, ho, hol, hks, rfl, rfl⟩
        rcases hks with ⟨aa, rfl, hi0, hx, rfl⟩ | ⟨bl, cc, sp, rfl, rfl, hx, hcl⟩
        · have hsE := hs2
          try simp only [keys_cons, keys_app, keys_nil, Sep_cons, Sep_nil, NotIn_cons, NotIn_app, NotIn_nil, List.cons_append, List.nil_append, List.append_assoc, and_assoc, and_true, true_and] at hsE
          repeat (obtain ⟨hsx, hsE⟩ := hsE)
          repeat' first
            | with_reducible refine Br.yes ?_
            | with_reducible refine Br.no ?_
            | with_reducible refine Br.dec (fun _ => ?_) (fun _ => ?_)
            | with_reducible refine Br.beqB (fun _ => ?_) (fun _ => ?_)
            | with_reducible refine Br.beqb (fun _ => ?_) (fun _ => ?_)
            | with_reducible refine Br.mk (fun _ => ?_) (fun _ => ?_)
            | with_reducible refine foundO.mk (fun _ _ => ?_) (fun _ => ?_)
            | with_reducible refine appV.zero ?_
            | with_reducible refine appV.own ?_
            | ((with_reducible refine NewB.mk fun nb hnb => ?_); have hnb1 := hnb.1.1; have hnb2 := hnb.1.2; try simp only [keys_cons, keys_app, keys_nil, NotIn_cons, NotIn_app, NotIn_nil, and_true] at hnb2)
            | ((with_reducible refine NewRow.mk fun nb nsp ncap hnb hncap => ?_); have hnb1 := hnb.1.1; have hnb2 := hnb.1.2; try simp only [keys_cons, keys_app, keys_nil, NotIn_cons, NotIn_app, NotIn_nil, and_true] at hnb2)
            | simp (dsimp := false) (implicitDefEqProofs := false) (disch := first | assumption | (simp only [List.mem_cons, List.mem_append, true_or, or_true, eq_self]; done) | omega | (with_reducible refine Row.adr (by assumption) ?_; simp only [List.length_map, List.length_take, List.length_drop]; omega) | (simp only [List.length_cons, List.length_nil, List.length_map, List.length_append, List.length_replicate, Nat.reduceAdd, true_and, and_true, and_self]; first | done | omega)) only [go_sem, ↓reduceIte, Nat.reduceEqDiff, Nat.reduceAdd, Nat.reduceSub, Nat.reduceMul, Nat.reduceBEq, Nat.reduceLT, Nat.reduceLeDiff, Nat.reduceMod, Nat.reducePow, List.reduceReplicate, UInt8.reduceOfNat, Int.reducePow, Int.reduceDiv, Int.reduceMod, Nat.reduceDiv, Int.reduceNeg, Int.reduceAdd, Int.reduceSub, Int.reduceMul, Int.reduceLE, Int.reduceLT, Int.reduceEq, Int.reduceToNat, reduceCtorEq]
          refine ⟨b, bm, ca, seen, ca, am, ca, rfl, by simp [findH], by simp [findH, show ¬b = bm by assumption], hold, Nat.le_refl _, fun h0 => ?_, fun e he => ?_⟩
          · have hall := ho.all ha h0
            have hus : unionS xss.flatten = [] := List.eq_nil_iff_forall_not_mem.2 fun x hx => by
              rw [mem_unionS, ← hmem, ← hall, List.eq_nil_of_length_eq_zero hi0] at hx; cases hx
            repeat' first
              | with_reducible refine Br.yes ?_
              | with_reducible refine Br.no ?_
              | with_reducible refine Br.dec (fun _ => ?_) (fun _ => ?_)
              | with_reducible refine Br.beqB (fun _ => ?_) (fun _ => ?_)
              | with_reducible refine Br.beqb (fun _ => ?_) (fun _ => ?_)
              | with_reducible refine Br.mk (fun _ => ?_) (fun _ => ?_)
              | with_reducible refine foundO.mk (fun _ _ => ?_) (fun _ => ?_)
              | with_reducible refine appV.zero ?_
              | with_reducible refine appV.own ?_
              | ((with_reducible refine NewB.mk fun nb hnb => ?_); have hnb1 := hnb.1.1; have hnb2 := hnb.1.2; try simp only [keys_cons, keys_app, keys_nil, NotIn_cons, NotIn_app, NotIn_nil, and_true] at hnb2)
              | ((with_reducible refine NewRow.mk fun nb nsp ncap hnb hncap => ?_); have hnb1 := hnb.1.1; have hnb2 := hnb.1.2; try simp only [keys_cons, keys_app, keys_nil, NotIn_cons, NotIn_app, NotIn_nil, and_true] at hnb2)
              | simp (dsimp := false) (implicitDefEqProofs := false) (disch := first | assumption | (simp only [List.mem_cons, List.mem_append, true_or, or_true, eq_self]; done) | omega | (with_reducible refine Row.adr (by assumption) ?_; simp only [List.length_map, List.length_take, List.length_drop]; omega) | (simp only [List.length_cons, List.length_nil, List.length_map, List.length_append, List.length_replicate, Nat.reduceAdd, true_and, and_true, and_self]; first | done | omega)) only [go_sem, ↓reduceIte, Nat.reduceEqDiff, Nat.reduceAdd, Nat.reduceSub, Nat.reduceMul, Nat.reduceBEq, Nat.reduceLT, Nat.reduceLeDiff, Nat.reduceMod, Nat.reducePow, List.reduceReplicate, UInt8.reduceOfNat, Int.reducePow, Int.reduceDiv, Int.reduceMod, Nat.reduceDiv, Int.reduceNeg, Int.reduceAdd, Int.reduceSub, Int.reduceMul, Int.reduceLE, Int.reduceLT, Int.reduceEq, Int.reduceToNat, reduceCtorEq]
              | with_reducible refine sortS0_t ?_
            unfold UpdR
            refine Upd.leave (H' := H) (by intro fsum; first | exact Nat.le_refl _ | (simp only [List.map_append, List.map_cons, List.map_nil, List.sum_append, List.sum_cons, List.sum_nil, List.cons_append, List.nil_append]; omega)) ?_
            exact fun _ hs => hR G2 _ (PLe.refl _) hs ⟨_, 0, by rw [hus]; rfl, by rw [hus]; exact Row.nil _ _, by rw [hus]; exact Nat.le_refl _⟩
          · obtain ⟨x, hxl, hxe⟩ := key_of ha (mem_left he).1
            have hsh := left_shrinks am seen e he
            repeat' first
              | with_reducible refine Br.yes ?_
              | with_reducible refine Br.no ?_
              | with_reducible refine Br.dec (fun _ => ?_) (fun _ => ?_)
              | with_reducible refine Br.beqB (fun _ => ?_) (fun _ => ?_)
              | with_reducible refine Br.beqb (fun _ => ?_) (fun _ => ?_)
              | with_reducible refine Br.mk (fun _ => ?_) (fun _ => ?_)
              | with_reducible refine foundO.mk (fun _ _ => ?_) (fun _ => ?_)
              | with_reducible refine appV.zero ?_
              | with_reducible refine appV.own ?_
              | ((with_reducible refine NewB.mk fun nb hnb => ?_); have hnb1 := hnb.1.1; have hnb2 := hnb.1.2; try simp only [keys_cons, keys_app, keys_nil, NotIn_cons, NotIn_app, NotIn_nil, and_true] at hnb2)
              | ((with_reducible refine NewRow.mk fun nb nsp ncap hnb hncap => ?_); have hnb1 := hnb.1.1; have hnb2 := hnb.1.2; try simp only [keys_cons, keys_app, keys_nil, NotIn_cons, NotIn_app, NotIn_nil, and_true] at hnb2)
              | simp (dsimp := false) (implicitDefEqProofs := false) (disch := first | assumption | (simp only [List.mem_cons, List.mem_append, true_or, or_true, eq_self]; done) | omega | (with_reducible refine Row.adr (by assumption) ?_; simp only [List.length_map, List.length_take, List.length_drop]; omega) | (simp only [List.length_cons, List.length_nil, List.length_map, List.length_append, List.length_replicate, Nat.reduceAdd, true_and, and_true, and_self]; first | done | omega)) only [go_sem, ↓reduceIte, Nat.reduceEqDiff, Nat.reduceAdd, Nat.reduceSub, Nat.reduceMul, Nat.reduceBEq, Nat.reduceLT, Nat.reduceLeDiff, Nat.reduceMod, Nat.reducePow, List.reduceReplicate, UInt8.reduceOfNat, Int.reducePow, Int.reduceDiv, Int.reduceMod, Nat.reduceDiv, Int.reduceNeg, Int.reduceAdd, Int.reduceSub, Int.reduceMul, Int.reduceLE, Int.reduceLT, Int.reduceEq, Int.reduceToNat, reduceCtorEq]
            refine ⟨b, bm, ca, seen, ca, am, e, rfl, by simp [findH], by simp [findH, show ¬b = bm by assumption], (mem_left he).1, hnb0, ?_⟩
            rw [hxe]
            repeat' first
              | with_reducible refine Br.yes ?_
              | with_reducible refine Br.no ?_
              | with_reducible refine Br.dec (fun _ => ?_) (fun _ => ?_)
              | with_reducible refine Br.beqB (fun _ => ?_) (fun _ => ?_)
              | with_reducible refine Br.beqb (fun _ => ?_) (fun _ => ?_)
              | with_reducible refine Br.mk (fun _ => ?_) (fun _ => ?_)
              | with_reducible refine foundO.mk (fun _ _ => ?_) (fun _ => ?_)
              | with_reducible refine appV.zero ?_
              | with_reducible refine appV.own ?_
              | ((with_reducible refine NewB.mk fun nb hnb => ?_); have hnb1 := hnb.1.1; have hnb2 := hnb.1.2; try simp only [keys_cons, keys_app, keys_nil, NotIn_cons, NotIn_app, NotIn_nil, and_true] at hnb2)
              | ((with_reducible refine NewRow.mk fun nb nsp ncap hnb hncap => ?_); have hnb1 := hnb.1.1; have hnb2 := hnb.1.2; try simp only [keys_cons, keys_app, keys_nil, NotIn_cons, NotIn_app, NotIn_nil, and_true] at hnb2)
              | simp (dsimp := false) (implicitDefEqProofs := false) (disch := first | assumption | (simp only [List.mem_cons, List.mem_append, true_or, or_true, eq_self]; done) | omega | (with_reducible refine Row.adr (by assumption) ?_; simp only [List.length_map, List.length_take, List.length_drop]; omega) | (simp only [List.length_cons, List.length_nil, List.length_map, List.length_append, List.length_replicate, Nat.reduceAdd, true_and, and_true, and_self]; first | done | omega)) only [go_sem, ↓reduceIte, Nat.reduceEqDiff, Nat.reduceAdd, Nat.reduceSub, Nat.reduceMul, Nat.reduceBEq, Nat.reduceLT, Nat.reduceLeDiff, Nat.reduceMod, Nat.reducePow, List.reduceReplicate, UInt8.reduceOfNat, Int.reducePow, Int.reduceDiv, Int.reduceMod, Nat.reduceDiv, Int.reduceNeg, Int.reduceAdd, Int.reduceSub, Int.reduceMul, Int.reduceLE, Int.reduceLT, Int.reduceEq, Int.reduceToNat, reduceCtorEq]
            refine Upd.leave (H' := (b, IterB bm ca (seen.push e.born) ca) :: (bm, MapB am ca) :: ([(nb, .cells [str x] nsp 9)] ++ H)) (by intro fsum; first | exact Nat.le_refl _ | (simp only [List.map_append, List.map_cons, List.map_nil, List.sum_append, List.sum_cons, List.sum_nil, List.cons_append, List.nil_append]; omega)) ?_
            exact ⟨(leftOf am (seen.push e.born)).size, by omega, _, out ++ [x], _, _, rfl, rfl, ho.more ha hnd hnb0 he hxe, by rw [List.length_append, List.length_singleton]; omega, .inr ⟨nb, ncap, nsp, by rw [List.length_append, hi0]; rfl, by rw [List.map_append, hx]; rfl, by rw [List.length_map, Nat.mul_one], by rw [List.map_append, hx]; simp at hncap ⊢; omega⟩, rfl, rfl⟩
        · rw [List.length_map, Nat.mul_one] at hx hcl
          have hsE := hs2
          try simp only [keys_cons, keys_app, keys_nil, Sep_cons, Sep_nil, NotIn_cons, NotIn_app, NotIn_nil, List.cons_append, List.nil_append, List.append_assoc, and_assoc, and_true, true_and] at hsE
          repeat (obtain ⟨hsx, hsE⟩ := hsE)
          repeat' first
            | with_reducible refine Br.yes ?_
            | with_reducible refine Br.no ?_
            | with_reducible refine Br.dec (fun _ => ?_) (fun _ => ?_)
            | with_reducible refine Br.beqB (fun _ => ?_) (fun _ => ?_)
            | with_reducible refine Br.beqb (fun _ => ?_) (fun _ => ?_)
            | with_reducible refine Br.mk (fun _ => ?_) (fun _ => ?_)
            | with_reducible refine foundO.mk (fun _ _ => ?_) (fun _ => ?_)
            | with_reducible refine appV.zero ?_
            | with_reducible refine appV.own ?_
            | ((with_reducible refine NewB.mk fun nb hnb => ?_); have hnb1 := hnb.1.1; have hnb2 := hnb.1.2; try simp only [keys_cons, keys_app, keys_nil, NotIn_cons, NotIn_app, NotIn_nil, and_true] at hnb2)
            | ((with_reducible refine NewRow.mk fun nb nsp ncap hnb hncap => ?_); have hnb1 := hnb.1.1; have hnb2 := hnb.1.2; try simp only [keys_cons, keys_app, keys_nil, NotIn_cons, NotIn_app, NotIn_nil, and_true] at hnb2)
            | simp (dsimp := false) (implicitDefEqProofs := false) (disch := first | assumption | (simp only [List.mem_cons, List.mem_append, true_or, or_true, eq_self]; done) | omega | (with_reducible refine Row.adr (by assumption) ?_; simp only [List.length_map, List.length_take, List.length_drop]; omega) | (simp only [List.length_cons, List.length_nil, List.length_map, List.length_append, List.length_replicate, Nat.reduceAdd, true_and, and_true, and_self]; first | done | omega)) only [go_sem, ↓reduceIte, Nat.reduceEqDiff, Nat.reduceAdd, Nat.reduceSub, Nat.reduceMul, Nat.reduceBEq, Nat.reduceLT, Nat.reduceLeDiff, Nat.reduceMod, Nat.reducePow, List.reduceReplicate, UInt8.reduceOfNat, Int.reducePow, Int.reduceDiv, Int.reduceMod, Nat.reduceDiv, Int.reduceNeg, Int.reduceAdd, Int.reduceSub, Int.reduceMul, Int.reduceLE, Int.reduceLT, Int.reduceEq, Int.reduceToNat, reduceCtorEq]
          refine ⟨b, bm, ca, seen, ca, am, ca, rfl, by simp [findH], by simp [findH, show ¬b = bm by assumption], hold, Nat.le_refl _, fun h0 => ?_, fun e he => ?_⟩
          · have hall := ho.all ha h0
            have hus : sortS out = unionS xss.flatten := rising_eq (sortS_rising ho.nd) (unionS_rising _) fun x => by rw [mem_sortS, mem_unionS, hall, hmem]
            repeat' first
              | with_reducible refine Br.yes ?_
              | with_reducible refine Br.no ?_
              | with_reducible refine Br.dec (fun _ => ?_) (fun _ => ?_)
              | with_reducible refine Br.beqB (fun _ => ?_) (fun _ => ?_)
              | with_reducible refine Br.beqb (fun _ => ?_) (fun _ => ?_)
              | with_reducible refine Br.mk (fun _ => ?_) (fun _ => ?_)
              | with_reducible refine foundO.mk (fun _ _ => ?_) (fun _ => ?_)
              | with_reducible refine appV.zero ?_
              | with_reducible refine appV.own ?_
              | ((with_reducible refine NewB.mk fun nb hnb => ?_); have hnb1 := hnb.1.1; have hnb2 := hnb.1.2; try simp only [keys_cons, keys_app, keys_nil, NotIn_cons, NotIn_app, NotIn_nil, and_true] at hnb2)
              | ((with_reducible refine NewRow.mk fun nb nsp ncap hnb hncap => ?_); have hnb1 := hnb.1.1; have hnb2 := hnb.1.2; try simp only [keys_cons, keys_app, keys_nil, NotIn_cons, NotIn_app, NotIn_nil, and_true] at hnb2)
              | simp (dsimp := false) (implicitDefEqProofs := false) (disch := first | assumption | (simp only [List.mem_cons, List.mem_append, true_or, or_true, eq_self]; done) | omega | (with_reducible refine Row.adr (by assumption) ?_; simp only [List.length_map, List.length_take, List.length_drop]; omega) | (simp only [List.length_cons, List.length_nil, List.length_map, List.length_append, List.length_replicate, Nat.reduceAdd, true_and, and_true, and_self]; first | done | omega)) only [go_sem, ↓reduceIte, Nat.reduceEqDiff, Nat.reduceAdd, Nat.reduceSub, Nat.reduceMul, Nat.reduceBEq, Nat.reduceLT, Nat.reduceLeDiff, Nat.reduceMod, Nat.reducePow, List.reduceReplicate, UInt8.reduceOfNat, Int.reducePow, Int.reduceDiv, Int.reduceMod, Nat.reduceDiv, Int.reduceNeg, Int.reduceAdd, Int.reduceSub, Int.reduceMul, Int.reduceLE, Int.reduceLT, Int.reduceEq, Int.reduceToNat, reduceCtorEq]
            refine FnT.leave (H' := (bl, .cells (out.map str) sp 9) :: H) ?_ (by intro fsum; first | exact Nat.le_refl _ | (simp only [List.map_append, List.map_cons, List.map_nil, List.sum_append, List.sum_cons, List.sum_nil, List.cons_append, List.nil_append]; omega))
            refine sortS_t (by omega) ?_
            repeat' first
              | with_reducible refine Br.yes ?_
              | with_reducible refine Br.no ?_
              | with_reducible refine Br.dec (fun _ => ?_) (fun _ => ?_)
              | with_reducible refine Br.beqB (fun _ => ?_) (fun _ => ?_)
              | with_reducible refine Br.beqb (fun _ => ?_) (fun _ => ?_)
              | with_reducible refine Br.mk (fun _ => ?_) (fun _ => ?_)
              | with_reducible refine foundO.mk (fun _ _ => ?_) (fun _ => ?_)
              | with_reducible refine appV.zero ?_
              | with_reducible refine appV.own ?_
              | ((with_reducible refine NewB.mk fun nb hnb => ?_); have hnb1 := hnb.1.1; have hnb2 := hnb.1.2; try simp only [keys_cons, keys_app, keys_nil, NotIn_cons, NotIn_app, NotIn_nil, and_true] at hnb2)
              | ((with_reducible refine NewRow.mk fun nb nsp ncap hnb hncap => ?_); have hnb1 := hnb.1.1; have hnb2 := hnb.1.2; try simp only [keys_cons, keys_app, keys_nil, NotIn_cons, NotIn_app, NotIn_nil, and_true] at hnb2)
              | simp (dsimp := false) (implicitDefEqProofs := false) (disch := first | assumption | (simp only [List.mem_cons, List.mem_append, true_or, or_true, eq_self]; done) | omega | (with_reducible refine Row.adr (by assumption) ?_; simp only [List.length_map, List.length_take, List.length_drop]; omega) | (simp only [List.length_cons, List.length_nil, List.length_map, List.length_append, List.length_replicate, Nat.reduceAdd, true_and, and_true, and_self]; first | done | omega)) only [go_sem, ↓reduceIte, Nat.reduceEqDiff, Nat.reduceAdd, Nat.reduceSub, Nat.reduceMul, Nat.reduceBEq, Nat.reduceLT, Nat.reduceLeDiff, Nat.reduceMod, Nat.reducePow, List.reduceReplicate, UInt8.reduceOfNat, Int.reducePow, Int.reduceDiv, Int.reduceMod, Nat.reduceDiv, Int.reduceNeg, Int.reduceAdd, Int.reduceSub, Int.reduceMul, Int.reduceLE, Int.reduceLT, Int.reduceEq, Int.reduceToNat, reduceCtorEq]
            unfold UpdR
            refine Upd.go (H' := (bl, .cells ((sortS out).map str) sp 9) :: H) (by intro fsum; first | exact Nat.le_refl _ | (simp only [List.map_append, List.map_cons, List.map_nil, List.sum_append, List.sum_cons, List.sum_nil, List.cons_append, List.nil_append]; omega)) (Upd.shareRow (by assumption) fun G9 hle9 hs9 hr9 => ?_)
            rw [hus] at hr9
            exact fun _ hs => hR G9 _ hle9 hs ⟨some ⟨bl, 0, none⟩, cc, by rw [← hus, sortS_len], hr9, by rw [← hus, sortS_len]; omega⟩
          · obtain ⟨x, hxl, hxe⟩ := key_of ha (mem_left he).1
            have hsh := left_shrinks am seen e he
            repeat' first
              | with_reducible refine Br.yes ?_
              | with_reducible refine Br.no ?_
              | with_reducible refine Br.dec (fun _ => ?_) (fun _ => ?_)
              | with_reducible refine Br.beqB (fun _ => ?_) (fun _ => ?_)
              | with_reducible refine Br.beqb (fun _ => ?_) (fun _ => ?_)
              | with_reducible refine Br.mk (fun _ => ?_) (fun _ => ?_)
              | with_reducible refine foundO.mk (fun _ _ => ?_) (fun _ => ?_)
              | with_reducible refine appV.zero ?_
              | with_reducible refine appV.own ?_
              | ((with_reducible refine NewB.mk fun nb hnb => ?_); have hnb1 := hnb.1.1; have hnb2 := hnb.1.2; try simp only [keys_cons, keys_app, keys_nil, NotIn_cons, NotIn_app, NotIn_nil, and_true] at hnb2)
              | ((with_reducible refine NewRow.mk fun nb nsp ncap hnb hncap => ?_); have hnb1 := hnb.1.1; have hnb2 := hnb.1.2; try simp only [keys_cons, keys_app, keys_nil, NotIn_cons, NotIn_app, NotIn_nil, and_true] at hnb2)
              | simp (dsimp := false) (implicitDefEqProofs := false) (disch := first | assumption | (simp only [List.mem_cons, List.mem_append, true_or, or_true, eq_self]; done) | omega | (with_reducible refine Row.adr (by assumption) ?_; simp only [List.length_map, List.length_take, List.length_drop]; omega) | (simp only [List.length_cons, List.length_nil, List.length_map, List.length_append, List.length_replicate, Nat.reduceAdd, true_and, and_true, and_self]; first | done | omega)) only [go_sem, ↓reduceIte, Nat.reduceEqDiff, Nat.reduceAdd, Nat.reduceSub, Nat.reduceMul, Nat.reduceBEq, Nat.reduceLT, Nat.reduceLeDiff, Nat.reduceMod, Nat.reducePow, List.reduceReplicate, UInt8.reduceOfNat, Int.reducePow, Int.reduceDiv, Int.reduceMod, Nat.reduceDiv, Int.reduceNeg, Int.reduceAdd, Int.reduceSub, Int.reduceMul, Int.reduceLE, Int.reduceLT, Int.reduceEq, Int.reduceToNat, reduceCtorEq]
            refine ⟨b, bm, ca, seen, ca, am, e, rfl, by simp [findH], by simp [findH, show ¬b = bm by assumption], (mem_left he).1, hnb0, ?_⟩
            rw [hxe]
            repeat' first
              | with_reducible refine Br.yes ?_
              | with_reducible refine Br.no ?_
              | with_reducible refine Br.dec (fun _ => ?_) (fun _ => ?_)
              | with_reducible refine Br.beqB (fun _ => ?_) (fun _ => ?_)
              | with_reducible refine Br.beqb (fun _ => ?_) (fun _ => ?_)
              | with_reducible refine Br.mk (fun _ => ?_) (fun _ => ?_)
              | with_reducible refine foundO.mk (fun _ _ => ?_) (fun _ => ?_)
              | with_reducible refine appV.zero ?_
              | with_reducible refine appV.own ?_
              | ((with_reducible refine NewB.mk fun nb hnb => ?_); have hnb1 := hnb.1.1; have hnb2 := hnb.1.2; try simp only [keys_cons, keys_app, keys_nil, NotIn_cons, NotIn_app, NotIn_nil, and_true] at hnb2)
              | ((with_reducible refine NewRow.mk fun nb nsp ncap hnb hncap => ?_); have hnb1 := hnb.1.1; have hnb2 := hnb.1.2; try simp only [keys_cons, keys_app, keys_nil, NotIn_cons, NotIn_app, NotIn_nil, and_true] at hnb2)
              | simp (dsimp := false) (implicitDefEqProofs := false) (disch := first | assumption | (simp only [List.mem_cons, List.mem_append, true_or, or_true, eq_self]; done) | omega | (with_reducible refine Row.adr (by assumption) ?_; simp only [List.length_map, List.length_take, List.length_drop]; omega) | (simp only [List.length_cons, List.length_nil, List.length_map, List.length_append, List.length_replicate, Nat.reduceAdd, true_and, and_true, and_self]; first | done | omega)) only [go_sem, ↓reduceIte, Nat.reduceEqDiff, Nat.reduceAdd, Nat.reduceSub, Nat.reduceMul, Nat.reduceBEq, Nat.reduceLT, Nat.reduceLeDiff, Nat.reduceMod, Nat.reducePow, List.reduceReplicate, UInt8.reduceOfNat, Int.reducePow, Int.reduceDiv, Int.reduceMod, Nat.reduceDiv, Int.reduceNeg, Int.reduceAdd, Int.reduceSub, Int.reduceMul, Int.reduceLE, Int.reduceLT, Int.reduceEq, Int.reduceToNat, reduceCtorEq, List.length_map]
            refine Upd.leave (H' := (b, IterB bm ca (seen.push e.born) ca) :: (bm, MapB am ca) :: ([(nb, .cells (out.map str ++ [str x]) nsp 9)] ++ H)) (by intro fsum; first | exact Nat.le_refl _ | (simp only [List.map_append, List.map_cons, List.map_nil, List.sum_append, List.sum_cons, List.sum_nil, List.cons_append, List.nil_append]; omega)) ?_
            exact ⟨(leftOf am (seen.push e.born)).size, by omega, _, out ++ [x], _, _, rfl, rfl, ho.more ha hnd hnb0 he hxe, by rw [List.length_append, List.length_singleton]; omega, .inr ⟨nb, ncap, nsp, by rw [List.length_append]; rfl, by rw [List.map_append]; rfl, by rw [List.length_map, Nat.mul_one], by simp at hncap ⊢; omega⟩, rfl, rfl⟩
end Go.Proofs.Ytpagkndgjihbbaa
