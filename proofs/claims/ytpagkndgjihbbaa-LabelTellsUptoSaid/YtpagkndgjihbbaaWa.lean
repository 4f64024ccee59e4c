/- A walk through states, from some on: the plain law; a copy of numbers. -/
import Derived.Test.YtpagkndgjihbbaaSl
import Derived.Test.YtpagkndgjihbbaaSj
import Derived.Test.YtpagkndgjihbbaaVeS
set_option linter.unusedSimpArgs false
set_option linter.unusedVariables false
namespace Go.Proofs.Ytpagkndgjihbbaa
open Go Go.V Go.Proofs

theorem clonei_t (l : List Int) (hlen : l.length ≤ 2000000) {G : PHeap} {H : Heap} {R : Value → PHeap → Heap → Prop} {v : Value} (hv : Sl G (Value.int .i64) v l)
    (hR : ∀ v' kb, Sep G (keys (kb ++ H)) → SliceO [] 3 1 v' l.length (l.map (Value.int .i64)) kb → R v' G (kb ++ H)) : FnT Try.prog 41 [v] G H R := by
  obtain ⟨a, cap, rfl, hrow, hcap⟩ := hv
  refine FnT.sep ?_
  rcases a with _ | a
  · have h0 : l = [] := List.eq_nil_of_length_eq_zero (by
      rcases Nat.eq_zero_or_pos l.length with h | h
      · exact h
      · have := hrow.adr (by rw [List.length_map]; exact h)
        cases this)
    subst h0
    refine FnT.body tok [0, 2, 4] Try.func41 rfl (by kernel_rfl) (by kernel_rfl) (by show _ ≤ 8; simp) fun hsep => ?_
    rw [Try.results41]
    have hsE := hsep
    try simp only [keys_cons, keys_app, keys_nil, Sep_cons, Sep_nil, NotIn_cons, NotIn_app, NotIn_nil, List.cons_append, List.nil_append, List.append_assoc, and_assoc, and_true, true_and] at hsE
    repeat (obtain ⟨hsx, hsE⟩ := hsE)
    repeat' first
      | with_reducible refine Br.yes ?_
      | with_reducible refine Br.no ?_
      | with_reducible refine Br.dec (fun _ => ?_) (fun _ => ?_)
      | with_reducible refine Br.beqB (fun _ => ?_) (fun _ => ?_)
      | with_reducible refine Br.beqb (fun _ => ?_) (fun _ => ?_)
      | with_reducible refine Br.mk (fun _ => ?_) (fun _ => ?_)
      | with_reducible refine foundO.mk (fun _ _ => ?_) (fun _ => ?_)
      | with_reducible refine appV.zero ?_
      | with_reducible refine appV.own ?_
      | ((with_reducible refine NewB.mk fun nb hnb => ?_); have hnb1 := hnb.1.1; have hnb2 := hnb.1.2; try simp only [keys_cons, keys_app, keys_nil, NotIn_cons, NotIn_app, NotIn_nil, and_true] at hnb2)
      | ((with_reducible refine NewRow.mk fun nb nsp ncap hnb hncap => ?_); have hnb1 := hnb.1.1; have hnb2 := hnb.1.2; try simp only [keys_cons, keys_app, keys_nil, NotIn_cons, NotIn_app, NotIn_nil, and_true] at hnb2)
      | simp (dsimp := false) (implicitDefEqProofs := false) (disch := first | assumption | (simp only [List.mem_cons, List.mem_append, true_or, or_true, eq_self]; done) | omega | (with_reducible refine Row.adr (by assumption) ?_; simp only [List.length_map, List.length_take, List.length_drop]; omega) | (simp only [List.length_cons, List.length_nil, List.length_map, List.length_append, List.length_replicate, Nat.reduceAdd, true_and, and_true, and_self]; first | done | omega)) only [go_sem, ↓reduceIte, Nat.reduceEqDiff, Nat.reduceAdd, Nat.reduceSub, Nat.reduceMul, Nat.reduceBEq, Nat.reduceLT, Nat.reduceLeDiff, Nat.reduceMod, Nat.reducePow, List.reduceReplicate, UInt8.reduceOfNat, Int.reducePow, Int.reduceDiv, Int.reduceMod, Nat.reduceDiv, Int.reduceNeg, Int.reduceAdd, Int.reduceSub, Int.reduceMul, Int.reduceLE, Int.reduceLT, Int.reduceEq, Int.reduceToNat, reduceCtorEq]
    unfold UpdR
    exact Upd.go (H' := H) (by intro fsum; first | exact Nat.le_refl _ | (simp only [List.map_append, List.map_cons, List.map_nil, List.sum_append, List.sum_cons, List.sum_nil, List.cons_append, List.nil_append]; omega)) (Upd.now fun hle hs => hR _ [] hs (.inl ⟨none, rfl, rfl, rfl, rfl⟩))
  · refine FnT.body tok [0, 2, 4] Try.func41 rfl (by kernel_rfl) (by kernel_rfl) (by show _ ≤ 8; simp) fun hsep => ?_
    rw [Try.results41]
    have hsE := hsep
    try simp only [keys_cons, keys_app, keys_nil, Sep_cons, Sep_nil, NotIn_cons, NotIn_app, NotIn_nil, List.cons_append, List.nil_append, List.append_assoc, and_assoc, and_true, true_and] at hsE
    repeat (obtain ⟨hsx, hsE⟩ := hsE)
    repeat' first
      | with_reducible refine Br.yes ?_
      | with_reducible refine Br.no ?_
      | with_reducible refine Br.dec (fun _ => ?_) (fun _ => ?_)
      | with_reducible refine Br.beqB (fun _ => ?_) (fun _ => ?_)
      | with_reducible refine Br.beqb (fun _ => ?_) (fun _ => ?_)
      | with_reducible refine Br.mk (fun _ => ?_) (fun _ => ?_)
      | with_reducible refine foundO.mk (fun _ _ => ?_) (fun _ => ?_)
      | with_reducible refine appV.zero ?_
      | with_reducible refine appV.own ?_
      | ((with_reducible refine NewB.mk fun nb hnb => ?_); have hnb1 := hnb.1.1; have hnb2 := hnb.1.2; try simp only [keys_cons, keys_app, keys_nil, NotIn_cons, NotIn_app, NotIn_nil, and_true] at hnb2)
      | ((with_reducible refine NewRow.mk fun nb nsp ncap hnb hncap => ?_); have hnb1 := hnb.1.1; have hnb2 := hnb.1.2; try simp only [keys_cons, keys_app, keys_nil, NotIn_cons, NotIn_app, NotIn_nil, and_true] at hnb2)
      | simp (dsimp := false) (implicitDefEqProofs := false) (disch := first | assumption | (simp only [List.mem_cons, List.mem_append, true_or, or_true, eq_self]; done) | omega | (with_reducible refine Row.adr (by assumption) ?_; simp only [List.length_map, List.length_take, List.length_drop]; omega) | (simp only [List.length_cons, List.length_nil, List.length_map, List.length_append, List.length_replicate, Nat.reduceAdd, true_and, and_true, and_self]; first | done | omega)) only [go_sem, ↓reduceIte, Nat.reduceEqDiff, Nat.reduceAdd, Nat.reduceSub, Nat.reduceMul, Nat.reduceBEq, Nat.reduceLT, Nat.reduceLeDiff, Nat.reduceMod, Nat.reducePow, List.reduceReplicate, UInt8.reduceOfNat, Int.reducePow, Int.reduceDiv, Int.reduceMod, Nat.reduceDiv, Int.reduceNeg, Int.reduceAdd, Int.reduceSub, Int.reduceMul, Int.reduceLE, Int.reduceLT, Int.reduceEq, Int.reduceToNat, reduceCtorEq, Row.rdSlAll hrow, List.length_map]
    · rename_i h0
      have h0 : l = [] := List.eq_nil_of_length_eq_zero h0
      subst h0
      unfold UpdR
      exact Upd.go (H' := H) (by intro fsum; first | exact Nat.le_refl _ | (simp only [List.map_append, List.map_cons, List.map_nil, List.sum_append, List.sum_cons, List.sum_nil, List.cons_append, List.nil_append]; omega)) (Upd.now fun hle hs => hR _ [] hs (.inl ⟨_, rfl, rfl, rfl, rfl⟩))
    · unfold UpdR
      exact Upd.go (H' := (nb, .cells (l.map (Value.int .i64)) nsp 3) :: H) (by intro fsum; first | exact Nat.le_refl _ | (simp only [List.map_append, List.map_cons, List.map_nil, List.sum_append, List.sum_cons, List.sum_nil, List.cons_append, List.nil_append]; omega)) (Upd.now fun hle hs => hR _ [(nb, .cells (l.map (Value.int .i64)) nsp 3)] hs (.inr ⟨nb, ncap, nsp, rfl, rfl, by rw [List.length_map]; omega, by rw [List.length_map]; omega⟩))
/-- those that are not there yet, one behind the other -/
def add1 (W : List Int) (t : Int) : List Int := if t ∈ W then W else W ++ [t]
def addN (W ts : List Int) : List Int := ts.foldl add1 W
theorem addN_nil (W : List Int) : addN W [] = W := rfl
theorem addN_cons (W : List Int) (t : Int) (ts : List Int) : addN W (t :: ts) = addN (add1 W t) ts := rfl
theorem addN_snoc (W ts : List Int) (t : Int) : addN W (ts ++ [t]) = add1 (addN W ts) t := by unfold addN; rw [List.foldl_append]; rfl
theorem addN_take (W ts : List Int) {i : Nat} (h : i < ts.length) : addN W (ts.take (i + 1)) = add1 (addN W (ts.take i)) ts[i] := by rw [List.take_succ_eq_append_getElem h, addN_snoc]
theorem mem_add1 {W : List Int} {t x : Int} : x ∈ add1 W t ↔ x ∈ W ∨ x = t := by
  unfold add1; split
  · rename_i h
    constructor
    · exact .inl
    · rintro (h1 | rfl)
      · exact h1
      · exact h
  · rw [List.mem_append, List.mem_singleton]
theorem add1_pre (W : List Int) (t : Int) : ∃ X, add1 W t = W ++ X := by
  unfold add1; split
  · exact ⟨[], by simp⟩
  · exact ⟨[t], rfl⟩
theorem addN_pre : ∀ (ts W : List Int), ∃ X, addN W ts = W ++ X
  | [], W => ⟨[], by simp [addN_nil]⟩
  | t :: ts, W => by
    obtain ⟨X, h1⟩ := add1_pre W t
    obtain ⟨Y, h2⟩ := addN_pre ts (add1 W t)
    exact ⟨X ++ Y, by rw [addN_cons, h2, h1, List.append_assoc]⟩
theorem mem_addN {x : Int} : ∀ {ts W : List Int}, x ∈ addN W ts ↔ x ∈ W ∨ x ∈ ts
  | [], W => by simp [addN_nil]
  | t :: ts, W => by rw [addN_cons, mem_addN, mem_add1, List.mem_cons, or_assoc]
/-- numbers that may be, each once -/
def OnceN (n : Nat) (W : List Int) : Prop := W.Nodup ∧ ∀ x ∈ W, 0 ≤ x ∧ x < n
theorem OnceN.len : ∀ {n : Nat} {W : List Int}, OnceN n W → W.length ≤ n
  | 0, W, h => by
    rcases W with _ | ⟨x, W⟩
    · exact Nat.le_refl _
    · have := h.2 x (List.mem_cons_self ..); omega
  | n + 1, W, h => by
    have h1 : OnceN n (W.erase (n : Int)) := ⟨h.1.erase _, fun x hx => by
      have h2 := (h.1.mem_erase_iff.1 hx)
      have h3 := h.2 x h2.2
      omega⟩
    have h2 := OnceN.len h1
    have h3 := List.length_erase (a := (n : Int)) (l := W)
    split at h3 <;> omega
theorem OnceN.add1 {n : Nat} {W : List Int} (h : OnceN n W) {t : Int} (ht : 0 ≤ t ∧ t < n) : OnceN n (add1 W t) := by
  refine ⟨?_, fun x hx => ?_⟩
  · unfold Proofs.Ytpagkndgjihbbaa.add1
    split
    · exact h.1
    · rename_i hn
      rw [List.nodup_append]
      exact ⟨h.1, by simp, fun a ha b hb => by rw [List.mem_singleton] at hb; subst hb; exact fun e => hn (e ▸ ha)⟩
  · rcases mem_add1.1 hx with h1 | rfl
    · exact h.2 x h1
    · exact ht
theorem OnceN.addN {n : Nat} : ∀ {ts W : List Int}, OnceN n W → (∀ t ∈ ts, 0 ≤ t ∧ t < n) → OnceN n (addN W ts)
  | [], _, h, _ => h
  | t :: ts, _, h, ht => OnceN.addN (ts := ts) (h.add1 (ht t (List.mem_cons_self ..))) fun x hx => ht x (List.mem_cons_of_mem _ hx)
/-- the states that were met behind so many -/
def bw (on : Int → List Int) (W0 : List Int) : Nat → List Int
  | 0 => W0
  | i + 1 => match (bw on W0 i)[i]? with
    | some s => addN (bw on W0 i) (on s)
    | none => bw on W0 i
theorem bw_succ {on : Int → List Int} {W0 : List Int} {i : Nat} (h : i < (bw on W0 i).length) : bw on W0 (i + 1) = addN (bw on W0 i) (on (bw on W0 i)[i]) := by
  show (match (bw on W0 i)[i]? with | some s => _ | none => _) = _
  rw [List.getElem?_eq_getElem h]
theorem bw_stop {on : Int → List Int} {W0 : List Int} {i : Nat} (h : (bw on W0 i).length ≤ i) : bw on W0 (i + 1) = bw on W0 i := by
  show (match (bw on W0 i)[i]? with | some s => _ | none => _) = _
  rw [List.getElem?_eq_none h]
theorem bw_pre (on : Int → List Int) (W0 : List Int) (i : Nat) : ∃ X, bw on W0 (i + 1) = bw on W0 i ++ X := by
  rcases Nat.lt_or_ge i (bw on W0 i).length with h | h
  · rw [bw_succ h]; exact addN_pre _ _
  · rw [bw_stop h]; exact ⟨[], by simp⟩
theorem bw_pre' (on : Int → List Int) (W0 : List Int) (i : Nat) : ∀ j, ∃ X, bw on W0 (i + j) = bw on W0 i ++ X
  | 0 => ⟨[], by simp⟩
  | j + 1 => by
    obtain ⟨X, h1⟩ := bw_pre' on W0 i j
    obtain ⟨Y, h2⟩ := bw_pre on W0 (i + j)
    exact ⟨X ++ Y, by rw [← Nat.add_assoc, h2, h1, List.append_assoc]⟩
theorem bw_once {on : Int → List Int} {W0 : List Int} {n : Nat} (h0 : OnceN n W0) (hon : ∀ s : Int, 0 ≤ s → s < n → ∀ t ∈ on s, 0 ≤ t ∧ t < n) : ∀ i, OnceN n (bw on W0 i)
  | 0 => h0
  | i + 1 => by
    rcases Nat.lt_or_ge i (bw on W0 i).length with h | h
    · rw [bw_succ h]
      have h1 := bw_once h0 hon i
      have h2 := h1.2 _ (List.getElem_mem h)
      exact h1.addN (hon _ h2.1 h2.2)
    · rw [bw_stop h]; exact bw_once h0 hon i
theorem bw_still {on : Int → List Int} {W0 : List Int} {i : Nat} (h : (bw on W0 i).length ≤ i) : ∀ j, bw on W0 (i + j) = bw on W0 i
  | 0 => rfl
  | j + 1 => by
    rw [← Nat.add_assoc, bw_stop (by rw [bw_still h j]; omega), bw_still h j]
/-- all states that are met -/
def walkL (on : Int → List Int) (n : Nat) (W0 : List Int) : List Int := bw on W0 n
theorem bw_end {on : Int → List Int} {W0 : List Int} {n i : Nat} (h0 : OnceN n W0) (hon : ∀ s : Int, 0 ≤ s → s < n → ∀ t ∈ on s, 0 ≤ t ∧ t < n) (h : (bw on W0 i).length ≤ i) : bw on W0 i = walkL on n W0 := by
  unfold walkL
  rcases Nat.le_total i n with g | g
  · obtain ⟨j, rfl⟩ := Nat.exists_eq_add_of_le g
    exact (bw_still h j).symm
  · obtain ⟨j, rfl⟩ := Nat.exists_eq_add_of_le g
    exact bw_still (bw_once h0 hon n).len j
theorem bw_get {on : Int → List Int} {W0 : List Int} {i j k : Nat} (hij : i ≤ j) (hk : k < (bw on W0 i).length) : ∃ h : k < (bw on W0 j).length, (bw on W0 j)[k] = (bw on W0 i)[k] := by
  obtain ⟨c, rfl⟩ := Nat.exists_eq_add_of_le hij
  obtain ⟨X, h⟩ := bw_pre' on W0 i c
  refine ⟨by rw [h, List.length_append]; omega, ?_⟩
  simp only [h]
  rw [List.getElem_append_left hk]
/-- all that is met is met further -/
theorem bw_closed {on : Int → List Int} {W0 : List Int} {n : Nat} (h0 : OnceN n W0) (hon : ∀ s : Int, 0 ≤ s → s < n → ∀ t ∈ on s, 0 ≤ t ∧ t < n) {x : Int} (hx : x ∈ walkL on n W0) : ∀ t ∈ on x, t ∈ walkL on n W0 := by
  obtain ⟨k, hk, rfl⟩ := List.getElem_of_mem hx
  intro t ht
  unfold walkL at hk ht ⊢
  have hkn : k < n := Nat.lt_of_lt_of_le hk (bw_once h0 hon n).len
  -- the k-th is there behind k rounds
  have hke : ∃ h : k < (bw on W0 k).length, (bw on W0 k)[k] = (bw on W0 n)[k] := by
    rcases Nat.lt_or_ge k (bw on W0 k).length with h | h
    · obtain ⟨h2, e⟩ := bw_get (on := on) (W0 := W0) (i := k) (j := n) (by omega) h
      exact ⟨h, e.symm⟩
    · have := bw_still h (n - k)
      rw [show k + (n - k) = n by omega] at this
      rw [this] at hk; omega
  obtain ⟨hk1, hk2⟩ := hke
  rw [← hk2] at ht
  have hin : t ∈ bw on W0 (k + 1) := by rw [bw_succ hk1]; exact mem_addN.2 (.inr ht)
  obtain ⟨X, hX⟩ := bw_pre' on W0 (k + 1) (n - (k + 1))
  rw [show k + 1 + (n - (k + 1)) = n by omega] at hX
  rw [hX]; exact List.mem_append.2 (.inl hin)
theorem walk_start {on : Int → List Int} {W0 : List Int} {n : Nat} {x : Int} (hx : x ∈ W0) : x ∈ walkL on n W0 := by
  obtain ⟨X, hX⟩ := bw_pre' on W0 0 n
  rw [Nat.zero_add] at hX
  unfold walkL; rw [hX]; exact List.mem_append.2 (.inl hx)
theorem walk_least {on : Int → List Int} {W0 : List Int} {X : Int → Prop} (h0 : ∀ x ∈ W0, X x) (h1 : ∀ x, X x → ∀ t ∈ on x, X t) : ∀ i x, x ∈ bw on W0 i → X x
  | 0, x, hx => h0 x hx
  | i + 1, x, hx => by
    rcases Nat.lt_or_ge i (bw on W0 i).length with h | h
    · rw [bw_succ h] at hx
      rcases mem_addN.1 hx with hx | hx
      · exact walk_least h0 h1 i x hx
      · exact h1 _ (walk_least h0 h1 i _ (List.getElem_mem h)) x hx
    · rw [bw_stop h] at hx; exact walk_least h0 h1 i x hx
end Go.Proofs.Ytpagkndgjihbbaa
