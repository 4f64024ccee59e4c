/- The states from which a label can be come to: dfa.Live. -/
import Derived.Test.YtlblohmjikopbaaWd
import Derived.Test.YtlblohmjikopbaaVeS
set_option linter.unusedSimpArgs false
set_option linter.unusedVariables false
namespace Go.Proofs.Ytlblohmjikopbaa
open Go Go.V Go.Proofs

/-- from where an edge comes to a state -/
def backE (E : List (Int × Int)) (t : Int) : List Int := (E.filter fun p => decide (p.2 = t)).map (·.1)
theorem backE_snoc (E : List (Int × Int)) (s x t : Int) : backE (E ++ [(s, x)]) t = if x = t then backE E t ++ [s] else backE E t := by
  unfold backE
  rw [List.filter_append, List.map_append]
  by_cases h : x = t
  · rw [if_pos h]; simp [h]
  · rw [if_neg h]; simp [h]
theorem mem_backE {E : List (Int × Int)} {t s : Int} : s ∈ backE E t ↔ (s, t) ∈ E := by
  unfold backE
  rw [List.mem_map]
  constructor
  · rintro ⟨⟨a, b⟩, h, rfl⟩
    rw [List.mem_filter] at h
    have := of_decide_eq_true h.2
    simp only at this
    subst this
    exact h.1
  · intro h
    exact ⟨(s, t), List.mem_filter.2 ⟨h, by simp⟩, rfl⟩
theorem backE_len (E : List (Int × Int)) (t : Int) : (backE E t).length ≤ E.length := by
  unfold backE; rw [List.length_map]; exact List.length_filter_le ..
def backM (n : Nat) (E : List (Int × Int)) : List (List Value) := (List.range n).map fun t : Nat => (backE E t).map (Value.int .i64)
theorem backM_len (n : Nat) (E : List (Int × Int)) : (backM n E).length = n := by simp [backM]
theorem backM_get {n : Nat} {E : List (Int × Int)} {t : Nat} (h : t < n) : (backM n E)[t]'(by rw [backM_len]; exact h) = (backE E t).map (Value.int .i64) := by simp [backM]
theorem backM_zero (n : Nat) : backM n [] = List.replicate n [] := by
  apply List.ext_getElem
  · simp [backM]
  · intro i h1 h2; simp [backM, backE]
theorem backM_set {n : Nat} {E : List (Int × Int)} {s : Int} {t : Nat} (h : t < n) : (backM n E).set t ((backE E t).map (Value.int .i64) ++ [.int .i64 s]) = backM n (E ++ [(s, (t : Int))]) := by
  apply List.ext_getElem
  · simp [backM]
  · intro i h1 h2
    rw [backM_len] at h2
    rw [backM_get h2, List.getElem_set, backE_snoc]
    by_cases e : t = i
    · subst e
      rw [if_pos rfl, if_pos rfl, List.map_append]; rfl
    · rw [if_neg e, if_neg (by omega), backM_get h2]
def rowE (s : Nat) (r : List Int) : List (Int × Int) := r.map fun x => ((s : Int), x)
def edgesL (d : DfaT) (s : Nat) : List (Int × Int) := (List.range s).flatMap fun i => rowE i (d.next.getD i [])
theorem edgesL_succ (d : DfaT) {s : Nat} (h : s < d.next.length) : edgesL d (s + 1) = edgesL d s ++ rowE s d.next[s] := by
  unfold edgesL
  rw [List.range_succ, List.flatMap_append]
  simp only [List.flatMap_cons, List.flatMap_nil, List.append_nil, List.getD_eq_getElem?_getD, List.getElem?_eq_getElem h, Option.getD_some]
theorem rowE_take (s : Nat) (r : List Int) {k : Nat} (h : k < r.length) : rowE s (r.take (k + 1)) = rowE s (r.take k) ++ [((s : Int), r[k])] := by
  unfold rowE; rw [List.take_succ_eq_append_getElem h, List.map_append]; rfl
theorem edgesL_len {d : DfaT} (hok : RightP d) (hof : d.of.length = 256) : ∀ s, s ≤ d.next.length → (edgesL d s).length ≤ s * 256
  | 0, _ => by simp [edgesL]
  | s + 1, h => by
    obtain ⟨hk1, hk2, hk3, hk4, hk5, hk6, hk7⟩ := id hok
    have h1 := edgesL_len hok hof s (by omega)
    rw [edgesL_succ d (by omega), List.length_append]
    have h2 := hk7 s (by omega) (by omega)
    have h3 := tabO_len d.of
    unfold rowE
    rw [List.length_map]
    have h4 : d.next[s].length = d.width := h2.1
    have h5 : d.width ≤ 256 := by rw [← hk5]; omega
    omega
/-- the states that are told -/
def endsL (d : DfaT) (s : Nat) : List Int := ((List.range s).filter fun i => decide (d.label.getD i 0 ≠ 0)).map fun i : Nat => (i : Int)
theorem endsL_succ (d : DfaT) {s : Nat} (h : s < d.label.length) : endsL d (s + 1) = if d.label[s] = 0 then endsL d s else endsL d s ++ [(s : Int)] := by
  unfold endsL
  rw [List.range_succ, List.filter_append, List.map_append]
  by_cases e : d.label[s] = 0
  · rw [if_pos e]; simp [List.getElem?_eq_getElem h, e]
  · rw [if_neg e]; simp [List.getElem?_eq_getElem h, e]
theorem endsL_len (d : DfaT) (s : Nat) : (endsL d s).length ≤ s := by
  unfold endsL; rw [List.length_map]
  have := List.length_filter_le (fun i => decide (d.label.getD i 0 ≠ 0)) (List.range s)
  rw [List.length_range] at this; exact this
theorem endsL_once (d : DfaT) (n : Nat) : OnceN n (endsL d n) := by
  refine ⟨?_, fun x hx => ?_⟩
  · unfold endsL
    rw [List.nodup_iff_pairwise_ne, List.pairwise_map]
    refine List.Pairwise.imp ?_ ((List.nodup_range (n := n)).filter _)
    intro a b h; omega
  · unfold endsL at hx
    rw [List.mem_map] at hx
    obtain ⟨i, hi, rfl⟩ := hx
    have := List.mem_range.1 (List.mem_filter.1 hi).1
    omega
/-- where an edge comes from -/
def backF (d : DfaT) (t : Int) : List Int := backE (edgesL d d.next.length) t
theorem mem_edgesL {d : DfaT} {s t : Int} : ∀ {n : Nat}, (s, t) ∈ edgesL d n ↔ ∃ i : Nat, i < n ∧ s = i ∧ t ∈ d.next.getD i [] := by
  intro n
  unfold edgesL rowE
  rw [List.mem_flatMap]
  constructor
  · rintro ⟨i, hi, h⟩
    obtain ⟨x, hx, e⟩ := List.mem_map.1 h
    cases e
    exact ⟨i, List.mem_range.1 hi, rfl, hx⟩
  · rintro ⟨i, hi, rfl, hx⟩
    exact ⟨i, List.mem_range.2 hi, List.mem_map.2 ⟨t, hx, rfl⟩⟩
theorem backF_ok {d : DfaT} (hok : RightP d) : ∀ s : Int, 0 ≤ s → s < d.label.length → ∀ t ∈ backF d s, 0 ≤ t ∧ t < d.label.length := fun s h1 h2 t ht => by
  obtain ⟨i, hi, rfl, _⟩ := mem_edgesL.1 (mem_backE.1 ht)
  have := hok.2.2.1
  omega
/-- the states from which a label can be come to -/
def liveL (d : DfaT) : List Int := sortI (walkL (backF d) d.label.length (endsL d d.label.length))
noncomputable def liveD (d : DfaT) : List Int := if boolOf (RightP d) = true then liveL d else []
theorem livef_t {n : Nat} {ab : Option Addr} {cb : Nat} {vs : List Value} (hvl : vs.length = n) {f : Int → List Int} {G : PHeap} (hrow : Row G ab vs) (hrs : ∀ i (h : i < n) (h1 : i < vs.length), ∃ a c, vs[i] = .slice a (f (i : Nat)).length c ∧ Row G a ((f (i : Nat)).map (Value.int .i64)) ∧ (f (i : Nat)).length ≤ c) {bx : Nat} {s : Int} (h0 : 0 ≤ s) (h1 : s < n)
    {H : Heap} {R : Value → PHeap → Heap → Prop} (hg : G bx = none) (hf : findH H bx = some (.cells [.slice ab n cb] [] 23)) (hR : ∀ v, Sl G (Value.int .i64) v (f s) → R v G H) : FnT Try.prog 36 [.int .i64 s, .pointer (some ⟨bx, 0, none⟩)] G H R := by
  obtain ⟨i, rfl⟩ := Int.eq_ofNat_of_zero_le h0
  obtain ⟨b, c, e1, e2, e3⟩ := hrs i (by omega) (by omega)
  have had : Adr ab := hrow.adr (by omega)
  refine FnT.body tok [0, 1, 3] Try.func36 rfl (by kernel_rfl) (by kernel_rfl) (by show _ ≤ 8; simp) fun hsep => ?_
  rw [Try.results36]
  have hsE := hsep
  try simp only [keys_cons, keys_app, keys_nil, Sep_cons, Sep_nil, NotIn_cons, NotIn_app, NotIn_nil, List.cons_append, List.nil_append, List.append_assoc, and_assoc, and_true, true_and] at hsE
  repeat (obtain ⟨hsx, hsE⟩ := hsE)
  repeat' first
    | with_reducible refine Br.yes ?_
    | with_reducible refine Br.no ?_
    | with_reducible refine Br.dec (fun _ => ?_) (fun _ => ?_)
    | with_reducible refine Br.beqB (fun _ => ?_) (fun _ => ?_)
    | with_reducible refine Br.beqb (fun _ => ?_) (fun _ => ?_)
    | with_reducible refine Br.mk (fun _ => ?_) (fun _ => ?_)
    | with_reducible refine foundO.mk (fun _ _ => ?_) (fun _ => ?_)
    | with_reducible refine appV.zero ?_
    | with_reducible refine appV.own ?_
    | ((with_reducible refine NewB.mk fun nb hnb => ?_); have hnb1 := hnb.1.1; have hnb2 := hnb.1.2; try simp only [keys_cons, keys_app, keys_nil, NotIn_cons, NotIn_app, NotIn_nil, and_true] at hnb2)
    | ((with_reducible refine NewRow.mk fun nb nsp ncap hnb hncap => ?_); have hnb1 := hnb.1.1; have hnb2 := hnb.1.2; try simp only [keys_cons, keys_app, keys_nil, NotIn_cons, NotIn_app, NotIn_nil, and_true] at hnb2)
    | simp (dsimp := false) (implicitDefEqProofs := false) (disch := first | assumption | (simp only [List.mem_cons, List.mem_append, true_or, or_true, eq_self]; done) | omega | (with_reducible refine Row.adr (by assumption) ?_; simp only [List.length_map, List.length_take, List.length_drop]; omega) | (simp only [List.length_cons, List.length_nil, List.length_map, List.length_append, List.length_replicate, Nat.reduceAdd, true_and, and_true, and_self]; first | done | omega)) only [go_sem, ↓reduceIte, Nat.reduceEqDiff, Nat.reduceAdd, Nat.reduceSub, Nat.reduceMul, Nat.reduceBEq, Nat.reduceLT, Nat.reduceLeDiff, Nat.reduceMod, Nat.reducePow, List.reduceReplicate, UInt8.reduceOfNat, Int.reducePow, Int.reduceDiv, Int.reduceMod, Nat.reduceDiv, Int.reduceNeg, Int.reduceAdd, Int.reduceSub, Int.reduceMul, Int.reduceLE, Int.reduceLT, Int.reduceEq, Int.reduceToNat, reduceCtorEq, hf, Row.obj hrow, e1]
  all_goals refine Upd.finL ?_ (hR _ ⟨b, c, rfl, e2, e3⟩) ?_
  any_goals (intro fsum; first | exact Nat.le_refl _ | (simp only [List.map_append, List.map_cons, List.map_nil, List.sum_append, List.sum_cons, List.sum_nil, List.cons_append, List.nil_append]; omega))
  all_goals rfl
set_option maxHeartbeats 16000000 in
set_option maxRecDepth 4000 in
theorem live_t {d : DfaT} (hsm : SmallD d) {G : PHeap} {H : Heap} {R : Value → PHeap → Heap → Prop} {v : Value} (hv : IsD G d v)
    (hR : ∀ G' v', PLe G G' → Sep G' (keys H) → Sl G' (Value.int .i64) v' (liveD d) → R v' G' H) : FnT Try.prog 10 [v] G H R := by
  obtain ⟨C, an, al, ay, cn, cl, cs, rs, rfl, O⟩ := hv.opened
  have hCl := O.len
  have hCa := O.all
  have hCx := O.l
  have hCn := O.n
  refine FnT.sep ?_
  by_cases hok : RightP d
  · have hb := boolOf_yes hok
    have hz : liveD d = liveL d := by unfold liveD; rw [if_pos hb]
    rw [hz] at hR
    obtain ⟨hk1, hk2, hk3, hk4, hk5, hk6, hk7⟩ := id hok
    have hrnl := O.rnl
    generalize hn : d.label.length = n at *
    refine FnT.body tok [0, 1, 2, 3, 4, 5, 6, 7, 9, 12, 19, 20, 21, 22, 26, 27, 28, 29, 48] Try.func10 rfl (by kernel_rfl) (by kernel_rfl) (by show _ ≤ 59; simp) fun hsep => ?_
    rw [Try.results10]
    have hsE := hsep
    try simp only [keys_cons, keys_app, keys_nil, Sep_cons, Sep_nil, NotIn_cons, NotIn_app, NotIn_nil, List.cons_append, List.nil_append, List.append_assoc, and_assoc, and_true, true_and] at hsE
    repeat (obtain ⟨hsx, hsE⟩ := hsE)
    repeat' first
      | with_reducible refine Br.yes ?_
      | with_reducible refine Br.no ?_
      | with_reducible refine Br.dec (fun _ => ?_) (fun _ => ?_)
      | with_reducible refine Br.beqB (fun _ => ?_) (fun _ => ?_)
      | with_reducible refine Br.beqb (fun _ => ?_) (fun _ => ?_)
      | with_reducible refine Br.mk (fun _ => ?_) (fun _ => ?_)
      | with_reducible refine foundO.mk (fun _ _ => ?_) (fun _ => ?_)
      | with_reducible refine appV.zero ?_
      | with_reducible refine appV.own ?_
      | ((with_reducible refine NewB.mk fun nb hnb => ?_); have hnb1 := hnb.1.1; have hnb2 := hnb.1.2; try simp only [keys_cons, keys_app, keys_nil, NotIn_cons, NotIn_app, NotIn_nil, and_true] at hnb2)
      | ((with_reducible refine NewRow.mk fun nb nsp ncap hnb hncap => ?_); have hnb1 := hnb.1.1; have hnb2 := hnb.1.2; try simp only [keys_cons, keys_app, keys_nil, NotIn_cons, NotIn_app, NotIn_nil, and_true] at hnb2)
      | simp (dsimp := false) (implicitDefEqProofs := false) (disch := first | assumption | (simp only [List.mem_cons, List.mem_append, true_or, or_true, eq_self]; done) | omega | (with_reducible refine Row.adr (by assumption) ?_; simp only [List.length_map, List.length_take, List.length_drop]; omega) | (simp only [List.length_cons, List.length_nil, List.length_map, List.length_append, List.length_replicate, Nat.reduceAdd, true_and, and_true, and_self]; first | done | omega)) only [go_sem, ↓reduceIte, Nat.reduceEqDiff, Nat.reduceAdd, Nat.reduceSub, Nat.reduceMul, Nat.reduceBEq, Nat.reduceLT, Nat.reduceLeDiff, Nat.reduceMod, Nat.reducePow, List.reduceReplicate, UInt8.reduceOfNat, Int.reducePow, Int.reduceDiv, Int.reduceMod, Nat.reduceDiv, Int.reduceNeg, Int.reduceAdd, Int.reduceSub, Int.reduceMul, Int.reduceLE, Int.reduceLT, Int.reduceEq, Int.reduceToNat, reduceCtorEq, -List.reduceReplicate, List.toList_toArray, hCl, hCa, hb, hCx, hCn, Nat.sub_self, List.replicate_zero]
      | with_reducible refine right_t hsm O.is ?_
    rename_i b1 q1 q2 q3 bh q4 q5 q6
    obtain ⟨b4, e0⟩ : ∃ x, x = nb := ⟨_, rfl⟩
    subst e0
    have hof := O.ofl
    refine Tri.loopU tok [0, 1, 2, 3, 4, 5, 6, 7, 9, 12, 19, 20, 21, 22, 26, 27, 28, 29, 48] (by kernel_rfl) [1, 2, 3, 4, 5, 19, 20, 21] (fun q G' fr H' => ∃ (s : Nat) (v : Value) (vs : List Value) (kb F : Heap), s + q = n ∧ G' = G ∧ SliceO [] 3 1 v (endsL d s).length ((endsL d s).map (Value.int .i64)) kb ∧ FamO 3 vs (backM n (edgesL d s)) F ∧ H' = (b1, .cells C [] 27) :: (b4, .cells [.slice (some ⟨bh, 0, none⟩) n n] [] 23) :: (bh, .cells vs [] 24) :: (kb ++ (F ++ H)) ∧ fr = [(1, .pointer (some ⟨b1, 0, none⟩)), (2, .slice none 0 0), (3, .int .i64 (n : Nat)), (4, .pointer (some ⟨b4, 0, none⟩)), (5, v), (19, .slice an d.next.length cn), (20, .int .i64 (d.next.length : Nat)), (21, .int .i64 (s : Nat))]) (n) ?_ ?_
    · exact Upd.go (H' := (b1, .cells C [] 27) :: (b4, .cells [.slice (some ⟨bh, 0, none⟩) n n] [] 23) :: (bh, .cells (List.replicate n (.slice none 0 0)) [] 24) :: H) (by intro fsum; first | exact Nat.le_refl _ | (simp only [List.map_append, List.map_cons, List.map_nil, List.sum_append, List.sum_cons, List.sum_nil, List.cons_append, List.nil_append]; omega)) (Upd.now ⟨0, .slice none 0 0, _, [], [], by omega, rfl, .inl ⟨none, rfl, rfl, rfl, rfl⟩, by rw [show edgesL d 0 = [] from rfl, backM_zero]; exact FamO.zero 3 n, rfl, rfl⟩)
    · rintro q G1 fr H' hle hs1 ⟨s, v, vs, kb, F, hsq, rfl, hkb, hF, rfl, rfl⟩
      by_cases hsn : s < n
      · have had : Adr an := O.rn.adr (by omega)
        obtain ⟨b, c, e1, e2, e3⟩ := O.rs s (by omega) (by omega)
        obtain ⟨hw1, hw2, hw3, hw4⟩ := hk7 s (by omega) (by omega)
        repeat' first
          | with_reducible refine Br.yes ?_
          | with_reducible refine Br.no ?_
          | with_reducible refine Br.dec (fun _ => ?_) (fun _ => ?_)
          | with_reducible refine Br.beqB (fun _ => ?_) (fun _ => ?_)
          | with_reducible refine Br.beqb (fun _ => ?_) (fun _ => ?_)
          | with_reducible refine Br.mk (fun _ => ?_) (fun _ => ?_)
          | with_reducible refine foundO.mk (fun _ _ => ?_) (fun _ => ?_)
          | with_reducible refine appV.zero ?_
          | with_reducible refine appV.own ?_
          | ((with_reducible refine NewB.mk fun nb hnb => ?_); have hnb1 := hnb.1.1; have hnb2 := hnb.1.2; try simp only [keys_cons, keys_app, keys_nil, NotIn_cons, NotIn_app, NotIn_nil, and_true] at hnb2)
          | ((with_reducible refine NewRow.mk fun nb nsp ncap hnb hncap => ?_); have hnb1 := hnb.1.1; have hnb2 := hnb.1.2; try simp only [keys_cons, keys_app, keys_nil, NotIn_cons, NotIn_app, NotIn_nil, and_true] at hnb2)
          | simp (dsimp := false) (implicitDefEqProofs := false) (disch := first | assumption | (simp only [List.mem_cons, List.mem_append, true_or, or_true, eq_self]; done) | omega | (with_reducible refine Row.adr (by assumption) ?_; simp only [List.length_map, List.length_take, List.length_drop]; omega) | (simp only [List.length_cons, List.length_nil, List.length_map, List.length_append, List.length_replicate, Nat.reduceAdd, true_and, and_true, and_self]; first | done | omega)) only [go_sem, ↓reduceIte, Nat.reduceEqDiff, Nat.reduceAdd, Nat.reduceSub, Nat.reduceMul, Nat.reduceBEq, Nat.reduceLT, Nat.reduceLeDiff, Nat.reduceMod, Nat.reducePow, List.reduceReplicate, UInt8.reduceOfNat, Int.reducePow, Int.reduceDiv, Int.reduceMod, Nat.reduceDiv, Int.reduceNeg, Int.reduceAdd, Int.reduceSub, Int.reduceMul, Int.reduceLE, Int.reduceLT, Int.reduceEq, Int.reduceToNat, reduceCtorEq, Row.obj O.rn, e1]
        all_goals try (exfalso; omega)
        have hrl := hsm.2.1 _ (List.getElem_mem (show s < d.next.length by omega))
        have hsuc := edgesL_succ d (show s < d.next.length by omega)
        have hel := edgesL_len hok hof s (by omega)
        have hw5 : (d.next[s]'(by omega)).length ≤ 256 := by have := tabO_len d.of; omega
        generalize hr : d.next[s]'(by omega) = r at *
        refine Tri.loopS tok [0, 1, 2, 3, 4, 5, 6, 7, 9, 12, 19, 20, 21, 22, 26, 27, 28, 29, 48] (.cut) (by kernel_rfl) [1, 2, 3, 4, 5, 6, 19, 20, 21, 26, 27, 28] (fun q' G' fr H' => ∃ (k : Nat) (vs' : List Value) (F' : Heap), k + q' = r.length ∧ G' = G1 ∧ FamO 3 vs' (backM n (edgesL d s ++ rowE s (r.take k))) F' ∧ H' = (b1, .cells C [] 27) :: (b4, .cells [.slice (some ⟨bh, 0, none⟩) n n] [] 23) :: (bh, .cells vs' [] 24) :: (kb ++ (F' ++ H)) ∧ fr = [(1, .pointer (some ⟨b1, 0, none⟩)), (2, .slice none 0 0), (3, .int .i64 (n : Nat)), (4, .pointer (some ⟨b4, 0, none⟩)), (5, v), (6, .int .i64 (s : Nat)), (19, .slice an d.next.length cn), (20, .int .i64 (d.next.length : Nat)), (21, .int .i64 (s : Nat)), (26, .slice b r.length c), (27, .int .i64 r.length), (28, .int .i64 (k : Nat))]) (r.length) ?_ ?_
        · refine Upd.now ?_
          exact ⟨0, vs, F, by omega, rfl, by rw [List.take_zero]; simpa [rowE] using hF, rfl, rfl⟩
        · rintro q' G9 fr H' hle' hs2 ⟨k, vs', F', hkq, rfl, hF', rfl, rfl⟩
          have hvl : vs'.length = n := by rw [hF'.lenv, backM_len]
          by_cases hk : k < r.length
          · have hx := hw4 _ (List.getElem_mem hk)
            obtain ⟨t, ht⟩ := Int.eq_ofNat_of_zero_le hx.1
            have htn : t < n := by omega
            have had2 : Adr b := e2.adr (by rw [List.length_map]; omega)
            have hrE := rowE_take s r hk
            obtain ⟨kt, F2, g1, hsum, back⟩ := hF'.out (i := t) (by rw [backM_len]; exact htn)
            generalize hE : edgesL d s ++ rowE s (r.take k) = E at *
            have hE2 : edgesL d s ++ rowE s (r.take (k + 1)) = E ++ [((s : Int), (t : Int))] := by rw [hrE, ht, ← List.append_assoc, hE]
            rw [backM_get htn] at g1
            have hset := backM_set (E := E) (s := (s : Int)) htn
            refine Tri.upd (Upd.go (H' := (b1, .cells C [] 27) :: (b4, .cells [.slice (some ⟨bh, 0, none⟩) n n] [] 23) :: (bh, .cells vs' [] 24) :: (kt ++ (kb ++ (F2 ++ H)))) (by intro fsum; have := hsum fsum; simp only [List.map_append, List.map_cons, List.map_nil, List.sum_append, List.sum_cons, List.sum_nil, List.cons_append, List.nil_append]; omega) (Upd.now ?_))
            rcases g1 with ⟨a, h1, h2, h3, rfl⟩ | ⟨bk, ck, sk, h1, rfl, h3, h4⟩
            · refine Tri.run tok [0, 1, 2, 3, 4, 5, 6, 7, 9, 12, 19, 20, 21, 22, 26, 27, 28, 29, 48] (by kernel_rfl) ?_
              repeat' first
                | with_reducible refine Br.yes ?_
                | with_reducible refine Br.no ?_
                | with_reducible refine Br.dec (fun _ => ?_) (fun _ => ?_)
                | with_reducible refine Br.beqB (fun _ => ?_) (fun _ => ?_)
                | with_reducible refine Br.beqb (fun _ => ?_) (fun _ => ?_)
                | with_reducible refine Br.mk (fun _ => ?_) (fun _ => ?_)
                | with_reducible refine foundO.mk (fun _ _ => ?_) (fun _ => ?_)
                | with_reducible refine appV.zero ?_
                | with_reducible refine appV.own ?_
                | ((with_reducible refine NewB.mk fun nb hnb => ?_); have hnb1 := hnb.1.1; have hnb2 := hnb.1.2; try simp only [keys_cons, keys_app, keys_nil, NotIn_cons, NotIn_app, NotIn_nil, and_true] at hnb2)
                | ((with_reducible refine NewRow.mk fun nb nsp ncap hnb hncap => ?_); have hnb1 := hnb.1.1; have hnb2 := hnb.1.2; try simp only [keys_cons, keys_app, keys_nil, NotIn_cons, NotIn_app, NotIn_nil, and_true] at hnb2)
                | simp (dsimp := false) (implicitDefEqProofs := false) (disch := first | assumption | (simp only [List.mem_cons, List.mem_append, true_or, or_true, eq_self]; done) | omega | (with_reducible refine Row.adr (by assumption) ?_; simp only [List.length_map, List.length_take, List.length_drop]; omega) | (simp only [List.length_cons, List.length_nil, List.length_map, List.length_append, List.length_replicate, Nat.reduceAdd, true_and, and_true, and_self]; first | done | omega)) only [go_sem, ↓reduceIte, Nat.reduceEqDiff, Nat.reduceAdd, Nat.reduceSub, Nat.reduceMul, Nat.reduceBEq, Nat.reduceLT, Nat.reduceLeDiff, Nat.reduceMod, Nat.reducePow, List.reduceReplicate, UInt8.reduceOfNat, Int.reducePow, Int.reduceDiv, Int.reduceMod, Nat.reduceDiv, Int.reduceNeg, Int.reduceAdd, Int.reduceSub, Int.reduceMul, Int.reduceLE, Int.reduceLT, Int.reduceEq, Int.reduceToNat, reduceCtorEq, Row.obj e2, List.getElem_map, ht, h1, List.replicate_one]
                | with_reducible refine Tri.drawS tok mixed [0, 1, 2, 3, 4, 5, 6, 7, 9, 12, 19, 20, 21, 22, 26, 27, 28, 29, 48] 12 [0, 2, 5] (.op 0 .held (.op 1 .plain (.op 2 .held (.op 3 .plain (.op 4 .plain (.op 5 .held (.op 6 .plain (.op 7 .keeps (.op 8 .keeps (.op 9 .plain (.op 10 .plain .nil))))))))))) (by kernel_rfl) [(b4, .cells [.slice (some ⟨bh, 0, none⟩) n n] [] 23), (bh, .cells vs' [] 24)] (by intro fsum; first | exact Nat.le_refl _ | (simp only [List.map_append, List.map_cons, List.map_nil, List.sum_append, List.sum_cons, List.sum_nil, List.cons_append, List.nil_append]; omega)) ?_
              rw [splice_set (by omega)]
              have hl0 : backE E (t : Int) = [] := List.eq_nil_of_length_eq_zero (by rw [List.length_map] at h2; exact h2)
              obtain ⟨F3, hF3, hsum3⟩ := back (.slice (some ⟨nb, 0, none⟩) 1 ncap) [.int .i64 (s : Nat)] [(nb, .cells [.int .i64 (s : Nat)] nsp 3)] (.inr ⟨nb, ncap, nsp, rfl, rfl, rfl, by show 1 + nsp.length = ncap * 1; omega⟩)
              rw [hl0] at hset
              have hset' : (backM n E).set t [Value.int .i64 (s : Nat)] = backM n (E ++ [((s : Int), (t : Int))]) := hset
              rw [hset'] at hF3
              refine Upd.go (H' := (b1, .cells C [] 27) :: (b4, .cells [.slice (some ⟨bh, 0, none⟩) n n] [] 23) :: (bh, .cells (vs'.set t (.slice (some ⟨nb, 0, none⟩) 1 ncap)) [] 24) :: (kb ++ (F3 ++ H))) (by intro fsum; have := hsum3 fsum; simp only [List.map_append, List.map_cons, List.map_nil, List.sum_append, List.sum_cons, List.sum_nil, List.cons_append, List.nil_append] at this ⊢; omega) (Upd.now ⟨q' - 1, by omega, k + 1, _, F3, by omega, rfl, ?_, rfl, rfl⟩)
              rw [hE2]; exact hF3
            · rw [List.length_map] at h1 h3 h4
              have hbl := backE_len E (t : Int)
              have hEl : E.length ≤ 16777216 + 256 := by rw [← hE, List.length_append]; unfold rowE; rw [List.length_map, List.length_take]; omega
              refine Tri.sepT fun hs4 => ?_
              have hsE := hs4
              try simp only [keys_cons, keys_app, keys_nil, Sep_cons, Sep_nil, NotIn_cons, NotIn_app, NotIn_nil, List.cons_append, List.nil_append, List.append_assoc, and_assoc, and_true, true_and] at hsE
              repeat (obtain ⟨hsx, hsE⟩ := hsE)
              refine Tri.run tok [0, 1, 2, 3, 4, 5, 6, 7, 9, 12, 19, 20, 21, 22, 26, 27, 28, 29, 48] (by kernel_rfl) ?_
              repeat' first
                | with_reducible refine Br.yes ?_
                | with_reducible refine Br.no ?_
                | with_reducible refine Br.dec (fun _ => ?_) (fun _ => ?_)
                | with_reducible refine Br.beqB (fun _ => ?_) (fun _ => ?_)
                | with_reducible refine Br.beqb (fun _ => ?_) (fun _ => ?_)
                | with_reducible refine Br.mk (fun _ => ?_) (fun _ => ?_)
                | with_reducible refine foundO.mk (fun _ _ => ?_) (fun _ => ?_)
                | with_reducible refine appV.zero ?_
                | with_reducible refine appV.own ?_
                | ((with_reducible refine NewB.mk fun nb hnb => ?_); have hnb1 := hnb.1.1; have hnb2 := hnb.1.2; try simp only [keys_cons, keys_app, keys_nil, NotIn_cons, NotIn_app, NotIn_nil, and_true] at hnb2)
                | ((with_reducible refine NewRow.mk fun nb nsp ncap hnb hncap => ?_); have hnb1 := hnb.1.1; have hnb2 := hnb.1.2; try simp only [keys_cons, keys_app, keys_nil, NotIn_cons, NotIn_app, NotIn_nil, and_true] at hnb2)
                | simp (dsimp := false) (implicitDefEqProofs := false) (disch := first | assumption | (simp only [List.mem_cons, List.mem_append, true_or, or_true, eq_self]; done) | omega | (with_reducible refine Row.adr (by assumption) ?_; simp only [List.length_map, List.length_take, List.length_drop]; omega) | (simp only [List.length_cons, List.length_nil, List.length_map, List.length_append, List.length_replicate, Nat.reduceAdd, true_and, and_true, and_self]; first | done | omega)) only [go_sem, ↓reduceIte, Nat.reduceEqDiff, Nat.reduceAdd, Nat.reduceSub, Nat.reduceMul, Nat.reduceBEq, Nat.reduceLT, Nat.reduceLeDiff, Nat.reduceMod, Nat.reducePow, List.reduceReplicate, UInt8.reduceOfNat, Int.reducePow, Int.reduceDiv, Int.reduceMod, Nat.reduceDiv, Int.reduceNeg, Int.reduceAdd, Int.reduceSub, Int.reduceMul, Int.reduceLE, Int.reduceLT, Int.reduceEq, Int.reduceToNat, reduceCtorEq, Row.obj e2, List.getElem_map, ht, h1, List.replicate_one]
                | with_reducible refine Tri.drawS tok mixed [0, 1, 2, 3, 4, 5, 6, 7, 9, 12, 19, 20, 21, 22, 26, 27, 28, 29, 48] 12 [0, 2, 5] (.op 0 .held (.op 1 .plain (.op 2 .held (.op 3 .plain (.op 4 .plain (.op 5 .held (.op 6 .plain (.op 7 .keeps (.op 8 .keeps (.op 9 .plain (.op 10 .plain .nil))))))))))) (by kernel_rfl) [(b4, .cells [.slice (some ⟨bh, 0, none⟩) n n] [] 23), (bh, .cells vs' [] 24)] (by intro fsum; first | exact Nat.le_refl _ | (simp only [List.map_append, List.map_cons, List.map_nil, List.sum_append, List.sum_cons, List.sum_nil, List.cons_append, List.nil_append]; omega)) ?_
              rw [splice_set (by omega)]
              obtain ⟨F3, hF3, hsum3⟩ := back (.slice (some ⟨nb, 0, none⟩) ((backE E (t : Int)).length + 1) ncap) ((backE E (t : Int)).map (Value.int .i64) ++ [.int .i64 (s : Nat)]) [(nb, .cells ((backE E (t : Int)).map (Value.int .i64) ++ [.int .i64 (s : Nat)]) nsp 3)] (.inr ⟨nb, ncap, nsp, by rw [List.length_append, List.length_map]; rfl, rfl, by rw [Nat.mul_one], by rw [List.length_append, List.length_map, List.length_singleton]; omega⟩)
              rw [hset] at hF3
              refine Upd.go (H' := (b1, .cells C [] 27) :: (b4, .cells [.slice (some ⟨bh, 0, none⟩) n n] [] 23) :: (bh, .cells (vs'.set t (.slice (some ⟨nb, 0, none⟩) ((backE E (t : Int)).length + 1) ncap)) [] 24) :: (kb ++ (F3 ++ H))) (by intro fsum; have := hsum3 fsum; simp only [List.map_append, List.map_cons, List.map_nil, List.sum_append, List.sum_cons, List.sum_nil, List.cons_append, List.nil_append] at this ⊢; omega) (Upd.now ⟨q' - 1, by omega, k + 1, _, F3, by omega, rfl, ?_, rfl, rfl⟩)
              rw [hE2]; exact hF3
          · obtain rfl : k = r.length := by omega
            rw [List.take_length, ← hsuc] at hF'
            have hend := endsL_succ d (show s < d.label.length by omega)
            have hels := endsL_len d s
            have had3 : Adr al := O.rl.adr (by rw [List.length_map]; omega)
            refine Tri.run tok [0, 1, 2, 3, 4, 5, 6, 7, 9, 12, 19, 20, 21, 22, 26, 27, 28, 29, 48] (by kernel_rfl) ?_
            rcases hkb with ⟨a, rfl, hz1, hz2, rfl⟩ | ⟨bk, ck, sk, rfl, rfl, hkl, hkc⟩
            · have hl0 : endsL d s = [] := List.eq_nil_of_length_eq_zero hz1
              by_cases hls : d.label[s]'(by omega) = 0
              · rw [if_pos hls] at hend
                repeat' first
                  | with_reducible refine Br.yes ?_
                  | with_reducible refine Br.no ?_
                  | with_reducible refine Br.dec (fun _ => ?_) (fun _ => ?_)
                  | with_reducible refine Br.beqB (fun _ => ?_) (fun _ => ?_)
                  | with_reducible refine Br.beqb (fun _ => ?_) (fun _ => ?_)
                  | with_reducible refine Br.mk (fun _ => ?_) (fun _ => ?_)
                  | with_reducible refine foundO.mk (fun _ _ => ?_) (fun _ => ?_)
                  | with_reducible refine appV.zero ?_
                  | with_reducible refine appV.own ?_
                  | ((with_reducible refine NewB.mk fun nb hnb => ?_); have hnb1 := hnb.1.1; have hnb2 := hnb.1.2; try simp only [keys_cons, keys_app, keys_nil, NotIn_cons, NotIn_app, NotIn_nil, and_true] at hnb2)
                  | ((with_reducible refine NewRow.mk fun nb nsp ncap hnb hncap => ?_); have hnb1 := hnb.1.1; have hnb2 := hnb.1.2; try simp only [keys_cons, keys_app, keys_nil, NotIn_cons, NotIn_app, NotIn_nil, and_true] at hnb2)
                  | simp (dsimp := false) (implicitDefEqProofs := false) (disch := first | assumption | (simp only [List.mem_cons, List.mem_append, true_or, or_true, eq_self]; done) | omega | (with_reducible refine Row.adr (by assumption) ?_; simp only [List.length_map, List.length_take, List.length_drop]; omega) | (simp only [List.length_cons, List.length_nil, List.length_map, List.length_append, List.length_replicate, Nat.reduceAdd, true_and, and_true, and_self]; first | done | omega)) only [go_sem, ↓reduceIte, Nat.reduceEqDiff, Nat.reduceAdd, Nat.reduceSub, Nat.reduceMul, Nat.reduceBEq, Nat.reduceLT, Nat.reduceLeDiff, Nat.reduceMod, Nat.reducePow, List.reduceReplicate, UInt8.reduceOfNat, Int.reducePow, Int.reduceDiv, Int.reduceMod, Nat.reduceDiv, Int.reduceNeg, Int.reduceAdd, Int.reduceSub, Int.reduceMul, Int.reduceLE, Int.reduceLT, Int.reduceEq, Int.reduceToNat, reduceCtorEq, -List.reduceReplicate, hCl, hCx, Row.obj O.rl, List.getElem_map, hls]
                exact Upd.now ⟨q - 1, by omega, s + 1, .slice a 0 0, vs', [], F', by omega, rfl, by rw [hend, hl0]; exact .inl ⟨a, rfl, rfl, rfl, rfl⟩, hF', rfl, rfl⟩
              · rw [if_neg hls, hl0] at hend
                repeat' first
                  | with_reducible refine Br.yes ?_
                  | with_reducible refine Br.no ?_
                  | with_reducible refine Br.dec (fun _ => ?_) (fun _ => ?_)
                  | with_reducible refine Br.beqB (fun _ => ?_) (fun _ => ?_)
                  | with_reducible refine Br.beqb (fun _ => ?_) (fun _ => ?_)
                  | with_reducible refine Br.mk (fun _ => ?_) (fun _ => ?_)
                  | with_reducible refine foundO.mk (fun _ _ => ?_) (fun _ => ?_)
                  | with_reducible refine appV.zero ?_
                  | with_reducible refine appV.own ?_
                  | ((with_reducible refine NewB.mk fun nb hnb => ?_); have hnb1 := hnb.1.1; have hnb2 := hnb.1.2; try simp only [keys_cons, keys_app, keys_nil, NotIn_cons, NotIn_app, NotIn_nil, and_true] at hnb2)
                  | ((with_reducible refine NewRow.mk fun nb nsp ncap hnb hncap => ?_); have hnb1 := hnb.1.1; have hnb2 := hnb.1.2; try simp only [keys_cons, keys_app, keys_nil, NotIn_cons, NotIn_app, NotIn_nil, and_true] at hnb2)
                  | simp (dsimp := false) (implicitDefEqProofs := false) (disch := first | assumption | (simp only [List.mem_cons, List.mem_append, true_or, or_true, eq_self]; done) | omega | (with_reducible refine Row.adr (by assumption) ?_; simp only [List.length_map, List.length_take, List.length_drop]; omega) | (simp only [List.length_cons, List.length_nil, List.length_map, List.length_append, List.length_replicate, Nat.reduceAdd, true_and, and_true, and_self]; first | done | omega)) only [go_sem, ↓reduceIte, Nat.reduceEqDiff, Nat.reduceAdd, Nat.reduceSub, Nat.reduceMul, Nat.reduceBEq, Nat.reduceLT, Nat.reduceLeDiff, Nat.reduceMod, Nat.reducePow, List.reduceReplicate, UInt8.reduceOfNat, Int.reducePow, Int.reduceDiv, Int.reduceMod, Nat.reduceDiv, Int.reduceNeg, Int.reduceAdd, Int.reduceSub, Int.reduceMul, Int.reduceLE, Int.reduceLT, Int.reduceEq, Int.reduceToNat, reduceCtorEq, -List.reduceReplicate, hCl, hCx, Row.obj O.rl, List.getElem_map, hls, List.replicate_one]
                exact Upd.go (H' := (b1, .cells C [] 27) :: (b4, .cells [.slice (some ⟨bh, 0, none⟩) n n] [] 23) :: (bh, .cells vs' [] 24) :: ([(nb, .cells [.int .i64 (s : Nat)] nsp 3)] ++ (F' ++ H))) (by intro fsum; first | exact Nat.le_refl _ | (simp only [List.map_append, List.map_cons, List.map_nil, List.sum_append, List.sum_cons, List.sum_nil, List.cons_append, List.nil_append]; omega)) (Upd.now ⟨q - 1, by omega, s + 1, _, vs', [(nb, .cells [.int .i64 (s : Nat)] nsp 3)], F', by omega, rfl, by rw [hend]; exact .inr ⟨nb, ncap, nsp, rfl, rfl, rfl, by show 1 + nsp.length = ncap * 1; omega⟩, hF', rfl, rfl⟩)
            · refine (fun h => h) ?_
              rw [List.length_map] at hkl hkc
              have hsE := hs2
              try simp only [keys_cons, keys_app, keys_nil, Sep_cons, Sep_nil, NotIn_cons, NotIn_app, NotIn_nil, List.cons_append, List.nil_append, List.append_assoc, and_assoc, and_true, true_and] at hsE
              repeat (obtain ⟨hsx, hsE⟩ := hsE)
              by_cases hls : d.label[s]'(by omega) = 0
              · rw [if_pos hls] at hend
                repeat' first
                  | with_reducible refine Br.yes ?_
                  | with_reducible refine Br.no ?_
                  | with_reducible refine Br.dec (fun _ => ?_) (fun _ => ?_)
                  | with_reducible refine Br.beqB (fun _ => ?_) (fun _ => ?_)
                  | with_reducible refine Br.beqb (fun _ => ?_) (fun _ => ?_)
                  | with_reducible refine Br.mk (fun _ => ?_) (fun _ => ?_)
                  | with_reducible refine foundO.mk (fun _ _ => ?_) (fun _ => ?_)
                  | with_reducible refine appV.zero ?_
                  | with_reducible refine appV.own ?_
                  | ((with_reducible refine NewB.mk fun nb hnb => ?_); have hnb1 := hnb.1.1; have hnb2 := hnb.1.2; try simp only [keys_cons, keys_app, keys_nil, NotIn_cons, NotIn_app, NotIn_nil, and_true] at hnb2)
                  | ((with_reducible refine NewRow.mk fun nb nsp ncap hnb hncap => ?_); have hnb1 := hnb.1.1; have hnb2 := hnb.1.2; try simp only [keys_cons, keys_app, keys_nil, NotIn_cons, NotIn_app, NotIn_nil, and_true] at hnb2)
                  | simp (dsimp := false) (implicitDefEqProofs := false) (disch := first | assumption | (simp only [List.mem_cons, List.mem_append, true_or, or_true, eq_self]; done) | omega | (with_reducible refine Row.adr (by assumption) ?_; simp only [List.length_map, List.length_take, List.length_drop]; omega) | (simp only [List.length_cons, List.length_nil, List.length_map, List.length_append, List.length_replicate, Nat.reduceAdd, true_and, and_true, and_self]; first | done | omega)) only [go_sem, ↓reduceIte, Nat.reduceEqDiff, Nat.reduceAdd, Nat.reduceSub, Nat.reduceMul, Nat.reduceBEq, Nat.reduceLT, Nat.reduceLeDiff, Nat.reduceMod, Nat.reducePow, List.reduceReplicate, UInt8.reduceOfNat, Int.reducePow, Int.reduceDiv, Int.reduceMod, Nat.reduceDiv, Int.reduceNeg, Int.reduceAdd, Int.reduceSub, Int.reduceMul, Int.reduceLE, Int.reduceLT, Int.reduceEq, Int.reduceToNat, reduceCtorEq, -List.reduceReplicate, hCl, hCx, Row.obj O.rl, List.getElem_map, hls]
                exact Upd.now ⟨q - 1, by omega, s + 1, _, vs', _, F', by omega, rfl, by rw [hend]; exact .inr ⟨bk, ck, sk, rfl, rfl, by rw [List.length_map]; omega, by rw [List.length_map]; omega⟩, hF', rfl, rfl⟩
              · rw [if_neg hls] at hend
                have hel2 := congrArg List.length hend
                rw [List.length_append, List.length_singleton] at hel2
                have hm2 : (endsL d s).map (Value.int .i64) ++ [.int .i64 (s : Nat)] = (endsL d (s + 1)).map (Value.int .i64) := by rw [hend, List.map_append]; rfl
                repeat' first
                  | with_reducible refine Br.yes ?_
                  | with_reducible refine Br.no ?_
                  | with_reducible refine Br.dec (fun _ => ?_) (fun _ => ?_)
                  | with_reducible refine Br.beqB (fun _ => ?_) (fun _ => ?_)
                  | with_reducible refine Br.beqb (fun _ => ?_) (fun _ => ?_)
                  | with_reducible refine Br.mk (fun _ => ?_) (fun _ => ?_)
                  | with_reducible refine foundO.mk (fun _ _ => ?_) (fun _ => ?_)
                  | with_reducible refine appV.zero ?_
                  | with_reducible refine appV.own ?_
                  | ((with_reducible refine NewB.mk fun nb hnb => ?_); have hnb1 := hnb.1.1; have hnb2 := hnb.1.2; try simp only [keys_cons, keys_app, keys_nil, NotIn_cons, NotIn_app, NotIn_nil, and_true] at hnb2)
                  | ((with_reducible refine NewRow.mk fun nb nsp ncap hnb hncap => ?_); have hnb1 := hnb.1.1; have hnb2 := hnb.1.2; try simp only [keys_cons, keys_app, keys_nil, NotIn_cons, NotIn_app, NotIn_nil, and_true] at hnb2)
                  | simp (dsimp := false) (implicitDefEqProofs := false) (disch := first | assumption | (simp only [List.mem_cons, List.mem_append, true_or, or_true, eq_self]; done) | omega | (with_reducible refine Row.adr (by assumption) ?_; simp only [List.length_map, List.length_take, List.length_drop]; omega) | (simp only [List.length_cons, List.length_nil, List.length_map, List.length_append, List.length_replicate, Nat.reduceAdd, true_and, and_true, and_self]; first | done | omega)) only [go_sem, ↓reduceIte, Nat.reduceEqDiff, Nat.reduceAdd, Nat.reduceSub, Nat.reduceMul, Nat.reduceBEq, Nat.reduceLT, Nat.reduceLeDiff, Nat.reduceMod, Nat.reducePow, List.reduceReplicate, UInt8.reduceOfNat, Int.reducePow, Int.reduceDiv, Int.reduceMod, Nat.reduceDiv, Int.reduceNeg, Int.reduceAdd, Int.reduceSub, Int.reduceMul, Int.reduceLE, Int.reduceLT, Int.reduceEq, Int.reduceToNat, reduceCtorEq, -List.reduceReplicate, hCl, hCx, Row.obj O.rl, List.getElem_map, hls, List.replicate_one]
                rw [hm2, ← hel2]
                exact Upd.go (H' := (b1, .cells C [] 27) :: (b4, .cells [.slice (some ⟨bh, 0, none⟩) n n] [] 23) :: (bh, .cells vs' [] 24) :: ([(nb, .cells ((endsL d (s + 1)).map (Value.int .i64)) nsp 3)] ++ (F' ++ H))) (by intro fsum; first | exact Nat.le_refl _ | (simp only [List.map_append, List.map_cons, List.map_nil, List.sum_append, List.sum_cons, List.sum_nil, List.cons_append, List.nil_append]; omega)) (Upd.now ⟨q - 1, by omega, s + 1, _, vs', [(nb, .cells ((endsL d (s + 1)).map (Value.int .i64)) nsp 3)], F', by omega, rfl, .inr ⟨nb, ncap, nsp, rfl, rfl, by rw [List.length_map]; omega, by rw [List.length_map]; omega⟩, hF', rfl, rfl⟩)
      · repeat' first
          | with_reducible refine Br.yes ?_
          | with_reducible refine Br.no ?_
          | with_reducible refine Br.dec (fun _ => ?_) (fun _ => ?_)
          | with_reducible refine Br.beqB (fun _ => ?_) (fun _ => ?_)
          | with_reducible refine Br.beqb (fun _ => ?_) (fun _ => ?_)
          | with_reducible refine Br.mk (fun _ => ?_) (fun _ => ?_)
          | with_reducible refine foundO.mk (fun _ _ => ?_) (fun _ => ?_)
          | with_reducible refine appV.zero ?_
          | with_reducible refine appV.own ?_
          | ((with_reducible refine NewB.mk fun nb hnb => ?_); have hnb1 := hnb.1.1; have hnb2 := hnb.1.2; try simp only [keys_cons, keys_app, keys_nil, NotIn_cons, NotIn_app, NotIn_nil, and_true] at hnb2)
          | ((with_reducible refine NewRow.mk fun nb nsp ncap hnb hncap => ?_); have hnb1 := hnb.1.1; have hnb2 := hnb.1.2; try simp only [keys_cons, keys_app, keys_nil, NotIn_cons, NotIn_app, NotIn_nil, and_true] at hnb2)
          | simp (dsimp := false) (implicitDefEqProofs := false) (disch := first | assumption | (simp only [List.mem_cons, List.mem_append, true_or, or_true, eq_self]; done) | omega | (with_reducible refine Row.adr (by assumption) ?_; simp only [List.length_map, List.length_take, List.length_drop]; omega) | (simp only [List.length_cons, List.length_nil, List.length_map, List.length_append, List.length_replicate, Nat.reduceAdd, true_and, and_true, and_self]; first | done | omega)) only [go_sem, ↓reduceIte, Nat.reduceEqDiff, Nat.reduceAdd, Nat.reduceSub, Nat.reduceMul, Nat.reduceBEq, Nat.reduceLT, Nat.reduceLeDiff, Nat.reduceMod, Nat.reducePow, List.reduceReplicate, UInt8.reduceOfNat, Int.reducePow, Int.reduceDiv, Int.reduceMod, Nat.reduceDiv, Int.reduceNeg, Int.reduceAdd, Int.reduceSub, Int.reduceMul, Int.reduceLE, Int.reduceLT, Int.reduceEq, Int.reduceToNat, reduceCtorEq]
        all_goals try (exfalso; omega)
        obtain rfl : s = n := by omega
        have hvl : vs.length = s := by rw [hF.lenv, backM_len]
        have hon := backF_ok hok
        rw [hn] at hon
        have hof2 := edgesL_len hok hof d.next.length (Nat.le_refl _)
        have hO := endsL_once d s
        refine FnT.pre calleeWalk ?_
        refine Upd.trans (Upd.go (H' := kb ++ ((bh, .cells vs [] 24) :: (F ++ ((b4, .cells [.slice (some ⟨bh, 0, none⟩) s s] [] 23) :: H)))) (by intro fsum; first | exact Nat.le_refl _ | (simp only [List.map_append, List.map_cons, List.map_nil, List.sum_append, List.sum_cons, List.sum_nil, List.cons_append, List.nil_append]; omega)) (Upd.now ?_))
        refine Upd.sepI fun hs3 => hkb.shareApp hs3 fun G2 av cv hle2 hs4 hv2 hrv hcv => ?_
        subst hv2
        refine FnT.pre calleeWalk (Upd.shareRow (b := bh) hs4.1.1 fun G3 hle3 hs5 hrh => ?_)
        refine FnT.pre calleeWalk (hF.share hs5 fun G4 hle4 hs6 hrs4 => ?_)
        have k4 := (hle2.trans hle3).trans hle4
        have hrs5 : ∀ i (h : i < s) (h1 : i < vs.length), ∃ a c, vs[i] = .slice a (backF d (i : Nat)).length c ∧ Row G4 a ((backF d (i : Nat)).map (Value.int .i64)) ∧ (backF d (i : Nat)).length ≤ c := fun i h h1 => by
          obtain ⟨a', c', x1, x2, x3⟩ := hrs4 i (by rw [backM_len]; exact h) h1
          rw [backM_get h] at x1 x2 x3
          rw [List.length_map] at x1 x3
          have hee : edgesL d s = edgesL d d.next.length := by rw [show s = d.next.length by omega]
          rw [hee] at x1 x2 x3
          exact ⟨a', c', x1, x2, x3⟩
        refine walk_t rfl rfl fun c1 c2 c3 hs7 => ?_
        have hsE := hs7
        try simp only [keys_cons, keys_app, keys_nil, Sep_cons, Sep_nil, NotIn_cons, NotIn_app, NotIn_nil, List.cons_append, List.nil_append, List.append_assoc, and_assoc, and_true, true_and] at hsE
        repeat (obtain ⟨hsx, hsE⟩ := hsE)
        repeat' first
          | with_reducible refine Br.yes ?_
          | with_reducible refine Br.no ?_
          | with_reducible refine Br.dec (fun _ => ?_) (fun _ => ?_)
          | with_reducible refine Br.beqB (fun _ => ?_) (fun _ => ?_)
          | with_reducible refine Br.beqb (fun _ => ?_) (fun _ => ?_)
          | with_reducible refine Br.mk (fun _ => ?_) (fun _ => ?_)
          | with_reducible refine foundO.mk (fun _ _ => ?_) (fun _ => ?_)
          | with_reducible refine appV.zero ?_
          | with_reducible refine appV.own ?_
          | ((with_reducible refine NewB.mk fun nb hnb => ?_); have hnb1 := hnb.1.1; have hnb2 := hnb.1.2; try simp only [keys_cons, keys_app, keys_nil, NotIn_cons, NotIn_app, NotIn_nil, and_true] at hnb2)
          | ((with_reducible refine NewRow.mk fun nb nsp ncap hnb hncap => ?_); have hnb1 := hnb.1.1; have hnb2 := hnb.1.2; try simp only [keys_cons, keys_app, keys_nil, NotIn_cons, NotIn_app, NotIn_nil, and_true] at hnb2)
          | simp (dsimp := false) (implicitDefEqProofs := false) (disch := first | assumption | (simp only [List.mem_cons, List.mem_append, true_or, or_true, eq_self]; done) | omega | (with_reducible refine Row.adr (by assumption) ?_; simp only [List.length_map, List.length_take, List.length_drop]; omega) | (simp only [List.length_cons, List.length_nil, List.length_map, List.length_append, List.length_replicate, Nat.reduceAdd, true_and, and_true, and_self]; first | done | omega)) only [go_sem, ↓reduceIte, Nat.reduceEqDiff, Nat.reduceAdd, Nat.reduceSub, Nat.reduceMul, Nat.reduceBEq, Nat.reduceLT, Nat.reduceLeDiff, Nat.reduceMod, Nat.reducePow, List.reduceReplicate, UInt8.reduceOfNat, Int.reducePow, Int.reduceDiv, Int.reduceMod, Nat.reduceDiv, Int.reduceNeg, Int.reduceAdd, Int.reduceSub, Int.reduceMul, Int.reduceLE, Int.reduceLT, Int.reduceEq, Int.reduceToNat, reduceCtorEq]
        refine sorted_t (by omega) hO hon (fun x h0 h1 => ?_) (fun x G5 H1 R1 hle5 h0 h1 hg hf hR1 => livef_t (cb := s) hvl ((hrh.mono hle4).mono hle5) (fun i h h1 => ?_) h0 h1 hg hf hR1) (v0 := .slice av (endsL d s).length cv) ⟨av, cv, rfl, (hrv.mono hle3).mono hle4, hcv⟩ (H := (b4, .cells [.slice (some ⟨bh, 0, none⟩) s s] [] 23) :: H) (by simp (dsimp := false) (implicitDefEqProofs := false) (disch := first | assumption | (simp only [List.mem_cons, List.mem_append, true_or, or_true, eq_self]; done) | omega | (with_reducible refine Row.adr (by assumption) ?_; simp only [List.length_map, List.length_take, List.length_drop]; omega) | (simp only [List.length_cons, List.length_nil, List.length_map, List.length_append, List.length_replicate, Nat.reduceAdd, true_and, and_true, and_self]; first | done | omega)) only [go_sem, ↓reduceIte, Nat.reduceEqDiff, Nat.reduceAdd, Nat.reduceSub, Nat.reduceMul, Nat.reduceBEq, Nat.reduceLT, Nat.reduceLeDiff, Nat.reduceMod, Nat.reducePow, List.reduceReplicate, UInt8.reduceOfNat, Int.reducePow, Int.reduceDiv, Int.reduceMod, Nat.reduceDiv, Int.reduceNeg, Int.reduceAdd, Int.reduceSub, Int.reduceMul, Int.reduceLE, Int.reduceLT, Int.reduceEq, Int.reduceToNat, reduceCtorEq]) fun G6 v6 hle6 hs8 hsl6 => ?_
        · have := backE_len (edgesL d d.next.length) x
          unfold backF
          omega
        · obtain ⟨a', c', x1, x2, x3⟩ := hrs5 i h h1
          exact ⟨a', c', x1, x2.mono hle5, x3⟩
        · have hsE := hs8
          try simp only [keys_cons, keys_app, keys_nil, Sep_cons, Sep_nil, NotIn_cons, NotIn_app, NotIn_nil, List.cons_append, List.nil_append, List.append_assoc, and_assoc, and_true, true_and] at hsE
          repeat (obtain ⟨hsx, hsE⟩ := hsE)
          repeat' first
            | with_reducible refine Br.yes ?_
            | with_reducible refine Br.no ?_
            | with_reducible refine Br.dec (fun _ => ?_) (fun _ => ?_)
            | with_reducible refine Br.beqB (fun _ => ?_) (fun _ => ?_)
            | with_reducible refine Br.beqb (fun _ => ?_) (fun _ => ?_)
            | with_reducible refine Br.mk (fun _ => ?_) (fun _ => ?_)
            | with_reducible refine foundO.mk (fun _ _ => ?_) (fun _ => ?_)
            | with_reducible refine appV.zero ?_
            | with_reducible refine appV.own ?_
            | ((with_reducible refine NewB.mk fun nb hnb => ?_); have hnb1 := hnb.1.1; have hnb2 := hnb.1.2; try simp only [keys_cons, keys_app, keys_nil, NotIn_cons, NotIn_app, NotIn_nil, and_true] at hnb2)
            | ((with_reducible refine NewRow.mk fun nb nsp ncap hnb hncap => ?_); have hnb1 := hnb.1.1; have hnb2 := hnb.1.2; try simp only [keys_cons, keys_app, keys_nil, NotIn_cons, NotIn_app, NotIn_nil, and_true] at hnb2)
            | simp (dsimp := false) (implicitDefEqProofs := false) (disch := first | assumption | (simp only [List.mem_cons, List.mem_append, true_or, or_true, eq_self]; done) | omega | (with_reducible refine Row.adr (by assumption) ?_; simp only [List.length_map, List.length_take, List.length_drop]; omega) | (simp only [List.length_cons, List.length_nil, List.length_map, List.length_append, List.length_replicate, Nat.reduceAdd, true_and, and_true, and_self]; first | done | omega)) only [go_sem, ↓reduceIte, Nat.reduceEqDiff, Nat.reduceAdd, Nat.reduceSub, Nat.reduceMul, Nat.reduceBEq, Nat.reduceLT, Nat.reduceLeDiff, Nat.reduceMod, Nat.reducePow, List.reduceReplicate, UInt8.reduceOfNat, Int.reducePow, Int.reduceDiv, Int.reduceMod, Nat.reduceDiv, Int.reduceNeg, Int.reduceAdd, Int.reduceSub, Int.reduceMul, Int.reduceLE, Int.reduceLT, Int.reduceEq, Int.reduceToNat, reduceCtorEq]
          unfold UpdR
          refine Upd.leave (H' := H) (by intro fsum; first | exact Nat.le_refl _ | (simp only [List.map_append, List.map_cons, List.map_nil, List.sum_append, List.sum_cons, List.sum_nil, List.cons_append, List.nil_append]; omega)) ?_
          have he : sortI (walkL (backF d) s (endsL d s)) = liveL d := by unfold liveL; rw [hn]
          rw [he] at hsl6
          exact fun hle hs => hR G6 _ (k4.trans hle6) hs hsl6
  · have hb := boolOf_no hok
    have hz : liveD d = [] := by unfold liveD; rw [if_neg (by rw [hb]; exact Bool.false_ne_true)]
    rw [hz] at hR
    refine FnT.body tok [0, 1, 2, 3, 4, 5, 6, 7, 9, 12, 19, 20, 21, 22, 26, 27, 28, 29, 48] Try.func10 rfl (by kernel_rfl) (by kernel_rfl) (by show _ ≤ 59; simp) fun hsep => ?_
    rw [Try.results10]
    have hsE := hsep
    try simp only [keys_cons, keys_app, keys_nil, Sep_cons, Sep_nil, NotIn_cons, NotIn_app, NotIn_nil, List.cons_append, List.nil_append, List.append_assoc, and_assoc, and_true, true_and] at hsE
    repeat (obtain ⟨hsx, hsE⟩ := hsE)
    repeat' first
      | with_reducible refine Br.yes ?_
      | with_reducible refine Br.no ?_
      | with_reducible refine Br.dec (fun _ => ?_) (fun _ => ?_)
      | with_reducible refine Br.beqB (fun _ => ?_) (fun _ => ?_)
      | with_reducible refine Br.beqb (fun _ => ?_) (fun _ => ?_)
      | with_reducible refine Br.mk (fun _ => ?_) (fun _ => ?_)
      | with_reducible refine foundO.mk (fun _ _ => ?_) (fun _ => ?_)
      | with_reducible refine appV.zero ?_
      | with_reducible refine appV.own ?_
      | ((with_reducible refine NewB.mk fun nb hnb => ?_); have hnb1 := hnb.1.1; have hnb2 := hnb.1.2; try simp only [keys_cons, keys_app, keys_nil, NotIn_cons, NotIn_app, NotIn_nil, and_true] at hnb2)
      | ((with_reducible refine NewRow.mk fun nb nsp ncap hnb hncap => ?_); have hnb1 := hnb.1.1; have hnb2 := hnb.1.2; try simp only [keys_cons, keys_app, keys_nil, NotIn_cons, NotIn_app, NotIn_nil, and_true] at hnb2)
      | simp (dsimp := false) (implicitDefEqProofs := false) (disch := first | assumption | (simp only [List.mem_cons, List.mem_append, true_or, or_true, eq_self]; done) | omega | (with_reducible refine Row.adr (by assumption) ?_; simp only [List.length_map, List.length_take, List.length_drop]; omega) | (simp only [List.length_cons, List.length_nil, List.length_map, List.length_append, List.length_replicate, Nat.reduceAdd, true_and, and_true, and_self]; first | done | omega)) only [go_sem, ↓reduceIte, Nat.reduceEqDiff, Nat.reduceAdd, Nat.reduceSub, Nat.reduceMul, Nat.reduceBEq, Nat.reduceLT, Nat.reduceLeDiff, Nat.reduceMod, Nat.reducePow, List.reduceReplicate, UInt8.reduceOfNat, Int.reducePow, Int.reduceDiv, Int.reduceMod, Nat.reduceDiv, Int.reduceNeg, Int.reduceAdd, Int.reduceSub, Int.reduceMul, Int.reduceLE, Int.reduceLT, Int.reduceEq, Int.reduceToNat, reduceCtorEq, -List.reduceReplicate, List.toList_toArray, hCl, hCa, hb]
      | with_reducible refine right_t hsm O.is ?_
    unfold UpdR
    refine Upd.leave (H' := H) (by intro fsum; first | exact Nat.le_refl _ | (simp only [List.map_append, List.map_cons, List.map_nil, List.sum_append, List.sum_cons, List.sum_nil, List.cons_append, List.nil_append]; omega)) ?_
    exact fun hle hs => hR G _ (PLe.refl _) hs (Sl.nil _ _)
end Go.Proofs.Ytlblohmjikopbaa
