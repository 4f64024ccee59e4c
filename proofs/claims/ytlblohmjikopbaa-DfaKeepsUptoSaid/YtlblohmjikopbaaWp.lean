/- The states alone at which a machine may be: the plain law; dfa.Trim. -/
import Derived.Test.YtlblohmjikopbaaWo
import Derived.Test.YtlblohmjikopbaaWf
set_option linter.unusedSimpArgs false
set_option linter.unusedVariables false
namespace Go.Proofs.Ytlblohmjikopbaa
open Go Go.V Go.Proofs

theorem reach_once {d : DfaT} (hok : RightP d) : OnceN d.label.length [0] := ⟨by simp, fun x hx => by rw [List.mem_singleton] at hx; have := hok.1; omega⟩
theorem reachL_once {d : DfaT} (hok : RightP d) : OnceN d.label.length (reachL d) := bw_once (reach_once hok) (nextF_ok hok) _
theorem reachL_pre (d : DfaT) : ∃ X, reachL d = 0 :: X := by
  obtain ⟨X, h⟩ := bw_pre' (nextF d) [0] 0 d.label.length
  rw [Nat.zero_add] at h
  exact ⟨X, h⟩
theorem reachL_head (d : DfaT) : (reachL d).head? = some 0 := by
  obtain ⟨X, h⟩ := reachL_pre d
  rw [h]; rfl
theorem reachL_zero (d : DfaT) : (0 : Int) ∈ reachL d := by
  obtain ⟨X, h⟩ := reachL_pre d
  rw [h]; exact List.mem_cons_self ..
theorem reachL_keep {d : DfaT} (hok : RightP d) : KeepOk d (reachL d) := ⟨⟨reachL_once hok, reachL_head d⟩, fun s hs => bw_closed (reach_once hok) (nextF_ok hok) hs⟩
/-- the trimmed machine -/
def trimD (d : DfaT) : DfaT := keepD d (reachL d)
noncomputable def trimR (d : DfaT) : DfaT × Int := keepR d (reachD d)
theorem trimR_ok {d : DfaT} (h : RightP d) : trimR d = (trimD d, 0) := by
  unfold trimR
  have : reachD d = reachL d := by unfold reachD; rw [if_pos (boolOf_yes h)]
  rw [this, keepR_ok h (reachL_keep h)]; rfl
theorem trimR_bad {d : DfaT} (h : ¬ RightP d) : trimR d = (zeroD, 6) := keepR_bad h
/-- what a kept machine is -/
theorem keepD_next {d : DfaT} {l : List Int} {i : Nat} (h : i < l.length) : (keepD d l).next[i]'(by unfold keepD; simpa using h) = rowK d l l[i] := by simp [keepD]
theorem keepD_label {d : DfaT} {l : List Int} {i : Nat} (h : i < l.length) : (keepD d l).label[i]'(by unfold keepD labF; simpa using h) = d.label.getD l[i].toNat 0 := by simp [keepD, labF]
theorem keepD_len (d : DfaT) (l : List Int) : (keepD d l).next.length = l.length ∧ (keepD d l).label.length = l.length := by simp [keepD, labF]
theorem findF_get {l : List Int} (h : l.Nodup) {i : Nat} (hi : i < l.length) : findF l l[i] = i := by
  unfold findF; rw [place_get h hi]
theorem findF_at {l : List Int} {x : Int} (h : x ∈ l) : ∃ (i : Nat) (hi : i < l.length), findF l x = i ∧ l[i] = x := by
  obtain ⟨n, hn⟩ := place_mem h
  obtain ⟨h1, h2⟩ := place_some hn
  rw [List.getElem?_eq_getElem h1] at h2
  exact ⟨n, h1, findF_some hn, Option.some.inj h2⟩
theorem keep_right {d : DfaT} {l : List Int} (hok : RightP d) (hk : KeepOk d l) : RightP (keepD d l) := by
  obtain ⟨hk1, hk2, hk3, hk4, hk5, hk6, hk7⟩ := id hok
  obtain ⟨⟨hO, hh⟩, hf⟩ := hk
  have hl := hO.len
  have hpos : 0 < l.length := by
    rcases l with _ | ⟨x, l⟩
    · cases hh
    · simp
  obtain ⟨e1, e2⟩ := keepD_len d l
  refine ⟨by omega, by omega, by omega, hk4, hk5, hk6, fun s h1 h2 => ?_⟩
  have hs : s < l.length := by omega
  have hx := hO.2 _ (List.getElem_mem hs)
  obtain ⟨t, ht⟩ := Int.eq_ofNat_of_zero_le hx.1
  have htn : t < d.next.length := by omega
  obtain ⟨g1, g2, g3, g4⟩ := hk7 t htn (by omega)
  rw [keepD_next hs, keepD_label hs]
  unfold rowK
  rw [ht, nextF_get htn]
  refine ⟨by rw [List.length_map]; exact g1, ?_, ?_, fun y hy => ?_⟩
  · rw [Int.toNat_natCast, List.getD_eq_getElem?_getD, List.getElem?_eq_getElem (by omega), Option.getD_some]; exact g2
  · rw [Int.toNat_natCast, List.getD_eq_getElem?_getD, List.getElem?_eq_getElem (by omega), Option.getD_some]; exact g3
  · rw [List.mem_map] at hy
    obtain ⟨z, hz, rfl⟩ := hy
    have hzl := hf _ (List.getElem_mem hs) z (by rw [ht, nextF_get htn]; exact hz)
    obtain ⟨i, hi, h3, _⟩ := findF_at hzl
    rw [h3, e2]
    omega
theorem keep_nextF {d : DfaT} {l : List Int} {i : Nat} (h : i < l.length) : nextF (keepD d l) (i : Nat) = rowK d l l[i] := by
  rw [nextF_get (by rw [(keepD_len d l).1]; exact h), keepD_next h]
/-- a kept machine runs alike -/
theorem keep_to {d : DfaT} {l : List Int} (hok : RightP d) (hof : d.of.length = 256) (hk : KeepOk d l) {s : Int} (hs : s ∈ l) {c : Nat} (hc : c < 256) : toD d s c ∈ l ∧ toD (keepD d l) (findF l s) c = findF l (toD d s c) := by
  obtain ⟨hk1, hk2, hk3, hk4, hk5, hk6, hk7⟩ := id hok
  have hx := hk.1.1.2 s hs
  obtain ⟨i, hi, h1, h2⟩ := findF_at hs
  obtain ⟨t, rfl⟩ := Int.eq_ofNat_of_zero_le hx.1
  have htn : t < d.next.length := by omega
  have hco : c < d.of.length := by omega
  have hox := of_bound hok (List.getElem_mem hco)
  obtain ⟨y, hy⟩ := Int.eq_ofNat_of_zero_le hox.1
  obtain ⟨hw0, _, _, hrng⟩ := hk7 t htn (by omega)
  have hyk : y < (d.next[t]).length := by omega
  have hoc : d.of.getD c 0 = (y : Int) := by rw [List.getD_eq_getElem?_getD, List.getElem?_eq_getElem hco, Option.getD_some, hy]
  have hval : toD d (t : Nat) c = (d.next[t])[y] := by
    unfold toD
    rw [hoc, Int.toNat_natCast, List.getD_eq_getElem?_getD, List.getElem?_eq_getElem htn, Option.getD_some, atL_get (by simpa using hyk)]
    simp only [Int.toNat_natCast]
  have hmem : (d.next[t])[y] ∈ l := hk.2 _ hs _ (by rw [nextF_get htn]; exact List.getElem_mem hyk)
  refine ⟨hval ▸ hmem, ?_⟩
  rw [hval, h1]
  unfold toD
  have hnx : (keepD d l).next.getD ((i : Nat) : Int).toNat [] = rowK d l l[i] := by
    rw [Int.toNat_natCast, List.getD_eq_getElem?_getD, List.getElem?_eq_getElem (by rw [(keepD_len d l).1]; exact hi), Option.getD_some, keepD_next hi]
  have hrow : rowK d l l[i] = (d.next[t]).map (findF l) := by unfold rowK; rw [h2, nextF_get htn]
  rw [hnx, hrow, show (keepD d l).of = d.of from rfl, hoc, atL_get (by rw [List.length_map]; simpa using hyk)]
  simp only [Int.toNat_natCast, List.getElem_map]
theorem keep_zero {d : DfaT} {l : List Int} (hk : KeepOk d l) : (0 : Int) ∈ l ∧ findF l 0 = 0 := by
  obtain ⟨⟨hO, hh⟩, _⟩ := hk
  rcases l with _ | ⟨x, l⟩
  · cases hh
  · rw [List.head?_cons, Option.some.injEq] at hh
    subst hh
    exact ⟨List.mem_cons_self .., findF_get hO.1 (i := 0) (by simp)⟩
theorem keep_run {d : DfaT} {l : List Int} (hok : RightP d) (hof : d.of.length = 256) (hk : KeepOk d l) (w : List UInt8) : runD d w ∈ l ∧ runD (keepD d l) w = findF l (runD d w) := by
  have key : ∀ i, i ≤ w.length → runD d (w.take i) ∈ l ∧ runD (keepD d l) (w.take i) = findF l (runD d (w.take i)) := by
    intro i
    induction i with
    | zero => intro _; rw [List.take_zero]; exact ⟨(keep_zero hk).1, (keep_zero hk).2.symm⟩
    | succ i ih =>
      intro h
      obtain ⟨h1, h2⟩ := ih (by omega)
      rw [runD_take d w h, runD_take (keepD d l) w h, h2]
      exact keep_to hok hof hk h1 w[i].toNat_lt
  have := key w.length (Nat.le_refl _)
  rwa [List.take_length] at this
theorem keep_tell {d : DfaT} {l : List Int} (hok : RightP d) (hof : d.of.length = 256) (hk : KeepOk d l) (w : List UInt8) : tellD (keepD d l) w = tellD d w := by
  obtain ⟨h1, h2⟩ := keep_run hok hof hk w
  obtain ⟨i, hi, h3, h4⟩ := findF_at h1
  have hb := hk.1.1.2 _ h1
  unfold tellD
  rw [h2, h3, atL_get (by rw [(keepD_len d l).2]; simpa using hi)]
  simp only [Int.toNat_natCast]
  rw [keepD_label hi, h4]
  rfl
/-- met in another numbering -/
theorem addN_map {l : List Int} (hl : l.Nodup) : ∀ (ts W : List Int), (∀ x ∈ W, x ∈ l) → (∀ x ∈ ts, x ∈ l) → addN (W.map (findF l)) (ts.map (findF l)) = (addN W ts).map (findF l)
  | [], W, _, _ => rfl
  | t :: ts, W, hW, hts => by
    have ht := hts t (List.mem_cons_self ..)
    have hadd : add1 (W.map (findF l)) (findF l t) = (add1 W t).map (findF l) := by
      unfold add1
      by_cases h : t ∈ W
      · rw [if_pos h, if_pos (List.mem_map.2 ⟨t, h, rfl⟩)]
      · have h2 : findF l t ∉ W.map (findF l) := fun h3 => by
          obtain ⟨x, hx, e⟩ := List.mem_map.1 h3
          exact h (findF_inj (hW x hx) ht e ▸ hx)
        rw [if_neg h, if_neg h2, List.map_append]; rfl
    rw [List.map_cons, addN_cons, addN_cons, hadd]
    exact addN_map hl ts (add1 W t) (fun x hx => by
      rcases mem_add1.1 hx with h | rfl
      · exact hW x h
      · exact ht) fun x hx => hts x (List.mem_cons_of_mem _ hx)
theorem bw_map {d : DfaT} {l : List Int} (hk : KeepOk d l) : ∀ i, (∀ x ∈ bw (nextF d) [0] i, x ∈ l) ∧ bw (nextF (keepD d l)) [0] i = (bw (nextF d) [0] i).map (findF l)
  | 0 => ⟨fun x hx => by
      have : x = 0 := List.mem_singleton.1 hx
      subst this; exact (keep_zero hk).1, by
      show [0] = [0].map (findF l)
      rw [List.map_cons, (keep_zero hk).2]; rfl⟩
  | i + 1 => by
    obtain ⟨h1, h2⟩ := bw_map hk i
    rcases Nat.lt_or_ge i (bw (nextF d) [0] i).length with h | h
    · have h' : i < (bw (nextF (keepD d l)) [0] i).length := by rw [h2, List.length_map]; exact h
      have hx := h1 _ (List.getElem_mem h)
      obtain ⟨j, hj, e1, e2⟩ := findF_at hx
      have hon : nextF (keepD d l) (bw (nextF (keepD d l)) [0] i)[i] = (nextF d (bw (nextF d) [0] i)[i]).map (findF l) := by
        have : (bw (nextF (keepD d l)) [0] i)[i] = (j : Nat) := by simp only [h2, List.getElem_map]; exact e1
        rw [this, keep_nextF hj, e2]; rfl
      have hcl := hk.2 _ hx
      rw [bw_succ h, bw_succ h', hon]
      refine ⟨fun x hx' => ?_, ?_⟩
      · rcases mem_addN.1 hx' with g | g
        · exact h1 x g
        · exact hcl x g
      · rw [h2]
        exact addN_map hk.1.1.1 _ _ h1 hcl
    · rw [bw_stop h, bw_stop (by rw [h2, List.length_map]; exact h)]
      exact ⟨h1, h2⟩
theorem trim_reach {d : DfaT} (hok : RightP d) : reachL (trimD d) = (List.range (reachL d).length).map fun i : Nat => (i : Int) := by
  have hk := reachL_keep hok
  have hr := keep_right hok hk
  have hO := reachL_once hok
  obtain ⟨_, h2⟩ := bw_map hk d.label.length
  have he : bw (nextF (keepD d (reachL d))) [0] d.label.length = reachL (trimD d) := by
    refine bw_end (reach_once hr) (nextF_ok hr) ?_
    rw [h2, List.length_map]
    exact hO.len
  rw [← he, h2]
  show (reachL d).map (findF (reachL d)) = _
  apply List.ext_getElem
  · simp
  · intro i h1 h3
    rw [List.length_map] at h1
    simp only [List.getElem_map, List.getElem_range]
    exact findF_get hO.1 h1
theorem findF_range {n : Nat} {x : Int} (h : 0 ≤ x ∧ x < n) : findF ((List.range n).map fun i : Nat => (i : Int)) x = x := by
  obtain ⟨i, rfl⟩ := Int.eq_ofNat_of_zero_le h.1
  have hnd : ((List.range n).map fun i : Nat => (i : Int)).Nodup := by
    rw [List.nodup_iff_pairwise_ne, List.pairwise_map]
    exact (List.nodup_range (n := n)).imp fun h => by omega
  have := findF_get hnd (i := i) (by rw [List.length_map, List.length_range]; omega)
  simpa using this
theorem keep_id {d : DfaT} (hok : RightP d) : keepD d ((List.range d.label.length).map fun i : Nat => (i : Int)) = d := by
  obtain ⟨hk1, hk2, hk3, hk4, hk5, hk6, hk7⟩ := id hok
  refine DfaT.ext2 rfl rfl ?_ ?_ rfl
  · apply List.ext_getElem
    · simp [keepD, hk3]
    · intro i h1 h2
      rw [keepD_next (by simpa [keepD] using h1)]
      simp only [List.getElem_map, List.getElem_range]
      unfold rowK
      rw [nextF_get h2]
      apply List.ext_getElem
      · simp
      · intro j g1 g2
        simp only [List.getElem_map]
        exact findF_range ((hk7 i h2 (by omega)).2.2.2 _ (List.getElem_mem g2))
  · apply List.ext_getElem
    · simp [keepD, labF]
    · intro i h1 h2
      rw [keepD_label (by simpa [keepD, labF] using h1)]
      simp only [List.getElem_map, List.getElem_range, Int.toNat_natCast]
      rw [List.getD_eq_getElem?_getD, List.getElem?_eq_getElem h2]; rfl
theorem trim_trim {d : DfaT} (hok : RightP d) : trimD (trimD d) = trimD d := by
  have hr : RightP (trimD d) := keep_right hok (reachL_keep hok)
  have hl : (trimD d).label.length = (reachL d).length := (keepD_len d (reachL d)).2
  show keepD (trimD d) (reachL (trimD d)) = trimD d
  rw [trim_reach hok, ← hl]
  exact keep_id hr
theorem trim_small {d : DfaT} (hsm : SmallD d) (hok : RightP d) : SmallD (trimD d) := by
  obtain ⟨hm1, hm2, hm3, hm4, hm5⟩ := id hsm
  obtain ⟨e1, e2⟩ := keepD_len d (reachL d)
  have hO := reachL_once hok
  have hl := hO.len
  have hk3 := hok.2.2.1
  refine ⟨by show (keepD d (reachL d)).next.length ≤ _; omega, fun r hr => ?_, by show (keepD d (reachL d)).label.length ≤ _; omega, hm4, hm5⟩
  obtain ⟨x, hx, rfl⟩ := List.mem_map.1 (show r ∈ (reachL d).map (rowK d (reachL d)) from hr)
  have hb := hO.2 x hx
  obtain ⟨t, rfl⟩ := Int.eq_ofNat_of_zero_le hb.1
  unfold rowK
  rw [nextF_get (by omega), List.length_map]
  exact hm2 _ (List.getElem_mem _)
theorem isD_one {G : PHeap} {d : DfaT} {C : List Value} (h : IsD G d (.agg C.toArray)) : C.all oneV = true := by
  obtain ⟨_, _, vn, vl, vs, e, ⟨an, cn, rs, rfl, _⟩, ⟨al, cl, rfl, _⟩, ⟨ay, cy, rfl, _⟩⟩ := h
  have e2 := congrArg (fun v => match v with | Value.agg a => a.toList | _ => []) e
  simp only [List.toList_toArray] at e2
  rw [e2]; exact cellsD_one rfl rfl rfl
theorem isD_put {C : List Value} (h : C.length = 260) : splice zeroC 0 C = C := by
  unfold splice
  rw [List.take_zero, List.nil_append, List.drop_of_length_le (by rw [zeroC_len]; omega), List.append_nil]
set_option maxHeartbeats 16000000 in
theorem trim_t {d : DfaT} (hsm : SmallD d) {G : PHeap} {H : Heap} {R : Value → PHeap → Heap → Prop} {v : Value} (hv : IsD G d v)
    (hR : ∀ G' v', PLe G G' → Sep G' (keys H) → IsD G' (trimR d).1 v' → R (.tuple #[v', .int .i64 (trimR d).2]) G' H) : FnT Try.prog 28 [v] G H R := by
  obtain ⟨C, an, al, ay, cn, cl, cs, rs, rfl, O⟩ := hv.opened
  have hCl := O.len
  have hCa := O.all
  have hrl : (reachD d).length ≤ 2000000 := by
    by_cases hok : RightP d
    · have h1 : reachD d = reachL d := by unfold reachD; rw [if_pos (boolOf_yes hok)]
      have h2 := (reachL_once hok).len
      have h3 := hok.2.1
      rw [h1]; omega
    · have h1 : reachD d = [] := by unfold reachD; rw [if_neg (by rw [boolOf_no hok]; exact Bool.false_ne_true)]
      rw [h1]; simp
  refine FnT.sep ?_
  refine FnT.body tok [0, 1, 2, 3] Try.func28 rfl (by kernel_rfl) (by kernel_rfl) (by show _ ≤ 10; simp) fun hsep => ?_
  rw [Try.results28]
  have hsE := hsep
  try simp only [keys_cons, keys_app, keys_nil, Sep_cons, Sep_nil, NotIn_cons, NotIn_app, NotIn_nil, List.cons_append, List.nil_append, List.append_assoc, and_assoc, and_true, true_and] at hsE
  repeat (obtain ⟨hsx, hsE⟩ := hsE)
  repeat' first
    | with_reducible refine Br.yes ?_
    | with_reducible refine Br.no ?_
    | with_reducible refine Br.dec (fun _ => ?_) (fun _ => ?_)
    | with_reducible refine Br.beqB (fun _ => ?_) (fun _ => ?_)
    | with_reducible refine Br.beqb (fun _ => ?_) (fun _ => ?_)
    | with_reducible refine Br.mk (fun _ => ?_) (fun _ => ?_)
    | with_reducible refine foundO.mk (fun _ _ => ?_) (fun _ => ?_)
    | with_reducible refine appV.zero ?_
    | with_reducible refine appV.own ?_
    | ((with_reducible refine NewB.mk fun nb hnb => ?_); have hnb1 := hnb.1.1; have hnb2 := hnb.1.2; try simp only [keys_cons, keys_app, keys_nil, NotIn_cons, NotIn_app, NotIn_nil, and_true] at hnb2)
    | ((with_reducible refine NewRow.mk fun nb nsp ncap hnb hncap => ?_); have hnb1 := hnb.1.1; have hnb2 := hnb.1.2; try simp only [keys_cons, keys_app, keys_nil, NotIn_cons, NotIn_app, NotIn_nil, and_true] at hnb2)
    | simp (dsimp := false) (implicitDefEqProofs := false) (disch := first | assumption | (simp only [List.mem_cons, List.mem_append, true_or, or_true, eq_self]; done) | omega | (with_reducible refine Row.adr (by assumption) ?_; simp only [List.length_map, List.length_take, List.length_drop]; omega) | (simp only [List.length_cons, List.length_nil, List.length_map, List.length_append, List.length_replicate, Nat.reduceAdd, true_and, and_true, and_self]; first | done | omega)) only [go_sem, ↓reduceIte, Nat.reduceEqDiff, Nat.reduceAdd, Nat.reduceSub, Nat.reduceMul, Nat.reduceBEq, Nat.reduceLT, Nat.reduceLeDiff, Nat.reduceMod, Nat.reducePow, List.reduceReplicate, UInt8.reduceOfNat, Int.reducePow, Int.reduceDiv, Int.reduceMod, Nat.reduceDiv, Int.reduceNeg, Int.reduceAdd, Int.reduceSub, Int.reduceMul, Int.reduceLE, Int.reduceLT, Int.reduceEq, Int.reduceToNat, reduceCtorEq, -List.reduceReplicate, List.toList_toArray, hCl, hCa]
    | with_reducible refine Tri.drawH tok mixed [0, 1, 2, 3] 1 [0, 1] (.op 0 .held (.op 1 .held (.op 2 .keeps (.op 3 .keeps (.op 4 .plain (.op 5 .plain (.op 6 .plain (.op 7 .plain .nil)))))))) (by kernel_rfl) [1] ?_
  obtain ⟨b2, e0⟩ : ∃ x, x = nb := ⟨_, rfl⟩
  subst e0
  refine reach_t hsm O.is fun G2 v2 hle2 hs2 hsl2 => ?_
  have hsE := hs2
  try simp only [keys_cons, keys_app, keys_nil, Sep_cons, Sep_nil, NotIn_cons, NotIn_app, NotIn_nil, List.cons_append, List.nil_append, List.append_assoc, and_assoc, and_true, true_and] at hsE
  repeat (obtain ⟨hsx, hsE⟩ := hsE)
  repeat' first
    | with_reducible refine Br.yes ?_
    | with_reducible refine Br.no ?_
    | with_reducible refine Br.dec (fun _ => ?_) (fun _ => ?_)
    | with_reducible refine Br.beqB (fun _ => ?_) (fun _ => ?_)
    | with_reducible refine Br.beqb (fun _ => ?_) (fun _ => ?_)
    | with_reducible refine Br.mk (fun _ => ?_) (fun _ => ?_)
    | with_reducible refine foundO.mk (fun _ _ => ?_) (fun _ => ?_)
    | with_reducible refine appV.zero ?_
    | with_reducible refine appV.own ?_
    | ((with_reducible refine NewB.mk fun nb hnb => ?_); have hnb1 := hnb.1.1; have hnb2 := hnb.1.2; try simp only [keys_cons, keys_app, keys_nil, NotIn_cons, NotIn_app, NotIn_nil, and_true] at hnb2)
    | ((with_reducible refine NewRow.mk fun nb nsp ncap hnb hncap => ?_); have hnb1 := hnb.1.1; have hnb2 := hnb.1.2; try simp only [keys_cons, keys_app, keys_nil, NotIn_cons, NotIn_app, NotIn_nil, and_true] at hnb2)
    | simp (dsimp := false) (implicitDefEqProofs := false) (disch := first | assumption | (simp only [List.mem_cons, List.mem_append, true_or, or_true, eq_self]; done) | omega | (with_reducible refine Row.adr (by assumption) ?_; simp only [List.length_map, List.length_take, List.length_drop]; omega) | (simp only [List.length_cons, List.length_nil, List.length_map, List.length_append, List.length_replicate, Nat.reduceAdd, true_and, and_true, and_self]; first | done | omega)) only [go_sem, ↓reduceIte, Nat.reduceEqDiff, Nat.reduceAdd, Nat.reduceSub, Nat.reduceMul, Nat.reduceBEq, Nat.reduceLT, Nat.reduceLeDiff, Nat.reduceMod, Nat.reducePow, List.reduceReplicate, UInt8.reduceOfNat, Int.reducePow, Int.reduceDiv, Int.reduceMod, Nat.reduceDiv, Int.reduceNeg, Int.reduceAdd, Int.reduceSub, Int.reduceMul, Int.reduceLE, Int.reduceLT, Int.reduceEq, Int.reduceToNat, reduceCtorEq, -List.reduceReplicate, List.toList_toArray, hCl, hCa]
  refine keep_t hsm hrl (O.is.mono hle2) hsl2 fun G3 v3 hle3 hs3 hI => ?_
  have hI3 : IsD G3 (trimR d).1 v3 := hI
  obtain ⟨C', an', al', ay', cn', cl', cs', rs', rfl, O'⟩ := hI3.opened
  have hDl := O'.len
  have hone := isD_one O'.is
  have hput := isD_put hDl
  have htk : List.take 260 C' = C' := List.take_of_length_le (by omega)
  have hsE := hs3
  try simp only [keys_cons, keys_app, keys_nil, Sep_cons, Sep_nil, NotIn_cons, NotIn_app, NotIn_nil, List.cons_append, List.nil_append, List.append_assoc, and_assoc, and_true, true_and] at hsE
  repeat (obtain ⟨hsx, hsE⟩ := hsE)
  repeat' first
    | with_reducible refine Br.yes ?_
    | with_reducible refine Br.no ?_
    | with_reducible refine Br.dec (fun _ => ?_) (fun _ => ?_)
    | with_reducible refine Br.beqB (fun _ => ?_) (fun _ => ?_)
    | with_reducible refine Br.beqb (fun _ => ?_) (fun _ => ?_)
    | with_reducible refine Br.mk (fun _ => ?_) (fun _ => ?_)
    | with_reducible refine foundO.mk (fun _ _ => ?_) (fun _ => ?_)
    | with_reducible refine appV.zero ?_
    | with_reducible refine appV.own ?_
    | ((with_reducible refine NewB.mk fun nb hnb => ?_); have hnb1 := hnb.1.1; have hnb2 := hnb.1.2; try simp only [keys_cons, keys_app, keys_nil, NotIn_cons, NotIn_app, NotIn_nil, and_true] at hnb2)
    | ((with_reducible refine NewRow.mk fun nb nsp ncap hnb hncap => ?_); have hnb1 := hnb.1.1; have hnb2 := hnb.1.2; try simp only [keys_cons, keys_app, keys_nil, NotIn_cons, NotIn_app, NotIn_nil, and_true] at hnb2)
    | simp (dsimp := false) (implicitDefEqProofs := false) (disch := first | assumption | (simp only [List.mem_cons, List.mem_append, true_or, or_true, eq_self]; done) | omega | (with_reducible refine Row.adr (by assumption) ?_; simp only [List.length_map, List.length_take, List.length_drop]; omega) | (simp only [List.length_cons, List.length_nil, List.length_map, List.length_append, List.length_replicate, Nat.reduceAdd, true_and, and_true, and_self]; first | done | omega)) only [go_sem, ↓reduceIte, Nat.reduceEqDiff, Nat.reduceAdd, Nat.reduceSub, Nat.reduceMul, Nat.reduceBEq, Nat.reduceLT, Nat.reduceLeDiff, Nat.reduceMod, Nat.reducePow, List.reduceReplicate, UInt8.reduceOfNat, Int.reducePow, Int.reduceDiv, Int.reduceMod, Nat.reduceDiv, Int.reduceNeg, Int.reduceAdd, Int.reduceSub, Int.reduceMul, Int.reduceLE, Int.reduceLT, Int.reduceEq, Int.reduceToNat, reduceCtorEq, -List.reduceReplicate, List.toList_toArray, hDl, hone, hput, htk, zeroC_len]
  unfold UpdR
  refine Upd.leave (H' := H) (by intro fsum; first | exact Nat.le_refl _ | (simp only [List.map_append, List.map_cons, List.map_nil, List.sum_append, List.sum_cons, List.sum_nil, List.cons_append, List.nil_append]; omega)) ?_
  exact fun _ hs => hR G3 _ (hle2.trans hle3) hs O'.is
end Go.Proofs.Ytlblohmjikopbaa
