/- Law 25, HopcroftSmall: a machine without states that are alike tells the same of each word, has no two that are alike, and is its own; a machine that has its states twice leads to one with as many: the law answers true. -/
import Derived.Test.YtdeableflgakdaaK9
import Derived.Test.YtdeableflgakdaaProg
import Derived.Test.YtdeableflgakdaaRows
set_option maxHeartbeats 64000000
set_option linter.unusedSimpArgs false
set_option linter.unusedVariables false
set_option linter.unusedSectionVars false
namespace Go.Proofs.Ytdeableflgakdaa
open Go Go.V Go.Proofs
theorem lvlA_zero {d : DfaT} (h : d.next.length = d.label.length) {s t : Nat} (hs : s < d.label.length) (ht : t < d.label.length) : atL (lvl d 0) (s : Nat) = atL (lvl d 0) (t : Nat) ↔ atL d.label (s : Nat) = atL d.label (t : Nat) := by
 rw [atL_nat (by rw [lvl_len h]; omega), atL_nat (by rw [lvl_len h]; omega), atL_nat hs, atL_nat ht]
 exact lvl_zero h hs ht
theorem lvlA_succ {d : DfaT} (h : d.next.length = d.label.length) (i : Nat) {s t : Nat} (hs : s < d.label.length) (ht : t < d.label.length) : atL (lvl d (i + 1)) (s : Nat) = atL (lvl d (i + 1)) (t : Nat) ↔ atL (lvl d i) (s : Nat) = atL (lvl d i) (t : Nat) ∧ ∀ c : Nat, c < d.width.toNat → atL (lvl d i) (atL (nextF d (s : Nat)) c) = atL (lvl d i) (atL (nextF d (t : Nat)) c) := by
 rw [atL_nat (by rw [lvl_len h]; omega), atL_nat (by rw [lvl_len h]; omega), atL_nat (by rw [lvl_len h]; omega), atL_nat (by rw [lvl_len h]; omega), nextF_get (by omega), nextF_get (by omega)]
 exact lvl_succ h i (by omega) (by omega)
structure HomP (A B : DfaT) (f : Nat → Nat) : Prop where
 w : A.width = B.width
 dom : ∀ s : Nat, s < A.label.length → f s < B.label.length
 lab : ∀ s : Nat, s < A.label.length → atL A.label (s : Nat) = atL B.label (f s : Nat)
 nxt : ∀ s : Nat, s < A.label.length → ∀ k : Nat, k < A.width.toNat → ∃ t : Nat, t < A.label.length ∧ atL (nextF A (s : Nat)) k = (t : Nat) ∧ atL (nextF B (f s : Nat)) k = (f t : Nat)
theorem hom_lvl {A B : DfaT} {f : Nat → Nat} (hA : A.next.length = A.label.length) (hB : B.next.length = B.label.length) (h : HomP A B f) : ∀ (i : Nat) {s t : Nat}, s < A.label.length → t < A.label.length → (atL (lvl A i) (s : Nat) = atL (lvl A i) (t : Nat) ↔ atL (lvl B i) (f s : Nat) = atL (lvl B i) (f t : Nat))
 | 0, s, t, hs, ht => by rw [lvlA_zero hA hs ht, lvlA_zero hB (h.dom s hs) (h.dom t ht), h.lab s hs, h.lab t ht]
 | i + 1, s, t, hs, ht => by
  rw [lvlA_succ hA i hs ht, lvlA_succ hB i (h.dom s hs) (h.dom t ht), hom_lvl hA hB h i hs ht, h.w]
  refine and_congr Iff.rfl ?_
  constructor
  ·intro g c hc
   obtain ⟨x, hx, e1, e2⟩ := h.nxt s hs c (by rw [h.w]; exact hc)
   obtain ⟨y, hy, e3, e4⟩ := h.nxt t ht c (by rw [h.w]; exact hc)
   have := g c hc
   rw [e1, e3, hom_lvl hA hB h i hx hy] at this
   rw [e2, e4]
   exact this
  ·intro g c hc
   obtain ⟨x, hx, e1, e2⟩ := h.nxt s hs c (by rw [h.w]; exact hc)
   obtain ⟨y, hy, e3, e4⟩ := h.nxt t ht c (by rw [h.w]; exact hc)
   have := g c hc
   rw [e2, e4, ← hom_lvl hA hB h i hx hy] at this
   rw [e1, e3]
   exact this
theorem tabO_id {l : List Int} (h : l.Nodup) : tabO l = l := by
 induction l using snocI with
 | h0 => rfl
 | h1 l k ih =>
  rw [List.nodup_append] at h
  obtain ⟨h1, _, h3⟩ := h
  rw [tabO_snoc, ih h1, if_neg fun hk => h3 k hk k (List.mem_singleton.2 rfl) rfl]
theorem rngI_nodup (n : Nat) : (rngI n).Nodup := by
 rw [List.nodup_iff_pairwise_ne, List.pairwise_iff_getElem]
 intro i j hi hj hij
 rw [rngI_len] at hi hj
 rw [rngI_get hi, rngI_get hj]
 omega
theorem findF_rngI {n : Nat} {x : Int} (h : 0 ≤ x ∧ x < n) : findF (rngI n) x = x := findF_rangeW h
theorem nums_rngI (n : Nat) : nums (rngI n) = rngI n := by
 unfold nums
 rw [tabO_id (rngI_nodup n)]
 refine List.ext_getElem (by rw [List.length_map]) fun i h1 h2 => ?_
 rw [List.getElem_map]
 exact findF_rngI (mem_rngI.1 (List.getElem_mem _))
theorem norm_inj {l : List Int} (hn : nums l = l) (hd : l.Nodup) : l = rngI l.length := by
 have hk : ∀ s, s ≤ l.length → mN l s = s := fun s => by
  intro hs
  unfold mN
  rw [tabO_id (List.Sublist.nodup (List.take_sublist _ _) hd), List.length_take]
  omega
 refine List.ext_getElem (by rw [rngI_len]) fun i h1 h2 => ?_
 rw [rngI_get h1]
 have hni : l[i] ∉ l.take i := fun hm => by
  obtain ⟨j, hj, e⟩ := (mem_take_iff h1).1 hm
  have := (List.getElem_inj hd).1 e
  omega
 rw [norm_new hn h1 hni, hk i (by omega)]
theorem of_id {d : DfaT} (hok : RightP d) : ofD d (rngI d.label.length) = d := by
 obtain ⟨hk1, hk2, hk3, hk4, hk5, hk6, hk7⟩ := id hok
 have hh : headsM (rngI d.label.length) = rngI d.label.length := by
  unfold headsM
  rw [tabO_id (rngI_nodup _)]
  refine List.ext_getElem (by rw [List.length_map]) fun i h1 h2 => ?_
  rw [List.getElem_map]
  exact findF_rngI (mem_rngI.1 (List.getElem_mem _))
 refine DfaT.ext' rfl rfl ?_ ?_ rfl
 ·show (headsM (rngI d.label.length)).map _ = _
  rw [hh]
  refine List.ext_getElem (by rw [List.length_map, rngI_len]; omega) fun i h1 h2 => ?_
  rw [List.getElem_map, rngI_get (by omega)]
  unfold rowB
  rw [Int.toNat_natCast, List.getD_eq_getElem?_getD, List.getElem?_eq_getElem h2, nums_rngI]
  show d.next[i].map _ = _
  refine (List.map_congr_left fun x hx => ?_).trans (List.map_id _)
  obtain ⟨g1, g2⟩ := (hk7 i h2 (by omega)).2.2.2 x hx
  obtain ⟨v, rfl⟩ := Int.eq_ofNat_of_zero_le g1
  rw [atL_nat (by rw [rngI_len]; omega)]
  exact rngI_get (by omega)
 ·show (headsM (rngI d.label.length)).map _ = _
  rw [hh]
  refine List.ext_getElem (by rw [List.length_map, rngI_len]) fun i h1 h2 => ?_
  rw [List.getElem_map, rngI_get h2, Int.toNat_natCast, List.getD_eq_getElem?_getD, List.getElem?_eq_getElem h2]
  rfl
end Go.Proofs.Ytdeableflgakdaa
namespace Go.Proofs.Ytdeableflgakdaa
open Go Go.V Go.Proofs
theorem atL_norm {m : List Int} (hm : nums m = m) {s : Nat} (hs : s < m.length) : ∃ v : Nat, v < (tabO m).length ∧ m[s] = (v : Nat) := by
 have h := norm_in hm (L := m.length) (x := m[s]) (by rw [List.take_length]; exact List.getElem_mem hs)
 rw [mN_all] at h
 obtain ⟨v, hv⟩ := Int.eq_ofNat_of_zero_le h.1
 exact ⟨v, by omega, hv⟩
theorem head_own {m : List Int} (hm : nums m = m) {p : Nat} (hp : p < (tabO m).length) : ∃ (x : Nat) (h : p < (headsM m).length) (hx : x < m.length), (headsM m)[p] = (x : Nat) ∧ m[x] = (p : Nat) := by
 have hph : p < (headsM m).length := by unfold headsM; rwa [List.length_map]
 obtain ⟨x, h, hx, e3, e4, e5⟩ := heads_at hph
 refine ⟨x, hph, hx, e3, ?_⟩
 rw [norm_val hm hx, e5]
 exact findF_some (place_get (tabO_nodup m) h)
theorem of_hom {d : DfaT} {m : List Int} (hm : nums m = m) (hst : StableP d m) : HomP d (ofD d m) (fun s => (atL m (s : Nat)).toNat) := by
 obtain ⟨hok, hml, _⟩ := id hst
 obtain ⟨hk1, hk2, hk3, hk4, hk5, hk6, hk7⟩ := id hok
 refine ⟨rfl, fun s hs => ?_, fun s hs => ?_, fun s hs k hk => ?_⟩
 ·obtain ⟨v, hv, e⟩ := atL_norm hm (show s < m.length by omega)
  rw [atL_nat (by omega), e, of_len, Int.toNat_natCast]
  exact hv
 ·obtain ⟨v, hv, e⟩ := atL_norm hm (show s < m.length by omega)
  have h := of_label hst (s := s) (by omega)
  rw [hm] at h
  have e2 : atL m (s : Nat) = (v : Nat) := by rw [atL_nat (by omega), e]
  rw [e2] at h ⊢
  rw [Int.toNat_natCast, h]
 ·obtain ⟨v, hv, e⟩ := atL_norm hm (show s < m.length by omega)
  have e2 : atL m (s : Nat) = (v : Nat) := by rw [atL_nat (by omega), e]
  obtain ⟨x, hph, hx, e3, e4⟩ := head_own hm hv
  have hsn : s < d.next.length := by omega
  have hxn : x < d.next.length := by omega
  obtain ⟨_, hsl, hsr⟩ := stable_all hst (show s < m.length by omega) hx (by omega) (by omega) hsn hxn (by rw [e, e4])
  obtain ⟨w1, _, _, w4⟩ := hk7 s hsn (by omega)
  have hkl : k < d.next[s].length := by omega
  obtain ⟨t0, t1⟩ := w4 _ (List.getElem_mem hkl)
  obtain ⟨t, ht⟩ := Int.eq_ofNat_of_zero_le t0
  refine ⟨t, by omega, ?_, ?_⟩
  ·rw [nextF_get hsn, atL_nat hkl, ht]
  ·have hr := hsr k hkl
   rw [hm, ht] at hr
   show atL (nextF (ofD d m) ((atL m (s : Nat)).toNat : Nat)) k = ((atL m (t : Nat)).toNat : Nat)
   rw [e2, Int.toNat_natCast, quot_next hm hph e3 hxn]
   have hkx : k < d.next[x].length := by omega
   rw [atL_nat (by rw [List.length_map]; exact hkx), List.getElem_map, ← hr]
   obtain ⟨u, hu, eu⟩ := atL_norm hm (show t < m.length by omega)
   rw [atL_nat (show t < m.length by omega), eu, Int.toNat_natCast]
theorem of_aft {d : DfaT} (hok : RightP d) : aftD (ofD d (aftD d 65536)) 65536 = rngI (ofD d (aftD d 65536)).label.length := by
 have hst := stable_aft hok
 have e0 := aftD_ok hok 65536
 obtain ⟨m, hmd⟩ : ∃ m, m = aftD d 65536 := ⟨_, rfl⟩
 rw [← hmd] at hst e0 ⊢
 have hm : nums m = m := by rw [e0]; exact lvl_norm d 65536
 have hml := hst.2.1
 have hoS := of_right hst
 have hA := hok.2.2.1
 have hB := hoS.2.2.1
 have hh := fun (x y : Nat) (hx : x < d.label.length) (hy : y < d.label.length) => hom_lvl hA hB (of_hom hm hst) 65536 (s := x) (t := y) hx hy
 have hlen : (lvl (ofD d m) 65536).length = (ofD d m).label.length := by rw [lvl_len hB, hB]
 rw [aftD_ok hoS]
 have key := norm_inj (lvl_norm (ofD d m) 65536) (by
  rw [List.nodup_iff_pairwise_ne, List.pairwise_iff_getElem]
  intro p q hp hq hpq e
  have hp' := hp
  have hq' := hq
  rw [hlen, of_len] at hp' hq'
  obtain ⟨x, _, hx, _, ex⟩ := head_own hm hp'
  obtain ⟨y, _, hy, _, ey⟩ := head_own hm hq'
  have h1 := hh x y (by omega) (by omega)
  simp only [atL_nat hx, atL_nat hy, ex, ey, Int.toNat_natCast] at h1
  rw [atL_nat hp, atL_nat hq] at h1
  have h2 := h1.2 e
  rw [← e0, atL_nat hx, atL_nat hy, ex, ey] at h2
  omega)
 rw [hlen] at key
 exact key
theorem trim_rng {d : DfaT} (hok : RightP d) : reachL (trimD d) = rngI (trimD d).label.length := by
 have h := trim_reach hok
 have hl : (trimD d).label.length = (reachL d).length := (keepD_len d (reachL d)).2
 rw [hl]
 exact h
theorem small_own {d : DfaT} (hok : RightP d) : RightP (smallR d).1 ∧ (smallR d).2 = 0 ∧ smallR (smallR d).1 = ((smallR d).1, 0) ∧ aftD (smallR d).1 65536 = rngI (smallR d).1.label.length ∧ (smallR d).1.label.length = (tabO (aftD (trimD d) 65536)).length ∧ (smallR d).1.label.length ≤ (reachL d).length := by
 have htk : RightP (trimD d) := keep_right hok (reachL_keep hok)
 have hst := stable_aft htk
 have haf := of_aft htk
 have hm : nums (aftD (trimD d) 65536) = aftD (trimD d) 65536 := by rw [aftD_ok htk]; exact lvl_norm _ _
 have hqr := quot_reach (trim_rng hok) hm hst
 have hoS := of_right hst
 rw [smallR_ok hok]
 show RightP (ofD (trimD d) (aftD (trimD d) 65536)) ∧ (0 : Int) = 0 ∧ smallR (ofD (trimD d) (aftD (trimD d) 65536)) = (ofD (trimD d) (aftD (trimD d) 65536), 0) ∧ _
 have hl := of_len (trimD d) (aftD (trimD d) 65536)
 refine ⟨hoS, rfl, ?_, haf, hl, ?_⟩
 ·rw [smallR_ok hoS]
  obtain ⟨S, hS⟩ : ∃ S, S = ofD (trimD d) (aftD (trimD d) 65536) := ⟨_, rfl⟩
  rw [← hS] at hoS haf hqr hl ⊢
  have htr : trimD S = S := by
   unfold trimD
   rw [hqr, ← hl]
   exact keep_id hoS
  rw [htr, haf, of_id hoS]
 ·show (ofD (trimD d) (aftD (trimD d) 65536)).label.length ≤ _
  rw [hl]
  have h1 := tabO_len (aftD (trimD d) 65536)
  have h2 := hst.2.1
  have h3 : (trimD d).label.length = (reachL d).length := (keepD_len d (reachL d)).2
  omega
end Go.Proofs.Ytdeableflgakdaa
namespace Go.Proofs.Ytdeableflgakdaa
open Go Go.V Go.Proofs
theorem nodupX {α : Type} : ∀ {a b : List α}, a.Nodup → (∀ x ∈ a, x ∈ b) → a.length ≤ b.length
 | [], _, _, _ => Nat.zero_le _
 | x :: a, b, hn, hs => by
  obtain ⟨l, r, rfl⟩ := List.append_of_mem (hs x (List.mem_cons_self ..))
  obtain ⟨hx, hn'⟩ := List.nodup_cons.1 hn
  have := nodupX (a := a) (b := l ++ r) hn' fun y hy => by
   have := hs y (List.mem_cons_of_mem _ hy)
   rcases List.mem_append.1 this with g | g
   ·exact List.mem_append_left _ g
   ·rcases List.mem_cons.1 g with rfl | g
    ·exact absurd hy hx
    ·exact List.mem_append_right _ g
  simp only [List.length_append, List.length_cons] at this ⊢
  omega
theorem tab_set {a b : List Int} (h1 : ∀ x ∈ a, x ∈ b) (h2 : ∀ x ∈ b, x ∈ a) : (tabO a).length = (tabO b).length :=
 Nat.le_antisymm (nodupX (tabO_nodup a) fun x hx => (mem_tabO b).2 (h1 x ((mem_tabO a).1 hx))) (nodupX (tabO_nodup b) fun x hx => (mem_tabO a).2 (h2 x ((mem_tabO b).1 hx)))
theorem tab_iff : ∀ {l m : List Int} (hlen : l.length = m.length), (∀ i j (hi : i < l.length) (hj : j < l.length), l[i] = l[j] ↔ m[i]'(hlen ▸ hi) = m[j]'(hlen ▸ hj)) → (tabO l).length = (tabO m).length := fun {l m} hlen h => by
 have key : ∀ k, k ≤ l.length → mN l k = mN m k := fun k => by
  induction k with
  | zero => intro _; rw [mN_zero, mN_zero]
  | succ k ih =>
   intro hk
   have h1 : k < l.length := by omega
   have h2 : k < m.length := by omega
   rw [mN_succ h1, mN_succ h2, ih (by omega)]
   have : l[k] ∈ l.take k ↔ m[k] ∈ m.take k := by
    rw [mem_take_iff h1, mem_take_iff h2]
    exact ⟨fun ⟨j, hj, e⟩ => ⟨j, hj, (h j k (by omega) h1).1 e⟩, fun ⟨j, hj, e⟩ => ⟨j, hj, (h j k (by omega) h1).2 e⟩⟩
   by_cases hin : l[k] ∈ l.take k
   ·rw [if_pos hin, if_pos (this.1 hin)]
   ·rw [if_neg hin, if_neg fun e => hin (this.2 e)]
 have := key l.length (Nat.le_refl _)
 rw [mN_all, hlen, mN_all] at this
 exact this
theorem trim_hom {d : DfaT} (hok : RightP d) : HomP (trimD d) d (fun i => (atL (reachL d) (i : Nat)).toNat) := by
 obtain ⟨hk1, hk2, hk3, hk4, hk5, hk6, hk7⟩ := id hok
 have hO := reachL_once hok
 have hK := reachL_keep hok
 have hl : (trimD d).label.length = (reachL d).length := (keepD_len d (reachL d)).2
 have hat : ∀ i : Nat, (hi : i < (reachL d).length) → ∃ v : Nat, v < d.label.length ∧ (reachL d)[i] = (v : Nat) := fun i hi => by
  obtain ⟨g1, g2⟩ := hO.2 _ (List.getElem_mem hi)
  obtain ⟨v, hv⟩ := Int.eq_ofNat_of_zero_le g1
  exact ⟨v, by omega, hv⟩
 refine ⟨rfl, fun s hs => ?_, fun s hs => ?_, fun s hs k hk => ?_⟩
 ·rw [hl] at hs
  obtain ⟨v, hv, e⟩ := hat s hs
  rw [atL_nat hs, e, Int.toNat_natCast]
  exact hv
 ·have hs2 := hs
  rw [hl] at hs
  obtain ⟨v, hv, e⟩ := hat s hs
  have h := keepD_label (d := d) hs
  rw [atL_nat hs2, atL_nat hs, e, Int.toNat_natCast, atL_nat hv]
  rw [e, Int.toNat_natCast, List.getD_eq_getElem?_getD, List.getElem?_eq_getElem hv] at h
  exact h
 ·rw [hl] at hs
  obtain ⟨v, hv, e⟩ := hat s hs
  have hvn : v < d.next.length := by omega
  obtain ⟨w1, _, _, w4⟩ := hk7 v hvn (by omega)
  have hk : k < d.width.toNat := hk
  have hkl : k < d.next[v].length := by omega
  have hin : d.next[v][k] ∈ reachL d := by
   refine hK.2 _ (List.getElem_mem hs) _ ?_
   rw [e, nextF_get hvn]
   exact List.getElem_mem hkl
  obtain ⟨t, ht, f1, f2⟩ := findF_at hin
  refine ⟨t, by omega, ?_, ?_⟩
  ·show atL (nextF (keepD d (reachL d)) (s : Nat)) k = _
   rw [keep_nextF hs, e]
   unfold rowK
   rw [nextF_get hvn, atL_nat (by rw [List.length_map]; exact hkl), List.getElem_map, f1]
  ·show atL (nextF d ((atL (reachL d) (s : Nat)).toNat : Nat)) k = ((atL (reachL d) (t : Nat)).toNat : Nat)
   rw [atL_nat hs, e, Int.toNat_natCast, nextF_get hvn, atL_nat hkl, atL_nat ht, f2]
   have := (w4 _ (List.getElem_mem hkl)).1
   omega
theorem trim_count {d : DfaT} (hok : RightP d) : (tabO (aftD (trimD d) 65536)).length = (tabO ((reachL d).map (atL (lvl d 65536)))).length := by
 have htk : RightP (trimD d) := keep_right hok (reachL_keep hok)
 have hl : (trimD d).label.length = (reachL d).length := (keepD_len d (reachL d)).2
 rw [aftD_ok htk]
 have hll : (lvl (trimD d) 65536).length = (reachL d).length := by rw [lvl_len htk.2.2.1, htk.2.2.1, hl]
 refine tab_iff (by rw [hll, List.length_map]) fun i j hi hj => ?_
 rw [hll] at hi hj
 have h := hom_lvl htk.2.2.1 hok.2.2.1 (trim_hom hok) 65536 (s := i) (t := j) (by omega) (by omega)
 have hO := reachL_once hok
 have hat : ∀ i : Nat, (hi : i < (reachL d).length) → (((atL (reachL d) (i : Nat)).toNat : Nat) : Int) = (reachL d)[i] := fun i hi => by
  have := (hO.2 _ (List.getElem_mem hi)).1
  rw [atL_nat hi]; omega
 rw [atL_nat (by omega), atL_nat (by omega), hat i hi, hat j hj] at h
 rw [List.getElem_map, List.getElem_map]
 exact h
theorem hom_count {A B : DfaT} (hA : RightP A) (hB : RightP B) {f : Nat → Nat} (h : HomP A B f) (h0 : f 0 = 0) : (tabO (aftD (trimD A) 65536)).length = (tabO (aftD (trimD B) 65536)).length := by
 rw [trim_count hA, trim_count hB]
 have hOA := reachL_once hA
 have hOB := reachL_once hB
 have hrow : ∀ {D : DfaT}, RightP D → ∀ s : Nat, s < D.label.length → ∀ t : Int, t ∈ nextF D (s : Nat) ↔ ∃ k : Nat, k < D.width.toNat ∧ t = atL (nextF D (s : Nat)) k := fun {D} hD s hs t => by
  obtain ⟨_, _, hk3, _, _, _, hk7⟩ := hD
  obtain ⟨w1, _, _, _⟩ := hk7 s (by omega) hs
  rw [nextF_get (by omega)]
  constructor
  ·intro ht
   obtain ⟨k, hk, rfl⟩ := List.getElem_of_mem ht
   exact ⟨k, by omega, (atL_nat hk).symm⟩
  ·rintro ⟨k, hk, rfl⟩
   have hkl : k < D.next[s].length := by omega
   rw [atL_nat hkl]
   exact List.getElem_mem hkl
 have c1 : ∀ x ∈ reachL A, ∃ s : Nat, s < A.label.length ∧ x = (s : Nat) ∧ ((f s : Nat) : Int) ∈ reachL B := fun x hx => by
  refine walk_least (on := nextF A) (X := fun x => ∃ s : Nat, s < A.label.length ∧ x = (s : Nat) ∧ ((f s : Nat) : Int) ∈ reachL B) (fun x hx => ?_) (fun x hX t ht => ?_) _ x hx
  ·rw [List.mem_singleton] at hx
   exact ⟨0, hA.1, hx, by rw [h0]; exact reachL_zero B⟩
  ·obtain ⟨s, hs, rfl, hf⟩ := hX
   obtain ⟨k, hk, rfl⟩ := (hrow hA s hs t).1 ht
   obtain ⟨y, hy, e1, e2⟩ := h.nxt s hs k hk
   refine ⟨y, hy, e1, ?_⟩
   rw [← e2]
   refine (reachL_keep hB).2 _ hf _ ?_
   exact (hrow hB (f s) (h.dom s hs) _).2 ⟨k, by rw [← h.w]; exact hk, rfl⟩
 have c2 : ∀ y ∈ reachL B, ∃ s : Nat, s < A.label.length ∧ (s : Int) ∈ reachL A ∧ y = (f s : Nat) := fun y hy => by
  refine walk_least (on := nextF B) (X := fun y => ∃ s : Nat, s < A.label.length ∧ (s : Int) ∈ reachL A ∧ y = (f s : Nat)) (fun y hy => ?_) (fun y hY t ht => ?_) _ y hy
  ·rw [List.mem_singleton] at hy
   exact ⟨0, hA.1, reachL_zero A, by rw [h0, hy]; rfl⟩
  ·obtain ⟨s, hs, hr, rfl⟩ := hY
   obtain ⟨k, hk, rfl⟩ := (hrow hB (f s) (h.dom s hs) t).1 ht
   have hk' : k < A.width.toNat := by rw [h.w]; exact hk
   obtain ⟨y, hy, e1, e2⟩ := h.nxt s hs k hk'
   refine ⟨y, hy, ?_, e2⟩
   rw [← e1]
   refine (reachL_keep hA).2 _ hr _ ?_
   exact (hrow hA s hs _).2 ⟨k, hk', rfl⟩
 have e : (tabO ((reachL A).map (atL (lvl A 65536)))).length = (tabO ((reachL A).map fun x => atL (lvl B 65536) (f x.toNat : Nat))).length := by
  refine tab_iff (by rw [List.length_map, List.length_map]) fun i j hi hj => ?_
  rw [List.length_map] at hi hj
  obtain ⟨s, hs, es, _⟩ := c1 _ (List.getElem_mem hi)
  obtain ⟨t, ht, et, _⟩ := c1 _ (List.getElem_mem hj)
  rw [List.getElem_map, List.getElem_map, List.getElem_map, List.getElem_map, es, et, Int.toNat_natCast, Int.toNat_natCast]
  exact hom_lvl hA.2.2.1 hB.2.2.1 h 65536 hs ht
 rw [e]
 refine tab_set (fun z hz => ?_) (fun z hz => ?_)
 ·obtain ⟨x, hx, rfl⟩ := List.mem_map.1 hz
  obtain ⟨s, hs, rfl, hf⟩ := c1 x hx
  exact List.mem_map.2 ⟨_, hf, by rw [Int.toNat_natCast]⟩
 ·obtain ⟨y, hy, rfl⟩ := List.mem_map.1 hz
  obtain ⟨s, hs, hr, rfl⟩ := c2 y hy
  exact List.mem_map.2 ⟨_, hr, by rw [Int.toNat_natCast]⟩
end Go.Proofs.Ytdeableflgakdaa
namespace Go.Proofs.Ytdeableflgakdaa
open Go Go.V Go.Proofs
theorem hom_run {A B : DfaT} (hA : RightP A) (hof : A.of.length = 256) (ho : A.of = B.of) {f : Nat → Nat} (h : HomP A B f) (h0 : f 0 = 0) (w : List UInt8) : ∃ x : Nat, x < A.label.length ∧ runD A w = (x : Nat) ∧ runD B w = (f x : Nat) := by
 induction w using snocI with
 | h0 => exact ⟨0, hA.1, rfl, by rw [h0]; rfl⟩
 | h1 w b ih =>
  obtain ⟨x, hx, e1, e2⟩ := ih
  have hb := b.toNat_lt
  have hco : b.toNat < A.of.length := by omega
  have hox := of_bound hA (List.getElem_mem hco)
  obtain ⟨k, hk⟩ := Int.eq_ofNat_of_zero_le hox.1
  obtain ⟨t, ht, g1, g2⟩ := h.nxt x hx k (by omega)
  have ek : A.of.getD b.toNat 0 = (k : Nat) := by rw [List.getD_eq_getElem?_getD, List.getElem?_eq_getElem hco]; exact hk
  refine ⟨t, ht, ?_, ?_⟩
  ·unfold runD at e1 ⊢
   rw [List.foldl_append, e1, List.foldl_cons, List.foldl_nil]
   unfold toD
   rw [ek]
   exact g1
  ·unfold runD at e2 ⊢
   rw [List.foldl_append, e2, List.foldl_cons, List.foldl_nil]
   unfold toD
   rw [← ho, ek]
   exact g2
theorem hom_tell {A B : DfaT} (hA : RightP A) (hof : A.of.length = 256) (ho : A.of = B.of) {f : Nat → Nat} (h : HomP A B f) (h0 : f 0 = 0) (w : List UInt8) : tellD A w = tellD B w := by
 obtain ⟨x, hx, e1, e2⟩ := hom_run hA hof ho h h0 w
 unfold tellD
 rw [e1, e2]
 exact h.lab x hx
def frmX (n : Nat) (ts : List UInt8) (q : Nat) : Nat := if q < n then q else (ts.getD (q - n) 0).toNat % n
def toX (n : Nat) (ts : List UInt8) (q k : Nat) (to : Int) : Int := if 0 < ts.length ∧ q % ts.length = k ∧ (((ts.getD (q % ts.length) 0).toNat % n : Nat) : Int) = to then ((n + q % ts.length : Nat) : Int) else to
def rowX (d : DfaT) (ts : List UInt8) (q : Nat) : List Int := (List.range d.width.toNat).map fun k => toX d.label.length ts q k (atL (nextF d (frmX d.label.length ts q : Nat)) (k : Nat))
def dblD (d : DfaT) (ts : List UInt8) : DfaT := ⟨d.of, d.width, (List.range (d.label.length + ts.length)).map (rowX d ts), (List.range (d.label.length + ts.length)).map (fun q => atL d.label (frmX d.label.length ts q : Nat)), d.names⟩
theorem frmX_lt {n : Nat} (h : 1 ≤ n) (ts : List UInt8) (q : Nat) : frmX n ts q < n := by
 unfold frmX
 split
 ·assumption
 ·exact Nat.mod_lt _ (by omega)
theorem dbl_len (d : DfaT) (ts : List UInt8) : (dblD d ts).label.length = d.label.length + ts.length ∧ (dblD d ts).next.length = d.label.length + ts.length := by
 unfold dblD
 exact ⟨by rw [List.length_map, List.length_range], by rw [List.length_map, List.length_range]⟩
theorem dbl_row {d : DfaT} {ts : List UInt8} {q : Nat} (hq : q < d.label.length + ts.length) : (dblD d ts).next[q]'(by rw [(dbl_len d ts).2]; exact hq) = rowX d ts q := by
 have hx : (dblD d ts).next = (List.range (d.label.length + ts.length)).map (rowX d ts) := rfl
 simp only [hx, List.getElem_map, List.getElem_range]
theorem dbl_lab {d : DfaT} {ts : List UInt8} {q : Nat} (hq : q < d.label.length + ts.length) : (dblD d ts).label[q]'(by rw [(dbl_len d ts).1]; exact hq) = atL d.label (frmX d.label.length ts q : Nat) := by
 have hx : (dblD d ts).label = (List.range (d.label.length + ts.length)).map (fun q => atL d.label (frmX d.label.length ts q : Nat)) := rfl
 simp only [hx, List.getElem_map, List.getElem_range]
theorem rowX_len (d : DfaT) (ts : List UInt8) (q : Nat) : (rowX d ts q).length = d.width.toNat := by unfold rowX; rw [List.length_map, List.length_range]
theorem rowX_get {d : DfaT} (hok : RightP d) {ts : List UInt8} {q k : Nat} (hk : k < d.width.toNat) : ∃ t u : Nat, u < d.label.length + ts.length ∧ t < d.label.length ∧ atL (nextF d (frmX d.label.length ts q : Nat)) (k : Nat) = (t : Nat) ∧ (rowX d ts q)[k]'(by rw [rowX_len]; exact hk) = (u : Nat) ∧ frmX d.label.length ts u = t := by
 obtain ⟨hk1, hk2, hk3, hk4, hk5, hk6, hk7⟩ := id hok
 have hf := frmX_lt hk1 ts q
 obtain ⟨w1, _, _, w4⟩ := hk7 (frmX d.label.length ts q) (by omega) hf
 have hkl : k < (d.next[frmX d.label.length ts q]'(by omega)).length := by omega
 obtain ⟨t0, t1⟩ := w4 _ (List.getElem_mem hkl)
 obtain ⟨t, ht⟩ := Int.eq_ofNat_of_zero_le t0
 have et : atL (nextF d (frmX d.label.length ts q : Nat)) (k : Nat) = (t : Nat) := by rw [nextF_get (by omega), atL_nat hkl, ht]
 have er : (rowX d ts q)[k]'(by rw [rowX_len]; exact hk) = toX d.label.length ts q k (t : Nat) := by
  unfold rowX
  rw [List.getElem_map, List.getElem_range, et]
 rw [er]
 unfold toX
 by_cases hc : 0 < ts.length ∧ q % ts.length = k ∧ (((ts.getD (q % ts.length) 0).toNat % d.label.length : Nat) : Int) = (t : Nat)
 ·rw [if_pos hc]
  have hm := Nat.mod_lt q hc.1
  refine ⟨t, d.label.length + q % ts.length, by omega, by omega, et, rfl, ?_⟩
  unfold frmX
  rw [if_neg (by omega), Nat.add_sub_cancel_left]
  exact Int.ofNat.inj hc.2.2
 ·rw [if_neg hc]
  refine ⟨t, t, by omega, by omega, et, rfl, ?_⟩
  unfold frmX
  rw [if_pos (by omega)]
theorem dbl_right {d : DfaT} (hok : RightP d) {ts : List UInt8} (h : d.label.length + ts.length ≤ 65536) : RightP (dblD d ts) := by
 obtain ⟨hk1, hk2, hk3, hk4, hk5, hk6, hk7⟩ := id hok
 obtain ⟨l1, l2⟩ := dbl_len d ts
 refine ⟨by omega, by omega, by omega, hk4, hk5, hk6, fun s h1 h2 => ?_⟩
 have hs : s < d.label.length + ts.length := by omega
 rw [dbl_row hs, dbl_lab hs]
 have hf := frmX_lt hk1 ts s
 obtain ⟨w1, w2, w3, _⟩ := hk7 (frmX d.label.length ts s) (by omega) hf
 have hw0 : ((d.width.toNat : Nat) : Int) = d.width := by omega
 refine ⟨by rw [rowX_len]; exact hw0, by rw [atL_nat hf]; exact w2, by rw [atL_nat hf]; exact w3, fun t ht => ?_⟩
 obtain ⟨k, hk, rfl⟩ := List.getElem_of_mem ht
 rw [rowX_len] at hk
 obtain ⟨_, u, g1, _, _, g2, _⟩ := rowX_get hok (ts := ts) (q := s) hk
 rw [g2, l1]
 omega
theorem dbl_hom {d : DfaT} (hok : RightP d) {ts : List UInt8} : HomP (dblD d ts) d (frmX d.label.length ts) := by
 obtain ⟨l1, l2⟩ := dbl_len d ts
 refine ⟨rfl, fun s _ => frmX_lt hok.1 ts s, fun s hs => ?_, fun s hs k hk => ?_⟩
 ·rw [atL_nat hs]
  rw [l1] at hs
  exact dbl_lab hs
 ·rw [l1] at hs
  obtain ⟨t, u, g1, g2, g3, g4, g5⟩ := rowX_get hok (ts := ts) (q := s) hk
  refine ⟨u, by omega, ?_, by rw [g3, g5]⟩
  rw [nextF_get (by omega), dbl_row hs, atL_nat (by rw [rowX_len]; exact hk)]
  exact g4
theorem frmX_zero {n : Nat} (h : 1 ≤ n) (ts : List UInt8) : frmX n ts 0 = 0 := by unfold frmX; rw [if_pos (by omega)]
theorem small_tell {d : DfaT} (hok : RightP d) (hof : d.of.length = 256) (w : List UInt8) : tellD (smallR d).1 w = tellD d w := by
 have htk : RightP (trimD d) := keep_right hok (reachL_keep hok)
 rw [smallR_ok hok]
 show tellD (ofD (trimD d) (aftD (trimD d) 65536)) w = _
 rw [of_tell (stable_aft htk) hof, ← keep_tell hok hof (reachL_keep hok)]
 rfl
theorem dbl_small {d : DfaT} (hok : RightP d) (hof : d.of.length = 256) {ts : List UInt8} (h : d.label.length + ts.length ≤ 65536) : (smallR (dblD d ts)).1.label.length = (smallR d).1.label.length ∧ ∀ w, tellD (smallR (dblD d ts)).1 w = tellD d w := by
 have hx := dbl_right hok h
 have hh := dbl_hom hok (ts := ts)
 refine ⟨?_, fun w => ?_⟩
 ·rw [(small_own hx).2.2.2.2.1, (small_own hok).2.2.2.2.1]
  exact hom_count hx hok hh (frmX_zero hok.1 ts)
 ·rw [small_tell hx hof w]
  exact hom_tell (B := d) hx hof rfl hh (frmX_zero hok.1 ts) w
end Go.Proofs.Ytdeableflgakdaa
namespace Go.Proofs.Ytdeableflgakdaa
open Go Go.V Go.Proofs
def d1 : DfaT := ⟨List.replicate 256 0, 1, [[1], [2], [3], [3], [1]], [0, 0, 0, 1, 0], [[120]]⟩
theorem name120 : nameB [120] = true := nameB_iff.2 ⟨by decide, by decide, fun i h => by
 match i, (show i < 1 from h) with
 | 0, _ => exact (by decide : mayN 120 true = true)⟩
theorem d1_right : RightP d1 := by
 refine ⟨by decide, by decide, rfl, by decide +kernel, by decide +kernel, ?_, fun s h1 h2 => ?_⟩
 ·refine ⟨by decide, fun i h => ?_⟩
  have h1 : i < 1 := h
  match i, h1 with
  | 0, _ => exact ⟨name120, (by decide : ¬ ([120] : List UInt8) ∈ ([] : List (List UInt8)))⟩
 have e : ∀ s : Fin 5, ((d1.next[s.val]'s.isLt).length : Int) = d1.width ∧ 0 ≤ d1.label[s.val]'s.isLt ∧ d1.label[s.val]'s.isLt ≤ d1.names.length ∧ ∀ t ∈ d1.next[s.val]'s.isLt, 0 ≤ t ∧ t < d1.label.length := by decide +kernel
 exact e ⟨s, h1⟩
theorem d1_small : SmallD d1 := ⟨by decide, by decide, by decide, by decide, by decide⟩
theorem d1_lvl : lvl d1 0 = [0, 0, 0, 1, 0] ∧ lvl d1 1 = [0, 0, 1, 2, 0] ∧ lvl d1 2 = [0, 1, 2, 3, 0] ∧ lvl d1 3 = [0, 1, 2, 3, 0] := by decide +kernel
theorem d1_last : LastR d1 2 := ⟨by decide, by rw [d1_lvl.2.2.1, d1_lvl.2.2.2], fun i hi => by
 match i, hi with
 | 0, _ => rw [d1_lvl.1, d1_lvl.2.1]; decide
 | 1, _ => rw [d1_lvl.2.1, d1_lvl.2.2.1]; decide⟩
theorem d1_big : lvl d1 65536 = [0, 1, 2, 3, 0] := by rw [← last_min d1_last, show min 65536 2 = 2 from rfl]; exact d1_lvl.2.2.1
theorem d1_reach : reachL d1 = [0, 1, 2, 3] := by decide +kernel
def t1 : DfaT := ⟨List.replicate 256 0, 1, [[1], [2], [3], [3]], [0, 0, 0, 1], [[120]]⟩
theorem d1_trim : trimD d1 = t1 := by
 unfold trimD
 rw [d1_reach]
 unfold keepD t1
 congr 1
theorem t1_lvl : lvl t1 0 = [0, 0, 0, 1] ∧ lvl t1 1 = [0, 0, 1, 2] ∧ lvl t1 2 = [0, 1, 2, 3] ∧ lvl t1 3 = [0, 1, 2, 3] := by decide +kernel
theorem t1_last : LastR t1 2 := ⟨by decide, by rw [t1_lvl.2.2.1, t1_lvl.2.2.2], fun i hi => by
 match i, hi with
 | 0, _ => rw [t1_lvl.1, t1_lvl.2.1]; decide
 | 1, _ => rw [t1_lvl.2.1, t1_lvl.2.2.1]; decide⟩
theorem t1_big : lvl t1 65536 = [0, 1, 2, 3] := by rw [← last_min t1_last, show min 65536 2 = 2 from rfl]; exact t1_lvl.2.2.1
theorem d1_small4 : smallR d1 = (ofD t1 [0, 1, 2, 3], 0) := by
 have hr : RightP t1 := d1_trim ▸ trim_right d1_right
 rw [smallR_ok d1_right, d1_trim, aftD_ok hr, t1_big]
theorem d1_aft : aftD d1 65536 = [0, 1, 2, 3, 0] := (aftD_ok d1_right _).trans d1_big
theorem d1_splits : splitsR d1 = 2 := by
 rw [splitsR_ok d1_right, d1_aft]; decide +kernel
theorem s1_len : (ofD t1 [0, 1, 2, 3]).label.length = 4 := by decide +kernel
theorem callee11 : V.Callee Try.prog 13 := ⟨_, _, Try.func13, rfl, by kernel_rfl⟩
theorem callee9 : V.Callee Try.prog 6 := ⟨_, _, Try.func6, rfl, by kernel_rfl⟩
theorem d1_w : splice zeroC 256 [Value.int .i64 1] = cellsD d1 (.slice none 0 0) (.slice none 0 0) (.slice none 0 0) := by
 have h0 : zeroC = u8L d1.of ++ [Value.int .i64 0, Value.slice none 0 0, Value.slice none 0 0, Value.slice none 0 0] := by
  unfold d1 u8L
  rw [List.map_replicate]
 rw [h0]
 exact build_w (d := d1) List.length_replicate
theorem cellsD_putS {d : DfaT} (h : d.of.length = 256) (vn vl vs x : Value) : splice (cellsD d vn vl vs) 259 [x] = cellsD d vn vl x := by
 unfold splice cellsD
 have hl : (u8L d.of).length = 256 := by rw [List.length_map, h]
 rw [show 259 = (u8L d.of).length + 3 by omega, List.take_length_add_append, List.length_singleton, show (u8L d.of).length + 3 + 1 = (u8L d.of).length + 4 by omega, List.drop_length_add_append, List.append_assoc, List.append_assoc]
 rfl
theorem knows_t {G : PHeap} {H : Heap} {R : Value → PHeap → Heap → Prop} (hR : ∀ G', PLe G G' → R (.bool true) G' H) : FnT Try.prog 10 [] G H R := by
 have hd : d1.of.length = 256 := List.length_replicate
 have hr1 : ∀ x : Value, List.replicate 1 x = [x] := fun _ => rfl
 have hr3 : ∀ x : Value, List.replicate 5 x = [x, x, x, x, x] := fun _ => rfl
 have hl2 : ∀ a b c : Value, (cellsD d1 a b c).length = 260 := fun a b c => cellsD_len hd _ _ _
 have ht2 : ∀ a b c : Value, List.take 260 (cellsD d1 a b c) = cellsD d1 a b c := fun a b c => cellsD_all hd _ _ _
 have hputN : ∀ a b c x : Value, splice (cellsD d1 a b c) 257 [x] = cellsD d1 x b c := fun a b c x => cellsD_putN hd _ _ _ _
 have hputL : ∀ a b c x : Value, splice (cellsD d1 a b c) 258 [x] = cellsD d1 a x c := fun a b c x => cellsD_putL hd _ _ _ _
 have hputS : ∀ a b c x : Value, splice (cellsD d1 a b c) 259 [x] = cellsD d1 a b x := fun a b c x => cellsD_putS hd _ _ _ _
 have hputz : ∀ a b c : Value, splice zeroC 0 (cellsD d1 a b c) = cellsD d1 a b c := fun a b c => by
  unfold splice
  rw [List.take_zero, List.nil_append, List.drop_of_length_le (by rw [zeroC_len, hl2]; omega), List.append_nil]
 have hone : ∀ (a : Option Addr) (n c : Nat) (a' : Option Addr) (n' c' : Nat) (a2 : Option Addr) (n2 c2 : Nat), (cellsD d1 (.slice a n c) (.slice a' n' c') (.slice a2 n2 c2)).all oneV = true := fun _ _ _ _ _ _ _ _ _ => cellsD_one rfl rfl rfl
 refine FnT.body tok [0, 1, 2, 3] Try.func10 rfl (by kernel_rfl) (by kernel_rfl) (by show _ ≤ 37; simp) fun hsep => ?_
 rw [Try.results10]
 have hsE := hsep
 try simp only [zzs] at hsE
 repeat (obtain ⟨hsx, hsE⟩ := hsE)
 repeat' first
  | (with_reducible first | refine Nx.go ?_ | refine Bk.go (fun _ => ?_) fun _ => ?_)
  | ((with_reducible first | refine NewB.mk2 fun nb hnb hnb1 hnb2 => ?_ | refine NewRow.mk2 fun nb nsp ncap hnb hncap hnb1 hnb2 => ?_); try simp only [zzn] at hnb2)
  | simp -dsimp -implicitDefEqProofs (disch := first | assumption | (simp only [zzm]; done) | omega | (try with_reducible refine Row.adr (by assumption) ?_); simp only [zzl, Nat.reduceAdd]; first | done | omega) only [go_sem, ↓reduceIte, seval, -List.reduceReplicate, List.toList_toArray, hr1, hr3, zeroC_len, d1_w, hl2, ht2, hputN, hputL, hputS, hputz, hone]
 rename_i c1 y11 y12 y13 c2 y21 y22 y23 c3 y31 y32 y33 c4 y41 y42 y43 c5 y51 y52 y53 c6 y61 y62 y63 c7 y71 y72 y73 c8 y81 y82 y83
 refine FnT.pre callee9 ?_
 refine Upd.go (H' := (c8, .cells [Value.string { data := #[120] }] [] 9) :: (c7, .cells [.int .i64 0, .int .i64 0, .int .i64 0, .int .i64 1, .int .i64 0] [] 3) :: (c6, .cells [.slice (some ⟨c1, 0, none⟩) 1 1, .slice (some ⟨c2, 0, none⟩) 1 1, .slice (some ⟨c3, 0, none⟩) 1 1, .slice (some ⟨c4, 0, none⟩) 1 1, .slice (some ⟨c5, 0, none⟩) 1 1] [] 24) :: (c5, .cells [.int .i64 1] [] 3) :: (c4, .cells [.int .i64 3] [] 3) :: (c3, .cells [.int .i64 3] [] 3) :: (c2, .cells [.int .i64 2] [] 3) :: (c1, .cells [.int .i64 1] [] 3) :: (nb, .cells (cellsD d1 (.slice (some ⟨c6, 0, none⟩) 5 5) (.slice (some ⟨c7, 0, none⟩) 5 5) (.slice (some ⟨c8, 0, none⟩) 1 1)) [] 27) :: H) (by intro fsum; first | exact Nat.le_refl _ | (simp only [zzq]; omega)) ?_
 refine Upd.trans (Upd.shareRow (by assumption) fun G1 hle1 hs1 r8 => ?_)
 refine Upd.trans (Upd.shareRow hs1.1.1 fun G2 hle2 hs2 r7 => ?_)
 refine Upd.trans (Upd.shareRow hs2.1.1 fun G3 hle3 hs3 r6 => ?_)
 refine Upd.trans (Upd.shareRow hs3.1.1 fun G4 hle4 hs4 r5 => ?_)
 refine Upd.trans (Upd.shareRow hs4.1.1 fun G5 hle5 hs5 r4 => ?_)
 refine Upd.trans (Upd.shareRow hs5.1.1 fun G6 hle6 hs6 r3 => ?_)
 refine Upd.trans (Upd.shareRow hs6.1.1 fun G7 hle7 hs7 r2 => ?_)
 refine Upd.shareRow hs7.1.1 fun G8 hle8 hs8 r1 => ?_
 have k7 := hle8
 have k6 := hle7.trans k7
 have k5 := hle6.trans k6
 have k4 := hle5.trans k5
 have k3 := hle4.trans k4
 have k2 := hle3.trans k3
 have k1 := hle2.trans k2
 have hI : IsD G8 d1 (.agg (cellsD d1 (.slice (some ⟨c6, 0, none⟩) 5 5) (.slice (some ⟨c7, 0, none⟩) 5 5) (.slice (some ⟨c8, 0, none⟩) 1 1)).toArray) := by
  refine ⟨hd, fun x hx => ?_, _, _, _, rfl, ⟨some ⟨c6, 0, none⟩, 5, _, rfl, r6.mono k3, rfl, by decide, fun i h h2 => ?_⟩, ⟨some ⟨c7, 0, none⟩, 5, rfl, r7.mono k2, by decide⟩, ⟨some ⟨c8, 0, none⟩, 1, rfl, r8.mono k1, by decide⟩⟩
  ·have : x = 0 := List.eq_of_mem_replicate hx
   omega
  ·have h3 : i < 5 := h
   match i, h3 with
   | 0, _ => exact ⟨_, _, rfl, r1, Nat.le_refl 1⟩
   | 1, _ => exact ⟨_, _, rfl, r2.mono k7, Nat.le_refl 1⟩
   | 2, _ => exact ⟨_, _, rfl, r3.mono k6, Nat.le_refl 1⟩
   | 3, _ => exact ⟨_, _, rfl, r4.mono k5, Nat.le_refl 1⟩
   | 4, _ => exact ⟨_, _, rfl, r5.mono k4, Nat.le_refl 1⟩
 have hsE := hs8
 try simp only [zzs] at hsE
 repeat (obtain ⟨hsx, hsE⟩ := hsE)
 have hE : PLe G G8 := hle1.trans k1
 clear k1 k2 k3 k4 k5 k6 k7 r1 r2 r3 r4 r5 r6 r7 r8
 refine small_t d1_small hI fun G9 v9 hle9 hs9 hI9 => ?_
 rw [d1_small4] at hI9 ⊢
 have hI9 : IsD G9 (ofD t1 [0, 1, 2, 3]) v9 := hI9
 obtain ⟨C9, an9, al9, ay9, cn9, cl9, cs9, rs9, rfl, O9⟩ := hI9.opened
 have hC9l := O9.len
 have hone9 := isD_one O9.is
 have hput9 := isD_put hC9l
 have hC9x := O9.l
 rw [s1_len] at hC9x
 have hsE := hs9
 try simp only [zzs] at hsE
 repeat (obtain ⟨hsx, hsE⟩ := hsE)
 repeat' first
  | (with_reducible first | refine Nx.go ?_ | refine Bk.go (fun _ => ?_) fun _ => ?_)
  | ((with_reducible first | refine NewB.mk2 fun nb hnb hnb1 hnb2 => ?_ | refine NewRow.mk2 fun nb nsp ncap hnb hncap hnb1 hnb2 => ?_); try simp only [zzn] at hnb2)
  | simp -dsimp -implicitDefEqProofs (disch := first | assumption | (simp only [zzm]; done) | omega | (try with_reducible refine Row.adr (by assumption) ?_); simp only [zzl, Nat.reduceAdd]; first | done | omega) only [go_sem, ↓reduceIte, seval, -List.reduceReplicate, List.toList_toArray, hr1, hr3, zeroC_len, hl2, ht2, hone, hC9l, hone9, hput9]
 obtain ⟨b2, e20⟩ : ∃ x, x = nb := ⟨_, rfl⟩
 subst e20
 refine hblocks_t d1_small (hI.mono hle9) fun G13 v13 hle13 hs13 hsl13 => ?_
 rw [d1_aft] at hsl13
 have hsE := hs13
 try simp only [zzs] at hsE
 repeat (obtain ⟨hsx, hsE⟩ := hsE)
 repeat' first
  | (with_reducible first | refine Nx.go ?_ | refine Bk.go (fun _ => ?_) fun _ => ?_)
  | ((with_reducible first | refine NewB.mk2 fun nb hnb hnb1 hnb2 => ?_ | refine NewRow.mk2 fun nb nsp ncap hnb hncap hnb1 hnb2 => ?_); try simp only [zzn] at hnb2)
  | simp -dsimp -implicitDefEqProofs (disch := first | assumption | (simp only [zzm]; done) | omega | (try with_reducible refine Row.adr (by assumption) ?_); simp only [zzl, Nat.reduceAdd]; first | done | omega) only [go_sem, ↓reduceIte, seval, -List.reduceReplicate, List.toList_toArray, hr1, hr3, zeroC_len, hl2, ht2, hone]
 refine FnT.pre callee11 (Upd.shareRow (by assumption) fun G14 hle14 hs14 r14 => ?_)
 refine same17_t [0, 1, 2, 3, 0] [0, 1, 2, 3, 0] (by decide) (hsl13.mono hle14) ⟨some ⟨_, 0, none⟩, 5, rfl, r14, by decide⟩ ?_
 rw [decide_eq_true rfl]
 have hsE := hs14
 try simp only [zzs] at hsE
 repeat (obtain ⟨hsx, hsE⟩ := hsE)
 repeat' first
  | (with_reducible first | refine Nx.go ?_ | refine Bk.go (fun _ => ?_) fun _ => ?_)
  | ((with_reducible first | refine NewB.mk2 fun nb hnb hnb1 hnb2 => ?_ | refine NewRow.mk2 fun nb nsp ncap hnb hncap hnb1 hnb2 => ?_); try simp only [zzn] at hnb2)
  | simp -dsimp -implicitDefEqProofs (disch := first | assumption | (simp only [zzm]; done) | omega | (try with_reducible refine Row.adr (by assumption) ?_); simp only [zzl, Nat.reduceAdd]; first | done | omega) only [go_sem, ↓reduceIte, seval, -List.reduceReplicate, List.toList_toArray, hr1, hr3, zeroC_len, hl2, ht2, hone]
 refine splits_t d1_small (hI.mono ((hle9.trans hle13).trans hle14)) fun G15 hle15 hs15 => ?_
 rw [d1_splits]
 have hsE := hs15
 try simp only [zzs] at hsE
 repeat (obtain ⟨hsx, hsE⟩ := hsE)
 repeat' first
  | (with_reducible first | refine Nx.go ?_ | refine Bk.go (fun _ => ?_) fun _ => ?_)
  | ((with_reducible first | refine NewB.mk2 fun nb hnb hnb1 hnb2 => ?_ | refine NewRow.mk2 fun nb nsp ncap hnb hncap hnb1 hnb2 => ?_); try simp only [zzn] at hnb2)
  | simp -dsimp -implicitDefEqProofs (disch := first | assumption | (simp only [zzm]; done) | omega | (try with_reducible refine Row.adr (by assumption) ?_); simp only [zzl, Nat.reduceAdd]; first | done | omega) only [go_sem, ↓reduceIte, seval, -List.reduceReplicate, List.toList_toArray, hr1, hr3, zeroC_len, hl2, ht2, hone, hC9l, hC9x]
 unfold UpdR
 refine Upd.leave (H' := H) (by intro fsum; first | exact Nat.le_refl _ | (simp only [zzq]; omega)) ?_
 exact hR G15 (hE.trans (((hle9.trans hle13).trans hle14).trans hle15))
end Go.Proofs.Ytdeableflgakdaa
namespace Go.Proofs.Ytdeableflgakdaa
open Go Go.V Go.Proofs
set_option maxRecDepth 4000 in
theorem zrow_t {d : DfaT} (hsm : SmallD d) (hok : RightP d) {ts : List UInt8} (hts : ts.length ≤ 60) {G : PHeap} {H : Heap} {C : List Value} {an al ay : Option Addr} {cn cl cs : Nat} {rs : List Value} (O : OpenD G d C an al ay cn cl cs rs) {atw : Option Addr} {ct : Nat} (hrt : Row G atw (ts.map byteV)) {b3 br : Nat} {v1 v7 v14 : Value} {q f : Nat} (hfd : f = frmX d.label.length ts q) (hq : q < d.label.length + ts.length) (hW : d.width ≤ 256) :
  Tri Try.prog Try.f5.ntmps (piece [1, 1, 1, 1, 1, 1, 1, 1, 1, 0, 1, 0, 0, 1, 0, 0, 1, 1, 1, 0] Try.f5) G [(1, v1), (2, .slice atw ts.length ct), (3, .pointer (some ⟨b3, 0, none⟩)), (7, v7), (13, .int .i64 (d.label.length : Nat)), (14, v14), (15, .int .i64 (q : Nat)), (16, .int .i64 (f : Nat)), (17, .slice (some ⟨br, 0, none⟩) 0 0)] ((b3, .cells C [] 27) :: (br, .cells [] [] 3) :: H) (onlyN fun G' fr' H' =>
   ∃ br' cr' spr', G' = G ∧ d.width.toNat + spr'.length = cr' ∧ restrict [1, 2, 3, 7, 13, 14, 15, 16, 17] fr' = [(1, v1), (2, .slice atw ts.length ct), (3, .pointer (some ⟨b3, 0, none⟩)), (7, v7), (13, .int .i64 (d.label.length : Nat)), (14, v14), (15, .int .i64 (q : Nat)), (16, .int .i64 (f : Nat)), (17, .slice (some ⟨br', 0, none⟩) d.width.toNat cr')] ∧ H' = (b3, .cells C [] 27) :: (br', .cells ((rowX d ts q).map (Value.int .i64)) spr' 3) :: H) := by
 obtain ⟨hm1, hm2, hm3, hm4, hm5⟩ := id hsm
 obtain ⟨hk1, hk2, hk3, hk4, hk5, hk6, hk7⟩ := id hok
 have hCl := O.len
 have hCn := O.n
 have hCx := O.l
 have hCw := O.w
 have hrnl := O.rnl
 have hr1 : ∀ x : Value, List.replicate 1 x = [x] := fun _ => rfl
 have hadn : Adr an := O.rn.adr (by omega)
 have hf := frmX_lt hk1 ts q
 have hrx := fun {k : Nat} (hk : k < d.width.toNat) => rowX_get hok (ts := ts) (q := q) hk
 rw [← hfd] at hf hrx
 obtain ⟨b, c, r1, r2, r3⟩ := O.rs f (by omega) (by omega)
 obtain ⟨w1, _, _, _⟩ := hk7 f (by omega) hf
 have hww : ((d.width.toNat : Nat) : Int) = d.width := by omega
 have hrl := rowX_len d ts q
 refine Tri.sepT fun hs0 => ?_
 have hsE := hs0
 try simp only [zzs] at hsE
 repeat (obtain ⟨hsx, hsE⟩ := hsE)
 refine Tri.piece (f := Try.f5) rfl ?_
 refine Tri.run tok [0, 1, 2, 3, 6, 7, 8, 9, 10, 11, 12, 13, 14, 15, 16, 17, 18, 19, 20, 21, 29, 75, 81, 89, 105, 111, 125, 160] (by kernel_rfl) ?_
 repeat' first
  | (with_reducible first | refine Nx.go ?_ | refine Bk.go (fun _ => ?_) fun _ => ?_)
  | ((with_reducible first | refine NewB.mk2 fun nb hnb hnb1 hnb2 => ?_ | refine NewRow.mk2 fun nb nsp ncap hnb hncap hnb1 hnb2 => ?_); try simp only [zzn] at hnb2)
  | simp -dsimp -implicitDefEqProofs (disch := first | assumption | (simp only [zzm]; done) | omega | (try with_reducible refine Row.adr (by assumption) ?_); simp only [zzl, Nat.reduceAdd]; first | done | omega) only [go_sem, ↓reduceIte, seval, -List.reduceReplicate]
 refine Tri.loopU tok [0, 1, 2, 3, 6, 7, 8, 9, 10, 11, 12, 13, 14, 15, 16, 17, 18, 19, 20, 21, 29, 75, 81, 89, 105, 111, 125, 160] (by kernel_rfl) [1, 2, 3, 7, 13, 14, 15, 16, 17, 18] (fun p G' fr H' => ∃ (k bx cx : Nat) (spx : List Value), k + p = d.width.toNat ∧ k + spx.length = cx ∧ G' = G ∧ H' = (b3, .cells C [] 27) :: (bx, .cells (((rowX d ts q).take k).map (Value.int .i64)) spx 3) :: H ∧ fr = [(1, v1), (2, .slice atw ts.length ct), (3, .pointer (some ⟨b3, 0, none⟩)), (7, v7), (13, .int .i64 (d.label.length : Nat)), (14, v14), (15, .int .i64 (q : Nat)), (16, .int .i64 (f : Nat)), (17, .slice (some ⟨bx, 0, none⟩) k cx), (18, .int .i64 (k : Nat))]) (d.width.toNat) ?_ ?_
 ·exact Upd.now ⟨0, br, 0, [], by omega, rfl, rfl, rfl, rfl⟩
 ·rintro p G1 fr H1 hle hs1 ⟨k, bx, cx, spx, hkp, hcx, rfl, rfl, rfl⟩
  by_cases hkl : k < d.width.toNat
  ·obtain ⟨t, u, g1, g2, g3, g4, g5⟩ := hrx hkl
   have hkn : k < (d.next[f]).length := by omega
   rw [nextF_get (by omega), atL_nat hkn] at g3
   have hadb : Adr b := r2.adr (by rw [List.length_map]; omega)
   obtain ⟨xs, hxs, hxl⟩ : ∃ xs, xs = ((rowX d ts q).take k).map (Value.int .i64) ∧ xs.length = k := ⟨_, rfl, by rw [List.length_map, List.length_take]; omega⟩
   have hval : (rowX d ts q)[k]'(by omega) = toX d.label.length ts q k (t : Nat) := by
    unfold rowX
    rw [List.getElem_map, List.getElem_range, ← hfd, nextF_get (by omega), atL_nat hkn, g3]
   have hce : ((rowX d ts q).take (k + 1)).map (Value.int .i64) = xs ++ [Value.int .i64 (toX d.label.length ts q k (t : Nat))] := by rw [List.take_succ_eq_append_getElem (by omega), List.map_append, ← hxs, hval]; rfl
   rw [← hxs] at hs1 ⊢
   clear hval g4 g5
   have hsE := hs1
   try simp only [zzs] at hsE
   repeat (obtain ⟨hsx, hsE⟩ := hsE)
   rcases Nat.eq_zero_or_pos ts.length with h0 | h0
   ·have hu : toX d.label.length ts q k (t : Nat) = (t : Nat) := by unfold toX; rw [if_neg (by omega)]
    rw [hu] at hce
    clear hu hrx
    have hd0 : decide ((0 : Int) < (ts.length : Nat)) = false := decide_eq_false (by omega)
    clear h0
    repeat' first
     | (with_reducible first | refine Nx.go ?_ | refine Bk.go (fun _ => ?_) fun _ => ?_)
     | ((with_reducible first | refine NewB.mk2 fun nb hnb hnb1 hnb2 => ?_ | refine NewRow.mk2 fun nb nsp ncap hnb hncap hnb1 hnb2 => ?_); try simp only [zzn] at hnb2)
     | simp -dsimp -implicitDefEqProofs (disch := first | assumption | (simp only [zzm]; done) | omega | (try with_reducible refine Row.adr (by assumption) ?_); simp only [zzl, Nat.reduceAdd]; first | done | omega) only [go_sem, ↓reduceIte, seval, -List.reduceReplicate, hr1, hxl, hCl, hCn, hCx, hCw, Row.obj O.rn, r1, Row.obj r2, g3, List.getElem_map, List.length_map, Int.toNat_natCast, hd0]
    all_goals try (exfalso; omega)
    rw [← hce]
    exact Upd.go (H' := _) (by intro fsum; first | exact Nat.le_refl _ | (simp only [zzq]; omega)) (Upd.now ⟨p - 1, by omega, k + 1, nb, ncap, nsp, by omega, by simp at hncap ⊢; omega, rfl, rfl, rfl⟩)
   ·obtain ⟨j, hj⟩ : ∃ j, j = q % ts.length := ⟨_, rfl⟩
    have hjl : j < ts.length := by rw [hj]; exact Nat.mod_lt _ h0
    have hmod : (q : Int) % (ts.length : Int) = (j : Nat) := by rw [hj]; exact (Int.natCast_emod _ _).symm
    obtain ⟨x, hx⟩ : ∃ x, x = ts[j].toNat % d.label.length := ⟨_, rfl⟩
    have hmod2 : ((ts[j].toNat : Nat) : Int) % (d.label.length : Int) = (x : Nat) := by rw [hx]; exact (Int.natCast_emod _ _).symm
    have hadt : Adr atw := hrt.adr (by rw [List.length_map]; omega)
    have hgd : ts.getD j 0 = ts[j] := by rw [List.getD_eq_getElem?_getD, List.getElem?_eq_getElem hjl]; rfl
    have hto : toX d.label.length ts q k (t : Nat) = if j = k ∧ x = t then ((d.label.length + j : Nat) : Int) else (t : Nat) := by
     unfold toX
     rw [← hj, hgd, ← hx]
     by_cases hc : j = k ∧ x = t
     ·rw [if_pos hc, if_pos ⟨h0, hc.1, by rw [hc.2]⟩]
     ·rw [if_neg hc, if_neg fun e => hc ⟨e.2.1, Int.ofNat.inj e.2.2⟩]
    have hx8 : ts[j].toNat < 256 := ts[j].toNat_lt
    by_cases hc : j = k ∧ x = t
    ·rw [hto, if_pos hc, Int.natCast_add] at hce
     obtain ⟨hc1, hc2⟩ := hc
     clear hto hrx hgd hx hj
     have hc1 := hc1.symm
     have hc2 := hc2.symm
     subst hc1 hc2
     have hd1 : decide ((0 : Int) < (ts.length : Nat)) = true := decide_eq_true (by omega)
     have hd2 : decide (((k : Nat) : Int) = (k : Nat)) = true := decide_eq_true rfl
     have hd3 : decide (((t : Nat) : Int) = (t : Nat)) = true := decide_eq_true rfl
     repeat' first
      | (with_reducible first | refine Nx.go ?_ | refine Bk.go (fun _ => ?_) fun _ => ?_)
      | ((with_reducible first | refine NewB.mk2 fun nb hnb hnb1 hnb2 => ?_ | refine NewRow.mk2 fun nb nsp ncap hnb hncap hnb1 hnb2 => ?_); try simp only [zzn] at hnb2)
      | simp -dsimp -implicitDefEqProofs (disch := first | assumption | (simp only [zzm]; done) | omega | (try with_reducible refine Row.adr (by assumption) ?_); simp only [zzl, Nat.reduceAdd]; first | done | omega) only [go_sem, ↓reduceIte, seval, -List.reduceReplicate, hr1, hxl, hCl, hCn, hCx, hCw, Row.obj O.rn, r1, Row.obj r2, g3, List.getElem_map, List.length_map, Int.toNat_natCast, hmod, hmod2, Row.obj hrt, byteV, hd1, hd2, hd3]
     all_goals try (exfalso; omega)
     all_goals
      rw [← hce]
      exact Upd.go (H' := _) (by intro fsum; first | exact Nat.le_refl _ | (simp only [zzq]; omega)) (Upd.now ⟨p - 1, by omega, k + 1, nb, ncap, nsp, by omega, by simp at hncap ⊢; omega, rfl, rfl, rfl⟩)
    ·rw [hto, if_neg hc] at hce
     clear hto hrx hgd hx hj
     repeat' first
      | (with_reducible first | refine Nx.go ?_ | refine Bk.go (fun _ => ?_) fun _ => ?_)
      | ((with_reducible first | refine NewB.mk2 fun nb hnb hnb1 hnb2 => ?_ | refine NewRow.mk2 fun nb nsp ncap hnb hncap hnb1 hnb2 => ?_); try simp only [zzn] at hnb2)
      | simp -dsimp -implicitDefEqProofs (disch := first | assumption | (simp only [zzm]; done) | omega | (try with_reducible refine Row.adr (by assumption) ?_); simp only [zzl, Nat.reduceAdd]; first | done | omega) only [go_sem, ↓reduceIte, seval, -List.reduceReplicate, hr1, hxl, hCl, hCn, hCx, hCw, Row.obj O.rn, r1, Row.obj r2, g3, List.getElem_map, List.length_map, Int.toNat_natCast, hmod, hmod2, Row.obj hrt, byteV]
     all_goals try (exfalso; omega)
     all_goals
      rw [← hce]
      exact Upd.go (H' := _) (by intro fsum; first | exact Nat.le_refl _ | (simp only [zzq]; omega)) (Upd.now ⟨p - 1, by omega, k + 1, nb, ncap, nsp, by omega, by simp at hncap ⊢; omega, rfl, rfl, rfl⟩)
  ·obtain rfl : k = d.width.toNat := by omega
   have hall : (rowX d ts q).take d.width.toNat = rowX d ts q := by rw [← hrl]; exact List.take_length
   rw [hall] at hs1 ⊢
   have hsE := hs1
   try simp only [zzs] at hsE
   repeat (obtain ⟨hsx, hsE⟩ := hsE)
   repeat' first
    | (with_reducible first | refine Nx.go ?_ | refine Bk.go (fun _ => ?_) fun _ => ?_)
    | ((with_reducible first | refine NewB.mk2 fun nb hnb hnb1 hnb2 => ?_ | refine NewRow.mk2 fun nb nsp ncap hnb hncap hnb1 hnb2 => ?_); try simp only [zzn] at hnb2)
    | simp -dsimp -implicitDefEqProofs (disch := first | assumption | (simp only [zzm]; done) | omega | (try with_reducible refine Row.adr (by assumption) ?_); simp only [zzl, Nat.reduceAdd]; first | done | omega) only [go_sem, ↓reduceIte, seval, -List.reduceReplicate, hCl, hCw]
   all_goals try (exfalso; omega)
   exact Upd.now ⟨bx, cx, spx, rfl, hcx, rfl, rfl⟩
end Go.Proofs.Ytdeableflgakdaa
namespace Go.Proofs.Ytdeableflgakdaa
open Go Go.V Go.Proofs
theorem z29_t {d : DfaT} (hd : d.of.length = 256) {i : Nat} (hi : i ≤ 70000) {G : PHeap} {H : Heap} {v1 v2 v3 v7 v13 v15 v16 vn vl vs : Value} {a9 : Option Addr} {n9 c9 : Nat} {b7 : Nat} {rv : List Value} {kn : Heap} (hone : rv.all oneV = true) (hkn : SliceO [] 24 1 vn i rv kn) :
  Tri Try.prog Try.f5.ntmps (piece [1, 1, 1, 1, 1, 1, 1, 1, 1, 0, 1, 0, 0, 1, 0, 0, 1, 1, 1, 1, 0] Try.f5) G [(1, v1), (2, v2), (3, v3), (7, v7), (13, v13), (14, .pointer (some ⟨b7, 0, none⟩)), (15, v15), (16, v16), (17, .slice a9 n9 c9)] ((b7, .cells (cellsD d vn vl vs) [] 27) :: (kn ++ H)) (onlyN fun G' fr' H' =>
   ∃ vn' kn', G' = G ∧ SliceO [] 24 1 vn' (i + 1) (rv ++ [.slice a9 n9 c9]) kn' ∧ restrict [1, 2, 3, 7, 13, 14, 15, 16] fr' = [(1, v1), (2, v2), (3, v3), (7, v7), (13, v13), (14, .pointer (some ⟨b7, 0, none⟩)), (15, v15), (16, v16)] ∧ H' = (b7, .cells (cellsD d vn' vl vs) [] 27) :: (kn' ++ H)) := by
 have hr1 : ∀ x : Value, List.replicate 1 x = [x] := fun _ => rfl
 have hl2 : ∀ a b c : Value, (cellsD d a b c).length = 260 := fun a b c => cellsD_len hd _ _ _
 have hg1 : ∀ a b c : Value, (cellsD d a b c)[257]? = some a := fun a b c => cellsD_n hd _ _ _
 have hputN : ∀ a b c x : Value, splice (cellsD d a b c) 257 [x] = cellsD d x b c := fun a b c x => cellsD_putN hd _ _ _ _
 refine Tri.sepT fun hs0 => ?_
 rcases hkn with ⟨aa, rfl, hi0, hx, rfl⟩ | ⟨bl, cc, sp, rfl, rfl, hx, hcl⟩
 ·have hsE := hs0
  try simp only [zzs] at hsE
  repeat (obtain ⟨hsx, hsE⟩ := hsE)
  refine Tri.piece (f := Try.f5) rfl ?_
  refine Tri.run tok [0, 1, 2, 3, 6, 7, 8, 9, 10, 11, 12, 13, 14, 15, 16, 17, 18, 19, 20, 21, 29, 75, 81, 89, 105, 111, 125, 160] (by kernel_rfl) ?_
  repeat' first
   | (with_reducible first | refine Nx.go ?_ | refine Bk.go (fun _ => ?_) fun _ => ?_)
   | ((with_reducible first | refine NewB.mk2 fun nb hnb hnb1 hnb2 => ?_ | refine NewRow.mk2 fun nb nsp ncap hnb hncap hnb1 hnb2 => ?_); try simp only [zzn] at hnb2)
   | simp -dsimp -implicitDefEqProofs (disch := first | assumption | (simp only [zzm]; done) | omega | (try with_reducible refine Row.adr (by assumption) ?_); simp only [zzl, Nat.reduceAdd]; first | done | omega) only [go_sem, ↓reduceIte, seval, -List.reduceReplicate, hl2, hg1, hputN, hr1, hone]
  refine Upd.leave (H' := (b7, .cells (cellsD d (.slice (some ⟨nb, 0, none⟩) 1 ncap) vl vs) [] 27) :: ([(nb, .cells [.slice a9 n9 c9] nsp 24)] ++ H)) (by intro fsum; simp only [zzq]; omega) ?_
  exact ⟨_, _, rfl, .inr ⟨nb, ncap, nsp, by rw [hi0], by rw [hx]; rfl, by rw [hx, hi0]; rfl, by rw [hx]; simp at hncap ⊢; omega⟩, rfl, rfl⟩
 ·rw [Nat.mul_one] at hx hcl
  have hsE := hs0
  try simp only [zzs] at hsE
  repeat (obtain ⟨hsx, hsE⟩ := hsE)
  refine Tri.piece (f := Try.f5) rfl ?_
  refine Tri.run tok [0, 1, 2, 3, 6, 7, 8, 9, 10, 11, 12, 13, 14, 15, 16, 17, 18, 19, 20, 21, 29, 75, 81, 89, 105, 111, 125, 160] (by kernel_rfl) ?_
  repeat' first
   | (with_reducible first | refine Nx.go ?_ | refine Bk.go (fun _ => ?_) fun _ => ?_)
   | ((with_reducible first | refine NewB.mk2 fun nb hnb hnb1 hnb2 => ?_ | refine NewRow.mk2 fun nb nsp ncap hnb hncap hnb1 hnb2 => ?_); try simp only [zzn] at hnb2)
   | simp -dsimp -implicitDefEqProofs (disch := first | assumption | (simp only [zzm]; done) | omega | (try with_reducible refine Row.adr (by assumption) ?_); simp only [zzl, Nat.reduceAdd]; first | done | omega) only [go_sem, ↓reduceIte, seval, -List.reduceReplicate, hl2, hg1, hputN, hr1, hone]
  refine Upd.leave (H' := (b7, .cells (cellsD d (.slice (some ⟨nb, 0, none⟩) (i + 1) ncap) vl vs) [] 27) :: ([(nb, .cells (rv ++ [.slice a9 n9 c9]) nsp 24)] ++ H)) (by intro fsum; simp only [zzq]; omega) ?_
  exact ⟨_, _, rfl, .inr ⟨nb, ncap, nsp, rfl, rfl, by rw [List.length_append, hx]; simp, by rw [List.length_append, hx]; simp at hncap ⊢; omega⟩, rfl, rfl⟩
theorem z30_t {d : DfaT} {labs : List Int} {i : Nat} (hi : i ≤ 70000) (hli : labs.length = i) {G : PHeap} {C : List Value} {an al ay : Option Addr} {cn cl cs : Nat} {rs : List Value} (O : OpenD G d C an al ay cn cl cs rs) {f : Nat} (hf : f < d.label.length) (hf2 : d.label.length ≤ 65536) {H : Heap} {v1 v2 v7 v13 v15 vn vl vs : Value} {b3 b7 : Nat} {kl : Heap} (hkll : SliceO [] 3 1 vl i (labs.map (Value.int .i64)) kl) :
  Tri Try.prog Try.f5.ntmps (piece [1, 1, 1, 1, 1, 1, 1, 1, 1, 0, 1, 0, 0, 1, 0, 0, 1, 1, 1, 1, 1] Try.f5) G [(1, v1), (2, v2), (3, .pointer (some ⟨b3, 0, none⟩)), (7, v7), (13, v13), (14, .pointer (some ⟨b7, 0, none⟩)), (15, v15), (16, .int .i64 (f : Nat))] ((b7, .cells (cellsD d vn vl vs) [] 27) :: (b3, .cells C [] 27) :: (kl ++ H)) (onlyN fun G' fr' H' =>
   ∃ vl' kl', G' = G ∧ SliceO [] 3 1 vl' (i + 1) ((labs ++ [atL d.label (f : Nat)]).map (Value.int .i64)) kl' ∧ restrict [1, 2, 3, 7, 13, 14, 15] fr' = [(1, v1), (2, v2), (3, .pointer (some ⟨b3, 0, none⟩)), (7, v7), (13, v13), (14, .pointer (some ⟨b7, 0, none⟩)), (15, v15)] ∧ H' = (b7, .cells (cellsD d vn vl' vs) [] 27) :: (b3, .cells C [] 27) :: (kl' ++ H)) := by
 have hd := O.ofl
 have hCl := O.len
 have hCx := O.l
 have hr1 : ∀ x : Value, List.replicate 1 x = [x] := fun _ => rfl
 have hl2 : ∀ a b c : Value, (cellsD d a b c).length = 260 := fun a b c => cellsD_len hd _ _ _
 have hg2 : ∀ a b c : Value, (cellsD d a b c)[258]? = some b := fun a b c => cellsD_l hd _ _ _
 have hputL : ∀ a b c x : Value, splice (cellsD d a b c) 258 [x] = cellsD d a x c := fun a b c x => cellsD_putL hd _ _ _ _
 have hada : Adr al := O.rl.adr (by rw [List.length_map]; omega)
 rw [atL_nat hf]
 refine Tri.sepT fun hs0 => ?_
 rcases hkll with ⟨aa, rfl, hi0, hx, rfl⟩ | ⟨bk, ck, sk, rfl, rfl, hx, hcl⟩
 ·have hsE := hs0
  try simp only [zzs] at hsE
  repeat (obtain ⟨hsx, hsE⟩ := hsE)
  refine Tri.piece (f := Try.f5) rfl ?_
  refine Tri.run tok [0, 1, 2, 3, 6, 7, 8, 9, 10, 11, 12, 13, 14, 15, 16, 17, 18, 19, 20, 21, 29, 75, 81, 89, 105, 111, 125, 160] (by kernel_rfl) ?_
  repeat' first
   | (with_reducible first | refine Nx.go ?_ | refine Bk.go (fun _ => ?_) fun _ => ?_)
   | ((with_reducible first | refine NewB.mk2 fun nb hnb hnb1 hnb2 => ?_ | refine NewRow.mk2 fun nb nsp ncap hnb hncap hnb1 hnb2 => ?_); try simp only [zzn] at hnb2)
   | simp -dsimp -implicitDefEqProofs (disch := first | assumption | (simp only [zzm]; done) | omega | (try with_reducible refine Row.adr (by assumption) ?_); simp only [zzl, Nat.reduceAdd]; first | done | omega) only [go_sem, ↓reduceIte, seval, -List.reduceReplicate, hl2, hg2, hputL, hr1, hCl, hCx, Row.obj O.rl, List.getElem_map]
   | with_reducible refine Tri.drawS tok mixed [0, 1, 2, 3, 6, 7, 8, 9, 10, 11, 12, 13, 14, 15, 16, 17, 18, 19, 20, 21, 29, 75, 81, 89, 105, 111, 125, 160] 30 [1, 3, 6] (.op 0 .plain (.op 1 .held (.op 2 .plain (.op 3 .held (.op 4 .plain (.op 5 .plain (.op 6 .held (.op 7 .keeps (.op 8 .keeps (.op 9 .plain (.op 10 .plain .nil))))))))))) (by kernel_rfl) [(b7, .cells (cellsD d vn (.slice aa 0 0) vs) [] 27), (b3, .cells C [] 27)] (by intro fsum; first | exact Nat.le_refl _ | (simp only [zzq]; omega)) ?_
  refine Upd.leave (H' := (b7, .cells (cellsD d vn (.slice (some ⟨nb, 0, none⟩) 1 ncap) vs) [] 27) :: (b3, .cells C [] 27) :: ([(nb, .cells [.int .i64 d.label[f]] nsp 3)] ++ H)) (by intro fsum; simp only [zzq]; omega) ?_
  exact ⟨_, _, rfl, .inr ⟨nb, ncap, nsp, by rw [hi0], by rw [List.map_append, hx]; rfl, by rw [List.map_append, hx]; simp; omega, by rw [List.map_append, hx]; simp at hncap ⊢; omega⟩, rfl, rfl⟩
 ·rw [List.length_map, Nat.mul_one] at hx hcl
  have hsE := hs0
  try simp only [zzs] at hsE
  repeat (obtain ⟨hsx, hsE⟩ := hsE)
  refine Tri.piece (f := Try.f5) rfl ?_
  refine Tri.run tok [0, 1, 2, 3, 6, 7, 8, 9, 10, 11, 12, 13, 14, 15, 16, 17, 18, 19, 20, 21, 29, 75, 81, 89, 105, 111, 125, 160] (by kernel_rfl) ?_
  repeat' first
   | (with_reducible first | refine Nx.go ?_ | refine Bk.go (fun _ => ?_) fun _ => ?_)
   | ((with_reducible first | refine NewB.mk2 fun nb hnb hnb1 hnb2 => ?_ | refine NewRow.mk2 fun nb nsp ncap hnb hncap hnb1 hnb2 => ?_); try simp only [zzn] at hnb2)
   | simp -dsimp -implicitDefEqProofs (disch := first | assumption | (simp only [zzm]; done) | omega | (try with_reducible refine Row.adr (by assumption) ?_); simp only [zzl, Nat.reduceAdd]; first | done | omega) only [go_sem, ↓reduceIte, seval, -List.reduceReplicate, hl2, hg2, hputL, hr1, hCl, hCx, Row.obj O.rl, List.getElem_map, List.length_map, hli]
   | with_reducible refine Tri.drawS tok mixed [0, 1, 2, 3, 6, 7, 8, 9, 10, 11, 12, 13, 14, 15, 16, 17, 18, 19, 20, 21, 29, 75, 81, 89, 105, 111, 125, 160] 30 [1, 3, 6] (.op 0 .plain (.op 1 .held (.op 2 .plain (.op 3 .held (.op 4 .plain (.op 5 .plain (.op 6 .held (.op 7 .keeps (.op 8 .keeps (.op 9 .plain (.op 10 .plain .nil))))))))))) (by kernel_rfl) [(b7, .cells (cellsD d vn (.slice (some ⟨bk, 0, none⟩) i ck) vs) [] 27), (b3, .cells C [] 27)] (by intro fsum; first | exact Nat.le_refl _ | (simp only [zzq]; omega)) ?_
  refine Upd.leave (H' := (b7, .cells (cellsD d vn (.slice (some ⟨nb, 0, none⟩) (i + 1) ncap) vs) [] 27) :: (b3, .cells C [] 27) :: ([(nb, .cells (labs.map (Value.int .i64) ++ [.int .i64 d.label[f]]) nsp 3)] ++ H)) (by intro fsum; simp only [zzq]; omega) ?_
  exact ⟨_, _, rfl, .inr ⟨nb, ncap, nsp, rfl, by rw [List.map_append]; rfl, by simp [hli], by simp at hncap ⊢; omega⟩, rfl, rfl⟩
end Go.Proofs.Ytdeableflgakdaa
namespace Go.Proofs.Ytdeableflgakdaa
open Go Go.V Go.Proofs
def RwI (G : PHeap) (rv : List Value) (M : List (List Int)) : Prop := rv.length = M.length ∧ ∀ i (h : i < M.length) (h2 : i < rv.length), ∃ b c, rv[i] = .slice b M[i].length c ∧ Row G b (M[i].map (Value.int .i64)) ∧ M[i].length ≤ c
theorem RwI.nil (G : PHeap) : RwI G [] [] := ⟨rfl, fun i h => by cases h⟩
theorem RwI.mono {G G' : PHeap} (hle : PLe G G') {rv : List Value} {M : List (List Int)} (h : RwI G rv M) : RwI G' rv M := by
 refine ⟨h.1, fun i h1 h2 => ?_⟩
 obtain ⟨b, c, e1, e2, e3⟩ := h.2 i h1 h2
 exact ⟨b, c, e1, e2.mono hle, e3⟩
theorem RwI.snoc {G : PHeap} {rv : List Value} {M : List (List Int)} (h : RwI G rv M) {b : Option Addr} {c : Nat} {r : List Int} (hr : Row G b (r.map (Value.int .i64))) (hc : r.length ≤ c) : RwI G (rv ++ [.slice b r.length c]) (M ++ [r]) := by
 have h1 := h.1
 refine ⟨by simp [h1], fun i hi hi2 => ?_⟩
 rcases Nat.lt_or_ge i M.length with g | g
 ·obtain ⟨b', c', e1, e2, e3⟩ := h.2 i g (by omega)
  refine ⟨b', c', ?_, ?_, ?_⟩
  ·rw [List.getElem_append_left (by omega), List.getElem_append_left g]; exact e1
  ·rw [List.getElem_append_left g]; exact e2
  ·rw [List.getElem_append_left g]; exact e3
 ·rw [List.length_append, List.length_singleton] at hi
  obtain rfl : i = M.length := by omega
  refine ⟨b, c, ?_, ?_, ?_⟩
  ·rw [List.getElem_append_right (by omega), List.getElem_append_right (by omega)]; simp [h1]
  ·rw [List.getElem_append_right (by omega)]; simp; exact hr
  ·rw [List.getElem_append_right (by omega)]; simp; exact hc
theorem RwI.one {G : PHeap} {rv : List Value} {M : List (List Int)} (h : RwI G rv M) : rv.all oneV = true := by
 refine List.all_eq_true.2 fun v hv => ?_
 obtain ⟨i, hi, rfl⟩ := List.getElem_of_mem hv
 obtain ⟨a, c, e, _⟩ := h.2 i (by have := h.1; omega) hi
 rw [e]; rfl
def rowsZ (d : DfaT) (ts : List UInt8) (q : Nat) : List (List Int) := (List.range q).map (rowX d ts)
def labsZ (d : DfaT) (ts : List UInt8) (q : Nat) : List Int := (List.range q).map fun s => atL d.label (frmX d.label.length ts s : Nat)
theorem rowsZ_len (d : DfaT) (ts : List UInt8) (q : Nat) : (rowsZ d ts q).length = q := by unfold rowsZ; rw [List.length_map, List.length_range]
theorem labsZ_len (d : DfaT) (ts : List UInt8) (q : Nat) : (labsZ d ts q).length = q := by unfold labsZ; rw [List.length_map, List.length_range]
theorem rowsZ_succ (d : DfaT) (ts : List UInt8) (q : Nat) : rowsZ d ts (q + 1) = rowsZ d ts q ++ [rowX d ts q] := by unfold rowsZ; rw [List.range_succ, List.map_append]; rfl
theorem labsZ_succ (d : DfaT) (ts : List UInt8) (q : Nat) : labsZ d ts (q + 1) = labsZ d ts q ++ [atL d.label (frmX d.label.length ts q : Nat)] := by unfold labsZ; rw [List.range_succ, List.map_append]; rfl
theorem ztail_t {d : DfaT} (hsm : SmallD d) (hok : RightP d) {ts : List UInt8} (hts : ts.length ≤ 60) (hn : d.label.length ≤ 200) {G : PHeap} {H : Heap} {C : List Value} {an al ay : Option Addr} {cn cl cs : Nat} {rs : List Value} (O : OpenD G d C an al ay cn cl cs rs) {atw : Option Addr} {ct : Nat} (hrt : Row G atw (ts.map byteV)) {b3 b7 : Nat} {v1 v7 vs vn vb : Value} {q f : Nat} (hfd : f = frmX d.label.length ts q) (hq : q < d.label.length + ts.length) {rv : List Value} {kn kl : Heap} (hrv : RwI G rv (rowsZ d ts q)) (hkn : SliceO [] 24 1 vn q rv kn) (hkl : SliceO [] 3 1 vb q ((labsZ d ts q).map (Value.int .i64)) kl) :
  Tri Try.prog Try.f5.ntmps (piece [1, 1, 1, 1, 1, 1, 1, 1, 1, 0, 1, 0, 0, 1, 0, 0, 1, 1] Try.f5) G [(1, v1), (2, .slice atw ts.length ct), (3, .pointer (some ⟨b3, 0, none⟩)), (7, v7), (13, .int .i64 (d.label.length : Nat)), (14, .pointer (some ⟨b7, 0, none⟩)), (15, .int .i64 (q : Nat)), (16, .int .i64 (f : Nat))] ((b3, .cells C [] 27) :: (b7, .cells (cellsD d vn vb vs) [] 27) :: (kn ++ (kl ++ H))) (onlyN fun G' fr' H' =>
   ∃ vn' vb' rv' kn' kl', PLe G G' ∧ RwI G' rv' (rowsZ d ts (q + 1)) ∧ SliceO [] 24 1 vn' (q + 1) rv' kn' ∧ SliceO [] 3 1 vb' (q + 1) ((labsZ d ts (q + 1)).map (Value.int .i64)) kl' ∧ restrict [1, 2, 3, 7, 13, 14, 15] fr' = [(1, v1), (2, .slice atw ts.length ct), (3, .pointer (some ⟨b3, 0, none⟩)), (7, v7), (13, .int .i64 (d.label.length : Nat)), (14, .pointer (some ⟨b7, 0, none⟩)), (15, .int .i64 (q : Nat))] ∧ H' = (b3, .cells C [] 27) :: (b7, .cells (cellsD d vn' vb' vs) [] 27) :: (kn' ++ (kl' ++ H))) := by
 obtain ⟨hk1, hk2, hk3, hk4, hk5, hk6, hk7⟩ := id hok
 have hww : d.width ≤ 256 := by
  have h2 := tabO_len d.of
  have h3 := O.ofl
  omega
 have hf : f < d.label.length := by rw [hfd]; exact frmX_lt hk1 ts q
 have hRl := rowX_len d ts q
 refine Tri.sepT fun hs0 => ?_
 have hsE := hs0
 try simp only [zzs] at hsE
 repeat (obtain ⟨hsx, hsE⟩ := hsE)
 refine Tri.piece (f := Try.f5) rfl ?_
 refine Tri.runS tok [0, 1, 2, 3, 6, 7, 8, 9, 10, 11, 12, 13, 14, 15, 16, 17, 18, 19, 20, 21, 29, 75, 81, 89, 105, 111, 125, 160] (.seq .run (.seq .cut (.seq .cut .cut))) (by kernel_rfl) ?_
 repeat' first
  | (with_reducible first | refine Nx.go ?_ | refine Bk.go (fun _ => ?_) fun _ => ?_)
  | ((with_reducible first | refine NewB.mk2 fun nb hnb hnb1 hnb2 => ?_ | refine NewRow.mk2 fun nb nsp ncap hnb hncap hnb1 hnb2 => ?_); try simp only [zzn] at hnb2)
  | simp -dsimp -implicitDefEqProofs (disch := first | assumption | (simp only [zzm]; done) | omega | (try with_reducible refine Row.adr (by assumption) ?_); simp only [zzl, Nat.reduceAdd]; first | done | omega) only [go_sem, ↓reduceIte, seval, -List.reduceReplicate, List.replicate_zero]
 refine Tri.upd (Upd.go (H' := (b3, .cells C [] 27) :: (nb, .cells [] [] 3) :: (b7, .cells (cellsD d vn vb vs) [] 27) :: (kn ++ (kl ++ H))) (by intro fsum; simp only [zzq]; omega) (Upd.now ?_))
 refine Tri.live [1, 2, 3, 7, 13, 14, 15, 16, 17] ?_
 refine Tri.isPiece [1, 1, 1, 1, 1, 1, 1, 1, 1, 0, 1, 0, 0, 1, 0, 0, 1, 1, 1, 0] Try.f5 (by kernel_rfl) ?_
 refine Tri.onlyN (zrow_t hsm hok hts O hrt hfd hq hww) fun G2 l2 H2 hle2 hs5 hM => ?_
 obtain ⟨br, cr, spr, rfl, hcr, hfr, rfl⟩ := hM
 simp only [go_sem]
 refine Tri.live [1, 2, 3, 7, 13, 14, 15, 16, 17] ?_
 rw [hfr]
 refine Tri.upd (Upd.go (H' := (br, .cells ((rowX d ts q).map (Value.int .i64)) spr 3) :: (b7, .cells (cellsD d vn vb vs) [] 27) :: (kn ++ ((b3, .cells C [] 27) :: (kl ++ H)))) (by intro fsum; simp only [zzq]; omega) (Upd.now ?_))
 refine Tri.sepT fun hs3 => ?_
 refine Tri.upd (Upd.shareRow hs3.1.1 fun G3 hle3 hs4 hr3 => ?_)
 have hrv3 := (hrv.mono hle3).snoc (b := some ⟨br, 0, none⟩) (c := cr) hr3 (by omega)
 rw [hRl, ← rowsZ_succ] at hrv3
 have O3 := O.mono hle3
 refine Tri.isPiece [1, 1, 1, 1, 1, 1, 1, 1, 1, 0, 1, 0, 0, 1, 0, 0, 1, 1, 1, 1, 0] Try.f5 (by kernel_rfl) ?_
 refine Tri.onlyN (z29_t O.ofl (by omega) hrv.one hkn) fun G4 l4 H4 hle4 hs5 hM => ?_
 obtain ⟨vn', kn', rfl, hkn', hfr, rfl⟩ := hM
 simp only [go_sem]
 refine Tri.live [1, 2, 3, 7, 13, 14, 15, 16] ?_
 rw [hfr]
 refine Tri.upd (Upd.go (H' := (b7, .cells (cellsD d vn' vb vs) [] 27) :: (b3, .cells C [] 27) :: (kl ++ (kn' ++ H))) (by intro fsum; simp only [zzq]; omega) (Upd.now ?_))
 refine Tri.isPiece [1, 1, 1, 1, 1, 1, 1, 1, 1, 0, 1, 0, 0, 1, 0, 0, 1, 1, 1, 1, 1] Try.f5 (by kernel_rfl) ?_
 refine Tri.onlyN (z30_t (by omega) (labsZ_len d ts q) O3 hf (by omega) hkl) fun G5 l5 H5 hle5 hs6 hM => ?_
 obtain ⟨vl', kl', rfl, hkl', hfr2, rfl⟩ := hM
 rw [hfd, ← labsZ_succ] at hkl'
 refine Upd.leave (H' := (b3, .cells C [] 27) :: (b7, .cells (cellsD d vn' vl' vs) [] 27) :: (kn' ++ (kl' ++ H))) (by intro fsum; simp only [zzq]; omega) ?_
 exact ⟨vn', vl', _, kn', kl', hle3, hrv3, hkn', hkl', hfr2, rfl⟩
set_option maxRecDepth 4000 in
theorem zloop_t {d : DfaT} (hsm : SmallD d) (hok : RightP d) {ts : List UInt8} (hts : ts.length ≤ 60) (hn : d.label.length ≤ 200) {G : PHeap} {H : Heap} {C : List Value} {an al ay : Option Addr} {cn cl cs : Nat} {rs : List Value} (O : OpenD G d C an al ay cn cl cs rs) {atw : Option Addr} {ct : Nat} (hrt : Row G atw (ts.map byteV)) {b3 b7 : Nat} {v1 v7 vs : Value} (hvs : Sl G str vs d.names) :
  Tri Try.prog Try.f5.ntmps (piece [1, 1, 1, 1, 1, 1, 1, 1, 1, 0] Try.f5) G [(1, v1), (2, .slice atw ts.length ct), (3, .pointer (some ⟨b3, 0, none⟩)), (7, v7), (13, .int .i64 (d.label.length : Nat)), (14, .pointer (some ⟨b7, 0, none⟩))] ((b3, .cells C [] 27) :: (b7, .cells (cellsD d (.slice none 0 0) (.slice none 0 0) vs) [] 27) :: H) (onlyN fun G' fr' H' =>
   ∃ vn vl, PLe G G' ∧ IsD G' (dblD d ts) (.agg (cellsD d vn vl vs).toArray) ∧ restrict [1, 2, 3, 7, 13, 14] fr' = [(1, v1), (2, .slice atw ts.length ct), (3, .pointer (some ⟨b3, 0, none⟩)), (7, v7), (13, .int .i64 (d.label.length : Nat)), (14, .pointer (some ⟨b7, 0, none⟩))] ∧ H' = (b3, .cells C [] 27) :: (b7, .cells (cellsD d vn vl vs) [] 27) :: H) := by
 obtain ⟨hs1, hs2, hs3, hs4, hs5⟩ := id hsm
 obtain ⟨hk1, hk2, hk3, hk4, hk5, hk6, hk7⟩ := id hok
 have hCl := O.len
 have hww : d.width ≤ 256 := by
  have h2 := tabO_len d.of
  have h3 := O.ofl
  omega
 obtain ⟨N, hN⟩ : ∃ N, N = d.label.length + ts.length := ⟨_, rfl⟩
 refine Tri.sepT fun hs0 => ?_
 have hsE := hs0
 try simp only [zzs] at hsE
 repeat (obtain ⟨hsx, hsE⟩ := hsE)
 refine Tri.piece (f := Try.f5) rfl ?_
 refine Tri.run tok [0, 1, 2, 3, 6, 7, 8, 9, 10, 11, 12, 13, 14, 15, 16, 17, 18, 19, 20, 21, 29, 75, 81, 89, 105, 111, 125, 160] (by kernel_rfl) ?_
 repeat' first
  | (with_reducible first | refine Nx.go ?_ | refine Bk.go (fun _ => ?_) fun _ => ?_)
  | ((with_reducible first | refine NewB.mk2 fun nb hnb hnb1 hnb2 => ?_ | refine NewRow.mk2 fun nb nsp ncap hnb hncap hnb1 hnb2 => ?_); try simp only [zzn] at hnb2)
  | simp -dsimp -implicitDefEqProofs (disch := first | assumption | (simp only [zzm]; done) | omega | (try with_reducible refine Row.adr (by assumption) ?_); simp only [zzl, Nat.reduceAdd]; first | done | omega) only [go_sem, ↓reduceIte, seval, -List.reduceReplicate]
 refine Tri.loopS tok [0, 1, 2, 3, 6, 7, 8, 9, 10, 11, 12, 13, 14, 15, 16, 17, 18, 19, 20, 21, 29, 75, 81, 89, 105, 111, 125, 160] (.seq .run (.seq (.block (.seq .run (.seq .run .cut))) .cut)) (by kernel_rfl) [1, 2, 3, 7, 13, 14, 15] (fun p G' fr H' => ∃ (q : Nat) (vn vb : Value) (rv : List Value) (kn kl : Heap), q + p = N ∧ PLe G G' ∧ RwI G' rv (rowsZ d ts q) ∧ SliceO [] 24 1 vn q rv kn ∧ SliceO [] 3 1 vb q ((labsZ d ts q).map (Value.int .i64)) kl ∧ H' = (b3, .cells C [] 27) :: (b7, .cells (cellsD d vn vb vs) [] 27) :: (kn ++ (kl ++ H)) ∧ fr = [(1, v1), (2, .slice atw ts.length ct), (3, .pointer (some ⟨b3, 0, none⟩)), (7, v7), (13, .int .i64 (d.label.length : Nat)), (14, .pointer (some ⟨b7, 0, none⟩)), (15, .int .i64 (q : Nat))]) (N) ?_ ?_
 ·exact Upd.leave (H' := (b3, .cells C [] 27) :: (b7, .cells (cellsD d (.slice none 0 0) (.slice none 0 0) vs) [] 27) :: ([] ++ ([] ++ H))) (by intro fsum; simp only [zzq]; omega) ⟨0, _, _, [], [], [], by omega, PLe.refl _, RwI.nil _, .inl ⟨none, rfl, rfl, rfl, rfl⟩, .inl ⟨none, rfl, rfl, rfl, rfl⟩, rfl, rfl⟩
 ·rintro p G1 fr H1 hle1 hsL ⟨q, vn, vb, rv, kn, kl, hqp, hle01, hrv, hkn, hkl, rfl, rfl⟩
  have O1 := OpenD.mono hle01 O
  have hrt1 : Row G1 atw (ts.map byteV) := hrt.mono hle01
  have hsE := hsL
  try simp only [zzs] at hsE
  repeat (obtain ⟨hsx, hsE⟩ := hsE)
  by_cases hq : q < N
  ·by_cases hqn : q < d.label.length
   ·have hfd : q = frmX d.label.length ts q := by unfold frmX; rw [if_pos hqn]
    repeat' first
     | (with_reducible first | refine Nx.go ?_ | refine Bk.go (fun _ => ?_) fun _ => ?_)
     | ((with_reducible first | refine NewB.mk2 fun nb hnb hnb1 hnb2 => ?_ | refine NewRow.mk2 fun nb nsp ncap hnb hncap hnb1 hnb2 => ?_); try simp only [zzn] at hnb2)
     | simp -dsimp -implicitDefEqProofs (disch := first | assumption | (simp only [zzm]; done) | omega | (try with_reducible refine Row.adr (by assumption) ?_); simp only [zzl, Nat.reduceAdd]; first | done | omega) only [go_sem, ↓reduceIte, seval, -List.reduceReplicate, List.replicate_zero, hCl]
    all_goals try (exfalso; omega)
    refine Tri.live [1, 2, 3, 7, 13, 14, 15, 16] ?_
    refine Tri.isPiece [1, 1, 1, 1, 1, 1, 1, 1, 1, 0, 1, 0, 0, 1, 0, 0, 1, 1] Try.f5 (by kernel_rfl) ?_
    refine Tri.onlyN (ztail_t hsm hok hts hn O1 hrt1 hfd (by omega) hrv hkn hkl) fun G2 l2 H2 hle2 hs5 hM => ?_
    obtain ⟨vn', vb', rv', kn', kl', hle12, hrv', hkn', hkl', hfr, rfl⟩ := hM
    simp only [go_sem]
    refine Tri.live [1, 2, 3, 7, 13, 14, 15] ?_
    rw [hfr]
    refine Tri.run tok [0, 1, 2, 3, 6, 7, 8, 9, 10, 11, 12, 13, 14, 15, 16, 17, 18, 19, 20, 21, 29, 75, 81, 89, 105, 111, 125, 160] (by kernel_rfl) ?_
    repeat' first
     | (with_reducible first | refine Nx.go ?_ | refine Bk.go (fun _ => ?_) fun _ => ?_)
     | ((with_reducible first | refine NewB.mk2 fun nb hnb hnb1 hnb2 => ?_ | refine NewRow.mk2 fun nb nsp ncap hnb hncap hnb1 hnb2 => ?_); try simp only [zzn] at hnb2)
     | simp -dsimp -implicitDefEqProofs (disch := first | assumption | (simp only [zzm]; done) | omega | (try with_reducible refine Row.adr (by assumption) ?_); simp only [zzl, Nat.reduceAdd]; first | done | omega) only [go_sem, ↓reduceIte, seval, -List.reduceReplicate]
    exact Upd.now ⟨p - 1, by omega, q + 1, vn', vb', rv', kn', kl', by omega, hle01.trans hle12, hrv', hkn', hkl', rfl, rfl⟩
   ·obtain ⟨j, hj⟩ : ∃ j, j = q - d.label.length := ⟨_, rfl⟩
    have hjl : j < ts.length := by omega
    have hsub : (q : Int) - (d.label.length : Int) = (j : Nat) := by omega
    obtain ⟨x, hx⟩ : ∃ x, x = ts[j].toNat % d.label.length := ⟨_, rfl⟩
    have hmod2 : ((ts[j].toNat : Nat) : Int) % (d.label.length : Int) = (x : Nat) := by rw [hx]; exact (Int.natCast_emod _ _).symm
    have hadt : Adr atw := hrt1.adr (by rw [List.length_map]; omega)
    have hx8 : ts[j].toNat < 256 := ts[j].toNat_lt
    have hfd : x = frmX d.label.length ts q := by
     unfold frmX
     rw [if_neg hqn, ← hj, List.getD_eq_getElem?_getD, List.getElem?_eq_getElem hjl]
     exact hx
    clear hx
    repeat' first
     | (with_reducible first | refine Nx.go ?_ | refine Bk.go (fun _ => ?_) fun _ => ?_)
     | ((with_reducible first | refine NewB.mk2 fun nb hnb hnb1 hnb2 => ?_ | refine NewRow.mk2 fun nb nsp ncap hnb hncap hnb1 hnb2 => ?_); try simp only [zzn] at hnb2)
     | simp -dsimp -implicitDefEqProofs (disch := first | assumption | (simp only [zzm]; done) | omega | (try with_reducible refine Row.adr (by assumption) ?_); simp only [zzl, Nat.reduceAdd]; first | done | omega) only [go_sem, ↓reduceIte, seval, -List.reduceReplicate, List.replicate_zero, hCl, hsub, hmod2, Row.obj hrt1, byteV, List.getElem_map, List.length_map, Int.toNat_natCast]
    all_goals try (exfalso; omega)
    refine Tri.live [1, 2, 3, 7, 13, 14, 15, 16] ?_
    refine Tri.isPiece [1, 1, 1, 1, 1, 1, 1, 1, 1, 0, 1, 0, 0, 1, 0, 0, 1, 1] Try.f5 (by kernel_rfl) ?_
    refine Tri.onlyN (ztail_t hsm hok hts hn O1 hrt1 hfd (by omega) hrv hkn hkl) fun G2 l2 H2 hle2 hs5 hM => ?_
    obtain ⟨vn', vb', rv', kn', kl', hle12, hrv', hkn', hkl', hfr, rfl⟩ := hM
    simp only [go_sem]
    refine Tri.live [1, 2, 3, 7, 13, 14, 15] ?_
    rw [hfr]
    refine Tri.run tok [0, 1, 2, 3, 6, 7, 8, 9, 10, 11, 12, 13, 14, 15, 16, 17, 18, 19, 20, 21, 29, 75, 81, 89, 105, 111, 125, 160] (by kernel_rfl) ?_
    repeat' first
     | (with_reducible first | refine Nx.go ?_ | refine Bk.go (fun _ => ?_) fun _ => ?_)
     | ((with_reducible first | refine NewB.mk2 fun nb hnb hnb1 hnb2 => ?_ | refine NewRow.mk2 fun nb nsp ncap hnb hncap hnb1 hnb2 => ?_); try simp only [zzn] at hnb2)
     | simp -dsimp -implicitDefEqProofs (disch := first | assumption | (simp only [zzm]; done) | omega | (try with_reducible refine Row.adr (by assumption) ?_); simp only [zzl, Nat.reduceAdd]; first | done | omega) only [go_sem, ↓reduceIte, seval, -List.reduceReplicate]
    exact Upd.now ⟨p - 1, by omega, q + 1, vn', vb', rv', kn', kl', by omega, hle01.trans hle12, hrv', hkn', hkl', rfl, rfl⟩
  ·obtain rfl : q = N := by omega
   rcases hkn with ⟨_, _, h0, _, _⟩ | ⟨bn, cn2, spn, rfl, rfl, hx1, hxc⟩
   ·omega
   rcases hkl with ⟨_, _, h0, _, _⟩ | ⟨bk, ck, spk, rfl, rfl, hy, hyc⟩
   ·omega
   rw [Nat.mul_one] at hxc hx1 hyc
   rw [List.length_map] at hyc
   have hrl := rowsZ_len d ts q
   have hll := labsZ_len d ts q
   repeat' first
    | (with_reducible first | refine Nx.go ?_ | refine Bk.go (fun _ => ?_) fun _ => ?_)
    | ((with_reducible first | refine NewB.mk2 fun nb hnb hnb1 hnb2 => ?_ | refine NewRow.mk2 fun nb nsp ncap hnb hncap hnb1 hnb2 => ?_); try simp only [zzn] at hnb2)
    | simp -dsimp -implicitDefEqProofs (disch := first | assumption | (simp only [zzm]; done) | omega | (try with_reducible refine Row.adr (by assumption) ?_); simp only [zzl, Nat.reduceAdd]; first | done | omega) only [go_sem, ↓reduceIte, seval, -List.reduceReplicate, List.toList_toArray, hCl]
   all_goals try (exfalso; omega)
   refine Upd.go (H' := (bn, .cells rv spn 24) :: (bk, .cells ((labsZ d ts q).map (Value.int .i64)) spk 3) :: (b3, .cells C [] 27) :: (b7, .cells (cellsD d (.slice (some ⟨bn, 0, none⟩) q cn2) (.slice (some ⟨bk, 0, none⟩) q ck) vs) [] 27) :: H) (by intro fsum; simp only [zzq]; omega) ?_
   refine Upd.trans (Upd.shareRow (hsL.none (by simp [keys])) fun G5 hle5 hs9 hr5 => ?_)
   refine Upd.shareRow hs9.1.1 fun G6 hle6 hs10 hr6 => ?_
   have k6 := hle5.trans hle6
   have hrv6 := hrv.mono k6
   obtain ⟨ay2, cy2, rfl, hry2, hcy2⟩ := hvs.mono (hle01.trans k6)
   rw [hN] at *
   refine ⟨_, _, hle01.trans k6, ⟨O.ofl, O.ofb, _, _, _, rfl, ⟨some ⟨bn, 0, none⟩, cn2, rv, ?_, hr5.mono hle6, hrv6.1, ?_, hrv6.2⟩, ⟨some ⟨bk, 0, none⟩, ck, ?_, hr6, ?_⟩, ⟨ay2, cy2, rfl, hry2, hcy2⟩⟩, rfl, rfl⟩
   ·show _ = Value.slice _ (rowsZ d ts _).length _
    rw [hrl]
   ·show (rowsZ d ts _).length ≤ _
    omega
   ·show _ = Value.slice _ (labsZ d ts _).length _
    rw [hll]
   ·show (labsZ d ts _).length ≤ _
    omega
end Go.Proofs.Ytdeableflgakdaa
namespace Go.Proofs.Ytdeableflgakdaa
open Go Go.V Go.Proofs
theorem ofD_small {d : DfaT} (hsm : SmallD d) {m : List Int} (h : StableP d m) : SmallD (ofD d m) := by
 obtain ⟨hm1, hm2, hm3, hm4, hm5⟩ := hsm
 have hml : m.length = d.label.length := h.2.1
 have htl := tabO_len m
 have hhl : (headsM m).length = (tabO m).length := by unfold headsM; rw [List.length_map]
 refine ⟨?_, fun r hr => ?_, ?_, hm4, hm5⟩
 ·simp only [ofD, List.length_map]; omega
 ·simp only [ofD, List.mem_map] at hr
  obtain ⟨s, _, rfl⟩ := hr
  unfold rowB
  rw [List.length_map, List.getD_eq_getElem?_getD]
  rcases Nat.lt_or_ge s.toNat d.next.length with h1 | h1
  ·rw [List.getElem?_eq_getElem h1]; exact hm2 _ (List.getElem_mem h1)
  ·rw [List.getElem?_eq_none h1]; exact Nat.zero_le _
 ·simp only [ofD, List.length_map]; omega
end Go.Proofs.Ytdeableflgakdaa
namespace Go.Proofs.Ytdeableflgakdaa
open Go Go.V Go.Proofs
theorem dbl_smallD {d : DfaT} (hsm : SmallD d) (hok : RightP d) {ts : List UInt8} (hts : ts.length ≤ 60) (hn : d.label.length ≤ 200) (hof : d.of.length = 256) : SmallD (dblD d ts) := by
 obtain ⟨h1, h2, h3, h4, h5⟩ := hsm
 obtain ⟨l1, l2⟩ := dbl_len d ts
 have hww : d.width ≤ 256 := by
  have g2 := tabO_len d.of
  have g3 := hok.2.2.2.2.1
  omega
 refine ⟨by omega, fun r hr => ?_, by omega, h4, h5⟩
 have hr : r ∈ (List.range (d.label.length + ts.length)).map (rowX d ts) := hr
 obtain ⟨q, _, rfl⟩ := List.mem_map.1 hr
 rw [rowX_len]
 omega
theorem smallZ {d : DfaT} (hsm : SmallD d) (hok : RightP d) (hof : d.of.length = 256) : SmallD (smallR d).1 := by
 rw [smallR_ok hok]
 exact ofD_small (trim_small hsm hok) (stable_aft (keep_right hok (reachL_keep hok)))
set_option maxRecDepth 4000 in
theorem zend_t {d : DfaT} (hsm : SmallD d) (hok : RightP d) {ts w : List UInt8} (hts : ts.length ≤ 60) (hn : d.label.length ≤ 200) (hwl : w.length ≤ 2000000) {G : PHeap} {H : Heap} {R : Value → PHeap → Heap → Prop} {C : List Value} {an al ay : Option Addr} {cn cl cs : Nat} {rs : List Value} (O : OpenD G d C an al ay cn cl cs rs) {C7 : List Value} (hI7 : IsD G (smallR d).1 (.agg C7.toArray)) {CX : List Value} (hIX : IsD G (dblD d ts) (.agg CX.toArray)) {vw v2 v13 : Value} (hw : Sl G byteV vw w) {b3 b7 b14 : Nat}
  (hR : ∀ G', PLe G G' → R (.bool true) G' H) :
  Tri Try.prog Try.f5.ntmps (piece [1, 1, 1, 1, 1, 1, 1, 1, 1, 1] Try.f5) G [(1, vw), (2, v2), (3, .pointer (some ⟨b3, 0, none⟩)), (7, .pointer (some ⟨b7, 0, none⟩)), (13, v13), (14, .pointer (some ⟨b14, 0, none⟩))] ((b3, .cells C [] 27) :: (b14, .cells CX [] 27) :: (b7, .cells C7 [] 27) :: H) (endK T #[Go.ResultVar.tmp 6].toList (UpdR R) .mk) := by
 have hof := O.ofl
 have hCl := O.len
 have hCa := O.all
 have hxr := dbl_right hok (ts := ts) (by omega)
 have hxs := dbl_smallD hsm hok hts hn hof
 obtain ⟨hy1, hy2⟩ := dbl_small hok hof (ts := ts) (by omega)
 have hy0 := (small_own hxr).2.1
 obtain ⟨_, an7, al7, ay7, cn7, cl7, cs7, rs7, e7, O7⟩ := hI7.opened
 obtain rfl : C7 = _ := by simpa using e7
 obtain ⟨_, anx, alx, ayx, cnx, clx, csx, rsx, ex, OX⟩ := hIX.opened
 obtain rfl : CX = _ := by simpa using ex
 have h7l := O7.len
 have hXl := OX.len
 have hXt : List.take 260 CX = CX := List.take_of_length_le (by omega)
 refine Tri.sepT fun hs0 => ?_
 have hsE := hs0
 try simp only [zzs] at hsE
 repeat (obtain ⟨hsx, hsE⟩ := hsE)
 refine Tri.piece (f := Try.f5) rfl ?_
 refine Tri.run tok [0, 1, 2, 3, 6, 7, 8, 9, 10, 11, 12, 13, 14, 15, 16, 17, 18, 19, 20, 21, 29, 75, 81, 89, 105, 111, 125, 160] (by kernel_rfl) ?_
 repeat' first
  | (with_reducible first | refine Nx.go ?_ | refine Bk.go (fun _ => ?_) fun _ => ?_)
  | ((with_reducible first | refine NewB.mk2 fun nb hnb hnb1 hnb2 => ?_ | refine NewRow.mk2 fun nb nsp ncap hnb hncap hnb1 hnb2 => ?_); try simp only [zzn] at hnb2)
  | simp -dsimp -implicitDefEqProofs (disch := first | assumption | (simp only [zzm]; done) | omega | (try with_reducible refine Row.adr (by assumption) ?_); simp only [zzl, Nat.reduceAdd]; first | done | omega) only [go_sem, ↓reduceIte, seval, -List.reduceReplicate, List.toList_toArray, hCl, hXl, h7l, hXt]
 refine small_t hxs OX.is fun G2 v2 hle2 hs2 hI2 => ?_
 rw [hy0]
 obtain ⟨Y, hY⟩ : ∃ Y, Y = (smallR (dblD d ts)).1 := ⟨_, rfl⟩
 rw [← hY] at hI2 hy1
 have hy2 : tellD Y w = tellD d w := by rw [hY]; exact hy2 w
 have hYr : RightP Y := by rw [hY]; exact (small_own hxr).1
 obtain ⟨C2, an2, al2, ay2, cn2, cl2, cs2, rs2, rfl, O2⟩ := hI2.opened
 have hC2l := O2.len
 have hC2x := O2.l
 have h7x := O7.l
 have hone2 := isD_one O2.is
 have hput2 := isD_put hC2l
 have htk2 : List.take 260 C2 = C2 := List.take_of_length_le (by omega)
 have hCt : List.take 260 C = C := List.take_of_length_le (by omega)
 have hsE := hs2
 try simp only [zzs] at hsE
 repeat (obtain ⟨hsx, hsE⟩ := hsE)
 have hYs : SmallD Y := by rw [hY]; exact smallZ hxs hxr hof
 have hnm : nameD Y (tellB Y w) = nameD d (tellB d w) := by
  have h1 : tellB Y w = tellD Y w := by unfold tellB; rw [if_pos (boolOf_yes hYr)]
  have h2 : tellB d w = tellD d w := by unfold tellB; rw [if_pos (boolOf_yes hok)]
  have h3 : Y.names = d.names := by rw [hY, smallR_ok hxr]; rfl
  rw [h1, h2, hy2]
  unfold nameD
  rw [h3]
 obtain ⟨nm, hnmd⟩ : ∃ nm, nm = nameD d (tellB d w) := ⟨_, rfl⟩
 rw [← hnmd] at hnm
 have hbe : (nm == nm) = true := by simp
 have hbd : decide (nm = nm) = true := decide_eq_true rfl
 have hlen : (aftD (dblD d ts) 65536).length ≤ 2000000 := by rw [aftD_len hxr]; exact hxs.2.2.1
 have hst := boolOf_yes (stable_aft hxr)
 repeat' first
  | (with_reducible first | refine Nx.go ?_ | refine Bk.go (fun _ => ?_) fun _ => ?_)
  | ((with_reducible first | refine NewB.mk2 fun nb hnb hnb1 hnb2 => ?_ | refine NewRow.mk2 fun nb nsp ncap hnb hncap hnb1 hnb2 => ?_); try simp only [zzn] at hnb2)
  | simp -dsimp -implicitDefEqProofs (disch := first | assumption | (simp only [zzm]; done) | omega | (try with_reducible refine Row.adr (by assumption) ?_); simp only [zzl, Nat.reduceAdd]; first | done | omega) only [go_sem, ↓reduceIte, seval, -List.reduceReplicate, List.toList_toArray, hC2l, hone2, hput2, htk2, zeroC_len, hCl, hXl, h7l, hXt, hCt, hC2x, h7x, hy1, hbe, hbd]
  | with_reducible refine Tri.drawH tok mixed [0, 1, 2, 3, 6, 7, 8, 9, 10, 11, 12, 13, 14, 15, 16, 17, 18, 19, 20, 21, 29, 75, 81, 89, 105, 111, 125, 160] 32 [4, 7, 12, 15, 21, 22] (.op 0 .plain (.op 1 .plain (.op 2 .plain (.op 3 .plain (.op 4 .held (.op 5 .plain (.op 6 .plain (.op 7 .held (.op 8 .plain (.op 9 .plain (.op 10 .plain (.op 11 .plain (.op 12 .held (.op 13 .plain (.op 15 .held (.op 16 .plain (.op 14 .keeps (.op 17 .keeps (.op 18 .plain (.op 19 .plain (.op 20 .plain (.op 21 .held (.op 22 .held (.op 23 .keeps (.op 24 .keeps (.op 25 .plain (.op 26 .plain (.op 27 .keeps (.op 28 .plain (.op 29 .plain .nil)))))))))))))))))))))))))))))) (by kernel_rfl) [20, 7, 3, 14] ?_
  | ((with_reducible refine dname_t hYs hwl O2.is (hw.mono hle2) ?_); rw [hnm])
  | ((with_reducible refine dname_t hsm hwl (O.is.mono hle2) (hw.mono hle2) ?_); rw [← hnmd])
  | ((with_reducible refine hblocks_t hxs (OX.is.mono hle2) fun G3 v3 hle3 hs3 hsl3 => ?_); (have hsE := hs3; try simp only [zzs] at hsE; repeat (obtain ⟨hsx, hsE⟩ := hsE)))
  | ((with_reducible refine Stable_t hxs hlen (OX.is.mono (hle2.trans hle3)) hsl3 fun G4 hle4 hs4 => ?_); rw [hst]; (have hsE := hs4; try simp only [zzs] at hsE; repeat (obtain ⟨hsx, hsE⟩ := hsE)))
  | ((with_reducible refine knows_t fun G7 hle7 => ?_))
 all_goals
  unfold UpdR
  refine Upd.leave (H' := H) (by intro fsum; simp only [zzq]; omega) ?_
  exact hR G7 (hle2.trans (hle3.trans (hle4.trans hle7)))
end Go.Proofs.Ytdeableflgakdaa
namespace Go.Proofs.Ytdeableflgakdaa
open Go Go.V Go.Proofs
theorem equals_t (xs ys : List (List UInt8)) (hlen : xs.length ≤ 2000000) {G : PHeap} {H : Heap} {R : Value → PHeap → Heap → Prop} {v w : Value} (hv : Sl G str v xs) (hw : Sl G str w ys) (hR : R (.bool (decide (xs = ys))) G H) : FnT Try.prog 42 [v, w] G H R := by
 obtain ⟨a, cap, rfl, hrow, hcap⟩ := hv
 obtain ⟨a', cap', rfl, hrow', hcap'⟩ := hw
 refine FnT.body tok [0, 1, 4, 5, 10, 12, 13, 14, 24] Try.func42 rfl (by kernel_rfl) (by kernel_rfl) (by show _ ≤ 26; simp) fun hsep => ?_
 rw [Try.results42]
 have hsE := hsep
 try simp only [zzs] at hsE
 repeat (obtain ⟨hsx, hsE⟩ := hsE)
 repeat' first
  | (with_reducible first | refine Nx.go ?_ | refine Bk.go (fun _ => ?_) fun _ => ?_)
  | (with_reducible refine NewB.mk2 fun nb hnb hnb1 hnb2 => ?_; try simp only [zzn] at hnb2)
  | simp -dsimp -implicitDefEqProofs (disch := first | assumption | (simp only [zzm]; done) | omega | (try with_reducible refine Row.adr (by assumption) ?_); simp only [zzl, Nat.reduceAdd]; first | done | omega) only [go_sem, ↓reduceIte, seval]
 ·rename_i hne
  have hxy : xs.length = ys.length := by omega
  refine Tri.loopU tok [0, 1, 4, 5, 10, 12, 13, 14, 24] (by kernel_rfl) [0, 1, 4, 12, 13] (fun n G' l H' => ∃ i : Nat, i + n = xs.length ∧ (∀ j (h : j < xs.length), j < i → xs[j] = ys[j]) ∧ G' = G ∧ H' = H ∧ l = [(0, .slice a xs.length cap), (1, .slice a' ys.length cap'), (4, .bool false), (12, .int .i64 xs.length), (13, .int .i64 i)]) (xs.length) (Upd.now ?_) ?_
  ·exact ⟨0, by omega, fun j _ h => by omega, rfl, rfl, rfl⟩
  ·rintro n G' l H' hle hs ⟨i, hi, hno, rfl, rfl, rfl⟩
   by_cases hil : i < xs.length
   ·have hil' : i < ys.length := by omega
    repeat' first
     | (with_reducible first | refine Nx.go ?_ | refine Bk.go (fun _ => ?_) fun _ => ?_)
     | (with_reducible refine NewB.mk2 fun nb hnb hnb1 hnb2 => ?_; try simp only [zzn] at hnb2)
     | with_reducible refine Tri.drawH tok mixed [0, 1, 4, 5, 10, 12, 13, 14, 24] 6 [3, 7] (.op 0 .plain (.op 1 .plain (.op 2 .plain (.op 3 .held (.op 4 .plain (.op 5 .plain (.op 6 .plain (.op 7 .held (.op 8 .plain .nil))))))))) (by kernel_rfl) [0, 1] ?_
     | simp -dsimp -implicitDefEqProofs (disch := first | assumption | (simp only [zzm]; done) | omega | (try with_reducible refine Row.adr (by assumption) ?_); simp only [zzl, Nat.reduceAdd]; first | done | omega) only [go_sem, ↓reduceIte, seval, Row.obj hrow, Row.obj hrow', List.getElem_map]
    ·rename_i he
     exact Upd.now ⟨n - 1, by omega, i + 1, by omega, fun j h hj => by
      by_cases e : j = i
      ·subst e; exact he
      ·exact hno j h (by omega), rfl, rfl, rfl⟩
    ·rename_i he
     rw [decide_eq_false (fun e => he (by subst e; rfl))] at hR
     all_goals refine Upd.finL ?_ hR ?_
     any_goals (intro fsum; first | exact Nat.le_refl _ | (simp only [zzq]; omega))
     rfl
   ·obtain rfl : i = xs.length := by omega
    rw [decide_eq_true (List.ext_getElem hxy fun j h1 h2 => hno j h1 h1)] at hR
    repeat' first
     | (with_reducible first | refine Nx.go ?_ | refine Bk.go (fun _ => ?_) fun _ => ?_)
     | (with_reducible refine NewB.mk2 fun nb hnb hnb1 hnb2 => ?_; try simp only [zzn] at hnb2)
     | simp -dsimp -implicitDefEqProofs (disch := first | assumption | (simp only [zzm]; done) | omega | (try with_reducible refine Row.adr (by assumption) ?_); simp only [zzl, Nat.reduceAdd]; first | done | omega) only [go_sem, ↓reduceIte, seval]
    all_goals refine Upd.finL ?_ hR ?_
    any_goals (intro fsum; first | exact Nat.le_refl _ | (simp only [zzq]; omega))
    rfl
 ·rename_i hne
  rw [decide_eq_false (fun e => hne (by subst e; rfl))] at hR
  all_goals refine Upd.finL ?_ hR ?_
  any_goals (intro fsum; first | exact Nat.le_refl _ | (simp only [zzq]; omega))
  rfl
theorem eqrows_t {xs ys : List (List Int)} (hlen : xs.length ≤ 2000000) (hxl : ∀ x ∈ xs, x.length ≤ 2000000) {ax ay : Option Addr} {cx cy : Nat} {rs rs' : List Value} {G : PHeap} {H : Heap} {R : Value → PHeap → Heap → Prop}
  (hrx : Row G ax rs) (hrl : rs.length = xs.length) (hrs : ∀ i (h : i < xs.length) (h2 : i < rs.length), ∃ b c, rs[i] = .slice b xs[i].length c ∧ Row G b (xs[i].map (Value.int .i64)) ∧ xs[i].length ≤ c)
  (hry : Row G ay rs') (hrl' : rs'.length = ys.length) (hrs' : ∀ i (h : i < ys.length) (h2 : i < rs'.length), ∃ b c, rs'[i] = .slice b ys[i].length c ∧ Row G b (ys[i].map (Value.int .i64)) ∧ ys[i].length ≤ c)
  (hR : R (.bool (decide (xs = ys))) G H) : FnT Try.prog 43 [.slice ax xs.length cx, .slice ay ys.length cy, .func (.func 41) #[] #[]] G H R := by
 by_cases hxy : xs.length = ys.length
 ·refine FnT.body tok [0, 1, 2, 6, 7, 8, 9, 14, 15, 16, 17, 18, 30] Try.func43 rfl (by kernel_rfl) (by kernel_rfl) (by show _ ≤ 32; simp) fun hsep => ?_
  rw [Try.results43]
  have hsE := hsep
  try simp only [zzs] at hsE
  repeat (obtain ⟨hsx, hsE⟩ := hsE)
  repeat' first
   | (with_reducible first | refine Nx.go ?_ | refine Bk.go (fun _ => ?_) fun _ => ?_)
   | (with_reducible refine NewB.mk2 fun nb hnb hnb1 hnb2 => ?_; try simp only [zzn] at hnb2)
   | simp -dsimp -implicitDefEqProofs (disch := first | assumption | (simp only [zzm]; done) | omega | (try with_reducible refine Row.adr (by assumption) ?_); simp only [zzl, Nat.reduceAdd]; first | done | omega) only [go_sem, ↓reduceIte, seval]
  all_goals try (exfalso; omega)
  refine Tri.loopU tok [0, 1, 2, 6, 7, 8, 9, 14, 15, 16, 17, 18, 30] (by kernel_rfl) [0, 1, 2, 6, 15, 16, 17] (fun n G' l H' => ∃ i : Nat, i + n = xs.length ∧ (∀ j (h : j < xs.length), j < i → xs[j] = (ys[j]'(hxy ▸ h))) ∧ G' = G ∧ H' = H ∧ l = [(0, .slice ax xs.length cx), (1, .slice ay ys.length cy), (2, .func (.func 41) #[] #[]), (6, .bool false), (15, .slice ax xs.length cx), (16, .int .i64 xs.length), (17, .int .i64 i)]) (xs.length) (Upd.now ?_) ?_
  ·exact ⟨0, by omega, fun j _ h => by omega, rfl, rfl, rfl⟩
  ·rintro n G' l H' hle hs ⟨i, hi, hno, rfl, rfl, rfl⟩
   by_cases hil : i < xs.length
   ·have hil' : i < ys.length := by omega
    obtain ⟨b, c, e1, e2, e3⟩ := hrs i hil (by omega)
    obtain ⟨b', c', f1, f2, f3⟩ := hrs' i hil' (by omega)
    have had : Adr ax := hrx.adr (by omega)
    have had2 : Adr ay := hry.adr (by omega)
    have hs1 : Sl G' (Value.int .i64) (.slice b xs[i].length c) xs[i] := ⟨b, c, rfl, e2, e3⟩
    have hs2 : Sl G' (Value.int .i64) (.slice b' ys[i].length c') ys[i] := ⟨b', c', rfl, f2, f3⟩
    repeat' first
     | (with_reducible first | refine Nx.go ?_ | refine Bk.go (fun _ => ?_) fun _ => ?_)
     | (with_reducible refine NewB.mk2 fun nb hnb hnb1 hnb2 => ?_; try simp only [zzn] at hnb2)
     | simp -dsimp -implicitDefEqProofs (disch := first | assumption | (simp only [zzm]; done) | omega | (try with_reducible refine Row.adr (by assumption) ?_); simp only [zzl, Nat.reduceAdd]; first | done | omega) only [go_sem, ↓reduceIte, seval, Row.obj hrx, Row.obj hry, e1, f1]
     | with_reducible refine equal_t xs[i] ys[i] (hxl _ (List.getElem_mem hil)) hs1 hs2 ?_
    ·rename_i he
     exact Upd.now ⟨n - 1, by omega, i + 1, by omega, fun j h hj => by
      by_cases e : j = i
      ·subst e; exact he
      ·exact hno j h (by omega), rfl, rfl, rfl⟩
    ·rename_i he
     rw [decide_eq_false (fun e => he (by subst e; rfl))] at hR
     all_goals refine Upd.finL ?_ hR ?_
     any_goals (intro fsum; first | exact Nat.le_refl _ | (simp only [zzq]; omega))
     rfl
   ·obtain rfl : i = xs.length := by omega
    rw [decide_eq_true (List.ext_getElem hxy fun j h1 h2 => hno j h1 h1)] at hR
    repeat' first
     | (with_reducible first | refine Nx.go ?_ | refine Bk.go (fun _ => ?_) fun _ => ?_)
     | (with_reducible refine NewB.mk2 fun nb hnb hnb1 hnb2 => ?_; try simp only [zzn] at hnb2)
     | simp -dsimp -implicitDefEqProofs (disch := first | assumption | (simp only [zzm]; done) | omega | (try with_reducible refine Row.adr (by assumption) ?_); simp only [zzl, Nat.reduceAdd]; first | done | omega) only [go_sem, ↓reduceIte, seval]
    all_goals refine Upd.finL ?_ hR ?_
    any_goals (intro fsum; first | exact Nat.le_refl _ | (simp only [zzq]; omega))
    rfl
 ·rw [decide_eq_false fun h => hxy (congrArg List.length h)] at hR
  refine FnT.body tok [0, 1, 2, 6, 7, 8, 9, 14, 15, 16, 17, 18, 30] Try.func43 rfl (by kernel_rfl) (by kernel_rfl) (by show _ ≤ 32; simp) fun hsep => ?_
  rw [Try.results43]
  have hsE := hsep
  try simp only [zzs] at hsE
  repeat (obtain ⟨hsx, hsE⟩ := hsE)
  repeat' first
   | (with_reducible first | refine Nx.go ?_ | refine Bk.go (fun _ => ?_) fun _ => ?_)
   | (with_reducible refine NewB.mk2 fun nb hnb hnb1 hnb2 => ?_; try simp only [zzn] at hnb2)
   | simp -dsimp -implicitDefEqProofs (disch := first | assumption | (simp only [zzm]; done) | omega | (try with_reducible refine Row.adr (by assumption) ?_); simp only [zzl, Nat.reduceAdd]; first | done | omega) only [go_sem, ↓reduceIte, seval]
  all_goals try (exfalso; omega)
  all_goals refine Upd.finL ?_ hR ?_
  any_goals (intro fsum; first | exact Nat.le_refl _ | (simp only [zzq]; omega))
  rfl
theorem dsame_t {d e : DfaT} (hsm : SmallD d) {G : PHeap} {H : Heap} {R : Value → PHeap → Heap → Prop} {v w : Value} (hv : IsD G d v) (hw : IsD G e w) (hR : R (.bool (boolOf (d = e))) G H) : FnT Try.prog 19 [v, w] G H R := by
 obtain ⟨C, an, al, ay, cn, cl, cs, rs, rfl, O⟩ := hv.opened
 obtain ⟨C', an', al', ay', cn', cl', cs', rs', rfl, O'⟩ := hw.opened
 obtain ⟨hm1, hm2, hm3, hm4, hm5⟩ := id hsm
 have hCl := O.len
 have hCw := O.w
 have hCn := O.n
 have hCx := O.l
 have hCs := O.s
 have hCo := O.of
 have hDl := O'.len
 have hDw := O'.w
 have hDn := O'.n
 have hDx := O'.l
 have hDs := O'.s
 have hDo := O'.of
 have heq : eqT T 9 22 (agg8 d.of) (agg8 e.of) = some (decide (d.of = e.of)) := eqT_ints (d := 7) (t := 22) (e := 5) (n := 256) (k := .u8) rfl rfl rfl O.ofl O'.ofl
 by_cases h1 : d.of = e.of
 ·by_cases h2 : d.width = e.width
  ·by_cases h3 : d.label = e.label
   ·by_cases h4 : d.names = e.names
    ·by_cases h5 : d.next = e.next
     ·rw [boolOf_yes (DfaT.ext2 h1 h2 h5 h3 h4)] at hR
      refine FnT.body tok [0, 1, 2, 3, 4] Try.func19 rfl (by kernel_rfl) (by kernel_rfl) (by show _ ≤ 38; simp) fun hsep => ?_
      rw [Try.results19]
      have hsE := hsep
      try simp only [zzs] at hsE
      repeat (obtain ⟨hsx, hsE⟩ := hsE)
      repeat' first
       | (with_reducible first | refine Nx.go ?_ | refine Bk.go (fun _ => ?_) fun _ => ?_)
       | (with_reducible refine NewB.mk2 fun nb hnb hnb1 hnb2 => ?_; try simp only [zzn] at hnb2)
       | simp -dsimp -implicitDefEqProofs (disch := first | assumption | (simp only [zzm]; done) | omega | (try with_reducible refine Row.adr (by assumption) ?_); simp only [zzl, Nat.reduceAdd]; first | done | omega) only [go_sem, ↓reduceIte, seval, -List.reduceReplicate, List.toList_toArray, hCl, hCw, hCn, hCx, hCs, hCo, hDl, hDw, hDn, hDx, hDs, hDo, heq, decide_eq_true h1, decide_eq_true h2, decide_eq_true h3, decide_eq_true h4, decide_eq_true h5]
       | with_reducible refine equal_t _ _ hm3 O.label O'.label ?_
       | with_reducible refine equals_t _ _ hm4 O.names O'.names ?_
       | with_reducible refine eqrows_t hm1 hm2 O.rn O.rnl O.rs O'.rn O'.rnl O'.rs ?_
      all_goals refine Upd.finL ?_ hR ?_
      any_goals (intro fsum; first | exact Nat.le_refl _ | (simp only [zzq]; omega))
      all_goals rfl
     ·rw [boolOf_no fun h => h5 (congrArg DfaT.next h)] at hR
      refine FnT.body tok [0, 1, 2, 3, 4] Try.func19 rfl (by kernel_rfl) (by kernel_rfl) (by show _ ≤ 38; simp) fun hsep => ?_
      rw [Try.results19]
      have hsE := hsep
      try simp only [zzs] at hsE
      repeat (obtain ⟨hsx, hsE⟩ := hsE)
      repeat' first
       | (with_reducible first | refine Nx.go ?_ | refine Bk.go (fun _ => ?_) fun _ => ?_)
       | (with_reducible refine NewB.mk2 fun nb hnb hnb1 hnb2 => ?_; try simp only [zzn] at hnb2)
       | simp -dsimp -implicitDefEqProofs (disch := first | assumption | (simp only [zzm]; done) | omega | (try with_reducible refine Row.adr (by assumption) ?_); simp only [zzl, Nat.reduceAdd]; first | done | omega) only [go_sem, ↓reduceIte, seval, -List.reduceReplicate, List.toList_toArray, hCl, hCw, hCn, hCx, hCs, hCo, hDl, hDw, hDn, hDx, hDs, hDo, heq, decide_eq_true h1, decide_eq_true h2, decide_eq_true h3, decide_eq_true h4, decide_eq_false h5]
       | with_reducible refine equal_t _ _ hm3 O.label O'.label ?_
       | with_reducible refine equals_t _ _ hm4 O.names O'.names ?_
       | with_reducible refine eqrows_t hm1 hm2 O.rn O.rnl O.rs O'.rn O'.rnl O'.rs ?_
      all_goals refine Upd.finL ?_ hR ?_
      any_goals (intro fsum; first | exact Nat.le_refl _ | (simp only [zzq]; omega))
      all_goals rfl
    ·rw [boolOf_no fun h => h4 (congrArg DfaT.names h)] at hR
     refine FnT.body tok [0, 1, 2, 3, 4] Try.func19 rfl (by kernel_rfl) (by kernel_rfl) (by show _ ≤ 38; simp) fun hsep => ?_
     rw [Try.results19]
     have hsE := hsep
     try simp only [zzs] at hsE
     repeat (obtain ⟨hsx, hsE⟩ := hsE)
     repeat' first
      | (with_reducible first | refine Nx.go ?_ | refine Bk.go (fun _ => ?_) fun _ => ?_)
      | (with_reducible refine NewB.mk2 fun nb hnb hnb1 hnb2 => ?_; try simp only [zzn] at hnb2)
      | simp -dsimp -implicitDefEqProofs (disch := first | assumption | (simp only [zzm]; done) | omega | (try with_reducible refine Row.adr (by assumption) ?_); simp only [zzl, Nat.reduceAdd]; first | done | omega) only [go_sem, ↓reduceIte, seval, -List.reduceReplicate, List.toList_toArray, hCl, hCw, hCn, hCx, hCs, hCo, hDl, hDw, hDn, hDx, hDs, hDo, heq, decide_eq_true h1, decide_eq_true h2, decide_eq_true h3, decide_eq_false h4]
      | with_reducible refine equal_t _ _ hm3 O.label O'.label ?_
      | with_reducible refine equals_t _ _ hm4 O.names O'.names ?_
     all_goals refine Upd.finL ?_ hR ?_
     any_goals (intro fsum; first | exact Nat.le_refl _ | (simp only [zzq]; omega))
     all_goals rfl
   ·rw [boolOf_no fun h => h3 (congrArg DfaT.label h)] at hR
    refine FnT.body tok [0, 1, 2, 3, 4] Try.func19 rfl (by kernel_rfl) (by kernel_rfl) (by show _ ≤ 38; simp) fun hsep => ?_
    rw [Try.results19]
    have hsE := hsep
    try simp only [zzs] at hsE
    repeat (obtain ⟨hsx, hsE⟩ := hsE)
    repeat' first
     | (with_reducible first | refine Nx.go ?_ | refine Bk.go (fun _ => ?_) fun _ => ?_)
     | (with_reducible refine NewB.mk2 fun nb hnb hnb1 hnb2 => ?_; try simp only [zzn] at hnb2)
     | simp -dsimp -implicitDefEqProofs (disch := first | assumption | (simp only [zzm]; done) | omega | (try with_reducible refine Row.adr (by assumption) ?_); simp only [zzl, Nat.reduceAdd]; first | done | omega) only [go_sem, ↓reduceIte, seval, -List.reduceReplicate, List.toList_toArray, hCl, hCw, hCn, hCx, hCs, hCo, hDl, hDw, hDn, hDx, hDs, hDo, heq, decide_eq_true h1, decide_eq_true h2, decide_eq_false h3]
     | with_reducible refine equal_t _ _ hm3 O.label O'.label ?_
    all_goals refine Upd.finL ?_ hR ?_
    any_goals (intro fsum; first | exact Nat.le_refl _ | (simp only [zzq]; omega))
    all_goals rfl
  ·rw [boolOf_no fun h => h2 (congrArg DfaT.width h)] at hR
   refine FnT.body tok [0, 1, 2, 3, 4] Try.func19 rfl (by kernel_rfl) (by kernel_rfl) (by show _ ≤ 38; simp) fun hsep => ?_
   rw [Try.results19]
   have hsE := hsep
   try simp only [zzs] at hsE
   repeat (obtain ⟨hsx, hsE⟩ := hsE)
   repeat' first
    | (with_reducible first | refine Nx.go ?_ | refine Bk.go (fun _ => ?_) fun _ => ?_)
    | (with_reducible refine NewB.mk2 fun nb hnb hnb1 hnb2 => ?_; try simp only [zzn] at hnb2)
    | simp -dsimp -implicitDefEqProofs (disch := first | assumption | (simp only [zzm]; done) | omega | (try with_reducible refine Row.adr (by assumption) ?_); simp only [zzl, Nat.reduceAdd]; first | done | omega) only [go_sem, ↓reduceIte, seval, -List.reduceReplicate, List.toList_toArray, hCl, hCw, hCn, hCx, hCs, hCo, hDl, hDw, hDn, hDx, hDs, hDo, heq, decide_eq_true h1, decide_eq_false h2]
   all_goals refine Upd.finL ?_ hR ?_
   any_goals (intro fsum; first | exact Nat.le_refl _ | (simp only [zzq]; omega))
   all_goals rfl
 ·rw [boolOf_no fun h => h1 (congrArg DfaT.of h)] at hR
  refine FnT.body tok [0, 1, 2, 3, 4] Try.func19 rfl (by kernel_rfl) (by kernel_rfl) (by show _ ≤ 38; simp) fun hsep => ?_
  rw [Try.results19]
  have hsE := hsep
  try simp only [zzs] at hsE
  repeat (obtain ⟨hsx, hsE⟩ := hsE)
  repeat' first
   | (with_reducible first | refine Nx.go ?_ | refine Bk.go (fun _ => ?_) fun _ => ?_)
   | (with_reducible refine NewB.mk2 fun nb hnb hnb1 hnb2 => ?_; try simp only [zzn] at hnb2)
   | simp -dsimp -implicitDefEqProofs (disch := first | assumption | (simp only [zzm]; done) | omega | (try with_reducible refine Row.adr (by assumption) ?_); simp only [zzl, Nat.reduceAdd]; first | done | omega) only [go_sem, ↓reduceIte, seval, -List.reduceReplicate, List.toList_toArray, hCl, hCw, hCn, hCx, hCs, hCo, hDl, hDw, hDn, hDx, hDs, hDo, heq, decide_eq_false h1]
  all_goals refine Upd.finL ?_ hR ?_
  any_goals (intro fsum; first | exact Nat.le_refl _ | (simp only [zzq]; omega))
  all_goals rfl
end Go.Proofs.Ytdeableflgakdaa
namespace Go.Proofs.Ytdeableflgakdaa
open Go Go.V Go.Proofs
set_option maxRecDepth 4000 in
theorem hopSmall_t {d : DfaT} (hsm : SmallD d) {w ts : List UInt8} (hwl : w.length ≤ 2000000) (htl : ts.length ≤ 2000000) {G : PHeap} {H : Heap} {R : Value → PHeap → Heap → Prop} {v vw vt : Value} (hv : IsD G d v) (hw : Sl G byteV vw w) (ht : Sl G byteV vt ts)
  (hR : ∀ G', PLe G G' → R (.bool true) G' H) : FnT Try.prog 5 [v, vw, vt] G H R := by
 obtain ⟨C, an, al, ay, cn, cl, cs, rs, rfl, O⟩ := hv.opened
 obtain ⟨atw, ct, rfl, hrt, hct⟩ := ht
 have hCl := O.len
 have hCa := O.all
 by_cases hb : right24 d 200 = true ∧ ts.length ≤ 60
 ·obtain ⟨hb, hts⟩ := hb
  have hok : RightP d := by
   unfold right24 at hb
   rw [Bool.and_eq_true] at hb
   exact Classical.byContradiction fun h => by rw [boolOf_no h] at hb; exact Bool.false_ne_true hb.1
  have hn : d.label.length ≤ 200 := by
   unfold right24 at hb
   rw [Bool.and_eq_true] at hb
   have := of_decide_eq_true hb.2
   omega
  obtain ⟨o1, o2, o3, o4, o5, o6⟩ := small_own hok
  have hst := smallZ hsm hok O.ofl
  refine FnT.bodyS tok [0, 1, 2, 3, 6, 7, 8, 9, 10, 11, 12, 13, 14, 15, 16, 17, 18, 19, 20, 21, 29, 75, 81, 89, 105, 111, 125, 160] (.seq .run (.seq .run (.seq .run (.seq .run (.seq .run (.seq .run (.seq .run (.seq .run (.seq .run (.seq .cut .cut)))))))))) Try.func5 rfl (by kernel_rfl) (by kernel_rfl) (by show _ ≤ 221; simp) fun hsep => ?_
  rw [Try.results5]
  have hsE := hsep
  try simp only [zzs] at hsE
  repeat (obtain ⟨hsx, hsE⟩ := hsE)
  repeat' first
   | (with_reducible first | refine Nx.go ?_ | refine Bk.go (fun _ => ?_) fun _ => ?_)
   | ((with_reducible first | refine NewB.mk2 fun nb hnb hnb1 hnb2 => ?_ | refine NewRow.mk2 fun nb nsp ncap hnb hncap hnb1 hnb2 => ?_); try simp only [zzn] at hnb2)
   | simp -dsimp -implicitDefEqProofs (disch := first | assumption | (simp only [zzm]; done) | omega | (try with_reducible refine Row.adr (by assumption) ?_); simp only [zzl, Nat.reduceAdd]; first | done | omega) only [go_sem, ↓reduceIte, seval, -List.reduceReplicate, List.toList_toArray, hCl, hCa]
  obtain ⟨b3, e_b3⟩ : ∃ x, x = nb := ⟨_, rfl⟩
  subst e_b3
  refine right24_t hsm O.is fun G1 hle1 hs1 => ?_
  rw [hb]
  have hsE := hs1
  try simp only [zzs] at hsE
  repeat (obtain ⟨hsx, hsE⟩ := hsE)
  have O1 := O.mono hle1
  repeat' first
   | (with_reducible first | refine Nx.go ?_ | refine Bk.go (fun _ => ?_) fun _ => ?_)
   | ((with_reducible first | refine NewB.mk2 fun nb hnb hnb1 hnb2 => ?_ | refine NewRow.mk2 fun nb nsp ncap hnb hncap hnb1 hnb2 => ?_); try simp only [zzn] at hnb2)
   | simp -dsimp -implicitDefEqProofs (disch := first | assumption | (simp only [zzm]; done) | omega | (try with_reducible refine Row.adr (by assumption) ?_); simp only [zzl, Nat.reduceAdd]; first | done | omega) only [go_sem, ↓reduceIte, seval, -List.reduceReplicate, List.toList_toArray, hCl, hCa]
  all_goals try (exfalso; omega)
  refine small_t hsm O1.is fun G2 v2 hle2 hs2 hI2 => ?_
  obtain ⟨S, hS⟩ : ∃ S, S = (smallR d).1 := ⟨_, rfl⟩
  have hst2 : ∀ w, tellD S w = tellD d w := fun w => by rw [hS]; exact small_tell hok O.ofl w
  have hSn : S.names = d.names := by rw [hS, smallR_ok hok]; rfl
  rw [o2]
  rw [← hS] at hI2 o1 o3 o4 o6 hst
  obtain ⟨C2, an2, al2, ay2, cn2, cl2, cs2, rs2, rfl, O2⟩ := hI2.opened
  have hC2l := O2.len
  have hone2 := isD_one O2.is
  have hput2 := isD_put hC2l
  have htk2 : List.take 260 C2 = C2 := List.take_of_length_le (by omega)
  have hsE := hs2
  try simp only [zzs] at hsE
  repeat (obtain ⟨hsx, hsE⟩ := hsE)
  repeat' first
   | (with_reducible first | refine Nx.go ?_ | refine Bk.go (fun _ => ?_) fun _ => ?_)
   | ((with_reducible first | refine NewB.mk2 fun nb hnb hnb1 hnb2 => ?_ | refine NewRow.mk2 fun nb nsp ncap hnb hncap hnb1 hnb2 => ?_); try simp only [zzn] at hnb2)
   | simp -dsimp -implicitDefEqProofs (disch := first | assumption | (simp only [zzm]; done) | omega | (try with_reducible refine Row.adr (by assumption) ?_); simp only [zzl, Nat.reduceAdd]; first | done | omega) only [go_sem, ↓reduceIte, seval, -List.reduceReplicate, List.toList_toArray, hCl, hCa, hC2l, hone2, hput2, htk2, zeroC_len]
  all_goals try (exfalso; omega)
  obtain ⟨b7, e_b7⟩ : ∃ x, x = nb := ⟨_, rfl⟩
  subst e_b7
  refine small_t hst O2.is fun G3 v3 hle3 hs3 hI3 => ?_
  rw [o3] at hI3 ⊢
  have hI3 : IsD G3 S v3 := hI3
  obtain ⟨C3, an3, al3, ay3, cn3, cl3, cs3, rs3, rfl, O3⟩ := hI3.opened
  have hC3l := O3.len
  have hone3 := isD_one O3.is
  have hput3 := isD_put hC3l
  have htk3 : List.take 260 C3 = C3 := List.take_of_length_le (by omega)
  have hCt : List.take 260 C = C := List.take_of_length_le (by omega)
  have hC2x := O2.l
  have hnm : nameD S (tellB S w) = nameD d (tellB d w) := by
   have h1 : tellB S w = tellD S w := by unfold tellB; rw [if_pos (boolOf_yes o1)]
   have h2 : tellB d w = tellD d w := by unfold tellB; rw [if_pos (boolOf_yes hok)]
   rw [h1, h2, hst2]
   unfold nameD
   rw [hSn]
  obtain ⟨nm, hnmd⟩ : ∃ nm, nm = nameD d (tellB d w) := ⟨_, rfl⟩
  rw [← hnmd] at hnm
  have hbe : (nm == nm) = true := by simp
  have hbd : decide (nm = nm) = true := decide_eq_true rfl
  have hrt2 := boolOf_yes o1
  have hss : boolOf (S = S) = true := boolOf_yes rfl
  have hrd : reachD d = reachL d := by unfold reachD; rw [if_pos (boolOf_yes hok)]
  have hw1 := hw.mono (hle1.trans (hle2.trans hle3))
  have OO := O1.mono (hle2.trans hle3)
  have OS := O2.mono hle3
  have hsE := hs3
  try simp only [zzs] at hsE
  repeat (obtain ⟨hsx, hsE⟩ := hsE)
  repeat' first
   | (with_reducible first | refine Nx.go ?_ | refine Bk.go (fun _ => ?_) fun _ => ?_)
   | ((with_reducible first | refine NewB.mk2 fun nb hnb hnb1 hnb2 => ?_ | refine NewRow.mk2 fun nb nsp ncap hnb hncap hnb1 hnb2 => ?_); try simp only [zzn] at hnb2)
   | simp -dsimp -implicitDefEqProofs (disch := first | assumption | (simp only [zzm]; done) | omega | (try with_reducible refine Row.adr (by assumption) ?_); simp only [zzl, Nat.reduceAdd]; first | done | omega) only [go_sem, ↓reduceIte, seval, -List.reduceReplicate, List.toList_toArray, hCl, hCa, hCt, hC2l, htk2, hC2x, hC3l, hone3, hput3, htk3, zeroC_len, hbe, hbd]
   | with_reducible refine Tri.drawH tok mixed [0, 1, 2, 3, 6, 7, 8, 9, 10, 11, 12, 13, 14, 15, 16, 17, 18, 19, 20, 21, 29, 75, 81, 89, 105, 111, 125, 160] 5 [7, 12, 15, 21, 22, 28, 30] (.op 0 .plain (.op 1 .plain (.op 2 .plain (.op 3 .plain (.op 4 .plain (.op 5 .plain (.op 6 .plain (.op 7 .held (.op 8 .keeps (.op 9 .plain (.op 10 .plain (.op 11 .plain (.op 12 .held (.op 13 .plain (.op 15 .held (.op 16 .plain (.op 14 .keeps (.op 17 .keeps (.op 18 .plain (.op 19 .plain (.op 20 .plain (.op 21 .held (.op 22 .held (.op 23 .keeps (.op 24 .plain (.op 25 .plain (.op 26 .plain (.op 27 .plain (.op 28 .held (.op 29 .plain (.op 30 .held (.op 31 .keeps (.op 32 .plain (.op 33 .plain (.op 34 .plain .nil))))))))))))))))))))))))))))))))))) (by kernel_rfl) [7, 3, 9] ?_
   | ((with_reducible refine right_t hst OS.is ?_); rw [hrt2])
   | ((with_reducible refine dname_t hst hwl OS.is hw1 ?_); rw [hnm])
   | ((with_reducible refine dname_t hsm hwl OO.is hw1 ?_); rw [← hnmd])
   | ((with_reducible refine dsame_t hst OS.is O3.is ?_); rw [hss])
   | ((with_reducible refine reach_t hsm OO.is fun G4 v4 hle4 hs4 hsl4 => ?_); rw [hrd] at hsl4; obtain ⟨a4, c4, rfl, hr4, hc4⟩ := hsl4; (have hsE := hs4; try simp only [zzs] at hsE; repeat (obtain ⟨hsx, hsE⟩ := hsE)))
  all_goals try (exfalso; omega)
  obtain ⟨b9, e_b9⟩ : ∃ x, x = nb := ⟨_, rfl⟩
  subst e_b9
  refine blocks_t hst (OS.is.mono hle4) fun G5 v5 hle5 hs5 hsl5 => ?_
  rw [o4] at hsl5
  obtain ⟨a5, c5, rfl, hr5, hc5⟩ := hsl5
  have hnl := rngI_len S.label.length
  rw [hnl] at hc5 ⊢
  obtain ⟨B, hB⟩ : ∃ B, B = S.label.length := ⟨_, rfl⟩
  rw [← hB] at hr5 hc5 ⊢
  have hB6 : B ≤ 65536 := by rw [hB]; exact o1.2.1
  have hsE := hs5
  try simp only [zzs] at hsE
  repeat (obtain ⟨hsx, hsE⟩ := hsE)
  repeat' first
   | (with_reducible first | refine Nx.go ?_ | refine Bk.go (fun _ => ?_) fun _ => ?_)
   | ((with_reducible first | refine NewB.mk2 fun nb hnb hnb1 hnb2 => ?_ | refine NewRow.mk2 fun nb nsp ncap hnb hncap hnb1 hnb2 => ?_); try simp only [zzn] at hnb2)
   | simp -dsimp -implicitDefEqProofs (disch := first | assumption | (simp only [zzm]; done) | omega | (try with_reducible refine Row.adr (by assumption) ?_); simp only [zzl, Nat.reduceAdd]; first | done | omega) only [go_sem, ↓reduceIte, seval, -List.reduceReplicate]
  refine Tri.loopU tok [0, 1, 2, 3, 6, 7, 8, 9, 10, 11, 12, 13, 14, 15, 16, 17, 18, 19, 20, 21, 29, 75, 81, 89, 105, 111, 125, 160] (by kernel_rfl) [1, 2, 3, 7, 11, 12] (fun q G' fr H' => ∃ i : Nat, i + q = B ∧ PLe G5 G' ∧ H' = (b9, .cells C3 [] 27) :: (b7, .cells C2 [] 27) :: (b3, .cells C [] 27) :: H ∧ fr = [(1, vw), (2, .slice atw ts.length ct), (3, .pointer (some ⟨b3, 0, none⟩)), (7, .pointer (some ⟨b7, 0, none⟩)), (11, .slice a5 B c5), (12, .int .i64 (i : Nat))]) (B) ?_ ?_
  ·exact Upd.now ⟨0, by omega, PLe.refl _, rfl, rfl⟩
  ·rintro q G6 fr H6 hle6 hs6 ⟨i, hiq, hle56, rfl, rfl⟩
   have hr6 := hr5.mono hle56
   have hsE := hs6
   try simp only [zzs] at hsE
   repeat (obtain ⟨hsx, hsE⟩ := hsE)
   by_cases hi : i < B
   ·have hgi : (rngI B)[i]'(by rw [rngI_len]; exact hi) = (i : Int) := rngI_get hi
    have hlr : ((rngI B).map (Value.int .i64)).length = B := by rw [List.length_map, rngI_len]
    have hlr2 : (rngI B).length = B := rngI_len B
    have had : Adr a5 := hr6.adr (by rw [List.length_map, rngI_len]; omega)
    repeat' first
     | (with_reducible first | refine Nx.go ?_ | refine Bk.go (fun _ => ?_) fun _ => ?_)
     | ((with_reducible first | refine NewB.mk2 fun nb hnb hnb1 hnb2 => ?_ | refine NewRow.mk2 fun nb nsp ncap hnb hncap hnb1 hnb2 => ?_); try simp only [zzn] at hnb2)
     | simp -dsimp -implicitDefEqProofs (disch := first | assumption | (simp only [zzm]; done) | omega | (try with_reducible refine Row.adr (by assumption) ?_); simp only [zzl, Nat.reduceAdd]; first | done | omega) only [go_sem, ↓reduceIte, seval, -List.reduceReplicate, Row.obj hr6, List.getElem_map, List.length_map, rngI_len, hgi]
    all_goals try (exfalso; omega)
    exact Upd.now ⟨q - 1, by omega, i + 1, by omega, hle56, rfl, rfl⟩
   ·obtain rfl : i = B := by omega
    have hCw := O.w
    have hCx := O.l
    have hCs := O.s
    have hCo := O.of
    have hofl : (u8L d.of).length = 256 := by rw [List.length_map, O.ofl]
    have hb1 := build_of O.ofl
    have hb2 := build_w O.ofl
    have hl1 : (u8L d.of ++ [Value.int .i64 0, Value.slice none 0 0, Value.slice none 0 0, Value.slice none 0 0]).length = 260 := by rw [List.length_append, hofl]; rfl
    have hl2 : ∀ v : Value, (cellsD d (.slice none 0 0) (.slice none 0 0) v).length = 260 := fun v => cellsD_len O.ofl _ _ _
    have hb3 := build_s O.ofl (.slice none 0 0) (.slice none 0 0) (.slice none 0 0)
    have hputz : ∀ v : Value, splice zeroC 0 (cellsD d (.slice none 0 0) (.slice none 0 0) v) = cellsD d (.slice none 0 0) (.slice none 0 0) v := fun v => by
     unfold splice
     rw [List.take_zero, List.nil_append, List.drop_of_length_le (by rw [zeroC_len, hl2]; omega), List.append_nil]
    have hone := cellsD_one (d := d) (vn := .slice none 0 0) (vl := .slice none 0 0) (vs := .slice ay d.names.length cs) rfl rfl rfl
    have hz : List.replicate 256 (Value.int .u8 0) ++ [Value.int .i64 0, Value.slice none 0 0, Value.slice none 0 0, Value.slice none 0 0] = zeroC := rfl
    have hr1 : ∀ v : Value, List.replicate 1 v = [v] := fun _ => rfl
    repeat' first
     | (with_reducible first | refine Nx.go ?_ | refine Bk.go (fun _ => ?_) fun _ => ?_)
     | ((with_reducible first | refine NewB.mk2 fun nb hnb hnb1 hnb2 => ?_ | refine NewRow.mk2 fun nb nsp ncap hnb hncap hnb1 hnb2 => ?_); try simp only [zzn] at hnb2)
     | simp -dsimp -implicitDefEqProofs (disch := first | assumption | (simp only [zzm]; done) | omega | (try with_reducible refine Row.adr (by assumption) ?_); simp only [zzl, Nat.reduceAdd]; first | done | omega) only [go_sem, ↓reduceIte, seval, -List.reduceReplicate, List.toList_toArray, hCl, hCa, hCx, hCw, hCo, hCs, hofl, hb1, hb2, hb3, hl1, hl2, hputz, hone, hz, hr1, zeroC_len]
    obtain ⟨b14, e14⟩ : ∃ x, x = nb := ⟨_, rfl⟩
    subst e14
    have k6 := hle2.trans (hle3.trans (hle4.trans (hle5.trans hle56)))
    have O6 := O1.mono k6
    have hrt6 : Row _ atw (ts.map byteV) := hrt.mono (hle1.trans k6)
    refine Tri.live [1, 2, 3, 7, 13, 14] ?_
    refine Tri.upd (Upd.go (H' := (b3, .cells C [] 27) :: (b14, .cells (cellsD d (.slice none 0 0) (.slice none 0 0) (.slice ay d.names.length cs)) [] 27) :: ((b7, .cells C2 [] 27) :: H)) (by intro fsum; simp only [zzq]; omega) (Upd.now ?_))
    refine Tri.isPiece [1, 1, 1, 1, 1, 1, 1, 1, 1, 0] Try.f5 (by kernel_rfl) ?_
    refine Tri.onlyN (zloop_t hsm hok hts hn O6 hrt6 O6.names) fun G7 l7 H7 hle7 hs7 hM => ?_
    obtain ⟨vn, vl, hle67, hIX, hfr, rfl⟩ := hM
    simp only [go_sem]
    refine Tri.live [1, 2, 3, 7, 13, 14] ?_
    rw [hfr]
    refine Tri.isPiece [1, 1, 1, 1, 1, 1, 1, 1, 1, 1] Try.f5 (by kernel_rfl) ?_
    have hI7 : IsD G7 (smallR d).1 (.agg C2.toArray) := by rw [← hS]; exact OS.is.mono (hle4.trans (hle5.trans (hle56.trans hle67)))
    exact zend_t hsm hok hts hn hwl (O6.mono hle67) hI7 hIX (hw1.mono (hle4.trans (hle5.trans (hle56.trans hle67)))) fun G' hle => hR G' (hle1.trans (k6.trans (hle67.trans hle)))
 ·have hno : right24 d 200 = true → 60 < ts.length := fun h => by
   rcases Nat.lt_or_ge 60 ts.length with g | g
   ·exact g
   ·exact absurd ⟨h, g⟩ hb
  refine FnT.body tok [0, 1, 2, 3, 6, 7, 8, 9, 10, 11, 12, 13, 14, 15, 16, 17, 18, 19, 20, 21, 29, 75, 81, 89, 105, 111, 125, 160] Try.func5 rfl (by kernel_rfl) (by kernel_rfl) (by show _ ≤ 221; simp) fun hsep => ?_
  rw [Try.results5]
  have hsE := hsep
  try simp only [zzs] at hsE
  repeat (obtain ⟨hsx, hsE⟩ := hsE)
  repeat' first
   | (with_reducible first | refine Nx.go ?_ | refine Bk.go (fun _ => ?_) fun _ => ?_)
   | ((with_reducible first | refine NewB.mk2 fun nb hnb hnb1 hnb2 => ?_ | refine NewRow.mk2 fun nb nsp ncap hnb hncap hnb1 hnb2 => ?_); try simp only [zzn] at hnb2)
   | simp -dsimp -implicitDefEqProofs (disch := first | assumption | (simp only [zzm]; done) | omega | (try with_reducible refine Row.adr (by assumption) ?_); simp only [zzl, Nat.reduceAdd]; first | done | omega) only [go_sem, ↓reduceIte, seval, -List.reduceReplicate, List.toList_toArray, hCl, hCa]
  refine right24_t hsm O.is fun G1 hle1 hs1 => ?_
  have hsE := hs1
  try simp only [zzs] at hsE
  repeat (obtain ⟨hsx, hsE⟩ := hsE)
  cases hb2 : right24 d 200
  all_goals have hno := hno
  all_goals rw [hb2] at hno
  all_goals try have hno := hno rfl
  all_goals
   repeat' first
    | (with_reducible first | refine Nx.go ?_ | refine Bk.go (fun _ => ?_) fun _ => ?_)
    | ((with_reducible first | refine NewB.mk2 fun nb hnb hnb1 hnb2 => ?_ | refine NewRow.mk2 fun nb nsp ncap hnb hncap hnb1 hnb2 => ?_); try simp only [zzn] at hnb2)
    | simp -dsimp -implicitDefEqProofs (disch := first | assumption | (simp only [zzm]; done) | omega | (try with_reducible refine Row.adr (by assumption) ?_); simp only [zzl, Nat.reduceAdd]; first | done | omega) only [go_sem, ↓reduceIte, seval, -List.reduceReplicate, List.toList_toArray, hCl, hCa]
    | ((with_reducible refine knows_t fun G7 hle7 => ?_))
  all_goals first | (exfalso; omega) | skip
  all_goals
   unfold UpdR
   refine Upd.leave (H' := H) (by intro fsum; simp only [zzq]; omega) ?_
   exact hR G7 (hle1.trans hle7)
end Go.Proofs.Ytdeableflgakdaa
namespace Go.Proofs.Ytdeableflgakdaa.lawHopcroftSmall
open Go Go.V Go.Proofs Go.ChangeShapes Go.WideShapes Go.RowKit
theorem own : ownKnob Try.prog.godebug = none := by kernel_rfl
mutual
theorem bulk {H : Type} : ∀ d : DataW H, bulkV d ≤ Rows.uptoBulk d
 | .lit l => by cases l <;> simp [bulkV, Rows.uptoBulk]
 | .nil => by simp [bulkV, Rows.uptoBulk]
 | .ptr d => by have := bulk d; simp only [bulkV, Rows.uptoBulk]; omega
 | .slice elems spare => by have := bulks elems; have := bulks spare; simp only [bulkV, Rows.uptoBulk]; omega
 | .agg parts => by have := bulks parts; simp only [bulkV, Rows.uptoBulk]; omega
 | .iface _ d => by have := bulk d; simp only [bulkV, Rows.uptoBulk]; omega
 | .map entries => by simp [bulkV]
 | .held _ => by simp [bulkV, Rows.uptoBulk]
theorem bulks {H : Type} : ∀ l : List (DataW H), bulkVs l ≤ Rows.uptoBulkAll l
 | [] => by simp [bulkVs]
 | d :: l => by have := bulk d; have := bulks l; simp only [bulkVs, Rows.uptoBulkAll]; omega
end
set_option maxRecDepth 100000 in
theorem contract (H : Type) (enc : TypeId × Value → H) (W : World) (base : Nat) (args : Array Value) (ds gs : List (DataW H)) (before : List MemPlace)
  (hval : ∀ (j : Nat) t v, Try.f5.params[j]? = some t → args[j]? = some v → Value.okWide Try.prog W .any base t v)
  (hW : DataW.Whole enc Try.prog Try.f5.params.toList Rows.hopcroftSmallSpec.vars false W args.toList ds gs before) (hk : Rows.uptoSmall H (ds ++ gs) = true) :
  Calls Try.prog 5 args W fun e W' => ∃ v, e = .returned v ∧ Rows.hopcroftSmallSpec.post enc Try.prog Try.f5 false true false false W args v W' := by
 refine door (tb := 4) seatok ⟨_, _, Try.func5, rfl, by kernel_rfl⟩ rfl (by kernel_rfl) Try.underlying4 (fun t ht => ?_) (fun ds hd => ?_) hW ?_
 ·have := List.all_eq_true.1 (show (Try.f5.params.toList.all fun t => decide (t < Try.prog.types.size)) = true by kernel_rfl) t ht
  simpa using this
 ·rw [Try.params5] at hd
  rcases ds with _ | ⟨e0, _ | ⟨e1, _ | ⟨e2, _ | ⟨e9, ds⟩⟩⟩⟩ <;> first | rfl | (simp at hd)
 obtain ⟨p, q, hA, hV, rfl, hfz, hnd⟩ := hW
 rw [Try.params5] at hA hval
 obtain ⟨v0, vs0, d0, ds0, p0, q0, hargs0, rfl, rfl, h0, r_0⟩ := trodAll_cons hA
 obtain ⟨v1, vs1, d1, ds1, p1, q1, hargs1, rfl, rfl, h1, r_1⟩ := trodAll_cons r_0
 obtain ⟨v2, vs2, d2, ds2, p2, q2, hargs2, rfl, rfl, h2, r_2⟩ := trodAll_cons r_1
 obtain ⟨rfl, rfl, rfl⟩ := trodAll_nil r_2
 obtain rfl : args = #[v0, v1, v2] := by cases args; simp_all
 obtain ⟨rfl, rfl⟩ := trodVars_none hV
 have hb : bulkVs [d0, d1, d2] ≤ 1048576 := Nat.le_trans (bulks _) (of_decide_eq_true hk)
 simp only [bulkVs] at hb
 obtain ⟨a0, s0, w0⟩ := rd_dfa (hval 0 27 v0 rfl rfl) h0
 obtain ⟨a1, s1, w1⟩ := rd_bytes tok (t := 38) rfl (e := 5) rfl (by kernel_rfl) (hval 1 38 v1 rfl rfl) h1
 obtain ⟨a2, s2, w2⟩ := rd_bytes tok (t := 38) rfl (e := 5) rfl (by kernel_rfl) (hval 2 38 v2 rfl rfl) h2
 exact hopSmall_t (w0 (by omega)) (by omega) (by omega) s0 s1 s2 fun _ _ => rfl
set_option maxRecDepth 100000 in
theorem lifted (os : Os) (started : os.Started) (H : Type) (enc : TypeId × Value → H) (F : Stop.Interp) :
  ReturnsInHanded {} Try.checked os 5 .any ((Rows.OpenSpec.upto Rows.hopcroftSmallSpec).pre6 enc Try.prog Try.f5 Rows.hopcroftSmallUptoRow.domain false) (((Rows.OpenSpec.upto Rows.hopcroftSmallSpec).at F).post enc Try.prog Try.f5 false true false false) := by
 refine returnsInHanded_of_cond (C := Try.checked) (s := Rows.OpenSpec.upto Rows.hopcroftSmallSpec) (k := Rows.uptoSmall) rfl own started (by kernel_rfl) Try.func5
  (OpenSpec.witness (enc := enc) (C := Try.checked) (s := Rows.OpenSpec.upto Rows.hopcroftSmallSpec) (k := Rows.uptoSmall) rfl false ⟨#[], #[.agg (List.replicate 256 (Value.int .u8 0) ++ [Value.int .i64 0, Value.slice none 0 0, Value.slice none 0 0, Value.slice none 0 0]).toArray, .slice none 0 0, .slice none 0 0], []⟩ 8 (by kernel_rfl) (by kernel_rfl) (by kernel_rfl)
   (x := ([.agg [.agg (List.replicate 256 (.lit (.int .u8 0))), .lit (.int .i64 0), .nil, .nil, .nil], .nil, .nil], [], [])) (by kernel_rfl) rfl (by kernel_rfl)) ?_
 intro W base args ds gs before hval hW _ hk _
 exact contract H enc W base args ds gs before hval hW hk
theorem over : Rows.hopcroftSmallUptoRow.holds Try.pinned (Rows.OpenSpec.upto Rows.hopcroftSmallSpec) :=
 OpenClaim.holds_of_cond 5 Try.f5 rfl rfl rfl rfl rfl rfl rfl ⟨rfl, rfl, rfl, rfl, rfl⟩ rfl rfl rfl rfl rfl (by kernel_rfl) Try.func5 (by kernel_rfl)
  (of_decide_eq_true (by kernel_rfl)) (by unfold Func.isWrapper; first | (rw [if_pos (by decide +kernel)]; kernel_rfl) | (rw [if_neg (by decide +kernel)]; exact ⟨rfl, rfl⟩))
  (fun os started H enc _ F => lifted os started H enc F)
theorem proved : Rows.HopcroftSmallUptoSaid :=
 over
end Go.Proofs.Ytdeableflgakdaa.lawHopcroftSmall
