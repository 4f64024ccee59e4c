/- What machines with other names tell: plain law. -/
import Derived.Test.YtpagkndgjihbbaaVl
import Derived.Test.YtpagkndgjihbbaaVi
set_option linter.unusedSimpArgs false
set_option linter.unusedVariables false
namespace Go.Proofs.Ytpagkndgjihbbaa
open Go Go.V Go.Proofs

theorem zeroD_small : SmallD zeroD := by
  refine ⟨Nat.zero_le _, ?_, Nat.zero_le _, Nat.zero_le _, ?_⟩
  · intro r hr; cases hr
  · intro r hr; cases hr
theorem namesR_small {d : DfaT} (hsm : SmallD d) {l : List Tx} (h1 : l.length ≤ 2000000) (h2 : ∀ s ∈ l, s.length ≤ 2000000) : SmallD (namesR d l).1 := by
  unfold namesR
  split
  · split
    · split
      · exact withD_small hsm h1 h2 _
      · exact zeroD_small
    · exact zeroD_small
  · exact zeroD_small
theorem normR_small {d : DfaT} (hsm : SmallD d) : SmallD (normR d).1 := namesR_small hsm (usedR_small hsm).1 (usedR_small hsm).2
theorem onlyR_small {d : DfaT} (hsm : SmallD d) {name : Tx} (h1 : name.length ≤ 2000000) : SmallD (onlyR d name).1 := by
  unfold onlyR
  split
  · split
    · exact withD_small hsm (by show 1 ≤ _; omega) (fun s hs => by rw [List.mem_singleton] at hs; rw [hs]; exact h1) _
    · exact zeroD_small
  · exact zeroD_small
theorem plusD_small {d : DfaT} (hsm : SmallD d) (hok : RightP d) : SmallD (plusD d) := by
  obtain ⟨h1, h2, h3, h4, h5⟩ := hsm
  have hk2 := hok.2.1
  have hk3 := hok.2.2.1
  refine ⟨?_, fun r hr => ?_, ?_, h4, h5⟩
  · show ((d.next.headD []).map (· + 1) :: d.next.map (fun r => r.map (· + 1))).length ≤ _
    rw [List.length_cons, List.length_map]; omega
  · have hr : r ∈ (d.next.headD []).map (· + 1) :: d.next.map (fun r => r.map (· + 1)) := hr
    rcases List.mem_cons.1 hr with rfl | hr
    · rw [List.length_map]
      cases hd : d.next with
      | nil => exact Nat.zero_le _
      | cons a l => exact h2 a (by rw [hd]; exact List.mem_cons_self ..)
    · obtain ⟨r', hr', rfl⟩ := List.mem_map.1 hr
      rw [List.length_map]
      exact h2 r' hr'
  · show (0 :: d.label).length ≤ _
    rw [List.length_cons]; omega
theorem names_of {l : List Tx} (h1 : l.length ≤ 64) (h2 : l.Nodup) (h3 : ∀ s ∈ l, nameB s = true) : namesOk l := by
  refine ⟨h1, fun i hi => ⟨h3 _ (List.getElem_mem hi), fun hm => ?_⟩⟩
  rw [List.mem_take_iff_getElem] at hm
  obtain ⟨j, hj, e⟩ := hm
  have := (List.getElem_inj h2).1 e
  omega
theorem names_name {l : List Tx} (h : namesOk l) {s : Tx} (hs : s ∈ l) : nameB s = true := by
  obtain ⟨i, hi, rfl⟩ := List.getElem_of_mem hs
  exact (h.2 i hi).1
theorem mem_usedS' {d : DfaT} (hok : RightP d) {s : Tx} (h : s ∈ usedS d) : s ∈ d.names := mem_usedR (by rw [usedR_ok hok]; exact h)
theorem usedS_rising {d : DfaT} (hok : RightP d) : Rising (usedS d) := by
  rw [← used_eq hok]
  exact rUsedL_rising d _ (Nat.le_refl _)
theorem usedS_names {d : DfaT} (hok : RightP d) : namesOk (usedS d) := by
  have h6 := hok.2.2.2.2.2.1
  have := usedS_len d
  exact names_of (by have := h6.1; omega) (usedS_rising hok).nodup fun s hs => names_name h6 (mem_usedS' hok hs)
def other : Tx := [111, 116, 104, 101, 114]
theorem other_name : nameB other = true := nameB_iff.2 ⟨by decide, by decide, fun i hi => by
  match i, (show i < 5 from hi) with
  | 0, _ => exact (by show mayN (111 : UInt8).toNat true = true; decide)
  | 1, _ => exact (by show mayN (116 : UInt8).toNat false = true; decide)
  | 2, _ => exact (by show mayN (104 : UInt8).toNat false = true; decide)
  | 3, _ => exact (by show mayN (101 : UInt8).toNat false = true; decide)
  | 4, _ => exact (by show mayN (114 : UInt8).toNat false = true; decide)⟩
theorem union_names {d : DfaT} (hok : RightP d) (h : (usedS d).length < 64) : namesOk (unionS [usedS d, [other]].flatten) := by
  have h1 := unionS_len [usedS d, [other]].flatten
  have h2 : [usedS d, [other]].flatten.length = (usedS d).length + 1 := by simp
  refine names_of (by omega) (unionS_rising _).nodup fun s hs => ?_
  rw [mem_unionS] at hs
  simp only [List.flatten_cons, List.flatten_nil, List.append_nil, List.mem_append, List.mem_singleton] at hs
  rcases hs with hs | rfl
  · exact names_name (usedS_names hok) hs
  · exact other_name
theorem nameD_mem {d : DfaT} (hok : RightP d) {i : Nat} (hi : i < d.label.length) (h0 : 0 < d.label[i]) : nameD d d.label[i] ∈ d.names := by
  obtain ⟨hk1, hk2, hk3, hk4, hk5, hk6, hk7⟩ := hok
  obtain ⟨_, w2, w3, _⟩ := hk7 i (by omega) hi
  obtain ⟨n, hn⟩ : ∃ n : Nat, d.label[i] = (n : Int) + 1 := ⟨(d.label[i] - 1).toNat, by omega⟩
  have hnl2 : n < d.names.length := by omega
  rw [hn, nameD_at hnl2]
  exact List.getElem_mem hnl2
theorem nameD_zero (d : DfaT) : nameD d 0 = [] := by unfold nameD; rw [if_neg (by omega)]
/-! a machine with other names -/
theorem withD_right {d : DfaT} (hok : RightP d) {l : List Tx} (hl : namesOk l) {g : Tx → Int} (hg : ∀ s ∈ d.names, 0 ≤ g s ∧ g s ≤ l.length) : RightP (withD d l g) := by
  obtain ⟨hk1, hk2, hk3, hk4, hk5, hk6, hk7⟩ := id hok
  have hll : (withD d l g).label.length = d.label.length := labW_len d g
  refine ⟨by rw [hll]; exact hk1, by rw [hll]; exact hk2, by rw [hll]; exact hk3, hk4, hk5, hl, fun s h1 h2 => ?_⟩
  have h1 : s < d.next.length := h1
  have h2' : s < d.label.length := by rw [hll] at h2; exact h2
  obtain ⟨w1, w2, w3, w4⟩ := hk7 s h1 h2'
  have hlab : (withD d l g).label[s]'h2 = if 0 < d.label[s] then g (nameD d d.label[s]) else 0 := by
    show (labW d g)[s]'_ = _
    simp only [labW, List.getElem_map]
  refine ⟨w1, ?_, ?_, fun t ht => ?_⟩
  · rw [hlab]
    split
    · rename_i h0; exact (hg _ (nameD_mem hok h2' h0)).1
    · exact Int.le_refl 0
  · rw [hlab]
    show _ ≤ ((l.length : Nat) : Int)
    split
    · rename_i h0; exact (hg _ (nameD_mem hok h2' h0)).2
    · omega
  · have := w4 t ht
    rw [hll]; exact this
theorem withD_run (d : DfaT) (l : List Tx) (g : Tx → Int) (w : List UInt8) : runD (withD d l g) w = runD d w := rfl
theorem tellW_at {d : DfaT} (hok : RightP d) (hof : d.of.length = 256) (w : List UInt8) : ∃ i, ∃ h : i < d.label.length, tellD d w = d.label[i] ∧ runD d w = (i : Int) := by
  obtain ⟨h1, h2⟩ := runD_ok hok hof w
  obtain ⟨i, hi⟩ := Int.eq_ofNat_of_zero_le h1
  rw [hi] at h2
  refine ⟨i, by omega, ?_, hi⟩
  unfold tellD
  rw [hi, atL_get (by simpa using h2)]
  rfl
theorem withD_tell {d : DfaT} (hok : RightP d) (hof : d.of.length = 256) (l : List Tx) (g : Tx → Int) (w : List UInt8) : tellD (withD d l g) w = if 0 < tellD d w then g (nameD d (tellD d w)) else 0 := by
  obtain ⟨i, hi, e1, e2⟩ := tellW_at hok hof w
  rw [e1]
  unfold tellD
  rw [withD_run, e2]
  show atL (labW d g) i = _
  rw [atL_get (by rw [labW_len]; simpa using hi)]
  unfold labW
  rw [List.getElem_map]
  rfl
theorem tellB_ok {d : DfaT} (hok : RightP d) (w : List UInt8) : tellB d w = tellD d w := by unfold tellB; rw [if_pos (boolOf_yes hok)]
theorem tell_used {d : DfaT} (hok : RightP d) (hof : d.of.length = 256) {w : List UInt8} (h : 0 < tellD d w) : nameD d (tellD d w) ∈ usedS d ∧ nameD d (tellD d w) ∈ d.names := by
  obtain ⟨i, hi, e1, _⟩ := tellW_at hok hof w
  rw [e1] at h ⊢
  exact ⟨(mem_usedS hok).2 ⟨i, hi, h, rfl⟩, nameD_mem hok hi h⟩
theorem findF_range (l : List Tx) (s : Tx) : 0 ≤ findF l s + 1 ∧ findF l s + 1 ≤ l.length := by
  cases hp : place l s with
  | none => rw [findF_none hp]; omega
  | some n =>
    have := (place_some hp).1
    rw [findF_some hp]; omega
theorem withN_right {d : DfaT} (hok : RightP d) {l : List Tx} (hl : namesOk l) : RightP (withN d l) := withD_right hok hl fun s _ => findF_range l s
/-- with other names a machine tells the same -/
theorem withN_name {d : DfaT} (hok : RightP d) (hof : d.of.length = 256) {l : List Tx} (hl : namesOk l) (hu : ∀ s ∈ usedS d, s ∈ l) (w : List UInt8) : nameD (withN d l) (tellB (withN d l) w) = nameD d (tellB d w) := by
  rw [tellB_ok (withN_right hok hl), tellB_ok hok]
  unfold withN
  rw [withD_tell hok hof]
  by_cases h0 : 0 < tellD d w
  · rw [if_pos h0]
    obtain ⟨n, hn⟩ := place_mem (hu _ (tell_used hok hof h0).1)
    obtain ⟨h1, h2⟩ := place_some hn
    rw [findF_some hn]
    have h3 : n < (withD d l fun s => findF l s + 1).names.length := h1
    rw [nameD_at h3]
    rw [List.getElem?_eq_getElem h1, Option.some.injEq] at h2
    exact h2
  · rw [if_neg h0, nameD_zero]
    have := tellD_ok hok hof w
    rw [show tellD d w = 0 by omega, nameD_zero]
theorem norm_tells {d : DfaT} (hok : RightP d) : normR d = (withN d (usedS d), 0) := by
  unfold normR
  rw [usedR_ok hok, namesR_ok hok (usedS_names hok) fun s h => h]
/-- one name alone -/
theorem only_right {d : DfaT} (hok : RightP d) {name : Tx} (hn : nameB name = true) : RightP (onlyN1 d name) := by
  refine withD_right hok (names_of (by show 1 ≤ _; omega) (by simp) fun s hs => by rw [List.mem_singleton] at hs; rw [hs]; exact hn) fun s _ => ?_
  unfold onlyG
  split
  · exact ⟨by omega, by show (1 : Int) ≤ ((1 : Nat) : Int); omega⟩
  · exact ⟨by omega, by show (0 : Int) ≤ ((1 : Nat) : Int); omega⟩
theorem only_name {d : DfaT} (hok : RightP d) (hof : d.of.length = 256) {name : Tx} (hn : nameB name = true) (w : List UInt8) : nameD (onlyN1 d name) (tellB (onlyN1 d name) w) = name ↔ nameD d (tellB d w) = name := by
  have hne : name ≠ [] := fun e => by
    have := (nameB_iff.1 hn).1
    rw [e] at this; simp at this
  rw [tellB_ok (only_right hok hn), tellB_ok hok]
  unfold onlyN1
  rw [withD_tell hok hof]
  by_cases h0 : 0 < tellD d w
  · rw [if_pos h0]
    unfold onlyG
    by_cases e : nameD d (tellD d w) = name
    · rw [if_pos e]
      exact ⟨fun _ => e, fun _ => rfl⟩
    · rw [if_neg e, nameD_zero]
      exact ⟨fun h => absurd h.symm hne, fun h => absurd h e⟩
  · rw [if_neg h0, nameD_zero]
    have := tellD_ok hok hof w
    rw [show tellD d w = 0 by omega, nameD_zero]
/-! nothing of the empty word -/
theorem plusD_right {d : DfaT} (hok : RightP d) (hof : d.of.length = 256) (hb : d.label.length < 65536) : RightP (plusD d) := by
  obtain ⟨hk1, hk2, hk3, hk4, hk5, hk6, hk7⟩ := id hok
  have hLl : (plusD d).label.length = d.label.length + 1 := by
    show (0 :: d.label).length = _
    rw [List.length_cons]
  have hMl : (plusD d).next.length = d.label.length + 1 := by
    show ((d.next.headD []).map (· + 1) :: d.next.map (fun r => r.map (· + 1))).length = _
    rw [List.length_cons, List.length_map, hk3]
  refine ⟨by omega, by omega, by omega, hk4, hk5, hk6, fun s h1 h2 => ?_⟩
  have hg := plusD_next (d := d) (by omega) (i := s) (by omega)
  obtain ⟨w1, w2, w3, w4⟩ := hk7 (s - 1) (by omega) (by omega)
  refine ⟨?_, ?_, ?_, fun t ht => ?_⟩
  · rw [hg, List.length_map]; exact w1
  · cases s with
    | zero => exact Int.le_refl 0
    | succ s => exact w2
  · cases s with
    | zero => show (0 : Int) ≤ ((d.names.length : Nat) : Int); omega
    | succ s => exact w3
  · rw [hg] at ht
    obtain ⟨t', ht', rfl⟩ := List.mem_map.1 ht
    have := w4 t' ht'
    rw [hLl]
    constructor
    · show 0 ≤ t' + 1
      omega
    · show t' + 1 < _
      omega
theorem plus_to {d : DfaT} (hok : RightP d) (hof : d.of.length = 256) {s : Nat} (hs : s ≤ d.label.length) {c : Nat} (hc : c < 256) : toD (plusD d) (s : Nat) c = toD d ((s - 1 : Nat) : Int) c + 1 := by
  obtain ⟨hk1, hk2, hk3, hk4, hk5, hk6, hk7⟩ := id hok
  have hMl : (plusD d).next.length = d.label.length + 1 := by
    show ((d.next.headD []).map (· + 1) :: d.next.map (fun r => r.map (· + 1))).length = _
    rw [List.length_cons, List.length_map, hk3]
  have hg := plusD_next (d := d) (by omega) (i := s) (by omega)
  have hco : c < d.of.length := by omega
  have hox := of_bound hok (List.getElem_mem hco)
  obtain ⟨y, hy⟩ := Int.eq_ofNat_of_zero_le hox.1
  obtain ⟨w1, w2, w3, w4⟩ := hk7 (s - 1) (by omega) (by omega)
  have hyl : y < (d.next[s - 1]'(by omega)).length := by omega
  have hoc : d.of.getD c 0 = (y : Int) := by rw [List.getD_eq_getElem?_getD, List.getElem?_eq_getElem hco]; exact hy
  have hA : (plusD d).next.getD s [] = (d.next[s - 1]'(by omega)).map (· + 1) := by rw [List.getD_eq_getElem?_getD, List.getElem?_eq_getElem (by omega), Option.getD_some, hg]
  have hB : d.next.getD (s - 1) [] = d.next[s - 1]'(by omega) := by rw [List.getD_eq_getElem?_getD, List.getElem?_eq_getElem (by omega), Option.getD_some]
  unfold toD
  rw [Int.toNat_natCast, Int.toNat_natCast, hA, hB]
  show atL _ (d.of.getD c 0) = atL _ (d.of.getD c 0) + 1
  rw [hoc, atL_get (by rw [List.length_map]; simpa using hyl), atL_get (by simpa using hyl), List.getElem_map]
theorem plus_run {d : DfaT} (hok : RightP d) (hof : d.of.length = 256) (w : List UInt8) : runD (plusD d) w = if w = [] then 0 else runD d w + 1 := by
  have key : ∀ i, i ≤ w.length → runD (plusD d) (w.take i) = if i = 0 then 0 else runD d (w.take i) + 1 := by
    intro i
    induction i with
    | zero => intro _; rfl
    | succ i ih =>
      intro h
      have ih := ih (by omega)
      rw [runD_take (plusD d) w h, runD_take d w h, if_neg (by omega), ih]
      obtain ⟨h1, h2⟩ := runD_ok hok hof (w.take i)
      obtain ⟨t, ht⟩ := Int.eq_ofNat_of_zero_le h1
      by_cases h0 : i = 0
      · rw [if_pos h0]
        subst h0
        have := plus_to hok hof (s := 0) (by omega) (c := w[0].toNat) w[0].toNat_lt
        rw [List.take_zero]
        exact this
      · rw [if_neg h0, ht]
        have := plus_to hok hof (s := t + 1) (by omega) (c := w[i].toNat) w[i].toNat_lt
        exact this
  have := key w.length (Nat.le_refl _)
  rw [List.take_length] at this
  rw [this]
  by_cases h : w = []
  · subst h; rfl
  · rw [if_neg h, if_neg (fun e => h (List.eq_nil_of_length_eq_zero e))]
theorem plus_name {d : DfaT} (hok : RightP d) (hof : d.of.length = 256) (hb : d.label.length < 65536) (w : List UInt8) : nameD (plusD d) (tellB (plusD d) w) = if w = [] then [] else nameD d (tellB d w) := by
  rw [tellB_ok (plusD_right hok hof hb), tellB_ok hok]
  have : tellD (plusD d) w = if w = [] then 0 else tellD d w := by
    unfold tellD
    rw [plus_run hok hof]
    split
    · rfl
    · obtain ⟨h1, h2⟩ := runD_ok hok hof w
      obtain ⟨t, ht⟩ := Int.eq_ofNat_of_zero_le h1
      rw [ht] at h2 ⊢
      have hl : (plusD d).label.length = d.label.length + 1 := by
        show (0 :: d.label).length = _
        rw [List.length_cons]
      rw [atL_get (by omega), atL_get (by omega)]
      show (0 :: d.label)[((t : Int) + 1).toNat]'_ = _
      have e : ((t : Int) + 1).toNat = t + 1 := by omega
      simp only [e, List.getElem_cons_succ, Int.toNat_natCast]
  rw [this]
  split
  · exact nameD_zero _
  · rfl
theorem first_name {d : DfaT} (hok : RightP d) (h : d.label.headD 0 = 0) : nameD d (tellB d []) = [] := by
  rw [tellB_ok hok]
  have : tellD d [] = d.label.headD 0 := by
    show atL d.label 0 = _
    unfold atL
    cases d.label <;> rfl
  rw [this, h, nameD_zero]
end Go.Proofs.Ytpagkndgjihbbaa
