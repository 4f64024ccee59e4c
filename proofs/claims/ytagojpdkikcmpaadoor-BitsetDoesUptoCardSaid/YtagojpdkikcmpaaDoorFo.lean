/- Sets of bits: what is done, as both sides have it. -/
import Derived.Test.YtagojpdkikcmpaaDoorFn
set_option linter.unusedSimpArgs false
set_option linter.unusedVariables false
namespace Go.Proofs.YtagojpdkikcmpaaDoor
open Go Go.V Go.Proofs

/-- a call that leaves memory as it was, where memory stands in another order -/
theorem FnT.rd {P : Program} {f : FuncId} {args : List Value} {G : PHeap} {H : Heap} (H' : Heap) {v : Value} {R : Value → PHeap → Heap → Prop} (h : ∀ R' : Value → PHeap → Heap → Prop, R' v G H' → FnT P f args G H' R')
    (hs1 : ∀ f : Nat × Res → Nat, (H'.map f).sum ≤ (H.map f).sum) (hs2 : ∀ f : Nat × Res → Nat, (H.map f).sum ≤ (H'.map f).sum) (hR : R v G H) : FnT P f args G H R :=
  FnT.upd (FnT.leave (h _ (Upd.go (H' := H) hs2 (Upd.now hR))) hs1)
theorem TabB.zero {hb : Heap} {pt : Value} {n : Nat} {ws : Nat → Nat} (ht : TabB hb pt n ws) : ∀ i, n ≤ i → mem ws i = false := ht.2.2.1
theorem els_all {n : Nat} {f g : Nat → Bool} (h : els n f = els n g) : ∀ x, x < n → f x = g x := fun x hx => by
  have : ((x : Nat) : Int) ∈ els n f ↔ ((x : Nat) : Int) ∈ els n g := by rw [h]
  rw [els_mem, els_mem, Int.toNat_natCast] at this
  rw [Bool.eq_iff_iff]
  constructor
  · intro hf; exact (this.1 ⟨by omega, by omega, hf⟩).2.2
  · intro hf; exact (this.2 ⟨by omega, by omega, hf⟩).2.2
theorem put2_t (i : Int) {hb : Heap} {pt : Value} {n : Nat} {ws : Nat → Nat} (ht : TabB hb pt n ws) {G : PHeap} {H : Heap} {R : Value → PHeap → Heap → Prop}
    (hR : ∀ hb' ws', TabB hb' pt n ws' → keys hb' = keys hb → els n (fun x => mem ws x || decide ((x : Int) = i)) = els n (mem ws') → R (.bool (decide (0 ≤ i ∧ i < n) && !mem ws i.toNat)) G (hb' ++ H)) : FnT Tryd.prog 7 [pt, .int .i64 i] G (hb ++ H) R := by
  refine put_t i ht (fun h => ?_) (fun hb' ws' h0 h1 h2 ht' hk hm => ?_)
  · have hh : (decide (0 ≤ i ∧ i < n) && !mem ws i.toNat) = false := by
      rcases h with h | h | h
      · rw [decide_eq_false (by omega)]; rfl
      · rw [decide_eq_false (by omega)]; rfl
      · rw [h]; simp
    have := hR hb ws ht rfl (els_congr fun x hx => by
      by_cases e : (x : Int) = i
      · have : mem ws x = true := by
          rcases h with h | h | h
          · omega
          · omega
          · rwa [show i.toNat = x by omega] at h
        rw [this]; rfl
      · rw [decide_eq_false e, Bool.or_false])
    rwa [hh] at this
  · have hh : (decide (0 ≤ i ∧ i < n) && !mem ws i.toNat) = true := by rw [decide_eq_true ⟨h0, h1⟩, h2]; rfl
    have := hR hb' ws' ht' hk (els_congr fun x hx => by
      rw [hm]
      congr 1
      exact decide_eq_decide.2 (by omega))
    rwa [hh] at this
theorem take2_t (i : Int) {hb : Heap} {pt : Value} {n : Nat} {ws : Nat → Nat} (ht : TabB hb pt n ws) {G : PHeap} {H : Heap} {R : Value → PHeap → Heap → Prop}
    (hR : ∀ hb' ws', TabB hb' pt n ws' → keys hb' = keys hb → els n (fun x => mem ws x && decide ((x : Int) ≠ i)) = els n (mem ws') → R (.bool (hasE n (mem ws) i)) G (hb' ++ H)) : FnT Tryd.prog 16 [pt, .int .i64 i] G (hb ++ H) R := by
  refine take_t i ht (fun h => ?_) (fun hb' ws' h ht' hk hm => ?_)
  · have h' : hasE n (mem ws) i = false := h
    have := hR hb ws ht rfl (els_congr fun x hx => by
      by_cases e : (x : Int) = i
      · unfold hasE at h'
        rw [decide_eq_true (by omega), Bool.true_and, show i.toNat = x by omega] at h'
        rw [h']; rfl
      · rw [decide_eq_true e, Bool.and_true])
    rwa [h'] at this
  · have h' : hasE n (mem ws) i = true := h
    have h2 := h'
    unfold hasE at h2
    simp only [Bool.and_eq_true, decide_eq_true_eq] at h2
    have := hR hb' ws' ht' hk (els_congr fun x hx => by
      rw [hm]
      congr 1
      exact decide_eq_decide.2 (by omega))
    rwa [h'] at this
theorem els_any (n : Nat) (f : Nat → Bool) (p : Int → Bool) : (els n f).any p = ((List.range n).filter f).any fun x => p (x : Nat) := by
  unfold els ints
  rw [List.any_map]; rfl
theorem or2_t {hb hc : Heap} {bs cs : Nat} {n m : Nat} {ws vs : Nat → Nat} (ht : TabB hb (.pointer (some ⟨bs, 0, none⟩)) n ws) (hu : TabB hc (.pointer (some ⟨cs, 0, none⟩)) m vs) {G : PHeap} {H : Heap} {R : Value → PHeap → Heap → Prop} (hg : HasTab G)
    (hR : ∀ hb' ws', TabB hb' (.pointer (some ⟨bs, 0, none⟩)) n ws' → keys hb' = keys hb → els n (fun x => mem ws x || decide ((x : Int) ∈ els m (mem vs))) = els n (mem ws') → R (.bool ((els m (mem vs)).any fun i => decide (0 ≤ i ∧ i < n) && !mem ws i.toNat)) G (hb' ++ (hc ++ H))) : FnT Tryd.prog 18 [.pointer (some ⟨bs, 0, none⟩), .pointer (some ⟨cs, 0, none⟩)] G (hb ++ (hc ++ H)) R := by
  refine or_t ht hu hg fun hb' ws' ht' hk hm => ?_
  have hz := hu.zero
  have := hR hb' ws' ht' hk (els_congr fun x hx => by
    rw [hm, decide_eq_true hx, Bool.and_true]
    congr 1
    rw [Bool.eq_iff_iff, decide_eq_true_eq, els_mem, Int.toNat_natCast]
    constructor
    · exact fun h => h.2.2
    · intro h
      refine ⟨by omega, ?_, h⟩
      rcases Nat.lt_or_ge x m with h1 | h1
      · omega
      · rw [hz x h1] at h; cases h)
  rw [els_any] at this
  unfold elems
  refine cast (congrArg (fun b => R (.bool b) G (hb' ++ (hc ++ H))) ?_) this
  congr 1
  funext x
  rw [Int.toNat_natCast]
  congr 1
  exact decide_eq_decide.2 (by omega)
theorem meets_eq {n m : Nat} {ws vs : Nat → Nat} (hz : ∀ i, n ≤ i → mem ws i = false) (hy : ∀ i, m ≤ i → mem vs i = false) : (elems n ws).any (mem vs) = (els m (mem vs)).any (hasE n (mem ws)) := by
  rw [Bool.eq_iff_iff, List.any_eq_true, List.any_eq_true]
  constructor
  · rintro ⟨x, hx, hv⟩
    unfold elems at hx
    rw [List.mem_filter, List.mem_range] at hx
    have hxm : x < m := by
      rcases Nat.lt_or_ge x m with h | h
      · exact h
      · rw [hy x h] at hv; cases hv
    refine ⟨(x : Nat), els_mem.2 ⟨by omega, by omega, by simpa using hv⟩, ?_⟩
    unfold hasE
    rw [decide_eq_true (by omega), Int.toNat_natCast, hx.2]; rfl
  · rintro ⟨i, hi, hh⟩
    obtain ⟨h0, h1, h2⟩ := els_mem.1 hi
    unfold hasE at hh
    simp only [Bool.and_eq_true, decide_eq_true_eq] at hh
    exact ⟨i.toNat, by unfold elems; rw [List.mem_filter, List.mem_range]; exact ⟨by omega, hh.2⟩, h2⟩
theorem key_els {n m : Nat} {hb hc : Heap} {pb pc : Value} {ws vs : Nat → Nat} (ht : TabB hb pb n ws) (hu : TabB hc pc m vs) : decide (keyB n ws = keyB m vs) = decide (els n (mem ws) = els m (mem vs)) := by
  have hz := ht.zero
  have hy := hu.zero
  refine decide_eq_decide.2 ?_
  rw [key_iff ht.2.1 hu.2.1 hz hy]
  constructor
  · intro h
    refine sorted_ext (els_sorted _ _) (els_sorted _ _) fun x => ?_
    rw [els_mem, els_mem, h]
    constructor
    · rintro ⟨h0, h1, h2⟩
      refine ⟨h0, ?_, h2⟩
      rcases Nat.lt_or_ge x.toNat m with h3 | h3
      · omega
      · rw [hy _ h3] at h2; cases h2
    · rintro ⟨h0, h1, h2⟩
      refine ⟨h0, ?_, h2⟩
      rcases Nat.lt_or_ge x.toNat n with h3 | h3
      · omega
      · rw [← h, hz _ h3] at h2; cases h2
  · intro h x
    have hx : ((x : Nat) : Int) ∈ els n (mem ws) ↔ ((x : Nat) : Int) ∈ els m (mem vs) := by rw [h]
    rw [els_mem, els_mem, Int.toNat_natCast] at hx
    rw [Bool.eq_iff_iff]
    constructor
    · intro hw
      rcases Nat.lt_or_ge x n with h3 | h3
      · exact (hx.1 ⟨by omega, by omega, hw⟩).2.2
      · rw [hz _ h3] at hw; cases hw
    · intro hw
      rcases Nat.lt_or_ge x m with h3 | h3
      · exact (hx.2 ⟨by omega, by omega, hw⟩).2.2
      · rw [hy _ h3] at hw; cases hw
end Go.Proofs.YtagojpdkikcmpaaDoor
