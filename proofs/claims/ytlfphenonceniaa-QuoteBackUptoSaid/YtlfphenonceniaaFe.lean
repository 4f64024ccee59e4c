/- The plain law: what is written is read, in one way. -/
import Derived.Test.YtlfphenonceniaaFd
set_option linter.unusedSimpArgs false
set_option linter.unusedVariables false
namespace Go.Proofs.Ytlfphenonceniaa
open Go Go.V Go.Proofs

theorem all_u8 (p : UInt8 → Bool) (h : (List.range 256).all (fun n => p (UInt8.ofNat n)) = true) (c : UInt8) : p c = true := by
  have := List.all_eq_true.1 h c.toNat (List.mem_range.2 c.toNat_lt)
  simpa using this

theorem oneF_back (c : UInt8) (h : plainF c.toNat = false) : okF (digU (c.toNat / 16)) (digU (c.toNat % 16)) = true ∧ hexF (digU (c.toNat / 16)) (digU (c.toNat % 16)) = c := by
  have := all_u8 (fun c => plainF c.toNat || (okF (digU (c.toNat / 16)) (digU (c.toNat % 16)) && hexF (digU (c.toNat / 16)) (digU (c.toNat % 16)) == c)) (by decide +kernel) c
  simpa [h] using this
theorem digU_value (c : UInt8) (h : 0 ≤ valueF c.toNat) : digU (valueF c.toNat).toNat = c := by
  have := all_u8 (fun c => decide (valueF c.toNat < 0) || digU (valueF c.toNat).toNat == c) (by decide +kernel) c
  simp only [Bool.or_eq_true, decide_eq_true_eq, beq_iff_eq] at this
  exact this.resolve_left (by omega)
theorem one_hex {h l : UInt8} (hok : okF h l = true) : oneF (hexF h l) = [92, 120, h, l] := by
  simp only [okF, Bool.and_eq_true, decide_eq_true_eq, Bool.not_eq_true'] at hok
  obtain ⟨⟨h1, h2⟩, h3⟩ := hok
  have e := hexF_int h1 h2
  have m1 := valueF_hi h.toNat
  have m2 := valueF_hi l.toNat
  unfold oneF
  rw [if_neg (by simp [h3])]
  rw [show (hexF h l).toNat / 16 = (valueF h.toNat).toNat by omega, show (hexF h l).toNat % 16 = (valueF l.toNat).toNat by omega, digU_value h h1, digU_value l h2]

theorem uF_flat (bs : List UInt8) : uF (bs.flatMap oneF) = some bs := by
  induction bs with
  | nil => rfl
  | cons c bs ih =>
    rw [List.flatMap_cons]
    cases hp : plainF c.toNat with
    | true =>
      rw [show oneF c = [c] by unfold oneF; rw [if_pos hp]]
      show uF (c :: bs.flatMap oneF) = _
      rw [uF_plain hp, ih]; rfl
    | false =>
      obtain ⟨h1, h2⟩ := oneF_back c hp
      rw [show oneF c = [92, 120, digU (c.toNat / 16), digU (c.toNat % 16)] by unfold oneF; rw [if_neg (by simp [hp])]]
      show uF (92 :: 120 :: digU (c.toNat / 16) :: digU (c.toNat % 16) :: bs.flatMap oneF) = _
      rw [uF_hex, if_pos h1, ih, h2]; rfl

/-- what a reading is made of -/
theorem uF_cases {c : UInt8} {s l : List UInt8} (h : uF (c :: s) = some l) :
    (plainF c.toNat = true ∧ ∃ l', uF s = some l' ∧ l = c :: l') ∨ (c = 92 ∧ ∃ a b r l', s = 120 :: a :: b :: r ∧ okF a b = true ∧ uF r = some l' ∧ l = hexF a b :: l') := by
  cases hp : plainF c.toNat with
  | true =>
    rw [uF_plain hp] at h
    cases hs : uF s with
    | none => rw [hs] at h; cases h
    | some l' => rw [hs] at h; exact .inl ⟨rfl, l', rfl, by simpa using h.symm⟩
  | false =>
    by_cases hx : ∃ a b r, c = 92 ∧ s = 120 :: a :: b :: r
    · obtain ⟨a, b, r, rfl, rfl⟩ := hx
      rw [uF_hex] at h
      split at h
      · rename_i hok
        cases hs : uF r with
        | none => rw [hs] at h; cases h
        | some l' => rw [hs] at h; exact .inr ⟨rfl, a, b, r, l', rfl, hok, hs, by simpa using h.symm⟩
      · cases h
    · rw [uF_bad hp s (fun a b r e => hx ⟨a, b, r, e.1, e.2⟩)] at h; cases h

theorem uF_read : ∀ (n : Nat) {s l : List UInt8}, s.length ≤ n → uF s = some l → l.flatMap oneF = s ∧ outF s = l
  | 0, [], l, _, h => by rw [uF] at h; cases h; exact ⟨rfl, by rw [outF]⟩
  | n + 1, [], l, _, h => by rw [uF] at h; cases h; exact ⟨rfl, by rw [outF]⟩
  | 0, c :: s, l, hn, h => by simp at hn
  | n + 1, c :: s, l, hn, h => by
    simp only [List.length_cons] at hn
    rcases uF_cases h with ⟨hp, l', h', rfl⟩ | ⟨rfl, a, b, r, l', rfl, hok, h', rfl⟩
    · obtain ⟨h1, h2⟩ := uF_read n (by omega) h'
      refine ⟨?_, ?_⟩
      · rw [List.flatMap_cons, h1]; unfold oneF; rw [if_pos hp]; rfl
      · rw [outF_one, h2]
        intro a b r e; subst e; exact absurd hp (by decide)
    · simp only [List.length_cons] at hn
      obtain ⟨h1, h2⟩ := uF_read n (by omega) h'
      have hv := hok
      simp only [okF, Bool.and_eq_true, decide_eq_true_eq] at hv
      refine ⟨?_, ?_⟩
      · rw [List.flatMap_cons, h1, one_hex hok]; rfl
      · rw [outF_hex r hv.1.1 hv.1.2, h2]

theorem unq_runq (s : List UInt8) : unq s = runq s := by
  unfold unq runq
  by_cases hs : s = [92, 101]
  · rw [if_pos hs, if_pos hs]
  · rw [if_neg hs, if_neg hs]
    cases hu : uF s with
    | none =>
      rw [if_pos]
      by_cases h0 : outF s = []
      · exact .inl h0
      · refine .inr fun e => ?_
        unfold quoteF at e
        rw [if_neg h0] at e
        have := uF_flat (outF s)
        rw [e, hu] at this; cases this
    | some l =>
      obtain ⟨h1, h2⟩ := uF_read s.length (Nat.le_refl _) hu
      rw [h2]
      by_cases hl : l = []
      · subst hl; rw [if_pos (.inl rfl)]; rfl
      · rw [if_neg]
        · show (l, decide (0 < l.length)) = (l, true)
          rw [decide_eq_true (List.length_pos_iff.2 hl)]
        · rintro (h | h)
          · exact hl h
          · exact h (by unfold quoteF; rw [if_neg hl, h1])

theorem unq_quote (a : List UInt8) : unq (quoteF a) = (a, true) := by
  unfold quoteF
  split
  · rename_i h; subst h; rfl
  · rename_i h
    have hu := uF_flat a
    rw [unq_some (fun e => by rw [e] at hu; exact absurd hu (by rw [show uF [92, 101] = none from rfl]; simp)) hu]
    rw [decide_eq_true (List.length_pos_iff.2 h)]

theorem quote_unq (s : List UInt8) (h : (unq s).2 = true) : quoteF (unq s).1 = s := by
  by_cases hs : s = [92, 101]
  · subst hs; rfl
  · cases hu : uF s with
    | none => rw [unq_none hs hu] at h; cases h
    | some l =>
      rw [unq_some hs hu] at h ⊢
      simp only [decide_eq_true_eq] at h
      unfold quoteF
      rw [if_neg (List.length_pos_iff.1 h)]
      exact (uF_read s.length (Nat.le_refl _) hu).1

theorem quote_app (a b : List UInt8) (ha : ¬ a = []) (hb : ¬ b = []) : quoteF (a ++ b) = quoteF a ++ quoteF b := by
  unfold quoteF
  rw [if_neg ha, if_neg hb, if_neg (by simp [ha])]; simp
end Go.Proofs.Ytlfphenonceniaa
