/- Law 35: a machine's bytes, changed or cut, are no machine's: plain law. -/
import Derived.Test.YtomdbjfdbkejoaaYk
set_option linter.unusedSimpArgs false
set_option linter.unusedVariables false
namespace Go.Proofs.Ytomdbjfdbkejoaa
open Go Go.V Go.Proofs

theorem mul_inj {x y : Nat} (hx : x < 4294967296) (hy : y < 4294967296) (h : x * 16777619 % 4294967296 = y * 16777619 % 4294967296) : x = y := by
  have e : ∀ z : Nat, z < 4294967296 → (z * 16777619 % 4294967296) * 899433627 % 4294967296 = z := fun z hz => by
    rw [Nat.mod_mul_mod, Nat.mul_assoc, show 16777619 * 899433627 = 1 + 4294967296 * 3513497 by decide, Nat.mul_add, Nat.mul_one, Nat.mul_comm 4294967296, ← Nat.mul_assoc, Nat.add_mul_mod_self_right]
    exact Nat.mod_eq_of_lt hz
  rw [← e x hx, ← e y hy, h]
theorem xor_lt {h : Nat} (hh : h < 4294967296) (c : UInt8) : h ^^^ c.toNat < 4294967296 := by
  have := c.toNat_lt
  exact Nat.xor_lt_two_pow (n := 32) hh (by omega)
theorem xor_injR {a b c : Nat} (h : a ^^^ c = b ^^^ c) : a = b := by
  have := congrArg (· ^^^ c) h
  simpa [Nat.xor_assoc] using this
theorem xor_injL {a b c : Nat} (h : c ^^^ a = c ^^^ b) : a = b := by
  rw [Nat.xor_comm c a, Nat.xor_comm c b] at h
  exact xor_injR h
theorem stepS_injH {h k : Nat} (hh : h < 4294967296) (hk : k < 4294967296) {c : UInt8} (e : stepS h c = stepS k c) : h = k :=
  xor_injR (mul_inj (xor_lt hh c) (xor_lt hk c) e)
theorem stepS_injC {h : Nat} (hh : h < 4294967296) {c d : UInt8} (e : stepS h c = stepS h d) : c = d :=
  UInt8.toNat_inj.1 (xor_injL (mul_inj (xor_lt hh c) (xor_lt hh d) e))
theorem fold_inj : ∀ (l : List UInt8) {h k : Nat}, h < 4294967296 → k < 4294967296 → l.foldl stepS h = l.foldl stepS k → h = k
  | [], _, _, _, _, e => e
  | c :: l, h, k, hh, hk, e => stepS_injH hh hk (fold_inj l (stepS_lt h c) (stepS_lt k c) e)
theorem sumL_set {l : List UInt8} {i : Nat} (hi : i < l.length) {y : UInt8} (e : sumL (l.set i y) = sumL l) : y = l[i] := by
  have h1 : l = l.take i ++ (l[i] :: l.drop (i + 1)) := by rw [List.getElem_cons_drop, List.take_append_drop]
  have h2 : l.set i y = l.take i ++ (y :: l.drop (i + 1)) := List.set_eq_take_append_cons_drop .. |>.trans (if_pos hi)
  have hlt := sumL_lt (l.take i)
  have e1 : sumL (l.set i y) = (l.drop (i + 1)).foldl stepS (stepS (sumL (l.take i)) y) := by
    rw [h2]; unfold sumL; rw [List.foldl_append, List.foldl_cons]
  have e2 : sumL l = (l.drop (i + 1)).foldl stepS (stepS (sumL (l.take i)) l[i]) := by
    conv => lhs; rw [h1]
    unfold sumL; rw [List.foldl_append, List.foldl_cons]
  rw [e1, e2] at e
  exact stepS_injC hlt (fold_inj _ (stepS_lt _ _) (stepS_lt _ _) e)
theorem changed {d : DfaT} (hd : Fit d) {i : Nat} (hi : i < (layL d).length) {y : UInt8} (hy : y ≠ (layL d)[i]) : (readR ((layL d).set i y)).2 ≠ 0 := by
  rcases readR_cases ((layL d).set i y) with ⟨e, he, h1, h2⟩ | h | h
  · exfalso
    obtain ⟨p1, p2, p3, p4⟩ := bodyL_pos d
    obtain ⟨q1, q2, q3, q4⟩ := bodyL_pos e
    rw [← h1, List.length_set] at q3 q4
    by_cases hin : i < (layL d).length - 4
    · rw [List.drop_set_of_lt hin, p4] at q4
      have hs := congrArg beV q4
      rw [beV_four (sumL_lt _), beV_four (sumL_lt _), ← q3, ← p3] at hs
      rw [List.take_set] at hs
      have hit : i < ((layL d).take ((layL d).length - 4)).length := by rw [List.length_take]; omega
      have := sumL_set hit hs.symm
      rw [List.getElem_take] at this
      exact hy this
    · rw [List.take_set_of_le (by omega), p3] at q3
      have e1 : layL e = layL d := by unfold layL; rw [← q3]
      rw [← h1] at e1
      have := congrArg (fun l : List UInt8 => l[i]?) e1
      simp only [List.getElem?_set_self hi, List.getElem?_eq_getElem hi, Option.some.injEq] at this
      exact hy this
  · rw [h]; decide
  · rw [h]; decide
theorem cut_off {d : DfaT} (hd : Fit d) {i : Nat} (hi : i < (layL d).length) : (readR ((layL d).take i)).2 ≠ 0 ∧ (readR ((layL d).take i)).1 = zeroD := by
  rcases readR_cases ((layL d).take i) with ⟨e, he, h1, h2⟩ | h | h
  · exfalso
    obtain ⟨p1, p2, p3, p4⟩ := bodyL_pos d
    obtain ⟨q1, q2, q3, q4⟩ := bodyL_pos e
    have hle : (layL e).length = i := by rw [← h1, List.length_take]; omega
    have hbd : (bodyL d).length = (layL d).length - 4 := by rw [← p3, List.length_take]; omega
    have hbe : (bodyL e).length = i - 4 := by rw [← q3, List.length_take]; omega
    have e1 : bodyL e = (bodyL d).take (i - 4) := by
      rw [← q3, ← p3, hle, ← h1, List.take_take, List.take_take]
      congr 1; omega
    have e2 : bodyL d = bodyL e ++ (bodyL d).drop (i - 4) := by rw [e1, List.take_append_drop]
    obtain ⟨Y, hY⟩ : ∃ Y, Y = (bodyL d).drop (i - 4) := ⟨_, rfl⟩
    rw [← hY] at e2
    have hYl : Y.length = (bodyL d).length - (i - 4) := by rw [hY, List.length_drop]
    have e3 : (bodyL d).drop 4 = (bodyL e).drop 4 ++ Y := by rw [e2, List.drop_append_of_le_length (by omega)]
    have m1 := (mach_dec hd.1 hd.2.1 hd.2.2 []).2
    have m2 := (mach_dec he.1 he.2.1 he.2.2 Y).2
    rw [List.append_nil, e3, m2] at m1
    have := congrArg (fun x : Rdr => x.2.length) m1
    simp only [List.length_nil] at this
    omega
  · rw [h]; exact ⟨by decide, rfl⟩
  · rw [h]; exact ⟨by decide, rfl⟩
theorem fit_small {d : DfaT} (h : Fit d) : SmallD d := by
  obtain ⟨hk, hl, hb⟩ := h
  have hw := right_width hk hl
  have hn := right_names hk
  obtain ⟨hk1, hk2, hk3, hk4, hk5, hk6, hk7⟩ := hk
  refine ⟨by omega, fun r hr => ?_, by omega, by omega, fun s hs => by have := hn.2 s hs; omega⟩
  obtain ⟨i, hi, rfl⟩ := List.getElem_of_mem hr
  have := (hk7 i hi (by omega)).1
  omega
theorem zeroD_small : SmallD zeroD := by
  refine ⟨Nat.zero_le _, ?_, Nat.zero_le _, Nat.zero_le _, ?_⟩
  · intro r hr; cases hr
  · intro r hr; cases hr
theorem readR_small (b : List UInt8) : SmallD (readR b).1 := by
  rcases readR_cases b with ⟨e, he, h1, h2⟩ | h | h
  · rw [h2]; exact fit_small he
  · rw [h]; exact zeroD_small
  · rw [h]; exact zeroD_small
end Go.Proofs.Ytomdbjfdbkejoaa
