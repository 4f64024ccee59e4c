/- Where a machine goes on from a state. -/
import Derived.Test.YtpagkndgjihbbaaSl
set_option linter.unusedSimpArgs false
set_option linter.unusedVariables false
namespace Go.Proofs.Ytpagkndgjihbbaa
open Go Go.V Go.Proofs

/-- where a machine goes on -/
def toD (d : DfaT) (s : Int) (c : Nat) : Int := atL (d.next.getD s.toNat []) (d.of.getD c 0)
theorem of_bound {d : DfaT} (hok : RightP d) {x : Int} (hx : x ∈ d.of) : 0 ≤ x ∧ x < d.width := by
  obtain ⟨hk1, hk2, hk3, hk4, hk5, hk6, hk7⟩ := hok
  rw [← hk4] at hx
  have := nums_bound hx
  omega
/-- what is known of a step -/
theorem to_facts {d : DfaT} (hok : RightP d) {C : List Value} {an al ay : Option Addr} {cn cl cs : Nat} {rs : List Value} {G : PHeap} (O : OpenD G d C an al ay cn cl cs rs) {t c : Nat} (ht : t < d.label.length) (hc : c < 256) :
    ∃ (y : Nat) (z : Int) (b : Option Addr) (cc : Nat) (htn : t < d.next.length) (htv : t < rs.length) (hyk : y < d.next[t].length), y < 256 ∧ C[c]? = some (.int .u8 y) ∧ rs[t] = .slice b d.next[t].length cc ∧ Row G b (d.next[t].map (Value.int .i64)) ∧ d.next[t].length ≤ cc ∧ d.next[t][y] = z ∧ toD d (t : Nat) c = z ∧ 0 ≤ z ∧ z < d.label.length ∧ Adr an ∧ Adr b := by
  obtain ⟨hk1, hk2, hk3, hk4, hk5, hk6, hk7⟩ := id hok
  have htn : t < d.next.length := by omega
  have htv : t < rs.length := by have := O.rnl; omega
  obtain ⟨b, cc, e1, e2, e3⟩ := O.rs t htn htv
  obtain ⟨hw0, _, _, hrng⟩ := hk7 t htn ht
  have hco : c < d.of.length := by rw [O.ofl]; exact hc
  have hox := of_bound hok (List.getElem_mem hco)
  have hob := O.ofb _ (List.getElem_mem hco)
  obtain ⟨y, hy⟩ := Int.eq_ofNat_of_zero_le hox.1
  have hyk : y < (d.next[t]).length := by omega
  have hCc : C[c]? = some (.int .u8 d.of[c]) := by
    have h1 : (C.take 256)[c]? = C[c]? := by rw [List.getElem?_take, if_pos hc]
    rw [← h1, O.of]
    unfold u8L
    rw [List.getElem?_map, List.getElem?_eq_getElem hco]; rfl
  rw [hy] at hCc
  have hval : toD d (t : Nat) c = (d.next[t])[y] := by
    unfold toD
    rw [Int.toNat_natCast, List.getD_eq_getElem?_getD, List.getElem?_eq_getElem htn, List.getD_eq_getElem?_getD, List.getElem?_eq_getElem hco]
    show atL d.next[t] d.of[c] = _
    rw [hy, atL_get (by simpa using hyk)]
    simp only [Int.toNat_natCast]
  have hz := hrng _ (List.getElem_mem hyk)
  exact ⟨y, d.next[t][y], b, cc, htn, htv, hyk, by omega, hCc, e1, e2, e3, rfl, hval, hz.1, hz.2, O.rn.adr (by omega), e2.adr (by rw [List.length_map]; omega)⟩
end Go.Proofs.Ytpagkndgjihbbaa
