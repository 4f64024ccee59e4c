/- The machine of blocks: what it is. -/
import Derived.Test.YtomdbjfdbkejoaaSn
set_option linter.unusedSimpArgs false
set_option linter.unusedVariables false
namespace Go.Proofs.Ytomdbjfdbkejoaa
open Go Go.V Go.Proofs

/-- no machine -/
def zeroD : DfaT := ⟨List.replicate 256 0, 0, [], [], []⟩
abbrev zeroC : List Value := List.replicate 256 (Value.int .u8 0) ++ [Value.int .i64 0, Value.slice none 0 0, Value.slice none 0 0, Value.slice none 0 0]
theorem zeroC_len : zeroC.length = 260 := by rw [List.length_append, List.length_replicate]; rfl
theorem zeroC_one : zeroC.all oneV = true := by rw [List.all_append, List.all_replicate]; rfl
theorem zeroC_take : List.take 260 zeroC = zeroC := List.take_of_length_le (by rw [zeroC_len]; omega)
theorem zeroC_put : splice zeroC 0 zeroC = zeroC := by
  unfold splice
  rw [List.take_zero, List.nil_append, List.drop_of_length_le (by rw [zeroC_len]; omega), List.append_nil]
theorem zeroD_cells : cellsD zeroD (.slice none 0 0) (.slice none 0 0) (.slice none 0 0) = zeroC := by
  unfold cellsD zeroD u8L
  rw [List.map_replicate]
theorem zeroD_is (G : PHeap) : IsD G zeroD (.agg (List.toArray zeroC)) := by
  rw [← zeroD_cells]
  refine ⟨List.length_replicate .., fun x hx => ?_, _, _, _, rfl, ⟨none, 0, [], rfl, Row.nil _ _, rfl, Nat.le_refl _, fun i h => by cases h⟩, Sl.nil _ _, Sl.nil _ _⟩
  have : x = 0 := by
    unfold zeroD at hx
    exact List.eq_of_mem_replicate hx
  omega
/-- a state's row, by blocks -/
def rowB (d : DfaT) (m : List Int) (s : Nat) : List Int := (d.next.getD s []).map (atL (nums m))
/-- the machine of blocks -/
def ofD (d : DfaT) (m : List Int) : DfaT := ⟨d.of, d.width, (headsM m).map (fun s => rowB d m s.toNat), (headsM m).map (fun s => d.label.getD s.toNat 0), d.names⟩
noncomputable def ofR (d : DfaT) (m : List Int) : DfaT × Int :=
  haveI := Classical.propDecidable; if RightP d then if StableP d m then (ofD d m, 0) else (zeroD, 1) else (zeroD, 6)
theorem ofR_bad {d : DfaT} {m : List Int} (h : ¬ RightP d) : ofR d m = (zeroD, 6) := by unfold ofR; rw [if_neg h]
theorem ofR_not {d : DfaT} {m : List Int} (h : RightP d) (h2 : ¬ StableP d m) : ofR d m = (zeroD, 1) := by unfold ofR; rw [if_pos h, if_neg h2]
theorem ofR_ok {d : DfaT} {m : List Int} (h2 : StableP d m) : ofR d m = (ofD d m, 0) := by unfold ofR; rw [if_pos h2.1, if_pos h2]
theorem cellsD_putN {d : DfaT} (h : d.of.length = 256) (vn vl vs x : Value) : splice (cellsD d vn vl vs) 257 [x] = cellsD d x vl vs := by
  unfold splice cellsD
  have hl : (u8L d.of).length = 256 := by rw [List.length_map, h]
  rw [show 257 = (u8L d.of).length + 1 by omega, List.take_length_add_append, List.length_singleton, show (u8L d.of).length + 1 + 1 = (u8L d.of).length + 2 by omega, List.drop_length_add_append, List.append_assoc, List.append_assoc]
  rfl
theorem cellsD_putL {d : DfaT} (h : d.of.length = 256) (vn vl vs x : Value) : splice (cellsD d vn vl vs) 258 [x] = cellsD d vn x vs := by
  unfold splice cellsD
  have hl : (u8L d.of).length = 256 := by rw [List.length_map, h]
  rw [show 258 = (u8L d.of).length + 2 by omega, List.take_length_add_append, List.length_singleton, show (u8L d.of).length + 2 + 1 = (u8L d.of).length + 3 by omega, List.drop_length_add_append, List.append_assoc, List.append_assoc]
  rfl
end Go.Proofs.Ytomdbjfdbkejoaa
