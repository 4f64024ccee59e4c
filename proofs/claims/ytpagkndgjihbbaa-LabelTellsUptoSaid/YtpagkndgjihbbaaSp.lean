/- The machine of blocks: a round. -/
import Derived.Test.YtpagkndgjihbbaaSo
set_option linter.unusedSimpArgs false
set_option linter.unusedVariables false
namespace Go.Proofs.Ytpagkndgjihbbaa
open Go Go.V Go.Proofs

def partR (r : List Int) (k : Nat) : List Int := r.take k ++ List.replicate (r.length - k) 0
theorem partR_len (r : List Int) {k : Nat} (h : k ≤ r.length) : (partR r k).length = r.length := by
  unfold partR; rw [List.length_append, List.length_take, List.length_replicate]; omega
theorem partR_put {r : List Int} {k : Nat} (h : k < r.length) : splice ((partR r k).map (Value.int .i64)) k [.int .i64 r[k]] = (partR r (k + 1)).map (Value.int .i64) := by
  unfold splice partR
  have hn : (r.take k).length = k := by rw [List.length_take]; omega
  rw [List.take_succ_eq_append_getElem h]
  generalize r.take k = ps at hn
  rw [List.map_append, List.map_append, List.map_append, List.map_replicate, List.map_replicate, show r.length - k = (r.length - (k + 1)) + 1 by omega, List.replicate_succ]
  rw [List.take_append_of_le_length (by rw [List.length_map]; omega), List.take_of_length_le (by rw [List.length_map]; omega)]
  rw [List.drop_append, List.drop_of_length_le (by rw [List.length_map]; simp; omega)]
  simp [hn]
theorem partR_zero (r : List Int) : List.replicate r.length (Value.int .i64 0) = (partR r 0).map (Value.int .i64) := by
  unfold partR; rw [List.take_zero, List.nil_append, List.map_replicate]; rfl
theorem partR_all (r : List Int) : partR r r.length = r := by
  unfold partR; rw [List.take_length]; simp
theorem cellsD_one {d : DfaT} {vn vl vs : Value} (h1 : oneV vn = true) (h2 : oneV vl = true) (h3 : oneV vs = true) : (cellsD d vn vl vs).all oneV = true := by
  unfold cellsD u8L
  rw [List.all_append, List.all_map]
  simp only [List.all_cons, List.all_nil, h1, h2, h3, Bool.and_true, Bool.and_eq_true]
  exact ⟨List.all_eq_true.2 fun _ _ => rfl, rfl⟩
theorem build_of {d : DfaT} (h : d.of.length = 256) : splice zeroC 0 (u8L d.of) = u8L d.of ++ [Value.int .i64 0, Value.slice none 0 0, Value.slice none 0 0, Value.slice none 0 0] := by
  unfold splice
  rw [List.take_zero, List.nil_append, List.drop_append, List.drop_of_length_le (by rw [List.length_replicate, List.length_map, h]; omega), List.length_replicate, List.length_map, h]
  rfl
theorem build_w {d : DfaT} (h : d.of.length = 256) : splice (u8L d.of ++ [Value.int .i64 0, Value.slice none 0 0, Value.slice none 0 0, Value.slice none 0 0]) 256 [Value.int .i64 d.width] = cellsD d (.slice none 0 0) (.slice none 0 0) (.slice none 0 0) := by
  have hl : (u8L d.of).length = 256 := by rw [List.length_map, h]
  unfold splice cellsD
  rw [show 256 = (u8L d.of).length + 0 by omega, List.take_length_add_append, List.length_singleton, show (u8L d.of).length + 0 + 1 = (u8L d.of).length + 1 by omega, List.drop_length_add_append, List.append_assoc, List.append_assoc]
  rfl
theorem build_s {d : DfaT} (h : d.of.length = 256) (vn vl vs x : Value) : splice (cellsD d vn vl vs) 259 [x] = cellsD d vn vl x := by
  have hl : (u8L d.of).length = 256 := by rw [List.length_map, h]
  unfold splice cellsD
  rw [show 259 = (u8L d.of).length + 3 by omega, List.take_length_add_append, List.length_singleton, show (u8L d.of).length + 3 + 1 = (u8L d.of).length + 4 by omega, List.drop_length_add_append, List.append_assoc, List.append_assoc]
  rfl
end Go.Proofs.Ytpagkndgjihbbaa
