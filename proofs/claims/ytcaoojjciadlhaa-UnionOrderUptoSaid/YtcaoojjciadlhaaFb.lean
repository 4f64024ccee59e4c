/- Things that are joined: contracts of the inner functions. -/
import Derived.Test.YtcaoojjciadlhaaFa
set_option linter.unusedSimpArgs false
set_option linter.unusedVariables false
namespace Go.Proofs.Ytcaoojjciadlhaa
open Go Go.V Go.Proofs

def enc3 (up least : Nat → Nat) (many : Nat → Int) (i : Nat) : List Value := [.int .i64 (up i), .int .i64 (least i), .int .i64 (many i)]
def row3 (n : Nat) (up least : Nat → Nat) (many : Nat → Int) : List Value := (List.range n).flatMap (enc3 up least many)
theorem row3_len (n : Nat) (up least : Nat → Nat) (many : Nat → Int) : (row3 n up least many).length = n * 3 := by
  unfold row3; rw [flatMap_len (m := 3) (fun _ => rfl), List.length_range]
theorem row3_succ (n : Nat) (up least : Nat → Nat) (many : Nat → Int) : row3 (n + 1) up least many = row3 n up least many ++ enc3 up least many n := by
  unfold row3; rw [List.range_succ, List.flatMap_append]; simp
theorem row3_get {n : Nat} {up least : Nat → Nat} {many : Nat → Int} {sp : List Value} {i j : Nat} (hi : i < n) (hj : j < 3) : (row3 n up least many ++ sp)[i * 3 + j]? = (enc3 up least many i)[j]? := by
  induction n with
  | zero => omega
  | succ n ih =>
    rw [row3_succ, List.append_assoc]
    have hl := row3_len n up least many
    by_cases e : i = n
    · subst e
      rw [List.getElem?_append_right (by omega), hl, show i * 3 + j - i * 3 = j by omega, List.getElem?_append_left (by simp [enc3]; omega)]
    · have := ih (by omega)
      rw [List.getElem?_append_left (by rw [hl]; omega)] at this ⊢
      exact this
theorem row3_congr {n : Nat} {up least up' least' : Nat → Nat} {many many' : Nat → Int} (h : ∀ i, i < n → up i = up' i ∧ least i = least' i ∧ many i = many' i) : row3 n up least many = row3 n up' least' many' := by
  unfold row3
  rw [List.flatMap_def, List.flatMap_def]
  congr 1
  refine List.map_congr_left fun i hi => ?_
  obtain ⟨h1, h2, h3⟩ := h i (List.mem_range.1 hi)
  unfold enc3; rw [h1, h2, h3]

theorem row3_set (n : Nat) (up least : Nat → Nat) (many : Nat → Int) {i : Nat} (hi : i < n) (up' least' : Nat → Nat) (many' : Nat → Int) (he : ∀ k, k ≠ i → up k = up' k ∧ least k = least' k ∧ many k = many' k)
    {j : Nat} {v : Value} (hv : (enc3 up least many i).set j v = enc3 up' least' many' i) (hj : j < 3) : (row3 n up least many).set (i * 3 + j) v = row3 n up' least' many' := by
  induction n with
  | zero => omega
  | succ n ih =>
    have hl := row3_len n up least many
    rw [row3_succ, row3_succ]
    by_cases e : i = n
    · subst e
      rw [List.set_append_right _ _ (by omega), hl, show i * 3 + j - i * 3 = j by omega, hv]
      rw [row3_congr fun k hk => he k (by omega)]
    · rw [List.set_append_left _ _ (by omega), ih (by omega)]
      congr 1
      obtain ⟨h1, h2, h3⟩ := he n (by omega)
      unfold enc3; rw [h1, h2, h3]
theorem row_g0 {n : Nat} {up least : Nat → Nat} {many : Nat → Int} {sp : List Value} {i : Nat} (hi : i < n) : (row3 n up least many ++ sp)[i * 3]? = some (.int .i64 (up i)) := row3_get (j := 0) hi (by omega)
theorem row_g1 {n : Nat} {up least : Nat → Nat} {many : Nat → Int} {sp : List Value} {i : Nat} (hi : i < n) : (row3 n up least many ++ sp)[i * 3 + 1]? = some (.int .i64 (least i)) := row3_get (j := 1) hi (by omega)
theorem row_g2 {n : Nat} {up least : Nat → Nat} {many : Nat → Int} {sp : List Value} {i : Nat} (hi : i < n) : (row3 n up least many ++ sp)[i * 3 + 2]? = some (.int .i64 (many i)) := row3_get (j := 2) hi (by omega)
theorem row_s0 {n : Nat} {up least : Nat → Nat} {many : Nat → Int} {i : Nat} (hi : i < n) (x : Nat) : (row3 n up least many).set (i * 3) (.int .i64 x) = row3 n (upd up i x) least many :=
  row3_set n up least many hi _ _ _ (fun k hk => ⟨(upd_ne _ _ hk).symm, rfl, rfl⟩) (j := 0) (by simp [enc3, upd_same]) (by omega)
theorem row_s1 {n : Nat} {up least : Nat → Nat} {many : Nat → Int} {i : Nat} (hi : i < n) (x : Nat) : (row3 n up least many).set (i * 3 + 1) (.int .i64 x) = row3 n up (upd least i x) many :=
  row3_set n up least many hi _ _ _ (fun k hk => ⟨rfl, (upd_ne _ _ hk).symm, rfl⟩) (j := 1) (by simp [enc3, upd_same]) (by omega)
theorem row_s2 {n : Nat} {up least : Nat → Nat} {many : Nat → Int} {i : Nat} (hi : i < n) (x : Int) : (row3 n up least many).set (i * 3 + 2) (.int .i64 x) = row3 n up least (upd many i x) :=
  row3_set n up least many hi _ _ _ (fun k hk => ⟨rfl, rfl, (upd_ne _ _ hk).symm⟩) (j := 2) (by simp [enc3, upd_same]) (by omega)
theorem splice_one' {xs : List Value} {o : Nat} {v : Value} (h : o < xs.length) : splice xs o [v] = xs.set o v := by
  unfold splice
  rw [List.set_eq_take_append_cons_drop, if_pos h]
  simp
theorem row_p0 {n : Nat} {up least : Nat → Nat} {many : Nat → Int} {i : Nat} (hi : i < n) (x : Nat) : splice (row3 n up least many) (i * 3) [.int .i64 x] = row3 n (upd up i x) least many := by
  rw [splice_one' (by rw [row3_len]; omega), row_s0 hi]
theorem row_p1 {n : Nat} {up least : Nat → Nat} {many : Nat → Int} {i : Nat} (hi : i < n) (x : Nat) : splice (row3 n up least many) (i * 3 + 1) [.int .i64 x] = row3 n up (upd least i x) many := by
  rw [splice_one' (by rw [row3_len]; omega), row_s1 hi]
theorem row_p2 {n : Nat} {up least : Nat → Nat} {many : Nat → Int} {i : Nat} (hi : i < n) (x : Int) : splice (row3 n up least many) (i * 3 + 2) [.int .i64 x] = row3 n up least (upd many i x) := by
  rw [splice_one' (by rw [row3_len]; omega), row_s2 hi]
end Go.Proofs.Ytcaoojjciadlhaa
