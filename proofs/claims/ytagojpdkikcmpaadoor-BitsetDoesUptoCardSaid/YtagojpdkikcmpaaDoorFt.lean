/- What is done, as the law is handed it. -/
import Derived.Test.YtagojpdkikcmpaaDoorFs
import Derived.Test.YtagojpdkikcmpaaDoorVeO
set_option linter.unusedSimpArgs false
set_option linter.unusedVariables false
namespace Go.Proofs.YtagojpdkikcmpaaDoor
open Go Go.V Go.Proofs Go.ChangeShapes Go.WideShapes Go.RowKit

theorem three {cs : List Value} (h : cs.length = 3) {a b c : Value} (h0 : (cs.drop 0).take 1 = [a]) (h1 : (cs.drop 1).take 1 = [b]) (h2 : (cs.drop 2).take 1 = [c]) : cs = [a, b, c] := by
  match cs, h with
  | [x, y, z], _ =>
    simp only [List.drop_zero, List.drop_succ_cons, List.take_succ_cons, List.take_zero, List.cons.injEq, and_true] at h0 h1 h2
    rw [h0, h1, h2]
theorem rd_ops {H : Type} {enc : TypeId × Value → H} {W : World} {held : Bool} {sp : Nat → Bool} {r : Reach} {b0 : Nat} {v : Value} {d : DataW H} {ps : List MemPlace}
    (hval : Value.okWide Tryd.prog W r b0 37 v) (h : DataW.Trod enc Tryd.prog W 0 sp held 37 v d ps) : ∃ xs : List OpB, SlM (fun b => W.heap[b]?) encOpB v xs ∧ xs.length + 1 ≤ bulkV d := by
  obtain ⟨d1, hd1, hf1⟩ := tok.und (t := 37) (k := .slice 41) rfl (by simp)
  simp only [TK.fits] at hf1; subst hf1
  obtain ⟨a, len, cap, rfl⟩ := okWide_slice hd1 hval
  obtain ⟨fuel, hf⟩ := h
  obtain ⟨a', cap', ds, xs, h1, h2, h3, h4, h5, h6⟩ := rd_slice_enc hd1 (m := 3) (by kernel_rfl) (by omega) encOpB (fun d _ => 1 ≤ bulkV d) (fun n cs y hl hy => by
    obtain ⟨m0, y0, e0, _⟩ := rd_field tok (t := 41) (fs := [(0, 3), (1, 4), (2, 3)]) rfl (i := 0) rfl hy
    obtain ⟨m1, y1, e1, _⟩ := rd_field tok (t := 41) (fs := [(0, 3), (1, 4), (2, 3)]) rfl (i := 1) rfl hy
    obtain ⟨m2, y2, e2, _⟩ := rd_field tok (t := 41) (fs := [(0, 3), (1, 4), (2, 3)]) rfl (i := 2) rfl hy
    obtain ⟨z0, g0, _⟩ := rd_fint tok (t := 3) (k := .i64) rfl e0
    obtain ⟨z1, g1, _⟩ := rd_fbool tok (t := 4) rfl e1
    obtain ⟨z2, g2, _⟩ := rd_fint tok (t := 3) (k := .i64) rfl e2
    rw [show Tryd.prog.cellsOf 3 = 1 by kernel_rfl] at g0 g2
    rw [show Tryd.prog.cellsOf 4 = 1 by kernel_rfl] at g1
    exact ⟨⟨z0, z1, z2⟩, three hl g0 g1 g2, rd_fields1 tok (t := 41) (fs := [(0, 3), (1, 4), (2, 3)]) rfl hy⟩) hf
  simp only [Value.cells, List.cons.injEq, Value.slice.injEq, and_true] at h1
  obtain ⟨rfl, rfl, rfl⟩ := h1
  refine ⟨xs, ⟨a, cap, rfl, h3, h2⟩, ?_⟩
  have := bulkVs_len ds fun d hd => by
    obtain ⟨i, hi, rfl⟩ := List.getElem_of_mem hd
    exact h5 i hi (by omega)
  simp only [] at h6
  omega
end Go.Proofs.YtagojpdkikcmpaaDoor
