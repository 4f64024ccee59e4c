/-
  The verification layer: arguments read.
-/
import Derived.Test.YtmlmhcejdlljjaaVeN
import Derived.WalkKit
import Derived.ProofKit
import Derived.JoinedCond
import Derived.OpenShut
set_option linter.unusedSimpArgs false
set_option linter.unusedVariables false
namespace Go.V
open Go.ChangeShapes Go.WideShapes Go.RowKit

/-! ## how much a reading holds -/
mutual
def bulkV {H : Type} : DataW H → Nat
  | .lit (.string bytes) => bytes.length + 1
  | .lit _ => 1
  | .nil => 1
  | .ptr d => bulkV d + 1
  | .slice elems spare => bulkVs elems + bulkVs spare + 1
  | .agg parts => bulkVs parts + 1
  | .iface _ d => bulkV d + 1
  | .map entries => 0
  | .held _ => 1
def bulkVs {H : Type} : List (DataW H) → Nat
  | [] => 0
  | d :: r => bulkV d + bulkVs r
end

theorem bulkV_part {H : Type} {d : DataW H} {l : List (DataW H)} (h : d ∈ l) : bulkV d ≤ bulkVs l := by
  induction l with
  | nil => cases h
  | cons x r ih =>
    simp only [bulkVs]
    cases List.mem_cons.1 h with
    | inl e => subst e; omega
    | inr e => have := ih e; omega

/-! ## cells in a row -/

def CellsAt (W : World) (b off : Nat) (vs : List Value) : Prop := ∀ j (h : j < vs.length), W.cell? ⟨b, off + j, none⟩ = some vs[j]

theorem CellsAt.nil (W : World) (b off : Nat) : CellsAt W b off [] := fun j h => by simp at h
theorem CellsAt.append {W : World} {b off : Nat} {xs ys : List Value} (h1 : CellsAt W b off xs) (h2 : CellsAt W b (off + xs.length) ys) : CellsAt W b off (xs ++ ys) := fun j h => by
  by_cases hj : j < xs.length
  · rw [List.getElem_append_left hj]; exact h1 j hj
  · rw [List.getElem_append_right (by omega)]
    have := h2 (j - xs.length) (by simp at h; omega)
    rw [show off + xs.length + (j - xs.length) = off + j by omega] at this
    exact this

theorem CellsAt.rowAt {W : World} {b off : Nat} {vs : List Value} (h : CellsAt W b off vs) (hl : 0 < vs.length) : RowAt (fun b => W.heap[b]?) b off vs := by
  have h0 := h 0 hl
  unfold World.cell? at h0
  split at h0
  · rename_i c e fr hb
    refine ⟨c, e, fr, hb, ?_, ?_⟩
    · have := h (vs.length - 1) (by omega)
      unfold World.cell? at this
      rw [hb] at this
      simp only [Option.isSome_none, Bool.false_eq_true, if_false] at this
      have := (Array.getElem?_eq_some_iff.1 this).1
      omega
    · apply List.ext_getElem?
      intro i
      by_cases hi : i < vs.length
      · rw [List.getElem?_take_of_lt hi, List.getElem?_drop, List.getElem?_eq_getElem hi]
        have := h i hi
        unfold World.cell? at this
        rw [hb] at this
        simpa using this
      · rw [List.getElem?_eq_none (by simp; omega), List.getElem?_eq_none (by omega)]
  · cases h0

theorem cellsAt_of_cells {W : World} {a : Addr} {n : Nat} {cs : List Value} (h : W.cells? 0 a n = some cs) (hs : a.spot = none) : cs.length = n ∧ CellsAt W a.block a.off cs := by
  unfold World.cells? at h
  rw [if_pos (Nat.zero_le _)] at h
  have hl : cs.length = n := by have := mapM_some_length h; simpa using this
  refine ⟨hl, fun j hj => ?_⟩
  have := mapM_some_get h j j (List.getElem?_range (by omega))
  obtain ⟨b, o, s⟩ := a
  subst hs
  rw [addr_add] at this
  rw [this, List.getElem?_eq_getElem hj]

section
variable {H : Type} {enc : TypeId × Value → H} {P : Program} {W : World} {held : Bool} {sp : Nat → Bool}

/-- a slice that comes in, element by element -/
theorem rd_slice {α : Type} {t e : TypeId} (ht : P.underlying t = some (.slice e)) {m : Nat} (hm : P.cellsOf e = m) (hm0 : 0 < m) (E : List Value → DataW H → α → Prop)
    (hel : ∀ n cs y, cs.length = m → DataW.trod enc P W 0 sp held n e cs = some y → ∃ a : α, E cs y.1 a) {fuel : Nat} {cs : List Value} {x : DataW H × List MemPlace} (h : DataW.trod enc P W 0 sp held fuel t cs = some x) :
    ∃ (a : Option Addr) (cap : Nat) (rows : List (List Value)) (ds spare : List (DataW H)) (xs : List α), cs = [.slice a xs.length cap] ∧ xs.length ≤ cap ∧ Row (fun b => W.heap[b]?) a rows.flatten ∧ rows.length = xs.length ∧ ds.length = xs.length ∧
      (∀ i (h1 : i < rows.length) (h2 : i < ds.length) (h3 : i < xs.length), rows[i].length = m ∧ E rows[i] ds[i] xs[i]) ∧ (bulkVs ds + 1 ≤ bulkV x.1) := by
  rcases DataW.trod_slice ht h with ⟨rfl, rfl⟩ | ⟨a, len, cap, elems, rest, n, rfl, rfl, rfl, hb, hl, hc, hlen, hes, _, _⟩
  · exact ⟨none, 0, [], [], [], [], rfl, Nat.le_refl _, Row.nil _ _, rfl, rfl, fun i h => by simp at h, by simp [bulkV, bulkVs]⟩
  · rw [hm] at hes
    have key : ∀ k, k ≤ len → ∃ (rows : List (List Value)) (xs : List α), rows.length = k ∧ xs.length = k ∧ (0 < k → a.spot = none ∧ CellsAt W a.block a.off rows.flatten) ∧ rows.flatten.length = k * m ∧
        (∀ i (h1 : i < rows.length) (h2 : i < elems.length) (h3 : i < xs.length), rows[i].length = m ∧ E rows[i] elems[i].1 xs[i]) := by
      intro k
      induction k with
      | zero => intro _; exact ⟨[], [], rfl, rfl, fun h => by omega, by simp, fun i h => by simp at h⟩
      | succ k ih =>
        intro hk
        obtain ⟨rows, xs, h1, h2, h3, h4, h5⟩ := ih (by omega)
        have hk' : k < elems.length := by omega
        have hx := hes k (by omega)
        rw [List.getElem?_eq_getElem hk', Option.bind_eq_some_iff] at hx
        obtain ⟨cs, hcs, hy⟩ := hx
        have hsp : a.spot = none := by
          by_cases h0 : 0 < k
          · exact (h3 h0).1
          · obtain rfl : k = 0 := by omega
            unfold World.cells? at hcs
            rw [if_pos (by simp)] at hcs
            have hl := mapM_some_length hcs
            have := mapM_some_get hcs 0 0 (List.getElem?_range (by omega))
            have hlc : 0 < cs.length := by simp at hl; omega
            rw [List.getElem?_eq_getElem hlc] at this
            have := World.cell?_spot this
            simpa [Addr.add] using this
        obtain ⟨ab, ao, as⟩ := a
        subst hsp
        rw [addr_add] at hcs
        obtain ⟨hcl, hca⟩ := cellsAt_of_cells hcs rfl
        obtain ⟨z, hz⟩ := hel n cs _ hcl hy
        refine ⟨rows ++ [cs], xs ++ [z], by simp [h1], by simp [h2], fun _ => ⟨rfl, ?_⟩, by simp [h4, hcl, Nat.succ_mul], fun i i1 i2 i3 => ?_⟩
        · rw [List.flatten_append]
          simp only [List.flatten_cons, List.flatten_nil, List.append_nil]
          refine CellsAt.append ?_ (by rw [h4]; exact hca)
          by_cases h0 : 0 < k
          · exact (h3 h0).2
          · have : rows = [] := List.eq_nil_of_length_eq_zero (by omega)
            subst this; exact CellsAt.nil _ _ _
        · by_cases hi : i < k
          · rw [List.getElem_append_left (by omega), List.getElem_append_left (by omega)]
            exact h5 i (by omega) i2 (by omega)
          · obtain rfl : i = k := by simp at i1; omega
            rw [List.getElem_append_right (by omega), List.getElem_append_right (by omega)]
            simp only [h1, h2, Nat.sub_self, List.getElem_cons_zero]
            exact ⟨hcl, hz⟩
    obtain ⟨rows, xs, h1, h2, h3, h4, h5⟩ := key len (Nat.le_refl _)
    refine ⟨some a, cap, rows, elems.map (·.1), rest.map (·.1), xs, by rw [h2], by omega, ?_, by omega, by simp; omega, fun i i1 i2 i3 => ?_, ?_⟩
    · by_cases h0 : 0 < len
      · obtain ⟨hsp, hca⟩ := h3 h0
        obtain ⟨ab, ao, as⟩ := a
        subst hsp
        exact RowAt.row (CellsAt.rowAt hca (by rw [h4]; exact Nat.mul_pos h0 hm0))
      · obtain rfl : rows = [] := List.eq_nil_of_length_eq_zero (by omega)
        exact Row.nil _ _
    · have := h5 i i1 (by simpa using i2) i3
      simpa using this
    · simp only [bulkV]; omega

/-- of values that are told by a function -/
theorem rd_slice_enc {α : Type} {t e : TypeId} (ht : P.underlying t = some (.slice e)) {m : Nat} (hm : P.cellsOf e = m) (hm0 : 0 < m) (encA : α → List Value) (Q : DataW H → α → Prop)
    (hel : ∀ n cs y, cs.length = m → DataW.trod enc P W 0 sp held n e cs = some y → ∃ a : α, cs = encA a ∧ Q y.1 a) {fuel : Nat} {cs : List Value} {x : DataW H × List MemPlace} (h : DataW.trod enc P W 0 sp held fuel t cs = some x) :
    ∃ (a : Option Addr) (cap : Nat) (ds : List (DataW H)) (xs : List α), cs = [.slice a xs.length cap] ∧ xs.length ≤ cap ∧ Row (fun b => W.heap[b]?) a (xs.flatMap encA) ∧ ds.length = xs.length ∧
      (∀ i (h2 : i < ds.length) (h3 : i < xs.length), Q ds[i] xs[i]) ∧ (bulkVs ds + 1 ≤ bulkV x.1) := by
  obtain ⟨a, cap, rows, ds, spare, xs, h1, h2, h3, h4, h5, h6, h7⟩ := rd_slice ht hm hm0 (fun cs d a => cs = encA a ∧ Q d a) hel h
  refine ⟨a, cap, ds, xs, h1, h2, ?_, h5, fun i i2 i3 => (h6 i (by omega) i2 i3).2.2, h7⟩
  have : rows = xs.map encA := by
    apply List.ext_getElem (by simp [h4])
    intro i i1 i2
    rw [List.getElem_map]
    exact (h6 i i1 (by omega) (by omega)).2.1
  rw [List.flatMap_def, ← this]; exact h3
end

theorem bulkVs_len {H : Type} (l : List (DataW H)) (h : ∀ d ∈ l, 1 ≤ bulkV d) : l.length ≤ bulkVs l := by
  induction l with
  | nil => simp [bulkVs]
  | cons d l ih =>
    have := h d (List.mem_cons_self ..)
    have := ih fun d hd => h d (List.mem_cons_of_mem _ hd)
    simp only [bulkVs, List.length_cons]; omega

section
variable {H : Type} {enc : TypeId × Value → H} {P : Program} {T : Tys} (hT : TyOk P T) {W : World} {held : Bool} {sp : Nat → Bool} {r : Reach} {b0 : Nat} {t : TypeId} {v : Value} {d : DataW H} {ps : List MemPlace}
include hT

theorem rd_int {k : IntKind} (hk : (T t).k = .int k) (hval : Value.okWide P W r b0 t v) (h : DataW.Trod enc P W 0 sp held t v d ps) : ∃ n : Int, v = .int k n ∧ k.min ≤ n ∧ n ≤ k.max := by
  obtain ⟨ds, hd, hf⟩ := hT.und hk (by simp)
  simp only [TK.fits] at hf; subst hf
  obtain ⟨n, rfl, _, _, hw⟩ := open_int hd hval h
  refine ⟨n, rfl, ?_⟩
  simpa [Lit.wf] using hw

theorem rd_u8 (hk : (T t).k = .int .u8) (hval : Value.okWide P W r b0 t v) (h : DataW.Trod enc P W 0 sp held t v d ps) : ∃ c : UInt8, v = .int .u8 c.toNat := by
  obtain ⟨n, rfl, h0, h1⟩ := rd_int hT hk hval h
  have := byteV_ofNat (m := n) (by simpa [IntKind.min, IntKind.signed] using h0) (by simpa [IntKind.max, IntKind.signed, IntKind.bits] using h1)
  exact ⟨UInt8.ofNat n.toNat, this.symm⟩

theorem rd_bool (hk : (T t).k = .bool) (hval : Value.okWide P W r b0 t v) : ∃ b : Bool, v = .bool b := by
  obtain ⟨ds, hd, hf⟩ := hT.und hk (by simp)
  simp only [TK.fits] at hf; subst hf
  simp only [Value.okWide, hd, Cell.okWide] at hval
  cases v <;> simp_all [Cell.ok]

theorem rd_str (hk : (T t).k = .string) (hval : Value.okWide P W r b0 t v) (h : DataW.Trod enc P W 0 sp held t v d ps) : ∃ s : List UInt8, v = str s ∧ bulkV d = s.length + 1 := by
  obtain ⟨ds, hd, hf⟩ := hT.und hk (by simp)
  simp only [TK.fits] at hf; subst hf
  obtain ⟨s, rfl⟩ := okWide_string hd hval
  obtain ⟨fuel, hf⟩ := h
  obtain ⟨s', h1, h2, _⟩ := DataW.trod_string hd hf
  simp only [Value.cells, List.cons.injEq, Value.string.injEq, and_true] at h1
  subst h1
  obtain ⟨rfl, rfl⟩ := Prod.mk.inj h2
  exact ⟨s.data.toList, rfl, by simp [bulkV]⟩

/-- slices of numbers -/
theorem rd_ints {e : TypeId} {k : IntKind} (hk : (T t).k = .slice e) (he : (T e).k = .int k) (hc : P.cellsOf e = 1) (hval : Value.okWide P W r b0 t v) (h : DataW.Trod enc P W 0 sp held t v d ps) :
    ∃ xs : List Int, Sl (fun b => W.heap[b]?) (Value.int k) v xs ∧ (∀ n ∈ xs, k.min ≤ n ∧ n ≤ k.max) ∧ xs.length + 1 ≤ bulkV d := by
  obtain ⟨d1, hd1, hf1⟩ := hT.und hk (by simp)
  obtain ⟨d2, hd2, hf2⟩ := hT.und he (by simp)
  simp only [TK.fits] at hf1 hf2; subst hf1; subst hf2
  obtain ⟨a, len, cap, rfl⟩ := okWide_slice hd1 hval
  obtain ⟨fuel, hf⟩ := h
  obtain ⟨a', cap', ds, xs, h1, h2, h3, h4, h5, h6⟩ := rd_slice_enc hd1 hc (by omega) (fun n : Int => [Value.int k n]) (fun d n => bulkV d = 1 ∧ k.min ≤ n ∧ n ≤ k.max) (fun n cs y _ hy => by
    obtain ⟨m, rfl, rfl, hw⟩ := DataW.trod_int hd2 hy
    exact ⟨m, rfl, by simp [bulkV], by simpa [Lit.wf] using hw⟩) hf
  simp only [Value.cells, List.cons.injEq, Value.slice.injEq, and_true] at h1
  obtain ⟨rfl, rfl, rfl⟩ := h1
  refine ⟨xs, ⟨a, cap, rfl, by rw [List.map_eq_flatMap]; exact h3, h2⟩, fun n hn => ?_, ?_⟩
  · obtain ⟨i, hi, rfl⟩ := List.getElem_of_mem hn
    exact (h5 i (by omega) hi).2
  · have := bulkVs_len ds fun d hd => by
      obtain ⟨i, hi, rfl⟩ := List.getElem_of_mem hd
      have := (h5 i hi (by omega)).1; omega
    simp only [] at h6
    omega

/-- bytes -/
theorem rd_bytes {e : TypeId} (hk : (T t).k = .slice e) (he : (T e).k = .int .u8) (hc : P.cellsOf e = 1) (hval : Value.okWide P W r b0 t v) (h : DataW.Trod enc P W 0 sp held t v d ps) :
    ∃ bs : List UInt8, Sl (fun b => W.heap[b]?) byteV v bs ∧ bs.length + 1 ≤ bulkV d := by
  obtain ⟨xs, ⟨a, cap, rfl, h1, h2⟩, h3, h4⟩ := rd_ints hT hk he hc hval h
  have : (xs.map fun n => UInt8.ofNat n.toNat).map byteV = xs.map (Value.int .u8) := by
    rw [List.map_map]
    refine List.map_congr_left fun n hn => ?_
    have := h3 n hn
    exact byteV_ofNat (by simpa [IntKind.min, IntKind.signed] using this.1) (by simpa [IntKind.max, IntKind.signed, IntKind.bits] using this.2)
  exact ⟨xs.map fun n => UInt8.ofNat n.toNat, ⟨a, cap, by simp, by rw [this]; exact h1, by simpa using h2⟩, by simpa using h4⟩

/-- a part of a value of several -/
theorem rd_field {fs : List (Nat × Nat)} (hk : (T t).k = .struct fs) {i o e : Nat} (hi : fs[i]? = some (o, e)) {n : Nat} {cs : List Value} {x : DataW H × List MemPlace} (h : DataW.trod enc P W 0 sp held n t cs = some x) :
    ∃ m y, DataW.trod enc P W 0 sp held m e ((cs.drop o).take (P.cellsOf e)) = some y ∧ bulkV y.1 + 1 ≤ bulkV x.1 := by
  obtain ⟨d1, hd1, f, rfl, hf1⟩ := hT.und hk (by simp)
  obtain ⟨xs, m, rfl, rfl, hl, hxl, hx⟩ := DataW.trod_struct hd1 h
  rw [← hf1, List.getElem?_map, Option.map_eq_some_iff] at hi
  obtain ⟨g, hg, e2⟩ := hi
  simp only [Prod.mk.injEq] at e2
  obtain ⟨rfl, rfl⟩ := e2
  have hlt : i < f.size := by
    rw [Array.getElem?_toList] at hg
    exact (Array.getElem?_eq_some_iff.1 hg).1
  have h1 := hx i g (by rw [Array.getElem?_toList] at hg; exact hg)
  rw [List.getElem?_eq_getElem (by omega)] at h1
  refine ⟨m, _, h1, ?_⟩
  simp only [bulkV]
  have := bulkV_part (l := xs.map (·.1)) (List.mem_map.2 ⟨xs[i], List.getElem_mem _, rfl⟩)
  omega
theorem rd_fields1 {fs : List (Nat × Nat)} (hk : (T t).k = .struct fs) {n : Nat} {cs : List Value} {x : DataW H × List MemPlace} (h : DataW.trod enc P W 0 sp held n t cs = some x) : 1 ≤ bulkV x.1 := by
  obtain ⟨d1, hd1, f, rfl, hf1⟩ := hT.und hk (by simp)
  obtain ⟨xs, m, rfl, rfl, hl, hxl, hx⟩ := DataW.trod_struct hd1 h
  simp only [bulkV]; omega
theorem rd_fint {k : IntKind} (hk : (T t).k = .int k) {n : Nat} {cs : List Value} {x : DataW H × List MemPlace} (h : DataW.trod enc P W 0 sp held n t cs = some x) : ∃ z : Int, cs = [.int k z] ∧ k.min ≤ z ∧ z ≤ k.max ∧ bulkV x.1 = 1 := by
  obtain ⟨d2, hd2, hf2⟩ := hT.und hk (by simp)
  simp only [TK.fits] at hf2; subst hf2
  obtain ⟨m, rfl, rfl, hw⟩ := DataW.trod_int hd2 h
  have : k.min ≤ m ∧ m ≤ k.max := by simpa [Lit.wf] using hw
  exact ⟨m, rfl, this.1, this.2, by simp [bulkV]⟩
theorem rd_fstr (hk : (T t).k = .string) {n : Nat} {cs : List Value} {x : DataW H × List MemPlace} (h : DataW.trod enc P W 0 sp held n t cs = some x) : ∃ s : List UInt8, cs = [str s] ∧ bulkV x.1 = s.length + 1 := by
  obtain ⟨d2, hd2, hf2⟩ := hT.und hk (by simp)
  simp only [TK.fits] at hf2; subst hf2
  obtain ⟨s, rfl, rfl, hw⟩ := DataW.trod_string hd2 h
  exact ⟨s.data.toList, by simp [str], by simp [bulkV]⟩
theorem rd_fbool (hk : (T t).k = .bool) {n : Nat} {cs : List Value} {x : DataW H × List MemPlace} (h : DataW.trod enc P W 0 sp held n t cs = some x) : ∃ b : Bool, cs = [.bool b] ∧ bulkV x.1 = 1 := by
  obtain ⟨d2, hd2, hf2⟩ := hT.und hk (by simp)
  simp only [TK.fits] at hf2; subst hf2
  obtain ⟨b, rfl, rfl⟩ := DataW.trod_bool hd2 h
  exact ⟨b, rfl, by simp [bulkV]⟩
/-- an element of an array -/
theorem rd_elem {e m : Nat} (hk : (T t).k = .arr m e) {n : Nat} {cs : List Value} {x : DataW H × List MemPlace} (h : DataW.trod enc P W 0 sp held n t cs = some x) {i : Nat} (hi : i < m) :
    ∃ q y, DataW.trod enc P W 0 sp held q e ((cs.drop (i * P.cellsOf e)).take (P.cellsOf e)) = some y ∧ bulkV y.1 + 1 ≤ bulkV x.1 := by
  obtain ⟨d1, hd1, hf1⟩ := hT.und hk (by simp)
  simp only [TK.fits] at hf1; subst hf1
  obtain ⟨xs, q, rfl, rfl, hl, hxl, hx⟩ := DataW.trod_array hd1 h
  have h1 := hx i hi
  rw [List.getElem?_eq_getElem (by omega)] at h1
  refine ⟨q, _, h1, ?_⟩
  simp only [bulkV]
  have := bulkV_part (l := xs.map (·.1)) (List.mem_map.2 ⟨xs[i], List.getElem_mem _, rfl⟩)
  omega
/-- two numbers in an array -/
theorem rd_two {e : Nat} {k : IntKind} (hk : (T t).k = .arr 2 e) (he : (T e).k = .int k) (hc : P.cellsOf e = 1) {n : Nat} {cs : List Value} (hl : cs.length = 2) {x : DataW H × List MemPlace} (h : DataW.trod enc P W 0 sp held n t cs = some x) :
    ∃ p : Int × Int, cs = [.int k p.1, .int k p.2] ∧ k.min ≤ p.1 ∧ p.1 ≤ k.max ∧ k.min ≤ p.2 ∧ p.2 ≤ k.max ∧ 1 ≤ bulkV x.1 := by
  obtain ⟨q0, y0, h0, b0⟩ := rd_elem hT hk h (i := 0) (by omega)
  obtain ⟨q1, y1, h1, b1⟩ := rd_elem hT hk h (i := 1) (by omega)
  rw [hc] at h0 h1
  obtain ⟨z0, e0, w0, w0', _⟩ := rd_fint hT he h0
  obtain ⟨z1, e1, w1, w1', _⟩ := rd_fint hT he h1
  match cs, hl with
  | [c0, c1], _ =>
    simp at e0 e1
    subst e0; subst e1
    exact ⟨(z0, z1), rfl, w0, w0', w1, w1', by omega⟩
/-- a slice of pairs of numbers -/
theorem rd_pairs {e e2 : Nat} {k : IntKind} (hk : (T t).k = .slice e) (he : (T e).k = .arr 2 e2) (he2 : (T e2).k = .int k) (hc : P.cellsOf e = 2) (hc2 : P.cellsOf e2 = 1) (hval : Value.okWide P W r b0 t v) (h : DataW.Trod enc P W 0 sp held t v d ps) :
    ∃ xs : List (Int × Int), SlM (fun b => W.heap[b]?) (fun p : Int × Int => [.int k p.1, .int k p.2]) v xs ∧ (∀ p ∈ xs, k.min ≤ p.1 ∧ p.1 ≤ k.max ∧ k.min ≤ p.2 ∧ p.2 ≤ k.max) ∧ xs.length + 1 ≤ bulkV d := by
  obtain ⟨d1, hd1, hf1⟩ := hT.und hk (by simp)
  simp only [TK.fits] at hf1; subst hf1
  obtain ⟨a, len, cap, rfl⟩ := okWide_slice hd1 hval
  obtain ⟨fuel, hf⟩ := h
  obtain ⟨a', cap', ds, xs, h1, h2, h3, h4, h5, h6⟩ := rd_slice_enc hd1 hc (by omega) (fun p : Int × Int => [.int k p.1, .int k p.2]) (fun d p => 1 ≤ bulkV d ∧ k.min ≤ p.1 ∧ p.1 ≤ k.max ∧ k.min ≤ p.2 ∧ p.2 ≤ k.max) (fun n cs y hl hy => by
    obtain ⟨p, e, w0, w1, w2, w3, w4⟩ := rd_two hT he he2 hc2 hl hy
    exact ⟨p, e, w4, w0, w1, w2, w3⟩) hf
  simp only [Value.cells, List.cons.injEq, Value.slice.injEq, and_true] at h1
  obtain ⟨rfl, rfl, rfl⟩ := h1
  refine ⟨xs, ⟨a, cap, rfl, h3, h2⟩, fun n hn => ?_, ?_⟩
  · obtain ⟨i, hi, rfl⟩ := List.getElem_of_mem hn
    exact (h5 i (by omega) hi).2
  · have := bulkVs_len ds fun d hd => by
      obtain ⟨i, hi, rfl⟩ := List.getElem_of_mem hd
      exact (h5 i hi (by omega)).1
    simp only [] at h6
    omega
end

end Go.V
