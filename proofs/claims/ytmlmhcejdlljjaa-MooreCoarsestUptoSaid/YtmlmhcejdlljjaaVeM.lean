/-
  The verification layer: rows of values that nobody writes, slices that may be none; maps by their entries.
-/
import Derived.Test.YtmlmhcejdlljjaaVeL
set_option linter.unusedSimpArgs false
set_option linter.unusedVariables false
namespace Go.V

/-! ## rows -/

/-- what a slice that nobody writes holds -/
def Row (G : PHeap) (a : Option Addr) (vs : List Value) : Prop := vs = [] ∨ (Adr a ∧ RowAt G (blk a) (ofs a) vs)

theorem Row.nil (G : PHeap) (a : Option Addr) : Row G a [] := .inl rfl
theorem Row.mono {G G' : PHeap} (hle : PLe G G') {a : Option Addr} {vs : List Value} (h : Row G a vs) : Row G' a vs :=
  match h with
  | .inl h => .inl h
  | .inr h => .inr ⟨h.1, h.2.mono hle⟩
theorem Row.adr {G : PHeap} {a : Option Addr} {vs : List Value} (h : Row G a vs) (hl : 0 < vs.length) : Adr a := by
  rcases h with rfl | h
  · simp at hl
  · exact h.1
theorem Row.at {G : PHeap} {a : Option Addr} {vs : List Value} (h : Row G a vs) (hl : 0 < vs.length) : RowAt G (blk a) (ofs a) vs := by
  rcases h with rfl | h
  · simp at hl
  · exact h.2
theorem Row.obj {G : PHeap} {a : Option Addr} {vs : List Value} (h : Row G a vs) {i : Nat} (hi : i < vs.length) (H : Heap) (k : Value → Prop) : objK G H (blk a) (G (blk a)) (ofs a + i) k = k vs[i] :=
  (h.at (by omega)).obj hi H k
theorem Row.obj0 {G : PHeap} {a : Option Addr} {vs : List Value} (h : Row G a vs) (hi : 0 < vs.length) (H : Heap) (k : Value → Prop) : objK G H (blk a) (G (blk a)) (ofs a) k = k vs[0] := by
  have := h.obj hi H k
  rwa [Nat.add_zero] at this
theorem RowAt.objs' {G : PHeap} {b off : Nat} {vs : List Value} (h : RowAt G b off vs) {i n : Nat} (hi : i + n ≤ vs.length) (H : Heap) (k : List Value → Prop) : objsK G H b (G b) (off + i) n k = k ((vs.drop i).take n) := by
  exact h.objs hi H k
theorem Row.objs {G : PHeap} {a : Option Addr} {vs : List Value} (h : Row G a vs) {i n : Nat} (hn : 0 < n) (hi : i + n ≤ vs.length) (H : Heap) (k : List Value → Prop) : objsK G H (blk a) (G (blk a)) (ofs a + i) n k = k ((vs.drop i).take n) :=
  (h.at (by omega)).objs hi H k
theorem Row.rdSl {G : PHeap} {a : Option Addr} {vs : List Value} (h : Row G a vs) {n : Nat} (hn : n ≤ vs.length) (H : Heap) (k : List Value → Prop) : V.rdSl G H a n k = k (vs.take n) := by
  by_cases h0 : n = 0
  · subst h0
    unfold V.rdSl
    split
    · rw [List.take_zero]; exact propext rdCells_zero
    · simp
  · have had := h.adr (by omega)
    unfold Adr at had
    rw [had, rdSl_lit, rdCells_obj]
    have := (h.at (by omega)).objs (i := 0) (n := n) (by omega) H k
    rw [Nat.add_zero] at this
    rw [this, List.drop_zero]
theorem Row.rdSlAll {G : PHeap} {a : Option Addr} {vs : List Value} (h : Row G a vs) {n : Nat} (hn : n = vs.length) (H : Heap) (k : List Value → Prop) : V.rdSl G H a n k = k vs := by
  rw [h.rdSl (by omega), List.take_of_length_le (by omega)]
/-- a part of a row -/
theorem Row.drop {G : PHeap} {a : Option Addr} {vs : List Value} (h : Row G a vs) {l m s : Nat} (hc : m = l → vs.length ≤ l * s) : Row G (subOb a l m (l * s)) (vs.drop (l * s)) := by
  by_cases hl : vs.length ≤ l * s
  · exact .inl (List.drop_eq_nil_of_le hl)
  · have had := h.adr (by omega)
    have hrow := h.at (by omega)
    have hml : ¬ m = l := fun e => hl (hc e)
    right
    unfold Adr at had
    unfold subOb
    rw [if_neg hml, had]
    simp only [Option.map_some, addr_add, blk_lit, ofs_lit, Adr_lit, true_and]
    obtain ⟨cs, e, fr, h1, h2, h3⟩ := hrow
    refine ⟨cs, e, fr, h1, by simp; omega, ?_⟩
    rw [← List.drop_drop]
    simp only [List.length_drop]
    rw [← List.drop_take, h3]
theorem Row.take {G : PHeap} {a : Option Addr} {vs : List Value} (h : Row G a vs) (n : Nat) : Row G a (vs.take n) := by
  by_cases h0 : (vs.take n).length = 0
  · exact .inl (List.eq_nil_of_length_eq_zero h0)
  · have hv : 0 < vs.length := by rw [List.length_take] at h0; omega
    obtain ⟨cs, e, fr, h1, h2, h3⟩ := h.at hv
    refine .inr ⟨h.adr hv, cs, e, fr, h1, by simp; omega, ?_⟩
    have := congrArg (·.take n) h3
    simp only [List.take_take] at this
    rw [List.length_take]
    rw [this]
theorem RowAt.row {G : PHeap} {b off : Nat} {vs : List Value} (h : RowAt G b off vs) : Row G (some ⟨b, off, none⟩) vs := .inr ⟨rfl, h⟩

/-- a slice of values of one cell, that nobody writes -/
def Sl {α : Type} (G : PHeap) (enc : α → Value) (v : Value) (xs : List α) : Prop := ∃ a cap, v = .slice a xs.length cap ∧ Row G a (xs.map enc) ∧ xs.length ≤ cap
/-- a slice of values of several cells, that nobody writes -/
def SlM {α : Type} (G : PHeap) (enc : α → List Value) (v : Value) (xs : List α) : Prop := ∃ a cap, v = .slice a xs.length cap ∧ Row G a (xs.flatMap enc) ∧ xs.length ≤ cap

theorem Sl.mono {α : Type} {G G' : PHeap} (hle : PLe G G') {enc : α → Value} {v : Value} {xs : List α} (h : Sl G enc v xs) : Sl G' enc v xs :=
  let ⟨a, cap, h1, h2, h3⟩ := h; ⟨a, cap, h1, h2.mono hle, h3⟩
theorem SlM.mono {α : Type} {G G' : PHeap} (hle : PLe G G') {enc : α → List Value} {v : Value} {xs : List α} (h : SlM G enc v xs) : SlM G' enc v xs :=
  let ⟨a, cap, h1, h2, h3⟩ := h; ⟨a, cap, h1, h2.mono hle, h3⟩
theorem Sl.nil {α : Type} (G : PHeap) (enc : α → Value) : Sl G enc (.slice none 0 0) ([] : List α) := ⟨none, 0, rfl, Row.nil _ _, Nat.le_refl _⟩
theorem SlM.nil {α : Type} (G : PHeap) (enc : α → List Value) : SlM G enc (.slice none 0 0) ([] : List α) := ⟨none, 0, rfl, Row.nil _ _, Nat.le_refl _⟩

theorem flatMap_drop {α : Type} {enc : α → List Value} {m : Nat} (hm : ∀ x, (enc x).length = m) : ∀ (xs : List α) (i : Nat), (xs.flatMap enc).drop (i * m) = (xs.drop i).flatMap enc
  | [], i => by simp
  | x :: xs, 0 => by simp
  | x :: xs, i + 1 => by
    rw [List.flatMap_cons, List.drop_append, List.drop_succ_cons, hm]
    rw [List.drop_eq_nil_of_le (by rw [hm, Nat.succ_mul]; omega), List.nil_append]
    rw [show (i + 1) * m - m = i * m by rw [Nat.succ_mul]; omega]
    exact flatMap_drop hm xs i
theorem flatMap_len {α : Type} {enc : α → List Value} {m : Nat} (hm : ∀ x, (enc x).length = m) (xs : List α) : (xs.flatMap enc).length = xs.length * m := by
  induction xs with
  | nil => simp
  | cons x xs ih => rw [List.flatMap_cons, List.length_append, ih, hm, List.length_cons, Nat.succ_mul]; omega
theorem flatMap_get {α : Type} {enc : α → List Value} {m : Nat} (hm : ∀ x, (enc x).length = m) (xs : List α) (i : Nat) (hi : i < xs.length) : ((xs.flatMap enc).drop (i * m)).take m = enc xs[i] := by
  rw [flatMap_drop hm, List.drop_eq_getElem_cons hi, List.flatMap_cons, List.take_append_of_le_length (by rw [hm]; exact Nat.le_refl _), List.take_of_length_le (by rw [hm]; exact Nat.le_refl _)]
theorem Row.objsM {α : Type} {G : PHeap} {a : Option Addr} {enc : α → List Value} {m : Nat} {xs : List α} (h : Row G a (xs.flatMap enc)) (hm : ∀ x, (enc x).length = m) (hm0 : 0 < m) {i : Nat} (hi : i < xs.length) (H : Heap) (k : List Value → Prop) : objsK G H (blk a) (G (blk a)) (ofs a + i * m) m k = k (enc xs[i]) := by
  have hl := flatMap_len hm xs
  have : (i + 1) * m ≤ xs.length * m := Nat.mul_le_mul_right _ hi
  rw [Nat.succ_mul] at this
  rw [h.objs hm0 (by omega), flatMap_get hm xs i hi]
theorem Row.objM {α : Type} {G : PHeap} {a : Option Addr} {enc : α → List Value} {m : Nat} {xs : List α} (h : Row G a (xs.flatMap enc)) (hm : ∀ x, (enc x).length = m) {i j : Nat} (hi : i < xs.length) (hj : j < m) (H : Heap) (k : Value → Prop) :
    objK G H (blk a) (G (blk a)) (ofs a + i * m + j) k = k ((enc xs[i])[j]'(by rw [hm]; exact hj)) := by
  have hl := flatMap_len hm xs
  have : (i + 1) * m ≤ xs.length * m := Nat.mul_le_mul_right _ hi
  rw [Nat.succ_mul] at this
  rw [Nat.add_assoc, h.obj (by omega)]
  congr 1
  have e := flatMap_get hm xs i hi
  have e2 := congrArg (fun l : List Value => l[j]?) e
  simp only [List.getElem?_take_of_lt hj, List.getElem?_drop] at e2
  rw [List.getElem?_eq_getElem (by omega), List.getElem?_eq_getElem (by rw [hm]; exact hj), Option.some.injEq] at e2
  exact e2

theorem Row.objM0 {α : Type} {G : PHeap} {a : Option Addr} {enc : α → List Value} {m : Nat} {xs : List α} (h : Row G a (xs.flatMap enc)) (hm : ∀ x, (enc x).length = m) {i : Nat} (hi : i < xs.length) (hj : 0 < m) (H : Heap) (k : Value → Prop) :
    objK G H (blk a) (G (blk a)) (ofs a + i * m) k = k ((enc xs[i])[0]'(by rw [hm]; exact hj)) := h.objM (j := 0) hm hi hj H k

/-- an own block is written no more -/
theorem Upd.shareRow {G : PHeap} {H : Heap} {b : Nat} {xs sp : List Value} {e : TypeId} {k : PHeap → Heap → Prop} (hb : G b = none)
    (h : ∀ G', PLe G G' → Sep G' (keys H) → Row G' (some ⟨b, 0, none⟩) xs → k G' H) : Upd G ((b, .cells xs sp e) :: H) k :=
  Upd.share fun fr hs => h _ (fun c o hc => by rw [addG_ne (fun e => by subst e; rw [hb] at hc; cases hc)]; exact hc) hs (RowAt.row ⟨_, _, _, addG_same _ _ _, by simp, by simp⟩)

/-- a call that is handed an own row to look at -/
theorem FnT.share {P : Program} {f : FuncId} {args : List Value} {G : PHeap} {H : Heap} {R : Value → PHeap → Heap → Prop} {b : Nat} {xs sp : List Value} {e : TypeId} (hc : Callee P f) (hb : G b = none)
    (h : ∀ G', PLe G G' → Sep G' (keys H) → Row G' (some ⟨b, 0, none⟩) xs → FnT P f args G' H R) : FnT P f args G ((b, .cells xs sp e) :: H) R := FnT.pre hc (Upd.shareRow hb h)

/-- a slice of one's own, of elements of so many cells: none, or a block at the head of memory -/
def SliceO (H : Heap) (e : TypeId) (m : Nat) (v : Value) (n : Nat) (xs : List Value) (H' : Heap) : Prop :=
  (∃ a, v = .slice a 0 0 ∧ n = 0 ∧ xs = [] ∧ H' = H) ∨ ∃ b cap sp, v = .slice (some ⟨b, 0, none⟩) n cap ∧ H' = (b, .cells xs sp e) :: H ∧ xs.length = n * m ∧ xs.length + sp.length = cap * m

theorem SliceO.share {G : PHeap} {H H' : Heap} {e : TypeId} {m : Nat} {v : Value} {n : Nat} {xs : List Value} (hm : 0 < m) (h : SliceO H e m v n xs H') {k : PHeap → Heap → Prop} (hsep : Sep G (keys H'))
    (hk : ∀ G' a cap, PLe G G' → Sep G' (keys H) → v = .slice a n cap → Row G' a xs → n ≤ cap → k G' H) : Upd G H' k := by
  rcases h with ⟨a, rfl, rfl, rfl, rfl⟩ | ⟨b, cap, sp, rfl, rfl, hc, hd⟩
  · exact Upd.now (hk G a 0 (PLe.refl _) hsep rfl (Row.nil _ _) (Nat.le_refl _))
  · refine Upd.shareRow hsep.1.1 fun G' hle hs hr => hk G' _ cap hle hs rfl hr ?_
    have : n * m ≤ cap * m := by omega
    exact Nat.le_of_mul_le_mul_right this hm

theorem SliceO.sub {H H' : Heap} {e : TypeId} {m : Nat} {v : Value} {n : Nat} {xs : List Value} (h : SliceO H e m v n xs H') : H.Sublist H' := by
  rcases h with ⟨_, _, _, _, rfl⟩ | ⟨_, _, _, _, rfl, _⟩
  · exact List.Sublist.refl _
  · exact List.sublist_cons_self _ _

theorem one_map {α : Type} {f : α → Value} (h : ∀ x, oneV (f x) = true) (l : List α) : (l.map f).all oneV = true := by simp [h]
theorem one_byte (l : List UInt8) : (l.map byteV).all oneV = true := one_map (fun _ => rfl) l
theorem one_int (k : IntKind) (l : List Int) : (l.map (Value.int k)).all oneV = true := one_map (fun _ => rfl) l
theorem one_bool (l : List Bool) : (l.map Value.bool).all oneV = true := one_map (fun _ => rfl) l
abbrev str (bs : List UInt8) : Value := .string ⟨bs.toArray⟩
theorem one_str (l : List (List UInt8)) : (l.map str).all oneV = true := one_map (fun _ => rfl) l
theorem rep_one (z : List Value) : rep 1 z = z := by rw [rep_eq]; simp
theorem rep_zero (z : List Value) : rep 0 z = [] := by rw [rep_eq]; simp
attribute [go_sem] rep_one rep_zero one_byte one_int one_bool one_str

/-! ## memory in pieces -/

theorem perm_of_sums {α : Type} : ∀ {l1 l2 : List α}, (∀ f : α → Nat, (l1.map f).sum = (l2.map f).sum) → l1.Perm l2 := by
  intro l1
  classical
  induction l1 with
  | nil =>
    intro l2 h
    have := h fun _ => 1
    cases l2 with
    | nil => exact List.Perm.refl _
    | cons a l => simp at this; omega
  | cons a l1 ih =>
    intro l2 h
    have hm : a ∈ l2 := by
      have h1 := h fun x => if x = a then 1 else 0
      apply Classical.byContradiction
      intro hn
      have : (l2.map fun x => if x = a then 1 else 0).sum = 0 := by
        clear h h1 ih
        induction l2 with
        | nil => rfl
        | cons b l2 ih2 =>
          simp only [List.mem_cons, not_or] at hn
          simp only [List.map_cons, List.sum_cons, if_neg (Ne.symm hn.1), Nat.zero_add]
          exact ih2 hn.2
      rw [this] at h1
      simp at h1
    have hp := List.perm_cons_erase hm
    refine (List.Perm.cons a (ih fun f => ?_)).trans hp.symm
    have h1 := h f
    have h2 : (l2.map f).sum = ((a :: l2.erase a).map f).sum := (hp.map f).sum_nat
    rw [h2] at h1
    simp only [List.map_cons, List.sum_cons] at h1
    omega

theorem subperm_of_sums {α : Type} : ∀ {l1 l2 : List α}, (∀ f : α → Nat, (l1.map f).sum ≤ (l2.map f).sum) → ∃ r, l2.Perm (l1 ++ r) := by
  intro l1
  classical
  induction l1 with
  | nil => intro l2 _; exact ⟨l2, List.Perm.refl _⟩
  | cons a l1 ih =>
    intro l2 h
    have hm : a ∈ l2 := by
      have h1 := h fun x => if x = a then 1 else 0
      apply Classical.byContradiction
      intro hn
      have : (l2.map fun x => if x = a then 1 else 0).sum = 0 := by
        clear h h1 ih
        induction l2 with
        | nil => rfl
        | cons b l2 ih2 =>
          simp only [List.mem_cons, not_or] at hn
          simp only [List.map_cons, List.sum_cons, if_neg (Ne.symm hn.1), Nat.zero_add]
          exact ih2 hn.2
      rw [this] at h1
      simp at h1
    have hp := List.perm_cons_erase hm
    obtain ⟨r, hr⟩ := ih (l2 := l2.erase a) fun f => by
      have h1 := h f
      have h2 : (l2.map f).sum = ((a :: l2.erase a).map f).sum := (hp.map f).sum_nat
      rw [h2] at h1
      simp only [List.map_cons, List.sum_cons] at h1
      omega
    exact ⟨r, hp.trans (hr.cons a)⟩

/-- what is not wanted is let go, in whatever order the rest stands -/
theorem HeapOk.leave {E : Env} {G : PHeap} {H H' : Heap} {w : World} (h : HeapOk E G H w) (hs : ∀ f : Nat × Res → Nat, (H'.map f).sum ≤ (H.map f).sum) : HeapOk E G H' w := by
  obtain ⟨r, hr⟩ := subperm_of_sums hs
  exact (h.perm hr).sub (List.sublist_append_left _ _)
theorem Upd.leave {G : PHeap} {H H' : Heap} {k : PHeap → Heap → Prop} (hs : ∀ f : Nat × Res → Nat, (H'.map f).sum ≤ (H.map f).sum) (h : k G H') : Upd G H k := fun E w hw => ⟨G, H', PLe.refl _, hw.leave hs, h⟩
theorem Upd.go {G : PHeap} {H H' : Heap} {k : PHeap → Heap → Prop} (hs : ∀ f : Nat × Res → Nat, (H'.map f).sum ≤ (H.map f).sum) (h : Upd G H' k) : Upd G H k := fun E w hw => h w (hw.leave hs)
theorem Upd.finL {G : PHeap} {H H' : Heap} {R : Value → PHeap → Heap → Prop} {v v' : Value} (hs : ∀ f : Nat × Res → Nat, (H.map f).sum ≤ (H'.map f).sum) (h : R v G H) (e : v' = v) : UpdR R v' G H' := Upd.leave hs (e ▸ h)

/-- the blocks that a region reads are told -/
theorem Tri.drawS {P : Program} {T : Tys} (hT : TyOk P T) (hm : P.follows .mixedOrders = true) {sz : Nat} (keep : List Nat) (id : Nat) {ops : List Oper} {G : PHeap} {l : Fr} {H : Heap} {K : Post} (L : List Nat) (t : DM)
    (hok : drawB T sz ops L t = true) (Hs : Heap) (hs : ∀ f : Nat × Res → Nat, (Hs.map f).sum ≤ (H.map f).sum)
    (h : wpM P T ops G Hs t G l H fun G' l' H' => K .normal G' (restrict keep l') H') : Tri P sz (.region id ops.toArray true) G l H K :=
  Tri.drawG hT hm keep id L t hok Hs (fun h => h.leave hs) h

/-- a call is made where memory stands otherwise -/
theorem FnT.leave {P : Program} {f : FuncId} {args : List Value} {G : PHeap} {H H' : Heap} {R : Value → PHeap → Heap → Prop} (h : FnT P f args G H' R) (hs : ∀ f : Nat × Res → Nat, (H'.map f).sum ≤ (H.map f).sum) : FnT P f args G H R :=
  ⟨h.1, fun E w hw => h.2 w (hw.leave hs)⟩

theorem FnT.sep {P : Program} {f : FuncId} {args : List Value} {G : PHeap} {H : Heap} {R : Value → PHeap → Heap → Prop} (h : FnT P f args G H fun v G' H' => PLe G G' → Sep G' (keys H') → R v G' H') : FnT P f args G H R :=
  h.mono fun v G' H' hle hs hr => hr hle hs

/-- some blocks are brought to the front -/
def pickH : List Nat → Heap → Heap
  | [], H => H
  | b :: bs, H => match findH H b with
    | some r => (b, r) :: pickH bs (eraseH H b)
    | none => pickH bs H
def pickHK (b : Nat) (bs : List Nat) (H : Heap) : Option Res → Heap
  | some r => (b, r) :: pickH bs (eraseH H b)
  | none => pickH bs H
theorem pickH_nil (H : Heap) : pickH [] H = H := rfl
theorem pickH_cons (b : Nat) (bs : List Nat) (H : Heap) : pickH (b :: bs) H = pickHK b bs H (findH H b) := by
  simp only [pickH, pickHK]
theorem pickHK_some (b : Nat) (bs : List Nat) (H : Heap) (r : Res) : pickHK b bs H (some r) = (b, r) :: pickH bs (eraseH H b) := rfl
theorem setH_find {H : Heap} {b : Nat} {r : Res} (hf : findH H b = some r) : setH H b r = H := by
  induction H with
  | nil => rfl
  | cons p H ih =>
    obtain ⟨k, s⟩ := p
    simp only [findH] at hf
    simp only [setH]
    split at hf
    · rename_i hk; rw [if_pos hk]; cases hf; rfl
    · rename_i hk; rw [if_neg hk, ih hf]
theorem pickH_perm : ∀ (bs : List Nat) (H : Heap), H.Perm (pickH bs H)
  | [], H => List.Perm.refl _
  | b :: bs, H => by
    simp only [pickH]
    split
    · rename_i r hr
      have h1 := setH_perm (r' := r) hr
      rw [setH_find hr] at h1
      exact h1.trans ((pickH_perm bs _).cons _)
    · exact pickH_perm bs H
theorem Upd.pick (bs : List Nat) {G : PHeap} {H : Heap} {k : PHeap → Heap → Prop} (h : Upd G (pickH bs H) k) : Upd G H k := fun E w hw => h w (hw.perm (pickH_perm bs H))
attribute [go_sem] pickH_nil pickH_cons pickHK_some

/-- a block of cells, parted otherwise in what counts and what is spare -/
theorem Upd.refind (b : Nat) {G : PHeap} {H : Heap} {xs sp : List Value} {e : TypeId} (xs' sp' : List Value) {k : PHeap → Heap → Prop} (hf : findH H b = some (.cells xs sp e)) (he : xs ++ sp = xs' ++ sp') (h : Upd G (setH H b (.cells xs' sp' e)) k) : Upd G H k :=
  fun E w hw => h w (hw.refind hf he)

theorem withV_flat {α : Type} {f : α → Value} {xs : List α} {sp : List Value} {i : Nat} (h : i < xs.length) (k : Value → Prop) : withV ((xs.flatMap (fun x => [f x]) ++ sp)[i]?) k = k (f xs[i]) := by
  rw [← List.map_eq_flatMap, List.getElem?_append_left (by simpa using h), List.getElem?_map, List.getElem?_eq_getElem h]; rfl
attribute [go_sem] withV_flat

/-- how cells are read that stand in a row, whoever owns them -/
def Reads (G : PHeap) (H : Heap) (a : Option Addr) (n : Nat) (cs : List Value) : Prop := ∀ H', (∀ b r, findH H b = some r → findH H' b = some r) → ∀ k : List Value → Prop, rdSl G H' a n k = k cs
theorem Reads.now {G : PHeap} {H : Heap} {a : Option Addr} {n : Nat} {cs : List Value} (h : Reads G H a n cs) (k : List Value → Prop) : rdSl G H a n k = k cs := h H (fun _ _ h => h) k
theorem Reads.later {G : PHeap} {H : Heap} {a : Option Addr} {n : Nat} {cs : List Value} (h : Reads G H a n cs) (b : Nat) (r : Res) (hb : NotIn b (keys H)) : Reads G ((b, r) :: H) a n cs := fun H' hH k => h H' (fun c s hc => hH c s (by
  have : b ≠ c := fun e => by
    subst e
    exact notIn_iff.1 hb (List.mem_map_of_mem (f := (·.1)) (findH_mem hc))
  rw [findH_ne this]; exact hc)) k
theorem Row.reads {G : PHeap} {a : Option Addr} {vs : List Value} (h : Row G a vs) {n : Nat} (hn : n = vs.length) (H : Heap) : Reads G H a n vs := fun _ _ k => h.rdSlAll hn _ k
theorem Reads.own {G : PHeap} {H : Heap} {b : Nat} {xs sp : List Value} {e : TypeId} (hg : G b = none) (hf : findH H b = some (.cells xs sp e)) {n : Nat} (hn : n = xs.length) : Reads G H (some ⟨b, 0, none⟩) n xs := fun H' hH k => by
  subst hn
  rw [rdSl_lit, rdCells_obj, objsK_none hg, hH _ _ hf, ownsK_cells, Ob_of (by omega)]
  simp
theorem Reads.nil (G : PHeap) (H : Heap) (a : Option Addr) : Reads G H a 0 [] := fun _ _ k => by
  unfold rdSl
  split
  · exact propext rdCells_zero
  · simp
theorem Reads.none {G : PHeap} {H : Heap} {n : Nat} {cs : List Value} (h : Reads G H Option.none n cs) : n = 0 := by
  have := h.now fun _ => True
  rw [rdSl_none] at this
  simpa using this
theorem subAddr_ne (b o l m n : Nat) (h : ¬ m = l) : subAddr b o l m n = ⟨b, o + n, Option.none⟩ := by unfold subAddr; rw [if_neg h]
theorem subOb_same (a : Option Addr) (l n : Nat) : subOb a l l n = a := by unfold subOb; rw [if_pos rfl]
attribute [go_sem] subOb_same subAddr_ne

theorem keys_app (H H' : Heap) : keys (H ++ H') = keys H ++ keys H' := by simp [keys]
theorem NotIn_app {b : Nat} : ∀ {xs ys : List Nat}, NotIn b (xs ++ ys) = (NotIn b xs ∧ NotIn b ys)
  | [], ys => by simp [NotIn]
  | x :: xs, ys => by
    have ih := NotIn_app (b := b) (xs := xs) (ys := ys)
    simp only [List.cons_append, NotIn, ih, and_assoc]
theorem Sep.mid {G : PHeap} {b : Nat} {r : Res} {H : Heap} : ∀ {tb : Heap}, Sep G (keys (tb ++ (b, r) :: H)) → NotIn b (keys tb)
  | [], _ => by simp [NotIn, keys]
  | (c, q) :: tb, h => by
    rw [List.cons_append, keys_cons, Sep_cons, keys_app, keys_cons, NotIn_app, NotIn_cons] at h
    have ih := Sep.mid (G := G) (b := b) (r := r) (H := H) (tb := tb) (by rw [keys_app, keys_cons]; exact h.2)
    rw [keys_cons, NotIn_cons]
    exact ⟨fun e => h.1.2.2.1 e.symm, ih⟩
theorem findH_app {H H' : Heap} {b : Nat} (h : NotIn b (keys H)) : findH (H ++ H') b = findH H' b := by
  induction H with
  | nil => rfl
  | cons p H ih =>
    obtain ⟨c, r⟩ := p
    have h' : b ≠ c ∧ NotIn b (keys H) := h
    simp only [List.cons_append, findH, if_neg (Ne.symm h'.1)]
    exact ih h'.2
theorem setH_app {H H' : Heap} {b : Nat} {r : Res} (h : NotIn b (keys H)) : setH (H ++ H') b r = H ++ setH H' b r := by
  induction H with
  | nil => rfl
  | cons p H ih =>
    obtain ⟨c, r'⟩ := p
    have h' : b ≠ c ∧ NotIn b (keys H) := h
    simp only [List.cons_append, setH, if_neg (Ne.symm h'.1)]
    rw [ih h'.2]
theorem eraseH_app {H H' : Heap} {b : Nat} (h : NotIn b (keys H)) : eraseH (H ++ H') b = H ++ eraseH H' b := by
  induction H with
  | nil => rfl
  | cons p H ih =>
    obtain ⟨c, r'⟩ := p
    have h' : b ≠ c ∧ NotIn b (keys H) := h
    simp only [List.cons_append, eraseH, if_neg (Ne.symm h'.1)]
    rw [ih h'.2]
theorem Sep.app_notIn {G : PHeap} {H H' : Heap} {b : Nat} {r : Res} (h : Sep G (keys (H ++ (b, r) :: H'))) : NotIn b (keys H) := by
  rw [sep_iff, keys_app] at h
  have := (List.nodup_append.1 h.2).2.2
  rw [notIn_iff]
  intro hb
  exact this b hb b (by simp [keys]) rfl
theorem Sep.none {G : PHeap} {H : Heap} {b : Nat} (h : Sep G (keys H)) (hb : b ∈ keys H) : G b = Option.none := (sep_iff.1 h).1 b hb
attribute [go_sem] findH_app setH_app eraseH_app keys_app NotIn_app

/-! ## maps by their entries -/

section assoc
variable {α β : Type} [DecidableEq α]
def aget (k : α) : List (α × β) → Option β
  | [] => none
  | e :: es => if k = e.1 then some e.2 else aget k es
def aput (k : α) (v : β) : List (α × β) → List (α × β)
  | [] => [(k, v)]
  | e :: es => if k = e.1 then (k, v) :: es else e :: aput k v es
def adel (k : α) : List (α × β) → List (α × β)
  | [] => []
  | e :: es => if k = e.1 then es else e :: adel k es
end assoc

/-- how keys are told -/
def KeyEnc {α : Type} [DecidableEq α] (T : Tys) (t : TypeId) (enc : α → Value) : Prop := ∀ a b, keyEq T t (enc a) (enc b) = some (decide (a = b))

section enc
variable {α β : Type} [DecidableEq α] {T : Tys} {t : TypeId} {enc : α → Value} (he : KeyEnc T t enc) (f : β → Value)
include he
theorem findV_enc (k : α) (l : List (α × β)) : findV T t (enc k) (l.map fun p => (enc p.1, f p.2)) = some ((aget k l).map f) := by
  induction l with
  | nil => rfl
  | cons e l ih =>
    have hke := he k e.1
    simp only [List.map_cons, findV, hke, aget]
    by_cases h : k = e.1
    · simp [h]
    · simp [h, ih]
theorem putV_enc (k : α) (v : β) (l : List (α × β)) : putV T t (enc k) (f v) (l.map fun p => (enc p.1, f p.2)) = some ((aput k v l).map fun p => (enc p.1, f p.2)) := by
  induction l with
  | nil => rfl
  | cons e l ih =>
    have hke := he k e.1
    simp only [List.map_cons, putV, hke, aput]
    by_cases h : k = e.1
    · simp [h]
    · simp [h, ih]
theorem delV_enc (k : α) (l : List (α × β)) : delV T t (enc k) (l.map fun p => (enc p.1, f p.2)) = some ((adel k l).map fun p => (enc p.1, f p.2)) := by
  induction l with
  | nil => rfl
  | cons e l ih =>
    have hke := he k e.1
    simp only [List.map_cons, delV, hke, adel]
    by_cases h : k = e.1
    · simp [h]
    · simp [h, ih]
theorem keyOk_enc (k : α) : keyOk T t (enc k) := by unfold keyOk; rw [he k k]; simp
end enc

theorem keyEnc_int {T : Tys} {t : TypeId} {k : IntKind} (h : (T t).k = .int k) : KeyEnc T t (Value.int k) := fun a b => by
  unfold keyEq; rw [h]; simp
theorem keyEnc_str {T : Tys} {t : TypeId} (h : (T t).k = .string) : KeyEnc T t str := fun a b => by
  unfold keyEq str; rw [h]
  simp only [Option.some.injEq]
  rw [Bool.eq_iff_iff]; simp
theorem keyEnc_bool {T : Tys} {t : TypeId} (h : (T t).k = .bool) : KeyEnc T t Value.bool := fun a b => by
  unfold keyEq; rw [h]
  simp only [Option.some.injEq]
  rw [Bool.eq_iff_iff]; simp
theorem keyEnc_two {T : Tys} {t e : TypeId} {k : IntKind} (h : (T t).k = .arr 2 e) (he : (T e).k = .int k) (hs : (T e).size = 1) : KeyEnc T t (fun p : Int × Int => .agg #[.int k p.1, .int k p.2]) := fun a b => by
  unfold keyEq
  simp only [h, he, hs, if_true]
  have := intsK_map k [a.1, a.2]
  have h2 := intsK_map k [b.1, b.2]
  simp only [List.map_cons, List.map_nil] at this h2
  rw [this, h2]
  simp only [List.length_cons, List.length_nil, and_self, if_true, Option.some.injEq, decide_eq_decide, List.cons.injEq, and_true]
  rw [Prod.ext_iff]

end Go.V
