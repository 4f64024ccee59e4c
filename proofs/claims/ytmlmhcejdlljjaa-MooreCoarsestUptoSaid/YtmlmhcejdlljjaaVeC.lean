/-
  The verification layer, part three: memory, slices and strings.
-/
import Derived.Test.YtmlmhcejdlljjaaVeB
set_option linter.unusedSimpArgs false
set_option linter.unusedVariables false
namespace Go.V

def byteV (c : UInt8) : Value := .int .u8 c.toNat
def intV (n : Int) : Value := .int .i64 n
def strV (l : List UInt8) : Value := .string ⟨l.toArray⟩

/-! ## rows of cells read at once -/

def rdCells (G : PHeap) (H : Heap) (b off n : Nat) (k : List Value → Prop) (_ : Tok k := .mk) : Prop :=
  match G b with
  | some (.cells c _ _) => Ob (n = 0 ∨ off + n ≤ c.size) (k ((c.toList.drop off).take n))
  | some _ => n = 0 ∧ k []
  | none => match findH H b with
    | some (.cells xs sp _) => Ob (n = 0 ∨ off + n ≤ xs.length + sp.length) (k (((xs ++ sp).drop off).take n))
    | _ => n = 0 ∧ k []

theorem rdCells_zero {G : PHeap} {H : Heap} {b off : Nat} {k : List Value → Prop} : rdCells G H b off 0 k ↔ k [] := by
  unfold rdCells Ob
  split <;> (try split) <;> simp

theorem rdCell_of {G : PHeap} {H : Heap} {b off : Nat} {v : Value} {k : Value → Prop}
    (h : rdCells G H b off 1 fun l => l = [v]) (hk : k v) : rdCell G H ⟨b, off, none⟩ k := by
  unfold rdCells Ob at h
  unfold rdCell
  rw [if_neg (by simp)]
  have key : ∀ l : List Value, off + 1 ≤ l.length → (l.drop off).take 1 = [v] → l[off]? = some v := fun l hl h => by
    have := congrArg (·[0]?) h
    simpa [List.getElem?_take] using this
  split at h
  · rename_i c e f hp
    simp only [hp]
    have := key c.toList (by have := h.1; simp; omega) h.2
    rw [show c[off]? = some v by simpa using this]; exact hk
  · exact absurd h.1 (by simp)
  · rename_i hp
    simp only [hp]
    split at h
    · rename_i xs sp e hf
      simp only [hf]
      have := key (xs ++ sp) (by have := h.1; simp; omega) h.2
      simp only [this]; exact hk
    · exact absurd h.1 (by simp)

theorem addr_add (b o n : Nat) : (⟨b, o, none⟩ : Addr).add n = ⟨b, o + n, none⟩ := by
  unfold Addr.add; split <;> simp_all

theorem runS_load {q : Bool} {P : Program} {G : PHeap} (a : Addr) (m : Mode) (H : Heap) (k : Value → Heap → Prop) : runS q P G (load a m) H k = rdCell G H a fun v => k v H := rfl

theorem runS_loadFrom {q : Bool} {P : Program} {G : PHeap} {H : Heap} {b off : Nat} : ∀ (n i : Nat) (acc : Array Value) {k : Array Value → Heap → Prop},
    rdCells G H b (off + i) n (fun cs => k (acc ++ cs.toArray) H) → runS q P G (loadCellsFrom ⟨b, off, none⟩ i n acc) H k
  | 0, i, acc, k, h => by
    have : k acc H := by
      have := rdCells_zero.1 h
      simpa using this
    exact this
  | n + 1, i, acc, k, h => by
    unfold loadCellsFrom
    rw [runS_bind, runS_load, addr_add]
    have step : ∀ l : List Value, off + i + (n + 1) ≤ l.length → ∃ v, (l.drop (off + i)).take 1 = [v] ∧ (l.drop (off + i)).take (n + 1) = v :: (l.drop (off + (i + 1))).take n := fun l hl => by
      have hlt : off + i < l.length := by omega
      refine ⟨l[off + i], ?_, ?_⟩
      · rw [List.drop_eq_getElem_cons hlt, List.take_succ_cons, List.take_zero]
      · rw [List.drop_eq_getElem_cons hlt, List.take_succ_cons, Nat.add_assoc]
    unfold rdCells Ob at h
    split at h
    · rename_i c e f hp
      have hle : off + i + (n + 1) ≤ c.size := by have := h.1; omega
      obtain ⟨v, h1, h2⟩ := step c.toList (by simpa using hle)
      refine rdCell_of (v := v) ?_ (runS_loadFrom n (i + 1) (acc.push v) ?_)
      · unfold rdCells Ob; simp only [hp]; exact ⟨by omega, h1⟩
      · unfold rdCells Ob; simp only [hp]
        refine ⟨by omega, ?_⟩
        have := h.2; rw [h2] at this; simpa using this
    · exact absurd h.1 (by simp)
    · rename_i hp
      split at h
      · rename_i xs sp e hf
        have hle : off + i + (n + 1) ≤ xs.length + sp.length := by have := h.1; omega
        obtain ⟨v, h1, h2⟩ := step (xs ++ sp) (by simpa using hle)
        refine rdCell_of (v := v) ?_ (runS_loadFrom n (i + 1) (acc.push v) ?_)
        · unfold rdCells Ob; simp only [hp, hf]; exact ⟨by omega, h1⟩
        · unfold rdCells Ob; simp only [hp, hf]
          refine ⟨by omega, ?_⟩
          have := h.2; rw [h2] at this; simpa using this
      · exact absurd h.1 (by simp)

/-- where a slice stands; of none: nowhere -/
def blk (a : Option Addr) : Nat := match a with | some a => a.block | none => 0
def ofs (a : Option Addr) : Nat := match a with | some a => a.off | none => 0
/-- a slice stands somewhere -/
def Adr (a : Option Addr) : Prop := a = some ⟨blk a, ofs a, none⟩
theorem blk_lit (b o : Nat) (s : Option Nat) : blk (some ⟨b, o, s⟩) = b := rfl
theorem ofs_lit (b o : Nat) (s : Option Nat) : ofs (some ⟨b, o, s⟩) = o := rfl
theorem Adr_lit (b o : Nat) : Adr (some ⟨b, o, none⟩) = True := eq_true rfl

/-- a row of cells, all of them, of a slice that may be none -/
def rdSl (G : PHeap) (H : Heap) (a : Option Addr) (n : Nat) (k : List Value → Prop) (_ : Tok k := .mk) : Prop :=
  match a with
  | some ⟨b, o, none⟩ => rdCells G H b o n k
  | _ => n = 0 ∧ k []
theorem rdSl_lit (G : PHeap) (H : Heap) (b o n : Nat) (k : List Value → Prop) : rdSl G H (some ⟨b, o, none⟩) n k = rdCells G H b o n k := rfl
theorem rdSl_none (G : PHeap) (H : Heap) (n : Nat) (k : List Value → Prop) : rdSl G H none n k = (n = 0 ∧ k []) := rfl

theorem runS_loadCells {q : Bool} {P : Program} {G : PHeap} {H : Heap} {b off n : Nat} {k : Array Value → Heap → Prop}
    (h : rdCells G H b off n fun cs => k cs.toArray H) : runS q P G (loadCells ⟨b, off, none⟩ n) H k := by
  unfold loadCells
  refine runS_loadFrom n 0 #[] ?_
  have : (fun cs : List Value => k (#[] ++ cs.toArray) H) = fun cs => k cs.toArray H := by funext cs; simp
  rw [this]
  exact h

/-- a value of some cells, written -/
def splice (xs : List Value) (off : Nat) (vs : List Value) : List Value := xs.take off ++ vs ++ xs.drop (off + vs.length)

def wrCells (H : Heap) (b off : Nat) (vs : List Value) (k : Heap → Prop) (_ : Tok k := .mk) : Prop :=
  match findH H b with
  | some (.cells xs sp e) => Ob (off + vs.length ≤ xs.length ∧ vs.all oneV = true) (k (setH H b (.cells (splice xs off vs) sp e)))
  | _ => False

theorem findH_setH {H : Heap} {b : Nat} {r r' : Res} (h : findH H b = some r) : findH (setH H b r') b = some r' := by
  induction H with
  | nil => simp [findH] at h
  | cons p H ih =>
    obtain ⟨k, s⟩ := p
    simp only [findH] at h
    simp only [setH]
    split at h
    · rename_i hk; rw [if_pos hk]; simp [findH, hk]
    · rename_i hk; rw [if_neg hk]; simp only [findH, if_neg hk]; exact ih h

theorem setH_setH {H : Heap} {b : Nat} {r r' : Res} : setH (setH H b r) b r' = setH H b r' := by
  induction H with
  | nil => rfl
  | cons p H ih =>
    obtain ⟨k, s⟩ := p
    simp only [setH]
    by_cases hk : k = b
    · rw [if_pos hk, if_pos hk]; simp only [setH, if_pos hk]
    · rw [if_neg hk, if_neg hk]; simp only [setH, if_neg hk, ih]

theorem runS_store {P : Program} {G : PHeap} (a : Addr) (v : Value) (m : Mode) (H : Heap) (k : Unit → Heap → Prop) (h : wrCell H a v fun H' => k () H') : runS false P G (store a v m) H k := ⟨rfl, h⟩

theorem splice_cons {xs : List Value} {off : Nat} {v : Value} {vs : List Value} (h : off < xs.length) : splice (xs.set off v) (off + 1) vs = splice xs off (v :: vs) := by
  unfold splice
  rw [List.take_set, List.drop_set_of_lt (by omega)]
  simp only [List.length_cons]
  rw [show off + 1 + vs.length = off + (vs.length + 1) by omega]
  congr 1
  rw [List.take_succ_eq_append_getElem h, List.set_append_right _ _ (by simp; omega)]
  simp [Nat.min_eq_left (Nat.le_of_lt h)]

theorem runS_storeCells {P : Program} {G : PHeap} {b off : Nat} : ∀ (vs : List Value) (i : Nat) {H : Heap} {k : Unit → Heap → Prop},
    wrCells H b (off + i) vs (fun H' => k () H') → runS false P G (storeCells ⟨b, off, none⟩ vs i) H k
  | [], i, H, k, h => by
    have : k () H := by
      unfold wrCells Ob at h
      split at h
      · rename_i xs sp e hf
        have h2 := h.2
        have e1 : splice xs (off + i) [] = xs := by simp [splice]
        rw [e1] at h2
        have e2 : setH H b (.cells xs sp e) = H := by
          clear h h2 e1
          induction H with
          | nil => rfl
          | cons p H ih =>
            obtain ⟨c, s⟩ := p
            simp only [findH] at hf
            simp only [setH]
            split at hf
            · rename_i hk; rw [if_pos hk]; cases hf; rfl
            · rename_i hk; rw [if_neg hk, ih hf]
        rw [e2] at h2; exact h2
      · exact h.elim
    exact this
  | v :: vs, i, H, k, h => by
    unfold storeCells
    rw [runS_bind, addr_add]
    refine runS_store _ _ _ _ _ ?_
    unfold wrCells Ob at h
    unfold wrCell
    rw [if_neg (by simp)]
    split at h
    · rename_i xs sp e hf
      simp only [hf]
      obtain ⟨⟨h1, h2⟩, h3⟩ := h
      simp only [List.length_cons] at h1
      simp only [List.all_cons, Bool.and_eq_true] at h2
      refine ⟨h2.1, .inl ⟨by omega, runS_storeCells vs (i + 1) ?_⟩⟩
      unfold wrCells Ob
      simp only [findH_setH hf, setH_setH]
      refine ⟨⟨by simp; omega, h2.2⟩, ?_⟩
      rw [← Nat.add_assoc, splice_cons (by omega)]
      exact h3
    · exact h.elim

theorem splice_one {xs : List Value} {off : Nat} {v : Value} (h : off < xs.length) : splice xs off [v] = xs.set off v := by
  rw [← splice_cons h]; simp [splice]

/-! ## load and store -/

def opLoad (T : Tys) (G : PHeap) (H : Heap) (t : TypeId) (a : Value) (k : Value → Prop) (_ : Tok k := .mk) : Prop :=
  match a with
  | .pointer (some ⟨b, o, none⟩) => match (T t).k with
    | .none => False
    | .struct _ | .arr .. => rdCells G H b o (T t).size fun cs => k (.agg cs.toArray)
    | _ => rdCell G H ⟨b, o, none⟩ k
  | _ => False

theorem opLoad_sound {q : Bool} {P : Program} {T : Tys} (hT : TyOk P T) {G : PHeap} {H : Heap} {t : TypeId} {a : Value} {kk : Value → Heap → Prop}
    (h : opLoad T G H t a fun v => kk v H) : runS q P G (Instr.loadAt t a) H kk := by
  unfold opLoad at h
  split at h
  · rename_i b o
    simp only [Instr.loadAt, Instr.sureAddr, runS_bind, runS_pure, loadVar]
    have hk : (T t).k ≠ .none := by intro e; simp only [e] at h
    obtain ⟨i, z, hi, hs, _⟩ := hT.info hk
    rw [runS_isAgg hT hk]
    have agg : (T t).k.agg = true → (rdCells G H b o (T t).size fun cs => kk (.agg cs.toArray) H) →
        runS q P G (if (T t).k.agg = true then do pure (.agg (← loadCells ⟨b, o, none⟩ (← sizeOf t))) else load ⟨b, o, none⟩) H kk := fun ha h => by
      rw [if_pos ha, runS_bind, runS_sizeOf hi, runS_bind, hs]
      exact runS_loadCells h
    split at h
    · exact h.elim
    · rename_i fs hf; exact agg (by rw [hf]; rfl) h
    · rename_i n e hf; exact agg (by rw [hf]; rfl) h
    · rename_i hn1 hn2 hn3
      have : (T t).k.agg = false := by
        cases hkk : (T t).k <;> simp only [TK.agg] <;> simp_all
      rw [if_neg (by simp [this]), runS_load]
      exact h
  · exact h.elim

def cellsV (v : Value) : List Value := match v with | .agg cs => cs.toList | v => [v]
theorem cellsV_eq (v : Value) : v.cells.toList = cellsV v := by cases v <;> rfl

def opStore (T : Tys) (H : Heap) (t : TypeId) (a v : Value) (k : Heap → Prop) (_ : Tok k := .mk) : Prop :=
  match a with
  | .pointer (some ⟨b, o, none⟩) => (T t).k ≠ .none ∧ Ob ((cellsV v).length = (T t).size) (wrCells H b o (cellsV v) k)
  | _ => False

theorem opStore_sound {P : Program} {T : Tys} (hT : TyOk P T) {G : PHeap} {H : Heap} {t : TypeId} {a v : Value} {kk : Unit → Heap → Prop}
    (h : opStore T H t a v fun H' => kk () H') : runS false P G (Instr.storeAt t a v) H kk := by
  unfold opStore at h
  split at h
  · rename_i b o
    obtain ⟨hk, hl, h⟩ := h
    simp only [Instr.storeAt, Instr.sureAddr, runS_bind, runS_pure, storeVar]
    obtain ⟨i, z, hi, hs, _⟩ := hT.info hk
    rw [runS_sizeOf hi]
    have hc : v.cells.size = i.size := by rw [hs, ← hl, ← cellsV_eq]; simp
    rw [if_neg (by simp [hc]), cellsV_eq]
    exact runS_storeCells _ 0 h
  · exact h.elim

/-! ## addresses -/

def opField (T : Tys) (s : TypeId) (x : Value) (f : Nat) (k : Value → Prop) (_ : Tok k := .mk) : Prop :=
  match x with
  | .pointer (some ⟨b, o, none⟩) => match (T s).k with
    | .struct fs => match fs[f]? with
      | some (off, t) => (T t).k ≠ .none ∧ (T t).size ≠ 0 ∧ k (.pointer (some ⟨b, o + off, none⟩))
      | none => False
    | _ => False
  | _ => False

theorem opField_sound {q : Bool} {P : Program} {T : Tys} (hT : TyOk P T) {G : PHeap} {H : Heap} {s : TypeId} {x : Value} {f : Nat} {kk : Value → Heap → Prop}
    (h : opField T s x f fun v => kk v H) : runS q P G (Instr.fieldAt s x f) H kk := by
  unfold opField at h
  split at h
  · rename_i b o
    split at h
    · rename_i fs hf
      split at h
      · rename_i off t hft
        obtain ⟨hk, hs0, h⟩ := h
        obtain ⟨d, hd, hfit⟩ := hT.und hf (by simp)
        obtain ⟨fa, rfl, rfl⟩ := hfit
        obtain ⟨i, z, hi, hs, _⟩ := hT.info hk
        have hfa : ∃ fd, fa[f]? = some fd ∧ fd.offset = off ∧ fd.type = t := by
          rw [List.getElem?_map] at hft
          simp only [Option.map_eq_some_iff, Prod.mk.injEq] at hft
          obtain ⟨fd, h1, h2, h3⟩ := hft
          exact ⟨fd, by simpa using h1, h2, h3⟩
        obtain ⟨fd, hfd, rfl, rfl⟩ := hfa
        simp only [Instr.fieldAt, runS_bind, runS_underlying hd, hfd, Instr.sureAddr, runS_pure, fieldPlace, runS_sizeOf hi]
        rw [if_neg (by rw [hs]; exact hs0), runS_pure, addr_add]
        exact h
      · exact h.elim
    · exact h.elim
  · exact h.elim

def opIndexAddr (T : Tys) (t : TypeId) (x i : Value) (k : Value → Prop) (_ : Tok k := .mk) : Prop :=
  match i with
  | .int _ n => match x, (T t).k with
    | .slice a len _, .slice e => (T e).k ≠ .none ∧ Ob (0 ≤ n ∧ n < (len : Int)) (Ob (Adr a) (k (.pointer (some ⟨blk a, ofs a + n.toNat * (T e).size, none⟩))))
    | .pointer (some ⟨b, o, none⟩), .arr len e => (T e).k ≠ .none ∧ Ob (0 ≤ n ∧ n < (len : Int)) (k (.pointer (some ⟨b, o + n.toNat * (T e).size, none⟩)))
    | _, _ => False
  | _ => False

theorem opIndexAddr_sound {q : Bool} {P : Program} {T : Tys} (hT : TyOk P T) {G : PHeap} {H : Heap} {t : TypeId} {x i : Value} {kk : Value → Heap → Prop}
    (h : opIndexAddr T t x i fun v => kk v H) : runS q P G (Instr.indexAt t x i) H kk := by
  unfold opIndexAddr at h
  split at h
  · rename_i kd n
    split at h
    · rename_i ad len cap e hf
      obtain ⟨hk, hn, had, h⟩ := h
      unfold Adr at had
      rw [had]
      obtain ⟨d, hd, hfit⟩ := hT.und hf (by simp)
      simp only [TK.fits] at hfit
      subst hfit
      obtain ⟨i, z, hi, hs, _⟩ := hT.info hk
      simp only [Instr.indexAt, asIntOf, runS_bind, runS_underlying hd, runS_pure, bind_pure_comp]
      simp only [hn, and_self, if_true]
      cases decide (len ≤ 1) <;> simp only [Bool.false_and, Bool.true_and, runS_map, runS_sizeOf hi, addr_add, hs] <;> exact h
    · rename_i b o len e hf
      obtain ⟨hk, hn, h⟩ := h
      obtain ⟨d, hd, hfit⟩ := hT.und hf (by simp)
      simp only [TK.fits] at hfit
      subst hfit
      obtain ⟨i, z, hi, hs, _⟩ := hT.info hk
      simp only [Instr.indexAt, asIntOf, runS_bind, runS_underlying hd, runS_pure, bind_pure_comp, Instr.sureAddr]
      simp only [hn, and_self, if_true]
      cases decide (len ≤ 1) <;> simp only [Bool.false_and, Bool.true_and, runS_map, runS_sizeOf hi, addr_add, hs] <;> exact h
    · exact h.elim
  · exact h.elim

end Go.V
