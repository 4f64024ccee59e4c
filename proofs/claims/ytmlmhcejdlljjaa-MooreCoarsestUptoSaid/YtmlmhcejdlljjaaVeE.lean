/-
  The verification layer, part five: slice expressions, append, conversions, builtins.
-/
import Derived.Test.YtmlmhcejdlljjaaVeD
set_option linter.unusedSimpArgs false
set_option linter.unusedVariables false
namespace Go.V
variable {E : Env}

/-! ## slice expressions -/

/-- an optional bound: low, or high -/
def bound (o : Option Value) (d : Int) (k : Int → Prop) (_ : Tok k := .mk) : Prop :=
  match o with
  | none => k d
  | some (.int _ n) => k n
  | some _ => False
theorem bound_none (d : Int) (k : Int → Prop) : bound none d k = k d := rfl
theorem bound_some (a : IntKind) (n d : Int) (k : Int → Prop) : bound (some (.int a n)) d k = k n := rfl

/-- where a slice's part begins -/
def subAddr (b o : Nat) (l m n : Nat) : Addr := if m = l then ⟨b, o, none⟩ else ⟨b, o + n, none⟩
def subOb (a : Option Addr) (l m n : Nat) : Option Addr := if m = l then a else a.map (·.add n)

def opSlice (T : Tys) (t : TypeId) (x : Value) (lo hi mx : Option Value) (k : Value → Prop) (_ : Tok k := .mk) : Prop :=
  match x with
  | .string s => (T t).k = .string ∧ mx = none ∧ bound hi s.data.toList.length fun h => bound lo 0 fun l =>
      Ob (0 ≤ l ∧ l ≤ h ∧ h ≤ s.data.toList.length) (k (.string ⟨((s.data.toList.drop l.toNat).take (h.toNat - l.toNat)).toArray⟩))
  | .slice a len cap => match (T t).k with
    | .slice e => (T e).k ≠ .none ∧ (mx = none ∨ hi.isSome = true) ∧ bound mx cap fun m => bound hi len fun h => bound lo 0 fun l =>
        Ob (0 ≤ l ∧ l ≤ h ∧ h ≤ m ∧ m ≤ cap) (k (.slice (subOb a l.toNat m.toNat (l.toNat * (T e).size)) (h.toNat - l.toNat) (m.toNat - l.toNat)))
    | _ => False
  | .pointer (some ⟨b, o, none⟩) => match (T t).k with
    | .arr n e => (T e).k ≠ .none ∧ mx = none ∧ bound hi n fun h => bound lo 0 fun l =>
        Ob (0 ≤ l ∧ l ≤ h ∧ h ≤ (n : Int)) (k (.slice (some (subAddr b o l.toNat n (l.toNat * (T e).size))) (h.toNat - l.toNat) (n - l.toNat)))
    | _ => False
  | _ => False

theorem sliceBound_eq {a : IntKind} {n : Int} {y : Nat} (code : BoundsCode) (h0 : 0 ≤ n) (h1 : n ≤ y) : Instr.sliceBound (.int a n) y code = pure n.toNat := by
  unfold Instr.sliceBound asIntOf
  simp only [pure_bind]
  rw [if_pos ⟨h0, h1⟩]

theorem bound_elim {o : Option Value} {d : Int} {k : Int → Prop} (h : bound o d k) : ∃ n, k n ∧ ((o = none ∧ n = d) ∨ ∃ a, o = some (.int a n)) := by
  unfold bound at h
  split at h
  · exact ⟨d, h, .inl ⟨rfl, rfl⟩⟩
  · rename_i a n; exact ⟨n, h, .inr ⟨a, rfl⟩⟩
  · exact h.elim

theorem runS_sliceBounds {q : Bool} {P : Program} {G : PHeap} {H : Heap} {isS : Bool} {len cap : Nat} {lo hi mx : Option Value} {l h m : Int} {k : Nat × Nat × Nat → Heap → Prop}
    (hm : (mx = none ∧ m = cap) ∨ ∃ a, mx = some (.int a m)) (hh : (hi = none ∧ h = len) ∨ ∃ a, hi = some (.int a h)) (hl : (lo = none ∧ l = 0) ∨ ∃ a, lo = some (.int a l))
    (hmh : mx = none ∨ hi.isSome = true) (h0 : 0 ≤ l) (h1 : l ≤ h) (h2 : h ≤ m) (h3 : m ≤ cap) (hk : k (l.toNat, h.toNat, m.toNat) H) : runS q P G (Instr.sliceBounds isS len cap lo hi mx) H k := by
  unfold Instr.sliceBounds
  rcases hm with ⟨rfl, rfl⟩ | ⟨am, rfl⟩
  · rcases hh with ⟨rfl, rfl⟩ | ⟨ah, rfl⟩
    · rcases hl with ⟨rfl, rfl⟩ | ⟨al, rfl⟩
      · simp only [pure_bind, runS_pure]
        simpa using hk
      · simp only [pure_bind, sliceBound_eq _ h0 h1, runS_pure]
        simpa using hk
    · have e1 := fun code => sliceBound_eq (a := ah) (y := cap) code (by omega : 0 ≤ h) h2
      rcases hl with ⟨rfl, rfl⟩ | ⟨al, rfl⟩
      · simp only [pure_bind, e1, runS_pure]
        simpa using hk
      · have e2 := fun code => sliceBound_eq (a := al) (y := h.toNat) code h0 (by omega)
        simp only [pure_bind, e1, e2, runS_pure]
        simpa using hk
  · have e0 := fun code => sliceBound_eq (a := am) (y := cap) code (by omega : 0 ≤ m) h3
    rcases hh with ⟨rfl, rfl⟩ | ⟨ah, rfl⟩
    · simp at hmh
    · have e1 := fun code => sliceBound_eq (a := ah) (y := m.toNat) code (by omega : 0 ≤ h) (by omega)
      rcases hl with ⟨rfl, rfl⟩ | ⟨al, rfl⟩
      · simp only [pure_bind, e0, e1, runS_pure]
        exact hk
      · have e2 := fun code => sliceBound_eq (a := al) (y := h.toNat) code h0 (by omega)
        simp only [pure_bind, e0, e1, e2, runS_pure]
        exact hk

theorem opSlice_sound {q : Bool} {P : Program} {T : Tys} (hT : TyOk P T) {G : PHeap} {H : Heap} {t : TypeId} {x : Value} {lo hi mx : Option Value} {kk : Value → Heap → Prop}
    (h : opSlice T t x lo hi mx fun v => kk v H) : runS q P G (Instr.sliceAt t x lo hi mx) H kk := by
  unfold opSlice at h
  split at h
  · rename_i s
    obtain ⟨hk, rfl, h⟩ := h
    obtain ⟨d, hd, hfit⟩ := hT.und hk (by simp)
    simp only [TK.fits] at hfit
    subst hfit
    obtain ⟨h', h, hh⟩ := bound_elim h
    obtain ⟨l', h, hl⟩ := bound_elim h
    obtain ⟨⟨h0, h1, h2⟩, h⟩ := h
    have hlen : s.data.toList.length = s.size := by simp
    rw [hlen] at h2 hh
    simp only [Instr.sliceAt, runS_bind, runS_underlying hd, Instr.slice]
    rw [if_neg (by simp), runS_bind]
    refine runS_sliceBounds (m := s.size) (.inl ⟨rfl, rfl⟩) hh hl (.inl rfl) h0 h1 h2 (Int.le_refl _) ?_
    simp only [runS_pure]
    have : s.extract l'.toNat h'.toNat = ⟨((s.data.toList.drop l'.toNat).take (h'.toNat - l'.toNat)).toArray⟩ := by
      apply ByteArray.ext
      apply Array.ext'
      simp [ByteArray.data_extract, List.extract_eq_take_drop]
    rw [this]; exact h
  · rename_i a len cap
    split at h
    · rename_i e hf
      obtain ⟨hk, hmx, h⟩ := h
      obtain ⟨d, hd, hfit⟩ := hT.und hf (by simp)
      simp only [TK.fits] at hfit
      subst hfit
      obtain ⟨i, z, hi', hs, _⟩ := hT.info hk
      obtain ⟨m, h, hm⟩ := bound_elim h
      obtain ⟨h', h, hh⟩ := bound_elim h
      obtain ⟨l', h, hl⟩ := bound_elim h
      obtain ⟨⟨h0, h1, h2, h3⟩, h⟩ := h
      simp only [Instr.sliceAt, runS_bind, runS_underlying hd, Instr.slice]
      refine runS_sliceBounds hm hh hl hmx h0 h1 h2 h3 ?_
      simp only [runS_sizeOf hi', runS_pure, runS_bind, hs]
      exact h
    · exact h.elim
  · rename_i b o
    split at h
    · rename_i n e hf
      obtain ⟨hk, rfl, h⟩ := h
      obtain ⟨d, hd, hfit⟩ := hT.und hf (by simp)
      simp only [TK.fits] at hfit
      subst hfit
      obtain ⟨i, z, hi', hs, _⟩ := hT.info hk
      obtain ⟨h', h, hh⟩ := bound_elim h
      obtain ⟨l', h, hl⟩ := bound_elim h
      obtain ⟨⟨h0, h1, h2⟩, h⟩ := h
      simp only [Instr.sliceAt, runS_bind, runS_underlying hd, Instr.sureAddr, runS_pure]
      refine runS_sliceBounds (m := n) (.inl ⟨rfl, rfl⟩) hh hl (.inl rfl) h0 h1 h2 (Int.le_refl _) ?_
      simp only [runS_sizeOf hi', runS_pure, runS_bind, hs, addr_add]
      rw [show ((n : Int)).toNat = n by omega]
      have : (if n = l'.toNat then (⟨b, o, none⟩ : Addr) else ⟨b, o + l'.toNat * (T e).size, none⟩) = subAddr b o l'.toNat n (l'.toNat * (T e).size) := by
        unfold subAddr; split <;> rfl
      rw [this]; exact h
    · exact h.elim
  · exact h.elim

/-! ## append -/

def eraseH : Heap → Nat → Heap
  | [], _ => []
  | (k, r) :: H, b => if k = b then H else (k, r) :: eraseH H b

theorem eraseH_sub (H : Heap) (b : Nat) : (eraseH H b).Sublist H := by
  induction H with
  | nil => exact List.Sublist.refl _
  | cons p H ih =>
    obtain ⟨k, r⟩ := p
    simp only [eraseH]
    split
    · exact List.sublist_cons_self _ _
    · exact ih.cons_cons _

/-- what is appended: so many elements, their cells -/
def srcCells (T : Tys) (G : PHeap) (H : Heap) (e : TypeId) (x : Value) (k : Nat → List Value → Prop) (_ : Tok k := .mk) : Prop :=
  match x with
  | .slice a n _ => rdSl G H a (n * (T e).size) fun cs => k n cs
  | .string s => (T e).size = 1 ∧ k s.data.toList.length (s.data.toList.map byteV)
  | _ => False

def oneAll (vs : List Value) : Bool := vs.all oneV

/-- so many cells are put behind a slice without room, of nothing -/
def appZero (T : Tys) (G : PHeap) (H : Heap) (e : TypeId) (a : Option Addr) (k : Value → Heap → Prop) (n : Nat) (new : List Value) (_ : Tok k := .mk) : Prop :=
  Br (decide (n = 0)) (k (.slice a 0 0) H) (Ob (n * (T e).bytes ≤ 140737488355328 ∧ n ≤ 9223372036854775807)
      (NewRow G (keys H) n (T e).size fun b sp cap => k (.slice (some ⟨b, 0, none⟩) n cap) ((b, .cells new sp e) :: H)))
/-- so many cells are put behind a slice of one's own -/
def appOwn (T : Tys) (G : PHeap) (H : Heap) (e : TypeId) (b len cap : Nat) (r : Option Res) (k : Value → Heap → Prop) (n : Nat) (new : List Value) (_ : Tok k := .mk) : Prop :=
  match r with
  | some (.cells xs sp e') => e' = e ∧ Ob (xs.length = len * (T e).size ∧ xs.length + sp.length = cap * (T e).size ∧ (len + n) * (T e).bytes ≤ 140737488355328 ∧ len + n ≤ 9223372036854775807 ∧ oneAll new = true)
        (NewRow G (keys (eraseH H b)) (len + n) (T e).size fun b' sp' cap' => k (.slice (some ⟨b', 0, none⟩) (len + n) cap') ((b', .cells (xs ++ new) sp' e) :: eraseH H b))
  | _ => False
def appV (T : Tys) (G : PHeap) (H : Heap) (e : TypeId) (a : Option Addr) (len cap : Nat) (k : Value → Heap → Prop) (n : Nat) (new : List Value) (_ : Tok k := .mk) : Prop :=
  (len = 0 ∧ cap = 0 ∧ appZero T G H e a k n new) ∨ ∃ b, a = some ⟨b, 0, none⟩ ∧ appOwn T G H e b len cap (findH H b) k n new
theorem appV.zero {T : Tys} {G : PHeap} {H : Heap} {e : TypeId} {a : Option Addr} {k : Value → Heap → Prop} {n : Nat} {new : List Value} (h : appZero T G H e a k n new) : appV T G H e a 0 0 k n new := .inl ⟨rfl, rfl, h⟩
theorem appV.own {T : Tys} {G : PHeap} {H : Heap} {e : TypeId} {b len cap : Nat} {k : Value → Heap → Prop} {n : Nat} {new : List Value} (h : appOwn T G H e b len cap (findH H b) k n new) : appV T G H e (some ⟨b, 0, none⟩) len cap k n new := .inr ⟨b, rfl, h⟩
theorem appOwn_cells {T : Tys} {G : PHeap} {H : Heap} {e : TypeId} {b len cap : Nat} {xs sp : List Value} {e' : TypeId} {k : Value → Heap → Prop} {n : Nat} {new : List Value} :
    appOwn T G H e b len cap (some (.cells xs sp e')) k n new = (e' = e ∧ Ob (xs.length = len * (T e).size ∧ xs.length + sp.length = cap * (T e).size ∧ (len + n) * (T e).bytes ≤ 140737488355328 ∧ len + n ≤ 9223372036854775807 ∧ oneAll new = true)
        (NewRow G (keys (eraseH H b)) (len + n) (T e).size fun b' sp' cap' => k (.slice (some ⟨b', 0, none⟩) (len + n) cap') ((b', .cells (xs ++ new) sp' e) :: eraseH H b))) := rfl

/-- so many cells are put behind a slice -/
def appTo (T : Tys) (G : PHeap) (H : Heap) (e : TypeId) (s : Value) (k : Value → Heap → Prop) (n : Nat) (new : List Value) (_ : Tok k := .mk) : Prop :=
  match s with
  | .slice a len cap => appV T G H e a len cap k n new
  | _ => False

def opAppend (T : Tys) (G : PHeap) (H : Heap) (t u : TypeId) (s x : Value) (k : Value → Heap → Prop) (_ : Tok k := .mk) : Prop :=
  match (T t).k, (T u).k with
  | .slice e, .slice _ | .slice e, .string => ((T e).k ≠ .none ∧ (T e).zero.length = (T e).size ∧ (T e).size ≠ 0) ∧ srcCells T G H e x fun n new => appTo T G H e s k n new
  | _, _ => False

def srcLen : Value → Nat
  | .slice _ n _ => n
  | .string s => s.size
  | _ => 0

theorem rdCells_elim {G : PHeap} {H : Heap} {b o n : Nat} {k : List Value → Prop} (h : rdCells G H b o n k) : ∃ cs, k cs ∧ cs.length = n ∧ ∀ k' : List Value → Prop, k' cs → rdCells G H b o n k' := by
  unfold rdCells Ob at *
  split at h
  · exact ⟨_, h.2, by have := h.1; simp; omega, fun k' hk => ⟨h.1, hk⟩⟩
  · exact ⟨_, h.2, h.1.symm, fun k' hk => ⟨h.1, hk⟩⟩
  · split at h
    · exact ⟨_, h.2, by have := h.1; simp; omega, fun k' hk => ⟨h.1, hk⟩⟩
    · exact ⟨_, h.2, h.1.symm, fun k' hk => ⟨h.1, hk⟩⟩

/-- two symbolic heaps from which the same is read -/
def ReadsAs (G : PHeap) (H H' : Heap) : Prop := ∀ b o n (k : List Value → Prop), rdCells G H b o n k → rdCells G H' b o n k

theorem srcCells_elim {q : Bool} {P : Program} {T : Tys} {G : PHeap} {H : Heap} {e : TypeId} {x : Value} {K : Nat → List Value → Prop} (hs0 : (T e).size ≠ 0) (h : srcCells T G H e x K) :
    ∃ new, K (srcLen x) new ∧ new.length = srcLen x * (T e).size ∧ Builtin.lenOf x = pure (srcLen x) ∧
      ∀ H', ReadsAs G H H' → ∀ k : Array Value → Heap → Prop, k new.toArray H' → runS q P G (Builtin.firstCells (T e).size (srcLen x) x) H' k := by
  unfold srcCells at h
  split at h
  · rename_i a n c
    have zero : n * (T e).size = 0 ∧ K n [] → (∀ s : Nat, ∀ a', a = some a' → n * s = 0 → True) → ∃ new, K (srcLen (.slice a n c)) new ∧ new.length = srcLen (.slice a n c) * (T e).size ∧ Builtin.lenOf (.slice a n c) = pure (srcLen (.slice a n c)) ∧
        ∀ H', ReadsAs G H H' → ∀ k : Array Value → Heap → Prop, k new.toArray H' → runS q P G (Builtin.firstCells (T e).size (srcLen (.slice a n c)) (.slice a n c)) H' k := by
      rintro ⟨h0, h⟩ _
      obtain rfl : n = 0 := by
        rcases Nat.mul_eq_zero.1 h0 with h | h
        · exact h
        · exact absurd h hs0
      refine ⟨[], h, by simp [srcLen], rfl, fun H' _ k hk => ?_⟩
      cases a with
      | none => exact hk
      | some a =>
        simp only [Builtin.firstCells, srcLen, Nat.zero_mul]
        exact hk
    unfold rdSl at h
    split at h
    · rename_i b o
      obtain ⟨cs, h1, h2, h3⟩ := rdCells_elim h
      exact ⟨cs, h1, h2, rfl, fun H' hr k hk => runS_loadCells (hr _ _ _ _ (h3 _ hk))⟩
    · exact zero h (fun _ _ _ _ => trivial)
  · rename_i s
    obtain ⟨hs, h⟩ := h
    have hl : s.data.toList.length = s.size := by simp
    refine ⟨_, by rw [hl] at h; exact h, by simp [srcLen, hs], rfl, fun H' _ k hk => ?_⟩
    simp only [Builtin.firstCells, srcLen, runS_pure]
    have : (s.extract 0 s.size).data.map (fun b => Value.int .u8 b.toNat) = (s.data.toList.map byteV).toArray := by
      apply Array.ext'
      simp only [ByteArray.data_extract, Array.toList_map, Array.toList_extract, List.extract_eq_take_drop, List.drop_zero, Nat.sub_zero]
      rw [List.take_of_length_le (by simp)]
      rfl
    rw [this]; exact hk
  · exact h.elim

theorem ReadsAs.refl (G : PHeap) (H : Heap) : ReadsAs G H H := fun _ _ _ _ h => h

theorem setH_reads {G : PHeap} {H : Heap} {b : Nat} {xs sp xs' sp' : List Value} {e : TypeId} (hf : findH H b = some (.cells xs sp e)) (he : xs ++ sp = xs' ++ sp') : ReadsAs G H (setH H b (.cells xs' sp' e)) := by
  intro c o n k h
  unfold rdCells Ob at *
  split at h
  · exact h
  · exact h
  · have key : ∀ H : Heap, findH H b = some (.cells xs sp e) → findH (setH H b (.cells xs' sp' e)) c = if c = b then some (.cells xs' sp' e) else findH H c := fun H hf => by
      by_cases hcb : c = b
      · subst hcb; rw [if_pos rfl]; exact findH_setH hf
      · rw [if_neg hcb]
        clear h hf
        induction H with
        | nil => rfl
        | cons p H ih =>
          obtain ⟨q, r⟩ := p
          simp only [setH]
          split
          · rename_i hq; subst hq; simp only [findH, if_neg (Ne.symm hcb)]
          · simp only [findH]; split
            · rfl
            · exact ih
    rw [key H hf]
    by_cases hcb : c = b
    · subst hcb
      rw [if_pos rfl]
      rw [hf] at h
      have := congrArg List.length he
      simp only [List.length_append] at this
      simp only [] at h ⊢
      rw [← he, ← this]; exact h
    · rw [if_neg hcb]; exact h

theorem HeapOk.refind {G : PHeap} {H : Heap} {w : World} {b : Nat} {xs sp xs' sp' : List Value} {e : TypeId} (h : HeapOk E G H w) (hf : findH H b = some (.cells xs sp e)) (he : xs ++ sp = xs' ++ sp') :
    HeapOk E G (setH H b (.cells xs' sp' e)) w := by
  obtain ⟨o, ho, fr, hfr, hl⟩ := h.find hf
  refine h.set (r' := .cells xs' sp' e) hf ho ⟨fr, by rw [hfr, he], ?_⟩ (fun c _ => rfl) ⟨rfl, rfl⟩
  have := congrArg List.length he
  simp only [List.length_append] at this
  rw [← this]; exact hl

theorem setH_perm {H : Heap} {b : Nat} {r r' : Res} (h : findH H b = some r) : (setH H b r').Perm ((b, r') :: eraseH H b) := by
  induction H with
  | nil => simp [findH] at h
  | cons p H ih =>
    obtain ⟨k, s⟩ := p
    simp only [findH] at h
    simp only [setH, eraseH]
    split at h
    · rename_i hk; subst hk; rw [if_pos rfl, if_pos rfl]
    · rename_i hk
      rw [if_neg hk, if_neg hk]
      exact ((ih h).cons _).trans (List.Perm.swap _ _ _)

theorem cut_appendCap (need old : Nat) (e : TypeId) (t : Nat) : need ≤ (Question.appendCap need old e).cut t := by simp [Question.cut]

theorem zeroCells_size (z : Array Value) (n : Nat) : (Builtin.zeroCells z n).size = n * z.size := by simp [Builtin.zeroCells]

section app
variable {q : Bool} {P : Program} {G : PHeap} {e t u ty : TypeId} {i : TypeInfo} {z s x : Value} {n : Nat} {new : List Value}

theorem runS_mayShare_any {size sLen m : Nat} {base : Option Addr} {y : Value} : True := trivial

theorem append_fits (hd : P.underlying t = some (.slice e)) (hu : (∃ v, P.underlying u = some (.slice v)) ∨ P.underlying u = some .string) (hi : P.info? e = some i)
    (hlen : Builtin.lenOf x = pure n) {H : Heap} {k : Value → Heap → Prop} {base : Option Addr} {sLen sCap : Nat} (hfit : sLen + n ≤ sCap)
    (hr : runS q P G (Builtin.firstCells i.size n x) H fun new H' => runS q P G (match base with | some a => storeCells (a.add (sLen * i.size)) new.toList | none => pure ()) H' fun _ H'' => k (.slice base (sLen + n) sCap) H'') :
    runS q P G (Builtin.append_ #[t, u] ty #[.slice base sLen sCap, x]) H k := by
  rcases hu with ⟨v, hu⟩ | hu <;> cases base <;>
    simp [Builtin.append_, runS_bind, runS_underlying hd, runS_underlying hu, runS_sizeOf hi, runS_pure, runS_map, hlen, hfit] at hr ⊢ <;> exact hr

theorem append_grows (hd : P.underlying t = some (.slice e)) (hu : (∃ v, P.underlying u = some (.slice v)) ∨ P.underlying u = some .string) (hi : P.info? e = some i) (hz : i.zero = some z)
    (hlen : Builtin.lenOf x = pure n) {H : Heap} {k : Value → Heap → Prop} {base : Option Addr} {sLen sCap : Nat} (hfit : sCap < sLen + n) (h63 : sLen + n ≤ 9223372036854775807)
    (h48 : Builtin.nextslicecap (sLen + n) sCap * i.bytes ≤ 281474976710656)
    (hr : ∀ c, sLen + n ≤ c → runS false P G (Builtin.firstCells i.size sLen (.slice base sLen sCap)) H fun old H' => runS false P G (Builtin.firstCells i.size n x) H' fun new H'' =>
      runS false P G (newRow e (old ++ new ++ Builtin.zeroCells z.cells (c - (sLen + n)))) H'' fun a H3 => k (.slice (some a) (sLen + n) c) H3) :
    runS false P G (Builtin.append_ #[t, u] ty #[.slice base sLen sCap, x]) H k := by
  have h1 : ¬ (sLen + n ≤ sCap) := by omega
  have hm : IntKind.i64.max = 9223372036854775807 := by decide
  have h2 : ¬ ((9223372036854775807 : Int) < (sLen : Int) + (n : Int)) := by omega
  have h3 : ¬ (281474976710656 < Builtin.nextslicecap (sLen + n) sCap * i.bytes) := by omega
  rcases hu with ⟨v, hu⟩ | hu <;>
    simp [Builtin.append_, runS_bind, runS_underlying hd, runS_underlying hu, runS_sizeOf hi, runS_typeInfo hi, runS_zeroValue hi hz, runS_pure, hlen, h1, h2, h3, hm, choose, runS, Question.forced, askRoom, mark] <;>
    (intro tt; have := hr _ (cut_appendCap (sLen + n) sCap e tt); split <;> simpa [runS, runS_pure, runS_map, List.append_assoc] using this)

end app

theorem rep_zeroCells {T : Tys} {e : TypeId} {z : Value} (h : z.cells.toList = (T e).zero) (n : Nat) (hs : (T e).zero.length ≠ 0) : (Builtin.zeroCells z.cells n).toList = rep n (T e).zero := by
  unfold Builtin.zeroCells
  rw [made_eq z.cells n (.inr (by rw [← Array.length_toList, h]; omega)), h]

theorem eraseH_none {H : Heap} {b : Nat} (h : b ∉ keys H) : eraseH H b = H := by
  induction H with
  | nil => rfl
  | cons p H ih =>
    obtain ⟨k, r⟩ := p
    simp only [keys, List.map_cons, List.mem_cons, not_or] at h
    simp only [eraseH, if_neg (Ne.symm h.1)]
    rw [ih h.2]

theorem sep_erase {G : PHeap} {H : Heap} {b : Nat} {r : Res} (hs : Sep G (keys H)) (hf : findH H b = some r) : Sep G (b :: keys (eraseH H b)) := by
  have hp : (b :: keys (eraseH H b)).Perm (keys H) := by
    have h1 := (setH_perm (r' := r) hf).map (·.1)
    have h2 : (setH H b r).map (·.1) = keys H := keys_setH H b r
    rw [h2] at h1
    exact h1.symm
  rw [sep_iff] at hs ⊢
  exact ⟨fun c hc => hs.1 c (hp.mem_iff.1 hc), hp.nodup_iff.2 hs.2⟩

theorem opAppend_sound {P : Program} {T : Tys} (hT : TyOk P T) {G : PHeap} {H : Heap} {t u ty : TypeId} {s x : Value} {kk : Value → Heap → Prop}
    (h : opAppend T G H t u s x kk) : Does P G (Builtin.append_ #[t, u] ty #[s, x]) H kk := by
  unfold opAppend at h
  have key : ∀ e, (T t).k = .slice e → ((∃ v, P.underlying u = some (.slice v)) ∨ P.underlying u = some .string) → ((T e).k ≠ .none ∧ (T e).zero.length = (T e).size ∧ (T e).size ≠ 0) → (srcCells T G H e x fun n new => appTo T G H e s kk n new) →
      Does P G (Builtin.append_ #[t, u] ty #[s, x]) H kk := by
    clear h
    intro e hf hu ⟨hk, hzl, hs0⟩ h
    obtain ⟨d, hd, hfit⟩ := hT.und hf (by simp)
    simp only [TK.fits] at hfit
    subst hfit
    obtain ⟨i, z, hi, hs, hby, hz, hzc⟩ := hT.info hk
    have hz0 : (T e).zero.length ≠ 0 := by rw [hzl]; exact hs0
    obtain ⟨new, h2, hnl, hlen, hread⟩ := srcCells_elim (q := false) (P := P) hs0 h
    clear h
    have h := h2
    clear h2
    rw [← hs] at hread
    unfold appTo at h
    split at h
    · rename_i a len cap
      rcases h with ⟨rfl, rfl, h⟩ | ⟨b, rfl, h⟩
      · -- a slice without room
        unfold appZero at h
        by_cases hn : srcLen x = 0
        · replace h := h.1 (by simp [hn])
          refine Does.of (append_fits hd hu hi hlen (by omega) ?_)
          refine hread H (ReadsAs.refl _ _) _ ?_
          have hnew : new = [] := List.eq_nil_of_length_eq_zero (by rw [hnl, hn, Nat.zero_mul])
          subst hnew
          cases a with
          | none => simp only [runS_pure, hn]; exact h
          | some a =>
            simp only [hn]
            exact h
        · obtain ⟨⟨hb, h63⟩, h⟩ := h.2 (by simp [hn])
          refine Does.weak (k := fun v H' => ∃ b c, srcLen x ≤ c ∧ Sep G (b :: keys H) ∧ v = .slice (some ⟨b, 0, none⟩) (srcLen x) c ∧ H' = (b, .cells (new ++ rep (c - srcLen x) (T e).zero) [] e) :: H) (Does.of ?_) ?_
          · have hg := growslice_fits (need := srcLen x) (old := 0) (bytes := i.bytes) (by omega) (by rw [hby]; exact hb)
            refine append_grows hd hu hi hz hlen (by omega) (by omega) (by simpa using hg) fun c hc => ?_
            have rest : runS false P G (Builtin.firstCells i.size (srcLen x) x) H fun new' H'' => runS false P G (newRow e (#[] ++ new' ++ Builtin.zeroCells z.cells (c - (0 + srcLen x)))) H'' fun a' H3 =>
                ∃ b c', srcLen x ≤ c' ∧ Sep G (b :: keys H) ∧ (Value.slice (some a') (0 + srcLen x) c) = .slice (some ⟨b, 0, none⟩) (srcLen x) c' ∧ H3 = (b, .cells (new ++ rep (c' - srcLen x) (T e).zero) [] e) :: H := by
              refine hread H (ReadsAs.refl _ _) _ ?_
              simp only [newRow, newObj, runS_bind, runS, runS_pure]
              refine ⟨by trivial, by simp [notCellsB], fun b hb => ⟨b, c, by omega, hb, by simp, ?_⟩⟩
              simp only [resOf, if_true]
              congr 2
              simp [rep_zeroCells hzc _ hz0]
            cases a with
            | none => simp only [Builtin.firstCells, runS_pure]; exact rest
            | some a =>
              simp only [Builtin.firstCells, Nat.zero_mul]
              exact rest
          · rintro v H' ⟨b, c, hc, hsep, rfl, rfl⟩
            refine ⟨_, fun E w hw => hw.resplit (xs' := new) (sp' := rep (c - srcLen x) (T e).zero) (by simp), h b _ c hsep ?_⟩
            rw [rep_length, hzl, ← Nat.add_mul]; congr 1; omega
      · generalize hfb : findH H b = fb at h
        unfold appOwn at h
        split at h
        · rename_i xs sp e'
          obtain ⟨rfl, ⟨hxl, hcl, hb, h63, hone⟩, h⟩ := h
          by_cases hfits : len + srcLen x ≤ cap
          · -- there is room
            have hr1 : ReadsAs G H (setH H b (.cells (xs ++ sp) [] e')) := setH_reads hfb (by simp)
            have hfb1 : findH (setH H b (.cells (xs ++ sp) [] e')) b = some (.cells (xs ++ sp) [] e') := findH_setH hfb
            have hnsp : new.length ≤ sp.length := by
              have : (len + srcLen x) * (T e').size ≤ cap * (T e').size := Nat.mul_le_mul_right _ hfits
              rw [Nat.add_mul] at this; omega
            intro E w hw
            have hw1 := hw.refind (xs' := xs ++ sp) (sp' := []) hfb (by simp)
            have hrun : runS false P G (Builtin.append_ #[t, u] ty #[.slice (some ⟨b, 0, none⟩) len cap, x]) (setH H b (.cells (xs ++ sp) [] e'))
                (fun v H' => v = .slice (some ⟨b, 0, none⟩) (len + srcLen x) cap ∧ H' = setH H b (.cells (xs ++ new ++ sp.drop new.length) [] e')) := by
              refine append_fits hd hu hi hlen hfits ?_
              refine hread _ hr1 _ ?_
              simp only [addr_add, Nat.zero_add]
              refine runS_storeCells _ 0 ?_
              unfold wrCells Ob
              simp only [Nat.add_zero, hfb1, setH_setH]
              refine ⟨⟨by simp; rw [hs]; omega, hone⟩, trivial, ?_⟩
              congr 2
              unfold splice
              rw [hs, ← hxl, List.take_left', List.drop_append]
              · simp
              · rfl
            obtain ⟨v, w', H', e1, e2, rfl, rfl⟩ := runS_sound _ hw1 hrun
            refine ⟨_, w', _, e1, ?_, h b (sp.drop new.length) cap (sep_erase hw.sep hfb) ?_⟩
            · have hp := e2.perm (setH_perm (r' := .cells (xs ++ new ++ sp.drop new.length) [] e') hfb)
              exact hp.resplit (by simp)
            · rw [List.length_drop, Nat.add_mul, ← hnl]; omega
          · -- it grows
            intro E w hw
            have hg0 := hw.none hfb
            refine Does.weak (k := fun v H' => ∃ b' c, len + srcLen x ≤ c ∧ Sep G (b' :: keys H) ∧ v = .slice (some ⟨b', 0, none⟩) (len + srcLen x) c ∧ H' = (b', .cells (xs ++ new ++ rep (c - (len + srcLen x)) (T e').zero) [] e') :: H) (Does.of ?_) ?_ w hw
            · have hg := growslice_fits (need := len + srcLen x) (old := cap) (bytes := i.bytes) (by omega) (by rw [hby]; exact hb)
              refine append_grows hd hu hi hz hlen (by omega) h63 hg fun c hc => ?_
              simp only [Builtin.firstCells]
              refine runS_loadCells ?_
              unfold rdCells Ob
              simp only [hg0, hfb]
              refine ⟨by rw [hs]; omega, ?_⟩
              have ht : List.take (len * i.size) (List.drop 0 (xs ++ sp)) = xs := by
                rw [List.drop_zero, hs, ← hxl, List.take_left']
                rfl
              rw [ht]
              refine hread H (ReadsAs.refl _ _) _ ?_
              simp only [newRow, newObj, runS_bind, runS, runS_pure]
              refine ⟨by trivial, by simp [notCellsB], fun b' hb' => ⟨b', c, hc, hb', rfl, ?_⟩⟩
              simp only [resOf, if_true]
              congr 2
              simp [rep_zeroCells hzc _ hz0]
            · rintro v H' ⟨b', c, hc, hsep, rfl, rfl⟩
              refine ⟨(b', .cells (xs ++ new) (rep (c - (len + srcLen x)) (T e').zero) e') :: eraseH H b, fun E w hw => ?_, h b' _ c ?_ ?_⟩
              · exact (hw.resplit (xs' := xs ++ new) (sp' := rep (c - (len + srcLen x)) (T e').zero) (by simp)).sub ((eraseH_sub H b).cons_cons _)
              · rw [sep_iff] at hsep ⊢
                have hsub : (b' :: keys (eraseH H b)).Sublist (b' :: keys H) := ((eraseH_sub H b).map _).cons_cons _
                exact ⟨fun c hc => hsep.1 c (hsub.subset hc), hsep.2.sublist hsub⟩
              · rw [rep_length, hzl, ← Nat.add_mul]; congr 1; omega
        · exact h.elim
    · exact h.elim
  split at h
  · rename_i e v hf hu
    obtain ⟨d, hd, hfit⟩ := hT.und hu (by simp)
    simp only [TK.fits] at hfit
    subst hfit
    exact key e hf (.inl ⟨v, hd⟩) h.1 h.2
  · rename_i e hf hu
    obtain ⟨d, hd, hfit⟩ := hT.und hu (by simp)
    simp only [TK.fits] at hfit
    subst hfit
    exact key e hf (.inr hd) h.1 h.2
  · exact h.elim

end Go.V
