/-
  The verification layer, part six: len, copy, min, max; conversions; values and slices built.
-/
import Derived.Test.YtmlmhcejdlljjaaVeE
set_option linter.unusedSimpArgs false
set_option linter.unusedVariables false
namespace Go.V

def opLen (T : Tys) (t : TypeId) (x : Value) (k : Value → Prop) (_ : Tok k := .mk) : Prop :=
  match x with
  | .string s => (T t).k = .string ∧ k (.int .i64 s.data.toList.length)
  | .slice _ n _ => match (T t).k with
    | .slice _ => k (.int .i64 n)
    | _ => False
  | .map none => match (T t).k with
    | .map .. => k (.int .i64 0)
    | _ => False
  | _ => match (T t).k with
    | .arr n _ => k (.int .i64 n)
    | _ => False

theorem opLen_sound {q : Bool} {P : Program} {T : Tys} (hT : TyOk P T) {G : PHeap} {H : Heap} {t ty : TypeId} {x : Value} {kk : Value → Heap → Prop}
    (h : opLen T t x fun v => kk v H) : runS q P G (Builtin.len_ #[t] ty #[x]) H kk := by
  unfold opLen at h
  split at h
  · rename_i s
    obtain ⟨hk, h⟩ := h
    obtain ⟨d, hd, hfit⟩ := hT.und hk (by simp)
    simp only [TK.fits] at hfit
    subst hfit
    simp [Builtin.len_, runS_bind, runS_underlying hd, runS_pure, goInt]
    simpa using h
  · split at h
    · rename_i n c e hf
      obtain ⟨d, hd, hfit⟩ := hT.und hf (by simp)
      simp only [TK.fits] at hfit
      subst hfit
      simp [Builtin.len_, runS_bind, runS_underlying hd, runS_pure, goInt]
      exact h
    · exact h.elim
  · split at h
    · rename_i a b hf
      obtain ⟨d, hd, hfit⟩ := hT.und hf (by simp)
      simp only [TK.fits] at hfit
      subst hfit
      simp [Builtin.len_, runS_bind, runS_underlying hd, runS_pure, goInt]
      exact h
    · exact h.elim
  · split at h
    · rename_i n e hf
      obtain ⟨d, hd, hfit⟩ := hT.und hf (by simp)
      simp only [TK.fits] at hfit
      subst hfit
      simp [Builtin.len_, runS_bind, runS_underlying hd, runS_pure, goInt]
      exact h
    · exact h.elim

/-! ## min and max of integers -/

def minI (a b : Int) : Int := if b < a then b else a
def maxI (a b : Int) : Int := if a < b then b else a

def opMin (vs : List Value) (k : Value → Prop) (_ : Tok k := .mk) : Prop :=
  match vs with
  | [.int a m, .int b n] => k (.int a (minI m n))
  | _ => False
def opMax (vs : List Value) (k : Value → Prop) (_ : Tok k := .mk) : Prop :=
  match vs with
  | [.int a m, .int b n] => k (.int a (maxI m n))
  | _ => False

theorem opMin_sound {q : Bool} {P : Program} {G : PHeap} {H : Heap} {ts : Array TypeId} {ty : TypeId} {vs : List Value} {kk : Value → Heap → Prop} (h : opMin vs fun v => kk v H) :
    runS q P G (Builtin.min_ ts ty vs.toArray) H kk := by
  unfold opMin at h
  split at h
  · simp [Builtin.min_, Builtin.min2, runS_pure]; exact h
  · exact h.elim
theorem opMax_sound {q : Bool} {P : Program} {G : PHeap} {H : Heap} {ts : Array TypeId} {ty : TypeId} {vs : List Value} {kk : Value → Heap → Prop} (h : opMax vs fun v => kk v H) :
    runS q P G (Builtin.max_ ts ty vs.toArray) H kk := by
  unfold opMax at h
  split at h
  · simp [Builtin.max_, Builtin.max2, runS_pure]; exact h
  · exact h.elim

/-! ## conversions -/

/-- cells that are bytes -/
def asBytes (cs : List Value) (k : List UInt8 → Prop) (_ : Tok k := .mk) : Prop := ∃ bs : List UInt8, cs = bs.map byteV ∧ k bs
theorem asBytes_map (bs : List UInt8) (k : List UInt8 → Prop) : asBytes (bs.map byteV) k = k bs := by
  apply propext
  constructor
  · rintro ⟨cs, h, hk⟩
    have : bs = cs := by
      have hinj : ∀ a b : UInt8, byteV a = byteV b → a = b := fun a b h => by
        simp only [byteV, Value.int.injEq, true_and] at h
        exact UInt8.toNat_inj.1 (by omega)
      exact (List.map_inj_right fun {a b} h => hinj a b h).1 h
    subst this; exact hk
  · intro h; exact ⟨bs, rfl, h⟩
theorem asBytes_nil (k : List UInt8 → Prop) : asBytes [] k = k [] := asBytes_map [] k


/-- an own block of cells -/
def convK (r : Option Res) (k : Unit → Prop) (_ : Tok k := .mk) : Prop := match r with
  | some (.cells _ _ _) => k ()
  | _ => False
theorem convK_cells {xs sp : List Value} {e : TypeId} {k : Unit → Prop} : convK (some (.cells xs sp e)) k = k () := rfl

def opConv (T : Tys) (G : PHeap) (H : Heap) (src dst : TypeId) (x : Value) (k : Value → Heap → Prop) (_ : Tok k := .mk) : Prop :=
  match x with
  | .int _ n => match (T src).k, (T dst).k with
    | .int _, .int a => k (.int a (a.wrap n)) H
    | _, _ => False
  | .string s => match (T src).k, (T dst).k with
    | .string, .string => k (.string s) H
    | .string, .slice e => (T e).k = .int .u8 ∧ (T e).size = 1 ∧ NewRow G (keys H) s.data.toList.length 1 fun b sp cap => k (.slice (some ⟨b, 0, none⟩) s.data.toList.length cap) ((b, .cells (s.data.toList.map byteV) sp e) :: H)
    | _, _ => False
  | .slice a n _ => match (T src).k, (T dst).k with
    | .slice e, .string => (T e).k = .int .u8 ∧ rdSl G H a n fun cs => asBytes cs fun bs => k (.string ⟨bs.toArray⟩) H
    | .slice _, .slice e => src = dst ∧ (T e).k = .int .u8 ∧ Ob (Adr a ∧ G (blk a) = none) (convK (findH H (blk a)) fun _ => k x H)
    | _, _ => False
  | _ => False

theorem bytesFold {q : Bool} {P : Program} {G : PHeap} (bad : Value → ByteArray → Sem (ForInStep ByteArray)) (bs : List UInt8) : ∀ (acc : ByteArray) (H : Heap) (k : ByteArray → Heap → Prop), k ⟨acc.data ++ bs.toArray⟩ H →
    runS q P G (forIn (bs.map byteV) acc fun c r => (match c with | .int .u8 n => pure (ForInStep.yield (r.push (UInt8.ofNat n.toNat))) | c => bad c r : Sem (ForInStep ByteArray))) H k := by
  induction bs with
  | nil => intro acc H k h; simpa [runS_pure] using h
  | cons c bs ih =>
    intro acc H k h
    simp only [List.map_cons, List.forIn_cons, byteV, runS_bind, runS_pure]
    refine ih _ H k ?_
    have : (⟨(acc.push (UInt8.ofNat ((c.toNat : Int)).toNat)).data ++ bs.toArray⟩ : ByteArray) = ⟨acc.data ++ (c :: bs).toArray⟩ := by
      congr 1
      apply Array.ext'
      simp
    rw [this]; exact h

theorem opConv_sound {P : Program} {T : Tys} (hT : TyOk P T) {G : PHeap} {H : Heap} {src dst : TypeId} {x : Value} {kk : Value → Heap → Prop}
    (h : opConv T G H src dst x kk) : Does P G (convert src dst x) H kk := by
  unfold opConv at h
  split at h
  · split at h
    · rename_i a n j b hs hd
      obtain ⟨d1, hd1, hf1⟩ := hT.und hs (by simp)
      obtain ⟨d2, hd2, hf2⟩ := hT.und hd (by simp)
      simp only [TK.fits] at hf1 hf2
      subst hf1; subst hf2
      refine Does.of ?_
      simp only [convert, runS_bind, runS_underlying hd1, runS_underlying hd2, Conv.intToInt, runS_pure]
      exact h
    · exact h.elim
  · rename_i s
    split at h
    · rename_i hs hd
      obtain ⟨d1, hd1, hf1⟩ := hT.und hs (by simp)
      obtain ⟨d2, hd2, hf2⟩ := hT.und hd (by simp)
      simp only [TK.fits] at hf1 hf2
      subst hf1; subst hf2
      refine Does.of ?_
      simp only [convert, runS_bind, runS_underlying hd1, runS_underlying hd2, runS_pure]
      exact h
    · rename_i e hs hd
      obtain ⟨he, hsz, h⟩ := h
      obtain ⟨d1, hd1, hf1⟩ := hT.und hs (by simp)
      obtain ⟨d2, hd2, hf2⟩ := hT.und hd (by simp)
      obtain ⟨d3, hd3, hf3⟩ := hT.und he (by simp)
      simp only [TK.fits] at hf1 hf2 hf3
      subst hf1; subst hf2; subst hf3
      have hl : s.data.toList.length = s.size := by simp
      refine Does.weak (k := fun v H' => ∃ b c, s.size ≤ c ∧ Sep G (b :: keys H) ∧ v = .slice (some ⟨b, 0, none⟩) s.size c ∧ H' = (b, .cells (s.data.toList.map byteV ++ List.replicate (c - s.size) (.int .u8 0)) [] e) :: H) (Does.of ?_) ?_
      · simp only [convert, runS_bind, runS_underlying hd1, runS_underlying hd2, runS_underlying hd3, Conv.stringToBytes, choose, runS, Question.forced, Bool.false_eq_true, if_false]
        refine ⟨trivial, fun tt => ?_⟩
        have hc := cut_appendCap s.size 0 e tt
        simp only [newRow, newObj, runS_bind, runS, runS_pure]
        refine ⟨by trivial, by simp [notCellsB], fun b hb => ?_⟩
        have hb0 : G b = none := hb.1.1
        simp only [markStringish, shape, freeze, runS_bind, runS, hb0, resOf, if_true, findH, runS_pure]
        refine ⟨trivial, by simp, trivial, b, _, hc, hb, rfl, ?_⟩
        congr 2
        simp
        exact fun _ _ => rfl
      · rintro v H' ⟨b, c, hc, hsep, rfl, rfl⟩
        refine ⟨_, fun E w hw => hw.resplit (xs' := s.data.toList.map byteV) (sp' := List.replicate (c - s.size) (.int .u8 0)) (by simp), ?_⟩
        rw [hl] at h
        refine h b _ c hsep ?_
        simp; omega
    · exact h.elim
  · rename_i a n c
    split at h
    · rename_i e hs hd
      obtain ⟨he, h⟩ := h
      obtain ⟨d1, hd1, hf1⟩ := hT.und hs (by simp)
      obtain ⟨d2, hd2, hf2⟩ := hT.und hd (by simp)
      obtain ⟨d3, hd3, hf3⟩ := hT.und he (by simp)
      simp only [TK.fits] at hf1 hf2 hf3
      subst hf1; subst hf2; subst hf3
      refine Does.of ?_
      simp only [convert, runS_bind, runS_underlying hd1, runS_underlying hd2, runS_underlying hd3]
      unfold rdSl at h
      split at h
      · rename_i b o
        simp only [Conv.bytesToString, runS_bind]
        refine runS_loadCells ?_
        obtain ⟨cs, ⟨bs, rfl, hk⟩, _, hrd⟩ := rdCells_elim h
        refine hrd _ ?_
        have hq := fun bad => bytesFold (q := false) (P := P) (G := G) bad bs ByteArray.empty H (fun r H' => kk (.string r) H') (by simpa using hk)
        rw [← Array.forIn_toList]
        exact hq _
      · obtain ⟨rfl, bs, hbs, hk⟩ := h
        obtain rfl : bs = [] := by simpa using hbs.symm
        cases a with
        | none => exact hk
        | some a => exact hk
    · rename_i e0 e hs hd
      obtain ⟨rfl, he, h⟩ := h
      obtain ⟨d1, hd1, hf1⟩ := hT.und hs (by simp)
      obtain ⟨d3, hd3, hf3⟩ := hT.und he (by simp)
      rw [hs] at hd
      cases hd
      simp only [TK.fits] at hf1 hf3
      subst hf1; subst hf3
      unfold Ob at h
      obtain ⟨⟨had, hg⟩, h⟩ := h
      unfold convK at h
      split at h
      · rename_i xs sp e' hf
        cases a with
        | none => cases had
        | some a =>
          refine Does.of ?_
          simp only [convert, runS_bind, runS_underlying hd1, runS_underlying hd3, beq_self_eq_true, markStringish, shape, freeze, runS]
          simp only [blk] at hg hf
          simp only [hg, hf, runS_bind, runS, runS_pure]
          exact ⟨trivial, Nat.le_refl _, trivial, h⟩
      · exact h.elim
    · exact h.elim
  · exact h.elim

/-! ## values built of parts -/

def fillL (place : Nat → Option (Nat × Nat)) (cells : List Value) : List (Nat × Value) → Option (List Value)
  | [] => some cells
  | (i, v) :: rest =>
    match place i with
    | none => none
    | some (off, size) => if (cellsV v).length = size ∧ off + size ≤ cells.length then fillL place (splice cells off (cellsV v)) rest else none

theorem foldl_splice (vs : List Value) : ∀ (cells : Array Value) (off j : Nat), off + j + vs.length ≤ cells.size →
    ((vs.zipIdx j).foldl (fun cs (p : Value × Nat) => cs.setIfInBounds (off + p.2) p.1) cells).toList = splice cells.toList (off + j) vs := by
  induction vs with
  | nil => intro cells off j _; simp [splice]
  | cons v vs ih =>
    intro cells off j h
    simp only [List.length_cons] at h
    simp only [List.zipIdx_cons, List.foldl_cons]
    rw [ih (cells.setIfInBounds (off + j) v) off (j + 1) (by simp; omega)]
    rw [Array.toList_setIfInBounds, ← Nat.add_assoc, splice_cons (by simp; omega)]

theorem splice_length {xs vs : List Value} {off : Nat} (h : off + vs.length ≤ xs.length) : (splice xs off vs).length = xs.length := by
  unfold splice; simp; omega

theorem fill_eq (place : Nat → Option (Nat × Nat)) : ∀ (parts : List (Nat × Value)) (cells : Array Value) (r : List Value), fillL place cells.toList parts = some r → Instr.fill place cells parts = some r.toArray := by
  intro parts
  induction parts with
  | nil => intro cells r h; simp only [fillL, Option.some.injEq] at h; subst h; simp [Instr.fill]
  | cons p parts ih =>
    obtain ⟨i, v⟩ := p
    intro cells r h
    simp only [fillL] at h
    unfold Instr.fill
    split at h
    · cases h
    · rename_i off size hp
      split at h
      · rename_i hc
        have hl : v.cells.size = size := by rw [← hc.1, ← cellsV_eq]; simp
        have h2 : off + v.cells.size ≤ cells.size := by have := hc.2; simp at this; omega
        have h4 : (decide (v.cells.size ≠ size) || decide (off + v.cells.size > cells.size)) = false := by simp; omega
        simp only [hp]
        rw [if_neg (by rw [h4]; simp)]
        refine ih _ r ?_
        have : (Array.foldl (fun cs (x : Value × Nat) => cs.setIfInBounds (off + x.2) x.1) cells v.cells.zipIdx).toList = splice cells.toList off (cellsV v) := by
          rw [← Array.foldl_toList, Array.toList_zipIdx, cellsV_eq]
          have := foldl_splice (cellsV v) cells off 0 (by rw [hc.1]; simpa using hc.2)
          simpa using this
        rw [← h, ← this]
      · cases h

def withL (o : Option (List Value)) (k : List Value → Prop) (_ : Tok k := .mk) : Prop := match o with | some v => k v | none => False
theorem withL_some (v : List Value) (k : List Value → Prop) : withL (some v) k = k v := rfl

/-- where a struct's fields lie, and how many cells they take -/
def placesOf (T : Tys) (fs : List (Nat × Nat)) (i : Nat) : Option (Nat × Nat) := (fs[i]?).map fun f => (f.1, (T f.2).size)

def opBuild (T : Tys) (t : TypeId) (parts : List (Nat × Value)) (k : Value → Prop) (_ : Tok k := .mk) : Prop :=
  match (T t).k with
  | .struct fs => (fs.all fun f => match (T f.2).k with | .none => false | _ => true) = true ∧ withL (fillL (placesOf T fs) (T t).zero parts) fun cs => k (.agg cs.toArray)
  | .arr _ e => (T e).k ≠ .none ∧ withL (fillL (fun i => some (i * (T e).size, (T e).size)) (T t).zero parts) fun cs => k (.agg cs.toArray)
  | _ => False

theorem runS_mapM_sizes {q : Bool} {P : Program} {T : Tys} (hT : TyOk P T) {G : PHeap} {H : Heap} : ∀ (fs : List Field) (k : List (Nat × Nat) → Heap → Prop),
    (fs.all fun f => match (T f.type).k with | .none => false | _ => true) = true → k (fs.map fun f => (f.offset, (T f.type).size)) H →
    runS q P G (fs.mapM fun f => do pure (f.offset, ← sizeOf f.type)) H k
  | [], k, _, h => by simpa [runS_pure] using h
  | f :: fs, k, hall, h => by
    simp only [List.all_cons, Bool.and_eq_true] at hall
    have hk : (T f.type).k ≠ .none := by intro e; rw [e] at hall; exact absurd hall.1 (by simp)
    obtain ⟨i, z, hi, hs, _⟩ := hT.info hk
    simp only [List.mapM_cons, runS_bind, runS_sizeOf hi, runS_pure, hs]
    refine runS_mapM_sizes hT fs _ hall.2 ?_
    exact h

theorem opBuild_sound {q : Bool} {P : Program} {T : Tys} (hT : TyOk P T) {G : PHeap} {H : Heap} {t : TypeId} {parts : Array (Nat × Value)} {kk : Value → Heap → Prop}
    (h : opBuild T t parts.toList fun v => kk v H) : runS q P G (Instr.build t parts) H kk := by
  unfold opBuild at h
  split at h
  · rename_i fs hf
    obtain ⟨hall, h⟩ := h
    obtain ⟨d, hd, hfit⟩ := hT.und hf (by simp)
    obtain ⟨fa, rfl, rfl⟩ := hfit
    have hk : (T t).k ≠ .none := by rw [hf]; simp
    obtain ⟨i, z, hi, hs, _, hz, hzc⟩ := hT.info hk
    simp only [Instr.build, runS_bind, runS_zeroValue hi hz, runS_underlying hd]
    rw [Array.mapM_eq_mapM_toList, runS_map]
    refine runS_mapM_sizes hT fa.toList _ (by simpa [List.all_map] using hall) ?_
    unfold withL at h
    split at h
    · rename_i r hr
      rw [← hzc] at hr
      have hfe := fill_eq _ parts.toList z.cells r hr
      have hp : (fun x => ((List.map (fun f : Field => (f.offset, (T f.type).size)) fa.toList).toArray)[x]?) = placesOf T (List.map (fun x : Field => (x.offset, x.type)) fa.toList) := by
        funext x
        simp [placesOf]
        cases fa[x]? <;> simp
      rw [← hp] at hfe
      simp only [hfe, runS_pure]
      exact h
    · exact h.elim
  · rename_i n e hf
    obtain ⟨hk2, h⟩ := h
    obtain ⟨d, hd, hfit⟩ := hT.und hf (by simp)
    simp only [TK.fits] at hfit
    subst hfit
    have hk : (T t).k ≠ .none := by rw [hf]; simp
    obtain ⟨i, z, hi, hs, _, hz, hzc⟩ := hT.info hk
    obtain ⟨i2, z2, hi2, hs2, _⟩ := hT.info hk2
    simp only [Instr.build, runS_bind, runS_zeroValue hi hz, runS_underlying hd, runS_sizeOf hi2, hs2]
    unfold withL at h
    split at h
    · rename_i r hr
      rw [← hzc] at hr
      have hfe := fill_eq _ parts.toList z.cells r hr
      simp only [hfe, runS_pure]
      exact h
    · exact h.elim
  · exact h.elim

def opBuildSlice (T : Tys) (t : TypeId) (len : Nat) (parts : List (Nat × Value)) (k : TypeId → List Value → Prop) (_ : Tok k := .mk) : Prop :=
  match (T t).k with
  | .slice e => ((T e).k ≠ .none ∧ (T e).zero.length = (T e).size ∧ (T e).size ≠ 0 ∧ len * (T e).size ≤ 16777216) ∧
      withL (fillL (fun i => some (i * (T e).size, (T e).size)) (rep len (T e).zero) parts) fun cs => k e cs
  | _ => False

theorem opBuildSlice_sound {P : Program} {T : Tys} (hT : TyOk P T) {G : PHeap} {H : Heap} {t : TypeId} {len : Nat} {parts : Array (Nat × Value)} {kk : Value → Heap → Prop}
    (h : opBuildSlice T t len parts.toList fun e cs => NewB G (keys H) fun b => kk (.slice (some ⟨b, 0, none⟩) len len) ((b, .cells cs [] e) :: H)) : runS false P G (Instr.buildSlice t len parts) H kk := by
  unfold opBuildSlice at h
  split at h
  · rename_i e hf
    obtain ⟨⟨hk, hzl, hs0, hsm⟩, h⟩ := h
    obtain ⟨d, hd, hfit⟩ := hT.und hf (by simp)
    simp only [TK.fits] at hfit
    subst hfit
    obtain ⟨i, z, hi, hs, _, hz, hzc⟩ := hT.info hk
    have hzs : z.cells.size = (T e).size := by rw [← Array.length_toList, hzc, hzl]
    unfold withL at h
    split at h
    · rename_i r hr
      have hrow : ((Array.range (len * i.size)).map (z.cells[· % z.cells.size]!)).toList = rep len (T e).zero := by
        rw [hs, ← hzs, made_eq z.cells len (.inr (by rw [hzs]; omega)), hzc]
      have hfe : ∀ (cells : Array Value), cells.toList = rep len (T e).zero → Instr.fill (fun j => some (j * i.size, i.size)) cells parts.toList = some r.toArray := fun cells hc => by
        rw [← hc] at hr
        rw [hs]
        exact fill_eq _ parts.toList cells r hr
      have hfin : runS false P G (do pure (.slice (some (← newRow e r.toArray)) len len) : Sem Value) H kk := by
        simp only [newRow, newObj, runS_bind, runS, runS_pure]
        refine ⟨by trivial, by simp [notCellsB], fun b hb => ?_⟩
        simp only [resOf, if_true]
        exact h b hb
      simp only [Instr.buildSlice, runS_bind, runS_underlying hd, runS_sizeOf hi]
      rw [if_neg (by rw [hs]; omega)]
      by_cases h0 : len * i.size = 0
      · have hl0 : len = 0 := by
          rcases Nat.mul_eq_zero.1 h0 with h | h
          · exact h
          · rw [hs] at h; exact absurd h hs0
        simp only [h0, if_true, runS_bind, runS_pure]
        rw [hfe _ (by subst hl0; rw [rep_eq]; simp)]
        exact hfin
      · simp only [h0, if_false, runS_bind, runS_zeroValue hi hz, runS_pure]
        rw [hfe _ hrow]
        exact hfin
    · exact h.elim
  · exact h.elim

end Go.V
