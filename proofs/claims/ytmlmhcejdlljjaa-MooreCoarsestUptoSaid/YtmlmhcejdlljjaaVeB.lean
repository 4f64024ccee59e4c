/-
  The verification layer, part two: frames as lists of known slots; what single operations come to.
-/
import Derived.Test.YtmlmhcejdlljjaaVeA
import Derived.Lib.Strings
import Derived.MapKept
set_option linter.unusedSimpArgs false
set_option linter.unusedVariables false
namespace Go.V
variable {E : Env}

abbrev Fr := List (Nat × Value)

def look : Fr → Nat → Option Value
  | [], _ => none
  | (t, v) :: l, u => if t = u then some v else look l u

def put (l : Fr) (d : Option Nat) (v : Value) : Fr :=
  match d with
  | some d => (d, v) :: l
  | none => l

def ev (l : Fr) : Operand → Option Value
  | .tmp t => look l t
  | .const v => some v
  | .global g => some (.pointer (some ⟨g, 0, none⟩))
  | .func f => some (.func (.func f) #[] #[])

def restrict (keep : List Nat) (l : Fr) : Fr :=
  match keep with
  | [] => []
  | t :: ts => match look l t with
    | some v => (t, v) :: restrict ts l
    | none => restrict ts l

/-- what the symbolic state says of a state of the machine -/
def markD (D : Nat) : Deferred := { target := .collected D, args := #[] }
structure Sim (E : Env) (sz : Nat) (G : PHeap) (l : Fr) (H : Heap) (a : Act) (w : World) : Prop where
  size : a.tmps.size = sz
  defers : a.defers = E.mine.map markD
  fr : ∀ t v, look l t = some v → a.tmps.getD t undef = v
  heap : HeapOk E G H w

theorem Sim.ev {sz : Nat} {G : PHeap} {l : Fr} {H : Heap} {a : Act} {w : World} (h : Sim E sz G l H a w) {x : Operand} {v : Value} (hx : ev l x = some v) : a.eval x = v := by
  cases x with
  | tmp t => exact h.fr t v hx
  | const u => exact Option.some.inj hx
  | global g => exact Option.some.inj hx
  | func f => exact Option.some.inj hx

theorem Sim.put {sz : Nat} {G G' : PHeap} {l : Fr} {H H' : Heap} {a : Act} {w w' : World} (h : Sim E sz G l H a w) (hw : HeapOk E G' H' w') {d : Option Nat} {v : Value}
    (hd : ∀ t, d = some t → t < sz) : Sim E sz G' (V.put l d v) H' (a.put d v) w' := by
  cases d with
  | none => exact ⟨h.size, h.defers, h.fr, hw⟩
  | some d =>
    have hlt : d < a.tmps.size := by rw [h.size]; exact hd d rfl
    refine ⟨by simp [Act.put, h.size], h.defers, fun t u ht => ?_, hw⟩
    simp only [V.put, look] at ht
    by_cases e : d = t
    · subst e
      rw [if_pos rfl] at ht
      cases ht
      simp [Act.put, hlt]
    · rw [if_neg e] at ht
      have := h.fr t u ht
      simpa [Act.put, Array.getElem?_setIfInBounds_ne e] using this

theorem look_restrict (keep : List Nat) (l : Fr) (t : Nat) (v : Value) (h : look (restrict keep l) t = some v) : look l t = some v := by
  induction keep with
  | nil => simp [restrict, look] at h
  | cons u us ih =>
    simp only [restrict] at h
    split at h
    · rename_i x hx
      simp only [look] at h
      split at h
      · rename_i e; subst e; rw [hx]; exact h
      · exact ih h
    · exact ih h

theorem Sim.weak {sz : Nat} {G : PHeap} {l l' : Fr} {H : Heap} {a : Act} {w : World} (h : Sim E sz G l H a w) (hl : ∀ t v, look l' t = some v → look l t = some v) : Sim E sz G l' H a w :=
  ⟨h.size, h.defers, fun t v ht => h.fr t v (hl t v ht), h.heap⟩

/-! ## types -/

inductive TK where
  | none | bool | int (k : IntKind) | string | ptr (e : Nat) | slice (e : Nat) | arr (n e : Nat) | struct (fs : List (Nat × Nat)) | map (k v : Nat) | func | iface

structure TI where
  k : TK
  size : Nat
  bytes : Nat
  zero : List Value
  eq : Bool

instance : Inhabited TI := ⟨⟨.none, 0, 0, [], false⟩⟩

/-- a type's zero value -/
def zeroVal (i : TI) : Value := match i.k with
  | .struct _ | .arr .. => .agg i.zero.toArray
  | _ => i.zero.headD undef

/-- may values of a type be held against each other, part by part? -/
def eqB (P : Program) (t : TypeId) (d : TypeDesc) : Bool := !P.eqGuardType P.depth t && match d with
  | .struct fs => !P.stoodInHeld t && fs.all (·.name != "_")
  | _ => true

abbrev Tys := TypeId → TI

def TK.fits : TK → TypeDesc → Prop
  | .none, _ => True
  | .bool, d => d = .bool
  | .int k, d => d = .int k
  | .string, d => d = .string
  | .ptr e, d => d = .pointer e
  | .slice e, d => d = .slice e
  | .arr n e, d => d = .array n e
  | .struct fs, d => ∃ f : Array Field, d = .struct f ∧ f.toList.map (fun x => (x.offset, x.type)) = fs
  | .map k v, d => d = .map k v
  | .func, d => ∃ a b c, d = .func a b c
  | .iface, d => ∃ m, d = .interface m

/-- a table of types that says what the program's own says -/
def TyOk (P : Program) (T : Tys) : Prop := ∀ t, (T t).k = .none ∨
  ∃ d i z, P.underlying t = some d ∧ (T t).k.fits d ∧ P.info? t = some i ∧ i.size = (T t).size ∧ i.bytes = (T t).bytes ∧ i.zero = some z ∧ z.cells.toList = (T t).zero ∧ z = zeroVal (T t) ∧ ((T t).eq = true → eqB P t d = true)

section ty
variable {P : Program} {T : Tys} (hT : TyOk P T) {G : PHeap} {H : Heap}
include hT

theorem TyOk.und {t : TypeId} {k : TK} (h : (T t).k = k) (hk : k ≠ .none) : ∃ d, P.underlying t = some d ∧ k.fits d := by
  rcases hT t with h0 | ⟨d, i, z, h1, h2, _⟩
  · exact absurd (h.symm.trans h0) hk
  · exact ⟨d, h1, h ▸ h2⟩

theorem TyOk.info {t : TypeId} (hk : (T t).k ≠ .none) : ∃ i z, P.info? t = some i ∧ i.size = (T t).size ∧ i.bytes = (T t).bytes ∧ i.zero = some z ∧ z.cells.toList = (T t).zero := by
  rcases hT t with h0 | ⟨d, i, z, _, _, h1, h2, h3, h4, h5, _⟩
  · exact absurd h0 hk
  · exact ⟨i, z, h1, h2, h3, h4, h5⟩

theorem TyOk.zero {t : TypeId} (hk : (T t).k ≠ .none) : ∃ i, P.info? t = some i ∧ i.size = (T t).size ∧ i.zero = some (zeroVal (T t)) := by
  rcases hT t with h0 | ⟨d, i, z, _, _, h1, h2, h3, h4, h5, rfl, _⟩
  · exact absurd h0 hk
  · exact ⟨i, h1, h2, h4⟩

theorem TyOk.eqd {t : TypeId} (hk : (T t).k ≠ .none) (he : (T t).eq = true) : ∃ d, P.underlying t = some d ∧ (T t).k.fits d ∧ eqB P t d = true := by
  rcases hT t with h0 | ⟨d, i, z, h1, h2, _, _, _, _, _, _, h⟩
  · exact absurd h0 hk
  · exact ⟨d, h1, h2, h he⟩
end ty

theorem runS_underlying {q : Bool} {P : Program} {G : PHeap} {t : TypeId} {d : TypeDesc} (h : P.underlying t = some d) (H : Heap) (k : TypeDesc → Heap → Prop) :
    runS q P G (underlying t) H k = k d H := by
  unfold underlying program
  simp only [runS_bind, runS, h, runS_pure]

theorem runS_typeInfo {q : Bool} {P : Program} {G : PHeap} {t : TypeId} {i : TypeInfo} (h : P.info? t = some i) (H : Heap) (k : TypeInfo → Heap → Prop) :
    runS q P G (typeInfo t) H k = k i H := by
  unfold typeInfo program
  simp only [runS_bind, runS, h, runS_pure]

theorem runS_sizeOf {q : Bool} {P : Program} {G : PHeap} {t : TypeId} {i : TypeInfo} (h : P.info? t = some i) (H : Heap) (k : Nat → Heap → Prop) :
    runS q P G (sizeOf t) H k = k i.size H := by
  unfold sizeOf
  simp only [runS_bind, runS_typeInfo h, runS_pure]

theorem runS_zeroValue {q : Bool} {P : Program} {G : PHeap} {t : TypeId} {i : TypeInfo} {z : Value} (h : P.info? t = some i) (hz : i.zero = some z) (H : Heap) (k : Value → Heap → Prop) :
    runS q P G (zeroValue t) H k = k z H := by
  unfold zeroValue
  simp only [runS_bind, runS_typeInfo h, hz, runS_pure]

def TK.agg : TK → Bool
  | .struct _ | .arr .. => true
  | _ => false

theorem runS_isAgg {q : Bool} {P : Program} {T : Tys} (hT : TyOk P T) {G : PHeap} {t : TypeId} (hk : (T t).k ≠ .none) (H : Heap) (k : Bool → Heap → Prop) :
    runS q P G (isAgg t) H k = k (T t).k.agg H := by
  obtain ⟨d, hd, hf⟩ := hT.und rfl hk
  unfold isAgg
  simp only [runS_bind, runS_underlying hd]
  cases hkk : (T t).k <;> rw [hkk] at hf hk
  case none => exact absurd rfl hk
  all_goals simp only [TK.fits] at hf
  case struct fs => obtain ⟨f, rfl, _⟩ := hf; rfl
  case func => obtain ⟨a, b, c, rfl⟩ := hf; rfl
  case iface => obtain ⟨m, rfl⟩ := hf; rfl
  all_goals (subst hf; rfl)

/-! ## words that the evaluation meets; what follows stands behind them -/

/-- a duty -/
def Ob (p : Prop) (k : Prop) (_ : Tok k := .mk) : Prop := p ∧ k
theorem Ob_of {p k : Prop} (h : p) : Ob p k = k := by simp [Ob, h]
theorem Ob.mk {p k : Prop} (h : p) (hk : k) : Ob p k := ⟨h, hk⟩

/-- a fork -/
def Br (b : Bool) (x y : Prop) (_ : Tok x := .mk) (_ : Tok y := .mk) : Prop := (b = true → x) ∧ (b = false → y)
theorem Br_true {x y : Prop} : Br true x y = x := by simp [Br]
theorem Br_false {x y : Prop} : Br false x y = y := by simp [Br]
theorem Br_dt {p : Prop} [Decidable p] {x y : Prop} (h : p) : Br (decide p) x y = x := by simp [Br, h]
theorem Br_df {p : Prop} [Decidable p] {x y : Prop} (h : ¬ p) : Br (decide p) x y = y := by simp [Br, h]
theorem Br.mk {b : Bool} {x y : Prop} (h1 : b = true → x) (h2 : b = false → y) : Br b x y := ⟨h1, h2⟩
theorem Br.dec {p : Prop} [Decidable p] {x y : Prop} (h1 : p → x) (h2 : ¬ p → y) : Br (decide p) x y := ⟨fun h => h1 (by simpa using h), fun h => h2 (by simpa using h)⟩

/-- a new block -/
def NewB (G : PHeap) (ks : List Nat) (k : Nat → Prop) (_ : Tok k := .mk) : Prop := ∀ b, Sep G (b :: ks) → k b

theorem withV_some (v : Value) (k : Value → Prop) : withV (some v) k = k v := rfl

theorem look_same (t : Nat) (v : Value) (l : Fr) : look ((t, v) :: l) t = some v := by simp [look]
theorem look_ne {t u : Nat} (h : t ≠ u) (v : Value) (l : Fr) : look ((t, v) :: l) u = look l u := by simp [look, h]
theorem look_cons (t : Nat) (v : Value) (l : Fr) (u : Nat) : look ((t, v) :: l) u = if t = u then some v else look l u := rfl
theorem ev_tmp (l : Fr) (t : Nat) : ev l (.tmp t) = look l t := rfl
theorem ev_const (l : Fr) (v : Value) : ev l (.const v) = some v := rfl
theorem ev_global (l : Fr) (g : Nat) : ev l (.global g) = some (.pointer (some ⟨g, 0, none⟩)) := rfl
theorem ev_func (l : Fr) (f : FuncId) : ev l (.func f) = some (.func (.func f) #[] #[]) := rfl
theorem put_some (l : Fr) (d : Nat) (v : Value) : put l (some d) v = (d, v) :: l := rfl
theorem put_none (l : Fr) (v : Value) : put l none v = l := rfl
theorem restrict_nil (l : Fr) : restrict [] l = [] := rfl
def restrictK (t : Nat) (o : Option Value) (r : Fr) : Fr := match o with | some v => (t, v) :: r | none => r
theorem restrict_cons (t : Nat) (ts : List Nat) (l : Fr) : restrict (t :: ts) l = restrictK t (look l t) (restrict ts l) := by
  simp only [restrict, restrictK]
theorem restrictK_some (t : Nat) (v : Value) (r : Fr) : restrictK t (some v) r = (t, v) :: r := rfl
theorem restrictK_none (t : Nat) (r : Fr) : restrictK t none r = r := rfl
theorem look_nil (u : Nat) : look [] u = none := rfl

/-! ## integers and the rest of 'binOp' -/

def bitsOp (op : BinOp) (k : IntKind) (x y : Int) : Int :=
  let a := BitVec.ofInt k.bits x
  let b := BitVec.ofInt k.bits y
  k.wrap (match op with | .and => a &&& b | .or => a ||| b | .xor => a ^^^ b | _ => a &&& ~~~b).toNat

def isNilV : Value → Bool
  | .pointer none | .slice none _ _ | .map none | .nilFunc | .nilIface => true
  | _ => false

def opInt (op : BinOp) (a : IntKind) (m n : Int) (k : Value → Prop) (_ : Tok k := .mk) : Prop :=
  match op with
  | .add => k (.int a (a.wrap (m + n)))
  | .sub => k (.int a (a.wrap (m - n)))
  | .mul => k (.int a (a.wrap (m * n)))
  | .quo => Ob (n ≠ 0) (k (.int a (a.wrap (m.tdiv n))))
  | .rem => Ob (n ≠ 0) (k (.int a (m.tmod n)))
  | .and => k (.int a (bitsOp .and a m n))
  | .or => k (.int a (bitsOp .or a m n))
  | .xor => k (.int a (bitsOp .xor a m n))
  | .andNot => k (.int a (bitsOp .andNot a m n))
  | .eql => k (.bool (decide (m = n)))
  | .neq => k (.bool (!decide (m = n)))
  | .lss => k (.bool (decide (m < n)))
  | .leq => k (.bool (decide (m ≤ n)))
  | .gtr => k (.bool (decide (n < m)))
  | .geq => k (.bool (decide (n ≤ m)))
  | .shl => False
  | .shr => False

def opStr (op : BinOp) (x y : List UInt8) (k : Value → Prop) (_ : Tok k := .mk) : Prop :=
  match op with
  | .add => Ob (((x.length + y.length : Nat) : Int) ≤ 9223372036854775807) (k (.string ⟨(x ++ y).toArray⟩))
  | .eql => k (.bool (x == y))
  | .neq => k (.bool (!(x == y)))
  | .lss => k (.bool (Op.bytesLess x y))
  | .leq => k (.bool (Op.bytesLess x y || x == y))
  | .gtr => k (.bool (!(Op.bytesLess x y || x == y)))
  | .geq => k (.bool (!Op.bytesLess x y))
  | _ => False

/-! ## values held against each other, part by part -/

def TK.known : TK → Bool
  | .none => false
  | _ => true

def allEq {α : Type} : List α → (α → Option Bool) → Option Bool
  | [], _ => some true
  | a :: l, f => match f a with
    | some true => allEq l f
    | r => r

def partV (T : Tys) (t : TypeId) (cs : List Value) (off : Nat) : Option Value :=
  match (T t).k with
  | .none => none
  | .struct _ | .arr .. => some (.agg ((cs.drop off).take (T t).size).toArray)
  | _ => cs[off]?

def eqT (T : Tys) : Nat → TypeId → Value → Value → Option Bool
  | 0, _, _, _ => none
  | d + 1, t, x, y => match (T t).k, x, y with
    | .bool, .bool a, .bool b => some (a == b)
    | .int _, .int a m, .int b n => if a = b then some (decide (m = n)) else none
    | .string, .string a, .string b => some (a.data.toList == b.data.toList)
    | .arr n e, .agg xs, .agg ys => if (T e).k.known then allEq (List.range' 0 n) fun i => match partV T e xs.toList (i * (T e).size), partV T e ys.toList (i * (T e).size) with
      | some u, some v => eqT T d e u v
      | _, _ => none
      else none
    | .struct fs, .agg xs, .agg ys => if (T t).eq then allEq fs fun f => match partV T f.2 xs.toList f.1, partV T f.2 ys.toList f.1 with
      | some u, some v => eqT T d f.2 u v
      | _, _ => none
      else none
    | _, _, _ => none

def eqK (o : Option Bool) (k : Bool → Prop) (_ : Tok k := .mk) : Prop := match o with | some b => k b | none => False
theorem eqK_some (b : Bool) (k : Bool → Prop) : eqK (some b) k = k b := rfl

theorem runS_part {q : Bool} {P : Program} {T : Tys} (hT : TyOk P T) {G : PHeap} {t : TypeId} {cs : Array Value} {off : Nat} {v : Value} (h : partV T t cs.toList off = some v) (H : Heap) (k : Value → Heap → Prop) :
    runS q P G (part t cs off) H k = k v H := by
  unfold partV at h
  have hk : (T t).k ≠ .none := by intro e; simp only [e] at h; cases h
  obtain ⟨i, z, hi, hs, _⟩ := hT.info hk
  unfold part
  rw [runS_bind, runS_isAgg hT hk]
  have agg : ∀ other : Sem Value, (T t).k.agg = true → some (Value.agg ((cs.toList.drop off).take (T t).size).toArray) = some v →
      runS q P G (if (T t).k.agg = true then do pure (.agg (cs.extract off (off + (← sizeOf t)))) else other) H k = k v H := fun other ha h => by
    rw [if_pos ha, runS_bind, runS_sizeOf hi, hs]
    have : cs.extract off (off + (T t).size) = ((cs.toList.drop off).take (T t).size).toArray := by
      apply Array.ext'
      simp [List.extract_eq_take_drop]
    rw [this, Option.some.inj h]; rfl
  split at h
  · cases h
  · rename_i fs hf; exact agg _ (by rw [hf]; rfl) h
  · rename_i n e hf; exact agg _ (by rw [hf]; rfl) h
  · have : (T t).k.agg = false := by
      cases hkk : (T t).k <;> simp only [TK.agg] <;> simp_all
    rw [if_neg (by simp [this])]
    rw [show cs[off]? = some v by simpa using h]
    rfl

theorem runS_forEq {α : Type} {q : Bool} {P : Program} {G : PHeap} {f : α → Option Bool} {g : α → Unit → Sem (ForInStep (Option Bool × Unit))} (l : List α)
    (hg : ∀ a ∈ l, ∀ b, f a = some b → ∀ (H : Heap) k, runS q P G (g a ()) H k = k (if b = false then .done (some false, ()) else .yield (none, ())) H) {b : Bool} (h : allEq l f = some b) (H : Heap) (k : (Option Bool × Unit) → Heap → Prop) :
    runS q P G (forIn l ((none, ()) : Option Bool × Unit) fun a s => g a s.2) H k = k (if b = false then (some false, ()) else (none, ())) H := by
  induction l with
  | nil => simp only [allEq, Option.some.injEq] at h; subst h; simp [runS_pure]
  | cons a l ih =>
    simp only [allEq] at h
    rw [List.forIn_cons, runS_bind]
    cases hf : f a with
    | none => rw [hf] at h; cases h
    | some c =>
      rw [hf] at h
      rw [hg a (List.mem_cons_self ..) c hf]
      cases c with
      | true => exact ih (fun a ha => hg a (List.mem_cons_of_mem _ ha)) h
      | false => cases h; rfl

theorem runS_equalIn {q : Bool} {P : Program} {T : Tys} (hT : TyOk P T) {G : PHeap} : ∀ (d D : Nat) (t : TypeId) (x y : Value) (b : Bool), d ≤ D → eqT T d t x y = some b → ∀ (H : Heap) (k : Bool → Heap → Prop),
    runS q P G (Op.equalIn D t x y) H k = k b H := by
  intro d
  induction d with
  | zero => intro D t x y b _ h; simp [eqT] at h
  | succ d ih =>
    intro D t x y b hD h H k
    obtain ⟨D, rfl⟩ : ∃ n, D = n + 1 := ⟨D - 1, by omega⟩
    have hD' : d ≤ D := by omega
    simp only [eqT] at h
    split at h
    · rename_i hk
      obtain ⟨ds, hd, hf⟩ := hT.und hk (by simp)
      simp only [TK.fits] at hf; subst hf
      cases h
      simp only [Op.equalIn, runS_bind, runS_underlying hd, runS_pure]
    · rename_i hk
      obtain ⟨ds, hd, hf⟩ := hT.und hk (by simp)
      simp only [TK.fits] at hf; subst hf
      split at h
      · rename_i e; subst e
        cases h
        simp only [Op.equalIn, runS_bind, runS_underlying hd, if_true, runS_pure]
        rfl
      · cases h
    · rename_i hk
      obtain ⟨ds, hd, hf⟩ := hT.und hk (by simp)
      simp only [TK.fits] at hf; subst hf
      cases h
      simp only [Op.equalIn, runS_bind, runS_underlying hd, runS_pure]
      congr 1
      rw [Bool.eq_iff_iff, MapKept.bytes_beq, beq_iff_eq]
      constructor
      · intro h; rw [h]
      · intro h; exact ByteArray.ext (Array.ext' h)
    · rename_i n e xs ys hk
      obtain ⟨ds, hd, hf⟩ := hT.und hk (by simp)
      simp only [TK.fits] at hf; subst hf
      split at h
      · rename_i hkn
        have hke : (T e).k ≠ .none := by intro e'; rw [e'] at hkn; cases hkn
        obtain ⟨i, z, hi, hs, _⟩ := hT.info hke
        unfold Op.equalIn
        simp only [runS_bind, runS_underlying hd, runS_sizeOf hi, Std.Legacy.Range.forIn_eq_forIn_range', Std.Legacy.Range.size, Nat.sub_zero, Nat.add_sub_cancel, Nat.div_one]
        rw [hs]
        have key := runS_forEq (q := q) (P := P) (G := G) (g := fun i _ => (do
              let u ← part e xs (i * (T e).size)
              let v ← part e ys (i * (T e).size)
              let r ← Op.equalIn D e u v
              if (!r) = true then pure (ForInStep.done (some false, ())) else pure (ForInStep.yield (none, ())) : Sem (ForInStep (Option Bool × Unit)))) (List.range' 0 n) (fun i _ b hb H k => by
            split at hb
            · rename_i u v hu hv
              simp only [runS_bind, runS_part hT hu, runS_part hT hv, ih D e u v b hD' hb]
              cases b <;> rfl
            · cases hb) h H
        rw [key]
        cases b <;> rfl
      · cases h
    · rename_i fs xs ys hk
      split at h
      · rename_i heq
        obtain ⟨ds, hd, hf, hq⟩ := hT.eqd (by rw [hk]; simp) heq
        rw [hk] at hf
        obtain ⟨fa, rfl, rfl⟩ := hf
        simp only [eqB, Bool.and_eq_true, Bool.not_eq_true'] at hq
        obtain ⟨_, hq1, hq2⟩ := hq
        unfold Op.equalIn
        simp only [runS_bind, runS_underlying hd]
        unfold program
        simp only [runS, hq1, Bool.false_eq_true, if_false, runS_bind]
        rw [← Array.forIn_toList]
        have hall : ∀ f ∈ fa.toList, f.name ≠ "_" := fun f hf => by
          have := Array.all_eq_true_iff_forall_mem.1 hq2 f (by simpa using hf)
          simpa using this
        have h' : allEq fa.toList (fun f => match partV T f.type xs.toList f.offset, partV T f.type ys.toList f.offset with | some u, some v => eqT T d f.type u v | _, _ => none) = some b := by
          clear hall
          rw [← h]
          generalize fa.toList = l
          induction l with
          | nil => rfl
          | cons f l ihl => simp only [List.map_cons, allEq]; split <;> simp_all
        have key := runS_forEq (q := q) (P := P) (G := G) (g := fun (f : Field) _ => (do
              if f.name ≠ "_" then
                let u ← part f.type xs f.offset
                let v ← part f.type ys f.offset
                let r ← Op.equalIn D f.type u v
                if (!r) = true then pure (ForInStep.done (some false, ())) else pure (ForInStep.yield (none, ()))
              else pure (ForInStep.yield (none, ())) : Sem (ForInStep (Option Bool × Unit)))) fa.toList (fun f hf b hb H k => by
            split at hb
            · rename_i u v hu hv
              simp only [if_pos (hall f hf), runS_bind, runS_part hT hu, runS_part hT hv, ih D f.type u v b hD' hb]
              cases b <;> rfl
            · cases hb) h' H
        rw [key]
        cases b <;> rfl
      · cases h
    · cases h

/-- 'binOp', where nothing is read of memory -/
def opBin (T : Tys) (op : BinOp) (t : TypeId) (x y : Value) (k : Value → Prop) (_ : Tok k := .mk) : Prop :=
  match x, y with
  | .int a m, .int b n => match op with
    | .shl => Ob (0 ≤ n) (k (.int a (a.wrap (m * 2 ^ (min n.toNat a.bits)))))
    | .shr => Ob (0 ≤ n) (k (.int a (m.fdiv (2 ^ (min n.toNat a.bits)))))
    | op => a = b ∧ opInt op a m n k
  | .string x, .string y => opStr op x.data.toList y.data.toList k
  | .bool x, .bool y => match op, (T t).k with
    | .eql, .bool => k (.bool (x == y))
    | .neq, .bool => k (.bool (!(x == y)))
    | _, _ => False
  | .pointer x, .pointer none => match op, (T t).k with
    | .eql, .ptr _ => k (.bool x.isNone)
    | .neq, .ptr _ => k (.bool (!x.isNone))
    | _, _ => False
  | .pointer none, .pointer y => match op, (T t).k with
    | .eql, .ptr _ => k (.bool y.isNone)
    | .neq, .ptr _ => k (.bool (!y.isNone))
    | _, _ => False
  | .slice x _ _, .slice none _ _ => match op, (T t).k with
    | .eql, .slice _ => k (.bool x.isNone)
    | .neq, .slice _ => k (.bool (!x.isNone))
    | _, _ => False
  | .map x, .map none => match op, (T t).k with
    | .eql, .map .. => k (.bool x.isNone)
    | .neq, .map .. => k (.bool (!x.isNone))
    | _, _ => False
  | .agg xs, .agg ys => match op with
    | .eql => (T t).eq = true ∧ eqK (eqT T 9 t (.agg xs) (.agg ys)) fun b => k (.bool b)
    | .neq => (T t).eq = true ∧ eqK (eqT T 9 t (.agg xs) (.agg ys)) fun b => k (.bool (!b))
    | _ => False
  | _, _ => False

theorem runS_asInt {q : Bool} {P : Program} {G : PHeap} (a : IntKind) (n : Int) (H : Heap) (k : Int → Heap → Prop) : runS q P G (asInt (.int a n)) H k = k n H := by
  unfold asInt asIntOf; simp only [runS_bind, runS_pure]

theorem opInt_sound {q : Bool} {P : Program} {G : PHeap} {H : Heap} {op : BinOp} {t : TypeId} {a : IntKind} {m n : Int} {kk : Value → Heap → Prop} (h1 : op ≠ .shl) (h2 : op ≠ .shr)
    (h : opInt op a m n fun v => kk v H) : runS q P G (binOp op t (.int a m) (.int a n)) H kk := by
  cases op <;> simp only [opInt, Ob] at h <;> simp only [binOp, ne_eq, not_true_eq_false, if_false, Op.intArith, Op.intDiv, Op.intBits, Op.intCmp, runS_pure]
  case quo => rw [if_neg h.1]; exact h.2
  case rem => rw [if_neg h.1]; exact h.2
  case eql => rw [show (m == n) = decide (m = n) from by rw [Bool.eq_iff_iff]; simp]; exact h
  case neq => rw [show (m != n) = !decide (m = n) from by rw [Bool.eq_iff_iff]; simp]; exact h
  all_goals first | exact absurd rfl h1 | exact absurd rfl h2 | exact h

theorem opStr_sound {q : Bool} {P : Program} {G : PHeap} {H : Heap} {op : BinOp} {t : TypeId} {x y : ByteArray} {kk : Value → Heap → Prop}
    (h : opStr op x.data.toList y.data.toList fun v => kk v H) : runS q P G (binOp op t (.string x) (.string y)) H kk := by
  have e1 := Lib.toList_data x
  have e2 := Lib.toList_data y
  cases op <;> simp only [opStr, Ob] at h <;> simp only [binOp, Op.stringOp, e1, e2, runS_pure]
  all_goals first | exact h.elim | exact h | skip
  case add =>
    have hm : IntKind.i64.max = 9223372036854775807 := by decide
    have hs : x.data.toList.length + y.data.toList.length = x.size + y.size := by simp
    rw [if_neg (by rw [hm]; have := h.1; rw [hs] at this; omega)]
    have hx : x ++ y = ⟨(x.data.toList ++ y.data.toList).toArray⟩ := by
      apply ByteArray.ext; simp
    rw [runS_pure, hx]; exact h.2

section eqs
variable {q : Bool} {P : Program} {G : PHeap} {H : Heap} {t : TypeId} {kk : Bool → Heap → Prop} (d : Nat)
theorem eqI_bool (hd : P.underlying t = some .bool) (x y : Bool) : runS q P G (Op.equalIn (d + 1) t (.bool x) (.bool y)) H kk = kk (x == y) H := by
  simp only [Op.equalIn, runS_bind, runS_underlying hd, runS_pure]
theorem eqI_ptr {e : TypeId} (hd : P.underlying t = some (.pointer e)) (x : Option Addr) : runS q P G (Op.equalIn (d + 1) t (.pointer x) (.pointer none)) H kk = kk x.isNone H := by
  cases x <;> simp only [Op.equalIn, runS_bind, runS_underlying hd, runS_pure] <;> rfl
theorem eqI_ptr' {e : TypeId} (hd : P.underlying t = some (.pointer e)) (x : Option Addr) : runS q P G (Op.equalIn (d + 1) t (.pointer none) (.pointer x)) H kk = kk x.isNone H := by
  cases x <;> simp only [Op.equalIn, runS_bind, runS_underlying hd, runS_pure]
theorem eqI_slice {e : TypeId} (hd : P.underlying t = some (.slice e)) (x : Option Addr) (a b c f : Nat) : runS q P G (Op.equalIn (d + 1) t (.slice x a b) (.slice none c f)) H kk = kk x.isNone H := by
  cases x <;> simp only [Op.equalIn, runS_bind, runS_underlying hd, runS_pure] <;> rfl
theorem eqI_map {e f : TypeId} (hd : P.underlying t = some (.map e f)) (x : Option Nat) : runS q P G (Op.equalIn (d + 1) t (.map x) (.map none)) H kk = kk x.isNone H := by
  cases x <;> simp only [Op.equalIn, runS_bind, runS_underlying hd, runS_pure] <;> rfl
end eqs

theorem opBin_sound {q : Bool} {P : Program} {T : Tys} (hT : TyOk P T) {G : PHeap} {H : Heap} {op : BinOp} {t : TypeId} {x y : Value} {kk : Value → Heap → Prop}
    (h : opBin T op t x y fun v => kk v H) : runS q P G (binOp op t x y) H kk := by
  unfold opBin at h
  split at h
  · rename_i a m b n
    split at h
    · simp only [binOp, Op.shift]; rw [if_neg (by have := h.1; omega)]; exact h.2
    · simp only [binOp, Op.shift]; rw [if_neg (by have := h.1; omega)]; exact h.2
    · rename_i h1 h2
      obtain ⟨rfl, h⟩ := h
      exact opInt_sound (fun e => h1 e) (fun e => h2 e) h
  · exact opStr_sound h
  · rename_i x y
    split at h
    · rename_i hk
      obtain ⟨d, hd, hf⟩ := hT.und hk (by simp)
      subst hf
      show runS q P G (Op.equalIn (9999 + 1) t (.bool x) (.bool y) >>= fun r => pure (.bool r)) H kk
      rw [runS_bind, eqI_bool _ hd]; exact h
    · rename_i hk
      obtain ⟨d, hd, hf⟩ := hT.und hk (by simp)
      subst hf
      show runS q P G (Op.equalIn (9999 + 1) t (.bool x) (.bool y) >>= fun r => pure (.bool (!r))) H kk
      rw [runS_bind, eqI_bool _ hd]; exact h
    · exact h.elim
  · rename_i x
    split at h
    · rename_i hk
      obtain ⟨d, hd, hf⟩ := hT.und hk (by simp)
      subst hf
      have : binOp .eql t (.pointer x) (.pointer none) = (Op.equalIn (9999 + 1) t (.pointer x) (.pointer none) >>= fun r => pure (.bool r)) := by cases x <;> rfl
      rw [this, runS_bind, eqI_ptr _ hd]; exact h
    · rename_i hk
      obtain ⟨d, hd, hf⟩ := hT.und hk (by simp)
      subst hf
      have : binOp .neq t (.pointer x) (.pointer none) = (Op.equalIn (9999 + 1) t (.pointer x) (.pointer none) >>= fun r => pure (.bool (!r))) := by cases x <;> rfl
      rw [this, runS_bind, eqI_ptr _ hd]; exact h
    · exact h.elim
  · rename_i x _
    split at h
    · rename_i hk
      obtain ⟨d, hd, hf⟩ := hT.und hk (by simp)
      subst hf
      have : binOp .eql t (.pointer none) (.pointer x) = (Op.equalIn (9999 + 1) t (.pointer none) (.pointer x) >>= fun r => pure (.bool r)) := by cases x <;> rfl
      rw [this, runS_bind, eqI_ptr' _ hd]; exact h
    · rename_i hk
      obtain ⟨d, hd, hf⟩ := hT.und hk (by simp)
      subst hf
      have : binOp .neq t (.pointer none) (.pointer x) = (Op.equalIn (9999 + 1) t (.pointer none) (.pointer x) >>= fun r => pure (.bool (!r))) := by cases x <;> rfl
      rw [this, runS_bind, eqI_ptr' _ hd]; exact h
    · exact h.elim
  · rename_i x a b c f
    split at h
    · rename_i hk
      obtain ⟨d, hd, hf⟩ := hT.und hk (by simp)
      subst hf
      have : binOp .eql t (.slice x a b) (.slice none c f) = (Op.equalIn (9999 + 1) t (.slice x a b) (.slice none c f) >>= fun r => pure (.bool r)) := by cases x <;> rfl
      rw [this, runS_bind, eqI_slice _ hd]; exact h
    · rename_i hk
      obtain ⟨d, hd, hf⟩ := hT.und hk (by simp)
      subst hf
      have : binOp .neq t (.slice x a b) (.slice none c f) = (Op.equalIn (9999 + 1) t (.slice x a b) (.slice none c f) >>= fun r => pure (.bool (!r))) := by cases x <;> rfl
      rw [this, runS_bind, eqI_slice _ hd]; exact h
    · exact h.elim
  · rename_i x
    split at h
    · rename_i hk
      obtain ⟨d, hd, hf⟩ := hT.und hk (by simp)
      subst hf
      have : binOp .eql t (.map x) (.map none) = (Op.equalIn (9999 + 1) t (.map x) (.map none) >>= fun r => pure (.bool r)) := by cases x <;> rfl
      rw [this, runS_bind, eqI_map _ hd]; exact h
    · rename_i hk
      obtain ⟨d, hd, hf⟩ := hT.und hk (by simp)
      subst hf
      have : binOp .neq t (.map x) (.map none) = (Op.equalIn (9999 + 1) t (.map x) (.map none) >>= fun r => pure (.bool (!r))) := by cases x <;> rfl
      rw [this, runS_bind, eqI_map _ hd]; exact h
    · exact h.elim
  · rename_i xs ys
    have ag : ∀ b, eqT T 9 t (.agg xs) (.agg ys) = some b → ∀ kk, runS q P G (Op.equal t (.agg xs) (.agg ys)) H kk = kk b H := fun b hb kk => runS_equalIn hT 9 Op.maxDepth t _ _ b (by decide) hb H kk
    split at h
    · obtain ⟨_, h⟩ := h
      unfold eqK at h
      split at h
      · rename_i b hb
        have : binOp .eql t (.agg xs) (.agg ys) = (Op.equal t (.agg xs) (.agg ys) >>= fun r => pure (.bool r)) := rfl
        rw [this, runS_bind, ag b hb]; exact h
      · exact h.elim
    · obtain ⟨_, h⟩ := h
      unfold eqK at h
      split at h
      · rename_i b hb
        have : binOp .neq t (.agg xs) (.agg ys) = (Op.equal t (.agg xs) (.agg ys) >>= fun r => pure (.bool (!r))) := rfl
        rw [this, runS_bind, ag b hb]; exact h
      · exact h.elim
    · exact h.elim
  · exact h.elim

end Go.V
