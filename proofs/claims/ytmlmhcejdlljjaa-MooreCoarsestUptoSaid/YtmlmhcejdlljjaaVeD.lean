/-
  The verification layer, part four: values, strings, slices.
-/
import Derived.Test.YtmlmhcejdlljjaaVeC
set_option linter.unusedSimpArgs false
set_option linter.unusedVariables false
namespace Go.V
variable {E : Env}

/-! ## parts of values -/

def partL (T : Tys) (t : TypeId) (cs : List Value) (off : Nat) (k : Value → Prop) (_ : Tok k := .mk) : Prop :=
  match (T t).k with
  | .none => False
  | .struct _ | .arr .. => k (.agg ((cs.drop off).take (T t).size).toArray)
  | _ => withV (cs[off]?) k

theorem partL_sound {q : Bool} {P : Program} {T : Tys} (hT : TyOk P T) {G : PHeap} {H : Heap} {t : TypeId} {cs : Array Value} {off : Nat} {kk : Value → Heap → Prop}
    (h : partL T t cs.toList off fun v => kk v H) : runS q P G (part t cs off) H kk := by
  unfold partL at h
  have hk : (T t).k ≠ .none := by intro e; simp only [e] at h
  obtain ⟨i, z, hi, hs, _⟩ := hT.info hk
  unfold part
  rw [runS_bind, runS_isAgg hT hk]
  have agg : ∀ other : Sem Value, (T t).k.agg = true → kk (.agg ((cs.toList.drop off).take (T t).size).toArray) H →
      runS q P G (if (T t).k.agg = true then do pure (.agg (cs.extract off (off + (← sizeOf t)))) else other) H kk := fun other ha h => by
    rw [if_pos ha, runS_bind, runS_sizeOf hi, hs]
    have : cs.extract off (off + (T t).size) = ((cs.toList.drop off).take (T t).size).toArray := by
      apply Array.ext'
      simp [List.extract_eq_take_drop]
    rw [this]; exact h
  split at h
  · exact h.elim
  · rename_i fs hf; exact agg _ (by rw [hf]; rfl) h
  · rename_i n e hf; exact agg _ (by rw [hf]; rfl) h
  · have : (T t).k.agg = false := by
      cases hkk : (T t).k <;> simp only [TK.agg] <;> simp_all
    rw [if_neg (by simp [this])]
    unfold withV at h
    split at h
    · rename_i v hv
      rw [show cs[off]? = some v by simpa using hv]; exact h
    · exact h.elim

def opFieldV (T : Tys) (t : TypeId) (x : Value) (f : Nat) (k : Value → Prop) (_ : Tok k := .mk) : Prop :=
  match x, (T t).k with
  | .agg cs, .struct fs => match fs[f]? with
    | some (off, u) => partL T u cs.toList off k
    | none => False
  | _, _ => False

theorem opFieldV_sound {q : Bool} {P : Program} {T : Tys} (hT : TyOk P T) {G : PHeap} {H : Heap} {t : TypeId} {x : Value} {f : Nat} {kk : Value → Heap → Prop}
    (h : opFieldV T t x f fun v => kk v H) : runS q P G (Instr.field t x f) H kk := by
  unfold opFieldV at h
  split at h
  · rename_i cs fs hf
    obtain ⟨d, hd, hfit⟩ := hT.und hf (by simp)
    obtain ⟨fa, rfl, rfl⟩ := hfit
    split at h
    · rename_i off u hfu
      rw [List.getElem?_map] at hfu
      simp only [Option.map_eq_some_iff, Prod.mk.injEq] at hfu
      obtain ⟨fd, h1, rfl, rfl⟩ := hfu
      simp only [Instr.field, runS_bind, runS_underlying hd]
      rw [show fa[f]? = some fd by simpa using h1]
      simp only [runS_bind, asAgg, runS_pure]
      exact partL_sound hT h
    · exact h.elim
  · exact h.elim

def opIndex (T : Tys) (t : TypeId) (x i : Value) (k : Value → Prop) (_ : Tok k := .mk) : Prop :=
  match i with
  | .int _ n => match x with
    | .string s => (T t).k = .string ∧ Ob (0 ≤ n ∧ n < (s.data.toList.length : Int)) (withV (s.data.toList[n.toNat]?.map byteV) k)
    | .agg cs => match (T t).k with
      | .arr len e => (T e).k ≠ .none ∧ Ob (0 ≤ n ∧ n < (len : Int)) (partL T e cs.toList (n.toNat * (T e).size) k)
      | _ => False
    | _ => False
  | _ => False

theorem opIndex_sound {q : Bool} {P : Program} {T : Tys} (hT : TyOk P T) {G : PHeap} {H : Heap} {t : TypeId} {x i : Value} {kk : Value → Heap → Prop}
    (h : opIndex T t x i fun v => kk v H) : runS q P G (Instr.index t x i) H kk := by
  unfold opIndex at h
  split at h
  · rename_i kd n
    split at h
    · rename_i s
      obtain ⟨hk, hn, h⟩ := h
      obtain ⟨d, hd, hfit⟩ := hT.und hk (by simp)
      simp only [TK.fits] at hfit
      subst hfit
      simp only [Instr.index, runS_bind, asIntOf, runS_pure, runS_underlying hd]
      rw [if_pos hn.1]
      unfold withV at h
      split at h
      · rename_i v hv
        simp only [Option.map_eq_some_iff] at hv
        obtain ⟨c, hc, rfl⟩ := hv
        have hlt : n.toNat < s.size := by
          have := (List.getElem?_eq_some_iff.1 hc).1
          simpa using this
        have hs : s[n.toNat]? = some c := by
          rw [getElem?_pos s n.toNat hlt]
          have h2 := (List.getElem?_eq_some_iff.1 hc).2
          rw [← h2]
          rfl
        simp only [hs, runS_pure]
        exact h
      · exact h.elim
    · rename_i cs
      split at h
      · rename_i len e hf
        obtain ⟨hk, hn, h⟩ := h
        obtain ⟨d, hd, hfit⟩ := hT.und hf (by simp)
        simp only [TK.fits] at hfit
        subst hfit
        obtain ⟨j, z, hj, hs, _⟩ := hT.info hk
        simp only [Instr.index, runS_bind, asIntOf, runS_pure, runS_underlying hd]
        rw [if_pos hn, runS_bind, runS_sizeOf hj, hs]
        exact partL_sound hT h
      · exact h.elim
    · exact h.elim
  · exact h.elim

def opUn (op : UnOp) (x : Value) (k : Value → Prop) (_ : Tok k := .mk) : Prop :=
  match op, x with
  | .not, .bool b => k (.bool !b)
  | .neg, .int a n => k (.int a (a.wrap (0 - n)))
  | .xor, .int a n => k (.int a (bitsOp .xor a (if a.signed then -1 else a.max) n))
  | _, _ => False

theorem opUn_sound {q : Bool} {P : Program} {G : PHeap} {H : Heap} {op : UnOp} {x : Value} {kk : Value → Heap → Prop} (h : opUn op x fun v => kk v H) : runS q P G (Op.unary op x) H kk := by
  unfold opUn at h
  split at h
  · exact h
  · exact h
  · exact h
  · exact h.elim

def opExtract (x : Value) (i : Nat) (k : Value → Prop) (_ : Tok k := .mk) : Prop :=
  match x with
  | .tuple vs => withV (vs.toList[i]?) k
  | _ => False

theorem opExtract_sound {q : Bool} {P : Program} {G : PHeap} {H : Heap} {x : Value} {i : Nat} {kk : Value → Heap → Prop} (h : opExtract x i fun v => kk v H) : runS q P G (Instr.extract x i) H kk := by
  unfold opExtract at h
  split at h
  · rename_i vs
    unfold withV at h
    split at h
    · rename_i v hv
      simp only [Instr.extract]
      rw [show vs[i]? = some v by simpa using hv]; exact h
    · exact h.elim
  · exact h.elim

/-! ## new rows -/

/-- a new block that holds this many elements of this size; behind them there is room -/
def NewRow (G : PHeap) (ks : List Nat) (n E : Nat) (k : Nat → List Value → Nat → Prop) (_ : Tok k := .mk) : Prop :=
  ∀ b sp cap, Sep G (b :: ks) → n * E + sp.length = cap * E → k b sp cap

def rep (n : Nat) (z : List Value) : List Value :=
  match z with
  | [v] => List.replicate n v
  | z => (List.replicate n z).flatten

theorem rep_length (n : Nat) (z : List Value) : (rep n z).length = n * z.length := by
  unfold rep
  split
  · simp
  · simp

theorem rep_eq (n : Nat) (z : List Value) : rep n z = (List.replicate n z).flatten := by
  unfold rep
  split
  · rename_i v
    induction n with
    | zero => rfl
    | succ n ih => rw [List.replicate_succ, List.replicate_succ, List.flatten_cons, ← ih]; rfl
  · rfl

theorem flatten_get (n : Nat) (z : List Value) (hz : 0 < z.length) (i : Nat) (hi : i < n * z.length) : ((List.replicate n z).flatten)[i]? = z[i % z.length]? := by
  induction n generalizing i with
  | zero => simp at hi
  | succ n ih =>
    rw [List.replicate_succ, List.flatten_cons]
    by_cases h : i < z.length
    · rw [List.getElem?_append_left h, Nat.mod_eq_of_lt h]
    · rw [List.getElem?_append_right (by omega), ih (i - z.length) (by have := Nat.succ_mul n z.length; rw [Nat.succ_eq_add_one] at this; omega)]
      rw [Nat.mod_eq_sub_mod (a := i) (by omega)]

theorem made_eq (z : Array Value) (n : Nat) (hz : n = 0 ∨ 0 < z.size) : ((Array.range (n * z.size)).map (z[· % z.size]!)).toList = rep n z.toList := by
  rw [rep_eq]
  rcases hz with rfl | hz
  · simp
  · apply List.ext_getElem?
    intro i
    by_cases hi : i < n * z.size
    · rw [flatten_get n z.toList (by simpa using hz) i (by simpa using hi)]
      have hm : i % z.size < z.size := Nat.mod_lt _ hz
      simp [hi, hm, getElem!_pos]
    · rw [List.getElem?_eq_none (by simp; omega), List.getElem?_eq_none (by simp; omega)]

/-- what a 'Sem' does, over memory -/
def Does {α : Type} (P : Program) (G : PHeap) (s : Sem α) (H : Heap) (k : α → Heap → Prop) : Prop :=
  ∀ ⦃E : Env⦄ w, HeapOk E G H w → ∃ x w' H', s.run P w = .ok x w' ∧ HeapOk E G H' w' ∧ k x H'

theorem Does.of {α : Type} {P : Program} {G : PHeap} {s : Sem α} {H : Heap} {k : α → Heap → Prop} (h : runS false P G s H k) : Does P G s H k :=
  fun _ _ hw => runS_sound s hw h

theorem Does.weak {α : Type} {P : Program} {G : PHeap} {s : Sem α} {H : Heap} {k k' : α → Heap → Prop} (h : Does P G s H k)
    (hk : ∀ x H', k x H' → ∃ H'', (∀ ⦃E : Env⦄ w, HeapOk E G H' w → HeapOk E G H'' w) ∧ k' x H'') : Does P G s H k' := fun E w hw =>
  let ⟨x, w', H', h1, h2, h3⟩ := h w hw
  let ⟨H'', h4, h5⟩ := hk x H' h3
  ⟨x, w', H'', h1, h4 w' h2, h5⟩

def opMakeSlice (T : Tys) (G : PHeap) (H : Heap) (t : TypeId) (l c : Value) (k : Value → Heap → Prop) (_ : Tok k := .mk) : Prop :=
  match (T t).k, l, c with
  | .slice e, .int _ l, .int _ c => ((T e).k ≠ .none ∧ (T e).zero.length = (T e).size ∧ (T e).size ≠ 0) ∧ Ob (0 ≤ l ∧ l ≤ c ∧ (T e).bytes * c ≤ 281474976710656 ∧ c ≤ 9223372036854775807)
      (NewB G (keys H) fun b => k (.slice (some ⟨b, 0, none⟩) l.toNat c.toNat) ((b, .cells (rep l.toNat (T e).zero) (rep (c.toNat - l.toNat) (T e).zero) e) :: H))
  | _, _, _ => False

/-- a block that has just been made, split where one likes -/
theorem HeapOk.resplit {G : PHeap} {H : Heap} {w : World} {b : Nat} {xs sp xs' sp' : List Value} {e : TypeId} (he : xs ++ sp = xs' ++ sp') (h : HeapOk E G ((b, .cells xs sp e) :: H) w) :
    HeapOk E G ((b, .cells xs' sp' e) :: H) w := by
  refine ⟨h.env, h.pers, fun p hp => ?_, h.sep, h.dfr⟩
  rcases List.mem_cons.1 hp with rfl | hp
  · obtain ⟨o, ho, fr, hfr, hl⟩ := h.own _ (List.mem_cons_self ..)
    refine ⟨o, ho, fr, by rw [hfr, he], ?_⟩
    have := congrArg List.length he
    simp only [List.length_append] at this
    rw [← this]; exact hl
  · exact h.own p (List.mem_cons_of_mem _ hp)

theorem rep_add (n m : Nat) (z : List Value) : rep n z ++ rep m z = rep (n + m) z := by
  simp only [rep_eq]
  rw [← List.flatten_append, List.replicate_append_replicate]

theorem opMakeSlice_sound {P : Program} {T : Tys} (hT : TyOk P T) {G : PHeap} {H : Heap} {t : TypeId} {l c : Value} {kk : Value → Heap → Prop}
    (h : opMakeSlice T G H t l c kk) : Does P G (Instr.makeSlice t l c) H kk := by
  unfold opMakeSlice at h
  split at h
  · rename_i e kl l kc c hf
    obtain ⟨⟨hk, hzl, hs0⟩, ⟨h0, hlc, hb, h63⟩, h⟩ := h
    obtain ⟨d, hd, hfit⟩ := hT.und hf (by simp)
    simp only [TK.fits] at hfit
    subst hfit
    obtain ⟨i, z, hi, hs, hby, hz, hzc⟩ := hT.info hk
    intro E w hw
    have hrun := run_make (P := P) w t e i z hd hi hz kl kc l c h0 hlc (by rw [hby]; exact hb) h63
    refine ⟨_, _, _, hrun, ?_, h _ hw.fresh⟩
    have hzs : z.cells.size = i.size := by rw [← Array.length_toList, hzc, hzl, hs]
    have hm : (madeCells z.cells (c.toNat * i.size)).toList = rep c.toNat (T e).zero := by
      unfold madeCells
      rw [← hzs, made_eq z.cells c.toNat (.inr (by rw [hzs, hs]; omega)), hzc]
    refine HeapOk.resplit (xs := rep c.toNat (T e).zero) (sp := []) ?_ (hw.new ?_)
    · rw [rep_add, List.append_nil]; congr 1; omega
    · exact ⟨(0, 0), by rw [List.append_nil, ← hm], .inl rfl⟩
  · exact h.elim

end Go.V
