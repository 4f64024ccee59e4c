/-
  The verification layer, part seven: single operations, calls, regions in the order of the text.
-/
import Derived.Test.YtmlmhcejdlljjaaVeFm
set_option linter.unusedSimpArgs false
set_option linter.unusedVariables false
namespace Go.V
variable {E : Env}

def PLe (G G' : PHeap) : Prop := ∀ b o, G b = some o → G' b = some o
theorem PLe.refl (G : PHeap) : PLe G G := fun _ _ h => h
theorem PLe.trans {G G' G'' : PHeap} (h : PLe G G') (h' : PLe G' G'') : PLe G G'' := fun b o hb => h' b o (h b o hb)

def Callee (P : Program) (f : FuncId) : Prop := ∃ fn c, P.funcs[f]? = some fn ∧ fn.body = some c ∧ (fn.name == "runtime.NumGoroutine") = false

/-- what a call comes to, over the symbolic heap -/
def FnT (P : Program) (f : FuncId) (args : List Value) (G : PHeap) (H : Heap) (R : Value → PHeap → Heap → Prop) (_ : Tok R := .mk) : Prop :=
  Callee P f ∧ ∀ ⦃E : Env⦄ w, HeapOk E G H w → Calls P f args.toArray w fun e w' => ∃ v G' H', e = .returned v ∧ PLe G G' ∧ HeapOk E G' H' w' ∧ R v G' H'

theorem FnT.mono {P : Program} {f : FuncId} {args : List Value} {G : PHeap} {H : Heap} {R R' : Value → PHeap → Heap → Prop} (h : FnT P f args G H R)
    (hr : ∀ v G' H', PLe G G' → Sep G' (keys H') → R v G' H' → R' v G' H') : FnT P f args G H R' :=
  ⟨h.1, fun E w hw => (h.2 w hw).mono fun _ _ ⟨v, G', H', e, h1, h2, h3⟩ => ⟨v, G', H', e, h1, h2, hr v G' H' h1 h2.sep h3⟩⟩


/-! ## lists of operands -/

def evK (l : Fr) (xs : List Operand) (k : List Value → Prop) (_ : Tok k := .mk) : Prop :=
  match xs with
  | [] => k []
  | x :: xs => withV (ev l x) fun v => evK l xs fun vs => k (v :: vs)
theorem evK_nil (l : Fr) (k : List Value → Prop) : evK l [] k = k [] := rfl
theorem evK_cons (l : Fr) (x : Operand) (xs : List Operand) (k : List Value → Prop) : evK l (x :: xs) k = withV (ev l x) fun v => evK l xs fun vs => k (v :: vs) := rfl

def evPK (l : Fr) (xs : List (Nat × Operand)) (k : List (Nat × Value) → Prop) (_ : Tok k := .mk) : Prop :=
  match xs with
  | [] => k []
  | x :: xs => withV (ev l x.2) fun v => evPK l xs fun vs => k ((x.1, v) :: vs)
theorem evPK_nil (l : Fr) (k : List (Nat × Value) → Prop) : evPK l [] k = k [] := rfl
theorem evPK_cons (l : Fr) (i : Nat) (x : Operand) (xs : List (Nat × Operand)) (k : List (Nat × Value) → Prop) : evPK l ((i, x) :: xs) k = withV (ev l x) fun v => evPK l xs fun vs => k ((i, v) :: vs) := rfl

def evO (l : Fr) (x : Option Operand) (k : Option Value → Prop) (_ : Tok k := .mk) : Prop :=
  match x with
  | none => k none
  | some x => withV (ev l x) fun v => k (some v)
theorem evO_none (l : Fr) (k : Option Value → Prop) : evO l none k = k none := rfl
theorem evO_some (l : Fr) (x : Operand) (k : Option Value → Prop) : evO l (some x) k = withV (ev l x) fun v => k (some v) := rfl

section evs
variable {sz : Nat} {G : PHeap} {l : Fr} {H : Heap} {a : Act} {w : World} (h : Sim E sz G l H a w)
include h
theorem withV_ev {x : Operand} {k : Value → Prop} (hk : withV (ev l x) k) : k (a.eval x) := by
  unfold withV at hk
  split at hk
  · rename_i v hv; rw [h.ev hv]; exact hk
  · exact hk.elim
theorem evO_ev {x : Option Operand} {k : Option Value → Prop} (hk : evO l x k) : k (x.map a.eval) := by
  cases x with
  | none => exact hk
  | some x => exact withV_ev h hk
end evs
theorem evK_ev {sz : Nat} {G : PHeap} {l : Fr} {H : Heap} {a : Act} {w : World} (h : Sim E sz G l H a w) : ∀ {xs : List Operand} {k : List Value → Prop}, evK l xs k → k (xs.map a.eval)
  | [], k, hk => hk
  | x :: xs, k, hk => by
    have h1 := withV_ev h hk
    exact evK_ev (xs := xs) (k := fun vs => k (a.eval x :: vs)) h h1
theorem evPK_ev {sz : Nat} {G : PHeap} {l : Fr} {H : Heap} {a : Act} {w : World} (h : Sim E sz G l H a w) : ∀ {xs : List (Nat × Operand)} {k : List (Nat × Value) → Prop}, evPK l xs k → k (xs.map fun p => (p.1, a.eval p.2))
  | [], k, hk => hk
  | x :: xs, k, hk => by
    have h1 := withV_ev h hk
    exact evPK_ev (xs := xs) (k := fun vs => k ((x.1, a.eval x.2) :: vs)) h h1

def pickV (t : Bool) (a b : Value) : Value :=
  match a, b with
  | .bool x, .bool y => .bool (if t then x else y)
  | a, b => if t then a else b
theorem pickV_eq (t : Bool) (a b : Value) : pickV t a b = if t then a else b := by
  unfold pickV; split
  · split <;> rfl
  · rfl
theorem pickV_true (a b : Value) : pickV true a b = a := by rw [pickV_eq]; rfl
theorem pickV_false (a b : Value) : pickV false a b = b := by rw [pickV_eq]; rfl
theorem pickV_bool (t x y : Bool) : pickV t (.bool x) (.bool y) = .bool (if t then x else y) := rfl

def pickK (c a b : Value) (k : Value → Prop) (_ : Tok k := .mk) : Prop :=
  match c with
  | .bool t => k (pickV t a b)
  | _ => False

def nilK (v : Value) (k : Value → Prop) (_ : Tok k := .mk) : Prop :=
  match v with
  | .pointer (some _) => k v
  | .func (.func _) _ _ => k v
  | .iface .. => k v
  | _ => False

def callK (P : Program) (fv : Value) (vs : List Value) (G : PHeap) (H : Heap) (k : Value → PHeap → Heap → Prop) (_ : Tok k := .mk) : Prop :=
  match fv with
  | .func (.func f) first caps => FnT P f (first.toList ++ vs ++ caps.toList) G H k
  | _ => False

def opCopy (T : Tys) (G : PHeap) (H : Heap) (t : TypeId) (d s : Value) (k : Value → Heap → Prop) (_ : Tok k := .mk) : Prop := False

/-- len, of a map too -/
def lenK (T : Tys) (H : Heap) (t : TypeId) (x : Value) (k : Value → Prop) (_ : Tok k := .mk) : Prop :=
  match x with
  | .map (some r) => match (T t).k with
    | .map .. => opMapLen (findH H r) k
    | _ => False
  | x => opLen T t x k

def builtinK (T : Tys) (G : PHeap) (H : Heap) (b : Builtin) (ts : List TypeId) (vs : List Value) (k : Value → Heap → Prop) (_ : Tok k := .mk) : Prop :=
  match b, ts, vs with
  | .len, [t], [x] => lenK T H t x fun v => k v H
  | .delete, [t, _], [m, key] => opDelete T H t m key fun H' => k (.tuple #[]) H'
  | .append, [t, u], [s, x] => opAppend T G H t u s x k
  | .min, _, vs => opMin vs fun v => k v H
  | .max, _, vs => opMax vs fun v => k v H
  | .copy, [t, _], [d, s] => opCopy T G H t d s k
  | _, _, _ => False

/-- one operation -/
def stepF (P : Program) (T : Tys) (op : Op) (G : PHeap) (l : Fr) (H : Heap) (k : Value → PHeap → Heap → Prop) (_ : Tok k := .mk) : Prop :=
  match op with
  | .move x | .assign x => withV (ev l x) fun v => k v G H
  | .pick c a b => withV (ev l c) fun cv => withV (ev l a) fun av => withV (ev l b) fun bv => pickK cv av bv fun v => k v G H
  | .alloc e => (T e).k ≠ .none ∧ NewB G (keys H) fun b => k (.pointer (some ⟨b, 0, none⟩)) G ((b, .cells (T e).zero [] e) :: H)
  | .box e x => withV (ev l x) fun v => NewB G (keys H) fun b => k (.pointer (some ⟨b, 0, none⟩)) G ((b, .cells (cellsV v) [] e) :: H)
  | .build t parts => evPK l parts.toList fun ps => opBuild T t ps fun v => k v G H
  | .buildSlice t n parts => evPK l parts.toList fun ps => opBuildSlice T t n ps fun e cs => NewB G (keys H) fun b => k (.slice (some ⟨b, 0, none⟩) n n) G ((b, .cells cs [] e) :: H)
  | .load t x => withV (ev l x) fun v => opLoad T G H t v fun v => k v G H
  | .store t x y => withV (ev l x) fun av => withV (ev l y) fun v => opStore T H t av v fun H' => k undef G H'
  | .nilCheck x => withV (ev l x) fun v => nilK v fun v => k v G H
  | .binOp op t x y _ => withV (ev l x) fun xv => withV (ev l y) fun yv => opBin T op t xv yv fun v => k v G H
  | .unOp op _ x => withV (ev l x) fun v => opUn op v fun v => k v G H
  | .convert s d x => withV (ev l x) fun v => opConv T G H s d v fun v H' => k v G H'
  | .makeFunc fn first caps => evK l first.toList fun fs => evK l caps.toList fun cs => k (.func fn fs.toArray cs.toArray) G H
  | .makeMap t none => NewB G (keys H) fun b => k (.map (some b)) G ((b, .map []) :: H)
  | .makeMap t (some r) => withV (ev l r) fun _ => False
  | .lookup t x i ok => withV (ev l x) fun m => withV (ev l i) fun key => opLookup T H t m key ok fun v => k v G H
  | .mapUpdate t x i y => withV (ev l x) fun m => withV (ev l i) fun key => withV (ev l y) fun v => opMapUpdate T H t m key v fun H' => k undef G H'
  | .insert t x i y => withV (ev l x) fun m => withV (ev l i) fun key => withV (ev l y) fun v => opMapUpdate T H t m key v fun H' => k undef G H'
  | .makeSlice t n c => withV (ev l n) fun nv => withV (ev l c) fun cv => opMakeSlice T G H t nv cv fun v H' => k v G H'
  | .slice t x lo hi mx => withV (ev l x) fun xv => evO l lo fun lv => evO l hi fun hv => evO l mx fun mv => opSlice T t xv lv hv mv fun v => k v G H
  | .fieldAddr t x f => withV (ev l x) fun v => opField T t v f fun v => k v G H
  | .field t x f => withV (ev l x) fun v => opFieldV T t v f fun v => k v G H
  | .indexAddr t x i => withV (ev l x) fun xv => withV (ev l i) fun iv => opIndexAddr T t xv iv fun v => k v G H
  | .index t x i => withV (ev l x) fun xv => withV (ev l i) fun iv => opIndex T t xv iv fun v => k v G H
  | .extract x i => withV (ev l x) fun v => opExtract v i fun v => k v G H
  | .call c => match c.callee with
    | .value f => withV (ev l f) fun fv => evK l c.args.toList fun vs => callK P fv vs G H k
    | .builtin b => evK l c.args.toList fun vs => builtinK T G H b c.argTypes.toList vs fun v H' => k v G H'
    | .invoke .. => False
  | _ => False

/-! ## soundness of one operation -/

theorem Does.wp {P : Program} {G : PHeap} {H : Heap} {s : Sem Value} {kk : Value → Heap → Prop} (h : Does P G s H kk) {o : Oper} {a : Act} {w : World} (hw : HeapOk E G H w)
    {next : Act → World → Prop} {Q : Exit → Act → World → Prop} (he : execOp a.eval o = (do pure (.value (← s)))) (hk : ∀ v H' w', HeapOk E G H' w' → kk v H' → next (a.put o.dst v) w') : o.wp P a w next Q := by
  obtain ⟨v, w', H', h1, h2, h3⟩ := h w hw
  unfold Oper.wp
  rw [he, Sem.run_bind, h1]
  exact hk v H' w' h2 h3

theorem Does.wpU {P : Program} {G : PHeap} {H : Heap} {s : Sem Unit} {kk : Unit → Heap → Prop} (h : Does P G s H kk) {o : Oper} {a : Act} {w : World} (hw : HeapOk E G H w)
    {next : Act → World → Prop} {Q : Exit → Act → World → Prop} (he : execOp a.eval o = (do s; pure .skip)) (hk : ∀ H' w', HeapOk E G H' w' → kk () H' → next (a.put o.dst undef) w') : o.wp P a w next Q := by
  obtain ⟨v, w', H', h1, h2, h3⟩ := h w hw
  unfold Oper.wp
  rw [he, Sem.run_bind, h1]
  exact hk H' w' h2 h3

theorem opBin_guard {q : Bool} {P : Program} {T : Tys} (hT : TyOk P T) {G : PHeap} {H : Heap} {op : BinOp} {t : TypeId} {x y : Operand} {a b : Value} {k : Value → Prop} (h : opBin T op t a b k) (K : Unit → Heap → Prop) : runS q P G (eqGuard op t x y a b) H K = K () H := by
  unfold eqGuard
  cases a <;> cases b <;> try first | exact h.elim | (cases op <;> rfl)
  rename_i xs ys
  have key : ∀ other : Sem Unit, (T t).eq = true → (T t).k ≠ .none → runS q P G (do
      if !(← program).eqGuardType (← program).depth t then return
      other : Sem Unit) H K = K () H := fun other he hk => by
    obtain ⟨d, hd, _, hq⟩ := hT.eqd hk he
    simp only [eqB, Bool.and_eq_true, Bool.not_eq_true'] at hq
    unfold program
    simp only [runS_bind, runS, hq.1, runS_pure]
    rfl
  have kn : ∀ b, eqT T 9 t (.agg xs) (.agg ys) = some b → (T t).k ≠ .none := fun b hb e => by simp [eqT, e] at hb
  cases op <;> try exact h.elim
  · obtain ⟨he, h⟩ := h
    unfold eqK at h
    split at h
    · rename_i b hb; exact key _ he (kn b hb)
    · exact h.elim
  · obtain ⟨he, h⟩ := h
    unfold eqK at h
    split at h
    · rename_i b hb; exact key _ he (kn b hb)
    · exact h.elim

theorem stepF_sound {P : Program} {T : Tys} (hT : TyOk P T) {o : Oper} {sz : Nat} {G : PHeap} {l : Fr} {H : Heap} {a : Act} {w : World} {k : Value → PHeap → Heap → Prop}
    {next : Act → World → Prop} {Q : Exit → Act → World → Prop} (h : stepF P T o.op G l H k) (hs : Sim E sz G l H a w)
    (hk : ∀ v G' H' w', PLe G G' → HeapOk E G' H' w' → k v G' H' → next (a.put o.dst v) w') : o.wp P a w next Q := by
  obtain ⟨dst, op, ty, pos, after, guard⟩ := o
  have hw := hs.heap
  have val : ∀ (s : Sem Value) {kk : Value → Heap → Prop}, Does P G s H kk → execOp a.eval ⟨dst, op, ty, pos, after, guard⟩ = (do pure (.value (← s))) → (∀ v H', kk v H' → k v G H') →
      Oper.wp P ⟨dst, op, ty, pos, after, guard⟩ a w next Q := fun s kk hd he hkk => hd.wp hw he fun v H' w' h1 h2 => hk v G H' w' (PLe.refl _) h1 (hkk v H' h2)
  cases op <;> simp only [stepF] at h <;> try exact h.elim
  case move x =>
    have h1 := withV_ev hs h
    exact val (pure (a.eval x)) (kk := fun v H' => k v G H') (Does.of (by rw [runS_pure]; exact h1)) rfl (fun _ _ h => h)
  case assign x =>
    have h1 := withV_ev hs h
    exact val (pure (a.eval x)) (kk := fun v H' => k v G H') (Does.of (by rw [runS_pure]; exact h1)) rfl (fun _ _ h => h)
  case pick c x y =>
    have h1 := withV_ev hs (withV_ev hs (withV_ev hs h))
    unfold pickK at h1
    split at h1
    · rename_i t hc
      refine val (pure (if t then a.eval x else a.eval y)) (kk := fun v H' => k v G H') (Does.of (by rw [runS_pure, ← pickV_eq]; exact h1)) ?_ (fun _ _ h => h)
      simp only [execOp, hc, asBool]
      cases t <;> rfl
    · exact h1.elim
  case alloc e =>
    obtain ⟨hke, h⟩ := h
    obtain ⟨i, z, hi, hsz, _, hz, hzc⟩ := hT.info hke
    refine val _ (kk := fun v H' => k v G H') (Does.of ?_) rfl (fun _ _ h => h)
    simp only [Instr.alloc, runS_bind, runS_zeroValue hi hz, newVar, newRow, newObj, runS, runS_pure]
    refine ⟨by trivial, by simp [notCellsB], fun b hb => ?_⟩
    simp only [resOf, if_true, hzc]
    exact h b hb
  case box e x =>
    have h1 := withV_ev hs h
    refine val _ (kk := fun v H' => k v G H') (Does.of ?_) rfl (fun _ _ h => h)
    simp only [Instr.box, runS_bind, newVar, newRow, newObj, runS, runS_pure]
    refine ⟨by trivial, by simp [notCellsB], fun b hb => ?_⟩
    simp only [resOf, if_true, cellsV_eq]
    exact h1 b hb
  case build t parts =>
    have h1 := evPK_ev hs h
    have h2 : opBuild T t (parts.map fun p => (p.1, a.eval p.2)).toList fun v => k v G H := by rw [Array.toList_map]; exact h1
    exact val (Instr.build t (parts.map fun p => (p.1, a.eval p.2))) (kk := fun v H' => k v G H') (Does.of (opBuild_sound hT h2)) (by simp only [execOp]) (fun _ _ h => h)
  case buildSlice t n parts =>
    have h1 := evPK_ev hs h
    have h2 : opBuildSlice T t n (parts.map fun p => (p.1, a.eval p.2)).toList fun e cs => NewB G (keys H) fun b => k (.slice (some ⟨b, 0, none⟩) n n) G ((b, .cells cs [] e) :: H) := by rw [Array.toList_map]; exact h1
    exact val (Instr.buildSlice t n (parts.map fun p => (p.1, a.eval p.2))) (kk := fun v H' => k v G H') (Does.of (opBuildSlice_sound hT (kk := fun v H' => k v G H') h2)) (by simp only [execOp]) (fun _ _ h => h)
  case load t x => exact val _ (kk := fun v H' => k v G H') (Does.of (opLoad_sound hT (withV_ev hs h))) rfl (fun _ _ h => h)
  case store t x y =>
    have h1 := withV_ev hs (withV_ev hs h)
    exact (Does.of (opStore_sound hT (kk := fun _ H' => k undef G H') h1)).wpU hw rfl fun H' w' h2 h3 => hk undef G H' w' (PLe.refl _) h2 h3
  case nilCheck x =>
    have h1 := withV_ev hs h
    refine val (pure (a.eval x)) (kk := fun v H' => k v G H') (Does.of (by rw [runS_pure]; unfold nilK at h1; split at h1 <;> first | exact h1 | exact h1.elim)) ?_ (fun _ _ h => h)
    unfold nilK at h1
    simp only [execOp]
    split at h1
    · rename_i v p hp; rw [hp]; rfl
    · rename_i v f fs cs hp; rw [hp]; rfl
    · rename_i v p hp; rw [hp]; rfl
    · exact h1.elim
  case binOp op t x y u =>
    have h1 := withV_ev hs (withV_ev hs h)
    refine val (do eqGuard op t x y (a.eval x) (a.eval y); binOp op t (a.eval x) (a.eval y)) (kk := fun v H' => k v G H') (Does.of ?_) ?_ (fun _ _ h => h)
    · rw [runS_bind, opBin_guard hT h1]; exact opBin_sound hT h1
    · simp only [execOp]
  case unOp op t x => exact val _ (kk := fun v H' => k v G H') (Does.of (opUn_sound (withV_ev hs h))) rfl (fun _ _ h => h)
  case convert s d x => exact val _ (kk := fun v H' => k v G H') (opConv_sound hT (withV_ev hs h)) rfl (fun _ _ h => h)
  case fieldAddr t x f => exact val _ (kk := fun v H' => k v G H') (Does.of (opField_sound hT (withV_ev hs h))) rfl (fun _ _ h => h)
  case field t x f => exact val _ (kk := fun v H' => k v G H') (Does.of (opFieldV_sound hT (withV_ev hs h))) rfl (fun _ _ h => h)
  case indexAddr t x i => exact val _ (kk := fun v H' => k v G H') (Does.of (opIndexAddr_sound hT (withV_ev hs (withV_ev hs h)))) rfl (fun _ _ h => h)
  case index t x i => exact val _ (kk := fun v H' => k v G H') (Does.of (opIndex_sound hT (withV_ev hs (withV_ev hs h)))) rfl (fun _ _ h => h)
  case extract x i => exact val _ (kk := fun v H' => k v G H') (Does.of (opExtract_sound (withV_ev hs h))) rfl (fun _ _ h => h)
  case makeFunc fn first caps =>
    have h1 := evK_ev hs (evK_ev hs h)
    refine val _ (kk := fun v H' => k v G H') (Does.of ?_) rfl (fun _ _ h => h)
    simp only [Instr.makeFunc, runS_pure]
    have e1 : (first.toList.map a.eval).toArray = first.map a.eval := by apply Array.ext'; simp
    have e2 : (caps.toList.map a.eval).toArray = caps.map a.eval := by apply Array.ext'; simp
    rw [e1, e2] at h1; exact h1
  case makeMap t r =>
    cases r with
    | none => exact val _ (kk := fun v H' => k v G H') (opMakeMap_sound hT (t := t) h) rfl (fun _ _ h => h)
    | some r => exact (withV_ev hs h).elim
  case lookup t x i ok => exact val _ (kk := fun v H' => k v G H') (opLookup_sound hT (withV_ev hs (withV_ev hs h))) rfl (fun _ _ h => h)
  case mapUpdate t x i y => exact (opMapUpdate_sound hT (kk := fun _ H' => k undef G H') (withV_ev hs (withV_ev hs (withV_ev hs h)))).wpU hw rfl fun H' w' h2 h3 => hk undef G H' w' (PLe.refl _) h2 h3
  case insert t x i y => exact (opMapUpdate_sound hT (kk := fun _ H' => k undef G H') (withV_ev hs (withV_ev hs (withV_ev hs h)))).wpU hw rfl fun H' w' h2 h3 => hk undef G H' w' (PLe.refl _) h2 h3
  case makeSlice t n c => exact val _ (kk := fun v H' => k v G H') (opMakeSlice_sound hT (withV_ev hs (withV_ev hs h))) rfl (fun _ _ h => h)
  case slice t x lo hi mx => exact val _ (kk := fun v H' => k v G H') (Does.of (opSlice_sound hT (evO_ev hs (evO_ev hs (evO_ev hs (withV_ev hs h)))))) rfl (fun _ _ h => h)
  case call c =>
    obtain ⟨callee, args, ats⟩ := c
    cases callee with
    | invoke r m => exact h.elim
    | value f =>
      have h1 := evK_ev hs (withV_ev hs h)
      unfold callK at h1
      split at h1
      · rename_i fv g first caps hf
        obtain ⟨⟨fn, c, hfn, hbody, hname⟩, hcall⟩ := h1
        have he : execOp a.eval ⟨dst, .call { callee := .value f, args := args, argTypes := ats }, ty, pos, after, guard⟩ = callFunc g (first ++ args.map a.eval ++ caps) := by
          simp only [execOp, resolve, hf, Deferred.ofValue, pure_bind, invoke]
        unfold Oper.wp
        rw [he]
        have hr : (callFunc g (first ++ args.map a.eval ++ caps)).run P w = .ok (.enter g (first ++ args.map a.eval ++ caps)) w := by
          have hname' : ¬ fn.name = "runtime.NumGoroutine" := by simpa using hname
          simp [callFunc, hfn, hname', hbody]
        rw [hr, Oper.upon_enter]
        have hargs : (first.toList ++ args.toList.map a.eval ++ caps.toList).toArray = first ++ args.map a.eval ++ caps := by apply Array.ext'; simp
        have := hcall w hw
        rw [hargs] at this
        refine this.mono fun e w' ⟨v, G', H', he, h2, h3, h4⟩ => ?_
        subst he
        exact hk v G' H' w' h2 h3 h4
      · exact h1.elim
    | builtin b =>
      have h1 := evK_ev hs h
      unfold builtinK at h1
      have hex : ∀ (s : Sem Value), builtin b ats ty (args.map fun | .const _ => true | _ => false) (args.map a.eval) = (do pure (.value (← s))) →
          execOp a.eval ⟨dst, .call { callee := .builtin b, args := args, argTypes := ats }, ty, pos, after, guard⟩ = (do pure (.value (← s))) := fun s hb => by
        simp only [execOp, resolve, pure_bind, invoke]
        exact hb
      have harr : ∀ vs : List Value, args.toList.map a.eval = vs → args.map a.eval = vs.toArray := fun vs hv => by apply Array.ext'; simpa using hv
      have htys : ∀ ts : List TypeId, ats.toList = ts → ats = ts.toArray := fun ts hv => by apply Array.ext'; simpa using hv
      split at h1
      · rename_i t x ht hx
        refine val (Builtin.len_ #[t] ty #[x]) (kk := fun v H' => k v G H') ?_ (hex _ ?_) (fun _ _ h => h)
        · unfold lenK at h1
          split at h1
          · split at h1
            · rename_i hmk; exact opMapLen_sound hT hmk h1
            · exact h1.elim
          · exact Does.of (opLen_sound hT h1)
        · rw [harr _ hx, htys _ ht]
          exact rfl
      · rename_i t u m key ht hx
        refine val (Builtin.delete_ #[t, u] ty #[m, key]) (kk := fun v H' => k v G H') (opDelete_sound hT h1) (hex _ ?_) (fun _ _ h => h)
        rw [harr _ hx, htys _ ht]
        exact rfl
      · rename_i t u s x ht hx
        refine val (Builtin.append_ #[t, u] ty #[s, x]) (kk := fun v H' => k v G H') (opAppend_sound hT (ty := ty) h1) (hex _ ?_) (fun _ _ h => h)
        rw [harr _ hx, htys _ ht]
        exact rfl
      · refine val (Builtin.min_ ats ty (args.toList.map a.eval).toArray) (kk := fun v H' => k v G H') (Does.of (opMin_sound (ts := ats) (ty := ty) h1)) (hex _ ?_) (fun _ _ h => h)
        rw [harr _ rfl]
        exact rfl
      · refine val (Builtin.max_ ats ty (args.toList.map a.eval).toArray) (kk := fun v H' => k v G H') (Does.of (opMax_sound (ts := ats) (ty := ty) h1)) (hex _ ?_) (fun _ _ h => h)
        rw [harr _ rfl]
        exact rfl
      · exact h1.elim
      · exact h1.elim

end Go.V
