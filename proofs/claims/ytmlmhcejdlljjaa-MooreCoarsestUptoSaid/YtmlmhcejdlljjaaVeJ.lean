/-
  The verification layer, part ten: regions that draw their order.
-/
import Derived.Test.YtmlmhcejdlljjaaVeI
set_option linter.unusedSimpArgs false
set_option linter.unusedVariables false
namespace Go.V
variable {E : Env}

def G0 : PHeap := fun _ => none

theorem HeapOk.nothing (w : World) : HeapOk ⟨w.os, w.output, [], []⟩ G0 [] w := ⟨⟨rfl, rfl⟩, fun b o h => (by cases h), fun p hp => (by cases hp), trivial, by simp, by simp⟩

theorem runS_quiet {α : Type} {P : Program} (s : Sem α) {k : α → Heap → Prop} (h : runS true P G0 s [] k) : ∃ x, k x [] ∧ ∀ w, s.run P w = .ok x w :=
  let ⟨x, h1, h2⟩ := runS_reads s h
  ⟨x, h1, fun w => h2 w (HeapOk.nothing w)⟩

/-- operations that look at no memory, and make none -/
def isPure (T : Tys) : Op → Bool
  | .move _ | .assign _ | .pick .. | .build .. | .nilCheck _ | .binOp .. | .unOp .. | .makeFunc .. | .slice .. | .fieldAddr .. | .field .. | .indexAddr .. | .index .. | .extract .. => true
  | .convert s d _ => match (T s).k, (T d).k with
    | .int _, .int _ => true
    | .string, .string => true
    | _, _ => false
  | .call { callee := .builtin b, argTypes := ts, .. } => match b with
    | .min | .max => true
    | .len => match ts.toList with
      | [t] => match (T t).k with
        | .map .. => false
        | _ => true
      | _ => false
    | _ => false
  | _ => false

theorem pure_runs {P : Program} {T : Tys} (hT : TyOk P T) {o : Oper} {sz : Nat} {G : PHeap} {l : Fr} {H : Heap} {a : Act} {w0 : World} {k : Value → PHeap → Heap → Prop}
    (hp : isPure T o.op = true) (h : stepF P T o.op G l H k) (hs : Sim E sz G l H a w0) : ∃ v, k v G H ∧ ∀ w, (execOp a.eval o).run P w = .ok (.value v) w := by
  obtain ⟨dst, op, ty, pos, after, guard⟩ := o
  have val : ∀ (s : Sem Value), runS true P G0 s [] (fun v _ => k v G H) → execOp a.eval ⟨dst, op, ty, pos, after, guard⟩ = (do pure (.value (← s))) → ∃ v, k v G H ∧ ∀ w, (execOp a.eval ⟨dst, op, ty, pos, after, guard⟩).run P w = .ok (.value v) w := fun s hr he => by
    obtain ⟨x, h1, h2⟩ := runS_quiet s hr
    exact ⟨x, h1, fun w => by rw [he, Sem.run_bind, h2 w]; rfl⟩
  cases op <;> simp only [isPure, Bool.false_eq_true] at hp <;> simp only [stepF] at h
  case move x => exact val (pure (a.eval x)) (withV_ev hs h) rfl
  case assign x => exact val (pure (a.eval x)) (withV_ev hs h) rfl
  case pick c x y =>
    have h1 := withV_ev hs (withV_ev hs (withV_ev hs h))
    unfold pickK at h1
    split at h1
    · rename_i t hc
      refine val (pure (if t then a.eval x else a.eval y)) (by rw [runS_pure, ← pickV_eq]; exact h1) ?_
      simp only [execOp, hc, asBool]
      cases t <;> rfl
    · exact h1.elim
  case build t parts =>
    have h1 := evPK_ev hs h
    have h2 : opBuild T t (parts.map fun p => (p.1, a.eval p.2)).toList fun v => k v G H := by rw [Array.toList_map]; exact h1
    exact val (Instr.build t (parts.map fun p => (p.1, a.eval p.2))) (opBuild_sound hT h2) (by simp only [execOp])
  case nilCheck x =>
    have h1 := withV_ev hs h
    refine val (pure (a.eval x)) (by rw [runS_pure]; unfold nilK at h1; split at h1 <;> first | exact h1 | exact h1.elim) ?_
    unfold nilK at h1
    simp only [execOp]
    split at h1
    · rename_i v p hp; rw [hp]; rfl
    · rename_i v f fs cs hp; rw [hp]; rfl
    · rename_i v p hp; rw [hp]; rfl
    · exact h1.elim
  case binOp op t x y u =>
    have h1 := withV_ev hs (withV_ev hs h)
    refine val (do eqGuard op t x y (a.eval x) (a.eval y); binOp op t (a.eval x) (a.eval y)) ?_ ?_
    · rw [runS_bind, opBin_guard hT h1]; exact opBin_sound hT h1
    · simp only [execOp]
  case unOp op t x => exact val _ (opUn_sound (withV_ev hs h)) rfl
  case convert s d x =>
    have h1 := withV_ev hs h
    refine val (convert s d (a.eval x)) ?_ rfl
    unfold opConv at h1
    split at h1
    · rename_i b n hx
      split at h1
      · rename_i j c hs1 hd1
        obtain ⟨d1, e1, f1⟩ := hT.und hs1 (by simp)
        obtain ⟨d2, e2, f2⟩ := hT.und hd1 (by simp)
        simp only [TK.fits] at f1 f2
        subst f1; subst f2
        rw [hx]
        simp only [convert, runS_bind, runS_underlying e1, runS_underlying e2, Conv.intToInt, runS_pure]
        exact h1
      · exact h1.elim
    · rename_i str hx
      split at h1
      · rename_i hs1 hd1
        obtain ⟨d1, e1, f1⟩ := hT.und hs1 (by simp)
        obtain ⟨d2, e2, f2⟩ := hT.und hd1 (by simp)
        simp only [TK.fits] at f1 f2
        subst f1; subst f2
        rw [hx]
        simp only [convert, runS_bind, runS_underlying e1, runS_underlying e2, runS_pure]
        exact h1
      · rename_i e hs1 hd1; rw [hs1, hd1] at hp; simp at hp
      · exact h1.elim
    · split at h1
      · rename_i hs1 hd1; rw [hs1, hd1] at hp; simp at hp
      · rename_i hs1 hd1; rw [hs1, hd1] at hp; simp at hp
      · exact h1.elim
    · exact h1.elim
  case fieldAddr t x f => exact val _ (opField_sound hT (withV_ev hs h)) rfl
  case field t x f => exact val _ (opFieldV_sound hT (withV_ev hs h)) rfl
  case indexAddr t x i => exact val _ (opIndexAddr_sound hT (withV_ev hs (withV_ev hs h))) rfl
  case index t x i => exact val _ (opIndex_sound hT (withV_ev hs (withV_ev hs h))) rfl
  case extract x i => exact val _ (opExtract_sound (withV_ev hs h)) rfl
  case makeFunc fn first caps =>
    have h1 := evK_ev hs (evK_ev hs h)
    refine val (Instr.makeFunc fn (first.map a.eval) (caps.map a.eval)) ?_ rfl
    simp only [Instr.makeFunc, runS_pure]
    have e1 : (first.toList.map a.eval).toArray = first.map a.eval := by apply Array.ext'; simp
    have e2 : (caps.toList.map a.eval).toArray = caps.map a.eval := by apply Array.ext'; simp
    rw [e1, e2] at h1; exact h1
  case slice t x lo hi mx => exact val _ (opSlice_sound hT (evO_ev hs (evO_ev hs (evO_ev hs (withV_ev hs h))))) rfl
  case call c =>
    obtain ⟨callee, args, ats⟩ := c
    cases callee with
    | invoke r m => simp at hp
    | value f => simp at hp
    | builtin b =>
      have h1 := evK_ev hs h
      unfold builtinK at h1
      have hex : ∀ (s : Sem Value), builtin b ats ty (args.map fun | .const _ => true | _ => false) (args.map a.eval) = (do pure (.value (← s))) →
          execOp a.eval ⟨dst, .call { callee := .builtin b, args := args, argTypes := ats }, ty, pos, after, guard⟩ = (do pure (.value (← s))) := fun s hb => by
        simp only [execOp, resolve, pure_bind, invoke]
        exact hb
      have harr : ∀ vs : List Value, args.toList.map a.eval = vs → args.map a.eval = vs.toArray := fun vs hv => by apply Array.ext'; simpa using hv
      have htys : ∀ ts : List TypeId, ats.toList = ts → ats = ts.toArray := fun ts hv => by apply Array.ext'; simpa using hv
      split at h1
      · rename_i t x ht hx
        refine val (Builtin.len_ #[t] ty #[x]) ?_ (hex _ ?_)
        · unfold lenK at h1
          split at h1
          · split at h1
            · rename_i hmk
              have ht' : ats.toList = [t] := ht
              have hp' : (match ats.toList with | [t] => (match (T t).k with | .map .. => false | _ => true) | _ => false) = true := hp
              rw [ht'] at hp'
              simp [hmk] at hp'
            · exact h1.elim
          · exact opLen_sound hT h1
        · rw [harr _ hx, htys _ ht]
          exact rfl
      · simp at hp
      · simp at hp
      · refine val (Builtin.min_ ats ty (args.toList.map a.eval).toArray) (opMin_sound (ts := ats) (ty := ty) h1) (hex _ ?_)
        rw [harr _ rfl]
        exact rfl
      · refine val (Builtin.max_ ats ty (args.toList.map a.eval).toArray) (opMax_sound (ts := ats) (ty := ty) h1) (hex _ ?_)
        rw [harr _ rfl]
        exact rfl
      · simp at hp
      · exact h1.elim

/-- an order in which a region may be gone through, so that every other order comes to the same -/
def drawOk (T : Tys) (ops : Array Oper) : List Nat → Array Bool → Bool
  | [], listed => (Region.ready .any ops listed).isEmpty
  | i :: σ, listed => (match ops[i]? with
    | none => false
    | some o => if isPure T o.op then (Region.ready .any ops listed).contains i && Region.free .any ops listed i else decide (Region.ready .any ops listed = [i])) && drawOk T ops σ (listed.setIfInBounds i true)

def opAt (all : List Oper) (i : Nat) : Option Oper := all[i]?
theorem opAt_zero (o : Oper) (os : List Oper) : opAt (o :: os) 0 = some o := rfl
theorem opAt_succ (o : Oper) (os : List Oper) (n : Nat) : opAt (o :: os) (n + 1) = opAt os n := by simp [opAt]

def opK (o : Option Oper) (k : Oper → Prop) (_ : Tok k := .mk) : Prop := match o with | some o => k o | none => False
theorem opK_some (o : Oper) (k : Oper → Prop) : opK (some o) k = k o := rfl

/-- one operation, with its guard -/
def stepO (P : Program) (T : Tys) (all : List Oper) (o : Oper) (G : PHeap) (l : Fr) (H : Heap) (K : PHeap → Fr → Heap → Prop) (_ : Tok all := .mk) (_ : Tok o := .mk) (_ : Tok K := .mk) : Prop :=
  guardK all o.guard l (fun l' => stepF P T o.op G l' H fun v G' H' => K G' (put l' o.dst v) H') (fun l' => K G (put l' o.dst undef) H)

def wpD (P : Program) (T : Tys) (all : List Oper) (σ : List Nat) (G : PHeap) (l : Fr) (H : Heap) (K : PHeap → Fr → Heap → Prop) (_ : Tok all := .mk) (_ : Tok σ := .mk) (_ : Tok K := .mk) : Prop :=
  match σ with
  | [] => K G l H
  | i :: σ => opK (opAt all i) fun o => stepO P T all o G l H fun G' l' H' => wpD P T all σ G' l' H' K

section
variable (P : Program) (T : Tys) (all : List Oper) (d : Option Nat) (op : Op) (t : TypeId) (p : String) (af : Array Edge) (G : PHeap) (l : Fr) (H : Heap) (K : PHeap → Fr → Heap → Prop)
theorem wpD_nil : wpD P T all [] G l H K = K G l H := rfl
theorem wpD_cons (i : Nat) (σ : List Nat) : wpD P T all (i :: σ) G l H K = opK (opAt all i) fun o => stepO P T all o G l H fun G' l' H' => wpD P T all σ G' l' H' K := rfl
theorem stepO_plain : stepO P T all ⟨d, op, t, p, af, none⟩ G l H K = stepF P T op G l H fun v G' H' => K G' (put l d v) H' := rfl
theorem stepO_guard (g : Nat × Bool) : stepO P T all ⟨d, op, t, p, af, some g⟩ G l H K = guardK all (some g) l (fun l' => stepF P T op G l' H fun v G' H' => K G' (put l' d v) H') (fun l' => K G (put l' d undef) H) := rfl
end

/-- a guard at a state of the machine: what it is there -/
theorem guardK_at {all : Array Oper} {o : Oper} {sz : Nat} {G : PHeap} {l : Fr} {H : Heap} {a : Act} {w : World} {yes no : Fr → Prop} (h : guardK all.toList o.guard l yes no) (hs : Sim E sz G l H a w) :
    ∃ l', Sim E sz G l' H a w ∧ ((Region.wanted o (yielded all a.tmps) = true ∧ yes l') ∨ (Region.wanted o (yielded all a.tmps) = false ∧ no l')) := by
  unfold guardK at h
  split at h
  · rename_i hg
    exact ⟨l, hs, .inl ⟨by simp [Region.wanted, hg], h⟩⟩
  · rename_i j want hg
    split at h
    · exact h.elim
    · rename_i t ht
      have hdst : (all[j]?).bind (·.dst) = some t := by
        simp only [dstAt, Array.getElem?_toList] at ht
        cases ho : all[j]? with
        | none => rw [ho] at ht; simp at ht
        | some o' => rw [ho] at ht; simpa using ht
      unfold withV at h
      split at h
      · rename_i v hv
        have htv := hs.fr t v hv
        have hw : Region.wanted o (yielded all a.tmps) = gv v want := by
          unfold Region.wanted yielded
          simp only [hg, hdst, Option.bind_some]
          have htv' := htv
          rw [Array.getD_eq_getD_getElem?] at htv'
          cases hh : a.tmps[t]? with
          | none =>
            rw [hh] at htv'
            simp [undef] at htv'
            subst htv'
            rfl
          | some x =>
            rw [hh] at htv'
            simp at htv'
            subst htv'
            cases x <;> simp [gv]
        rw [hw]
        cases v <;> simp only [gK] at h <;> try exact h.elim
        case bool b =>
          rcases Bool.eq_false_or_eq_true (b == want) with hb | hb
          · rw [hb, Br_true] at h
            have e : b = want := by simpa using hb
            subst e
            exact ⟨_, hs.know htv, .inl ⟨hb, h⟩⟩
          · rw [hb, Br_false] at h
            have e : b = !want := by cases b <;> cases want <;> simp_all
            subst e
            exact ⟨_, hs.know htv, .inr ⟨hb, h⟩⟩
        case tuple vs => exact ⟨l, hs, .inr ⟨rfl, h⟩⟩
      · exact h.elim

theorem wpD_sound {P : Program} {T : Tys} (hT : TyOk P T) {ops : Array Oper} {sz : Nat} {Q : Exit → Act → World → Prop} (hsel : Region.noSelect ops = true) (hlt : dstsLt sz ops.toList = true)
    (hQ : ∀ c a a' w, Q (.panic c) a w → Q (.panic c) a' w) :
    ∀ (σ : List Nat) (listed : Array Bool) {G : PHeap} {l : Fr} {H : Heap} {a : Act} {w : World} {K : PHeap → Fr → Heap → Prop},
    drawOk T ops σ listed = true → wpD P T ops.toList σ G l H K → Sim E sz G l H a w →
    (∀ G' l' H' a' w', PLe G G' → Sim E sz G' l' H' a' w' → K G' l' H' → Q .normal a' w') → ∀ fuel, σ.length ≤ fuel → wpAny P .any ops Q fuel listed a w
  | [], listed, G, l, H, a, w, K, hd, h, hs, hk, fuel, _ => by
    refine wpAny_done ?_ (hk G l H a w (PLe.refl _) hs h) fuel
    simpa [drawOk] using hd
  | i :: σ, listed, G, l, H, a, w, K, hd, h, hs, hk, fuel, hf => by
    obtain ⟨fuel, rfl⟩ : ∃ f, fuel = f + 1 := ⟨fuel - 1, by simp at hf; omega⟩
    simp only [drawOk, Bool.and_eq_true] at hd
    obtain ⟨hd1, hd2⟩ := hd
    simp only [wpD, opAt, opK, Array.getElem?_toList] at h
    cases ho : ops[i]? with
    | none => rw [ho] at h; exact h.elim
    | some o =>
      simp only [ho] at h hd1
      have hmem : o ∈ ops.toList := by
        have := Array.mem_of_getElem? ho
        simpa using this
      have hdo := dstsLt_spec hlt o hmem
      unfold stepO at h
      obtain ⟨l', hs', hcase⟩ := guardK_at h hs
      have hrest : ∀ {G' : PHeap} {l2 : Fr} {H' : Heap} {a2 : Act} {w2 : World}, PLe G G' → wpD P T ops.toList σ G' l2 H' K → Sim E sz G' l2 H' a2 w2 → wpAny P .any ops Q fuel (listed.setIfInBounds i true) a2 w2 := fun hle hwp hs2 =>
        wpD_sound hT hsel hlt hQ σ _ hd2 hwp hs2 (fun G3 l3 H3 a3 w3 hle3 hs3 hk3 => hk G3 l3 H3 a3 w3 (hle.trans hle3) hs3 hk3) fuel (by simp at hf; omega)
      by_cases hp : isPure T o.op = true
      · rw [if_pos hp, Bool.and_eq_true] at hd1
        rcases hcase with ⟨hw, hy⟩ | ⟨hw, hn⟩
        · obtain ⟨v, h1, h2⟩ := pure_runs hT hp hy hs'
          exact wpAny_take ho hsel hd1.2 hd1.1 (fun c a w hq => hQ c _ _ w hq) (v := v) (.inl ⟨hw, h2⟩) (hrest (PLe.refl _) h1 (hs'.put hs'.heap hdo))
        · exact wpAny_take ho hsel hd1.2 hd1.1 (fun c a w hq => hQ c _ _ w hq) (v := undef) (.inr ⟨hw, rfl⟩) (hrest (PLe.refl _) hn (hs'.put hs'.heap hdo))
      · rw [if_neg hp, decide_eq_true_eq] at hd1
        refine wpAny_all hd1 (by simp) fun j hj => ?_
        obtain rfl : j = i := by simpa using hj
        unfold wpOp
        simp only [ho]
        rcases hcase with ⟨hw, hy⟩ | ⟨hw, hn⟩
        · rw [if_pos hw]
          exact .inl (stepF_sound hT hy hs' fun v G' H' w' hle hw' hk' => hrest hle hk' (hs'.put hw' hdo))
        · rw [if_neg (by simp [hw])]
          exact hrest (PLe.refl _) hn (hs'.put hs'.heap hdo)

theorem Tri.draw {P : Program} {T : Tys} (hT : TyOk P T) (hm : P.follows .mixedOrders = true) {sz : Nat} (keep : List Nat) {id : Nat} {ops : List Oper} {G : PHeap} {l : Fr} {H : Heap} {K : Post} (σ : List Nat)
    (hok : (Region.noSelect ops.toArray && dstsLt sz ops && drawOk T ops.toArray σ (Array.replicate ops.toArray.size false) && decide (σ.length ≤ ops.toArray.size)) = true)
    (h : wpD P T ops σ G l H fun G' l' H' => K .normal G' (restrict keep l') H') : Tri P sz (.region id ops.toArray true) G l H K := by
  intro E a w Q hs hk
  simp only [Bool.and_eq_true, decide_eq_true_eq] at hok
  obtain ⟨⟨⟨h1, h2⟩, h3⟩, h4⟩ := hok
  -- what is asked of a panic is asked of none
  refine wp_mono (Q := fun e a w => match e with | .normal => Q .normal a w | _ => False) (wp_region_any hm ?_) (fun e a w hq => by cases e <;> first | exact hq | exact hq.elim)
  refine wpD_sound hT (ops := ops.toArray) h1 h2 (fun c a a' w hq => hq.elim) σ _ h3 h (w := { w with drawn := w.drawn + 1 }) ⟨hs.size, hs.defers, hs.fr, hs.heap.drew _⟩ ?_ _ h4
  intro G' l' H' a' w' hle hs' hk'
  exact hk E .normal G' _ H' a' w' (Env.le.refl E) hle (hs'.weak (look_restrict keep l')) hk'

attribute [go_sem] wpD_nil wpD_cons stepO_plain stepO_guard opK_some opAt_zero opAt_succ

end Go.V
