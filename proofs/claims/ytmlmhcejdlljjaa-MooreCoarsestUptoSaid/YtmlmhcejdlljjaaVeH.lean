/-
  The verification layer, part eight: regions, code, loops, functions.
-/
import Derived.Test.YtmlmhcejdlljjaaVeG
import Derived.RangeFuncIn
import Derived.RangeFuncRecord
import Derived.RangeFuncLeaves
import Derived.RangeFuncSeq
import Derived.TacticsIn
set_option linter.unusedSimpArgs false
set_option linter.unusedVariables false
namespace Go.V
variable {E : Env}

/-! ## calls of yield; a round's frame -/

/-- the fence that lets all in, at a round's frame or none -/
def FF (ro : Option Nat) : Fence := { Fence.wide with round := ro }
theorem FF_none : FF none = Fence.wide := rfl

/-- a round of a range over a function, asked for by a call of yield -/
def YldT (P : Program) (lr : Nat) (args : List Value) (G : PHeap) (H : Heap) (R : Value → PHeap → Heap → Prop) (_ : Tok R := .mk) : Prop :=
  ∀ ⦃E : Env⦄ w, HeapOk E G H w → YieldAt Fence.wide 0 P lr args.toArray w fun e w' => ∃ v G' H', e = .returned v ∧ PLe G G' ∧ HeapOk E G' H' w' ∧ R v G' H'

def callY (P : Program) (fv : Value) (vs : List Value) (G : PHeap) (H : Heap) (k : Value → PHeap → Heap → Prop) (_ : Tok k := .mk) : Prop :=
  match fv with
  | .func (.yield lr) first _ => first = #[] ∧ YldT P lr vs G H k
  | fv => callK P fv vs G H k

/-- one operation, calls of yield among them -/
def stepY (P : Program) (T : Tys) (op : Op) (G : PHeap) (l : Fr) (H : Heap) (k : Value → PHeap → Heap → Prop) (_ : Tok k := .mk) : Prop :=
  match op with
  | .call c => match c.callee with
    | .value f => withV (ev l f) fun fv => evK l c.args.toList fun vs => callY P fv vs G H k
    | _ => stepF P T (.call c) G l H k
  | op => stepF P T op G l H k

theorem rowsIn_of {P : Program} {ro : Option Nat} {row : String} {args : Array Value} {w : World} {R : Value → World → Prop} (h : Rows P row args w R) : RowsIn (FF ro) 0 P row args w R :=
  fun c cs _ => let ⟨v, w', r, s⟩ := h c cs; ⟨v, w', r, stepsIn_wide.2 s⟩
theorem callsIn_of {P : Program} {ro : Option Nat} {f : FuncId} {args : Array Value} {w : World} {R : Ending → World → Prop} (h : Calls P f args w R) : CallsIn (FF ro) 0 P f args w R :=
  ⟨trivial, fun cs _ => let ⟨e, w', fr, r, s, x⟩ := h cs; ⟨e, w', fr, r, comesIn_wide.2 s, x⟩⟩

theorem wpIn_of_wp {P : Program} {ro : Option Nat} {o : Oper} (hd : ∀ c, o.op ≠ .defer c) {a : Act} {w : World} {next : Act → World → Prop} {Q : Exit → Act → World → Prop} (h : o.wp P a w next Q) : o.wpIn (FF ro) 0 P a w next Q := by
  refine ⟨fun _ _ => trivial, ?_⟩
  rw [show (FF ro).round = ro from rfl, Oper.semAt_eq ro a.eval o hd]
  unfold Oper.wp at h
  revert h
  generalize (execOp a.eval o).run P w = r
  intro h
  cases r with
  | ok x w' =>
    cases x with
    | value v => exact h
    | skip => exact h
    | defer d => exact h
    | enter f args => exact ⟨fun _ => by simp_all [FF, Fence.wide], callsIn_of h⟩
    | row row args => exact ⟨fun _ => by simp_all [FF, Fence.wide], rowsIn_of h⟩
    | _ => exact h.elim
  | halt x w' =>
    cases x <;> first | exact h | exact h.elim

theorem stepY_sound {P : Program} {T : Tys} (hT : TyOk P T) {ro : Option Nat} {o : Oper} {sz : Nat} {G : PHeap} {l : Fr} {H : Heap} {a : Act} {w : World} {k : Value → PHeap → Heap → Prop}
    {next : Act → World → Prop} {Q : Exit → Act → World → Prop} (h : stepY P T o.op G l H k) (hs : Sim E sz G l H a w)
    (hk : ∀ v G' H' w', PLe G G' → HeapOk E G' H' w' → k v G' H' → next (a.put o.dst v) w') : o.wpIn (FF ro) 0 P a w next Q := by
  have old : stepF P T o.op G l H k → o.wpIn (FF ro) 0 P a w next Q := fun h => wpIn_of_wp (fun c hc => by rw [hc] at h; exact h.elim) (stepF_sound hT h hs hk)
  obtain ⟨dst, op, ty, pos, after, guard⟩ := o
  cases op with
  | call c =>
    obtain ⟨callee, args, ats⟩ := c
    cases callee with
    | value f =>
      simp only [stepY] at h
      have h1 := evK_ev hs (withV_ev hs h)
      unfold callY at h1
      split at h1
      · rename_i fv lr first caps hf
        obtain ⟨rfl, h1⟩ := h1
        obtain ⟨fn, tmps, as, body, hr, hround⟩ := h1 w hs.heap
        refine ⟨fun _ _ => trivial, ?_⟩
        rw [show (FF ro).round = ro from rfl, Oper.semAt_eq ro a.eval _ (fun c hc => by cases hc)]
        have he : execOp a.eval ⟨dst, .call { callee := .value f, args := args, argTypes := ats }, ty, pos, after, guard⟩ = Instr.yield lr (args.map a.eval) := by
          simp only [execOp, resolve, hf, Deferred.ofValue, pure_bind, invoke]
          simp
        have hargs : (args.toList.map a.eval).toArray = args.map a.eval := by apply Array.ext'; simp
        rw [hargs] at hr
        rw [he, hr]
        refine ⟨fun hx => by simp [FF, Fence.wide] at hx, ?_⟩
        have hround' : RoundIn (FF ro) 0 P lr fn tmps as body w _ := hround
        refine ⟨hround'.1, fun c cs hroom => ?_⟩
        obtain ⟨e, w', ⟨v, G', H', rfl, h2, h3, h4⟩, hcomes⟩ := hround'.2 c cs hroom
        exact ⟨.returned v, w', hk v G' H' w' h2 h3 h4, hcomes⟩
      · rename_i hny
        have hne : ∀ vs, callY P (a.eval f) vs G H k = callK P (a.eval f) vs G H k := fun vs => by
          unfold callY
          split
          · rename_i e; exact (hny _ _ _ e).elim
          · rfl
        refine old ?_
        simp only [stepF]
        cases hev : ev l f with
        | none => rw [hev] at h; exact h.elim
        | some v =>
          have e := hs.ev hev
          rw [hev] at h
          simp only [withV] at h ⊢
          rw [e] at hne
          rw [← funext hne]
          exact h
    | builtin b => exact old h
    | invoke r m => exact old h
  | _ => exact old h

/-! ## a region in the order of the text -/

def isUndef (v : Value) : Bool := match v with | .tuple _ => true | _ => false

def gK (v : Value) (t : Nat) (want : Bool) (l : Fr) (yes no : Fr → Prop) (_ : Tok yes := .mk) (_ : Tok no := .mk) : Prop :=
  match v with
  | .bool b => Br (b == want) (yes ((t, .bool want) :: l)) (no ((t, .bool (!want)) :: l))
  | .tuple _ => no l
  | _ => False
/-- where the operation with this number leaves its value -/
def dstAt (ops : List Oper) (j : Nat) : Option (Option Nat) := (ops[j]?).map (·.dst)
def gv (v : Value) (want : Bool) : Bool := match v with | .bool b => b == want | _ => false

/-- a guard: is the operation wanted? -/
def guardK (all : List Oper) (g : Option (Nat × Bool)) (l : Fr) (yes no : Fr → Prop) (_ : Tok yes := .mk) (_ : Tok no := .mk) : Prop :=
  match g with
  | none => yes l
  | some (j, want) => match (dstAt all j).join with
    | none => False
    | some t => withV (look l t) fun v => gK v t want l yes no

def wpO (P : Program) (T : Tys) (all : List Oper) (os : List Oper) (G : PHeap) (l : Fr) (H : Heap) (K : PHeap → Fr → Heap → Prop) (_ : Tok all := .mk) (_ : Tok os := .mk) (_ : Tok K := .mk) : Prop :=
  match os with
  | [] => K G l H
  | o :: rest => guardK all o.guard l
      (fun l' => stepY P T o.op G l' H fun v G' H' => wpO P T all rest G' (put l' o.dst v) H' K)
      (fun l' => wpO P T all rest G (put l' o.dst undef) H K)

def dstsLt (sz : Nat) (ops : List Oper) : Bool := ops.all fun o => match o.dst with | some d => decide (d < sz) | none => true

theorem Sim.know {sz : Nat} {G : PHeap} {l : Fr} {H : Heap} {a : Act} {w : World} (h : Sim E sz G l H a w) {t : Nat} {v : Value} (hv : a.tmps.getD t undef = v) : Sim E sz G ((t, v) :: l) H a w :=
  ⟨h.size, h.defers, fun u x hx => by
    simp only [look] at hx
    split at hx
    · rename_i e; subst e; cases hx; exact hv
    · exact h.fr u x hx, h.heap⟩

theorem wpO_sound {P : Program} {T : Tys} (hT : TyOk P T) {ro : Option Nat} {ops : Array Oper} {sz : Nat} {Q : Exit → Act → World → Prop} : ∀ (rest : List Oper) {G : PHeap} {l : Fr} {H : Heap} {a : Act} {w : World} {K : PHeap → Fr → Heap → Prop},
    (∀ o ∈ rest, ∀ d, o.dst = some d → d < sz) → wpO P T ops.toList rest G l H K → Sim E sz G l H a w →
    (∀ G' l' H' a' w', PLe G G' → Sim E sz G' l' H' a' w' → K G' l' H' → Q .normal a' w') → wpListIn (FF ro) 0 P ops Q rest a w
  | [], G, l, H, a, w, K, _, h, hs, hk => hk G l H a w (PLe.refl _) hs h
  | o :: rest, G, l, H, a, w, K, hd, h, hs, hk => by
    have hd' : ∀ o ∈ rest, ∀ d, o.dst = some d → d < sz := fun o ho => hd o (List.mem_cons_of_mem _ ho)
    have hdo := hd o (List.mem_cons_self ..)
    simp only [wpO] at h
    unfold wpListIn
    have yes : ∀ l', Sim E sz G l' H a w → (stepY P T o.op G l' H fun v G' H' => wpO P T ops.toList rest G' (put l' o.dst v) H' K) → o.wpIn (FF ro) 0 P a w (wpListIn (FF ro) 0 P ops Q rest) Q := fun l' hs' h' =>
      stepY_sound hT h' hs' fun v G' H' w' hle hw' hwp => wpO_sound hT rest hd' hwp (hs'.put hw' hdo) fun G2 l2 H2 a2 w2 hle2 hs2 hk2 => hk G2 l2 H2 a2 w2 (hle.trans hle2) hs2 hk2
    have no : ∀ l', Sim E sz G l' H a w → wpO P T ops.toList rest G (put l' o.dst undef) H K → (∀ f, o.about P w a.eval = some f → (FF ro).fn f) ∧ wpListIn (FF ro) 0 P ops Q rest (a.put o.dst undef) w := fun l' hs' h' => ⟨fun _ _ => trivial,
      wpO_sound hT rest hd' h' (hs'.put hs'.heap hdo) hk⟩
    unfold guardK at h
    split at h
    · rename_i hg
      rw [if_pos (by simp [Region.wanted, hg])]
      exact (yes l hs h)
    · rename_i j want hg
      split at h
      · exact h.elim
      · rename_i t ht
        have hdst : (ops[j]?).bind (·.dst) = some t := by
          simp only [dstAt, Array.getElem?_toList] at ht
          cases ho : ops[j]? with
          | none => rw [ho] at ht; simp at ht
          | some o' => rw [ho] at ht; simpa using ht
        unfold withV at h
        split at h
        · rename_i v hv
          have htv := hs.fr t v hv
          have hw : Region.wanted o (yielded ops a.tmps) = gv v want := by
            unfold Region.wanted yielded
            simp only [hg, hdst, Option.bind_some]
            rw [Array.getD_eq_getD_getElem?] at htv
            cases hh : a.tmps[t]? with
            | none =>
              rw [hh] at htv
              simp [undef] at htv
              subst htv
              rfl
            | some x =>
              rw [hh] at htv
              simp at htv
              subst htv
              cases x <;> simp [gv]
          rw [hw]
          cases v <;> simp only [gK] at h <;> try exact h.elim
          case bool b =>
            rcases Bool.eq_false_or_eq_true (b == want) with hb | hb
            · rw [if_pos (show gv (.bool b) want = true from hb)]
              rw [hb, Br_true] at h
              have e : b = want := by simpa using hb
              subst e
              exact (yes _ (hs.know htv) h)
            · rw [if_neg (show ¬ gv (.bool b) want = true by rw [show gv (.bool b) want = false from hb]; simp)]
              rw [hb, Br_false] at h
              have e : b = !want := by cases b <;> cases want <;> simp_all
              subst e
              exact no _ (hs.know htv) h
          case tuple vs =>
            rw [if_neg (show ¬ gv (.tuple vs) want = true by simp [gv])]
            exact no _ hs h
        · exact h.elim

/-! ## code -/

inductive XE where
  | normal | exit (id : Nat) | ret
def XE.to : XE → Exit
  | .normal => .normal
  | .exit id => .exit id
  | .ret => .ret

abbrev Post := XE → PHeap → Fr → Heap → Prop

/-- a later book-keeping -/
def Env.le (E E' : Env) : Prop := E'.os = E.os ∧ E'.out = E.out ∧ E'.outer = E.outer
theorem Env.le.refl (E : Env) : Env.le E E := ⟨rfl, rfl, rfl⟩
theorem Env.le.trans {A B C : Env} (h : Env.le A B) (h' : Env.le B C) : Env.le A C := ⟨h'.1.trans h.1, h'.2.1.trans h.2.1, h'.2.2.trans h.2.2⟩

/-- a piece of code does this, from such states -/
def Tri (P : Program) (sz : Nat) (c : Code) (G : PHeap) (l : Fr) (H : Heap) (K : Post) (_ : Tok c := .mk) (_ : Tok K := .mk) : Prop :=
  ∀ ⦃E : Env⦄ (a : Act) (w : World) (Q : Exit → Act → World → Prop), Sim E sz G l H a w →
    (∀ E' e G' l' H' a' w', Env.le E E' → PLe G G' → Sim E' sz G' l' H' a' w' → K e G' l' H' → Q e.to a' w') → c.wp P Q a w


def thenK (k : PHeap → Fr → Heap → Prop) (K : Post) (_ : Tok k) (_ : Tok K) (e : XE) (G : PHeap) (l : Fr) (H : Heap) : Prop := match e with | .normal => k G l H | e => K e G l H
def blockK (id : Nat) (K : Post) (_ : Tok K) (e : XE) (G : PHeap) (l : Fr) (H : Heap) : Prop := match e with | .exit id' => if id' = id then K .normal G l H else K (.exit id') G l H | e => K e G l H

def condK (v : Value) (x y : Prop) (_ : Tok x := .mk) (_ : Tok y := .mk) : Prop := match v with | .bool b => Br b x y | _ => False

def wpC (P : Program) (T : Tys) (sz : Nat) (keep : List Nat) (c : Code) (G : PHeap) (l : Fr) (H : Heap) (K : Post) (_ : Tok c := .mk) (_ : Tok K := .mk) : Prop :=
  match c with
  | .skip => K .normal G l H
  | .region id ops true => Tri P sz (.region id ops true) G l H K
  | .region id ops false => wpO P T ops.toList ops.toList G l H fun G' l' H' => K .normal G' (restrict keep l') H'
  | .seq x y => wpC P T sz keep x G l H (thenK (fun G' l' H' => wpC P T sz keep y G' l' H' K) K .mk .mk)
  | .cond c x y => withV (ev l c) fun v => condK v (wpC P T sz keep x G l H K) (wpC P T sz keep y G l H K)
  | .block id c => wpC P T sz keep c G l H (blockK id K .mk)
  | .exit id => K (.exit id) G l H
  | .label _ => K .normal G l H
  | .ret => K .ret G l H
  | .loop c => Tri P sz (.loop c) G l H K
  | .scope c => wpC P T sz keep c G l H K
  | .rangeFunc f ps as c => Tri P sz (.rangeFunc f ps as c) G l H K
  | .goto _ => False
  | .refuse _ => False

/-- every slot that is written lies in the frame -/
def codeLt (sz : Nat) : Code → Bool
  | .region _ ops _ => dstsLt sz ops.toList
  | .seq x y => codeLt sz x && codeLt sz y
  | .cond _ x y => codeLt sz x && codeLt sz y
  | .block _ c => codeLt sz c
  | .loop c => codeLt sz c
  | .scope c => codeLt sz c
  | .rangeFunc _ _ x y => codeLt sz x && codeLt sz y
  | _ => true

theorem dstsLt_spec {sz : Nat} {ops : List Oper} (h : dstsLt sz ops = true) : ∀ o ∈ ops, ∀ d, o.dst = some d → d < sz := by
  intro o ho d hd
  have := List.all_eq_true.1 h o ho
  simp only [hd, decide_eq_true_eq] at this
  exact this

/-- code that a round's frame may hold -/
def calm : Code → Bool
  | .region _ _ draw => !draw
  | .seq x y => calm x && calm y
  | .cond _ x y => calm x && calm y
  | .block _ c => calm c
  | .loop _ => false
  | .scope _ => false
  | .rangeFunc .. => false
  | _ => true

/-- the same, in a round's frame or in none -/
def TriR (ro : Option Nat) (P : Program) (sz : Nat) (c : Code) (G : PHeap) (l : Fr) (H : Heap) (K : Post) : Prop :=
  ∀ ⦃E : Env⦄ (a : Act) (w : World) (Q : Exit → Act → World → Prop), Sim E sz G l H a w →
    (∀ E' e G' l' H' a' w', Env.le E E' → (ro.isSome = true → E' = E) → PLe G G' → Sim E' sz G' l' H' a' w' → K e G' l' H' → Q e.to a' w') → c.wpIn (FF ro) 0 P Q a w

theorem TriR.none {P : Program} {sz : Nat} {c : Code} {G : PHeap} {l : Fr} {H : Heap} {K : Post} : TriR none P sz c G l H K ↔ Tri P sz c G l H K :=
  ⟨fun h E a w Q hs hk => wpIn_wide.1 (h a w Q hs fun E' e G' l' H' a' w' hE _ => hk E' e G' l' H' a' w' hE), fun h E a w Q hs hk => wpIn_wide.2 (h a w Q hs fun E' e G' l' H' a' w' hE => hk E' e G' l' H' a' w' hE (fun h => by cases h))⟩

theorem wpC_soundR {P : Program} {T : Tys} (hT : TyOk P T) {ro : Option Nat} {sz : Nat} {keep : List Nat} : ∀ (c : Code) {G : PHeap} {l : Fr} {H : Heap} {K : Post}, (ro.isSome = true → calm c = true) → codeLt sz c = true → wpC P T sz keep c G l H K → TriR ro P sz c G l H K := by
  have old : ∀ {c : Code} {G : PHeap} {l : Fr} {H : Heap} {K : Post}, (ro.isSome = true → False) → Tri P sz c G l H K → TriR ro P sz c G l H K := fun hro h => by
    cases ro with
    | none => exact TriR.none.2 h
    | some r => exact (hro rfl).elim
  intro c
  induction c with
  | skip => intro G l H K _ _ h E a w Q hs hk; exact wpIn_skip (hk E .normal G l H a w (Env.le.refl E) (fun _ => rfl) (PLe.refl _) hs h)
  | region id ops draw =>
    intro G l H K hc hlt h
    cases draw with
    | true => exact old (fun hr => by have := hc hr; cases this) h
    | false =>
      simp only [wpC] at h
      intro E a w Q hs hk
      refine wpIn_region_list (wpO_sound hT ops.toList (dstsLt_spec hlt) h hs fun G' l' H' a' w' hle hs' hk' => ?_)
      exact hk E .normal G' _ H' a' w' (Env.le.refl E) (fun _ => rfl) hle (hs'.weak (look_restrict keep l')) hk'
  | seq x y ihx ihy =>
    intro G l H K hc hlt h E a w Q hs hk
    simp only [codeLt, calm, Bool.and_eq_true] at hlt hc
    refine wpIn_seq (ihx (fun h => (hc h).1) hlt.1 h a w _ hs fun E' e G' l' H' a' w' hE hro hle hs' hk' => ?_)
    cases e with
    | normal => exact ihy (fun h => (hc h).2) hlt.2 hk' a' w' Q hs' fun E2 e G2 l2 H2 a2 w2 hE2 hro2 hle2 hs2 hk2 => hk E2 e G2 l2 H2 a2 w2 (hE.trans hE2) (fun h => (hro2 h).trans (hro h)) (hle.trans hle2) hs2 hk2
    | exit id => exact hk E' (.exit id) G' l' H' a' w' hE hro hle hs' hk'
    | ret => exact hk E' .ret G' l' H' a' w' hE hro hle hs' hk'
  | cond c x y ihx ihy =>
    intro G l H K hc hlt h E a w Q hs hk
    simp only [codeLt, calm, Bool.and_eq_true] at hlt hc
    simp only [wpC] at h
    have h1 := withV_ev hs h
    unfold condK at h1
    split at h1
    · rename_i b hb
      exact wpIn_cond_split hb (fun e => ihx (fun h => (hc h).1) hlt.1 (h1.1 e) a w Q hs hk) (fun e => ihy (fun h => (hc h).2) hlt.2 (h1.2 e) a w Q hs hk)
    · exact h1.elim
  | block id c ih =>
    intro G l H K hc hlt h E a w Q hs hk
    refine wpIn_block (ih hc hlt h a w _ hs fun E' e G' l' H' a' w' hE hro hle hs' hk' => ?_)
    cases e with
    | normal => exact hk E' .normal G' l' H' a' w' hE hro hle hs' hk'
    | exit id' =>
      simp only [blockK] at hk'
      simp only [XE.to, Exit.inBlock]
      split
      · rename_i e; rw [if_pos e] at hk'; exact hk E' .normal G' l' H' a' w' hE hro hle hs' hk'
      · rename_i e; rw [if_neg e] at hk'; exact hk E' (.exit id') G' l' H' a' w' hE hro hle hs' hk'
    | ret => exact hk E' .ret G' l' H' a' w' hE hro hle hs' hk'
  | loop c ih => intro G l H K hc hlt h; exact old (fun hr => by have := hc hr; cases this) h
  | rangeFunc f ps x y ihx ihy => intro G l H K hc hlt h; exact old (fun hr => by have := hc hr; cases this) h
  | exit id => intro G l H K _ _ h E a w Q hs hk; exact wpIn_exit (hk E (.exit id) G l H a w (Env.le.refl E) (fun _ => rfl) (PLe.refl _) hs h)
  | scope c ih =>
    intro G l H K hc hlt h
    cases ro with
    | some r => have := hc rfl; cases this
    | none =>
      refine TriR.none.2 fun E a w Q hs hk => wp_scope_straight (TriR.none.1 (ih (fun h => by cases h) hlt h) a w _ hs fun E' e G' l' H' a' w' hE hle hs' hk' => ?_)
      cases e <;> exact hk E' _ G' l' H' a' w' hE hle hs' hk'
  | label n => intro G l H K _ _ h E a w Q hs hk; exact wpIn_label (hk E .normal G l H a w (Env.le.refl E) (fun _ => rfl) (PLe.refl _) hs h)
  | goto n => intro G l H K _ _ h; exact h.elim
  | ret => intro G l H K _ _ h E a w Q hs hk; exact wpIn_ret (hk E .ret G l H a w (Env.le.refl E) (fun _ => rfl) (PLe.refl _) hs h)
  | refuse why => intro G l H K _ _ h; exact h.elim

theorem wpC_sound {P : Program} {T : Tys} (hT : TyOk P T) {sz : Nat} {keep : List Nat} (c : Code) {G : PHeap} {l : Fr} {H : Heap} {K : Post} (hlt : codeLt sz c = true) (h : wpC P T sz keep c G l H K) : Tri P sz c G l H K :=
  TriR.none.1 (wpC_soundR hT c (fun h => by cases h) hlt h)

/-! ## loops -/

theorem wp_loopN {P : Program} {c : Code} {Q : Exit → Act → World → Prop} (I : Nat → Act → World → Prop)
    (round : ∀ n a w, I n a w → c.wp P (Exit.then (fun a' w' => ∃ m, m < n ∧ I m a' w') Q) a w) : ∀ n a w, I n a w → (Code.loop c).wp P Q a w := by
  intro n a w h0 b k cs
  have key : ∀ n a w, I n a w → ∃ e a' w', Q e a' w' ∧ Arrives P (lone (b.at a (.code c :: .inLoop c :: k)) cs w) b k cs e a' w' := by
    intro n
    induction n using Nat.strongRecOn with
    | _ n ih =>
      intro a w hI
      obtain ⟨e, a₁, w₁, hq, harr⟩ := round n a w hI b (.inLoop c :: k) cs
      cases e with
      | normal =>
        obtain ⟨m, hlt, hI₁⟩ := hq
        obtain ⟨e₂, a₂, w₂, hq₂, harr₂⟩ := ih m hlt a₁ w₁ hI₁
        exact ⟨e₂, a₂, w₂, hq₂, .of_steps (Steps.trans harr (.one step_inLoop)) harr₂⟩
      | exit id => exact ⟨_, a₁, w₁, hq, .pass (x := .inLoop c) rfl (fun _ _ => .inl (by simp)) harr⟩
      | goto l => exact ⟨_, a₁, w₁, hq, .pass (x := .inLoop c) rfl (fun _ _ => .inl (by simp)) harr⟩
      | ret => exact ⟨_, a₁, w₁, hq, .pass (x := .inLoop c) rfl (fun _ _ => .inl (by simp)) harr⟩
      | panic ch => exact ⟨_, a₁, w₁, hq, .pass (x := .inLoop c) rfl (fun _ _ => .inl (by simp)) harr⟩
      | outgrown => exact ⟨_, a₁, w₁, hq, .pass (x := .inLoop c) rfl (fun _ _ => .inl (by simp)) harr⟩
  obtain ⟨e, a', w', hq, harr⟩ := key n a w h0
  exact ⟨e, a', w', hq, .of_steps (.one step_loop) harr⟩

/-- a loop by what holds at its head; 'live': the slots that it speaks of -/
theorem Tri.loop {P : Program} {T : Tys} (hT : TyOk P T) {sz : Nat} (keep : List Nat) {c : Code} {G : PHeap} {l : Fr} {H : Heap} {K : Post} (hlt : codeLt sz c = true) (live : List Nat)
    (I : Nat → PHeap → Fr → Heap → Prop) (n : Nat) (h0 : I n G (restrict live l) H)
    (round : ∀ n G' l' H', PLe G G' → Sep G' (keys H') → I n G' l' H' → wpC P T sz keep c G' l' H' (thenK (fun G'' l'' H'' => ∃ m, m < n ∧ I m G'' (restrict live l'') H'') K .mk .mk)) :
    Tri P sz (.loop c) G l H K := by
  intro E a w Q hs hk
  refine wp_loopN (fun n a w => ∃ E' G' l' H', Env.le E E' ∧ PLe G G' ∧ Sim E' sz G' l' H' a w ∧ I n G' l' H') ?_ n a w ⟨E, G, _, H, Env.le.refl E, PLe.refl _, hs.weak (look_restrict live l), h0⟩
  rintro n a w ⟨E', G', l', H', hE, hle, hs', hI⟩
  refine wpC_sound hT c hlt (round n G' l' H' hle hs'.heap.sep hI) a w _ hs' fun E2 e G2 l2 H2 a2 w2 hE2 hle2 hs2 hk2 => ?_
  cases e with
  | normal =>
    obtain ⟨m, hm, hI2⟩ := hk2
    exact ⟨m, hm, E2, G2, _, H2, hE.trans hE2, hle.trans hle2, hs2.weak (look_restrict live l2), hI2⟩
  | exit id => exact hk E2 (.exit id) G2 l2 H2 a2 w2 (hE.trans hE2) (hle.trans hle2) hs2 hk2
  | ret => exact hk E2 .ret G2 l2 H2 a2 w2 (hE.trans hE2) (hle.trans hle2) hs2 hk2

/-! ## functions -/

def argsFr : Nat → List Value → Fr
  | _, [] => []
  | i, v :: vs => (i, v) :: argsFr (i + 1) vs

theorem look_argsFr (vs : List Value) : ∀ (i t : Nat) (v : Value), look (argsFr i vs) t = some v → i ≤ t ∧ vs[t - i]? = some v := by
  induction vs with
  | nil => intro i t v h; simp [argsFr, look] at h
  | cons u vs ih =>
    intro i t v h
    simp only [argsFr, look] at h
    split at h
    · rename_i e; subst e; simpa using h
    · rename_i e
      obtain ⟨h1, h2⟩ := ih (i + 1) t v h
      refine ⟨by omega, ?_⟩
      rw [show t - i = (t - (i + 1)) + 1 by omega]
      simpa using h2

/-- the results -/
def resK (T : Tys) (G : PHeap) (H : Heap) (l : Fr) (rs : List ResultVar) (k : List Value → Prop) (_ : Tok k := .mk) : Prop :=
  match rs with
  | [] => k []
  | .tmp t :: rs => withV (look l t) fun v => resK T G H l rs fun vs => k (v :: vs)
  | .cell a t :: rs => withV (look l a) fun p => opLoad T G H t p fun v => resK T G H l rs fun vs => k (v :: vs)
theorem resK_nil (T : Tys) (G : PHeap) (H : Heap) (l : Fr) (k : List Value → Prop) : resK T G H l [] k = k [] := rfl
theorem resK_cons (T : Tys) (G : PHeap) (H : Heap) (l : Fr) (t : Nat) (rs : List ResultVar) (k : List Value → Prop) : resK T G H l (.tmp t :: rs) k = withV (look l t) fun v => resK T G H l rs fun vs => k (v :: vs) := rfl
theorem resK_cell (T : Tys) (G : PHeap) (H : Heap) (l : Fr) (a t : Nat) (rs : List ResultVar) (k : List Value → Prop) : resK T G H l (.cell a t :: rs) k = withV (look l a) fun p => opLoad T G H t p fun v => resK T G H l rs fun vs => k (v :: vs) := rfl

def retV (vs : List Value) : Value := match vs with | [v] => v | vs => .tuple vs.toArray

/-- how a result is read -/
def readR (tmps : Array Value) : ResultVar → Sem Value
  | .tmp t => pure (tmps.getD t undef)
  | .cell a t => do loadVar t (← asAddr (tmps.getD a undef))

theorem resK_run {P : Program} {T : Tys} (hT : TyOk P T) {sz : Nat} {G : PHeap} {l : Fr} {H : Heap} {a : Act} {w : World} (h : Sim E sz G l H a w) : ∀ (rs : List ResultVar) {k : List Value → Prop}, resK T G H l rs k →
    ∃ vs, k vs ∧ ∀ {E' : Env} (W : World), HeapOk E' G H W → (rs.mapM (readR a.tmps) : Sem (List Value)).run P W = .ok vs W
  | [], k, hk => ⟨[], hk, fun _ _ => rfl⟩
  | .tmp t :: rs, k, hk => by
    unfold resK withV at hk
    split at hk
    · rename_i v hv
      obtain ⟨vs, h1, h2⟩ := resK_run hT h rs hk
      refine ⟨v :: vs, h1, fun W hW => ?_⟩
      rw [List.mapM_cons, readR, h.fr t v hv]
      simp only [Sem.run_bind, Sem.run_pure, Result.andThen_ok, h2 W hW]
    · exact hk.elim
  | .cell c t :: rs, k, hk => by
    unfold resK withV at hk
    split at hk
    · rename_i p hp
      have hkk := hk
      obtain ⟨x, hx, hrun⟩ := runS_reads (P := P) (G := G) (Instr.loadAt t p) (opLoad_sound (q := true) (P := P) hT (H := H) (kk := fun v _ => resK T G H l rs fun vs => k (v :: vs)) hk)
      obtain ⟨vs, h1, h2⟩ := resK_run hT h rs hx
      refine ⟨x :: vs, h1, fun W hW => ?_⟩
      have hr := hrun W hW
      unfold opLoad at hkk
      split at hkk
      · rw [List.mapM_cons, readR, h.fr c _ hp]
        simp only [Instr.loadAt, Instr.sureAddr, pure_bind] at hr
        simp only [asAddr, pure_bind, Sem.run_bind, Sem.run_pure, Result.andThen_ok, hr, h2 W hW]
      · exact hkk.elim
    · exact hk.elim

/-- how a function ends -/
def endK (T : Tys) (rs : List ResultVar) (R : Value → PHeap → Heap → Prop) (_ : Tok R) (e : XE) (G : PHeap) (l : Fr) (H : Heap) : Prop := match e with
  | .normal | .ret => resK T G H l rs fun vs => R (retV vs) G H
  | .exit _ => False


/-- A FUNCTION BY ITS BODY -/
theorem FnT.ofT {P : Program} {T : Tys} (hT : TyOk P T) {f : FuncId} {fn : Func} {c : Code} (hf : P.funcs[f]? = some fn) (hb : fn.body = some c) (hn : (fn.name == "runtime.NumGoroutine") = false)
    {args : List Value} {G : PHeap} {H : Heap} {R : Value → PHeap → Heap → Prop} (hargs : args.length ≤ fn.ntmps)
    (h : Sep G (keys H) → Tri P fn.ntmps c G (argsFr 0 args) H (endK T fn.results.toList R .mk)) : FnT P f args G H R := by
  refine ⟨⟨fn, c, hf, hb, hn⟩, fun E w hw => callsIn_wide.1 (callsIn_of_wp_marks (n := 0) hf hb trivial (wpIn_wide.2 ?_))⟩
  have hw0 : HeapOk ⟨E.os, E.out, [], E.mine ++ E.outer⟩ G H w := ⟨hw.env, hw.pers, hw.own, hw.sep, by simpa using hw.dfr⟩
  have hs : Sim ⟨E.os, E.out, [], E.mine ++ E.outer⟩ fn.ntmps G (argsFr 0 args) H { tmps := args.toArray ++ Array.replicate (fn.ntmps - args.toArray.size) undef, defers := [] } w := by
    refine ⟨by simp; omega, rfl, fun t v ht => ?_, hw0⟩
    obtain ⟨_, h2⟩ := look_argsFr args 0 t v ht
    simp only [Nat.sub_zero] at h2
    have hlt := (List.getElem?_eq_some_iff.1 h2).1
    have h3 : args[t] = v := (List.getElem?_eq_some_iff.1 h2).2
    simp [Array.getElem?_append, hlt, h3]
  refine h hw.sep _ w _ hs fun E' e G' l' H' a' w' hE hle hs' hk => ?_
  have key : resK T G' H' l' fn.results.toList (fun vs => R (retV vs) G' H') → LeavesInM Fence.wide 0 P fn a'.tmps (fun e w' => ∃ v G' H', e = .returned v ∧ PLe G G' ∧ HeapOk E G' H' w' ∧ R v G' H') a'.defers .returning w' := fun hk => by
    obtain ⟨vs, h1, h2⟩ := resK_run hT hs' _ hk
    have hres : ∀ {E2 : Env} (W : World), HeapOk E2 G' H' W → (results fn a'.tmps).run P W = .ok (retV vs) W := fun W hW => by
      unfold results
      rw [Array.mapM_eq_mapM_toList]
      simp only [Sem.run_bind, Sem.run_map]
      have h3 := h2 W hW
      have hF : ∀ F : ResultVar → Sem Value, (∀ x, F x = readR a'.tmps x) → (fn.results.toList.mapM F).run P W = .ok vs W := fun F hF => by rw [show F = readR a'.tmps from funext hF]; exact h3
      rw [hF _ (fun x => by cases x <;> rfl)]
      simp only [Result.andThen_ok, Sem.run_pure]
      cases vs with
      | nil => simp [retV]
      | cons x xs => cases xs with
        | nil => simp [retV]
        | cons y ys => simp [retV]
    rw [hs'.defers]
    have hh := hs'.heap
    obtain ⟨e1, e2, e3⟩ := hE
    simp only [] at e1 e2 e3
    obtain ⟨os', out', mine', outer'⟩ := E'
    simp only at e1 e2 e3
    subst e1; subst e2; subst e3
    simp only []
    clear hs' hk
    revert hh
    generalize w' = W
    induction mine' generalizing W with
    | nil =>
      intro hh
      show LeavesIn Fence.wide 0 P fn a'.tmps _ [] .returning W
      exact ⟨_, hres W hh, retV vs, G', H', rfl, hle, ⟨hh.env, hh.pers, hh.own, hh.sep, by simpa using hh.dfr⟩, h1⟩
    | cons D ds ih =>
      intro hh
      have hD := hh.dfr.2 D (by simp)
      refine ⟨by simp, .inl ⟨D, _, rfl, run_takeDeferred hD.1, ih _ ⟨hh.env, fun b o hb => ?_, fun p hp => ?_, hh.sep, ?_, fun D' hD' => ⟨?_, (hh.dfr.2 D' (by simp only [List.cons_append, List.mem_cons]; exact .inr hD')).2⟩⟩⟩⟩
      · have h3 := hh.pers b o hb
        rw [World.putObj_heap_other (fun e => by subst e; rw [hD.2] at hb; cases hb)]
        exact h3
      · obtain ⟨o, ho, hr⟩ := hh.own p hp
        exact ⟨o, (World.putObj_heap_other (fun e => by rw [e, hD.1] at ho; cases ho; exact Res.not_deferred hr)).trans ho, hr⟩
      · have := hh.dfr.1
        simp only [List.cons_append, List.nodup_cons] at this
        exact this.2
      · have hn := hh.dfr.1
        simp only [List.cons_append, List.nodup_cons] at hn
        exact (World.putObj_heap_other (fun e => by subst e; exact hn.1 hD')).trans (hh.dfr.2 D' (by simp only [List.cons_append, List.mem_cons]; exact .inr hD')).1
  cases e with
  | normal => exact key hk
  | ret => exact key hk
  | exit id => exact hk.elim

theorem FnT.of {P : Program} {T : Tys} (hT : TyOk P T) {f : FuncId} {fn : Func} {c : Code} (keep : List Nat) (hf : P.funcs[f]? = some fn) (hb : fn.body = some c) (hn : (fn.name == "runtime.NumGoroutine") = false)
    {args : List Value} {G : PHeap} {H : Heap} {R : Value → PHeap → Heap → Prop} (hlt : codeLt fn.ntmps c = true) (hargs : args.length ≤ fn.ntmps)
    (h : Sep G (keys H) → wpC P T fn.ntmps keep c G (argsFr 0 args) H (endK T fn.results.toList R .mk)) : FnT P f args G H R :=
  FnT.ofT hT hf hb hn hargs fun hs => wpC_sound hT c hlt (h hs)

end Go.V
