/- A part of the proof, joined of several texts: the verification layer, contracts of functions, plain law. -/
import Derived.Test.YtdeableflgakdaaK2
import Derived.RangeFuncIn
import Derived.RangeFuncRecord
import Derived.RangeFuncLeaves
import Derived.RangeFuncSeq
import Derived.TacticsIn
import Derived.OrdersHeld
import Derived.ProofKit
import Derived.RowKit3
import Derived.ChangeSame
set_option maxHeartbeats 64000000
set_option linter.unusedSimpArgs false
set_option linter.unusedVariables false
set_option linter.unusedSectionVars false
namespace Go.V
variable {E : Env}
def FF (ro : Option Nat) : Fence := { Fence.wide with round := ro }
def YldT (P : Program) (lr : Nat) (args : List Value) (G : PHeap) (H : Heap) (R : Value → PHeap → Heap → Prop) (_ : Tok R := .mk) : Prop :=
 ∀ ⦃E : Env⦄ w, HeapOk E G H w → YieldAt Fence.wide 0 P lr args.toArray w fun e w' => ∃ v G' H', e = .returned v ∧ PLe G G' ∧ HeapOk E G' H' w' ∧ R v G' H'
def callY (P : Program) (fv : Value) (vs : List Value) (G : PHeap) (H : Heap) (k : Value → PHeap → Heap → Prop) (_ : Tok k := .mk) : Prop :=
 match fv with
 | .func (.yield lr) first _ => first = #[] ∧ YldT P lr vs G H k
 | fv => callK P fv vs G H k
def stepY (P : Program) (T : Tys) (op : Op) (G : PHeap) (l : Fr) (H : Heap) (k : Value → PHeap → Heap → Prop) (_ : Tok k := .mk) : Prop :=
 match op with
 | .call c => match c.callee with
  | .value f => withV (ev l f) fun fv => evK l c.args.toList fun vs => callY P fv vs G H k
  | _ => stepF P T (.call c) G l H k
 | op => stepF P T op G l H k
theorem rowsIn_of {P : Program} {ro : Option Nat} {row : String} {args : Array Value} {w : World} {R : Value → World → Prop} (h : Rows P row args w R) : RowsIn (FF ro) 0 P row args w R :=
 fun c cs _ => let ⟨v, w', r, s⟩ := h c cs; ⟨v, w', r, stepsIn_wide.2 s⟩
theorem callsIn_of {P : Program} {ro : Option Nat} {f : FuncId} {args : Array Value} {w : World} {R : Ending → World → Prop} (h : Calls P f args w R) : CallsIn (FF ro) 0 P f args w R :=
 ⟨trivial, fun cs _ => let ⟨e, w', fr, r, s, x⟩ := h cs; ⟨e, w', fr, r, comesIn_wide.2 s, x⟩⟩
theorem wpIn_of_wp {P : Program} {ro : Option Nat} {o : Oper} (hd : ∀ c, o.op ≠ .defer c) {a : Act} {w : World} {next : Act → World → Prop} {Q : Exit → Act → World → Prop} (h : o.wp P a w next Q) : o.wpIn (FF ro) 0 P a w next Q := by
 refine ⟨fun _ _ => trivial, ?_⟩
 rw [show (FF ro).round = ro from rfl, Oper.semAt_eq ro a.eval o hd]
 unfold Oper.wp at h
 revert h
 generalize (execOp a.eval o).run P w = r
 intro h
 cases r with
 | ok x w' =>
  cases x with
  | value v => exact h
  | skip => exact h
  | defer d => exact h
  | enter f args => exact ⟨fun _ => by simp_all [FF, Fence.wide], callsIn_of h⟩
  | row row args => exact ⟨fun _ => by simp_all [FF, Fence.wide], rowsIn_of h⟩
  | _ => exact h.elim
 | halt x w' =>
  cases x <;> first | exact h | exact h.elim
theorem stepY_sound {P : Program} {T : Tys} (hT : TyOk P T) {ro : Option Nat} {o : Oper} {sz : Nat} {G : PHeap} {l : Fr} {H : Heap} {a : Act} {w : World} {k : Value → PHeap → Heap → Prop}
  {next : Act → World → Prop} {Q : Exit → Act → World → Prop} (h : stepY P T o.op G l H k) (hs : Sim E sz G l H a w)
  (hk : ∀ v G' H' w', PLe G G' → HeapOk E G' H' w' → k v G' H' → next (a.put o.dst v) w') : o.wpIn (FF ro) 0 P a w next Q := by
 have old : stepF P T o.op G l H k → o.wpIn (FF ro) 0 P a w next Q := fun h => wpIn_of_wp (fun c hc => by rw [hc] at h; exact h.elim) (stepF_sound hT h hs hk)
 obtain ⟨dst, op, ty, pos, after, guard⟩ := o
 cases op with
 | call c =>
  obtain ⟨callee, args, ats⟩ := c
  cases callee with
  | value f =>
   simp only [stepY] at h
   have h1 := evK_ev hs (withV_ev hs h)
   unfold callY at h1
   split at h1
   ·rename_i fv lr first caps hf
    obtain ⟨rfl, h1⟩ := h1
    obtain ⟨fn, tmps, as, body, hr, hround⟩ := h1 w hs.heap
    refine ⟨fun _ _ => trivial, ?_⟩
    rw [show (FF ro).round = ro from rfl, Oper.semAt_eq ro a.eval _ (fun c hc => by cases hc)]
    have he : execOp a.eval ⟨dst, .call { callee := .value f, args := args, argTypes := ats }, ty, pos, after, guard⟩ = Instr.yield lr (args.map a.eval) := by
     simp only [execOp, resolve, hf, Deferred.ofValue, pure_bind, invoke]
     simp
    have hargs : (args.toList.map a.eval).toArray = args.map a.eval := by apply Array.ext'; simp
    rw [hargs] at hr
    rw [he, hr]
    refine ⟨fun hx => by simp [FF, Fence.wide] at hx, ?_⟩
    have hround' : RoundIn (FF ro) 0 P lr fn tmps as body w _ := hround
    refine ⟨hround'.1, fun c cs hroom => ?_⟩
    obtain ⟨e, w', ⟨v, G', H', rfl, h2, h3, h4⟩, hcomes⟩ := hround'.2 c cs hroom
    exact ⟨.returned v, w', hk v G' H' w' h2 h3 h4, hcomes⟩
   ·rename_i hny
    have hne : ∀ vs, callY P (a.eval f) vs G H k = callK P (a.eval f) vs G H k := fun vs => by
     unfold callY
     split
     ·rename_i e; exact (hny _ _ _ e).elim
     ·rfl
    refine old ?_
    simp only [stepF]
    cases hev : ev l f with
    | none => rw [hev] at h; exact h.elim
    | some v =>
     have e := hs.ev hev
     rw [hev] at h
     simp only [withV] at h ⊢
     rw [e] at hne
     rw [← funext hne]
     exact h
  | builtin b => exact old h
  | invoke r m => exact old h
 | _ => exact old h
def gK (v : Value) (t : Nat) (want : Bool) (l : Fr) (yes no : Fr → Prop) (_ : Tok yes := .mk) (_ : Tok no := .mk) : Prop :=
 match v with
 | .bool b => Br (b == want) (yes ((t, .bool want) :: l)) (no ((t, .bool (!want)) :: l))
 | .tuple _ => no l
 | _ => False
def dstAt (ops : List Oper) (j : Nat) : Option (Option Nat) := (ops[j]?).map (·.dst)
def gv (v : Value) (want : Bool) : Bool := match v with | .bool b => b == want | _ => false
def guardK (all : List Oper) (g : Option (Nat × Bool)) (l : Fr) (yes no : Fr → Prop) (_ : Tok yes := .mk) (_ : Tok no := .mk) : Prop :=
 match g with
 | none => yes l
 | some (j, want) => match (dstAt all j).join with
  | none => False
  | some t => withV (look l t) fun v => gK v t want l yes no
def wpO (P : Program) (T : Tys) (all : List Oper) (os : List Oper) (G : PHeap) (l : Fr) (H : Heap) (K : PHeap → Fr → Heap → Prop) (_ : Tok all := .mk) (_ : Tok os := .mk) (_ : Tok K := .mk) : Prop :=
 match os with
 | [] => K G l H
 | o :: rest => guardK all o.guard l
   (fun l' => stepY P T o.op G l' H fun v G' H' => wpO P T all rest G' (put l' o.dst v) H' K)
   (fun l' => wpO P T all rest G (put l' o.dst undef) H K)
def dstsLt (sz : Nat) (ops : List Oper) : Bool := ops.all fun o => match o.dst with | some d => decide (d < sz) | none => true
theorem Sim.know {sz : Nat} {G : PHeap} {l : Fr} {H : Heap} {a : Act} {w : World} (h : Sim E sz G l H a w) {t : Nat} {v : Value} (hv : a.tmps.getD t undef = v) : Sim E sz G ((t, v) :: l) H a w :=
 ⟨h.size, h.defers, fun u x hx => by
  simp only [look] at hx
  split at hx
  ·rename_i e; subst e; cases hx; exact hv
  ·exact h.fr u x hx, h.heap⟩
theorem wpO_sound {P : Program} {T : Tys} (hT : TyOk P T) {ro : Option Nat} {ops : Array Oper} {sz : Nat} {Q : Exit → Act → World → Prop} : ∀ (rest : List Oper) {G : PHeap} {l : Fr} {H : Heap} {a : Act} {w : World} {K : PHeap → Fr → Heap → Prop},
  (∀ o ∈ rest, ∀ d, o.dst = some d → d < sz) → wpO P T ops.toList rest G l H K → Sim E sz G l H a w →
  (∀ G' l' H' a' w', PLe G G' → Sim E sz G' l' H' a' w' → K G' l' H' → Q .normal a' w') → wpListIn (FF ro) 0 P ops Q rest a w
 | [], G, l, H, a, w, K, _, h, hs, hk => hk G l H a w (PLe.refl _) hs h
 | o :: rest, G, l, H, a, w, K, hd, h, hs, hk => by
  have hd' : ∀ o ∈ rest, ∀ d, o.dst = some d → d < sz := fun o ho => hd o (List.mem_cons_of_mem _ ho)
  have hdo := hd o (List.mem_cons_self ..)
  simp only [wpO] at h
  unfold wpListIn
  have yes : ∀ l', Sim E sz G l' H a w → (stepY P T o.op G l' H fun v G' H' => wpO P T ops.toList rest G' (put l' o.dst v) H' K) → o.wpIn (FF ro) 0 P a w (wpListIn (FF ro) 0 P ops Q rest) Q := fun l' hs' h' =>
   stepY_sound hT h' hs' fun v G' H' w' hle hw' hwp => wpO_sound hT rest hd' hwp (hs'.put hw' hdo) fun G2 l2 H2 a2 w2 hle2 hs2 hk2 => hk G2 l2 H2 a2 w2 (hle.trans hle2) hs2 hk2
  have no : ∀ l', Sim E sz G l' H a w → wpO P T ops.toList rest G (put l' o.dst undef) H K → (∀ f, o.about P w a.eval = some f → (FF ro).fn f) ∧ wpListIn (FF ro) 0 P ops Q rest (a.put o.dst undef) w := fun l' hs' h' => ⟨fun _ _ => trivial,
   wpO_sound hT rest hd' h' (hs'.put hs'.heap hdo) hk⟩
  unfold guardK at h
  split at h
  ·rename_i hg
   rw [if_pos (by simp [Region.wanted, hg])]
   exact (yes l hs h)
  ·rename_i j want hg
   split at h
   ·exact h.elim
   ·rename_i t ht
    have hdst : (ops[j]?).bind (·.dst) = some t := by
     simp only [dstAt, Array.getElem?_toList] at ht
     cases ho : ops[j]? with
     | none => rw [ho] at ht; simp at ht
     | some o' => rw [ho] at ht; simpa using ht
    unfold withV at h
    split at h
    ·rename_i v hv
     have htv := hs.fr t v hv
     have hw : Region.wanted o (yielded ops a.tmps) = gv v want := by
      unfold Region.wanted yielded
      simp only [hg, hdst, Option.bind_some]
      rw [Array.getD_eq_getD_getElem?] at htv
      cases hh : a.tmps[t]? with
      | none =>
       rw [hh] at htv
       simp [undef] at htv
       subst htv
       rfl
      | some x =>
       rw [hh] at htv
       simp at htv
       subst htv
       cases x <;> simp [gv]
     rw [hw]
     cases v <;> simp only [gK] at h <;> try exact h.elim
     case bool b =>
      rcases Bool.eq_false_or_eq_true (b == want) with hb | hb
      ·rw [if_pos (show gv (.bool b) want = true from hb)]
       rw [hb, Br_true] at h
       have e : b = want := by simpa using hb
       subst e
       exact (yes _ (hs.know htv) h)
      ·rw [if_neg (show ¬ gv (.bool b) want = true by rw [show gv (.bool b) want = false from hb]; simp)]
       rw [hb, Br_false] at h
       have e : b = !want := by cases b <;> cases want <;> simp_all
       subst e
       exact no _ (hs.know htv) h
     case tuple vs =>
      rw [if_neg (show ¬ gv (.tuple vs) want = true by simp [gv])]
      exact no _ hs h
    ·exact h.elim
inductive XE where
 | normal | exit (id : Nat) | ret
def XE.to : XE → Exit
 | .normal => .normal
 | .exit id => .exit id
 | .ret => .ret
abbrev Post := XE → PHeap → Fr → Heap → Prop
def Env.le (E E' : Env) : Prop := E'.os = E.os ∧ E'.out = E.out ∧ E'.outer = E.outer
theorem Env.le.refl (E : Env) : Env.le E E := ⟨rfl, rfl, rfl⟩
theorem Env.le.trans {A B C : Env} (h : Env.le A B) (h' : Env.le B C) : Env.le A C := ⟨h'.1.trans h.1, h'.2.1.trans h.2.1, h'.2.2.trans h.2.2⟩
def Tri (P : Program) (sz : Nat) (c : Code) (G : PHeap) (l : Fr) (H : Heap) (K : Post) (_ : Tok c := .mk) (_ : Tok K := .mk) : Prop :=
 ∀ ⦃E : Env⦄ (a : Act) (w : World) (Q : Exit → Act → World → Prop), Sim E sz G l H a w →
  (∀ E' e G' l' H' a' w', Env.le E E' → PLe G G' → Sim E' sz G' l' H' a' w' → K e G' l' H' → Q e.to a' w') → c.wp P Q a w
def thenK (k : PHeap → Fr → Heap → Prop) (K : Post) (_ : Tok k) (_ : Tok K) (e : XE) (G : PHeap) (l : Fr) (H : Heap) : Prop := match e with | .normal => k G l H | e => K e G l H
def blockK (id : Nat) (K : Post) (_ : Tok K) (e : XE) (G : PHeap) (l : Fr) (H : Heap) : Prop := match e with | .exit id' => if id' = id then K .normal G l H else K (.exit id') G l H | e => K e G l H
def condK (v : Value) (x y : Prop) (_ : Tok x := .mk) (_ : Tok y := .mk) : Prop := match v with | .bool b => Br b x y | _ => False
def wpC (P : Program) (T : Tys) (sz : Nat) (keep : List Nat) (c : Code) (G : PHeap) (l : Fr) (H : Heap) (K : Post) (_ : Tok c := .mk) (_ : Tok K := .mk) : Prop :=
 match c with
 | .skip => K .normal G l H
 | .region id ops true => Tri P sz (.region id ops true) G l H K
 | .region id ops false => wpO P T ops.toList ops.toList G l H fun G' l' H' => K .normal G' (restrict keep l') H'
 | .seq x y => wpC P T sz keep x G l H (thenK (fun G' l' H' => wpC P T sz keep y G' l' H' K) K .mk .mk)
 | .cond c x y => withV (ev l c) fun v => condK v (wpC P T sz keep x G l H K) (wpC P T sz keep y G l H K)
 | .block id c => wpC P T sz keep c G l H (blockK id K .mk)
 | .exit id => K (.exit id) G l H
 | .label _ => K .normal G l H
 | .ret => K .ret G l H
 | .loop c => Tri P sz (.loop c) G l H K
 | .scope c => wpC P T sz keep c G l H K
 | .rangeFunc f ps as c => Tri P sz (.rangeFunc f ps as c) G l H K
 | .goto _ => False
 | .refuse _ => False
def codeLt (sz : Nat) : Code → Bool
 | .region _ ops _ => dstsLt sz ops.toList
 | .seq x y => codeLt sz x && codeLt sz y
 | .cond _ x y => codeLt sz x && codeLt sz y
 | .block _ c => codeLt sz c
 | .loop c => codeLt sz c
 | .scope c => codeLt sz c
 | .rangeFunc _ _ x y => codeLt sz x && codeLt sz y
 | _ => true
theorem dstsLt_spec {sz : Nat} {ops : List Oper} (h : dstsLt sz ops = true) : ∀ o ∈ ops, ∀ d, o.dst = some d → d < sz := by
 intro o ho d hd
 have := List.all_eq_true.1 h o ho
 simp only [hd, decide_eq_true_eq] at this
 exact this
def calm : Code → Bool
 | .region _ _ draw => !draw
 | .seq x y => calm x && calm y
 | .cond _ x y => calm x && calm y
 | .block _ c => calm c
 | .loop _ => false
 | .scope _ => false
 | .rangeFunc .. => false
 | _ => true
def TriR (ro : Option Nat) (P : Program) (sz : Nat) (c : Code) (G : PHeap) (l : Fr) (H : Heap) (K : Post) : Prop :=
 ∀ ⦃E : Env⦄ (a : Act) (w : World) (Q : Exit → Act → World → Prop), Sim E sz G l H a w →
  (∀ E' e G' l' H' a' w', Env.le E E' → (ro.isSome = true → E' = E) → PLe G G' → Sim E' sz G' l' H' a' w' → K e G' l' H' → Q e.to a' w') → c.wpIn (FF ro) 0 P Q a w
theorem TriR.none {P : Program} {sz : Nat} {c : Code} {G : PHeap} {l : Fr} {H : Heap} {K : Post} : TriR none P sz c G l H K ↔ Tri P sz c G l H K :=
 ⟨fun h E a w Q hs hk => wpIn_wide.1 (h a w Q hs fun E' e G' l' H' a' w' hE _ => hk E' e G' l' H' a' w' hE), fun h E a w Q hs hk => wpIn_wide.2 (h a w Q hs fun E' e G' l' H' a' w' hE => hk E' e G' l' H' a' w' hE (fun h => by cases h))⟩
theorem wpC_soundR {P : Program} {T : Tys} (hT : TyOk P T) {ro : Option Nat} {sz : Nat} {keep : List Nat} : ∀ (c : Code) {G : PHeap} {l : Fr} {H : Heap} {K : Post}, (ro.isSome = true → calm c = true) → codeLt sz c = true → wpC P T sz keep c G l H K → TriR ro P sz c G l H K := by
 have old : ∀ {c : Code} {G : PHeap} {l : Fr} {H : Heap} {K : Post}, (ro.isSome = true → False) → Tri P sz c G l H K → TriR ro P sz c G l H K := fun hro h => by
  cases ro with
  | none => exact TriR.none.2 h
  | some r => exact (hro rfl).elim
 intro c
 induction c with
 | skip => intro G l H K _ _ h E a w Q hs hk; exact wpIn_skip (hk E .normal G l H a w (Env.le.refl E) (fun _ => rfl) (PLe.refl _) hs h)
 | region id ops draw =>
  intro G l H K hc hlt h
  cases draw with
  | true => exact old (fun hr => by have := hc hr; cases this) h
  | false =>
   simp only [wpC] at h
   intro E a w Q hs hk
   refine wpIn_region_list (wpO_sound hT ops.toList (dstsLt_spec hlt) h hs fun G' l' H' a' w' hle hs' hk' => ?_)
   exact hk E .normal G' _ H' a' w' (Env.le.refl E) (fun _ => rfl) hle (hs'.weak (look_restrict keep l')) hk'
 | seq x y ihx ihy =>
  intro G l H K hc hlt h E a w Q hs hk
  simp only [codeLt, calm, Bool.and_eq_true] at hlt hc
  refine wpIn_seq (ihx (fun h => (hc h).1) hlt.1 h a w _ hs fun E' e G' l' H' a' w' hE hro hle hs' hk' => ?_)
  cases e with
  | normal => exact ihy (fun h => (hc h).2) hlt.2 hk' a' w' Q hs' fun E2 e G2 l2 H2 a2 w2 hE2 hro2 hle2 hs2 hk2 => hk E2 e G2 l2 H2 a2 w2 (hE.trans hE2) (fun h => (hro2 h).trans (hro h)) (hle.trans hle2) hs2 hk2
  | exit id => exact hk E' (.exit id) G' l' H' a' w' hE hro hle hs' hk'
  | ret => exact hk E' .ret G' l' H' a' w' hE hro hle hs' hk'
 | cond c x y ihx ihy =>
  intro G l H K hc hlt h E a w Q hs hk
  simp only [codeLt, calm, Bool.and_eq_true] at hlt hc
  simp only [wpC] at h
  have h1 := withV_ev hs h
  unfold condK at h1
  split at h1
  ·rename_i b hb
   exact wpIn_cond_split hb (fun e => ihx (fun h => (hc h).1) hlt.1 (h1.1 e) a w Q hs hk) (fun e => ihy (fun h => (hc h).2) hlt.2 (h1.2 e) a w Q hs hk)
  ·exact h1.elim
 | block id c ih =>
  intro G l H K hc hlt h E a w Q hs hk
  refine wpIn_block (ih hc hlt h a w _ hs fun E' e G' l' H' a' w' hE hro hle hs' hk' => ?_)
  cases e with
  | normal => exact hk E' .normal G' l' H' a' w' hE hro hle hs' hk'
  | exit id' =>
   simp only [blockK] at hk'
   simp only [XE.to, Exit.inBlock]
   split
   ·rename_i e; rw [if_pos e] at hk'; exact hk E' .normal G' l' H' a' w' hE hro hle hs' hk'
   ·rename_i e; rw [if_neg e] at hk'; exact hk E' (.exit id') G' l' H' a' w' hE hro hle hs' hk'
  | ret => exact hk E' .ret G' l' H' a' w' hE hro hle hs' hk'
 | loop c ih => intro G l H K hc hlt h; exact old (fun hr => by have := hc hr; cases this) h
 | rangeFunc f ps x y ihx ihy => intro G l H K hc hlt h; exact old (fun hr => by have := hc hr; cases this) h
 | exit id => intro G l H K _ _ h E a w Q hs hk; exact wpIn_exit (hk E (.exit id) G l H a w (Env.le.refl E) (fun _ => rfl) (PLe.refl _) hs h)
 | scope c ih =>
  intro G l H K hc hlt h
  cases ro with
  | some r => have := hc rfl; cases this
  | none =>
   refine TriR.none.2 fun E a w Q hs hk => wp_scope_straight (TriR.none.1 (ih (fun h => by cases h) hlt h) a w _ hs fun E' e G' l' H' a' w' hE hle hs' hk' => ?_)
   cases e <;> exact hk E' _ G' l' H' a' w' hE hle hs' hk'
 | label n => intro G l H K _ _ h E a w Q hs hk; exact wpIn_label (hk E .normal G l H a w (Env.le.refl E) (fun _ => rfl) (PLe.refl _) hs h)
 | goto n => intro G l H K _ _ h; exact h.elim
 | ret => intro G l H K _ _ h E a w Q hs hk; exact wpIn_ret (hk E .ret G l H a w (Env.le.refl E) (fun _ => rfl) (PLe.refl _) hs h)
 | refuse why => intro G l H K _ _ h; exact h.elim
theorem wpC_sound {P : Program} {T : Tys} (hT : TyOk P T) {sz : Nat} {keep : List Nat} (c : Code) {G : PHeap} {l : Fr} {H : Heap} {K : Post} (hlt : codeLt sz c = true) (h : wpC P T sz keep c G l H K) : Tri P sz c G l H K :=
 TriR.none.1 (wpC_soundR hT c (fun h => by cases h) hlt h)
theorem wp_loopN {P : Program} {c : Code} {Q : Exit → Act → World → Prop} (I : Nat → Act → World → Prop)
  (round : ∀ n a w, I n a w → c.wp P (Exit.then (fun a' w' => ∃ m, m < n ∧ I m a' w') Q) a w) : ∀ n a w, I n a w → (Code.loop c).wp P Q a w := by
 intro n a w h0 b k cs
 have key : ∀ n a w, I n a w → ∃ e a' w', Q e a' w' ∧ Arrives P (lone (b.at a (.code c :: .inLoop c :: k)) cs w) b k cs e a' w' := by
  intro n
  induction n using Nat.strongRecOn with
  | _ n ih =>
   intro a w hI
   obtain ⟨e, a₁, w₁, hq, harr⟩ := round n a w hI b (.inLoop c :: k) cs
   cases e with
   | normal =>
    obtain ⟨m, hlt, hI₁⟩ := hq
    obtain ⟨e₂, a₂, w₂, hq₂, harr₂⟩ := ih m hlt a₁ w₁ hI₁
    exact ⟨e₂, a₂, w₂, hq₂, .of_steps (Steps.trans harr (.one step_inLoop)) harr₂⟩
   | exit id => exact ⟨_, a₁, w₁, hq, .pass (x := .inLoop c) rfl (fun _ _ => .inl (by simp)) harr⟩
   | goto l => exact ⟨_, a₁, w₁, hq, .pass (x := .inLoop c) rfl (fun _ _ => .inl (by simp)) harr⟩
   | ret => exact ⟨_, a₁, w₁, hq, .pass (x := .inLoop c) rfl (fun _ _ => .inl (by simp)) harr⟩
   | panic ch => exact ⟨_, a₁, w₁, hq, .pass (x := .inLoop c) rfl (fun _ _ => .inl (by simp)) harr⟩
   | outgrown => exact ⟨_, a₁, w₁, hq, .pass (x := .inLoop c) rfl (fun _ _ => .inl (by simp)) harr⟩
 obtain ⟨e, a', w', hq, harr⟩ := key n a w h0
 exact ⟨e, a', w', hq, .of_steps (.one step_loop) harr⟩
theorem Tri.loop {P : Program} {T : Tys} (hT : TyOk P T) {sz : Nat} (keep : List Nat) {c : Code} {G : PHeap} {l : Fr} {H : Heap} {K : Post} (hlt : codeLt sz c = true) (live : List Nat)
  (I : Nat → PHeap → Fr → Heap → Prop) (n : Nat) (h0 : I n G (restrict live l) H)
  (round : ∀ n G' l' H', PLe G G' → Sep G' (keys H') → I n G' l' H' → wpC P T sz keep c G' l' H' (thenK (fun G'' l'' H'' => ∃ m, m < n ∧ I m G'' (restrict live l'') H'') K .mk .mk)) :
  Tri P sz (.loop c) G l H K := by
 intro E a w Q hs hk
 refine wp_loopN (fun n a w => ∃ E' G' l' H', Env.le E E' ∧ PLe G G' ∧ Sim E' sz G' l' H' a w ∧ I n G' l' H') ?_ n a w ⟨E, G, _, H, Env.le.refl E, PLe.refl _, hs.weak (look_restrict live l), h0⟩
 rintro n a w ⟨E', G', l', H', hE, hle, hs', hI⟩
 refine wpC_sound hT c hlt (round n G' l' H' hle hs'.heap.sep hI) a w _ hs' fun E2 e G2 l2 H2 a2 w2 hE2 hle2 hs2 hk2 => ?_
 cases e with
 | normal =>
  obtain ⟨m, hm, hI2⟩ := hk2
  exact ⟨m, hm, E2, G2, _, H2, hE.trans hE2, hle.trans hle2, hs2.weak (look_restrict live l2), hI2⟩
 | exit id => exact hk E2 (.exit id) G2 l2 H2 a2 w2 (hE.trans hE2) (hle.trans hle2) hs2 hk2
 | ret => exact hk E2 .ret G2 l2 H2 a2 w2 (hE.trans hE2) (hle.trans hle2) hs2 hk2
def argsFr : Nat → List Value → Fr
 | _, [] => []
 | i, v :: vs => (i, v) :: argsFr (i + 1) vs
theorem look_argsFr (vs : List Value) : ∀ (i t : Nat) (v : Value), look (argsFr i vs) t = some v → i ≤ t ∧ vs[t - i]? = some v := by
 induction vs with
 | nil => intro i t v h; simp [argsFr, look] at h
 | cons u vs ih =>
  intro i t v h
  simp only [argsFr, look] at h
  split at h
  ·rename_i e; subst e; simpa using h
  ·rename_i e
   obtain ⟨h1, h2⟩ := ih (i + 1) t v h
   refine ⟨by omega, ?_⟩
   rw [show t - i = (t - (i + 1)) + 1 by omega]
   simpa using h2
def resK (T : Tys) (G : PHeap) (H : Heap) (l : Fr) (rs : List ResultVar) (k : List Value → Prop) (_ : Tok k := .mk) : Prop :=
 match rs with
 | [] => k []
 | .tmp t :: rs => withV (look l t) fun v => resK T G H l rs fun vs => k (v :: vs)
 | .cell a t :: rs => withV (look l a) fun p => opLoad T G H t p fun v => resK T G H l rs fun vs => k (v :: vs)
theorem resK_nil (T : Tys) (G : PHeap) (H : Heap) (l : Fr) (k : List Value → Prop) : resK T G H l [] k = k [] := rfl
theorem resK_cons (T : Tys) (G : PHeap) (H : Heap) (l : Fr) (t : Nat) (rs : List ResultVar) (k : List Value → Prop) : resK T G H l (.tmp t :: rs) k = withV (look l t) fun v => resK T G H l rs fun vs => k (v :: vs) := rfl
theorem resK_cell (T : Tys) (G : PHeap) (H : Heap) (l : Fr) (a t : Nat) (rs : List ResultVar) (k : List Value → Prop) : resK T G H l (.cell a t :: rs) k = withV (look l a) fun p => opLoad T G H t p fun v => resK T G H l rs fun vs => k (v :: vs) := rfl
def retV (vs : List Value) : Value := match vs with | [v] => v | vs => .tuple vs.toArray
def readR (tmps : Array Value) : ResultVar → Sem Value
 | .tmp t => pure (tmps.getD t undef)
 | .cell a t => do loadVar t (← asAddr (tmps.getD a undef))
theorem resK_run {P : Program} {T : Tys} (hT : TyOk P T) {sz : Nat} {G : PHeap} {l : Fr} {H : Heap} {a : Act} {w : World} (h : Sim E sz G l H a w) : ∀ (rs : List ResultVar) {k : List Value → Prop}, resK T G H l rs k →
  ∃ vs, k vs ∧ ∀ {E' : Env} (W : World), HeapOk E' G H W → (rs.mapM (readR a.tmps) : Sem (List Value)).run P W = .ok vs W
 | [], k, hk => ⟨[], hk, fun _ _ => rfl⟩
 | .tmp t :: rs, k, hk => by
  unfold resK withV at hk
  split at hk
  ·rename_i v hv
   obtain ⟨vs, h1, h2⟩ := resK_run hT h rs hk
   refine ⟨v :: vs, h1, fun W hW => ?_⟩
   rw [List.mapM_cons, readR, h.fr t v hv]
   simp only [Sem.run_bind, Sem.run_pure, Result.andThen_ok, h2 W hW]
  ·exact hk.elim
 | .cell c t :: rs, k, hk => by
  unfold resK withV at hk
  split at hk
  ·rename_i p hp
   have hkk := hk
   obtain ⟨x, hx, hrun⟩ := runS_reads (P := P) (G := G) (Instr.loadAt t p) (opLoad_sound (q := true) (P := P) hT (H := H) (kk := fun v _ => resK T G H l rs fun vs => k (v :: vs)) hk)
   obtain ⟨vs, h1, h2⟩ := resK_run hT h rs hx
   refine ⟨x :: vs, h1, fun W hW => ?_⟩
   have hr := hrun W hW
   unfold opLoad at hkk
   split at hkk
   ·rw [List.mapM_cons, readR, h.fr c _ hp]
    simp only [Instr.loadAt, Instr.sureAddr, pure_bind] at hr
    simp only [asAddr, pure_bind, Sem.run_bind, Sem.run_pure, Result.andThen_ok, hr, h2 W hW]
   ·exact hkk.elim
  ·exact hk.elim
def endK (T : Tys) (rs : List ResultVar) (R : Value → PHeap → Heap → Prop) (_ : Tok R) (e : XE) (G : PHeap) (l : Fr) (H : Heap) : Prop := match e with
 | .normal | .ret => resK T G H l rs fun vs => R (retV vs) G H
 | .exit _ => False
theorem FnT.ofT {P : Program} {T : Tys} (hT : TyOk P T) {f : FuncId} {fn : Func} {c : Code} (hf : P.funcs[f]? = some fn) (hb : fn.body = some c) (hn : (fn.name == "runtime.NumGoroutine") = false)
  {args : List Value} {G : PHeap} {H : Heap} {R : Value → PHeap → Heap → Prop} (hargs : args.length ≤ fn.ntmps)
  (h : Sep G (keys H) → Tri P fn.ntmps c G (argsFr 0 args) H (endK T fn.results.toList R .mk)) : FnT P f args G H R := by
 refine FnT.own ⟨fn, c, hf, hb, hn⟩ fun E w hw => callsIn_wide.1 (callsIn_of_wp_marks (n := 0) hf hb trivial (wpIn_wide.2 ?_))
 have hw0 : HeapOk ⟨E.os, E.out, [], E.mine ++ E.outer⟩ G H w := ⟨hw.env, hw.pers, hw.own, hw.sep, by simpa using hw.dfr⟩
 have hs : Sim ⟨E.os, E.out, [], E.mine ++ E.outer⟩ fn.ntmps G (argsFr 0 args) H { tmps := args.toArray ++ Array.replicate (fn.ntmps - args.toArray.size) undef, defers := [] } w := by
  refine ⟨by simp; omega, rfl, fun t v ht => ?_, hw0⟩
  obtain ⟨_, h2⟩ := look_argsFr args 0 t v ht
  simp only [Nat.sub_zero] at h2
  have hlt := (List.getElem?_eq_some_iff.1 h2).1
  have h3 : args[t] = v := (List.getElem?_eq_some_iff.1 h2).2
  simp [Array.getElem?_append, hlt, h3]
 refine h hw.sep _ w _ hs fun E' e G' l' H' a' w' hE hle hs' hk => ?_
 have key : resK T G' H' l' fn.results.toList (fun vs => R (retV vs) G' H') → LeavesInM Fence.wide 0 P fn a'.tmps (fun e w' => ∃ v G' H', e = .returned v ∧ PLe G G' ∧ HeapOk E G' H' w' ∧ R v G' H') a'.defers .returning w' := fun hk => by
  obtain ⟨vs, h1, h2⟩ := resK_run hT hs' _ hk
  have hres : ∀ {E2 : Env} (W : World), HeapOk E2 G' H' W → (results fn a'.tmps).run P W = .ok (retV vs) W := fun W hW => by
   unfold results
   rw [Array.mapM_eq_mapM_toList]
   simp only [Sem.run_bind, Sem.run_map]
   have h3 := h2 W hW
   have hF : ∀ F : ResultVar → Sem Value, (∀ x, F x = readR a'.tmps x) → (fn.results.toList.mapM F).run P W = .ok vs W := fun F hF => by rw [show F = readR a'.tmps from funext hF]; exact h3
   rw [hF _ (fun x => by cases x <;> rfl)]
   simp only [Result.andThen_ok, Sem.run_pure]
   cases vs with
   | nil => simp [retV]
   | cons x xs => cases xs with
    | nil => simp [retV]
    | cons y ys => simp [retV]
  rw [hs'.defers]
  have hh := hs'.heap
  obtain ⟨e1, e2, e3⟩ := hE
  simp only [] at e1 e2 e3
  obtain ⟨os', out', mine', outer'⟩ := E'
  simp only at e1 e2 e3
  subst e1; subst e2; subst e3
  simp only []
  clear hs' hk
  revert hh
  generalize w' = W
  induction mine' generalizing W with
  | nil =>
   intro hh
   show LeavesIn Fence.wide 0 P fn a'.tmps _ [] .returning W
   exact ⟨_, hres W hh, retV vs, G', H', rfl, hle, ⟨hh.env, hh.pers, hh.own, hh.sep, by simpa using hh.dfr⟩, h1⟩
  | cons D ds ih =>
   intro hh
   have hD := hh.dfr.2 D (by simp)
   refine ⟨by simp, .inl ⟨D, _, rfl, run_takeDeferred hD.1, ih _ ⟨hh.env, fun b o hb => ?_, fun p hp => ?_, hh.sep, ?_, fun D' hD' => ⟨?_, (hh.dfr.2 D' (by simp only [List.cons_append, List.mem_cons]; exact .inr hD')).2⟩⟩⟩⟩
   ·have h3 := hh.pers b o hb
    rw [World.putObj_heap_other (fun e => by subst e; rw [hD.2] at hb; cases hb)]
    exact h3
   ·obtain ⟨o, ho, hr⟩ := hh.own p hp
    exact ⟨o, (World.putObj_heap_other (fun e => by rw [e, hD.1] at ho; cases ho; exact Res.not_deferred hr)).trans ho, hr⟩
   ·have := hh.dfr.1
    simp only [List.cons_append, List.nodup_cons] at this
    exact this.2
   ·have hn := hh.dfr.1
    simp only [List.cons_append, List.nodup_cons] at hn
    exact (World.putObj_heap_other (fun e => by subst e; exact hn.1 hD')).trans (hh.dfr.2 D' (by simp only [List.cons_append, List.mem_cons]; exact .inr hD')).1
 cases e with
 | normal => exact key hk
 | ret => exact key hk
 | exit id => exact hk.elim
theorem FnT.of {P : Program} {T : Tys} (hT : TyOk P T) {f : FuncId} {fn : Func} {c : Code} (keep : List Nat) (hf : P.funcs[f]? = some fn) (hb : fn.body = some c) (hn : (fn.name == "runtime.NumGoroutine") = false)
  {args : List Value} {G : PHeap} {H : Heap} {R : Value → PHeap → Heap → Prop} (hlt : codeLt fn.ntmps c = true) (hargs : args.length ≤ fn.ntmps)
  (h : Sep G (keys H) → wpC P T fn.ntmps keep c G (argsFr 0 args) H (endK T fn.results.toList R .mk)) : FnT P f args G H R :=
 FnT.ofT hT hf hb hn hargs fun hs => wpC_sound hT c hlt (h hs)
end Go.V
namespace Go.V
def ownK (r : Option Res) (o : Nat) (k : Value → Prop) (_ : Tok k := .mk) : Prop := match r with
 | some (.cells xs sp _) => withV ((xs ++ sp)[o]?) k
 | _ => False
def objK (G : PHeap) (H : Heap) (b : Nat) (g : Option Obj) (o : Nat) (k : Value → Prop) (_ : Tok k := .mk) : Prop := match g with
 | some (.cells c _ _) => withV (c[o]?) k
 | some _ => False
 | none => ownK (findH H b) o k
theorem rdCell_obj (G : PHeap) (H : Heap) (b o : Nat) (k : Value → Prop) : rdCell G H ⟨b, o, none⟩ k = objK G H b (G b) o k := by
 unfold rdCell objK ownK; rw [if_neg (by simp)]
 rfl
def ownsK (r : Option Res) (o n : Nat) (k : List Value → Prop) (_ : Tok k := .mk) : Prop := match r with
 | some (.cells xs sp _) => Ob (n = 0 ∨ o + n ≤ xs.length + sp.length) (k (((xs ++ sp).drop o).take n))
 | _ => n = 0 ∧ k []
def objsK (G : PHeap) (H : Heap) (b : Nat) (g : Option Obj) (o n : Nat) (k : List Value → Prop) (_ : Tok k := .mk) : Prop := match g with
 | some (.cells c _ _) => Ob (n = 0 ∨ o + n ≤ c.size) (k ((c.toList.drop o).take n))
 | some _ => n = 0 ∧ k []
 | none => ownsK (findH H b) o n k
theorem rdCells_obj (G : PHeap) (H : Heap) (b o n : Nat) (k : List Value → Prop) : rdCells G H b o n k = objsK G H b (G b) o n k := by
 unfold rdCells objsK ownsK
 rfl
def wrsK (H : Heap) (b o : Nat) (vs : List Value) (r : Option Res) (k : Heap → Prop) (_ : Tok k := .mk) : Prop :=
 match r with
 | some (.cells xs sp e) => Ob (o + vs.length ≤ xs.length ∧ vs.all oneV = true) (k (setH H b (.cells (splice xs o vs) sp e)))
 | _ => False
theorem wrCells_obj (H : Heap) (b o : Nat) (vs : List Value) (k : Heap → Prop) : wrCells H b o vs k = wrsK H b o vs (findH H b) k := by
 unfold wrCells wrsK; rfl
theorem withV_get {l : List Value} {i : Nat} (h : i < l.length) (k : Value → Prop) : withV (l[i]?) k = k l[i] := by rw [List.getElem?_eq_getElem h]; rfl
theorem withV_mapget {α : Type} {f : α → Value} {l : List α} {i : Nat} (h : i < l.length) (k : Value → Prop) : withV ((l.map f)[i]?) k = k (f l[i]) := by rw [List.getElem?_map, List.getElem?_eq_getElem h]; rfl
theorem withV_getmap {α : Type} {f : α → Value} {l : List α} {i : Nat} (h : i < l.length) (k : Value → Prop) : withV ((l[i]?).map f) k = k (f l[i]) := by rw [List.getElem?_eq_getElem h]; rfl
theorem withV_appget {α : Type} {f : α → Value} {l : List α} {sp : List Value} {i : Nat} (h : i < l.length) (k : Value → Prop) : withV ((l.map f ++ sp)[i]?) k = k (f l[i]) := by
 rw [List.getElem?_append_left (by simpa using h), List.getElem?_map, List.getElem?_eq_getElem h]; rfl
theorem Br_not (b : Bool) (x y : Prop) : Br (!b) x y = Br b y x := by
 cases b <;> simp [Br]
theorem Br.yes {x y : Prop} (h : x) : Br true x y := Br_true.symm ▸ h
theorem Br.no {x y : Prop} (h : y) : Br false x y := Br_false.symm ▸ h
theorem Br.beq {α : Type} [BEq α] [LawfulBEq α] {a b : α} {x y : Prop} (h1 : a = b → x) (h2 : ¬ a = b → y) : Br (a == b) x y := ⟨fun h => h1 (by simpa using h), fun h => h2 (by simpa using h)⟩
theorem Br_nilnil {x y : Prop} : Br (([] : List UInt8) == []) x y = x := by simp [Br]
theorem Br_consnil {a : UInt8} {l : List UInt8} {x y : Prop} : Br (a :: l == []) x y = y := by simp [Br]
theorem Br.beqB {a b : List UInt8} {x y : Prop} (h1 : a = b → x) (h2 : ¬ a = b → y) : Br (a == b) x y := Br.beq h1 h2
theorem Br.beqb {a b : Bool} {x y : Prop} (h1 : a = b → x) (h2 : ¬ a = b → y) : Br (a == b) x y := Br.beq h1 h2
theorem objK_none {G : PHeap} {b : Nat} (h : G b = none) (H : Heap) (o : Nat) (k : Value → Prop) : objK G H b (G b) o k = ownK (findH H b) o k := by rw [h]; rfl
theorem objsK_none {G : PHeap} {b : Nat} (h : G b = none) (H : Heap) (o n : Nat) (k : List Value → Prop) : objsK G H b (G b) o n k = ownsK (findH H b) o n k := by rw [h]; rfl
theorem objK_cells (G : PHeap) (H : Heap) (b : Nat) (c : Array Value) (e : TypeId) (f : Nat × Nat) (o : Nat) (k : Value → Prop) : objK G H b (some (.cells c e f)) o k = withV (c[o]?) k := rfl
theorem objsK_cells (G : PHeap) (H : Heap) (b : Nat) (c : Array Value) (e : TypeId) (f : Nat × Nat) (o n : Nat) (k : List Value → Prop) : objsK G H b (some (.cells c e f)) o n k = Ob (n = 0 ∨ o + n ≤ c.size) (k ((c.toList.drop o).take n)) := rfl
theorem findH_same (r : Res) (H : Heap) (b : Nat) : findH ((b, r) :: H) b = some r := by simp [findH]
theorem findH_ne {k b : Nat} (h : k ≠ b) (r : Res) (H : Heap) : findH ((k, r) :: H) b = findH H b := by simp [findH, h]
theorem setH_same (r : Res) (H : Heap) (b : Nat) (r' : Res) : setH ((b, r) :: H) b r' = (b, r') :: H := by simp [setH]
theorem setH_ne {k b : Nat} (h : k ≠ b) (r : Res) (H : Heap) (r' : Res) : setH ((k, r) :: H) b r' = (k, r) :: setH H b r' := by simp [setH, h]
theorem eraseH_same (r : Res) (H : Heap) (b : Nat) : eraseH ((b, r) :: H) b = H := by simp [eraseH]
theorem eraseH_ne {k b : Nat} (h : k ≠ b) (r : Res) (H : Heap) : eraseH ((k, r) :: H) b = (k, r) :: eraseH H b := by simp [eraseH, h]
theorem NewB.mk {G : PHeap} {ks : List Nat} {k : Nat → Prop} (h : ∀ b, Sep G (b :: ks) → k b) : NewB G ks k := h
theorem NewRow.mk {G : PHeap} {ks : List Nat} {n E : Nat} {k : Nat → List Value → Nat → Prop} (h : ∀ b sp cap, Sep G (b :: ks) → n * E + sp.length = cap * E → k b sp cap) : NewRow G ks n E k := h
theorem Ob_true (k : Prop) : Ob True k = k := by simp [Ob]
theorem keys_cons (k : Nat) (r : Res) (H : Heap) : keys ((k, r) :: H) = k :: keys H := rfl
theorem keys_nil : keys [] = [] := rfl
theorem Sep_cons (G : PHeap) (b : Nat) (bs : List Nat) : Sep G (b :: bs) = ((G b = none ∧ NotIn b bs) ∧ Sep G bs) := rfl
theorem NotIn_cons (b c : Nat) (cs : List Nat) : NotIn b (c :: cs) = (b ≠ c ∧ NotIn b cs) := rfl
theorem NotIn_nil (b : Nat) : NotIn b [] = True := rfl
theorem Sep_nil (G : PHeap) : Sep G [] = True := rfl
theorem splice_lit0 (x : Value) (xs : List Value) (v : Value) (vs : List Value) : splice (x :: xs) 0 (v :: vs) = v :: splice xs 0 vs := by simp [splice]
theorem splice_nil (xs : List Value) : splice xs 0 [] = xs := by simp [splice]
def fillK (place : Nat → Option (Nat × Nat)) (cells : List Value) (v : Value) (rest : List (Nat × Value)) : Option (Nat × Nat) → Option (List Value)
 | none => none
 | some (off, size) => if (cellsV v).length = size ∧ off + size ≤ cells.length then fillL place (splice cells off (cellsV v)) rest else none
theorem fillL_nil (place : Nat → Option (Nat × Nat)) (cells : List Value) : fillL place cells [] = some cells := rfl
theorem fillL_cons (place : Nat → Option (Nat × Nat)) (cells : List Value) (i : Nat) (v : Value) (rest : List (Nat × Value)) : fillL place cells ((i, v) :: rest) = fillK place cells v rest (place i) := by
 rw [fillL]; cases place i <;> rfl
theorem fillK_some (place : Nat → Option (Nat × Nat)) (cells : List Value) (v : Value) (rest : List (Nat × Value)) (off size : Nat) : fillK place cells v rest (some (off, size)) = if (cellsV v).length = size ∧ off + size ≤ cells.length then fillL place (splice cells off (cellsV v)) rest else none := rfl
theorem splice_litS (x : Value) (xs : List Value) (n : Nat) (vs : List Value) : splice (x :: xs) (n + 1) vs = x :: splice xs n vs := by
 simp only [splice, List.take_succ_cons, List.cons_append]
 rw [show n + 1 + vs.length = (n + vs.length) + 1 by omega, List.drop_succ_cons]
theorem toList_arr {α : Type} (l : List α) : l.toArray.toList = l := rfl
def foundO {α : Type} (o : Option α) (yes : α → Prop) (no : Prop) (_ : Tok yes := .mk) (_ : Tok no := .mk) : Prop := match o with | some a => yes a | none => no
theorem foundO.mk {α : Type} {o : Option α} {yes : α → Prop} {no : Prop} (h1 : ∀ a, o = some a → yes a) (h2 : o = none → no) : foundO o yes no := by
 cases o with
 | none => exact h2 rfl
 | some a => exact h1 a rfl
theorem foundO_some {α : Type} (a : α) (yes : α → Prop) (no : Prop) : foundO (some a) yes no = yes a := rfl
theorem foundO_none {α : Type} (yes : α → Prop) (no : Prop) : foundO none yes no = no := rfl
theorem wrap_i64 {x : Int} (h0 : -9223372036854775808 ≤ x) (h1 : x ≤ 9223372036854775807) : IntKind.i64.wrap x = x := by
 rw [IntKind.wrap_i64]; omega
theorem wrap_u8 {x : Int} (h0 : 0 ≤ x) (h1 : x ≤ 255) : IntKind.u8.wrap x = x := by
 simp only [IntKind.wrap, IntKind.bits, IntKind.signed]; simp; omega
theorem wrap_u64 {x : Int} (h0 : 0 ≤ x) (h1 : x ≤ 18446744073709551615) : IntKind.u64.wrap x = x := by
 simp only [IntKind.wrap, IntKind.bits, IntKind.signed]; simp; omega
theorem wrap_u16 {x : Int} (h0 : 0 ≤ x) (h1 : x ≤ 65535) : IntKind.u16.wrap x = x := by
 simp only [IntKind.wrap, IntKind.bits, IntKind.signed]; simp; omega
theorem shrE (m : Int) {n b : Nat} (h : n ≤ b) : m.fdiv (2 ^ min n b) = m / 2 ^ n := by
 rw [Nat.min_eq_left h, Int.fdiv_eq_ediv_of_nonneg _ (Int.pow_nonneg (by decide))]
theorem shlE (m : Int) {n b : Nat} (h : n ≤ b) : m * 2 ^ min n b = m * 2 ^ n := by rw [Nat.min_eq_left h]
theorem ofInt_nat {n : Nat} {x : Int} (h0 : 0 ≤ x) (h1 : x < 2 ^ n) : (BitVec.ofInt n x).toNat = x.toNat := by
 rw [BitVec.toNat_ofInt]
 congr 1
 exact Int.emod_eq_of_lt h0 (by simpa using h1)
theorem wrap_nat {k : IntKind} {m : Nat} (hs : k.signed = false) (h : m < 2 ^ k.bits) : k.wrap m = m := by
 simp only [IntKind.wrap, hs, Bool.false_and, Bool.false_eq_true, if_false]
 have h' : ((m : Int)) < ((2 ^ k.bits : Nat) : Int) := Int.ofNat_lt.2 h
 rw [Int.natCast_pow] at h'
 exact Int.emod_eq_of_lt (Int.natCast_nonneg m) h'
section
variable {k : IntKind} {x y : Int} (hs : k.signed = false) (hx : 0 ≤ x) (hx' : x < 2 ^ k.bits) (hy : 0 ≤ y) (hy' : y < 2 ^ k.bits)
include hs hx hx' hy hy'
theorem bits_and : bitsOp .and k x y = ((x.toNat &&& y.toNat : Nat) : Int) := by
 simp only [bitsOp]
 rw [BitVec.toNat_and, wrap_nat hs (Nat.lt_of_le_of_lt Nat.and_le_left (BitVec.isLt _)), ofInt_nat hx hx', ofInt_nat hy hy']
theorem bits_or : bitsOp .or k x y = ((x.toNat ||| y.toNat : Nat) : Int) := by
 simp only [bitsOp]
 rw [wrap_nat hs (BitVec.isLt _), BitVec.toNat_or, ofInt_nat hx hx', ofInt_nat hy hy']
theorem bits_xor : bitsOp .xor k x y = ((x.toNat ^^^ y.toNat : Nat) : Int) := by
 simp only [bitsOp]
 rw [wrap_nat hs (BitVec.isLt _), BitVec.toNat_xor, ofInt_nat hx hx', ofInt_nat hy hy']
end
theorem and_u8 {x y : Int} (h1 : 0 ≤ x) (h2 : x ≤ 255) (h3 : 0 ≤ y) (h4 : y ≤ 255) : bitsOp .and .u8 x y = ((x.toNat &&& y.toNat : Nat) : Int) := bits_and rfl h1 (by show x < 256; omega) h3 (by show y < 256; omega)
theorem or_u8 {x y : Int} (h1 : 0 ≤ x) (h2 : x ≤ 255) (h3 : 0 ≤ y) (h4 : y ≤ 255) : bitsOp .or .u8 x y = ((x.toNat ||| y.toNat : Nat) : Int) := bits_or rfl h1 (by show x < 256; omega) h3 (by show y < 256; omega)
theorem and_u64 {x y : Int} (h1 : 0 ≤ x) (h2 : x ≤ 18446744073709551615) (h3 : 0 ≤ y) (h4 : y ≤ 18446744073709551615) : bitsOp .and .u64 x y = ((x.toNat &&& y.toNat : Nat) : Int) := bits_and rfl h1 (by show x < 18446744073709551616; omega) h3 (by show y < 18446744073709551616; omega)
theorem or_u64 {x y : Int} (h1 : 0 ≤ x) (h2 : x ≤ 18446744073709551615) (h3 : 0 ≤ y) (h4 : y ≤ 18446744073709551615) : bitsOp .or .u64 x y = ((x.toNat ||| y.toNat : Nat) : Int) := bits_or rfl h1 (by show x < 18446744073709551616; omega) h3 (by show y < 18446744073709551616; omega)
theorem xor_u64 {x y : Int} (h1 : 0 ≤ x) (h2 : x ≤ 18446744073709551615) (h3 : 0 ≤ y) (h4 : y ≤ 18446744073709551615) : bitsOp .xor .u64 x y = ((x.toNat ^^^ y.toNat : Nat) : Int) := bits_xor rfl h1 (by show x < 18446744073709551616; omega) h3 (by show y < 18446744073709551616; omega)
theorem tdivE {m n : Int} (h : 0 ≤ m) : m.tdiv n = m / n := Int.tdiv_eq_ediv_of_nonneg h
theorem tmodE {m n : Int} (h : 0 ≤ m) : m.tmod n = m % n := Int.tmod_eq_emod_of_nonneg h
theorem rep_single (n : Nat) (v : Value) : rep n [v] = List.replicate n v := rfl
theorem byteV_ofNat {m : Int} (h0 : 0 ≤ m) (h1 : m ≤ 255) : byteV (UInt8.ofNat m.toNat) = .int .u8 m := by
 unfold byteV; congr 1
 rw [UInt8.toNat_ofNat_of_lt' (by show m.toNat < 256; omega)]; omega
theorem asBytes_app (xs ys : List Value) (k : List UInt8 → Prop) : asBytes (xs ++ ys) k = asBytes xs fun a => asBytes ys fun b => k (a ++ b) := by
 apply propext
 constructor
 ·rintro ⟨bs, h, hk⟩
  obtain ⟨l1, l2, rfl, h1, h2⟩ := List.append_eq_map_iff.1 h
  exact ⟨l1, h1.symm, l2, h2.symm, hk⟩
 ·rintro ⟨l1, rfl, l2, rfl, hk⟩
  exact ⟨l1 ++ l2, by simp, hk⟩
theorem asBytes_lit {m : Int} (h0 : 0 ≤ m) (h1 : m ≤ 255) (vs : List Value) (k : List UInt8 → Prop) : asBytes (.int .u8 m :: vs) k = asBytes vs fun bs => k (UInt8.ofNat m.toNat :: bs) := by
 have := asBytes_app [byteV (UInt8.ofNat m.toNat)] vs k
 rw [byteV_ofNat h0 h1] at this
 refine this.trans ?_
 rw [← byteV_ofNat h0 h1]
 exact asBytes_map [UInt8.ofNat m.toNat] _
theorem u8_ofNat (x : UInt8) : UInt8.ofNat x.toNat = x := by simp
theorem u8_ofNatI (x : UInt8) : UInt8.ofNat ((x.toNat : Int)).toNat = x := by simp
theorem asBytes_u8 (x : UInt8) (vs : List Value) (k : List UInt8 → Prop) : asBytes (.int .u8 (x.toNat : Int) :: vs) k = asBytes vs fun bs => k (x :: bs) := by
 have := x.toNat_lt
 rw [asBytes_lit (by omega) (by omega), u8_ofNatI]
theorem and_1 (n : Nat) : n &&& 1 = n % 2 := Nat.and_two_pow_sub_one_eq_mod n 1
theorem and_7 (n : Nat) : n &&& 7 = n % 8 := Nat.and_two_pow_sub_one_eq_mod n 3
theorem and_15 (n : Nat) : n &&& 15 = n % 16 := Nat.and_two_pow_sub_one_eq_mod n 4
theorem and_63 (n : Nat) : n &&& 63 = n % 64 := Nat.and_two_pow_sub_one_eq_mod n 6
theorem and_127 (n : Nat) : n &&& 127 = n % 128 := Nat.and_two_pow_sub_one_eq_mod n 7
theorem and_255 (n : Nat) : n &&& 255 = n % 256 := Nat.and_two_pow_sub_one_eq_mod n 8
theorem toNat_p1 (n : Nat) : ((n : Int) + 1).toNat = n + 1 := by omega
theorem toNat_p2 (n : Nat) : ((n : Int) + 2).toNat = n + 2 := by omega
theorem toNat_p3 (n : Nat) : ((n : Int) + 3).toNat = n + 3 := by omega
theorem toNat_p4 (n : Nat) : ((n : Int) + 4).toNat = n + 4 := by omega
theorem toNat_nat (n : Nat) : ((n : Int)).toNat = n := Int.toNat_natCast n
section
variable (k : PHeap → Fr → Heap → Prop) (K : Post) (G : PHeap) (l : Fr) (H : Heap) (rs : List ResultVar) (R : Value → PHeap → Heap → Prop)
theorem thenK_normal : thenK k K .mk .mk .normal G l H = k G l H := rfl
theorem thenK_exit (i : Nat) : thenK k K .mk .mk (.exit i) G l H = K (.exit i) G l H := rfl
theorem thenK_ret : thenK k K .mk .mk .ret G l H = K .ret G l H := rfl
theorem blockK_normal (i : Nat) : blockK i K .mk .normal G l H = K .normal G l H := rfl
theorem blockK_ret (i : Nat) : blockK i K .mk .ret G l H = K .ret G l H := rfl
theorem blockK_exit (i j : Nat) : blockK i K .mk (.exit j) G l H = if j = i then K .normal G l H else K (.exit j) G l H := rfl
theorem endK_normal (T : Tys) : endK T rs R .mk .normal G l H = resK T G H l rs fun vs => R (retV vs) G H := rfl
theorem endK_ret (T : Tys) : endK T rs R .mk .ret G l H = resK T G H l rs fun vs => R (retV vs) G H := rfl
end
theorem condK_bool (b : Bool) (x y : Prop) : condK (.bool b) x y = Br b x y := rfl
theorem retV_one (v : Value) : retV [v] = v := rfl
theorem retV_two (u v : Value) : retV [u, v] = .tuple #[u, v] := rfl
theorem retV_three (u v w : Value) : retV [u, v, w] = .tuple #[u, v, w] := rfl
theorem retV_zero : retV [] = .tuple #[] := rfl
section
variable (P : Program) (T : Tys) (all rest : List Oper) (d : Option Nat) (op : Op) (t : TypeId) (p : String) (af : Array Edge) (G : PHeap) (l : Fr) (H : Heap) (K : PHeap → Fr → Heap → Prop)
theorem wpO_nil : wpO P T all [] G l H K = K G l H := rfl
theorem wpO_plain : wpO P T all (⟨d, op, t, p, af, none⟩ :: rest) G l H K = stepY P T op G l H fun v G' H' => wpO P T all rest G' (put l d v) H' K := rfl
theorem wpO_guard (g : Nat × Bool) : wpO P T all (⟨d, op, t, p, af, some g⟩ :: rest) G l H K = guardK all (some g) l (fun l' => stepY P T op G l' H fun v G' H' => wpO P T all rest G' (put l' d v) H' K) (fun l' => wpO P T all rest G (put l' d undef) H K) := rfl
theorem wpO_app_nil (bs : List Oper) : wpO P T all (List.append [] bs) G l H K = wpO P T all bs G l H K := rfl
theorem wpO_app_plain (bs : List Oper) : wpO P T all (List.append (⟨d, op, t, p, af, none⟩ :: rest) bs) G l H K = stepY P T op G l H fun v G' H' => wpO P T all (List.append rest bs) G' (put l d v) H' K := rfl
theorem wpO_app_guard (bs : List Oper) (g : Nat × Bool) : wpO P T all (List.append (⟨d, op, t, p, af, some g⟩ :: rest) bs) G l H K = guardK all (some g) l (fun l' => stepY P T op G l' H fun v G' H' => wpO P T all (List.append rest bs) G' (put l' d v) H' K) (fun l' => wpO P T all (List.append rest bs) G (put l' d undef) H K) := rfl
end
section
variable (P : Program) (T : Tys) (sz : Nat) (keep : List Nat) (G : PHeap) (l : Fr) (H : Heap) (K : Post)
theorem wpC_skip : wpC P T sz keep .skip G l H K = K .normal G l H := rfl
theorem wpC_region (id : Nat) (ops : List Oper) : wpC P T sz keep (.region id ops.toArray false) G l H K = wpO P T ops ops G l H fun G' l' H' => K .normal G' (restrict keep l') H' := rfl
theorem wpC_draw (id : Nat) (ops : List Oper) : wpC P T sz keep (.region id ops.toArray true) G l H K = Tri P sz (.region id ops.toArray true) G l H K := rfl
theorem wpC_range (f : Operand) (ps : Array Tmp) (x y : Code) : wpC P T sz keep (.rangeFunc f ps x y) G l H K = Tri P sz (.rangeFunc f ps x y) G l H K := rfl
theorem wpC_seq (x y : Code) : wpC P T sz keep (.seq x y) G l H K = wpC P T sz keep x G l H (thenK (fun G' l' H' => wpC P T sz keep y G' l' H' K) K .mk .mk) := rfl
theorem wpC_cond (c : Operand) (x y : Code) : wpC P T sz keep (.cond c x y) G l H K = withV (ev l c) fun v => condK v (wpC P T sz keep x G l H K) (wpC P T sz keep y G l H K) := rfl
theorem wpC_block (i : Nat) (c : Code) : wpC P T sz keep (.block i c) G l H K = wpC P T sz keep c G l H (blockK i K .mk) := rfl
theorem wpC_exit (i : Nat) : wpC P T sz keep (.exit i) G l H K = K (.exit i) G l H := rfl
theorem wpC_label (i : Nat) : wpC P T sz keep (.label i) G l H K = K .normal G l H := rfl
theorem wpC_ret : wpC P T sz keep .ret G l H K = K .ret G l H := rfl
theorem wpC_loop (c : Code) : wpC P T sz keep (.loop c) G l H K = Tri P sz (.loop c) G l H K := rfl
theorem wpC_scope (c : Code) : wpC P T sz keep (.scope c) G l H K = wpC P T sz keep c G l H K := rfl
end
def gdK (t : Option (Option Nat)) (want : Bool) (l : Fr) (yes no : Fr → Prop) (_ : Tok yes := .mk) (_ : Tok no := .mk) : Prop := match t with
 | some (some t) => withV (look l t) fun v => gK v t want l yes no
 | _ => False
theorem guardK_some (all : List Oper) (j : Nat) (want : Bool) (l : Fr) (yes no : Fr → Prop) : guardK all (some (j, want)) l yes no = gdK (dstAt all j) want l yes no := by
 unfold guardK gdK
 simp only []
 cases h : dstAt all j with
 | none => simp
 | some o => cases o <;> simp
theorem dstAt_zero (o : Oper) (os : List Oper) : dstAt (o :: os) 0 = some o.dst := rfl
theorem dstAt_succ (o : Oper) (os : List Oper) (n : Nat) : dstAt (o :: os) (n + 1) = dstAt os n := by simp [dstAt]
theorem gdK_some (t : Nat) (want : Bool) (l : Fr) (yes no : Fr → Prop) : gdK (some (some t)) want l yes no = withV (look l t) fun v => gK v t want l yes no := rfl
theorem gK_bool (b : Bool) (t : Nat) (want : Bool) (l : Fr) (yes no : Fr → Prop) : gK (.bool b) t want l yes no = Br (b == want) (yes ((t, .bool want) :: l)) (no ((t, .bool (!want)) :: l)) := rfl
theorem gK_tuple (vs : Array Value) (t : Nat) (want : Bool) (l : Fr) (yes no : Fr → Prop) : gK (.tuple vs) t want l yes no = no l := rfl
theorem gK_undef (t : Nat) (want : Bool) (l : Fr) (yes no : Fr → Prop) : gK undef t want l yes no = no l := rfl
theorem ownsK_cells (xs sp : List Value) (e : TypeId) (o n : Nat) (k : List Value → Prop) : ownsK (some (.cells xs sp e)) o n k = Ob (n = 0 ∨ o + n ≤ xs.length + sp.length) (k (((xs ++ sp).drop o).take n)) := rfl
theorem ownK_cells (xs sp : List Value) (e : TypeId) (o : Nat) (k : Value → Prop) : ownK (some (.cells xs sp e)) o k = withV ((xs ++ sp)[o]?) k := rfl
theorem subOb_lit (b o l m n : Nat) : subOb (some ⟨b, o, none⟩) l m n = some (subAddr b o l m n) := by
 unfold subOb subAddr; split
 ·rfl
 ·simp [addr_add]
theorem subOb_none (l m n : Nat) : subOb none l m n = none := by unfold subOb; split <;> rfl
theorem subAddr_zero (b o m n : Nat) (h : n = 0) : subAddr b o 0 m n = ⟨b, o, none⟩ := by subst h; unfold subAddr; split <;> rfl
theorem blk_sub (b o l m n : Nat) : blk (some (subAddr b o l m n)) = b := by unfold subAddr; split <;> rfl
theorem Adr_sub (b o l m n : Nat) : Adr (some (subAddr b o l m n)) = True := by unfold subAddr; split <;> exact eq_true rfl
theorem foundK_map {α : Type} (f : α → Value) (o : Option α) (yes : Value → Prop) (no : Prop) : foundK (some (o.map f)) yes no = foundO o (fun a => yes (f a)) no := by cases o <;> rfl
section
variable (P : Program) (T : Tys) (G : PHeap) (l : Fr) (H : Heap) (k : Value → PHeap → Heap → Prop)
theorem stepY_move (x : Operand) : stepY P T (.move x) G l H k = stepF P T (.move x) G l H k := rfl
theorem stepY_assign (x : Operand) : stepY P T (.assign x) G l H k = stepF P T (.assign x) G l H k := rfl
theorem stepY_pick (c a b : Operand) : stepY P T (.pick c a b) G l H k = stepF P T (.pick c a b) G l H k := rfl
theorem stepY_alloc (e : TypeId) : stepY P T (.alloc e) G l H k = stepF P T (.alloc e) G l H k := rfl
theorem stepY_box (e : TypeId) (v : Operand) : stepY P T (.box e v) G l H k = stepF P T (.box e v) G l H k := rfl
theorem stepY_build (t : TypeId) (ps : Array (Nat × Operand)) : stepY P T (.build t ps) G l H k = stepF P T (.build t ps) G l H k := rfl
theorem stepY_buildSlice (t : TypeId) (n : Nat) (ps : Array (Nat × Operand)) : stepY P T (.buildSlice t n ps) G l H k = stepF P T (.buildSlice t n ps) G l H k := rfl
theorem stepY_insert (t : TypeId) (x i y : Operand) : stepY P T (.insert t x i y) G l H k = stepF P T (.insert t x i y) G l H k := rfl
theorem stepY_load (t : TypeId) (x : Operand) : stepY P T (.load t x) G l H k = stepF P T (.load t x) G l H k := rfl
theorem stepY_store (t : TypeId) (x y : Operand) : stepY P T (.store t x y) G l H k = stepF P T (.store t x y) G l H k := rfl
theorem stepY_nilCheck (x : Operand) : stepY P T (.nilCheck x) G l H k = stepF P T (.nilCheck x) G l H k := rfl
theorem stepY_binOp (o : BinOp) (t : TypeId) (x y : Operand) (u : TypeId) : stepY P T (.binOp o t x y u) G l H k = stepF P T (.binOp o t x y u) G l H k := rfl
theorem stepY_unOp (o : UnOp) (t : TypeId) (x : Operand) : stepY P T (.unOp o t x) G l H k = stepF P T (.unOp o t x) G l H k := rfl
theorem stepY_convert (s d : TypeId) (x : Operand) : stepY P T (.convert s d x) G l H k = stepF P T (.convert s d x) G l H k := rfl
theorem stepY_makeFunc (f : Fn) (a b : Array Operand) : stepY P T (.makeFunc f a b) G l H k = stepF P T (.makeFunc f a b) G l H k := rfl
theorem stepY_makeMap (t : TypeId) (r : Option Operand) : stepY P T (.makeMap t r) G l H k = stepF P T (.makeMap t r) G l H k := rfl
theorem stepY_makeSlice (t : TypeId) (n c : Operand) : stepY P T (.makeSlice t n c) G l H k = stepF P T (.makeSlice t n c) G l H k := rfl
theorem stepY_slice (t : TypeId) (x : Operand) (a b c : Option Operand) : stepY P T (.slice t x a b c) G l H k = stepF P T (.slice t x a b c) G l H k := rfl
theorem stepY_fieldAddr (t : TypeId) (x : Operand) (f : Nat) : stepY P T (.fieldAddr t x f) G l H k = stepF P T (.fieldAddr t x f) G l H k := rfl
theorem stepY_field (t : TypeId) (x : Operand) (f : Nat) : stepY P T (.field t x f) G l H k = stepF P T (.field t x f) G l H k := rfl
theorem stepY_indexAddr (t : TypeId) (x i : Operand) : stepY P T (.indexAddr t x i) G l H k = stepF P T (.indexAddr t x i) G l H k := rfl
theorem stepY_index (t : TypeId) (x i : Operand) : stepY P T (.index t x i) G l H k = stepF P T (.index t x i) G l H k := rfl
theorem stepY_lookup (t : TypeId) (x i : Operand) (c : Bool) : stepY P T (.lookup t x i c) G l H k = stepF P T (.lookup t x i c) G l H k := rfl
theorem stepY_mapUpdate (t : TypeId) (m key val : Operand) : stepY P T (.mapUpdate t m key val) G l H k = stepF P T (.mapUpdate t m key val) G l H k := rfl
theorem stepY_range (t : TypeId) (x : Operand) : stepY P T (.range t x) G l H k = stepF P T (.range t x) G l H k := rfl
theorem stepY_next (x : Operand) (b : Bool) : stepY P T (.next x b) G l H k = stepF P T (.next x b) G l H k := rfl
theorem stepY_entry (x : Operand) : stepY P T (.entry x) G l H k = stepF P T (.entry x) G l H k := rfl
theorem stepY_extract (x : Operand) (i : Nat) : stepY P T (.extract x i) G l H k = stepF P T (.extract x i) G l H k := rfl
theorem stepY_value (f : Operand) (as : Array Operand) (ts : Array TypeId) : stepY P T (.call ⟨.value f, as, ts⟩) G l H k = withV (ev l f) fun fv => evK l as.toList fun vs => callY P fv vs G H k := rfl
theorem stepY_builtin (b : Builtin) (as : Array Operand) (ts : Array TypeId) : stepY P T (.call ⟨.builtin b, as, ts⟩) G l H k = stepF P T (.call ⟨.builtin b, as, ts⟩) G l H k := rfl
theorem callY_func (f : FuncId) (first caps : Array Value) (vs : List Value) : callY P (.func (.func f) first caps) vs G H k = FnT P f (first.toList ++ vs ++ caps.toList) G H k := rfl
theorem callY_yield (lr : Nat) (caps : Array Value) (vs : List Value) : callY P (.func (.yield lr) #[] caps) vs G H k = YldT P lr vs G H k := by simp [callY]
end
attribute [go_sem] stepY_move stepY_assign stepY_pick stepY_alloc stepY_box stepY_build stepY_buildSlice stepY_insert stepY_load stepY_store stepY_nilCheck stepY_binOp stepY_unOp stepY_convert stepY_makeFunc stepY_makeMap stepY_makeSlice stepY_slice stepY_fieldAddr stepY_field stepY_indexAddr stepY_index stepY_lookup stepY_mapUpdate stepY_range stepY_next stepY_entry stepY_extract stepY_value stepY_builtin callY_func callY_yield
attribute [go_sem] byteV Br_nilnil Br_consnil Br_not beq_true beq_false wpC_skip wpC_region wpC_draw wpC_range wpC_loop wpC_seq wpC_cond wpC_block wpC_exit wpC_label wpC_ret wpC_scope dstAt_zero dstAt_succ Bool.false_eq_true List.append_eq List.cons_append List.nil_append wpO_nil wpO_plain wpO_guard wpO_app_nil wpO_app_plain wpO_app_guard stepF guardK_some gdK_some gK_bool gK_tuple gK_undef withV_some look_cons look_nil ev_tmp ev_const ev_global ev_func put_some put_none restrict_nil restrict_cons restrictK_some restrictK_none
 evK_nil evK_cons evPK_nil evPK_cons evO_none evO_some bound_none bound_some
 opInt opStr opBin opUn opIndex opIndexAddr opField opFieldV opExtract opLoad opStore opSlice opConv convK_cells opMakeSlice opBuild opBuildSlice opLen opCap opMin opMax pickK nilK callK builtinK lenK opAppend opCopy opRange srcCells appTo appZero appFresh appOwn_cells appTight_cells withL_some blk_lit ofs_lit Adr_lit rdSl_lit rdSl_none subOb_lit subOb_none subAddr_zero blk_sub Adr_sub opLookup opMapUpdate opDelete opMapLen mapK_some foundK_yes foundK_no foundK_map foundO_some foundO_none esK_some eqK_some zeroVal List.headD_cons
 pickV_true pickV_false pickV_bool rdCell_obj rdCells_obj wrCells_obj objK_cells objsK_cells ownK_cells ownsK_cells wrsK withV_get withV_mapget withV_getmap withV_appget
 Ob_of Ob_true Br_true Br_false Br_dt Br_df
 objK_none objsK_none findH_same findH_ne setH_same setH_ne eraseH_same eraseH_ne keys_cons keys_nil Sep_cons Sep_nil NotIn_cons NotIn_nil
 splice_lit0 splice_nil splice_litS fillL_nil fillL_cons fillK_some placesOf Bool.not_true Bool.not_false Option.map_some Option.map_none List.find?_cons List.all_cons List.all_nil Bool.and_true Bool.true_and Bool.and_self toList_arr cellsV
 wrap_i64 wrap_u8 wrap_u16 wrap_u64 toNat_nat asBytes_app asBytes_u8 asBytes_lit u8_ofNat u8_ofNatI and_1 and_7 and_15 and_63 and_127 and_255 List.take_left' toNat_p1 toNat_p2 toNat_p3 toNat_p4 rep_single List.take_zero List.take_succ_cons List.take_nil List.drop_zero List.drop_succ_cons List.drop_nil tdivE tmodE shrE shlE and_u8 or_u8 and_u64 or_u64 xor_u64
 thenK_normal thenK_exit thenK_ret blockK_normal blockK_ret blockK_exit endK_normal endK_ret condK_bool retV_one retV_two retV_three retV_zero resK_nil resK_cons resK_cell
 argsFr asBytes_map asBytes_nil oneV oneAll
attribute [go_sem] decide_true decide_false ne_eq not_false_eq_true not_true_eq_false and_true true_and and_self or_true true_or or_false false_or or_self eq_self Option.isNone_some Option.isNone_none Nat.zero_add Nat.add_zero Nat.mul_one Nat.one_mul Nat.zero_mul List.length_cons List.length_nil List.getElem?_cons_zero List.getElem?_cons_succ List.map_cons List.map_nil List.append_nil
end Go.V
namespace Go.V
variable {E : Env}
def G0 : PHeap := fun _ => none
theorem HeapOk.nothing (w : World) : HeapOk ⟨w.os, w.output, [], []⟩ G0 [] w := ⟨⟨rfl, rfl⟩, fun b o h => (by cases h), fun p hp => (by cases hp), trivial, by simp, by simp⟩
theorem runS_quiet {α : Type} {P : Program} (s : Sem α) {k : α → Heap → Prop} (h : runS true P G0 s [] k) : ∃ x, k x [] ∧ ∀ w, s.run P w = .ok x w :=
 let ⟨x, h1, h2⟩ := runS_reads s h
 ⟨x, h1, fun w => h2 w (HeapOk.nothing w)⟩
def isPure (T : Tys) : Op → Bool
 | .move _ | .assign _ | .pick .. | .build .. | .nilCheck _ | .binOp .. | .unOp .. | .makeFunc .. | .slice .. | .fieldAddr .. | .field .. | .indexAddr .. | .index .. | .extract .. => true
 | .convert s d _ => match (T s).k, (T d).k with
  | .int _, .int _ => true
  | .string, .string => true
  | _, _ => false
 | .call { callee := .builtin b, argTypes := ts, .. } => match b with
  | .min | .max => true
  | .len => match ts.toList with
   | [t] => match (T t).k with
    | .map .. => false
    | _ => true
   | _ => false
  | _ => false
 | _ => false
theorem pure_runs {P : Program} {T : Tys} (hT : TyOk P T) {o : Oper} {sz : Nat} {G : PHeap} {l : Fr} {H : Heap} {a : Act} {w0 : World} {k : Value → PHeap → Heap → Prop}
  (hp : isPure T o.op = true) (h : stepF P T o.op G l H k) (hs : Sim E sz G l H a w0) : ∃ v, k v G H ∧ ∀ w, (execOp a.eval o).run P w = .ok (.value v) w := by
 obtain ⟨dst, op, ty, pos, after, guard⟩ := o
 have val : ∀ (s : Sem Value), runS true P G0 s [] (fun v _ => k v G H) → execOp a.eval ⟨dst, op, ty, pos, after, guard⟩ = (do pure (.value (← s))) → ∃ v, k v G H ∧ ∀ w, (execOp a.eval ⟨dst, op, ty, pos, after, guard⟩).run P w = .ok (.value v) w := fun s hr he => by
  obtain ⟨x, h1, h2⟩ := runS_quiet s hr
  exact ⟨x, h1, fun w => by rw [he, Sem.run_bind, h2 w]; rfl⟩
 cases op <;> simp only [isPure, Bool.false_eq_true] at hp <;> simp only [stepF] at h
 case move x => exact val (pure (a.eval x)) (withV_ev hs h) rfl
 case assign x => exact val (pure (a.eval x)) (withV_ev hs h) rfl
 case pick c x y =>
  have h1 := withV_ev hs (withV_ev hs (withV_ev hs h))
  unfold pickK at h1
  split at h1
  ·rename_i t hc
   refine val (pure (if t then a.eval x else a.eval y)) (by rw [runS_pure, ← pickV_eq]; exact h1) ?_
   simp only [execOp, hc, asBool]
   cases t <;> rfl
  ·exact h1.elim
 case build t parts =>
  have h1 := evPK_ev hs h
  have h2 : opBuild T t (parts.map fun p => (p.1, a.eval p.2)).toList fun v => k v G H := by rw [Array.toList_map]; exact h1
  exact val (Instr.build t (parts.map fun p => (p.1, a.eval p.2))) (opBuild_sound hT h2) (by simp only [execOp])
 case nilCheck x =>
  have h1 := withV_ev hs h
  refine val (pure (a.eval x)) (by rw [runS_pure]; unfold nilK at h1; split at h1 <;> first | exact h1 | exact h1.elim) ?_
  unfold nilK at h1
  simp only [execOp]
  split at h1
  ·rename_i v p hp; rw [hp]; rfl
  ·rename_i v f fs cs hp; rw [hp]; rfl
  ·rename_i v p hp; rw [hp]; rfl
  ·exact h1.elim
 case binOp op t x y u =>
  have h1 := withV_ev hs (withV_ev hs h)
  refine val (do eqGuard op t x y (a.eval x) (a.eval y); binOp op t (a.eval x) (a.eval y)) ?_ ?_
  ·rw [runS_bind, opBin_guard hT h1]; exact opBin_sound hT h1
  ·simp only [execOp]
 case unOp op t x => exact val _ (opUn_sound (withV_ev hs h)) rfl
 case convert s d x =>
  have h1 := withV_ev hs h
  refine val (convert s d (a.eval x)) ?_ rfl
  unfold opConv at h1
  split at h1
  ·rename_i b n hx
   split at h1
   ·rename_i j c hs1 hd1
    obtain ⟨d1, e1, f1⟩ := hT.und hs1 (by simp)
    obtain ⟨d2, e2, f2⟩ := hT.und hd1 (by simp)
    simp only [TK.fits] at f1 f2
    subst f1; subst f2
    rw [hx]
    simp only [convert, runS_bind, runS_underlying e1, runS_underlying e2, Conv.intToInt, runS_pure]
    exact h1
   ·exact h1.elim
  ·rename_i str hx
   split at h1
   ·rename_i hs1 hd1
    obtain ⟨d1, e1, f1⟩ := hT.und hs1 (by simp)
    obtain ⟨d2, e2, f2⟩ := hT.und hd1 (by simp)
    simp only [TK.fits] at f1 f2
    subst f1; subst f2
    rw [hx]
    simp only [convert, runS_bind, runS_underlying e1, runS_underlying e2, runS_pure]
    exact h1
   ·rename_i e hs1 hd1; rw [hs1, hd1] at hp; simp at hp
   ·exact h1.elim
  ·split at h1
   ·rename_i hs1 hd1; rw [hs1, hd1] at hp; simp at hp
   ·rename_i hs1 hd1; rw [hs1, hd1] at hp; simp at hp
   ·exact h1.elim
  ·exact h1.elim
 case fieldAddr t x f => exact val _ (opField_sound hT (withV_ev hs h)) rfl
 case field t x f => exact val _ (opFieldV_sound hT (withV_ev hs h)) rfl
 case indexAddr t x i => exact val _ (opIndexAddr_sound hT (withV_ev hs (withV_ev hs h))) rfl
 case index t x i => exact val _ (opIndex_sound hT (withV_ev hs (withV_ev hs h))) rfl
 case extract x i => exact val _ (opExtract_sound (withV_ev hs h)) rfl
 case makeFunc fn first caps =>
  have h1 := evK_ev hs (evK_ev hs h)
  refine val (Instr.makeFunc fn (first.map a.eval) (caps.map a.eval)) ?_ rfl
  simp only [Instr.makeFunc, runS_pure]
  have e1 : (first.toList.map a.eval).toArray = first.map a.eval := by apply Array.ext'; simp
  have e2 : (caps.toList.map a.eval).toArray = caps.map a.eval := by apply Array.ext'; simp
  rw [e1, e2] at h1; exact h1
 case slice t x lo hi mx => exact val _ (opSlice_sound hT (evO_ev hs (evO_ev hs (evO_ev hs (withV_ev hs h))))) rfl
 case call c =>
  obtain ⟨callee, args, ats⟩ := c
  cases callee with
  | invoke r m => simp at hp
  | value f => simp at hp
  | builtin b =>
   have h1 := evK_ev hs h
   unfold builtinK at h1
   have hex : ∀ (s : Sem Value), builtin b ats ty (args.map fun | .const _ => true | _ => false) (args.map a.eval) = (do pure (.value (← s))) →
     execOp a.eval ⟨dst, .call { callee := .builtin b, args := args, argTypes := ats }, ty, pos, after, guard⟩ = (do pure (.value (← s))) := fun s hb => by
    simp only [execOp, resolve, pure_bind, invoke]
    exact hb
   have harr : ∀ vs : List Value, args.toList.map a.eval = vs → args.map a.eval = vs.toArray := fun vs hv => by apply Array.ext'; simpa using hv
   have htys : ∀ ts : List TypeId, ats.toList = ts → ats = ts.toArray := fun ts hv => by apply Array.ext'; simpa using hv
   split at h1
   ·rename_i t x ht hx
    refine val (Builtin.len_ #[t] ty #[x]) ?_ (hex _ ?_)
    ·unfold lenK at h1
     split at h1
     ·split at h1
      ·rename_i hmk
       have ht' : ats.toList = [t] := ht
       have hp' : (match ats.toList with | [t] => (match (T t).k with | .map .. => false | _ => true) | _ => false) = true := hp
       rw [ht'] at hp'
       simp [hmk] at hp'
      ·exact h1.elim
     ·exact opLen_sound hT h1
    ·rw [harr _ hx, htys _ ht]
     exact rfl
   ·simp at hp
   ·simp at hp
   ·refine val (Builtin.min_ ats ty (args.toList.map a.eval).toArray) (opMin_sound (ts := ats) (ty := ty) h1) (hex _ ?_)
    rw [harr _ rfl]
    exact rfl
   ·refine val (Builtin.max_ ats ty (args.toList.map a.eval).toArray) (opMax_sound (ts := ats) (ty := ty) h1) (hex _ ?_)
    rw [harr _ rfl]
    exact rfl
   ·simp at hp
   ·simp at hp
   ·exact h1.elim
def drawOk (T : Tys) (ops : Array Oper) : List Nat → Array Bool → Bool
 | [], listed => (Region.ready .any ops listed).isEmpty
 | i :: σ, listed => (match ops[i]? with
  | none => false
  | some o => if isPure T o.op then (Region.ready .any ops listed).contains i && Region.free .any ops listed i else decide (Region.ready .any ops listed = [i])) && drawOk T ops σ (listed.setIfInBounds i true)
def opAt (all : List Oper) (i : Nat) : Option Oper := all[i]?
theorem opAt_zero (o : Oper) (os : List Oper) : opAt (o :: os) 0 = some o := rfl
theorem opAt_succ (o : Oper) (os : List Oper) (n : Nat) : opAt (o :: os) (n + 1) = opAt os n := by simp [opAt]
def opK (o : Option Oper) (k : Oper → Prop) (_ : Tok k := .mk) : Prop := match o with | some o => k o | none => False
theorem opK_some (o : Oper) (k : Oper → Prop) : opK (some o) k = k o := rfl
def stepO (P : Program) (T : Tys) (all : List Oper) (o : Oper) (G : PHeap) (l : Fr) (H : Heap) (K : PHeap → Fr → Heap → Prop) (_ : Tok all := .mk) (_ : Tok o := .mk) (_ : Tok K := .mk) : Prop :=
 guardK all o.guard l (fun l' => stepF P T o.op G l' H fun v G' H' => K G' (put l' o.dst v) H') (fun l' => K G (put l' o.dst undef) H)
def wpD (P : Program) (T : Tys) (all : List Oper) (σ : List Nat) (G : PHeap) (l : Fr) (H : Heap) (K : PHeap → Fr → Heap → Prop) (_ : Tok all := .mk) (_ : Tok σ := .mk) (_ : Tok K := .mk) : Prop :=
 match σ with
 | [] => K G l H
 | i :: σ => opK (opAt all i) fun o => stepO P T all o G l H fun G' l' H' => wpD P T all σ G' l' H' K
section
variable (P : Program) (T : Tys) (all : List Oper) (d : Option Nat) (op : Op) (t : TypeId) (p : String) (af : Array Edge) (G : PHeap) (l : Fr) (H : Heap) (K : PHeap → Fr → Heap → Prop)
theorem wpD_nil : wpD P T all [] G l H K = K G l H := rfl
theorem wpD_cons (i : Nat) (σ : List Nat) : wpD P T all (i :: σ) G l H K = opK (opAt all i) fun o => stepO P T all o G l H fun G' l' H' => wpD P T all σ G' l' H' K := rfl
theorem stepO_plain : stepO P T all ⟨d, op, t, p, af, none⟩ G l H K = stepF P T op G l H fun v G' H' => K G' (put l d v) H' := rfl
theorem stepO_guard (g : Nat × Bool) : stepO P T all ⟨d, op, t, p, af, some g⟩ G l H K = guardK all (some g) l (fun l' => stepF P T op G l' H fun v G' H' => K G' (put l' d v) H') (fun l' => K G (put l' d undef) H) := rfl
end
theorem guardK_at {all : Array Oper} {o : Oper} {sz : Nat} {G : PHeap} {l : Fr} {H : Heap} {a : Act} {w : World} {yes no : Fr → Prop} (h : guardK all.toList o.guard l yes no) (hs : Sim E sz G l H a w) :
  ∃ l', Sim E sz G l' H a w ∧ ((Region.wanted o (yielded all a.tmps) = true ∧ yes l') ∨ (Region.wanted o (yielded all a.tmps) = false ∧ no l')) := by
 unfold guardK at h
 split at h
 ·rename_i hg
  exact ⟨l, hs, .inl ⟨by simp [Region.wanted, hg], h⟩⟩
 ·rename_i j want hg
  split at h
  ·exact h.elim
  ·rename_i t ht
   have hdst : (all[j]?).bind (·.dst) = some t := by
    simp only [dstAt, Array.getElem?_toList] at ht
    cases ho : all[j]? with
    | none => rw [ho] at ht; simp at ht
    | some o' => rw [ho] at ht; simpa using ht
   unfold withV at h
   split at h
   ·rename_i v hv
    have htv := hs.fr t v hv
    have hw : Region.wanted o (yielded all a.tmps) = gv v want := by
     unfold Region.wanted yielded
     simp only [hg, hdst, Option.bind_some]
     have htv' := htv
     rw [Array.getD_eq_getD_getElem?] at htv'
     cases hh : a.tmps[t]? with
     | none =>
      rw [hh] at htv'
      simp [undef] at htv'
      subst htv'
      rfl
     | some x =>
      rw [hh] at htv'
      simp at htv'
      subst htv'
      cases x <;> simp [gv]
    rw [hw]
    cases v <;> simp only [gK] at h <;> try exact h.elim
    case bool b =>
     rcases Bool.eq_false_or_eq_true (b == want) with hb | hb
     ·rw [hb, Br_true] at h
      have e : b = want := by simpa using hb
      subst e
      exact ⟨_, hs.know htv, .inl ⟨hb, h⟩⟩
     ·rw [hb, Br_false] at h
      have e : b = !want := by cases b <;> cases want <;> simp_all
      subst e
      exact ⟨_, hs.know htv, .inr ⟨hb, h⟩⟩
    case tuple vs => exact ⟨l, hs, .inr ⟨rfl, h⟩⟩
   ·exact h.elim
theorem wpD_sound {P : Program} {T : Tys} (hT : TyOk P T) {ops : Array Oper} {sz : Nat} {Q : Exit → Act → World → Prop} (hsel : Region.noSelect ops = true) (hlt : dstsLt sz ops.toList = true)
  (hQ : ∀ c a a' w, Q (.panic c) a w → Q (.panic c) a' w) :
  ∀ (σ : List Nat) (listed : Array Bool) {G : PHeap} {l : Fr} {H : Heap} {a : Act} {w : World} {K : PHeap → Fr → Heap → Prop},
  drawOk T ops σ listed = true → wpD P T ops.toList σ G l H K → Sim E sz G l H a w →
  (∀ G' l' H' a' w', PLe G G' → Sim E sz G' l' H' a' w' → K G' l' H' → Q .normal a' w') → ∀ fuel, σ.length ≤ fuel → wpAny P .any ops Q fuel listed a w
 | [], listed, G, l, H, a, w, K, hd, h, hs, hk, fuel, _ => by
  refine wpAny_done ?_ (hk G l H a w (PLe.refl _) hs h) fuel
  simpa [drawOk] using hd
 | i :: σ, listed, G, l, H, a, w, K, hd, h, hs, hk, fuel, hf => by
  obtain ⟨fuel, rfl⟩ : ∃ f, fuel = f + 1 := ⟨fuel - 1, by simp at hf; omega⟩
  simp only [drawOk, Bool.and_eq_true] at hd
  obtain ⟨hd1, hd2⟩ := hd
  simp only [wpD, opAt, opK, Array.getElem?_toList] at h
  cases ho : ops[i]? with
  | none => rw [ho] at h; exact h.elim
  | some o =>
   simp only [ho] at h hd1
   have hmem : o ∈ ops.toList := by
    have := Array.mem_of_getElem? ho
    simpa using this
   have hdo := dstsLt_spec hlt o hmem
   unfold stepO at h
   obtain ⟨l', hs', hcase⟩ := guardK_at h hs
   have hrest : ∀ {G' : PHeap} {l2 : Fr} {H' : Heap} {a2 : Act} {w2 : World}, PLe G G' → wpD P T ops.toList σ G' l2 H' K → Sim E sz G' l2 H' a2 w2 → wpAny P .any ops Q fuel (listed.setIfInBounds i true) a2 w2 := fun hle hwp hs2 =>
    wpD_sound hT hsel hlt hQ σ _ hd2 hwp hs2 (fun G3 l3 H3 a3 w3 hle3 hs3 hk3 => hk G3 l3 H3 a3 w3 (hle.trans hle3) hs3 hk3) fuel (by simp at hf; omega)
   by_cases hp : isPure T o.op = true
   ·rw [if_pos hp, Bool.and_eq_true] at hd1
    rcases hcase with ⟨hw, hy⟩ | ⟨hw, hn⟩
    ·obtain ⟨v, h1, h2⟩ := pure_runs hT hp hy hs'
     exact wpAny_take ho hsel hd1.2 hd1.1 (fun c a w hq => hQ c _ _ w hq) (v := v) (.inl ⟨hw, h2⟩) (hrest (PLe.refl _) h1 (hs'.put hs'.heap hdo))
    ·exact wpAny_take ho hsel hd1.2 hd1.1 (fun c a w hq => hQ c _ _ w hq) (v := undef) (.inr ⟨hw, rfl⟩) (hrest (PLe.refl _) hn (hs'.put hs'.heap hdo))
   ·rw [if_neg hp, decide_eq_true_eq] at hd1
    refine wpAny_all hd1 (by simp) fun j hj => ?_
    obtain rfl : j = i := by simpa using hj
    unfold wpOp
    simp only [ho]
    rcases hcase with ⟨hw, hy⟩ | ⟨hw, hn⟩
    ·rw [if_pos hw]
     exact .inl (stepF_sound hT hy hs' fun v G' H' w' hle hw' hk' => hrest hle hk' (hs'.put hw' hdo))
    ·rw [if_neg (by simp [hw])]
     exact hrest (PLe.refl _) hn (hs'.put hs'.heap hdo)
theorem Tri.draw {P : Program} {T : Tys} (hT : TyOk P T) (hm : P.follows .mixedOrders = true) {sz : Nat} (keep : List Nat) {id : Nat} {ops : List Oper} {G : PHeap} {l : Fr} {H : Heap} {K : Post} (σ : List Nat)
  (hok : (Region.noSelect ops.toArray && dstsLt sz ops && drawOk T ops.toArray σ (Array.replicate ops.toArray.size false) && decide (σ.length ≤ ops.toArray.size)) = true)
  (h : wpD P T ops σ G l H fun G' l' H' => K .normal G' (restrict keep l') H') : Tri P sz (.region id ops.toArray true) G l H K := by
 intro E a w Q hs hk
 simp only [Bool.and_eq_true, decide_eq_true_eq] at hok
 obtain ⟨⟨⟨h1, h2⟩, h3⟩, h4⟩ := hok
 -- what is asked of a panic is asked of none
 refine wp_mono (Q := fun e a w => match e with | .normal => Q .normal a w | _ => False) (wp_region_any hm ?_) (fun e a w hq => by cases e <;> first | exact hq | exact hq.elim)
 refine wpD_sound hT (ops := ops.toArray) h1 h2 (fun c a a' w hq => hq.elim) σ _ h3 h (w := { w with drawn := w.drawn + 1 }) ⟨hs.size, hs.defers, hs.fr, hs.heap.drew _⟩ ?_ _ h4
 intro G' l' H' a' w' hle hs' hk'
 exact hk E .normal G' _ H' a' w' (Env.le.refl E) hle (hs'.weak (look_restrict keep l')) hk'
attribute [go_sem] wpD_nil wpD_cons stepO_plain stepO_guard opK_some opAt_zero opAt_succ
end Go.V
namespace Go.V
variable {E : Env}
section any
variable {P : Program} {ops : Array Oper} {Q : Exit → Act → World → Prop} {md : Region.Mode} {S : World → Prop} {tail : Nat → Bool}
def wpAnyT (P : Program) (md : Region.Mode) (ops : Array Oper) (Q : Exit → Act → World → Prop) (S : World → Prop) (tail : Nat → Bool) : Nat → Array Bool → Act → World → Prop
 | 0, listed, a, w => Region.ready md ops listed = [] ∧ Q .normal a w
 | fuel + 1, listed, a, w =>
  (Region.ready md ops listed = [] → Q .normal a w) ∧
  ∀ i ∈ Region.ready md ops listed, wpOp P ops Q i (fun a' w' => (tail i = true ∨ (S w → S w')) ∧ wpAnyT P md ops Q S tail fuel (listed.setIfInBounds i true) a' w') a w
theorem wpAny_of_T : ∀ (fuel : Nat) (listed : Array Bool) (a : Act) (w : World), wpAnyT P md ops Q S tail fuel listed a w → wpAny P md ops Q fuel listed a w
 | 0, _, _, _, h => h
 | fuel + 1, _, _, _, h => ⟨h.1, fun i hi => wpOp_mono (fun a' w' h' => wpAny_of_T fuel _ a' w' h'.2) (h.2 i hi)⟩
theorem wpAnyT_first {i : Nat} {oi : Oper} {v : Value} (any : Bool) (hi : ops[i]? = some oi) (hsel : ∀ (j : Nat) (o : Oper) cs b, ops[j]? = some o → o.op ≠ .select cs b)
  (hQ : ∀ c a w, Q (.panic c) (a.put oi.dst v) w → Q (.panic c) a w)
  (htail : any = false → ∀ (listed : Array Bool) j, listed.getD i false = false → j ∈ Region.ready md ops listed → tail j = false) :
  ∀ (fuel : Nat) (listed : Array Bool) (a : Act) (w : World),
   (∀ j oj, ops[j]? = some oj → j ≠ i → listed.getD j true = false → (∀ e ∈ oj.after, Region.binds md e = true → e.on ≠ i) → oi.apart ops oj = true) →
   i ∈ Region.ready md ops listed → YieldsIf P ops (fun w => any = true ∨ S w) oi v a → (any = true ∨ S w) →
   wpAnyT P md ops Q S tail fuel (listed.setIfInBounds i true) (a.put oi.dst v) w → wpAnyT P md ops Q S tail (fuel + 1) listed a w := by
 intro fuel
 induction fuel with
 | zero =>
  intro listed a w _ hr hy hS H
  refine ⟨fun h => (by rw [h] at hr; cases hr), fun j hj => ?_⟩
  by_cases hji : j = i
  ·subst hji; exact hy.wpOp hi hS ⟨.inr id, H⟩
  ·have := ready_mono hj hji
   rw [H.1] at this
   cases this
 | succ fuel ih =>
  intro listed a w hfree hr hy hS H
  refine ⟨fun h => (by rw [h] at hr; cases hr), fun j hj => ?_⟩
  by_cases hji : j = i
  ·subst hji; exact hy.wpOp hi hS ⟨.inr id, H⟩
  ·have h1 := H.2 j (ready_mono hj hji)
   obtain ⟨hjun, oj, hoj, hall⟩ := mem_ready.1 hj
   have hiun := (mem_ready.1 hr).1
   have hiun' : listed.getD i false = false := by
    rcases Nat.lt_or_ge i listed.size with h' | h'
    ·simp [h'] at hiun ⊢; exact hiun
    ·simp [Array.getElem?_eq_none h']
   have hnot : ∀ e ∈ oj.after, Region.binds md e = true → e.on ≠ i := fun e he hb heq => by
    have h1 := hall e he hb
    rw [heq, hiun'] at h1
    cases h1
   have h2 := wpOp_putIf hoj (hfree j oj hoj hji hjun hnot) (fun cs b => hsel i oi cs b hi) (fun cs b => hsel j oj cs b hoj) hQ hy h1
   have hfree' : ∀ k ok, ops[k]? = some ok → k ≠ i → (listed.setIfInBounds j true).getD k true = false →
     (∀ e ∈ ok.after, Region.binds md e = true → e.on ≠ i) → oi.apart ops ok = true := fun k ok hk hki hun hno => by
    refine hfree k ok hk hki ?_ hno
    by_cases hjk : j = k
    ·subst hjk; exact hjun
    ·rw [getD_set_ne true hjk] at hun; exact hun
   refine wpOp_mono (fun a' w' h3 => ?_) h2
   obtain ⟨h3a, h3b, h3c⟩ := h3
   have hSj : any = true ∨ S w' := by
    cases hany : any with
    | true => exact .inl rfl
    | false =>
     have htj := htail hany listed j hiun' hj
     rcases h3b with h | h
     ·rw [htj] at h; cases h
     ·exact .inr (h (hS.resolve_left (by simp [hany])))
   refine ⟨h3b, ?_⟩
   refine ih (listed.setIfInBounds j true) a' w' hfree' (ready_mono hr (Ne.symm hji)) h3a hSj ?_
   rw [Array.setIfInBounds_comm _ _ hji]; exact h3c
theorem wpAnyT_take {i : Nat} {oi : Oper} {v : Value} {fuel : Nat} {listed : Array Bool} {a : Act} {w : World} (any : Bool) (hi : ops[i]? = some oi)
  (hs : Region.noSelect ops = true) (hf : Region.free md ops listed i = true) (hr : (Region.ready md ops listed).contains i = true)
  (hQ : ∀ c a w, Q (.panic c) (a.put oi.dst v) w → Q (.panic c) a w) (htail : any = false → ∀ (listed : Array Bool) j, listed.getD i false = false → j ∈ Region.ready md ops listed → tail j = false)
  (hy : YieldsIf P ops (fun w => any = true ∨ S w) oi v a) (hS : any = true ∨ S w)
  (h : wpAnyT P md ops Q S tail fuel (listed.setIfInBounds i true) (a.put oi.dst v) w) : wpAnyT P md ops Q S tail (fuel + 1) listed a w :=
 wpAnyT_first any hi (Region.noSelect_spec hs) hQ htail fuel listed a w (Region.free_spec hi hf) (by simpa using hr) hy hS h
theorem wpAnyT_all {rs : List Nat} {fuel : Nat} {listed : Array Bool} {a : Act} {w : World} (hr : ∀ i ∈ Region.ready md ops listed, i ∈ rs) (hne : Region.ready md ops listed ≠ [])
  (h : ∀ i ∈ rs, wpOp P ops Q i (fun a' w' => (tail i = true ∨ (S w → S w')) ∧ wpAnyT P md ops Q S tail fuel (listed.setIfInBounds i true) a' w') a w) : wpAnyT P md ops Q S tail (fuel + 1) listed a w :=
 ⟨fun h0 => absurd h0 hne, fun i hi => h i (hr i hi)⟩
theorem wpAnyT_done {listed : Array Bool} {a : Act} {w : World} (hr : Region.ready md ops listed = []) (h : Q .normal a w) : ∀ fuel, wpAnyT P md ops Q S tail fuel listed a w
 | 0 => ⟨hr, h⟩
 | _ + 1 => ⟨fun _ => h, by rw [hr]; simp⟩
end any
inductive DT where
 | nil
 | op (i : Nat) (t : DT)
 | both (s t : DT)
def DT.heads : DT → List Nat
 | .nil => []
 | .op i _ => [i]
 | .both s t => s.heads ++ t.heads
def DT.depth : DT → Nat
 | .nil => 0
 | .op _ t => t.depth + 1
 | .both s t => max (max s.depth t.depth) 1
def tailB (ops : Array Oper) (L : List Nat) (j : Nat) : Bool :=
 !L.isEmpty && L.all fun i => match ops[j]? with | some o => o.after.any fun e => Region.binds .any e && e.on == i | none => false
def isLoad : Op → Bool
 | .load .. => true
 | _ => false
def firstB (T : Tys) (ops : Array Oper) (L : List Nat) (i : Nat) : Bool :=
 match ops[i]? with
 | some o => isPure T o.op || (isLoad o.op && L.contains i)
 | none => false
def DT.ok (T : Tys) (ops : Array Oper) (L : List Nat) : DT → Bool → Array Bool → Bool
 | .nil, _, listed => (Region.ready .any ops listed).isEmpty
 | .op i t, seen, listed => (if firstB T ops L i && !seen then (Region.ready .any ops listed).contains i && Region.free .any ops listed i
   else (ops[i]?).isSome && (seen || ((Region.ready .any ops listed).all fun j => j == i) && !(Region.ready .any ops listed).isEmpty)) && t.ok T ops L false (listed.setIfInBounds i true)
 | .both s t, seen, listed => (seen || ((Region.ready .any ops listed).all fun j => (s.heads ++ t.heads).contains j) && !(Region.ready .any ops listed).isEmpty) && s.ok T ops L true listed && t.ok T ops L true listed
def subK (Hs H : Heap) (k : Prop) (_ : Tok k := .mk) : Prop := (∀ p ∈ Hs, p ∈ H) ∧ k
def loadS (T : Tys) (Gs : PHeap) (Hs : Heap) (op : Op) (l : Fr) (k : Value → Prop) (_ : Tok k := .mk) : Prop :=
 match op with
 | .load t x => withV (ev l x) fun v => opLoad T Gs Hs t v k
 | _ => False
def wpT (P : Program) (T : Tys) (all : List Oper) (L : List Nat) (Gs : PHeap) (Hs : Heap) (t : DT) (G : PHeap) (l : Fr) (H : Heap) (K : PHeap → Fr → Heap → Prop) (_ : Tok all := .mk) (_ : Tok t := .mk) (_ : Tok K := .mk) : Prop :=
 match t with
 | .nil => K G l H
 | .both s t => wpT P T all L Gs Hs s G l H K ∧ wpT P T all L Gs Hs t G l H K
 | .op i t => opK (opAt all i) fun o =>
   if isLoad o.op && L.contains i then guardK all o.guard l (fun l' => loadS T Gs Hs o.op l' fun v => wpT P T all L Gs Hs t G (put l' o.dst v) H K) (fun l' => wpT P T all L Gs Hs t G (put l' o.dst undef) H K)
   else stepO P T all o G l H fun G' l' H' => if isPure T o.op || tailB all.toArray L i then wpT P T all L Gs Hs t G' l' H' K else subK Hs H' (wpT P T all L Gs Hs t G' l' H' K)
theorem tailB_ready {ops : Array Oper} {L : List Nat} {i j : Nat} (hi : i ∈ L) {listed : Array Bool} (hl : listed.getD i false = false) (hj : j ∈ Region.ready .any ops listed) : tailB ops L j = false := by
 cases ht : tailB ops L j with
 | false => rfl
 | true =>
  exfalso
  simp only [tailB, Bool.and_eq_true, List.all_eq_true] at ht
  have h1 := ht.2 i hi
  obtain ⟨_, o, ho, hall⟩ := mem_ready.1 hj
  simp only [ho] at h1
  obtain ⟨e, he, hb⟩ := Array.any_eq_true'.1 h1
  simp only [Bool.and_eq_true, beq_iff_eq] at hb
  have := hall e he hb.1
  rw [hb.2, hl] at this
  cases this
theorem loadS_val {P : Program} {T : Tys} (hT : TyOk P T) {Gs : PHeap} {Hs : Heap} {o : Oper} {sz : Nat} {G : PHeap} {l : Fr} {H : Heap} {a : Act} {w0 : World} {k : Value → Prop}
  (h : loadS T Gs Hs o.op l k) (hs : Sim E sz G l H a w0) : ∃ v, k v ∧ ∀ {E : Env} w, HeapOk E Gs Hs w → (execOp a.eval o).run P w = .ok (.value v) w := by
 obtain ⟨dst, op, ty, pos, after, guard⟩ := o
 cases op <;> simp only [loadS] at h
 case load t x =>
  have h1 := withV_ev hs h
  obtain ⟨v, h2, h3⟩ := runS_reads (P := P) (G := Gs) (Instr.loadAt t (a.eval x)) (H := Hs) (k := fun v _ => k v) (opLoad_sound hT h1)
  refine ⟨v, h2, fun w hw => ?_⟩
  show ((do pure (.value (← Instr.loadAt t (a.eval x))) : Sem Next)).run P w = _
  rw [Sem.run_bind, h3 w hw]
  rfl
theorem subK_ok {Gs G' : PHeap} {Hs H' : Heap} {w w' : World} (hle : PLe Gs G') (hw : HeapOk E Gs Hs w) (hw' : HeapOk E G' H' w') (hsub : ∀ p ∈ Hs, p ∈ H') : HeapOk E Gs Hs w' :=
 ⟨hw'.env, fun b o hb => hw'.pers b o (hle b o hb), fun p hp => hw'.own p (hsub p hp), hw.sep, hw'.dfr.1, fun D hD => ⟨(hw'.dfr.2 D hD).1, (hw.dfr.2 D hD).2⟩⟩
section sound
variable {P : Program} {T : Tys} {ops : Array Oper} {sz : Nat} {Q : Exit → Act → World → Prop} {L : List Nat} {Gs : PHeap} {Hs : Heap}
theorem wpT_carry (hT : TyOk P T) (hlt : dstsLt sz ops.toList = true) {i : Nat} {t : DT} {G : PHeap} {l : Fr} {H : Heap} {a : Act} {w : World} {K : PHeap → Fr → Heap → Prop} (hle0 : PLe Gs G)
  (hnf : isLoad (ops[i]?.getD default).op = true → L.contains i = true → HeapOk E Gs Hs w)
  (h : wpT P T ops.toList L Gs Hs (.op i t) G l H K) (hs : Sim E sz G l H a w) {fuel : Nat} {listed' : Array Bool}
  (hrest : ∀ G' l' H' a' w', PLe G G' → Sim E sz G' l' H' a' w' → (HeapOk E Gs Hs w → tailB ops L i = false → HeapOk E Gs Hs w') → wpT P T ops.toList L Gs Hs t G' l' H' K → wpAnyT P .any ops Q (HeapOk E Gs Hs) (tailB ops L) fuel listed' a' w') :
  wpOp P ops Q i (fun a' w' => (tailB ops L i = true ∨ (HeapOk E Gs Hs w → HeapOk E Gs Hs w')) ∧ wpAnyT P .any ops Q (HeapOk E Gs Hs) (tailB ops L) fuel listed' a' w') a w := by
 simp only [wpT, opAt, opK, Array.getElem?_toList] at h
 cases ho : ops[i]? with
 | none => rw [ho] at h; exact h.elim
 | some o =>
  simp only [ho] at h
  have hmem : o ∈ ops.toList := by have := Array.mem_of_getElem? ho; simpa using this
  have hdo := dstsLt_spec hlt o hmem
  unfold wpOp
  simp only [ho]
  split at h
  ·rename_i hc
   simp only [Bool.and_eq_true] at hc
   have hSw : HeapOk E Gs Hs w := hnf (by rw [ho]; exact hc.1) hc.2
   obtain ⟨l', hs', hcase⟩ := guardK_at h hs
   rcases hcase with ⟨hw, hy⟩ | ⟨hw, hn⟩
   ·rw [if_pos hw]
    obtain ⟨v, h1, h2⟩ := loadS_val hT hy hs'
    refine .inl ?_
    unfold Oper.wp
    rw [h2 w hSw]
    exact ⟨.inr id, hrest _ _ _ _ _ (PLe.refl _) (hs'.put hs'.heap hdo) (fun h _ => h) h1⟩
   ·rw [if_neg (by simp [hw])]
    exact ⟨.inr id, hrest _ _ _ _ _ (PLe.refl _) (hs'.put hs'.heap hdo) (fun h _ => h) hn⟩
  ·unfold stepO at h
   obtain ⟨l', hs', hcase⟩ := guardK_at h hs
   have fin : ∀ {G' : PHeap} {l2 : Fr} {H' : Heap} {a' : Act} {w' : World}, PLe G G' → Sim E sz G' l2 H' a' w' → (isPure T o.op = true → HeapOk E Gs Hs w → HeapOk E Gs Hs w') →
     (if (isPure T o.op || tailB ops L i) = true then wpT P T ops.toList L Gs Hs t G' l2 H' K else subK Hs H' (wpT P T ops.toList L Gs Hs t G' l2 H' K)) →
     (tailB ops L i = true ∨ (HeapOk E Gs Hs w → HeapOk E Gs Hs w')) ∧ wpAnyT P .any ops Q (HeapOk E Gs Hs) (tailB ops L) fuel listed' a' w' := fun hle hs2 hpu hh => by
    split at hh
    ·rename_i hp
     cases htl : tailB ops L i with
     | true => exact ⟨.inl rfl, hrest _ _ _ _ _ hle hs2 (fun _ h => by rw [htl] at h; cases h) hh⟩
     | false =>
      have hp' : isPure T o.op = true := by simpa [htl] using hp
      exact ⟨.inr (hpu hp'), hrest _ _ _ _ _ hle hs2 (fun h _ => hpu hp' h) hh⟩
    ·obtain ⟨hsub, hh⟩ := hh
     have hkeep : HeapOk E Gs Hs w → HeapOk E Gs Hs _ := fun h => subK_ok (hle0.trans hle) h hs2.heap hsub
     exact ⟨.inr hkeep, hrest _ _ _ _ _ hle hs2 (fun h _ => hkeep h) hh⟩
   rcases hcase with ⟨hw, hy⟩ | ⟨hw, hn⟩
   ·rw [if_pos hw]
    refine .inl ?_
    by_cases hp : isPure T o.op = true
    ·obtain ⟨v, h1, h2⟩ := pure_runs hT hp hy hs'
     unfold Oper.wp
     rw [h2 w]
     exact fin (PLe.refl _) (hs'.put hs'.heap hdo) (fun _ h => h) h1
    ·exact stepF_sound hT hy hs' fun v G' H' w' hle hw' hk' => fin hle (hs'.put hw' hdo) (fun h => absurd h hp) hk'
   ·rw [if_neg (by simp [hw])]
    exact fin (PLe.refl _) (hs'.put hs'.heap hdo) (fun _ h => h) hn
theorem wpT_sound (hT : TyOk P T) (hsel : Region.noSelect ops = true) (hlt : dstsLt sz ops.toList = true) (hQ : ∀ c a a' w, Q (.panic c) a w → Q (.panic c) a' w) {K : PHeap → Fr → Heap → Prop} :
  ∀ (t : DT) (listed : Array Bool) {G : PHeap} {l : Fr} {H : Heap} {a : Act} {w : World} (fuel : Nat), PLe Gs G → Sim E sz G l H a w → wpT P T ops.toList L Gs Hs t G l H K →
  (HeapOk E Gs Hs w ∨ ∀ i ∈ L, listed.getD i false = true) →
  (∀ G' l' H' a' w', PLe G G' → Sim E sz G' l' H' a' w' → K G' l' H' → Q .normal a' w') →
  (t.ok T ops L false listed = true → t.depth ≤ fuel → wpAnyT P .any ops Q (HeapOk E Gs Hs) (tailB ops L) fuel listed a w) ∧
  (t.ok T ops L true listed = true → t.depth ≤ fuel + 1 → ∀ i ∈ t.heads, i ∈ Region.ready .any ops listed → wpOp P ops Q i (fun a' w' => (tailB ops L i = true ∨ (HeapOk E Gs Hs w → HeapOk E Gs Hs w')) ∧ wpAnyT P .any ops Q (HeapOk E Gs Hs) (tailB ops L) fuel (listed.setIfInBounds i true) a' w') a w) := by
 intro t
 induction t with
 | nil =>
  intro listed G l H a w fuel hle hs h hS hk
  refine ⟨fun hok _ => wpAnyT_done (by simpa [DT.ok] using hok) (hk G l H a w (PLe.refl _) hs h) fuel, fun _ _ i hi => by cases hi⟩
 | op i t ih =>
  intro listed G l H a w fuel hle hs h hS hk
  have carry : ∀ fuel, i ∈ Region.ready .any ops listed → t.ok T ops L false (listed.setIfInBounds i true) = true → t.depth ≤ fuel →
    wpOp P ops Q i (fun a' w' => (tailB ops L i = true ∨ (HeapOk E Gs Hs w → HeapOk E Gs Hs w')) ∧ wpAnyT P .any ops Q (HeapOk E Gs Hs) (tailB ops L) fuel (listed.setIfInBounds i true) a' w') a w := fun fuel hr hok hf => by
   refine wpT_carry hT hlt hle ?_ h hs ?_
   ·intro _ hL
    rcases hS with hS | hS
    ·exact hS
    ·exfalso
     have h1 := (mem_ready.1 hr).1
     have h2 := hS i (by simpa using hL)
     rcases Nat.lt_or_ge i listed.size with h' | h'
     ·simp [h'] at h1 h2; rw [h1] at h2; cases h2
     ·simp [Array.getElem?_eq_none h'] at h1
   ·intro G' l' H' a' w' hle' hs' hkeep hwp
    refine (ih (listed.setIfInBounds i true) fuel (hle.trans hle') hs' hwp ?_ (fun G2 l2 H2 a2 w2 hle2 hs2 hk2 => hk G2 l2 H2 a2 w2 (hle'.trans hle2) hs2 hk2)).1 hok hf
    have hall : (∀ j ∈ L, listed.getD j false = true) → ∀ j ∈ L, (listed.setIfInBounds i true).getD j false = true := fun h j hj => getD_set_true (h j hj)
    rcases hS with hS | hS
    ·cases htl : tailB ops L i with
     | false => exact .inl (hkeep hS htl)
     | true =>
      refine .inr (hall fun j hj => ?_)
      cases hg : listed.getD j false with
      | true => rfl
      | false => have := tailB_ready hj hg hr; rw [htl] at this; cases this
    ·exact .inr (hall hS)
  refine ⟨fun hok hf => ?_, fun hok hf j hj hr => ?_⟩
  ·obtain ⟨fuel, rfl⟩ : ∃ f, fuel = f + 1 := ⟨fuel - 1, by simp only [DT.depth] at hf; omega⟩
   simp only [DT.depth] at hf
   simp only [DT.ok, Bool.and_eq_true] at hok
   obtain ⟨hok1, hok2⟩ := hok
   by_cases hfirst : firstB T ops L i = true
   ·rw [if_pos (by simp [hfirst]), Bool.and_eq_true] at hok1
    have hr : i ∈ Region.ready .any ops listed := by simpa using hok1.1
    simp only [wpT, opAt, opK, Array.getElem?_toList] at h
    unfold firstB at hfirst
    cases ho : ops[i]? with
    | none => rw [ho] at h; exact h.elim
    | some o =>
     simp only [ho] at h hfirst
     have hmem : o ∈ ops.toList := by have := Array.mem_of_getElem? ho; simpa using this
     have hdo := dstsLt_spec hlt o hmem
     have next : ∀ {l' : Fr} {v : Value}, Sim E sz G (put l' o.dst v) H (a.put o.dst v) w → wpT P T ops.toList L Gs Hs t G (put l' o.dst v) H K → wpAnyT P .any ops Q (HeapOk E Gs Hs) (tailB ops L) fuel (listed.setIfInBounds i true) (a.put o.dst v) w := fun hs2 hwp =>
      (ih (listed.setIfInBounds i true) fuel hle hs2 hwp (match hS with | .inl hS => .inl hS | .inr hS => .inr fun j hj => getD_set_true (hS j hj)) hk).1 hok2 (by omega)
     have hunl : HeapOk E Gs Hs w ∨ L.contains i = false := by
      rcases hS with hS | hS
      ·exact .inl hS
      ·refine .inr ?_
       cases hc : L.contains i with
       | false => rfl
       | true =>
        exfalso
        have h1 := (mem_ready.1 hr).1
        have h2 := hS i (by simpa using hc)
        rcases Nat.lt_or_ge i listed.size with h' | h'
        ·simp [h'] at h1 h2; rw [h1] at h2; cases h2
        ·simp [Array.getElem?_eq_none h'] at h1
     by_cases hl : (isLoad o.op && L.contains i) = true
     ·rw [if_pos hl] at h
      simp only [Bool.and_eq_true] at hl
      have hSw : HeapOk E Gs Hs w := hunl.resolve_right (by rw [hl.2]; simp)
      obtain ⟨l', hs', hcase⟩ := guardK_at h hs
      have htail : false = false → ∀ (listed : Array Bool) j, listed.getD i false = false → j ∈ Region.ready .any ops listed → tailB ops L j = false := fun _ listed j h1 h2 => tailB_ready (by simpa using hl.2) h1 h2
      rcases hcase with ⟨hw, hy⟩ | ⟨hw, hn⟩
      ·obtain ⟨v, h1, h2⟩ := loadS_val hT hy hs'
       exact wpAnyT_take false ho hsel hok1.2 hok1.1 (fun c a w hq => hQ c _ _ w hq) htail (v := v) (.inl ⟨hw, fun w hw => h2 w (hw.resolve_left (by simp))⟩) (.inr hSw) (next (hs'.put hs'.heap hdo) h1)
      ·exact wpAnyT_take false ho hsel hok1.2 hok1.1 (fun c a w hq => hQ c _ _ w hq) htail (v := undef) (.inr ⟨hw, rfl⟩) (.inr hSw) (next (hs'.put hs'.heap hdo) hn)
     ·rw [if_neg hl] at h
      have hp : isPure T o.op = true := by
       simp only [Bool.or_eq_true] at hfirst
       exact hfirst.resolve_right hl
      unfold stepO at h
      obtain ⟨l', hs', hcase⟩ := guardK_at h hs
      rcases hcase with ⟨hw, hy⟩ | ⟨hw, hn⟩
      ·obtain ⟨v, h1, h2⟩ := pure_runs hT hp hy hs'
       rw [if_pos (by simp [hp])] at h1
       exact wpAnyT_take true ho hsel hok1.2 hok1.1 (fun c a w hq => hQ c _ _ w hq) (fun h => by cases h) (v := v) (.inl ⟨hw, fun w _ => h2 w⟩) (.inl rfl) (next (hs'.put hs'.heap hdo) h1)
      ·rw [if_pos (by simp [hp])] at hn
       exact wpAnyT_take true ho hsel hok1.2 hok1.1 (fun c a w hq => hQ c _ _ w hq) (fun h => by cases h) (v := undef) (.inr ⟨hw, rfl⟩) (.inl rfl) (next (hs'.put hs'.heap hdo) hn)
   ·rw [if_neg (by simp [hfirst])] at hok1
    simp only [Bool.false_or, Bool.and_eq_true] at hok1
    have hne : Region.ready .any ops listed ≠ [] := by
     have := hok1.2.2
     simpa using this
    have hall : ∀ j ∈ Region.ready .any ops listed, j = i := by
     have := hok1.2.1
     simpa using this
    refine wpAnyT_all (rs := [i]) (fun j hj => by simp [hall j hj]) hne fun j hj => ?_
    obtain rfl : j = i := by simpa using hj
    refine carry fuel ?_ hok2 (by omega)
    obtain ⟨x, hx⟩ := List.exists_mem_of_ne_nil _ hne
    rw [← hall x hx]; exact hx
  ·simp only [DT.heads, List.mem_singleton] at hj
   subst hj
   simp only [DT.depth] at hf
   simp only [DT.ok, Bool.and_eq_true] at hok
   exact carry fuel hr hok.2 (by omega)
 | both s t ihs iht =>
  intro listed G l H a w fuel hle hs h hS hk
  simp only [wpT] at h
  have B : ∀ fuel, s.ok T ops L true listed = true → t.ok T ops L true listed = true → max s.depth t.depth ≤ fuel + 1 → ∀ i ∈ s.heads ++ t.heads, i ∈ Region.ready .any ops listed → wpOp P ops Q i (fun a' w' => (tailB ops L i = true ∨ (HeapOk E Gs Hs w → HeapOk E Gs Hs w')) ∧ wpAnyT P .any ops Q (HeapOk E Gs Hs) (tailB ops L) fuel (listed.setIfInBounds i true) a' w') a w := fun fuel h1 h2 hf i hi hr => by
   rcases List.mem_append.1 hi with hi | hi
   ·exact (ihs listed fuel hle hs h.1 hS hk).2 h1 (by omega) i hi hr
   ·exact (iht listed fuel hle hs h.2 hS hk).2 h2 (by omega) i hi hr
  refine ⟨fun hok hf => ?_, fun hok hf i hi hr => ?_⟩
  ·simp only [DT.ok, Bool.false_or, Bool.and_eq_true] at hok
   have hne : Region.ready .any ops listed ≠ [] := by
    have := hok.1.1.2
    simpa using this
   have hall : ∀ j ∈ Region.ready .any ops listed, j ∈ s.heads ++ t.heads := by
    have := hok.1.1.1
    simpa using this
   cases fuel with
   | zero =>
    exfalso
    obtain ⟨x, hx⟩ := List.exists_mem_of_ne_nil _ hne
    have hx' := hall x hx
    simp only [DT.depth] at hf
    rcases List.mem_append.1 hx' with hx' | hx'
    ·cases s with
     | nil => cases hx'
     | op i s => simp only [DT.depth] at hf; omega
     | both s1 s2 => simp only [DT.depth] at hf; omega
    ·cases t with
     | nil => cases hx'
     | op i s => simp only [DT.depth] at hf; omega
     | both s1 s2 => simp only [DT.depth] at hf; omega
   | succ fuel =>
    simp only [DT.depth] at hf
    refine wpAnyT_all (rs := Region.ready .any ops listed) (fun j hj => hj) hne fun i hi => B fuel hok.1.2 hok.2 (by omega) i (hall i hi) hi
  ·simp only [DT.ok, Bool.true_or, Bool.true_and, Bool.and_eq_true] at hok
   simp only [DT.depth] at hf
   exact B fuel hok.1 hok.2 (by omega) i hi hr
end sound
theorem Tri.drawT {P : Program} {T : Tys} (hT : TyOk P T) (hm : P.follows .mixedOrders = true) {sz : Nat} (keep : List Nat) (id : Nat) {ops : List Oper} {G : PHeap} {l : Fr} {H : Heap} {K : Post} (L : List Nat) (t : DT)
  (hok : (Region.noSelect ops.toArray && dstsLt sz ops && t.ok T ops.toArray L false (Array.replicate ops.toArray.size false) && decide (t.depth ≤ ops.toArray.size)) = true)
  (Hs : Heap) (hsub : ∀ {E : Env} {w : World}, HeapOk E G H w → HeapOk E G Hs w)
  (h : wpT P T ops L G Hs t G l H fun G' l' H' => K .normal G' (restrict keep l') H') : Tri P sz (.region id ops.toArray true) G l H K := by
 intro E a w Q hs hk
 simp only [Bool.and_eq_true, decide_eq_true_eq] at hok
 obtain ⟨⟨⟨h1, h2⟩, h3⟩, h4⟩ := hok
 refine wp_mono (Q := fun e a w => match e with | .normal => Q .normal a w | _ => False) (wp_region_any hm (wpAny_of_T (S := HeapOk E G Hs) (tail := tailB ops.toArray L) _ _ _ _ ?_)) (fun e a w hq => by cases e <;> first | exact hq | exact hq.elim)
 have hs1 : Sim E sz G l H a { w with drawn := w.drawn + 1 } := ⟨hs.size, hs.defers, hs.fr, hs.heap.drew _⟩
 refine (wpT_sound hT (ops := ops.toArray) h1 h2 (fun c a a' w hq => hq.elim) t _ _ (PLe.refl _) hs1 h (.inl (hsub hs1.heap)) ?_).1 h3 h4
 intro G' l' H' a' w' hle hs' hk'
 exact hk E .normal G' _ H' a' w' (Env.le.refl E) hle (hs'.weak (look_restrict keep l')) hk'
inductive DO where
 | plain | held | keeps
inductive DM where
 | nil
 | op (i : Nat) (m : DO) (t : DM)
 | both (s t : DM)
def DM.bare : DM → DT
 | .nil => .nil
 | .op i _ t => .op i t.bare
 | .both s t => .both s.bare t.bare
def DM.fits (T : Tys) (ops : Array Oper) (L : List Nat) : DM → Bool
 | .nil => true
 | .both s t => s.fits T ops L && t.fits T ops L
 | .op i m t => t.fits T ops L && match ops[i]? with
  | none => false
  | some o => match m with
   | .held => isLoad o.op && L.contains i
   | .plain => !(isLoad o.op && L.contains i) && (isPure T o.op || tailB ops L i)
   | .keeps => !(isLoad o.op && L.contains i) && !(isPure T o.op || tailB ops L i)
def wpM (P : Program) (T : Tys) (all : List Oper) (Gs : PHeap) (Hs : Heap) (t : DM) (G : PHeap) (l : Fr) (H : Heap) (K : PHeap → Fr → Heap → Prop) (_ : Tok all := .mk) (_ : Tok t := .mk) (_ : Tok K := .mk) : Prop :=
 match t with
 | .nil => K G l H
 | .both s t => wpM P T all Gs Hs s G l H K ∧ wpM P T all Gs Hs t G l H K
 | .op i .plain t => opK (opAt all i) fun o => stepO P T all o G l H fun G' l' H' => wpM P T all Gs Hs t G' l' H' K
 | .op i .held t => opK (opAt all i) fun o => guardK all o.guard l (fun l' => loadS T Gs Hs o.op l' fun v => wpM P T all Gs Hs t G (put l' o.dst v) H K) (fun l' => wpM P T all Gs Hs t G (put l' o.dst undef) H K)
 | .op i .keeps t => opK (opAt all i) fun o => stepO P T all o G l H fun G' l' H' => subK Hs H' (wpM P T all Gs Hs t G' l' H' K)
theorem wpM_eq {P : Program} {T : Tys} {ops : Array Oper} {L : List Nat} {Gs : PHeap} {Hs : Heap} {K : PHeap → Fr → Heap → Prop} : ∀ (t : DM), t.fits T ops L = true → ∀ (G : PHeap) (l : Fr) (H : Heap),
  wpM P T ops.toList Gs Hs t G l H K = wpT P T ops.toList L Gs Hs t.bare G l H K := by
 intro t
 induction t with
 | nil => intro _ G l H; rfl
 | both s t ihs iht =>
  intro h G l H
  simp only [DM.fits, Bool.and_eq_true] at h
  simp only [wpM, DM.bare, wpT, ihs h.1, iht h.2]
 | op i m t ih =>
  intro h G l H
  simp only [DM.fits, Bool.and_eq_true] at h
  have ih' := ih h.1
  have e : (fun G' l' H' => wpM P T ops.toList Gs Hs t G' l' H' K) = (fun G' l' H' => wpT P T ops.toList L Gs Hs t.bare G' l' H' K) := by
   funext G' l' H'; exact ih' G' l' H'
  have h2 := h.2
  simp only [DM.bare, wpT, opAt, opK, Array.getElem?_toList]
  cases ho : ops[i]? with
  | none => rw [ho] at h2; cases h2
  | some o =>
   rw [ho] at h2
   cases m with
   | held =>
    simp only [] at h2
    simp only [wpM, opAt, opK, Array.getElem?_toList, ho, h2, if_true]
    have e1 : ∀ l', (fun v => wpM P T ops.toList Gs Hs t G (put l' o.dst v) H K) = (fun v => wpT P T ops.toList L Gs Hs t.bare G (put l' o.dst v) H K) := fun l' => by funext v; exact ih' _ _ _
    have e2 : (fun l' => wpM P T ops.toList Gs Hs t G (put l' o.dst undef) H K) = (fun l' => wpT P T ops.toList L Gs Hs t.bare G (put l' o.dst undef) H K) := by funext l'; exact ih' _ _ _
    have e3 : (fun l' => loadS T Gs Hs o.op l' fun v => wpM P T ops.toList Gs Hs t G (put l' o.dst v) H K) = (fun l' => loadS T Gs Hs o.op l' fun v => wpT P T ops.toList L Gs Hs t.bare G (put l' o.dst v) H K) := by
     funext l'; rw [e1 l']
    rw [e3, e2]
   | plain =>
    simp only [Bool.and_eq_true, Bool.not_eq_true'] at h2
    simp only [wpM, opAt, opK, Array.getElem?_toList, ho, h2.1]
    have e5 : (fun G' l' H' => if (isPure T o.op || tailB ops.toList.toArray L i) = true then wpT P T ops.toList L Gs Hs t.bare G' l' H' K else subK Hs H' (wpT P T ops.toList L Gs Hs t.bare G' l' H' K)) = (fun G' l' H' => wpT P T ops.toList L Gs Hs t.bare G' l' H' K) := by
     funext G' l' H'
     have h3 := h2.2
     rw [if_pos h3]
    rw [if_neg (by decide), e, ← e5]
   | keeps =>
    simp only [Bool.and_eq_true, Bool.not_eq_true'] at h2
    simp only [wpM, opAt, opK, Array.getElem?_toList, ho, h2.1, h2.2, Bool.false_eq_true, if_false]
    have e4 : (fun G' l' H' => subK Hs H' (wpM P T ops.toList Gs Hs t G' l' H' K)) = (fun G' l' H' => subK Hs H' (wpT P T ops.toList L Gs Hs t.bare G' l' H' K)) := by
     funext G' l' H'; rw [ih' G' l' H']
    have e5 : (fun G' l' H' => if (isPure T o.op || tailB ops.toList.toArray L i) = true then wpT P T ops.toList L Gs Hs t.bare G' l' H' K else subK Hs H' (wpT P T ops.toList L Gs Hs t.bare G' l' H' K)) = (fun G' l' H' => subK Hs H' (wpT P T ops.toList L Gs Hs t.bare G' l' H' K)) := by
     funext G' l' H'
     have h3 := h2.2
     rw [if_neg (show ¬ (isPure T o.op || tailB ops.toList.toArray L i) = true by rw [show ops.toList.toArray = ops from rfl, h3]; decide)]
    rw [e4, ← e5]
def drawB (T : Tys) (sz : Nat) (ops : List Oper) (L : List Nat) (t : DM) : Bool :=
 Region.noSelect ops.toArray && dstsLt sz ops && t.bare.ok T ops.toArray L false (Array.replicate ops.toArray.size false) && decide (t.bare.depth ≤ ops.toArray.size) && t.fits T ops.toArray L
theorem Tri.drawG {P : Program} {T : Tys} (hT : TyOk P T) (hm : P.follows .mixedOrders = true) {sz : Nat} (keep : List Nat) (id : Nat) {ops : List Oper} {G : PHeap} {l : Fr} {H : Heap} {K : Post} (L : List Nat) (t : DM)
  (hok : drawB T sz ops L t = true) (Hs : Heap) (hsub : ∀ {E : Env} {w : World}, HeapOk E G H w → HeapOk E G Hs w)
  (h : wpM P T ops G Hs t G l H fun G' l' H' => K .normal G' (restrict keep l') H') : Tri P sz (.region id ops.toArray true) G l H K := by
 simp only [drawB, Bool.and_eq_true] at hok
 refine Tri.drawT hT hm keep id L t.bare ?_ Hs hsub ?_
 ·simp only [Bool.and_eq_true]; exact hok.1
 ·have := wpM_eq (P := P) (T := T) (ops := ops.toArray) (L := L) (Gs := G) (Hs := Hs) (K := fun G' l' H' => K .normal G' (restrict keep l') H') t hok.2 G l H
  rw [← this]; exact h
theorem Tri.drawM {P : Program} {T : Tys} (hT : TyOk P T) (hm : P.follows .mixedOrders = true) {sz : Nat} (keep : List Nat) (id : Nat) {ops : List Oper} {G : PHeap} {l : Fr} {H : Heap} {K : Post} (L : List Nat) (t : DM)
  (hok : drawB T sz ops L t = true) (Hs : Heap) (hsub : Hs.Sublist H)
  (h : wpM P T ops G Hs t G l H fun G' l' H' => K .normal G' (restrict keep l') H') : Tri P sz (.region id ops.toArray true) G l H K :=
 Tri.drawG hT hm keep id L t hok Hs (fun h => h.sub hsub) h
def heldH (l : Fr) : List Nat → Heap → Heap
 | [], _ => []
 | t :: ts, H => match look l t with
  | some (.pointer (some ⟨b, _, none⟩)) => match findH H b with
   | some r => (b, r) :: heldH l ts (eraseH H b)
   | none => heldH l ts H
  | _ => heldH l ts H
theorem setH_same' {H : Heap} {b : Nat} {r : Res} (hf : findH H b = some r) : setH H b r = H := by
 induction H with
 | nil => rfl
 | cons p H ih =>
  obtain ⟨k, s⟩ := p
  simp only [findH] at hf
  simp only [setH]
  split at hf
  ·rename_i hk; rw [if_pos hk]; cases hf; rfl
  ·rename_i hk; rw [if_neg hk, ih hf]
theorem heldH_perm (l : Fr) : ∀ (ts : List Nat) (H : Heap), ∃ r, H.Perm (heldH l ts H ++ r)
 | [], H => ⟨H, List.Perm.refl _⟩
 | t :: ts, H => by
  simp only [heldH]
  split
  ·rename_i b o hv
   split
   ·rename_i r hr
    obtain ⟨rest, h2⟩ := heldH_perm l ts (eraseH H b)
    have h1 := setH_perm (r' := r) hr
    rw [setH_same' hr] at h1
    exact ⟨rest, h1.trans (h2.cons _)⟩
   ·exact heldH_perm l ts H
  ·exact heldH_perm l ts H
theorem Tri.drawH {P : Program} {T : Tys} (hT : TyOk P T) (hm : P.follows .mixedOrders = true) {sz : Nat} (keep : List Nat) (id : Nat) {ops : List Oper} {G : PHeap} {l : Fr} {H : Heap} {K : Post} (L : List Nat) (t : DM)
  (hok : drawB T sz ops L t = true) (ts : List Nat)
  (h : wpM P T ops G (heldH l ts H) t G l H fun G' l' H' => K .normal G' (restrict keep l') H') : Tri P sz (.region id ops.toArray true) G l H K :=
 Tri.drawG hT hm keep id L t hok (heldH l ts H) (fun h => by
  obtain ⟨r, hr⟩ := heldH_perm l ts H
  exact (h.perm hr).sub (List.sublist_append_left _ _)) h
def heldF (l : Fr) (ts : List Nat) (H : Heap) (b : Nat) : Option Res → Heap
 | some r => (b, r) :: heldH l ts (eraseH H b)
 | none => heldH l ts H
def heldV (l : Fr) (ts : List Nat) (H : Heap) : Option Value → Heap
 | some (.pointer (some ⟨b, _, none⟩)) => heldF l ts H b (findH H b)
 | _ => heldH l ts H
theorem heldH_nil (l : Fr) (H : Heap) : heldH l [] H = [] := rfl
theorem heldH_cons (l : Fr) (t : Nat) (ts : List Nat) (H : Heap) : heldH l (t :: ts) H = heldV l ts H (look l t) := by
 simp only [heldH, heldV, heldF]
theorem heldV_ptr (l : Fr) (ts : List Nat) (H : Heap) (b o : Nat) : heldV l ts H (some (.pointer (some ⟨b, o, none⟩))) = heldF l ts H b (findH H b) := rfl
theorem heldF_some (l : Fr) (ts : List Nat) (H : Heap) (b : Nat) (r : Res) : heldF l ts H b (some r) = (b, r) :: heldH l ts (eraseH H b) := rfl
theorem heldF_none (l : Fr) (ts : List Nat) (H : Heap) (b : Nat) : heldF l ts H b none = heldH l ts H := rfl
theorem findH_nil (b : Nat) : findH [] b = none := rfl
section
variable (P : Program) (T : Tys) (all : List Oper) (Gs : PHeap) (Hs : Heap) (s t : DM) (i : Nat) (G : PHeap) (l : Fr) (H : Heap) (K : PHeap → Fr → Heap → Prop)
theorem wpM_nil : wpM P T all Gs Hs .nil G l H K = K G l H := rfl
theorem wpM_both : wpM P T all Gs Hs (.both s t) G l H K = (wpM P T all Gs Hs s G l H K ∧ wpM P T all Gs Hs t G l H K) := rfl
theorem wpM_plain : wpM P T all Gs Hs (.op i .plain t) G l H K = opK (opAt all i) fun o => stepO P T all o G l H fun G' l' H' => wpM P T all Gs Hs t G' l' H' K := rfl
def heldK (o : Oper) (all : List Oper) (l : Fr) (yes : Op → Option Nat → Fr → Prop) (no : Option Nat → Fr → Prop) (_ : Tok all := .mk) (_ : Tok yes := .mk) (_ : Tok no := .mk) : Prop :=
 guardK all o.guard l (fun l' => yes o.op o.dst l') (fun l' => no o.dst l')
theorem wpM_held : wpM P T all Gs Hs (.op i .held t) G l H K = opK (opAt all i) fun o => heldK o all l (fun op d l' => loadS T Gs Hs op l' fun v => wpM P T all Gs Hs t G (put l' d v) H K) (fun d l' => wpM P T all Gs Hs t G (put l' d undef) H K) := rfl
theorem heldK_plain (d : Option Nat) (op : Op) (ty : TypeId) (p : String) (af : Array Edge) (yes : Op → Option Nat → Fr → Prop) (no : Option Nat → Fr → Prop) : heldK ⟨d, op, ty, p, af, none⟩ all l yes no = yes op d l := rfl
theorem heldK_guard (d : Option Nat) (op : Op) (ty : TypeId) (p : String) (af : Array Edge) (g : Nat × Bool) (yes : Op → Option Nat → Fr → Prop) (no : Option Nat → Fr → Prop) : heldK ⟨d, op, ty, p, af, some g⟩ all l yes no = guardK all (some g) l (fun l' => yes op d l') (fun l' => no d l') := rfl
theorem wpM_keeps : wpM P T all Gs Hs (.op i .keeps t) G l H K = opK (opAt all i) fun o => stepO P T all o G l H fun G' l' H' => subK Hs H' (wpM P T all Gs Hs t G' l' H' K) := rfl
theorem loadS_load (ty : TypeId) (x : Operand) (k : Value → Prop) : loadS T Gs Hs (.load ty x) l k = withV (ev l x) fun v => opLoad T Gs Hs ty v k := rfl
theorem subK_nil (k : Prop) : subK [] H k = k := by simp [subK]
theorem subK_same (k : Prop) : subK H H k = k := by simp [subK]
theorem subK_cons (p : Nat × Res) (k : Prop) : subK H (p :: H) k = k := by
 unfold subK; simp only [eq_iff_iff, and_iff_right_iff_imp]; exact fun _ q hq => List.mem_cons_of_mem _ hq
end
theorem subK_mem (p : Nat × Res) (Hs H : Heap) (k : Prop) (h : p ∈ H) : subK (p :: Hs) H k = subK Hs H k := by
 unfold subK; simp only [List.mem_cons, forall_eq_or_imp, h, true_and]
attribute [go_sem] heldH_nil heldH_cons heldV_ptr heldF_some heldF_none findH_nil subK_mem
attribute [go_sem] wpM_nil wpM_both wpM_plain wpM_held heldK_plain heldK_guard wpM_keeps loadS_load subK_nil subK_same subK_cons
end Go.V
namespace Go.V
def Upd (G : PHeap) (H : Heap) (k : PHeap → Heap → Prop) (_ : Tok k := .mk) : Prop :=
 ∀ ⦃E : Env⦄ (w : World), HeapOk E G H w → ∃ G' H', PLe G G' ∧ HeapOk E G' H' w ∧ k G' H'
theorem Upd.now {G : PHeap} {H : Heap} {k : PHeap → Heap → Prop} (h : k G H) : Upd G H k := fun E w hw => ⟨G, H, PLe.refl _, hw, h⟩
theorem Upd.trans {G : PHeap} {H : Heap} {k : PHeap → Heap → Prop} (h : Upd G H fun G' H' => Upd G' H' k) : Upd G H k := fun E w hw => by
 obtain ⟨G', H', h1, h2, h3⟩ := h w hw
 obtain ⟨G2, H2, g1, g2, g3⟩ := h3 w h2
 exact ⟨G2, H2, h1.trans g1, g2, g3⟩
theorem Upd.mono {G : PHeap} {H : Heap} {k k' : PHeap → Heap → Prop} (h : Upd G H k) (hk : ∀ G' H', k G' H' → k' G' H') : Upd G H k' := fun E w hw => by
 obtain ⟨G', H', h1, h2, h3⟩ := h w hw
 exact ⟨G', H', h1, h2, hk _ _ h3⟩
theorem Upd.sub {G : PHeap} {H H' : Heap} {k : PHeap → Heap → Prop} (hs : H'.Sublist H) (h : k G H') : Upd G H k := fun E w hw => ⟨G, H', PLe.refl _, hw.sub hs, h⟩
def UpdR (R : Value → PHeap → Heap → Prop) (v : Value) (G : PHeap) (H : Heap) : Prop := Upd G H fun G' H' => R v G' H'
theorem Upd.fin {G : PHeap} {H : Heap} {R : Value → PHeap → Heap → Prop} {v v' : Value} (h : R v G H) (e : v' = v) : UpdR R v' G H := Upd.now (e ▸ h)
theorem Upd.perm {G : PHeap} {H H' : Heap} {k : PHeap → Heap → Prop} (hs : H.Perm H') (h : Upd G H' k) : Upd G H k := fun E w hw => h w (hw.perm hs)
def RowAt (G : PHeap) (b off : Nat) (vs : List Value) : Prop := ∃ cs e fr, G b = some (.cells cs e fr) ∧ off + vs.length ≤ cs.size ∧ (cs.toList.drop off).take vs.length = vs
theorem RowAt.mono {G G' : PHeap} (hle : PLe G G') {b off : Nat} {vs : List Value} (h : RowAt G b off vs) : RowAt G' b off vs := by
 obtain ⟨cs, e, fr, h1, h2, h3⟩ := h
 exact ⟨cs, e, fr, hle _ _ h1, h2, h3⟩
theorem RowAt.obj {G : PHeap} {b off : Nat} {vs : List Value} (h : RowAt G b off vs) {i : Nat} (hi : i < vs.length) (H : Heap) (k : Value → Prop) : objK G H b (G b) (off + i) k = k vs[i] := by
 obtain ⟨cs, e, fr, h1, h2, h3⟩ := h
 have : cs[off + i]? = some vs[i] := by
  have e1 : ((cs.toList.drop off).take vs.length)[i]? = some vs[i] := by rw [h3]; exact List.getElem?_eq_getElem hi
  rw [List.getElem?_take_of_lt hi, List.getElem?_drop, Array.getElem?_toList] at e1
  exact e1
 rw [h1]
 simp only [objK, this]; rfl
theorem RowAt.obj0 {G : PHeap} {b : Nat} {vs : List Value} (h : RowAt G b 0 vs) {i : Nat} (hi : i < vs.length) (H : Heap) (k : Value → Prop) : objK G H b (G b) i k = k vs[i] := by
 have := h.obj hi H k
 rwa [Nat.zero_add] at this
theorem RowAt.objs {G : PHeap} {b off : Nat} {vs : List Value} (h : RowAt G b off vs) {i n : Nat} (hi : i + n ≤ vs.length) (H : Heap) (k : List Value → Prop) : objsK G H b (G b) (off + i) n k = k ((vs.drop i).take n) := by
 obtain ⟨cs, e, fr, h1, h2, h3⟩ := h
 rw [h1]
 simp only [objsK]
 rw [Ob_of (by omega)]
 congr 1
 rw [← h3, List.drop_take, List.take_take, List.drop_drop]
 congr 1; omega
def addG (G : PHeap) (b : Nat) (o : Obj) : PHeap := fun c => if c = b then some o else G c
theorem addG_same (G : PHeap) (b : Nat) (o : Obj) : addG G b o b = some o := by simp [addG]
theorem addG_ne {G : PHeap} {b c : Nat} (h : c ≠ b) (o : Obj) : addG G b o c = G c := by simp [addG, h]
theorem Upd.share {G : PHeap} {H : Heap} {b : Nat} {xs sp : List Value} {e : TypeId} {k : PHeap → Heap → Prop}
  (h : ∀ fr : Nat × Nat, Sep (addG G b (.cells (xs ++ sp).toArray e fr)) (keys H) → k (addG G b (.cells (xs ++ sp).toArray e fr)) H) : Upd G ((b, .cells xs sp e) :: H) k := fun E w hw => by
 obtain ⟨o, ho, fr, rfl, _⟩ := hw.own _ (List.mem_cons_self ..)
 have hsep := sep_iff.1 hw.sep
 simp only [keys, List.map_cons, List.mem_cons, forall_eq_or_imp, List.nodup_cons] at hsep
 have hs' : Sep (addG G b (.cells (xs ++ sp).toArray e fr)) (keys H) := by
  refine sep_iff.2 ⟨fun c hc => ?_, hsep.2.2⟩
  rw [addG_ne (fun e => hsep.2.1 (by subst e; exact hc))]
  exact hsep.1.2 c hc
 refine ⟨_, H, fun c o hc => ?_, ⟨hw.env, fun c o hc => ?_, fun p hp => hw.own p (List.mem_cons_of_mem _ hp), hs', hw.dfr.1, fun D hD => ⟨(hw.dfr.2 D hD).1, by have hDb : D ≠ b := (fun e => by rw [show w.heap[(b, Res.cells xs sp _).fst]? = w.heap[D]? by rw [e], (hw.dfr.2 _ hD).1] at ho; cases ho); rw [addG_ne hDb]; exact (hw.dfr.2 D hD).2⟩⟩, h fr hs'⟩
 ·rw [addG_ne (fun e => by subst e; rw [hsep.1.1] at hc; cases hc)]; exact hc
 ·unfold addG at hc
  split at hc
  ·rename_i e; subst e; cases hc; exact ho
  ·exact hw.pers c o hc
theorem FnT.upd {P : Program} {f : FuncId} {args : List Value} {G : PHeap} {H : Heap} {R : Value → PHeap → Heap → Prop} (h : FnT P f args G H fun v G' H' => Upd G' H' fun G2 H2 => R v G2 H2) : FnT P f args G H R :=
 fun _ w hw => (h w hw).mono fun v w' ⟨G', H', h1, h2, h3⟩ => by
  obtain ⟨G2, H2, g1, g2, g3⟩ := h3 w' h2
  exact ⟨G2, H2, h1.trans g1, g2, g3⟩
theorem FnT.pre {P : Program} {f : FuncId} {args : List Value} {G : PHeap} {H : Heap} {R : Value → PHeap → Heap → Prop} (hc : Callee P f) (h : Upd G H fun G' H' => FnT P f args G' H' R) : FnT P f args G H R :=
 fun _ w hw => by
  obtain ⟨G1, H1, h1, h2, h3⟩ := h w hw
  exact (h3 w h2).mono fun _ _ ⟨G', H', g1, g2, g3⟩ => ⟨G', H', h1.trans g1, g2, g3⟩
theorem Tri.upd {P : Program} {sz : Nat} {c : Code} {G : PHeap} {l : Fr} {H : Heap} {K : Post} (h : Upd G H fun G' H' => Tri P sz c G' l H' K) : Tri P sz c G l H K := fun E a w Q hs hk => by
 obtain ⟨G', H', h1, h2, h3⟩ := h w hs.heap
 exact h3 a w Q ⟨hs.size, hs.defers, hs.fr, h2⟩ fun E2 e G2 l2 H2 a2 w2 hE hle hs2 hk2 => hk E2 e G2 l2 H2 a2 w2 hE (h1.trans hle) hs2 hk2
theorem Tri.run {P : Program} {T : Tys} (hT : TyOk P T) {sz : Nat} (keep : List Nat) {c : Code} {G : PHeap} {l : Fr} {H : Heap} {K : Post} (hlt : codeLt sz c = true) (h : wpC P T sz keep c G l H K) : Tri P sz c G l H K :=
 fun E a w Q hs hk => wpC_sound hT c hlt h a w Q hs hk
theorem Tri.cut {P : Program} {sz : Nat} {x y : Code} {G : PHeap} {l : Fr} {H : Heap} {K : Post} (M : PHeap → Fr → Heap → Prop) (h1 : Tri P sz x G l H (thenK M K .mk .mk))
  (h2 : ∀ G' l' H', PLe G G' → Sep G' (keys H') → M G' l' H' → Tri P sz y G' l' H' K) : Tri P sz (.seq x y) G l H K := by
 intro E a w Q hs hk
 refine wp_seq (h1 a w _ hs fun E' e G' l' H' a' w' hE hle hs' hk' => ?_)
 cases e with
 | normal => exact h2 G' l' H' hle hs'.heap.sep hk' a' w' Q hs' fun E2 e G2 l2 H2 a2 w2 hE2 hle2 hs2 hk2 => hk E2 e G2 l2 H2 a2 w2 (hE.trans hE2) (hle.trans hle2) hs2 hk2
 | exit id => exact hk E' (.exit id) G' l' H' a' w' hE hle hs' hk'
 | ret => exact hk E' .ret G' l' H' a' w' hE hle hs' hk'
theorem Tri.block {P : Program} {sz : Nat} {id : Nat} {c : Code} {G : PHeap} {l : Fr} {H : Heap} {K : Post} (h : Tri P sz c G l H (blockK id K .mk)) : Tri P sz (.block id c) G l H K := by
 intro E a w Q hs hk
 refine wp_block (h a w _ hs fun E' e G' l' H' a' w' hE hle hs' hk' => ?_)
 cases e with
 | normal => exact hk E' .normal G' l' H' a' w' hE hle hs' hk'
 | exit id' =>
  simp only [blockK] at hk'
  simp only [XE.to, Exit.inBlock]
  split
  ·rename_i e; rw [if_pos e] at hk'; exact hk E' .normal G' l' H' a' w' hE hle hs' hk'
  ·rename_i e; rw [if_neg e] at hk'; exact hk E' (.exit id') G' l' H' a' w' hE hle hs' hk'
 | ret => exact hk E' .ret G' l' H' a' w' hE hle hs' hk'
theorem Tri.loopU {P : Program} {T : Tys} (hT : TyOk P T) {sz : Nat} (keep : List Nat) {c : Code} {G : PHeap} {l : Fr} {H : Heap} {K : Post} (hlt : codeLt sz c = true) (live : List Nat)
  (I : Nat → PHeap → Fr → Heap → Prop) (n : Nat) (h0 : Upd G H fun G' H' => I n G' (restrict live l) H')
  (round : ∀ n G' l' H', PLe G G' → Sep G' (keys H') → I n G' l' H' → wpC P T sz keep c G' l' H' (thenK (fun G'' l'' H'' => Upd G'' H'' fun G0 H0 => ∃ m, m < n ∧ I m G0 (restrict live l'') H0) K .mk .mk)) :
  Tri P sz (.loop c) G l H K := by
 intro E a w Q hs hk
 obtain ⟨G1, H1, g1, g2, g3⟩ := h0 w hs.heap
 refine wp_loopN (fun n a w => ∃ E' G' l' H', Env.le E E' ∧ PLe G G' ∧ Sim E' sz G' l' H' a w ∧ I n G' l' H') ?_ n a w ⟨E, G1, _, H1, Env.le.refl E, g1, ⟨hs.size, hs.defers, (hs.weak (look_restrict live l)).fr, g2⟩, g3⟩
 rintro n a w ⟨E', G', l', H', hE, hle, hs', hI⟩
 refine wpC_sound hT c hlt (round n G' l' H' hle hs'.heap.sep hI) a w _ hs' fun E2 e G2 l2 H2 a2 w2 hE2 hle2 hs2 hk2 => ?_
 cases e with
 | normal =>
  obtain ⟨G3, H3, q1, q2, m, hm, hI2⟩ := hk2 w2 hs2.heap
  exact ⟨m, hm, E2, G3, _, H3, hE.trans hE2, (hle.trans hle2).trans q1, ⟨hs2.size, hs2.defers, (hs2.weak (look_restrict live l2)).fr, q2⟩, hI2⟩
 | exit id => exact hk E2 (.exit id) G2 l2 H2 a2 w2 (hE.trans hE2) (hle.trans hle2) hs2 hk2
 | ret => exact hk E2 .ret G2 l2 H2 a2 w2 (hE.trans hE2) (hle.trans hle2) hs2 hk2
theorem FnT.body {P : Program} {T : Tys} (hT : TyOk P T) {f : FuncId} {fn : Func} {c : Code} (keep : List Nat) (hf : P.funcs[f]? = some fn) (hb : fn.body = some c) (hn : (fn.name == "runtime.NumGoroutine") = false)
  {args : List Value} {G : PHeap} {H : Heap} {R : Value → PHeap → Heap → Prop} (hlt : codeLt fn.ntmps c = true) (hargs : args.length ≤ fn.ntmps)
  (h : Sep G (keys H) → wpC P T fn.ntmps keep c G (argsFr 0 args) H (endK T fn.results.toList (UpdR R) .mk)) : FnT P f args G H R :=
 FnT.upd (FnT.of hT keep hf hb hn hlt hargs h)
structure Kept (w w' : World) : Prop where
 kept : w.keptBut w' (fun _ => False)
 frozen : ∀ a : Addr, a.block < w.heap.size → w'.frozen? a = w.frozen? a
 old : ∀ b : Nat, b < w.heap.size → w'.heap[b]? = w.heap[b]?
theorem calls_of {P : Program} {f : FuncId} {args : List Value} {R : Value → Prop} (w : World) (hc : Callee P f)
  (h : FnT P f args (fun b => w.heap[b]?) [] fun v _ _ => R v) : Calls P f args.toArray w fun e w' => ∃ v, e = .returned v ∧ R v ∧ Kept w w' := by
 have hw : HeapOk ⟨w.os, w.output, [], []⟩ (fun b => w.heap[b]?) [] w := ⟨⟨rfl, rfl⟩, fun b o hb => hb, fun p hp => (by cases hp), trivial, by simp, by simp⟩
 refine (h.calls hc hw).mono ?_
 rintro e w' ⟨v, G', H', rfl, hle, hok, hr⟩
 have hold : ∀ b : Nat, b < w.heap.size → w'.heap[b]? = w.heap[b]? := fun b hb => by
  rw [Array.getElem?_eq_getElem hb]
  exact hok.pers b _ (hle b _ (Array.getElem?_eq_getElem hb))
 refine ⟨v, rfl, hr, ⟨hok.env.1, hok.env.2, fun i hi => ?_⟩, fun a ha => ?_, hold⟩
 ·rw [hold i hi, Array.getElem?_eq_getElem hi]
  cases w.heap[i] <;> simp
 ·unfold World.frozen?
  rw [hold a.block ha]
end Go.V
namespace Go.V
open Go.ChangeShapes Go.WideShapes
variable {H : Type} {enc : TypeId × Value → H} {P : Program}
theorem post_of_kept {f : Func} {s : ChangeSpec} {apart fresh handsOn again : Bool} {W W' : World} {args : Array Value} {v : Value} {ds gs : List (DataW H)} {before pa pv : List MemPlace}
  (hW : DataW.Whole enc P f.params.toList s.vars apart W args.toList ds gs before)
  (hres : ∀ (b : Nat) (sp : Nat → Bool) (hd : Bool), DataW.TrodAll enc P W' b sp hd f.resultTypes.toList (v.resultList f.resultTypes.size) (s.fn H (ds ++ gs)).results [])
  (hargs : ∀ sp : Nat → Bool, (∀ p ∈ before, sp p.block = true) → DataW.TrodAll enc P W' 0 sp true f.params.toList args.toList (s.fn H (ds ++ gs)).args pa)
  (hvars : ∀ sp : Nat → Bool, (∀ p ∈ before, sp p.block = true) → DataW.TrodVars enc P W' sp s.vars (s.fn H (ds ++ gs)).vars pv)
  (hps : before = pa ++ pv) (hk : Kept W W')
  (hok : ∀ (j : Nat) (t : TypeId) (r : Value), f.resultTypes[j]? = some t → (v.resultList f.resultTypes.size)[j]? = some r → Value.okWide P W' .any 0 t r) :
  s.post enc P f apart fresh handsOn again W args v W' := by
 have hlt := hW.lt
 have hold : ∀ p ∈ before, (fun b => decide (b < W.heap.size)) p.block = true := fun p hp => by simpa using hlt p hp
 refine ⟨ds, gs, before, [], pa, pv, hW, hres _ _ _, hargs _ hold, hvars _ hold, World.keptBut_mono (fun p hp => False.elim hp) hk.kept, fun _ => ?_⟩
 obtain ⟨_, _, _, _, _, hz, hn⟩ := hW
 refine ⟨hok, _, _, ([] ++ pa) ++ pv, ⟨[] ++ pa, pv, trodAll_append (hargs _ (fun _ _ => rfl)) (hres _ _ _), hvars _ (fun _ _ => rfl), rfl, ?_, ?_⟩, ?_⟩
 ·intro b off hp
  have hp' : MemPlace.cell b off ∈ before := by rw [hps]; simpa using hp
  rw [hk.frozen _ (hlt _ hp')]
  exact hz b off hp'
 ·intro ha
  have := hn ha
  rw [hps] at this
  simpa using this
 ·intro p hp _
  rw [hps]
  simpa using hp
end Go.V
