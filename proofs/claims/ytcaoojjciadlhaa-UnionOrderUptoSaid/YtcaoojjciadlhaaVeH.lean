/-
  The verification layer, part eight: regions, code, loops, functions.
-/
import Derived.Test.YtcaoojjciadlhaaVeG
set_option linter.unusedSimpArgs false
set_option linter.unusedVariables false
namespace Go.V
variable {E : Env}

/-! ## a region in the order of the text -/

def isUndef (v : Value) : Bool := match v with | .tuple _ => true | _ => false

def gK (v : Value) (t : Nat) (want : Bool) (l : Fr) (yes no : Fr → Prop) (_ : Tok yes := .mk) (_ : Tok no := .mk) : Prop :=
  match v with
  | .bool b => Br (b == want) (yes ((t, .bool want) :: l)) (no ((t, .bool (!want)) :: l))
  | .tuple _ => no l
  | _ => False
/-- where the operation with this number leaves its value -/
def dstAt (ops : List Oper) (j : Nat) : Option (Option Nat) := (ops[j]?).map (·.dst)
def gv (v : Value) (want : Bool) : Bool := match v with | .bool b => b == want | _ => false

/-- a guard: is the operation wanted? -/
def guardK (all : List Oper) (g : Option (Nat × Bool)) (l : Fr) (yes no : Fr → Prop) (_ : Tok yes := .mk) (_ : Tok no := .mk) : Prop :=
  match g with
  | none => yes l
  | some (j, want) => match (dstAt all j).join with
    | none => False
    | some t => withV (look l t) fun v => gK v t want l yes no

def wpO (P : Program) (T : Tys) (all : List Oper) (os : List Oper) (G : PHeap) (l : Fr) (H : Heap) (K : PHeap → Fr → Heap → Prop) (_ : Tok all := .mk) (_ : Tok os := .mk) (_ : Tok K := .mk) : Prop :=
  match os with
  | [] => K G l H
  | o :: rest => guardK all o.guard l
      (fun l' => stepF P T o.op G l' H fun v G' H' => wpO P T all rest G' (put l' o.dst v) H' K)
      (fun l' => wpO P T all rest G (put l' o.dst undef) H K)

def dstsLt (sz : Nat) (ops : List Oper) : Bool := ops.all fun o => match o.dst with | some d => decide (d < sz) | none => true

theorem Sim.know {sz : Nat} {G : PHeap} {l : Fr} {H : Heap} {a : Act} {w : World} (h : Sim E sz G l H a w) {t : Nat} {v : Value} (hv : a.tmps.getD t undef = v) : Sim E sz G ((t, v) :: l) H a w :=
  ⟨h.size, h.defers, fun u x hx => by
    simp only [look] at hx
    split at hx
    · rename_i e; subst e; cases hx; exact hv
    · exact h.fr u x hx, h.heap⟩

theorem wpO_sound {P : Program} {T : Tys} (hT : TyOk P T) {ops : Array Oper} {sz : Nat} {Q : Exit → Act → World → Prop} : ∀ (rest : List Oper) {G : PHeap} {l : Fr} {H : Heap} {a : Act} {w : World} {K : PHeap → Fr → Heap → Prop},
    (∀ o ∈ rest, ∀ d, o.dst = some d → d < sz) → wpO P T ops.toList rest G l H K → Sim E sz G l H a w →
    (∀ G' l' H' a' w', PLe G G' → Sim E sz G' l' H' a' w' → K G' l' H' → Q .normal a' w') → wpList P ops Q rest a w
  | [], G, l, H, a, w, K, _, h, hs, hk => hk G l H a w (PLe.refl _) hs h
  | o :: rest, G, l, H, a, w, K, hd, h, hs, hk => by
    have hd' : ∀ o ∈ rest, ∀ d, o.dst = some d → d < sz := fun o ho => hd o (List.mem_cons_of_mem _ ho)
    have hdo := hd o (List.mem_cons_self ..)
    simp only [wpO] at h
    unfold wpList
    have yes : ∀ l', Sim E sz G l' H a w → (stepF P T o.op G l' H fun v G' H' => wpO P T ops.toList rest G' (put l' o.dst v) H' K) → o.wp P a w (wpList P ops Q rest) Q := fun l' hs' h' =>
      stepF_sound hT h' hs' fun v G' H' w' hle hw' hwp => wpO_sound hT rest hd' hwp (hs'.put hw' hdo) fun G2 l2 H2 a2 w2 hle2 hs2 hk2 => hk G2 l2 H2 a2 w2 (hle.trans hle2) hs2 hk2
    have no : ∀ l', Sim E sz G l' H a w → wpO P T ops.toList rest G (put l' o.dst undef) H K → wpList P ops Q rest (a.put o.dst undef) w := fun l' hs' h' =>
      wpO_sound hT rest hd' h' (hs'.put hs'.heap hdo) hk
    unfold guardK at h
    split at h
    · rename_i hg
      rw [if_pos (by simp [Region.wanted, hg])]
      exact .inl (yes l hs h)
    · rename_i j want hg
      split at h
      · exact h.elim
      · rename_i t ht
        have hdst : (ops[j]?).bind (·.dst) = some t := by
          simp only [dstAt, Array.getElem?_toList] at ht
          cases ho : ops[j]? with
          | none => rw [ho] at ht; simp at ht
          | some o' => rw [ho] at ht; simpa using ht
        unfold withV at h
        split at h
        · rename_i v hv
          have htv := hs.fr t v hv
          have hw : Region.wanted o (yielded ops a.tmps) = gv v want := by
            unfold Region.wanted yielded
            simp only [hg, hdst, Option.bind_some]
            rw [Array.getD_eq_getD_getElem?] at htv
            cases hh : a.tmps[t]? with
            | none =>
              rw [hh] at htv
              simp [undef] at htv
              subst htv
              rfl
            | some x =>
              rw [hh] at htv
              simp at htv
              subst htv
              cases x <;> simp [gv]
          rw [hw]
          cases v <;> simp only [gK] at h <;> try exact h.elim
          case bool b =>
            rcases Bool.eq_false_or_eq_true (b == want) with hb | hb
            · rw [if_pos (show gv (.bool b) want = true from hb)]
              rw [hb, Br_true] at h
              have e : b = want := by simpa using hb
              subst e
              exact .inl (yes _ (hs.know htv) h)
            · rw [if_neg (show ¬ gv (.bool b) want = true by rw [show gv (.bool b) want = false from hb]; simp)]
              rw [hb, Br_false] at h
              have e : b = !want := by cases b <;> cases want <;> simp_all
              subst e
              exact no _ (hs.know htv) h
          case tuple vs =>
            rw [if_neg (show ¬ gv (.tuple vs) want = true by simp [gv])]
            exact no _ hs h
        · exact h.elim

/-! ## code -/

inductive XE where
  | normal | exit (id : Nat) | ret
def XE.to : XE → Exit
  | .normal => .normal
  | .exit id => .exit id
  | .ret => .ret

abbrev Post := XE → PHeap → Fr → Heap → Prop

/-- a piece of code does this, from such states -/
def Tri (P : Program) (sz : Nat) (c : Code) (G : PHeap) (l : Fr) (H : Heap) (K : Post) (_ : Tok c := .mk) (_ : Tok K := .mk) : Prop :=
  ∀ ⦃E : Env⦄ (a : Act) (w : World) (Q : Exit → Act → World → Prop), Sim E sz G l H a w →
    (∀ e G' l' H' a' w', PLe G G' → Sim E sz G' l' H' a' w' → K e G' l' H' → Q e.to a' w') → c.wp P Q a w


def thenK (k : PHeap → Fr → Heap → Prop) (K : Post) (_ : Tok k) (_ : Tok K) (e : XE) (G : PHeap) (l : Fr) (H : Heap) : Prop := match e with | .normal => k G l H | e => K e G l H
def blockK (id : Nat) (K : Post) (_ : Tok K) (e : XE) (G : PHeap) (l : Fr) (H : Heap) : Prop := match e with | .exit id' => if id' = id then K .normal G l H else K (.exit id') G l H | e => K e G l H

def condK (v : Value) (x y : Prop) (_ : Tok x := .mk) (_ : Tok y := .mk) : Prop := match v with | .bool b => Br b x y | _ => False

def wpC (P : Program) (T : Tys) (sz : Nat) (keep : List Nat) (c : Code) (G : PHeap) (l : Fr) (H : Heap) (K : Post) (_ : Tok c := .mk) (_ : Tok K := .mk) : Prop :=
  match c with
  | .skip => K .normal G l H
  | .region id ops true => Tri P sz (.region id ops true) G l H K
  | .region id ops false => wpO P T ops.toList ops.toList G l H fun G' l' H' => K .normal G' (restrict keep l') H'
  | .seq x y => wpC P T sz keep x G l H (thenK (fun G' l' H' => wpC P T sz keep y G' l' H' K) K .mk .mk)
  | .cond c x y => withV (ev l c) fun v => condK v (wpC P T sz keep x G l H K) (wpC P T sz keep y G l H K)
  | .block id c => wpC P T sz keep c G l H (blockK id K .mk)
  | .exit id => K (.exit id) G l H
  | .label _ => K .normal G l H
  | .ret => K .ret G l H
  | .loop c => Tri P sz (.loop c) G l H K
  | .scope c => wpC P T sz keep c G l H K
  | .rangeFunc f ps as c => Tri P sz (.rangeFunc f ps as c) G l H K
  | .goto _ => False
  | .refuse _ => False

/-- every slot that is written lies in the frame -/
def codeLt (sz : Nat) : Code → Bool
  | .region _ ops _ => dstsLt sz ops.toList
  | .seq x y => codeLt sz x && codeLt sz y
  | .cond _ x y => codeLt sz x && codeLt sz y
  | .block _ c => codeLt sz c
  | .loop c => codeLt sz c
  | .scope c => codeLt sz c
  | .rangeFunc _ _ x y => codeLt sz x && codeLt sz y
  | _ => true

theorem dstsLt_spec {sz : Nat} {ops : List Oper} (h : dstsLt sz ops = true) : ∀ o ∈ ops, ∀ d, o.dst = some d → d < sz := by
  intro o ho d hd
  have := List.all_eq_true.1 h o ho
  simp only [hd, decide_eq_true_eq] at this
  exact this

theorem wpC_sound {P : Program} {T : Tys} (hT : TyOk P T) {sz : Nat} {keep : List Nat} : ∀ (c : Code) {G : PHeap} {l : Fr} {H : Heap} {K : Post}, codeLt sz c = true → wpC P T sz keep c G l H K → Tri P sz c G l H K := by
  intro c
  induction c with
  | skip => intro G l H K _ h E a w Q hs hk; exact wp_skip (hk .normal G l H a w (PLe.refl _) hs h)
  | region id ops draw =>
    intro G l H K hlt h
    cases draw with
    | true => exact h
    | false =>
      simp only [wpC] at h
      intro E a w Q hs hk
      refine wp_region_list (wpO_sound hT ops.toList (dstsLt_spec hlt) h hs fun G' l' H' a' w' hle hs' hk' => ?_)
      exact hk .normal G' _ H' a' w' hle (hs'.weak (look_restrict keep l')) hk'
  | seq x y ihx ihy =>
    intro G l H K hlt h E a w Q hs hk
    simp only [codeLt, Bool.and_eq_true] at hlt
    refine wp_seq (ihx hlt.1 h a w _ hs fun e G' l' H' a' w' hle hs' hk' => ?_)
    cases e with
    | normal => exact ihy hlt.2 hk' a' w' Q hs' fun e G2 l2 H2 a2 w2 hle2 hs2 hk2 => hk e G2 l2 H2 a2 w2 (hle.trans hle2) hs2 hk2
    | exit id => exact hk (.exit id) G' l' H' a' w' hle hs' hk'
    | ret => exact hk .ret G' l' H' a' w' hle hs' hk'
  | cond c x y ihx ihy =>
    intro G l H K hlt h E a w Q hs hk
    simp only [codeLt, Bool.and_eq_true] at hlt
    simp only [wpC] at h
    have h1 := withV_ev hs h
    unfold condK at h1
    split at h1
    · rename_i b hb
      exact wp_cond_split hb (fun e => ihx hlt.1 (h1.1 e) a w Q hs hk) (fun e => ihy hlt.2 (h1.2 e) a w Q hs hk)
    · exact h1.elim
  | block id c ih =>
    intro G l H K hlt h E a w Q hs hk
    refine wp_block (ih hlt h a w _ hs fun e G' l' H' a' w' hle hs' hk' => ?_)
    cases e with
    | normal => exact hk .normal G' l' H' a' w' hle hs' hk'
    | exit id' =>
      simp only [blockK] at hk'
      simp only [XE.to, Exit.inBlock]
      split
      · rename_i e; rw [if_pos e] at hk'; exact hk .normal G' l' H' a' w' hle hs' hk'
      · rename_i e; rw [if_neg e] at hk'; exact hk (.exit id') G' l' H' a' w' hle hs' hk'
    | ret => exact hk .ret G' l' H' a' w' hle hs' hk'
  | loop c ih => intro G l H K hlt h; exact h
  | rangeFunc f ps x y ihx ihy => intro G l H K hlt h; exact h
  | exit id => intro G l H K _ h E a w Q hs hk; exact wp_exit (hk (.exit id) G l H a w (PLe.refl _) hs h)
  | scope c ih =>
    intro G l H K hlt h E a w Q hs hk
    refine wp_scope_straight (ih hlt h a w _ hs fun e G' l' H' a' w' hle hs' hk' => ?_)
    cases e <;> exact hk _ G' l' H' a' w' hle hs' hk'
  | label n => intro G l H K _ h E a w Q hs hk; exact wp_label (hk .normal G l H a w (PLe.refl _) hs h)
  | goto n => intro G l H K _ h; exact h.elim
  | ret => intro G l H K _ h E a w Q hs hk; exact wp_ret (hk .ret G l H a w (PLe.refl _) hs h)
  | refuse why => intro G l H K _ h; exact h.elim

/-! ## loops -/

theorem wp_loopN {P : Program} {c : Code} {Q : Exit → Act → World → Prop} (I : Nat → Act → World → Prop)
    (round : ∀ n a w, I n a w → c.wp P (Exit.then (fun a' w' => ∃ m, m < n ∧ I m a' w') Q) a w) : ∀ n a w, I n a w → (Code.loop c).wp P Q a w := by
  intro n a w h0 b k cs
  have key : ∀ n a w, I n a w → ∃ e a' w', Q e a' w' ∧ Arrives P (lone (b.at a (.code c :: .inLoop c :: k)) cs w) b k cs e a' w' := by
    intro n
    induction n using Nat.strongRecOn with
    | _ n ih =>
      intro a w hI
      obtain ⟨e, a₁, w₁, hq, harr⟩ := round n a w hI b (.inLoop c :: k) cs
      cases e with
      | normal =>
        obtain ⟨m, hlt, hI₁⟩ := hq
        obtain ⟨e₂, a₂, w₂, hq₂, harr₂⟩ := ih m hlt a₁ w₁ hI₁
        exact ⟨e₂, a₂, w₂, hq₂, .of_steps (Steps.trans harr (.one step_inLoop)) harr₂⟩
      | exit id => exact ⟨_, a₁, w₁, hq, .pass (x := .inLoop c) rfl (fun _ _ => .inl (by simp)) harr⟩
      | goto l => exact ⟨_, a₁, w₁, hq, .pass (x := .inLoop c) rfl (fun _ _ => .inl (by simp)) harr⟩
      | ret => exact ⟨_, a₁, w₁, hq, .pass (x := .inLoop c) rfl (fun _ _ => .inl (by simp)) harr⟩
      | panic ch => exact ⟨_, a₁, w₁, hq, .pass (x := .inLoop c) rfl (fun _ _ => .inl (by simp)) harr⟩
      | outgrown => exact ⟨_, a₁, w₁, hq, .pass (x := .inLoop c) rfl (fun _ _ => .inl (by simp)) harr⟩
  obtain ⟨e, a', w', hq, harr⟩ := key n a w h0
  exact ⟨e, a', w', hq, .of_steps (.one step_loop) harr⟩

/-- a loop by what holds at its head; 'live': the slots that it speaks of -/
theorem Tri.loop {P : Program} {T : Tys} (hT : TyOk P T) {sz : Nat} (keep : List Nat) {c : Code} {G : PHeap} {l : Fr} {H : Heap} {K : Post} (hlt : codeLt sz c = true) (live : List Nat)
    (I : Nat → PHeap → Fr → Heap → Prop) (n : Nat) (h0 : I n G (restrict live l) H)
    (round : ∀ n G' l' H', PLe G G' → Sep G' (keys H') → I n G' l' H' → wpC P T sz keep c G' l' H' (thenK (fun G'' l'' H'' => ∃ m, m < n ∧ I m G'' (restrict live l'') H'') K .mk .mk)) :
    Tri P sz (.loop c) G l H K := by
  intro E a w Q hs hk
  refine wp_loopN (fun n a w => ∃ G' l' H', PLe G G' ∧ Sim E sz G' l' H' a w ∧ I n G' l' H') ?_ n a w ⟨G, _, H, PLe.refl _, hs.weak (look_restrict live l), h0⟩
  rintro n a w ⟨G', l', H', hle, hs', hI⟩
  refine wpC_sound hT c hlt (round n G' l' H' hle hs'.heap.sep hI) a w _ hs' fun e G2 l2 H2 a2 w2 hle2 hs2 hk2 => ?_
  cases e with
  | normal =>
    obtain ⟨m, hm, hI2⟩ := hk2
    exact ⟨m, hm, G2, _, H2, hle.trans hle2, hs2.weak (look_restrict live l2), hI2⟩
  | exit id => exact hk (.exit id) G2 l2 H2 a2 w2 (hle.trans hle2) hs2 hk2
  | ret => exact hk .ret G2 l2 H2 a2 w2 (hle.trans hle2) hs2 hk2

/-! ## functions -/

def argsFr : Nat → List Value → Fr
  | _, [] => []
  | i, v :: vs => (i, v) :: argsFr (i + 1) vs

theorem look_argsFr (vs : List Value) : ∀ (i t : Nat) (v : Value), look (argsFr i vs) t = some v → i ≤ t ∧ vs[t - i]? = some v := by
  induction vs with
  | nil => intro i t v h; simp [argsFr, look] at h
  | cons u vs ih =>
    intro i t v h
    simp only [argsFr, look] at h
    split at h
    · rename_i e; subst e; simpa using h
    · rename_i e
      obtain ⟨h1, h2⟩ := ih (i + 1) t v h
      refine ⟨by omega, ?_⟩
      rw [show t - i = (t - (i + 1)) + 1 by omega]
      simpa using h2

/-- the results -/
def resK (l : Fr) (rs : List ResultVar) (k : List Value → Prop) (_ : Tok k := .mk) : Prop :=
  match rs with
  | [] => k []
  | .tmp t :: rs => withV (look l t) fun v => resK l rs fun vs => k (v :: vs)
  | .cell .. :: _ => False
theorem resK_nil (l : Fr) (k : List Value → Prop) : resK l [] k = k [] := rfl
theorem resK_cons (l : Fr) (t : Nat) (rs : List ResultVar) (k : List Value → Prop) : resK l (.tmp t :: rs) k = withV (look l t) fun v => resK l rs fun vs => k (v :: vs) := rfl

def retV (vs : List Value) : Value := match vs with | [v] => v | vs => .tuple vs.toArray

theorem resK_run {sz : Nat} {G : PHeap} {l : Fr} {H : Heap} {a : Act} {w : World} (h : Sim E sz G l H a w) : ∀ (rs : List ResultVar) {k : List Value → Prop}, resK l rs k →
    ∃ vs, k vs ∧ ∀ F : ResultVar → Sem Value, (∀ t, F (.tmp t) = pure (a.tmps.getD t undef)) → rs.mapM F = (pure vs : Sem (List Value))
  | [], k, hk => ⟨[], hk, fun _ _ => rfl⟩
  | .tmp t :: rs, k, hk => by
    unfold resK withV at hk
    split at hk
    · rename_i v hv
      obtain ⟨vs, h1, h2⟩ := resK_run h rs hk
      refine ⟨v :: vs, h1, fun F hF => ?_⟩
      rw [List.mapM_cons, hF, h.fr t v hv, pure_bind, h2 F hF, pure_bind]
    · exact hk.elim
  | .cell .. :: _, k, hk => hk.elim

/-- how a function ends -/
def endK (rs : List ResultVar) (R : Value → PHeap → Heap → Prop) (_ : Tok R) (e : XE) (G : PHeap) (l : Fr) (H : Heap) : Prop := match e with
  | .normal | .ret => resK l rs fun vs => R (retV vs) G H
  | .exit _ => False


/-- A FUNCTION BY ITS BODY -/
theorem FnT.of {P : Program} {T : Tys} (hT : TyOk P T) {f : FuncId} {fn : Func} {c : Code} (keep : List Nat) (hf : P.funcs[f]? = some fn) (hb : fn.body = some c) (hn : (fn.name == "runtime.NumGoroutine") = false)
    {args : List Value} {G : PHeap} {H : Heap} {R : Value → PHeap → Heap → Prop} (hlt : codeLt fn.ntmps c = true) (hargs : args.length ≤ fn.ntmps)
    (h : Sep G (keys H) → wpC P T fn.ntmps keep c G (argsFr 0 args) H (endK fn.results.toList R .mk)) : FnT P f args G H R := by
  refine ⟨⟨fn, c, hf, hb, hn⟩, fun E w hw => calls_of_wp hf hb ?_⟩
  have hs : Sim E fn.ntmps G (argsFr 0 args) H { tmps := args.toArray ++ Array.replicate (fn.ntmps - args.toArray.size) undef, defers := [] } w := by
    refine ⟨by simp; omega, rfl, fun t v ht => ?_, hw⟩
    obtain ⟨_, h2⟩ := look_argsFr args 0 t v ht
    simp only [Nat.sub_zero] at h2
    have hlt := (List.getElem?_eq_some_iff.1 h2).1
    have h3 : args[t] = v := (List.getElem?_eq_some_iff.1 h2).2
    simp [Array.getElem?_append, hlt, h3]
  refine wpC_sound hT c hlt (h hw.sep) _ w _ hs fun e G' l' H' a' w' hle hs' hk => ?_
  have key : resK l' fn.results.toList (fun vs => R (retV vs) G' H') → a'.defers = [] ∧ ∃ v, (results fn a'.tmps).run P w' = .ok v w' ∧ ∃ v' G'' H'', Ending.returned v = .returned v' ∧ PLe G G'' ∧ HeapOk E G'' H'' w' ∧ R v' G'' H'' := fun hk => by
    unfold results
    obtain ⟨vs, h1, h2⟩ := resK_run hs' _ hk
    refine ⟨hs'.defers, retV vs, ?_, retV vs, G', H', rfl, hle, hs'.heap, h1⟩
    rw [Array.mapM_eq_mapM_toList]
    simp only [Sem.run_bind, Sem.run_map]
    rw [h2 _ (fun _ => rfl)]
    simp only [Sem.run_pure, Result.andThen_ok]
    cases vs with
    | nil => simp [retV]
    | cons x xs => cases xs with
      | nil => simp [retV]
      | cons y ys => simp [retV]
  cases e with
  | normal => exact key hk
  | ret => exact key hk
  | exit id => exact hk.elim

end Go.V
