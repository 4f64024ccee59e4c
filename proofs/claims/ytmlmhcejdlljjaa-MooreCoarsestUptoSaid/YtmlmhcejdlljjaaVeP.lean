/-
  The verification layer: ranges over functions.
-/
import Derived.Test.YtmlmhcejdlljjaaVeO
set_option linter.unusedSimpArgs false
set_option linter.unusedVariables false
namespace Go.V
variable {E : Env}

/-- how a round has been left -/
def XE.jump : XE → Option Code
  | .normal => none
  | .exit id => some (.exit id)
  | .ret => some .ret

/-- a loop's record, as far as it is known -/
def RecIs (st : LoopState) (pe : Option Code) (ps : Array Tmp) (as body : Code) (D sz : Nat) (l : Fr) (o : Obj) : Prop :=
  ∃ fn tmps, o = .loop { state := st, pending := pe, fn := fn, tmps := tmps, params := ps, assign := as, body := body, defers := D } ∧ tmps.size = sz ∧ ∀ t v, look l t = some v → tmps.getD t undef = v
def recB (ps : Array Tmp) (as body : Code) (D sz : Nat) (l : Fr) : Res := .inv (RecIs .busy none ps as body D sz l)
def recE (e : XE) (ps : Array Tmp) (as body : Code) (D sz : Nat) (l : Fr) : Res := .inv (RecIs (if e.jump.isNone then .ready else .done) e.jump ps as body D sz l)

def argsIn : List Nat → List Value → Fr → Fr
  | p :: ps, v :: vs, l => argsIn ps vs ((p, v) :: l)
  | _, _, l => l

theorem argsIn_ok (sz : Nat) : ∀ (ps : List Nat) (vs : List Value) (l : Fr) (tmps : Array Value), tmps.size = sz → (∀ p ∈ ps, p < sz) → (∀ t v, look l t = some v → tmps.getD t undef = v) →
    ((ps.zip vs).foldl (fun t (p : Nat × Value) => t.setIfInBounds p.1 p.2) tmps).size = sz ∧ ∀ t v, look (argsIn ps vs l) t = some v → ((ps.zip vs).foldl (fun t (p : Nat × Value) => t.setIfInBounds p.1 p.2) tmps).getD t undef = v := by
  intro ps
  induction ps with
  | nil => intro vs l tmps h1 _ h3; exact ⟨h1, h3⟩
  | cons p ps ih =>
    intro vs l tmps h1 h2 h3
    cases vs with
    | nil => exact ⟨h1, h3⟩
    | cons v vs =>
      refine ih vs ((p, v) :: l) (tmps.setIfInBounds p v) (by simpa using h1) (fun q hq => h2 q (List.mem_cons_of_mem _ hq)) fun t u ht => ?_
      simp only [look] at ht
      have hp := h2 p (List.mem_cons_self ..)
      by_cases e : p = t
      · subst e
        rw [if_pos rfl] at ht
        cases ht
        simp [Array.getElem?_setIfInBounds, h1, hp]
      · rw [if_neg e] at ht
        have := h3 t u ht
        simp only [Array.getD_eq_getD_getElem?] at this ⊢
        rw [Array.getElem?_setIfInBounds_ne e]
        exact this

/-- a block's word turns -/
def turnK (b : Nat) (r r' : Res) (k : PHeap → Fr → Heap → Prop) (G : PHeap) (l : Fr) (H : Heap) : Prop := findH H b = some r ∧ k G l (setH H b r')
/-- a round's end -/
def roundK (lr : Nat) (ps : Array Tmp) (as body : Code) (D sz : Nat) (l0 : Fr) (R : Value → PHeap → Heap → Prop) (_ : Tok R) (e : XE) (G : PHeap) (l : Fr) (H : Heap) : Prop :=
  findH H lr = some (recB ps as body D sz l0) ∧ R (.bool e.jump.isNone) G (setH H lr (recE e ps as body D sz l0))

theorem FF_some (lr : Nat) : FF (some lr) = Fence.wide.inRound lr := rfl

/-- ONE ROUND, OUT OF ITS BODY -/
theorem YldT.of {P : Program} {T : Tys} (hT : TyOk P T) (keep : List Nat) {sz lr : Nat} {ps : Array Tmp} {as body : Code} {D : Nat} {l : Fr} {args : List Value} {G : PHeap} {H : Heap} {R : Value → PHeap → Heap → Prop}
    (hps : args.length = ps.size) (hok : (ps.toList.all (fun p => decide (p < sz)) && calm as && calm body && codeLt sz as && codeLt sz body) = true)
    (hf : findH H lr = some (recE .normal ps as body D sz l))
    (h : wpC P T sz keep as G (argsIn ps.toList args l) H (thenK (turnK lr (recE .normal ps as body D sz l) (recB ps as body D sz l) fun G1 l1 H1 => wpC P T sz keep body G1 l1 H1 (roundK lr ps as body D sz l R .mk)) (fun _ _ _ _ => False) .mk .mk)) : YldT P lr args G H R := by
  intro E w hw
  simp only [Bool.and_eq_true] at hok
  obtain ⟨⟨⟨⟨hplt, hc1⟩, hc2⟩, hl1⟩, hl2⟩ := hok
  obtain ⟨o, ho, ⟨fn, tmps, rfl, hsz, hfr⟩, hnc⟩ := hw.find hf
  obtain ⟨hsz2, hfr2⟩ := argsIn_ok sz ps.toList args l tmps hsz (fun p hp => by simpa using List.all_eq_true.1 hplt p hp) hfr
  have htm : (ps.zip args.toArray).foldl (fun t (p : Nat × Value) => t.setIfInBounds p.1 p.2) tmps = (ps.toList.zip args).foldl (fun t (p : Nat × Value) => t.setIfInBounds p.1 p.2) tmps := by
    rw [← Array.foldl_toList]
    simp
  have hw0 : HeapOk ⟨E.os, E.out, [], E.mine ++ E.outer⟩ G H w := ⟨hw.env, hw.pers, hw.own, hw.sep, by simpa using hw.dfr⟩
  refine ⟨fn, _, as, body, run_yield ho (by simpa using hps), roundIn_of_wpIn trivial ?_⟩
  show as.wpIn (FF (some lr)) 0 P _ _ w
  refine wpC_soundR hT as (fun _ => hc1) hl1 h _ w _ (E := ⟨E.os, E.out, [], E.mine ++ E.outer⟩) ⟨by rw [show ((ps.zip args.toArray).foldl _ tmps) = _ from htm]; exact hsz2, rfl, by rw [show ((ps.zip args.toArray).foldl _ tmps) = _ from htm]; exact hfr2, hw0⟩ ?_
  intro E1 e G1 l1 H1 a1 w1 _ hE1 hle1 hs1 hk1
  have hE1 := hE1 rfl
  subst hE1
  cases e with
  | exit id => exact hk1.elim
  | ret => exact hk1.elim
  | normal =>
    obtain ⟨hf1, hk1⟩ := hk1
    obtain ⟨o1, ho1, ⟨fn1, tmps1, rfl, hsz1, hfr1⟩, hnc1⟩ := hs1.heap.find hf1
    refine ⟨_, run_beginRound ho1 rfl, ?_⟩
    have hlt1 := (Array.getElem?_eq_some_iff.1 ho1).1
    have hw2 := hs1.heap.set (w' := w1.putObj lr (.loop { state := .busy, pending := none, fn := fn1, tmps := tmps1, params := ps, assign := as, body := body, defers := D })) hf1 (World.putObj_heap_same hlt1) (r' := recB ps as body D sz l) ⟨⟨fn1, tmps1, rfl, hsz1, hfr1⟩, trivial⟩ (fun c hc => World.putObj_heap_other hc) ⟨rfl, rfl⟩
    show body.wpIn (FF (some lr)) 0 P _ _ _
    refine wpC_soundR hT body (fun _ => hc2) hl2 hk1 _ _ _ (E := ⟨E.os, E.out, [], E.mine ++ E.outer⟩) ⟨hs1.size, hs1.defers, hs1.fr, hw2⟩ ?_
    intro E2 e2 G2 l2 H2 a2 w2 _ hE2 hle2 hs2 hk2
    have hE2 := hE2 rfl
    subst hE2
    obtain ⟨hf2, hk2⟩ := hk2
    obtain ⟨o2, ho2, ⟨fn2, tmps2, rfl, hsz3, hfr3⟩, hnc2⟩ := hs2.heap.find hf2
    have hlt2 := (Array.getElem?_eq_some_iff.1 ho2).1
    have hw3 := hs2.heap.set (w' := w2.putObj lr (.loop { state := if e2.jump.isNone then .ready else .done, pending := e2.jump, fn := fn2, tmps := tmps2, params := ps, assign := as, body := body, defers := D })) hf2 (World.putObj_heap_same hlt2) (r' := recE e2 ps as body D sz l) ⟨⟨fn2, tmps2, rfl, hsz3, hfr3⟩, trivial⟩ (fun c hc => World.putObj_heap_other hc) ⟨rfl, rfl⟩
    have fin : ∃ v w', (Instr.endRound lr e2.jump).run P w2 = .ok v w' ∧ ∃ v' G' H', Ending.returned v = .returned v' ∧ PLe G G' ∧ HeapOk E G' H' w' ∧ R v' G' H' :=
      ⟨_, _, run_endRound e2.jump ho2, _, G2, _, rfl, hle1.trans hle2, ⟨hw3.env, hw3.pers, hw3.own, hw3.sep, by simpa using hw3.dfr⟩, hk2⟩
    cases e2 with
    | normal => exact fin
    | exit id => exact fin
    | ret => exact fin

theorem eraseH_sub_set (H : Heap) (b : Nat) (r : Res) : (eraseH H b).Sublist (setH H b r) := by
  induction H with
  | nil => exact List.Sublist.refl _
  | cons p H ih =>
    obtain ⟨k, s⟩ := p
    simp only [eraseH, setH]
    split
    · exact List.Sublist.cons _ (List.Sublist.refl _)
    · exact ih.cons_cons _

/-- behind the function that was ranged over -/
def afterK (lr : Nat) (ps : Array Tmp) (as body : Code) (D sz : Nat) (l : Fr) (K : Post) (_ : Tok K) (G : PHeap) (H : Heap) : Prop :=
  ∃ e : XE, findH H lr = some (recE e ps as body D sz l) ∧ K e G l (eraseH H lr)

/-- A RANGE OVER A FUNCTION, BY THE FUNCTION's CONTRACT -/
theorem Tri.rangeF {P : Program} {sz : Nat} {g : Operand} {ps : Array Tmp} {as body : Code} {G : PHeap} {l : Fr} {H : Heap} {K : Post} {gf : FuncId} {caps : Array Value}
    (hg : ev l g = some (.func (.func gf) #[] caps)) (hc : Callee P gf)
    (h : ∀ lr D, Sep G (lr :: keys H) → FnT P gf (.func (.yield lr) #[] #[] :: caps.toList) G ((lr, recE .normal ps as body D sz l) :: H) fun _ G' H' => afterK lr ps as body D sz l K .mk G' H') : Tri P sz (.rangeFunc g ps as body) G l H K := by
  intro E a w Q hs hk
  refine (wpIn_wide (n := 0)).1 (wpIn_rangeFunc ?_)
  intro fn _
  have hga : a.eval g = .func (.func gf) #[] caps := hs.ev hg
  obtain ⟨W1, hW1⟩ : ∃ W1, (w.alloc (.deferred (some []))).alloc (.loop { state := .ready, pending := none, fn := fn, tmps := a.tmps, params := ps, assign := as, body := body, defers := w.heap.size }) = W1 := ⟨_, rfl⟩
  have hw := hs.heap
  have hsz : (w.alloc (.deferred (some []))).heap.size = w.heap.size + 1 := by simp [heap_alloc]
  have hD1 : (w.alloc (.deferred (some []))).heap[w.heap.size]? = some (.deferred (some [])) := World.alloc_heap_new w _
  have hold : ∀ b, b < w.heap.size → (w.alloc (.deferred (some []))).heap[b]? = w.heap[b]? := fun b hb => by
    rw [heap_alloc, Array.getElem?_push, if_neg (Nat.ne_of_lt hb)]
  have hw1 : HeapOk ⟨E.os, E.out, w.heap.size :: E.mine, E.outer⟩ G H (w.alloc (.deferred (some []))) := by
    refine ⟨hw.env, fun b o hb => ?_, fun p hp => ?_, hw.sep, ?_, fun D hD => ?_⟩
    · have h1 := hw.pers b o hb
      rw [hold b (Array.getElem?_eq_some_iff.1 h1).1]; exact h1
    · obtain ⟨o, h1, h2⟩ := hw.own p hp
      exact ⟨o, by rw [hold _ (Array.getElem?_eq_some_iff.1 h1).1]; exact h1, h2⟩
    · simp only [List.cons_append, List.nodup_cons]
      refine ⟨fun hm => ?_, hw.dfr.1⟩
      exact Nat.lt_irrefl _ (Array.getElem?_eq_some_iff.1 (hw.dfr.2 _ hm).1).1
    · simp only [List.cons_append, List.mem_cons] at hD
      rcases hD with rfl | hD
      · exact ⟨hD1, hw.fresh.1.1⟩
      · have h1 := (hw.dfr.2 D hD).1
        exact ⟨by rw [hold _ (Array.getElem?_eq_some_iff.1 h1).1]; exact h1, (hw.dfr.2 D hD).2⟩
  have hw2 : HeapOk ⟨E.os, E.out, w.heap.size :: E.mine, E.outer⟩ G ((w.heap.size + 1, recE .normal ps as body w.heap.size sz l) :: H) W1 := by
    have := hw1.new (o := .loop { state := .ready, pending := none, fn := fn, tmps := a.tmps, params := ps, assign := as, body := body, defers := w.heap.size }) (r := recE .normal ps as body w.heap.size sz l) ⟨⟨fn, a.tmps, rfl, hs.size, hs.fr⟩, trivial⟩
    rw [hsz, hW1] at this
    exact this
  have hF := h (w.heap.size + 1) w.heap.size hw2.sep
  have hcall := hF.2 W1 hw2
  have hinv : (callFunc gf (#[.func (.yield (w.heap.size + 1)) #[] #[]] ++ caps)).run P W1 = .ok (.enter gf (#[.func (.yield (w.heap.size + 1)) #[] #[]] ++ caps)) W1 := by
    obtain ⟨fn', c', hfn, hbody, hname⟩ := hc
    have hname' : ¬ fn'.name = "runtime.NumGoroutine" := by simpa using hname
    simp [callFunc, hfn, hname', hbody]
  refine ⟨w.heap.size + 1, [markD w.heap.size], W1, { target := .fn (.func gf) caps, args := #[.func (.yield (w.heap.size + 1)) #[] #[]] }, W1, gf,
    #[.func (.yield (w.heap.size + 1)) #[] #[]] ++ caps, W1, ?_, ?_, fun _ _ => trivial, ?_, fun hx => by simp [Fence.wide] at hx, ?_⟩
  · rw [← hW1]; exact run_enterLoop_outer _ _ _ _ _
  · simp only [resolve, hga]
    simp [go_sem]
  · simp only [invoke]; exact hinv
  · refine callsIn_wide.2 ?_
    have hargs : (Value.func (.yield (w.heap.size + 1)) #[] #[] :: caps.toList).toArray = #[.func (.yield (w.heap.size + 1)) #[] #[]] ++ caps := by apply Array.ext'; simp
    rw [hargs] at hcall
    refine hcall.mono ?_
    rintro _ W3 ⟨v, G', H', rfl, hle, hok, e, hf, hk3⟩
    obtain ⟨o, ho, ⟨fn3, tmps3, rfl, hsz3, hfr3⟩, hnc3⟩ := hok.find hf
    have hlt := (Array.getElem?_eq_some_iff.1 ho).1
    have hst : (if e.jump.isNone then LoopState.ready else LoopState.done) ≠ .busy := by split <;> simp
    have hw4 := hok.set (w' := W3.putObj (w.heap.size + 1) (.loop { state := .exhausted, pending := e.jump, fn := fn3, tmps := tmps3, params := ps, assign := as, body := body, defers := w.heap.size })) hf (World.putObj_heap_same hlt) (r' := .inv fun _ => True) ⟨trivial, trivial⟩ (fun c hc => World.putObj_heap_other hc) ⟨rfl, rfl⟩
    have hw5 := hw4.sub (eraseH_sub_set H' (w.heap.size + 1) _)
    have hsim : Sim ⟨E.os, E.out, w.heap.size :: E.mine, E.outer⟩ sz G' l (eraseH H' (w.heap.size + 1)) { a with defers := [markD w.heap.size] ++ a.defers } (W3.putObj (w.heap.size + 1) (.loop { state := .exhausted, pending := e.jump, fn := fn3, tmps := tmps3, params := ps, assign := as, body := body, defers := w.heap.size })) :=
      ⟨hs.size, by simp [hs.defers], hs.fr, hw5⟩
    have hq := hk ⟨E.os, E.out, w.heap.size :: E.mine, E.outer⟩ e G' l _ _ _ ⟨rfl, rfl, rfl⟩ hle hsim hk3
    refine ⟨e.jump, _, run_endLoop ho hst, ?_⟩
    cases e with
    | normal => exact hq
    | exit id => exact wpIn_exit hq
    | ret => exact wpIn_ret hq
theorem YldT.mono {P : Program} {lr : Nat} {args : List Value} {G : PHeap} {H : Heap} {R R' : Value → PHeap → Heap → Prop} (h : YldT P lr args G H R) (hr : ∀ v G' H', PLe G G' → Sep G' (keys H') → R v G' H' → R' v G' H') : YldT P lr args G H R' := by
  intro E w hw
  obtain ⟨fn, tmps, as, body, hy, hF, hround⟩ := h w hw
  refine ⟨fn, tmps, as, body, hy, hF, fun c cs hroom => ?_⟩
  obtain ⟨e, w', ⟨v, G', H', rfl, h1, h2, h3⟩, hcomes⟩ := hround c cs hroom
  exact ⟨.returned v, w', ⟨v, G', H', rfl, h1, h2, hr v G' H' h1 h2.sep h3⟩, hcomes⟩
theorem YldT.upd {P : Program} {lr : Nat} {args : List Value} {G : PHeap} {H : Heap} {R : Value → PHeap → Heap → Prop} (h : YldT P lr args G H fun v G' H' => Upd G' H' fun G2 H2 => R v G2 H2) : YldT P lr args G H R := by
  intro E w hw
  obtain ⟨fn, tmps, as, body, hy, hF, hround⟩ := h w hw
  refine ⟨fn, tmps, as, body, hy, hF, fun c cs hroom => ?_⟩
  obtain ⟨e, w', ⟨v, G', H', rfl, h1, h2, h3⟩, hcomes⟩ := hround c cs hroom
  obtain ⟨G2, H2, g1, g2, g3⟩ := h3 w' h2
  exact ⟨.returned v, w', ⟨v, G2, H2, rfl, h1.trans g1, g2, g3⟩, hcomes⟩

def roundQ (lr : Nat) (Rr : XE → Res) (Rb : Res) (R : Value → PHeap → Heap → Prop) (_ : Tok R) (e : XE) (G : PHeap) (l : Fr) (H : Heap) : Prop :=
  findH H lr = some Rb ∧ R (.bool e.jump.isNone) G (setH H lr (Rr e))
def noK (_ : XE) (_ : PHeap) (_ : Fr) (_ : Heap) : Prop := False

/-- A RANGE OVER A FUNCTION, the record's own block without its inside -/
theorem Tri.rangeF2 {P : Program} {T : Tys} (hT : TyOk P T) (keep : List Nat) {sz : Nat} {g : Operand} {ps : Array Tmp} {as body : Code} {G : PHeap} {l : Fr} {H : Heap} {K : Post} {gf : FuncId} {caps : Array Value}
    (hg : ev l g = some (.func (.func gf) #[] caps)) (hc : Callee P gf) (hok : (ps.toList.all (fun p => decide (p < sz)) && calm as && calm body && codeLt sz as && codeLt sz body) = true)
    (h : ∀ (lr : Nat) (Rr : XE → Res) (Rb : Res), Sep G (lr :: keys H) →
      (∀ {args : List Value} {G1 : PHeap} {H1 : Heap} {R1 : Value → PHeap → Heap → Prop}, args.length = ps.size → findH H1 lr = some (Rr .normal) →
        wpC P T sz keep as G1 (argsIn ps.toList args l) H1 (thenK (turnK lr (Rr .normal) Rb fun G2 l2 H2 => wpC P T sz keep body G2 l2 H2 (roundQ lr Rr Rb R1 .mk)) noK .mk .mk) → YldT P lr args G1 H1 R1) →
      FnT P gf (.func (.yield lr) #[] #[] :: caps.toList) G ((lr, Rr .normal) :: H) fun _ G' H' => ∃ e : XE, findH H' lr = some (Rr e) ∧ K e G' l (eraseH H' lr)) : Tri P sz (.rangeFunc g ps as body) G l H K := by
  refine Tri.rangeF hg hc fun lr D hs => ?_
  refine h lr (fun e => recE e ps as body D sz l) (recB ps as body D sz l) hs fun h1 h2 h3 => ?_
  exact YldT.of hT keep h1 hok h2 h3

section
variable (b lr : Nat) (r r' Rb : Res) (Rr : XE → Res) (R : Value → PHeap → Heap → Prop) (k : PHeap → Fr → Heap → Prop) (G : PHeap) (l : Fr) (H : Heap)
theorem turnK_eq : turnK b r r' k G l H = (findH H b = some r ∧ k G l (setH H b r')) := rfl
theorem roundQ_normal : roundQ lr Rr Rb R .mk .normal G l H = (findH H lr = some Rb ∧ R (.bool true) G (setH H lr (Rr .normal))) := rfl
theorem roundQ_ret : roundQ lr Rr Rb R .mk .ret G l H = (findH H lr = some Rb ∧ R (.bool false) G (setH H lr (Rr .ret))) := rfl
theorem roundQ_exit (id : Nat) : roundQ lr Rr Rb R .mk (.exit id) G l H = (findH H lr = some Rb ∧ R (.bool false) G (setH H lr (Rr (.exit id)))) := rfl
theorem argsIn_cons (p : Nat) (ps : List Nat) (v : Value) (vs : List Value) : argsIn (p :: ps) (v :: vs) l = argsIn ps vs ((p, v) :: l) := rfl
theorem argsIn_nil (vs : List Value) : argsIn [] vs l = l := by cases vs <;> rfl
theorem ex_normal {p : XE → Prop} (h : p .normal) : ∃ e, p e := ⟨_, h⟩
end
attribute [go_sem] turnK_eq roundQ_normal roundQ_ret roundQ_exit argsIn_cons argsIn_nil
end Go.V
