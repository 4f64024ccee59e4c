/-
  The verification layer, part twelve: values of calls, and the way from a contract to the world.
-/
import Derived.Test.YtmlmhcejdlljjaaVeK
import Derived.ProofKit
import Derived.RowKit3
import Derived.ChangeSame
set_option linter.unusedSimpArgs false
set_option linter.unusedVariables false
namespace Go.V

/-- a function gives this and leaves all as it was -/
def Gives (P : Program) (f : FuncId) (args : List Value) (v : Value) : Prop := ∀ {G : PHeap} {H : Heap} {R : Value → PHeap → Heap → Prop}, R v G H → FnT P f args G H R

theorem cast_R {R : Value → PHeap → Heap → Prop} {v v' : Value} {G : PHeap} {H : Heap} (h : R v G H) (e : v' = v) : R v' G H := e ▸ h

theorem FnT.cast {P : Program} {f : FuncId} {args args' : List Value} {G : PHeap} {H : Heap} {R : Value → PHeap → Heap → Prop} (h : FnT P f args G H R) (e : args' = args) : FnT P f args' G H R := e ▸ h

/-! ## memory seen otherwise -/

/-- what stands may be seen so -/
def Upd (G : PHeap) (H : Heap) (k : PHeap → Heap → Prop) (_ : Tok k := .mk) : Prop :=
  ∀ ⦃E : Env⦄ (w : World), HeapOk E G H w → ∃ G' H', PLe G G' ∧ HeapOk E G' H' w ∧ k G' H'

theorem Upd.now {G : PHeap} {H : Heap} {k : PHeap → Heap → Prop} (h : k G H) : Upd G H k := fun E w hw => ⟨G, H, PLe.refl _, hw, h⟩
theorem Upd.trans {G : PHeap} {H : Heap} {k : PHeap → Heap → Prop} (h : Upd G H fun G' H' => Upd G' H' k) : Upd G H k := fun E w hw => by
  obtain ⟨G', H', h1, h2, h3⟩ := h w hw
  obtain ⟨G2, H2, g1, g2, g3⟩ := h3 w h2
  exact ⟨G2, H2, h1.trans g1, g2, g3⟩
theorem Upd.mono {G : PHeap} {H : Heap} {k k' : PHeap → Heap → Prop} (h : Upd G H k) (hk : ∀ G' H', k G' H' → k' G' H') : Upd G H k' := fun E w hw => by
  obtain ⟨G', H', h1, h2, h3⟩ := h w hw
  exact ⟨G', H', h1, h2, hk _ _ h3⟩
/-- garbage is let go -/
theorem Upd.sub {G : PHeap} {H H' : Heap} {k : PHeap → Heap → Prop} (hs : H'.Sublist H) (h : k G H') : Upd G H k := fun E w hw => ⟨G, H', PLe.refl _, hw.sub hs, h⟩
/-- a result, memory seen otherwise -/
def UpdR (R : Value → PHeap → Heap → Prop) (v : Value) (G : PHeap) (H : Heap) : Prop := Upd G H fun G' H' => R v G' H'
theorem Upd.fin {G : PHeap} {H : Heap} {R : Value → PHeap → Heap → Prop} {v v' : Value} (h : R v G H) (e : v' = v) : UpdR R v' G H := Upd.now (e ▸ h)
theorem Upd.finS {G : PHeap} {H H' : Heap} {R : Value → PHeap → Heap → Prop} {v v' : Value} (hs : H.Sublist H') (h : R v G H) (e : v' = v) : UpdR R v' G H' := Upd.sub hs (e ▸ h)
theorem Upd.perm {G : PHeap} {H H' : Heap} {k : PHeap → Heap → Prop} (hs : H.Perm H') (h : Upd G H' k) : Upd G H k := fun E w hw => h w (hw.perm hs)

/-- a row of cells of the persistent heap -/
def RowAt (G : PHeap) (b off : Nat) (vs : List Value) : Prop := ∃ cs e fr, G b = some (.cells cs e fr) ∧ off + vs.length ≤ cs.size ∧ (cs.toList.drop off).take vs.length = vs

theorem RowAt.mono {G G' : PHeap} (hle : PLe G G') {b off : Nat} {vs : List Value} (h : RowAt G b off vs) : RowAt G' b off vs := by
  obtain ⟨cs, e, fr, h1, h2, h3⟩ := h
  exact ⟨cs, e, fr, hle _ _ h1, h2, h3⟩

theorem RowAt.obj {G : PHeap} {b off : Nat} {vs : List Value} (h : RowAt G b off vs) {i : Nat} (hi : i < vs.length) (H : Heap) (k : Value → Prop) : objK G H b (G b) (off + i) k = k vs[i] := by
  obtain ⟨cs, e, fr, h1, h2, h3⟩ := h
  have : cs[off + i]? = some vs[i] := by
    have e1 : ((cs.toList.drop off).take vs.length)[i]? = some vs[i] := by rw [h3]; exact List.getElem?_eq_getElem hi
    rw [List.getElem?_take_of_lt hi, List.getElem?_drop, Array.getElem?_toList] at e1
    exact e1
  rw [h1]
  simp only [objK, this]; rfl
theorem RowAt.obj0 {G : PHeap} {b : Nat} {vs : List Value} (h : RowAt G b 0 vs) {i : Nat} (hi : i < vs.length) (H : Heap) (k : Value → Prop) : objK G H b (G b) i k = k vs[i] := by
  have := h.obj hi H k
  rwa [Nat.zero_add] at this
theorem RowAt.objs {G : PHeap} {b off : Nat} {vs : List Value} (h : RowAt G b off vs) {i n : Nat} (hi : i + n ≤ vs.length) (H : Heap) (k : List Value → Prop) : objsK G H b (G b) (off + i) n k = k ((vs.drop i).take n) := by
  obtain ⟨cs, e, fr, h1, h2, h3⟩ := h
  rw [h1]
  simp only [objsK]
  rw [Ob_of (by omega)]
  congr 1
  rw [← h3, List.drop_take, List.take_take, List.drop_drop]
  congr 1; omega
theorem RowAt.objsAll {G : PHeap} {b off : Nat} {vs : List Value} (h : RowAt G b off vs) {n : Nat} (hi : n = vs.length) (H : Heap) (k : List Value → Prop) : objsK G H b (G b) off n k = k vs := by
  have := h.objs (i := 0) (n := n) (by omega) H k
  rw [Nat.add_zero] at this
  rw [this, List.drop_zero, List.take_of_length_le (by omega)]

/-- a persistent heap with one block more -/
def addG (G : PHeap) (b : Nat) (o : Obj) : PHeap := fun c => if c = b then some o else G c
theorem addG_same (G : PHeap) (b : Nat) (o : Obj) : addG G b o b = some o := by simp [addG]
theorem addG_ne {G : PHeap} {b c : Nat} (h : c ≠ b) (o : Obj) : addG G b o c = G c := by simp [addG, h]

/-- a block of cells is no longer written -/
theorem Upd.share {G : PHeap} {H : Heap} {b : Nat} {xs sp : List Value} {e : TypeId} {k : PHeap → Heap → Prop}
    (h : ∀ fr : Nat × Nat, Sep (addG G b (.cells (xs ++ sp).toArray e fr)) (keys H) → k (addG G b (.cells (xs ++ sp).toArray e fr)) H) : Upd G ((b, .cells xs sp e) :: H) k := fun E w hw => by
  obtain ⟨o, ho, fr, rfl, _⟩ := hw.own _ (List.mem_cons_self ..)
  have hsep := sep_iff.1 hw.sep
  simp only [keys, List.map_cons, List.mem_cons, forall_eq_or_imp, List.nodup_cons] at hsep
  have hs' : Sep (addG G b (.cells (xs ++ sp).toArray e fr)) (keys H) := by
    refine sep_iff.2 ⟨fun c hc => ?_, hsep.2.2⟩
    rw [addG_ne (fun e => hsep.2.1 (by subst e; exact hc))]
    exact hsep.1.2 c hc
  refine ⟨_, H, fun c o hc => ?_, ⟨hw.env, fun c o hc => ?_, fun p hp => hw.own p (List.mem_cons_of_mem _ hp), hs', hw.dfr.1, fun D hD => ⟨(hw.dfr.2 D hD).1, by have hDb : D ≠ b := (fun e => by rw [show w.heap[(b, Res.cells xs sp _).fst]? = w.heap[D]? by rw [e], (hw.dfr.2 _ hD).1] at ho; cases ho); rw [addG_ne hDb]; exact (hw.dfr.2 D hD).2⟩⟩, h fr hs'⟩
  · rw [addG_ne (fun e => by subst e; rw [hsep.1.1] at hc; cases hc)]; exact hc
  · unfold addG at hc
    split at hc
    · rename_i e; subst e; cases hc; exact ho
    · exact hw.pers c o hc

theorem FnT.upd {P : Program} {f : FuncId} {args : List Value} {G : PHeap} {H : Heap} {R : Value → PHeap → Heap → Prop} (h : FnT P f args G H fun v G' H' => Upd G' H' fun G2 H2 => R v G2 H2) : FnT P f args G H R :=
  ⟨h.1, fun E w hw => (h.2 w hw).mono fun _ w' ⟨v, G', H', e, h1, h2, h3⟩ => by
    obtain ⟨G2, H2, g1, g2, g3⟩ := h3 w' h2
    exact ⟨v, G2, H2, e, h1.trans g1, g2, g3⟩⟩

theorem FnT.pre {P : Program} {f : FuncId} {args : List Value} {G : PHeap} {H : Heap} {R : Value → PHeap → Heap → Prop} (hc : Callee P f) (h : Upd G H fun G' H' => FnT P f args G' H' R) : FnT P f args G H R :=
  ⟨hc, fun E w hw => by
    obtain ⟨G1, H1, h1, h2, h3⟩ := h w hw
    exact (h3.2 w h2).mono fun _ _ ⟨v, G', H', e, g1, g2, g3⟩ => ⟨v, G', H', e, h1.trans g1, g2, g3⟩⟩

/-- what is not handed over stands as it stood: no rule of its own is needed, for a contract speaks of all heaps -/
theorem Tri.upd {P : Program} {sz : Nat} {c : Code} {G : PHeap} {l : Fr} {H : Heap} {K : Post} (h : Upd G H fun G' H' => Tri P sz c G' l H' K) : Tri P sz c G l H K := fun E a w Q hs hk => by
  obtain ⟨G', H', h1, h2, h3⟩ := h w hs.heap
  exact h3 a w Q ⟨hs.size, hs.defers, hs.fr, h2⟩ fun E2 e G2 l2 H2 a2 w2 hE hle hs2 hk2 => hk E2 e G2 l2 H2 a2 w2 hE (h1.trans hle) hs2 hk2

theorem Tri.run {P : Program} {T : Tys} (hT : TyOk P T) {sz : Nat} (keep : List Nat) {c : Code} {G : PHeap} {l : Fr} {H : Heap} {K : Post} (hlt : codeLt sz c = true) (h : wpC P T sz keep c G l H K) : Tri P sz c G l H K :=
  fun E a w Q hs hk => wpC_sound hT c hlt h a w Q hs hk

/-- two pieces, by what holds between them -/
theorem Tri.cut {P : Program} {sz : Nat} {x y : Code} {G : PHeap} {l : Fr} {H : Heap} {K : Post} (M : PHeap → Fr → Heap → Prop) (h1 : Tri P sz x G l H (thenK M K .mk .mk))
    (h2 : ∀ G' l' H', PLe G G' → Sep G' (keys H') → M G' l' H' → Tri P sz y G' l' H' K) : Tri P sz (.seq x y) G l H K := by
  intro E a w Q hs hk
  refine wp_seq (h1 a w _ hs fun E' e G' l' H' a' w' hE hle hs' hk' => ?_)
  cases e with
  | normal => exact h2 G' l' H' hle hs'.heap.sep hk' a' w' Q hs' fun E2 e G2 l2 H2 a2 w2 hE2 hle2 hs2 hk2 => hk E2 e G2 l2 H2 a2 w2 (hE.trans hE2) (hle.trans hle2) hs2 hk2
  | exit id => exact hk E' (.exit id) G' l' H' a' w' hE hle hs' hk'
  | ret => exact hk E' .ret G' l' H' a' w' hE hle hs' hk'

theorem Tri.block {P : Program} {sz : Nat} {id : Nat} {c : Code} {G : PHeap} {l : Fr} {H : Heap} {K : Post} (h : Tri P sz c G l H (blockK id K .mk)) : Tri P sz (.block id c) G l H K := by
  intro E a w Q hs hk
  refine wp_block (h a w _ hs fun E' e G' l' H' a' w' hE hle hs' hk' => ?_)
  cases e with
  | normal => exact hk E' .normal G' l' H' a' w' hE hle hs' hk'
  | exit id' =>
    simp only [blockK] at hk'
    simp only [XE.to, Exit.inBlock]
    split
    · rename_i e; rw [if_pos e] at hk'; exact hk E' .normal G' l' H' a' w' hE hle hs' hk'
    · rename_i e; rw [if_neg e] at hk'; exact hk E' (.exit id') G' l' H' a' w' hE hle hs' hk'
  | ret => exact hk E' .ret G' l' H' a' w' hE hle hs' hk'

/-- a loop by what may be seen at its head -/
theorem Tri.loopU {P : Program} {T : Tys} (hT : TyOk P T) {sz : Nat} (keep : List Nat) {c : Code} {G : PHeap} {l : Fr} {H : Heap} {K : Post} (hlt : codeLt sz c = true) (live : List Nat)
    (I : Nat → PHeap → Fr → Heap → Prop) (n : Nat) (h0 : Upd G H fun G' H' => I n G' (restrict live l) H')
    (round : ∀ n G' l' H', PLe G G' → Sep G' (keys H') → I n G' l' H' → wpC P T sz keep c G' l' H' (thenK (fun G'' l'' H'' => Upd G'' H'' fun G0 H0 => ∃ m, m < n ∧ I m G0 (restrict live l'') H0) K .mk .mk)) :
    Tri P sz (.loop c) G l H K := by
  intro E a w Q hs hk
  obtain ⟨G1, H1, g1, g2, g3⟩ := h0 w hs.heap
  refine wp_loopN (fun n a w => ∃ E' G' l' H', Env.le E E' ∧ PLe G G' ∧ Sim E' sz G' l' H' a w ∧ I n G' l' H') ?_ n a w ⟨E, G1, _, H1, Env.le.refl E, g1, ⟨hs.size, hs.defers, (hs.weak (look_restrict live l)).fr, g2⟩, g3⟩
  rintro n a w ⟨E', G', l', H', hE, hle, hs', hI⟩
  refine wpC_sound hT c hlt (round n G' l' H' hle hs'.heap.sep hI) a w _ hs' fun E2 e G2 l2 H2 a2 w2 hE2 hle2 hs2 hk2 => ?_
  cases e with
  | normal =>
    obtain ⟨G3, H3, q1, q2, m, hm, hI2⟩ := hk2 w2 hs2.heap
    exact ⟨m, hm, E2, G3, _, H3, hE.trans hE2, (hle.trans hle2).trans q1, ⟨hs2.size, hs2.defers, (hs2.weak (look_restrict live l2)).fr, q2⟩, hI2⟩
  | exit id => exact hk E2 (.exit id) G2 l2 H2 a2 w2 (hE.trans hE2) (hle.trans hle2) hs2 hk2
  | ret => exact hk E2 .ret G2 l2 H2 a2 w2 (hE.trans hE2) (hle.trans hle2) hs2 hk2

theorem FnT.body {P : Program} {T : Tys} (hT : TyOk P T) {f : FuncId} {fn : Func} {c : Code} (keep : List Nat) (hf : P.funcs[f]? = some fn) (hb : fn.body = some c) (hn : (fn.name == "runtime.NumGoroutine") = false)
    {args : List Value} {G : PHeap} {H : Heap} {R : Value → PHeap → Heap → Prop} (hlt : codeLt fn.ntmps c = true) (hargs : args.length ≤ fn.ntmps)
    (h : Sep G (keys H) → wpC P T fn.ntmps keep c G (argsFr 0 args) H (endK T fn.results.toList (UpdR R) .mk)) : FnT P f args G H R :=
  FnT.upd (FnT.of hT keep hf hb hn hlt hargs h)

/-- what a call leaves of the world that it was called in -/
structure Kept (w w' : World) : Prop where
  kept : w.keptBut w' (fun _ => False)
  frozen : ∀ a : Addr, a.block < w.heap.size → w'.frozen? a = w.frozen? a
  old : ∀ b : Nat, b < w.heap.size → w'.heap[b]? = w.heap[b]?

/-- FROM A CONTRACT TO THE WORLD -/
theorem calls_of {P : Program} {f : FuncId} {args : List Value} {R : Value → Prop} (w : World)
    (h : FnT P f args (fun b => w.heap[b]?) [] fun v _ _ => R v) : Calls P f args.toArray w fun e w' => ∃ v, e = .returned v ∧ R v ∧ Kept w w' := by
  have hw : HeapOk ⟨w.os, w.output, [], []⟩ (fun b => w.heap[b]?) [] w := ⟨⟨rfl, rfl⟩, fun b o hb => hb, fun p hp => (by cases hp), trivial, by simp, by simp⟩
  refine (h.2 w hw).mono ?_
  rintro e w' ⟨v, G', H', rfl, hle, hok, hr⟩
  have hold : ∀ b : Nat, b < w.heap.size → w'.heap[b]? = w.heap[b]? := fun b hb => by
    rw [Array.getElem?_eq_getElem hb]
    exact hok.pers b _ (hle b _ (Array.getElem?_eq_getElem hb))
  refine ⟨v, rfl, hr, ⟨hok.env.1, hok.env.2, fun i hi => ?_⟩, fun a ha => ?_, hold⟩
  · rw [hold i hi, Array.getElem?_eq_getElem hi]
    cases w.heap[i] <;> simp
  · unfold World.frozen?
    rw [hold a.block ha]

end Go.V

namespace Go.V
open Go.ChangeShapes Go.WideShapes
variable {H : Type} {enc : TypeId × Value → H} {P : Program}

/-- the conclusion where all old stands as it stood -/
theorem post_of_kept {f : Func} {s : ChangeSpec} {apart fresh handsOn again : Bool} {W W' : World} {args : Array Value} {v : Value} {ds gs : List (DataW H)} {before pa pv : List MemPlace}
    (hW : DataW.Whole enc P f.params.toList s.vars apart W args.toList ds gs before)
    (hres : ∀ (b : Nat) (sp : Nat → Bool) (hd : Bool), DataW.TrodAll enc P W' b sp hd f.resultTypes.toList (v.resultList f.resultTypes.size) (s.fn H (ds ++ gs)).results [])
    (hargs : ∀ sp : Nat → Bool, (∀ p ∈ before, sp p.block = true) → DataW.TrodAll enc P W' 0 sp true f.params.toList args.toList (s.fn H (ds ++ gs)).args pa)
    (hvars : ∀ sp : Nat → Bool, (∀ p ∈ before, sp p.block = true) → DataW.TrodVars enc P W' sp s.vars (s.fn H (ds ++ gs)).vars pv)
    (hps : before = pa ++ pv) (hk : Kept W W')
    (hok : ∀ (j : Nat) (t : TypeId) (r : Value), f.resultTypes[j]? = some t → (v.resultList f.resultTypes.size)[j]? = some r → Value.okWide P W' .any 0 t r) :
    s.post enc P f apart fresh handsOn again W args v W' := by
  have hlt := hW.lt
  have hold : ∀ p ∈ before, (fun b => decide (b < W.heap.size)) p.block = true := fun p hp => by simpa using hlt p hp
  refine ⟨ds, gs, before, [], pa, pv, hW, hres _ _ _, hargs _ hold, hvars _ hold, World.keptBut_mono (fun p hp => False.elim hp) hk.kept, fun _ => ?_⟩
  obtain ⟨_, _, _, _, _, hz, hn⟩ := hW
  refine ⟨hok, _, _, ([] ++ pa) ++ pv, ⟨[] ++ pa, pv, trodAll_append (hargs _ (fun _ _ => rfl)) (hres _ _ _), hvars _ (fun _ _ => rfl), rfl, ?_, ?_⟩, ?_⟩
  · intro b off hp
    have hp' : MemPlace.cell b off ∈ before := by rw [hps]; simpa using hp
    rw [hk.frozen _ (hlt _ hp')]
    exact hz b off hp'
  · intro ha
    have := hn ha
    rw [hps] at this
    simpa using this
  · intro p hp _
    rw [hps]
    simpa using hp
end Go.V
