/-
  The verification layer, part eleven: regions that draw their order and read memory: a load of what nobody before it writes is taken first; where several others may come up, each is followed.
-/
import Derived.Test.YtmlmhcejdlljjaaVeJ
import Derived.OrdersHeld
set_option linter.unusedSimpArgs false
set_option linter.unusedVariables false
namespace Go.V
variable {E : Env}

section any
variable {P : Program} {ops : Array Oper} {Q : Exit → Act → World → Prop} {md : Region.Mode} {S : World → Prop} {tail : Nat → Bool}

/-- as 'wpAny'; each operation that is no tail's keeps 'S' -/
def wpAnyT (P : Program) (md : Region.Mode) (ops : Array Oper) (Q : Exit → Act → World → Prop) (S : World → Prop) (tail : Nat → Bool) : Nat → Array Bool → Act → World → Prop
  | 0, listed, a, w => Region.ready md ops listed = [] ∧ Q .normal a w
  | fuel + 1, listed, a, w =>
    (Region.ready md ops listed = [] → Q .normal a w) ∧
    ∀ i ∈ Region.ready md ops listed, wpOp P ops Q i (fun a' w' => (tail i = true ∨ (S w → S w')) ∧ wpAnyT P md ops Q S tail fuel (listed.setIfInBounds i true) a' w') a w

theorem wpAny_of_T : ∀ (fuel : Nat) (listed : Array Bool) (a : Act) (w : World), wpAnyT P md ops Q S tail fuel listed a w → wpAny P md ops Q fuel listed a w
  | 0, _, _, _, h => h
  | fuel + 1, _, _, _, h => ⟨h.1, fun i hi => wpOp_mono (fun a' w' h' => wpAny_of_T fuel _ a' w' h'.2) (h.2 i hi)⟩

/-- what may be taken first: in every world if 'any' holds, else in those that meet S, and then no tail may come before it -/
theorem wpAnyT_first {i : Nat} {oi : Oper} {v : Value} (any : Bool) (hi : ops[i]? = some oi) (hsel : ∀ (j : Nat) (o : Oper) cs b, ops[j]? = some o → o.op ≠ .select cs b)
    (hQ : ∀ c a w, Q (.panic c) (a.put oi.dst v) w → Q (.panic c) a w)
    (htail : any = false → ∀ (listed : Array Bool) j, listed.getD i false = false → j ∈ Region.ready md ops listed → tail j = false) :
    ∀ (fuel : Nat) (listed : Array Bool) (a : Act) (w : World),
      (∀ j oj, ops[j]? = some oj → j ≠ i → listed.getD j true = false → (∀ e ∈ oj.after, Region.binds md e = true → e.on ≠ i) → oi.apart ops oj = true) →
      i ∈ Region.ready md ops listed → YieldsIf P ops (fun w => any = true ∨ S w) oi v a → (any = true ∨ S w) →
      wpAnyT P md ops Q S tail fuel (listed.setIfInBounds i true) (a.put oi.dst v) w → wpAnyT P md ops Q S tail (fuel + 1) listed a w := by
  intro fuel
  induction fuel with
  | zero =>
    intro listed a w _ hr hy hS H
    refine ⟨fun h => (by rw [h] at hr; cases hr), fun j hj => ?_⟩
    by_cases hji : j = i
    · subst hji; exact hy.wpOp hi hS ⟨.inr id, H⟩
    · have := ready_mono hj hji
      rw [H.1] at this
      cases this
  | succ fuel ih =>
    intro listed a w hfree hr hy hS H
    refine ⟨fun h => (by rw [h] at hr; cases hr), fun j hj => ?_⟩
    by_cases hji : j = i
    · subst hji; exact hy.wpOp hi hS ⟨.inr id, H⟩
    · have h1 := H.2 j (ready_mono hj hji)
      obtain ⟨hjun, oj, hoj, hall⟩ := mem_ready.1 hj
      have hiun := (mem_ready.1 hr).1
      have hiun' : listed.getD i false = false := by
        rcases Nat.lt_or_ge i listed.size with h' | h'
        · simp [h'] at hiun ⊢; exact hiun
        · simp [Array.getElem?_eq_none h']
      have hnot : ∀ e ∈ oj.after, Region.binds md e = true → e.on ≠ i := fun e he hb heq => by
        have h1 := hall e he hb
        rw [heq, hiun'] at h1
        cases h1
      have h2 := wpOp_putIf hoj (hfree j oj hoj hji hjun hnot) (fun cs b => hsel i oi cs b hi) (fun cs b => hsel j oj cs b hoj) hQ hy h1
      have hfree' : ∀ k ok, ops[k]? = some ok → k ≠ i → (listed.setIfInBounds j true).getD k true = false →
          (∀ e ∈ ok.after, Region.binds md e = true → e.on ≠ i) → oi.apart ops ok = true := fun k ok hk hki hun hno => by
        refine hfree k ok hk hki ?_ hno
        by_cases hjk : j = k
        · subst hjk; exact hjun
        · rw [getD_set_ne true hjk] at hun; exact hun
      refine wpOp_mono (fun a' w' h3 => ?_) h2
      obtain ⟨h3a, h3b, h3c⟩ := h3
      have hSj : any = true ∨ S w' := by
        cases hany : any with
        | true => exact .inl rfl
        | false =>
          have htj := htail hany listed j hiun' hj
          rcases h3b with h | h
          · rw [htj] at h; cases h
          · exact .inr (h (hS.resolve_left (by simp [hany])))
      refine ⟨h3b, ?_⟩
      refine ih (listed.setIfInBounds j true) a' w' hfree' (ready_mono hr (Ne.symm hji)) h3a hSj ?_
      rw [Array.setIfInBounds_comm _ _ hji]; exact h3c

theorem wpAnyT_take {i : Nat} {oi : Oper} {v : Value} {fuel : Nat} {listed : Array Bool} {a : Act} {w : World} (any : Bool) (hi : ops[i]? = some oi)
    (hs : Region.noSelect ops = true) (hf : Region.free md ops listed i = true) (hr : (Region.ready md ops listed).contains i = true)
    (hQ : ∀ c a w, Q (.panic c) (a.put oi.dst v) w → Q (.panic c) a w) (htail : any = false → ∀ (listed : Array Bool) j, listed.getD i false = false → j ∈ Region.ready md ops listed → tail j = false)
    (hy : YieldsIf P ops (fun w => any = true ∨ S w) oi v a) (hS : any = true ∨ S w)
    (h : wpAnyT P md ops Q S tail fuel (listed.setIfInBounds i true) (a.put oi.dst v) w) : wpAnyT P md ops Q S tail (fuel + 1) listed a w :=
  wpAnyT_first any hi (Region.noSelect_spec hs) hQ htail fuel listed a w (Region.free_spec hi hf) (by simpa using hr) hy hS h

theorem wpAnyT_all {rs : List Nat} {fuel : Nat} {listed : Array Bool} {a : Act} {w : World} (hr : ∀ i ∈ Region.ready md ops listed, i ∈ rs) (hne : Region.ready md ops listed ≠ [])
    (h : ∀ i ∈ rs, wpOp P ops Q i (fun a' w' => (tail i = true ∨ (S w → S w')) ∧ wpAnyT P md ops Q S tail fuel (listed.setIfInBounds i true) a' w') a w) : wpAnyT P md ops Q S tail (fuel + 1) listed a w :=
  ⟨fun h0 => absurd h0 hne, fun i hi => h i (hr i hi)⟩

theorem wpAnyT_done {listed : Array Bool} {a : Act} {w : World} (hr : Region.ready md ops listed = []) (h : Q .normal a w) : ∀ fuel, wpAnyT P md ops Q S tail fuel listed a w
  | 0 => ⟨hr, h⟩
  | _ + 1 => ⟨fun _ => h, by rw [hr]; simp⟩

end any

/-- an order, and where several may come up all of them -/
inductive DT where
  | nil
  | op (i : Nat) (t : DT)
  | both (s t : DT)

def DT.heads : DT → List Nat
  | .nil => []
  | .op i _ => [i]
  | .both s t => s.heads ++ t.heads

def DT.depth : DT → Nat
  | .nil => 0
  | .op _ t => t.depth + 1
  | .both s t => max (max s.depth t.depth) 1

/-- a tail waits for each of the loads that are taken first -/
def tailB (ops : Array Oper) (L : List Nat) (j : Nat) : Bool :=
  !L.isEmpty && L.all fun i => match ops[j]? with | some o => o.after.any fun e => Region.binds .any e && e.on == i | none => false

def isLoad : Op → Bool
  | .load .. => true
  | _ => false

/-- may it be taken first? -/
def firstB (T : Tys) (ops : Array Oper) (L : List Nat) (i : Nat) : Bool :=
  match ops[i]? with
  | some o => isPure T o.op || (isLoad o.op && L.contains i)
  | none => false

/-- 'alone': the ready ones have been seen to be among those that are followed -/
def DT.ok (T : Tys) (ops : Array Oper) (L : List Nat) : DT → Bool → Array Bool → Bool
  | .nil, _, listed => (Region.ready .any ops listed).isEmpty
  | .op i t, seen, listed => (if firstB T ops L i && !seen then (Region.ready .any ops listed).contains i && Region.free .any ops listed i
      else (ops[i]?).isSome && (seen || ((Region.ready .any ops listed).all fun j => j == i) && !(Region.ready .any ops listed).isEmpty)) && t.ok T ops L false (listed.setIfInBounds i true)
  | .both s t, seen, listed => (seen || ((Region.ready .any ops listed).all fun j => (s.heads ++ t.heads).contains j) && !(Region.ready .any ops listed).isEmpty) && s.ok T ops L true listed && t.ok T ops L true listed

def subK (Hs H : Heap) (k : Prop) (_ : Tok k := .mk) : Prop := (∀ p ∈ Hs, p ∈ H) ∧ k

/-- a load by what stood when the region began -/
def loadS (T : Tys) (Gs : PHeap) (Hs : Heap) (op : Op) (l : Fr) (k : Value → Prop) (_ : Tok k := .mk) : Prop :=
  match op with
  | .load t x => withV (ev l x) fun v => opLoad T Gs Hs t v k
  | _ => False

def wpT (P : Program) (T : Tys) (all : List Oper) (L : List Nat) (Gs : PHeap) (Hs : Heap) (t : DT) (G : PHeap) (l : Fr) (H : Heap) (K : PHeap → Fr → Heap → Prop) (_ : Tok all := .mk) (_ : Tok t := .mk) (_ : Tok K := .mk) : Prop :=
  match t with
  | .nil => K G l H
  | .both s t => wpT P T all L Gs Hs s G l H K ∧ wpT P T all L Gs Hs t G l H K
  | .op i t => opK (opAt all i) fun o =>
      if isLoad o.op && L.contains i then guardK all o.guard l (fun l' => loadS T Gs Hs o.op l' fun v => wpT P T all L Gs Hs t G (put l' o.dst v) H K) (fun l' => wpT P T all L Gs Hs t G (put l' o.dst undef) H K)
      else stepO P T all o G l H fun G' l' H' => if isPure T o.op || tailB all.toArray L i then wpT P T all L Gs Hs t G' l' H' K else subK Hs H' (wpT P T all L Gs Hs t G' l' H' K)

theorem tailB_ready {ops : Array Oper} {L : List Nat} {i j : Nat} (hi : i ∈ L) {listed : Array Bool} (hl : listed.getD i false = false) (hj : j ∈ Region.ready .any ops listed) : tailB ops L j = false := by
  cases ht : tailB ops L j with
  | false => rfl
  | true =>
    exfalso
    simp only [tailB, Bool.and_eq_true, List.all_eq_true] at ht
    have h1 := ht.2 i hi
    obtain ⟨_, o, ho, hall⟩ := mem_ready.1 hj
    simp only [ho] at h1
    obtain ⟨e, he, hb⟩ := Array.any_eq_true'.1 h1
    simp only [Bool.and_eq_true, beq_iff_eq] at hb
    have := hall e he hb.1
    rw [hb.2, hl] at this
    cases this

theorem loadS_val {P : Program} {T : Tys} (hT : TyOk P T) {Gs : PHeap} {Hs : Heap} {o : Oper} {sz : Nat} {G : PHeap} {l : Fr} {H : Heap} {a : Act} {w0 : World} {k : Value → Prop}
    (h : loadS T Gs Hs o.op l k) (hs : Sim E sz G l H a w0) : ∃ v, k v ∧ ∀ {E : Env} w, HeapOk E Gs Hs w → (execOp a.eval o).run P w = .ok (.value v) w := by
  obtain ⟨dst, op, ty, pos, after, guard⟩ := o
  cases op <;> simp only [loadS] at h
  case load t x =>
    have h1 := withV_ev hs h
    obtain ⟨v, h2, h3⟩ := runS_reads (P := P) (G := Gs) (Instr.loadAt t (a.eval x)) (H := Hs) (k := fun v _ => k v) (opLoad_sound hT h1)
    refine ⟨v, h2, fun w hw => ?_⟩
    show ((do pure (.value (← Instr.loadAt t (a.eval x))) : Sem Next)).run P w = _
    rw [Sem.run_bind, h3 w hw]
    rfl

theorem subK_ok {Gs G' : PHeap} {Hs H' : Heap} {w w' : World} (hle : PLe Gs G') (hw : HeapOk E Gs Hs w) (hw' : HeapOk E G' H' w') (hsub : ∀ p ∈ Hs, p ∈ H') : HeapOk E Gs Hs w' :=
  ⟨hw'.env, fun b o hb => hw'.pers b o (hle b o hb), fun p hp => hw'.own p (hsub p hp), hw.sep, hw'.dfr.1, fun D hD => ⟨(hw'.dfr.2 D hD).1, (hw.dfr.2 D hD).2⟩⟩

section sound
variable {P : Program} {T : Tys} {ops : Array Oper} {sz : Nat} {Q : Exit → Act → World → Prop} {L : List Nat} {Gs : PHeap} {Hs : Heap}

/-- carried out: what operation number 'i' does, and what follows -/
theorem wpT_carry (hT : TyOk P T) (hlt : dstsLt sz ops.toList = true) {i : Nat} {t : DT} {G : PHeap} {l : Fr} {H : Heap} {a : Act} {w : World} {K : PHeap → Fr → Heap → Prop} (hle0 : PLe Gs G)
    (hnf : isLoad (ops[i]?.getD default).op = true → L.contains i = true → HeapOk E Gs Hs w)
    (h : wpT P T ops.toList L Gs Hs (.op i t) G l H K) (hs : Sim E sz G l H a w) {fuel : Nat} {listed' : Array Bool}
    (hrest : ∀ G' l' H' a' w', PLe G G' → Sim E sz G' l' H' a' w' → (HeapOk E Gs Hs w → tailB ops L i = false → HeapOk E Gs Hs w') → wpT P T ops.toList L Gs Hs t G' l' H' K → wpAnyT P .any ops Q (HeapOk E Gs Hs) (tailB ops L) fuel listed' a' w') :
    wpOp P ops Q i (fun a' w' => (tailB ops L i = true ∨ (HeapOk E Gs Hs w → HeapOk E Gs Hs w')) ∧ wpAnyT P .any ops Q (HeapOk E Gs Hs) (tailB ops L) fuel listed' a' w') a w := by
  simp only [wpT, opAt, opK, Array.getElem?_toList] at h
  cases ho : ops[i]? with
  | none => rw [ho] at h; exact h.elim
  | some o =>
    simp only [ho] at h
    have hmem : o ∈ ops.toList := by have := Array.mem_of_getElem? ho; simpa using this
    have hdo := dstsLt_spec hlt o hmem
    unfold wpOp
    simp only [ho]
    split at h
    · rename_i hc
      simp only [Bool.and_eq_true] at hc
      have hSw : HeapOk E Gs Hs w := hnf (by rw [ho]; exact hc.1) hc.2
      obtain ⟨l', hs', hcase⟩ := guardK_at h hs
      rcases hcase with ⟨hw, hy⟩ | ⟨hw, hn⟩
      · rw [if_pos hw]
        obtain ⟨v, h1, h2⟩ := loadS_val hT hy hs'
        refine .inl ?_
        unfold Oper.wp
        rw [h2 w hSw]
        exact ⟨.inr id, hrest _ _ _ _ _ (PLe.refl _) (hs'.put hs'.heap hdo) (fun h _ => h) h1⟩
      · rw [if_neg (by simp [hw])]
        exact ⟨.inr id, hrest _ _ _ _ _ (PLe.refl _) (hs'.put hs'.heap hdo) (fun h _ => h) hn⟩
    · unfold stepO at h
      obtain ⟨l', hs', hcase⟩ := guardK_at h hs
      have fin : ∀ {G' : PHeap} {l2 : Fr} {H' : Heap} {a' : Act} {w' : World}, PLe G G' → Sim E sz G' l2 H' a' w' → (isPure T o.op = true → HeapOk E Gs Hs w → HeapOk E Gs Hs w') →
          (if (isPure T o.op || tailB ops L i) = true then wpT P T ops.toList L Gs Hs t G' l2 H' K else subK Hs H' (wpT P T ops.toList L Gs Hs t G' l2 H' K)) →
          (tailB ops L i = true ∨ (HeapOk E Gs Hs w → HeapOk E Gs Hs w')) ∧ wpAnyT P .any ops Q (HeapOk E Gs Hs) (tailB ops L) fuel listed' a' w' := fun hle hs2 hpu hh => by
        split at hh
        · rename_i hp
          cases htl : tailB ops L i with
          | true => exact ⟨.inl rfl, hrest _ _ _ _ _ hle hs2 (fun _ h => by rw [htl] at h; cases h) hh⟩
          | false =>
            have hp' : isPure T o.op = true := by simpa [htl] using hp
            exact ⟨.inr (hpu hp'), hrest _ _ _ _ _ hle hs2 (fun h _ => hpu hp' h) hh⟩
        · obtain ⟨hsub, hh⟩ := hh
          have hkeep : HeapOk E Gs Hs w → HeapOk E Gs Hs _ := fun h => subK_ok (hle0.trans hle) h hs2.heap hsub
          exact ⟨.inr hkeep, hrest _ _ _ _ _ hle hs2 (fun h _ => hkeep h) hh⟩
      rcases hcase with ⟨hw, hy⟩ | ⟨hw, hn⟩
      · rw [if_pos hw]
        refine .inl ?_
        by_cases hp : isPure T o.op = true
        · obtain ⟨v, h1, h2⟩ := pure_runs hT hp hy hs'
          unfold Oper.wp
          rw [h2 w]
          exact fin (PLe.refl _) (hs'.put hs'.heap hdo) (fun _ h => h) h1
        · exact stepF_sound hT hy hs' fun v G' H' w' hle hw' hk' => fin hle (hs'.put hw' hdo) (fun h => absurd h hp) hk'
      · rw [if_neg (by simp [hw])]
        exact fin (PLe.refl _) (hs'.put hs'.heap hdo) (fun _ h => h) hn

theorem wpT_sound (hT : TyOk P T) (hsel : Region.noSelect ops = true) (hlt : dstsLt sz ops.toList = true) (hQ : ∀ c a a' w, Q (.panic c) a w → Q (.panic c) a' w) {K : PHeap → Fr → Heap → Prop} :
    ∀ (t : DT) (listed : Array Bool) {G : PHeap} {l : Fr} {H : Heap} {a : Act} {w : World} (fuel : Nat), PLe Gs G → Sim E sz G l H a w → wpT P T ops.toList L Gs Hs t G l H K →
    (HeapOk E Gs Hs w ∨ ∀ i ∈ L, listed.getD i false = true) →
    (∀ G' l' H' a' w', PLe G G' → Sim E sz G' l' H' a' w' → K G' l' H' → Q .normal a' w') →
    (t.ok T ops L false listed = true → t.depth ≤ fuel → wpAnyT P .any ops Q (HeapOk E Gs Hs) (tailB ops L) fuel listed a w) ∧
    (t.ok T ops L true listed = true → t.depth ≤ fuel + 1 → ∀ i ∈ t.heads, i ∈ Region.ready .any ops listed → wpOp P ops Q i (fun a' w' => (tailB ops L i = true ∨ (HeapOk E Gs Hs w → HeapOk E Gs Hs w')) ∧ wpAnyT P .any ops Q (HeapOk E Gs Hs) (tailB ops L) fuel (listed.setIfInBounds i true) a' w') a w) := by
  intro t
  induction t with
  | nil =>
    intro listed G l H a w fuel hle hs h hS hk
    refine ⟨fun hok _ => wpAnyT_done (by simpa [DT.ok] using hok) (hk G l H a w (PLe.refl _) hs h) fuel, fun _ _ i hi => by cases hi⟩
  | op i t ih =>
    intro listed G l H a w fuel hle hs h hS hk
    have carry : ∀ fuel, i ∈ Region.ready .any ops listed → t.ok T ops L false (listed.setIfInBounds i true) = true → t.depth ≤ fuel →
        wpOp P ops Q i (fun a' w' => (tailB ops L i = true ∨ (HeapOk E Gs Hs w → HeapOk E Gs Hs w')) ∧ wpAnyT P .any ops Q (HeapOk E Gs Hs) (tailB ops L) fuel (listed.setIfInBounds i true) a' w') a w := fun fuel hr hok hf => by
      refine wpT_carry hT hlt hle ?_ h hs ?_
      · intro _ hL
        rcases hS with hS | hS
        · exact hS
        · exfalso
          have h1 := (mem_ready.1 hr).1
          have h2 := hS i (by simpa using hL)
          rcases Nat.lt_or_ge i listed.size with h' | h'
          · simp [h'] at h1 h2; rw [h1] at h2; cases h2
          · simp [Array.getElem?_eq_none h'] at h1
      · intro G' l' H' a' w' hle' hs' hkeep hwp
        refine (ih (listed.setIfInBounds i true) fuel (hle.trans hle') hs' hwp ?_ (fun G2 l2 H2 a2 w2 hle2 hs2 hk2 => hk G2 l2 H2 a2 w2 (hle'.trans hle2) hs2 hk2)).1 hok hf
        have hall : (∀ j ∈ L, listed.getD j false = true) → ∀ j ∈ L, (listed.setIfInBounds i true).getD j false = true := fun h j hj => getD_set_true (h j hj)
        rcases hS with hS | hS
        · cases htl : tailB ops L i with
          | false => exact .inl (hkeep hS htl)
          | true =>
            refine .inr (hall fun j hj => ?_)
            cases hg : listed.getD j false with
            | true => rfl
            | false => have := tailB_ready hj hg hr; rw [htl] at this; cases this
        · exact .inr (hall hS)
    refine ⟨fun hok hf => ?_, fun hok hf j hj hr => ?_⟩
    · obtain ⟨fuel, rfl⟩ : ∃ f, fuel = f + 1 := ⟨fuel - 1, by simp only [DT.depth] at hf; omega⟩
      simp only [DT.depth] at hf
      simp only [DT.ok, Bool.and_eq_true] at hok
      obtain ⟨hok1, hok2⟩ := hok
      by_cases hfirst : firstB T ops L i = true
      · rw [if_pos (by simp [hfirst]), Bool.and_eq_true] at hok1
        have hr : i ∈ Region.ready .any ops listed := by simpa using hok1.1
        simp only [wpT, opAt, opK, Array.getElem?_toList] at h
        unfold firstB at hfirst
        cases ho : ops[i]? with
        | none => rw [ho] at h; exact h.elim
        | some o =>
          simp only [ho] at h hfirst
          have hmem : o ∈ ops.toList := by have := Array.mem_of_getElem? ho; simpa using this
          have hdo := dstsLt_spec hlt o hmem
          have next : ∀ {l' : Fr} {v : Value}, Sim E sz G (put l' o.dst v) H (a.put o.dst v) w → wpT P T ops.toList L Gs Hs t G (put l' o.dst v) H K → wpAnyT P .any ops Q (HeapOk E Gs Hs) (tailB ops L) fuel (listed.setIfInBounds i true) (a.put o.dst v) w := fun hs2 hwp =>
            (ih (listed.setIfInBounds i true) fuel hle hs2 hwp (match hS with | .inl hS => .inl hS | .inr hS => .inr fun j hj => getD_set_true (hS j hj)) hk).1 hok2 (by omega)
          have hunl : HeapOk E Gs Hs w ∨ L.contains i = false := by
            rcases hS with hS | hS
            · exact .inl hS
            · refine .inr ?_
              cases hc : L.contains i with
              | false => rfl
              | true =>
                exfalso
                have h1 := (mem_ready.1 hr).1
                have h2 := hS i (by simpa using hc)
                rcases Nat.lt_or_ge i listed.size with h' | h'
                · simp [h'] at h1 h2; rw [h1] at h2; cases h2
                · simp [Array.getElem?_eq_none h'] at h1
          by_cases hl : (isLoad o.op && L.contains i) = true
          · rw [if_pos hl] at h
            simp only [Bool.and_eq_true] at hl
            have hSw : HeapOk E Gs Hs w := hunl.resolve_right (by rw [hl.2]; simp)
            obtain ⟨l', hs', hcase⟩ := guardK_at h hs
            have htail : false = false → ∀ (listed : Array Bool) j, listed.getD i false = false → j ∈ Region.ready .any ops listed → tailB ops L j = false := fun _ listed j h1 h2 => tailB_ready (by simpa using hl.2) h1 h2
            rcases hcase with ⟨hw, hy⟩ | ⟨hw, hn⟩
            · obtain ⟨v, h1, h2⟩ := loadS_val hT hy hs'
              exact wpAnyT_take false ho hsel hok1.2 hok1.1 (fun c a w hq => hQ c _ _ w hq) htail (v := v) (.inl ⟨hw, fun w hw => h2 w (hw.resolve_left (by simp))⟩) (.inr hSw) (next (hs'.put hs'.heap hdo) h1)
            · exact wpAnyT_take false ho hsel hok1.2 hok1.1 (fun c a w hq => hQ c _ _ w hq) htail (v := undef) (.inr ⟨hw, rfl⟩) (.inr hSw) (next (hs'.put hs'.heap hdo) hn)
          · rw [if_neg hl] at h
            have hp : isPure T o.op = true := by
              simp only [Bool.or_eq_true] at hfirst
              exact hfirst.resolve_right hl
            unfold stepO at h
            obtain ⟨l', hs', hcase⟩ := guardK_at h hs
            rcases hcase with ⟨hw, hy⟩ | ⟨hw, hn⟩
            · obtain ⟨v, h1, h2⟩ := pure_runs hT hp hy hs'
              rw [if_pos (by simp [hp])] at h1
              exact wpAnyT_take true ho hsel hok1.2 hok1.1 (fun c a w hq => hQ c _ _ w hq) (fun h => by cases h) (v := v) (.inl ⟨hw, fun w _ => h2 w⟩) (.inl rfl) (next (hs'.put hs'.heap hdo) h1)
            · rw [if_pos (by simp [hp])] at hn
              exact wpAnyT_take true ho hsel hok1.2 hok1.1 (fun c a w hq => hQ c _ _ w hq) (fun h => by cases h) (v := undef) (.inr ⟨hw, rfl⟩) (.inl rfl) (next (hs'.put hs'.heap hdo) hn)
      · rw [if_neg (by simp [hfirst])] at hok1
        simp only [Bool.false_or, Bool.and_eq_true] at hok1
        have hne : Region.ready .any ops listed ≠ [] := by
          have := hok1.2.2
          simpa using this
        have hall : ∀ j ∈ Region.ready .any ops listed, j = i := by
          have := hok1.2.1
          simpa using this
        refine wpAnyT_all (rs := [i]) (fun j hj => by simp [hall j hj]) hne fun j hj => ?_
        obtain rfl : j = i := by simpa using hj
        refine carry fuel ?_ hok2 (by omega)
        obtain ⟨x, hx⟩ := List.exists_mem_of_ne_nil _ hne
        rw [← hall x hx]; exact hx
    · simp only [DT.heads, List.mem_singleton] at hj
      subst hj
      simp only [DT.depth] at hf
      simp only [DT.ok, Bool.and_eq_true] at hok
      exact carry fuel hr hok.2 (by omega)
  | both s t ihs iht =>
    intro listed G l H a w fuel hle hs h hS hk
    simp only [wpT] at h
    have B : ∀ fuel, s.ok T ops L true listed = true → t.ok T ops L true listed = true → max s.depth t.depth ≤ fuel + 1 → ∀ i ∈ s.heads ++ t.heads, i ∈ Region.ready .any ops listed → wpOp P ops Q i (fun a' w' => (tailB ops L i = true ∨ (HeapOk E Gs Hs w → HeapOk E Gs Hs w')) ∧ wpAnyT P .any ops Q (HeapOk E Gs Hs) (tailB ops L) fuel (listed.setIfInBounds i true) a' w') a w := fun fuel h1 h2 hf i hi hr => by
      rcases List.mem_append.1 hi with hi | hi
      · exact (ihs listed fuel hle hs h.1 hS hk).2 h1 (by omega) i hi hr
      · exact (iht listed fuel hle hs h.2 hS hk).2 h2 (by omega) i hi hr
    refine ⟨fun hok hf => ?_, fun hok hf i hi hr => ?_⟩
    · simp only [DT.ok, Bool.false_or, Bool.and_eq_true] at hok
      have hne : Region.ready .any ops listed ≠ [] := by
        have := hok.1.1.2
        simpa using this
      have hall : ∀ j ∈ Region.ready .any ops listed, j ∈ s.heads ++ t.heads := by
        have := hok.1.1.1
        simpa using this
      cases fuel with
      | zero =>
        exfalso
        obtain ⟨x, hx⟩ := List.exists_mem_of_ne_nil _ hne
        have hx' := hall x hx
        simp only [DT.depth] at hf
        rcases List.mem_append.1 hx' with hx' | hx'
        · cases s with
          | nil => cases hx'
          | op i s => simp only [DT.depth] at hf; omega
          | both s1 s2 => simp only [DT.depth] at hf; omega
        · cases t with
          | nil => cases hx'
          | op i s => simp only [DT.depth] at hf; omega
          | both s1 s2 => simp only [DT.depth] at hf; omega
      | succ fuel =>
        simp only [DT.depth] at hf
        refine wpAnyT_all (rs := Region.ready .any ops listed) (fun j hj => hj) hne fun i hi => B fuel hok.1.2 hok.2 (by omega) i (hall i hi) hi
    · simp only [DT.ok, Bool.true_or, Bool.true_and, Bool.and_eq_true] at hok
      simp only [DT.depth] at hf
      exact B fuel hok.1 hok.2 (by omega) i hi hr
end sound

theorem Tri.drawT {P : Program} {T : Tys} (hT : TyOk P T) (hm : P.follows .mixedOrders = true) {sz : Nat} (keep : List Nat) (id : Nat) {ops : List Oper} {G : PHeap} {l : Fr} {H : Heap} {K : Post} (L : List Nat) (t : DT)
    (hok : (Region.noSelect ops.toArray && dstsLt sz ops && t.ok T ops.toArray L false (Array.replicate ops.toArray.size false) && decide (t.depth ≤ ops.toArray.size)) = true)
    (Hs : Heap) (hsub : ∀ {E : Env} {w : World}, HeapOk E G H w → HeapOk E G Hs w)
    (h : wpT P T ops L G Hs t G l H fun G' l' H' => K .normal G' (restrict keep l') H') : Tri P sz (.region id ops.toArray true) G l H K := by
  intro E a w Q hs hk
  simp only [Bool.and_eq_true, decide_eq_true_eq] at hok
  obtain ⟨⟨⟨h1, h2⟩, h3⟩, h4⟩ := hok
  refine wp_mono (Q := fun e a w => match e with | .normal => Q .normal a w | _ => False) (wp_region_any hm (wpAny_of_T (S := HeapOk E G Hs) (tail := tailB ops.toArray L) _ _ _ _ ?_)) (fun e a w hq => by cases e <;> first | exact hq | exact hq.elim)
  have hs1 : Sim E sz G l H a { w with drawn := w.drawn + 1 } := ⟨hs.size, hs.defers, hs.fr, hs.heap.drew _⟩
  refine (wpT_sound hT (ops := ops.toArray) h1 h2 (fun c a a' w hq => hq.elim) t _ _ (PLe.refl _) hs1 h (.inl (hsub hs1.heap)) ?_).1 h3 h4
  intro G' l' H' a' w' hle hs' hk'
  exact hk E .normal G' _ H' a' w' (Env.le.refl E) hle (hs'.weak (look_restrict keep l')) hk'

/-- how an operation is met: as it stands (it is taken first, or is a tail); a load by what stood; one that keeps what is read -/
inductive DO where
  | plain | held | keeps

inductive DM where
  | nil
  | op (i : Nat) (m : DO) (t : DM)
  | both (s t : DM)

def DM.bare : DM → DT
  | .nil => .nil
  | .op i _ t => .op i t.bare
  | .both s t => .both s.bare t.bare

def DM.fits (T : Tys) (ops : Array Oper) (L : List Nat) : DM → Bool
  | .nil => true
  | .both s t => s.fits T ops L && t.fits T ops L
  | .op i m t => t.fits T ops L && match ops[i]? with
    | none => false
    | some o => match m with
      | .held => isLoad o.op && L.contains i
      | .plain => !(isLoad o.op && L.contains i) && (isPure T o.op || tailB ops L i)
      | .keeps => !(isLoad o.op && L.contains i) && !(isPure T o.op || tailB ops L i)

def wpM (P : Program) (T : Tys) (all : List Oper) (Gs : PHeap) (Hs : Heap) (t : DM) (G : PHeap) (l : Fr) (H : Heap) (K : PHeap → Fr → Heap → Prop) (_ : Tok all := .mk) (_ : Tok t := .mk) (_ : Tok K := .mk) : Prop :=
  match t with
  | .nil => K G l H
  | .both s t => wpM P T all Gs Hs s G l H K ∧ wpM P T all Gs Hs t G l H K
  | .op i .plain t => opK (opAt all i) fun o => stepO P T all o G l H fun G' l' H' => wpM P T all Gs Hs t G' l' H' K
  | .op i .held t => opK (opAt all i) fun o => guardK all o.guard l (fun l' => loadS T Gs Hs o.op l' fun v => wpM P T all Gs Hs t G (put l' o.dst v) H K) (fun l' => wpM P T all Gs Hs t G (put l' o.dst undef) H K)
  | .op i .keeps t => opK (opAt all i) fun o => stepO P T all o G l H fun G' l' H' => subK Hs H' (wpM P T all Gs Hs t G' l' H' K)

theorem wpM_eq {P : Program} {T : Tys} {ops : Array Oper} {L : List Nat} {Gs : PHeap} {Hs : Heap} {K : PHeap → Fr → Heap → Prop} : ∀ (t : DM), t.fits T ops L = true → ∀ (G : PHeap) (l : Fr) (H : Heap),
    wpM P T ops.toList Gs Hs t G l H K = wpT P T ops.toList L Gs Hs t.bare G l H K := by
  intro t
  induction t with
  | nil => intro _ G l H; rfl
  | both s t ihs iht =>
    intro h G l H
    simp only [DM.fits, Bool.and_eq_true] at h
    simp only [wpM, DM.bare, wpT, ihs h.1, iht h.2]
  | op i m t ih =>
    intro h G l H
    simp only [DM.fits, Bool.and_eq_true] at h
    have ih' := ih h.1
    have e : (fun G' l' H' => wpM P T ops.toList Gs Hs t G' l' H' K) = (fun G' l' H' => wpT P T ops.toList L Gs Hs t.bare G' l' H' K) := by
      funext G' l' H'; exact ih' G' l' H'
    have h2 := h.2
    simp only [DM.bare, wpT, opAt, opK, Array.getElem?_toList]
    cases ho : ops[i]? with
    | none => rw [ho] at h2; cases h2
    | some o =>
      rw [ho] at h2
      cases m with
      | held =>
        simp only [] at h2
        simp only [wpM, opAt, opK, Array.getElem?_toList, ho, h2, if_true]
        have e1 : ∀ l', (fun v => wpM P T ops.toList Gs Hs t G (put l' o.dst v) H K) = (fun v => wpT P T ops.toList L Gs Hs t.bare G (put l' o.dst v) H K) := fun l' => by funext v; exact ih' _ _ _
        have e2 : (fun l' => wpM P T ops.toList Gs Hs t G (put l' o.dst undef) H K) = (fun l' => wpT P T ops.toList L Gs Hs t.bare G (put l' o.dst undef) H K) := by funext l'; exact ih' _ _ _
        have e3 : (fun l' => loadS T Gs Hs o.op l' fun v => wpM P T ops.toList Gs Hs t G (put l' o.dst v) H K) = (fun l' => loadS T Gs Hs o.op l' fun v => wpT P T ops.toList L Gs Hs t.bare G (put l' o.dst v) H K) := by
          funext l'; rw [e1 l']
        rw [e3, e2]
      | plain =>
        simp only [Bool.and_eq_true, Bool.not_eq_true'] at h2
        simp only [wpM, opAt, opK, Array.getElem?_toList, ho, h2.1]
        have e5 : (fun G' l' H' => if (isPure T o.op || tailB ops.toList.toArray L i) = true then wpT P T ops.toList L Gs Hs t.bare G' l' H' K else subK Hs H' (wpT P T ops.toList L Gs Hs t.bare G' l' H' K)) = (fun G' l' H' => wpT P T ops.toList L Gs Hs t.bare G' l' H' K) := by
          funext G' l' H'
          have h3 := h2.2
          rw [if_pos h3]
        rw [if_neg (by decide), e, ← e5]
      | keeps =>
        simp only [Bool.and_eq_true, Bool.not_eq_true'] at h2
        simp only [wpM, opAt, opK, Array.getElem?_toList, ho, h2.1, h2.2, Bool.false_eq_true, if_false]
        have e4 : (fun G' l' H' => subK Hs H' (wpM P T ops.toList Gs Hs t G' l' H' K)) = (fun G' l' H' => subK Hs H' (wpT P T ops.toList L Gs Hs t.bare G' l' H' K)) := by
          funext G' l' H'; rw [ih' G' l' H']
        have e5 : (fun G' l' H' => if (isPure T o.op || tailB ops.toList.toArray L i) = true then wpT P T ops.toList L Gs Hs t.bare G' l' H' K else subK Hs H' (wpT P T ops.toList L Gs Hs t.bare G' l' H' K)) = (fun G' l' H' => subK Hs H' (wpT P T ops.toList L Gs Hs t.bare G' l' H' K)) := by
          funext G' l' H'
          have h3 := h2.2
          rw [if_neg (show ¬ (isPure T o.op || tailB ops.toList.toArray L i) = true by rw [show ops.toList.toArray = ops from rfl, h3]; decide)]
        rw [e4, ← e5]

def drawB (T : Tys) (sz : Nat) (ops : List Oper) (L : List Nat) (t : DM) : Bool :=
  Region.noSelect ops.toArray && dstsLt sz ops && t.bare.ok T ops.toArray L false (Array.replicate ops.toArray.size false) && decide (t.bare.depth ≤ ops.toArray.size) && t.fits T ops.toArray L

theorem Tri.drawG {P : Program} {T : Tys} (hT : TyOk P T) (hm : P.follows .mixedOrders = true) {sz : Nat} (keep : List Nat) (id : Nat) {ops : List Oper} {G : PHeap} {l : Fr} {H : Heap} {K : Post} (L : List Nat) (t : DM)
    (hok : drawB T sz ops L t = true) (Hs : Heap) (hsub : ∀ {E : Env} {w : World}, HeapOk E G H w → HeapOk E G Hs w)
    (h : wpM P T ops G Hs t G l H fun G' l' H' => K .normal G' (restrict keep l') H') : Tri P sz (.region id ops.toArray true) G l H K := by
  simp only [drawB, Bool.and_eq_true] at hok
  refine Tri.drawT hT hm keep id L t.bare ?_ Hs hsub ?_
  · simp only [Bool.and_eq_true]; exact hok.1
  · have := wpM_eq (P := P) (T := T) (ops := ops.toArray) (L := L) (Gs := G) (Hs := Hs) (K := fun G' l' H' => K .normal G' (restrict keep l') H') t hok.2 G l H
    rw [← this]; exact h

/-- A REGION THAT DRAWS ITS ORDER -/
theorem Tri.drawM {P : Program} {T : Tys} (hT : TyOk P T) (hm : P.follows .mixedOrders = true) {sz : Nat} (keep : List Nat) (id : Nat) {ops : List Oper} {G : PHeap} {l : Fr} {H : Heap} {K : Post} (L : List Nat) (t : DM)
    (hok : drawB T sz ops L t = true) (Hs : Heap) (hsub : Hs.Sublist H)
    (h : wpM P T ops G Hs t G l H fun G' l' H' => K .normal G' (restrict keep l') H') : Tri P sz (.region id ops.toArray true) G l H K :=
  Tri.drawG hT hm keep id L t hok Hs (fun h => h.sub hsub) h

/-- the blocks at which some slots point -/
def heldH (l : Fr) : List Nat → Heap → Heap
  | [], _ => []
  | t :: ts, H => match look l t with
    | some (.pointer (some ⟨b, _, none⟩)) => match findH H b with
      | some r => (b, r) :: heldH l ts (eraseH H b)
      | none => heldH l ts H
    | _ => heldH l ts H

theorem setH_same' {H : Heap} {b : Nat} {r : Res} (hf : findH H b = some r) : setH H b r = H := by
  induction H with
  | nil => rfl
  | cons p H ih =>
    obtain ⟨k, s⟩ := p
    simp only [findH] at hf
    simp only [setH]
    split at hf
    · rename_i hk; rw [if_pos hk]; cases hf; rfl
    · rename_i hk; rw [if_neg hk, ih hf]

theorem heldH_perm (l : Fr) : ∀ (ts : List Nat) (H : Heap), ∃ r, H.Perm (heldH l ts H ++ r)
  | [], H => ⟨H, List.Perm.refl _⟩
  | t :: ts, H => by
    simp only [heldH]
    split
    · rename_i b o hv
      split
      · rename_i r hr
        obtain ⟨rest, h2⟩ := heldH_perm l ts (eraseH H b)
        have h1 := setH_perm (r' := r) hr
        rw [setH_same' hr] at h1
        exact ⟨rest, h1.trans (h2.cons _)⟩
      · exact heldH_perm l ts H
    · exact heldH_perm l ts H

theorem Tri.drawH {P : Program} {T : Tys} (hT : TyOk P T) (hm : P.follows .mixedOrders = true) {sz : Nat} (keep : List Nat) (id : Nat) {ops : List Oper} {G : PHeap} {l : Fr} {H : Heap} {K : Post} (L : List Nat) (t : DM)
    (hok : drawB T sz ops L t = true) (ts : List Nat)
    (h : wpM P T ops G (heldH l ts H) t G l H fun G' l' H' => K .normal G' (restrict keep l') H') : Tri P sz (.region id ops.toArray true) G l H K :=
  Tri.drawG hT hm keep id L t hok (heldH l ts H) (fun h => by
    obtain ⟨r, hr⟩ := heldH_perm l ts H
    exact (h.perm hr).sub (List.sublist_append_left _ _)) h

def heldF (l : Fr) (ts : List Nat) (H : Heap) (b : Nat) : Option Res → Heap
  | some r => (b, r) :: heldH l ts (eraseH H b)
  | none => heldH l ts H
def heldV (l : Fr) (ts : List Nat) (H : Heap) : Option Value → Heap
  | some (.pointer (some ⟨b, _, none⟩)) => heldF l ts H b (findH H b)
  | _ => heldH l ts H
theorem heldH_nil (l : Fr) (H : Heap) : heldH l [] H = [] := rfl
theorem heldH_cons (l : Fr) (t : Nat) (ts : List Nat) (H : Heap) : heldH l (t :: ts) H = heldV l ts H (look l t) := by
  simp only [heldH, heldV, heldF]
theorem heldV_ptr (l : Fr) (ts : List Nat) (H : Heap) (b o : Nat) : heldV l ts H (some (.pointer (some ⟨b, o, none⟩))) = heldF l ts H b (findH H b) := rfl
theorem heldF_some (l : Fr) (ts : List Nat) (H : Heap) (b : Nat) (r : Res) : heldF l ts H b (some r) = (b, r) :: heldH l ts (eraseH H b) := rfl
theorem heldF_none (l : Fr) (ts : List Nat) (H : Heap) (b : Nat) : heldF l ts H b none = heldH l ts H := rfl
theorem findH_nil (b : Nat) : findH [] b = none := rfl
theorem subK_skip {Hs : Heap} {p : Nat × Res} {H : Heap} {k : Prop} (h : subK Hs H k) : subK Hs (p :: H) k := ⟨fun q hq => List.mem_cons_of_mem _ (h.1 q hq), h.2⟩
theorem subK_take {p : Nat × Res} {Hs H : Heap} {k : Prop} (h1 : p ∈ H) (h : subK Hs H k) : subK (p :: Hs) H k := ⟨fun q hq => by
  rcases List.mem_cons.1 hq with rfl | hq
  · exact h1
  · exact h.1 q hq, h.2⟩

section
variable (P : Program) (T : Tys) (all : List Oper) (Gs : PHeap) (Hs : Heap) (s t : DM) (i : Nat) (G : PHeap) (l : Fr) (H : Heap) (K : PHeap → Fr → Heap → Prop)
theorem wpM_nil : wpM P T all Gs Hs .nil G l H K = K G l H := rfl
theorem wpM_both : wpM P T all Gs Hs (.both s t) G l H K = (wpM P T all Gs Hs s G l H K ∧ wpM P T all Gs Hs t G l H K) := rfl
theorem wpM_plain : wpM P T all Gs Hs (.op i .plain t) G l H K = opK (opAt all i) fun o => stepO P T all o G l H fun G' l' H' => wpM P T all Gs Hs t G' l' H' K := rfl
/-- a held load, read off the operation -/
def heldK (o : Oper) (all : List Oper) (l : Fr) (yes : Op → Option Nat → Fr → Prop) (no : Option Nat → Fr → Prop) (_ : Tok all := .mk) (_ : Tok yes := .mk) (_ : Tok no := .mk) : Prop :=
  guardK all o.guard l (fun l' => yes o.op o.dst l') (fun l' => no o.dst l')
theorem wpM_held : wpM P T all Gs Hs (.op i .held t) G l H K = opK (opAt all i) fun o => heldK o all l (fun op d l' => loadS T Gs Hs op l' fun v => wpM P T all Gs Hs t G (put l' d v) H K) (fun d l' => wpM P T all Gs Hs t G (put l' d undef) H K) := rfl
theorem heldK_plain (d : Option Nat) (op : Op) (ty : TypeId) (p : String) (af : Array Edge) (yes : Op → Option Nat → Fr → Prop) (no : Option Nat → Fr → Prop) : heldK ⟨d, op, ty, p, af, none⟩ all l yes no = yes op d l := rfl
theorem heldK_guard (d : Option Nat) (op : Op) (ty : TypeId) (p : String) (af : Array Edge) (g : Nat × Bool) (yes : Op → Option Nat → Fr → Prop) (no : Option Nat → Fr → Prop) : heldK ⟨d, op, ty, p, af, some g⟩ all l yes no = guardK all (some g) l (fun l' => yes op d l') (fun l' => no d l') := rfl
theorem wpM_keeps : wpM P T all Gs Hs (.op i .keeps t) G l H K = opK (opAt all i) fun o => stepO P T all o G l H fun G' l' H' => subK Hs H' (wpM P T all Gs Hs t G' l' H' K) := rfl
theorem loadS_load (ty : TypeId) (x : Operand) (k : Value → Prop) : loadS T Gs Hs (.load ty x) l k = withV (ev l x) fun v => opLoad T Gs Hs ty v k := rfl
theorem subK_nil (k : Prop) : subK [] H k = k := by simp [subK]
theorem subK_same (k : Prop) : subK H H k = k := by simp [subK]
theorem subK_cons (p : Nat × Res) (k : Prop) : subK H (p :: H) k = k := by
  unfold subK; simp only [eq_iff_iff, and_iff_right_iff_imp]; exact fun _ q hq => List.mem_cons_of_mem _ hq
end

theorem subK_mem (p : Nat × Res) (Hs H : Heap) (k : Prop) (h : p ∈ H) : subK (p :: Hs) H k = subK Hs H k := by
  unfold subK; simp only [List.mem_cons, forall_eq_or_imp, h, true_and]
attribute [go_sem] heldH_nil heldH_cons heldV_ptr heldF_some heldF_none findH_nil subK_mem
attribute [go_sem] wpM_nil wpM_both wpM_plain wpM_held heldK_plain heldK_guard wpM_keeps loadS_load subK_nil subK_same subK_cons

end Go.V
