/-
  The verification layer: pieces of a function's body, each walked by itself.
-/
import Derived.Test.YtmlmhcejdlljjaaVeP
set_option linter.unusedSimpArgs false
set_option linter.unusedVariables false
namespace Go.V
variable {E : Env}

/-- where a body is cut -/
inductive Sk where
  | run
  | cut
  | seq (a b : Sk)
  | cond (a b : Sk)
  | block (a : Sk)

/-- the run of a body, but for the pieces that are cut out -/
def wpS (P : Program) (T : Tys) (sz : Nat) (keep : List Nat) (s : Sk) (c : Code) (G : PHeap) (l : Fr) (H : Heap) (K : Post) (_ : Tok c := .mk) (_ : Tok K := .mk) : Prop :=
  match s, c with
  | .cut, c => Tri P sz c G l H K
  | .seq a b, .seq x y => wpS P T sz keep a x G l H (thenK (fun G' l' H' => wpS P T sz keep b y G' l' H' K) K .mk .mk)
  | .cond a b, .cond e x y => withV (ev l e) fun v => condK v (wpS P T sz keep a x G l H K) (wpS P T sz keep b y G l H K)
  | .block a, .block id c => wpS P T sz keep a c G l H (blockK id K .mk)
  | _, c => wpC P T sz keep c G l H K

theorem wpS_sound {P : Program} {T : Tys} (hT : TyOk P T) {sz : Nat} {keep : List Nat} : ∀ (s : Sk) (c : Code) {G : PHeap} {l : Fr} {H : Heap} {K : Post}, codeLt sz c = true → wpS P T sz keep s c G l H K → Tri P sz c G l H K := by
  intro s
  induction s with
  | run => intro c G l H K hlt h; unfold wpS at h; exact wpC_sound hT c hlt h
  | cut => intro c G l H K hlt h; unfold wpS at h; exact h
  | seq a b iha ihb =>
    intro c G l H K hlt h
    cases c with
    | seq x y =>
      simp only [codeLt, Bool.and_eq_true] at hlt
      unfold wpS at h
      intro E a w Q hs hk
      refine wp_seq (iha x hlt.1 h a w _ hs fun E' e G' l' H' a' w' hE hle hs' hk' => ?_)
      cases e with
      | normal => exact ihb y hlt.2 hk' a' w' Q hs' fun E2 e G2 l2 H2 a2 w2 hE2 hle2 hs2 hk2 => hk E2 e G2 l2 H2 a2 w2 (hE.trans hE2) (hle.trans hle2) hs2 hk2
      | exit id => exact hk E' (.exit id) G' l' H' a' w' hE hle hs' hk'
      | ret => exact hk E' .ret G' l' H' a' w' hE hle hs' hk'
    | _ => unfold wpS at h; exact wpC_sound hT _ hlt h
  | cond a b iha ihb =>
    intro c G l H K hlt h
    cases c with
    | cond e x y =>
      simp only [codeLt, Bool.and_eq_true] at hlt
      unfold wpS at h
      intro E a w Q hs hk
      have h1 := withV_ev hs h
      unfold condK at h1
      split at h1
      · rename_i b hb
        exact wpIn_wide.1 (wpIn_cond_split (n := 0) hb (fun e => wpIn_wide.2 (iha x hlt.1 (h1.1 e) a w Q hs hk)) (fun e => wpIn_wide.2 (ihb y hlt.2 (h1.2 e) a w Q hs hk)))
      · exact h1.elim
    | _ => unfold wpS at h; exact wpC_sound hT _ hlt h
  | block a iha =>
    intro c G l H K hlt h
    cases c with
    | block id c =>
      unfold wpS at h
      exact Tri.block (iha c hlt h)
    | _ => unfold wpS at h; exact wpC_sound hT _ hlt h

theorem wpS_cut {P : Program} {T : Tys} {sz : Nat} {keep : List Nat} {c : Code} {G : PHeap} {l : Fr} {H : Heap} {K : Post} : wpS P T sz keep .cut c G l H K = Tri P sz c G l H K := by unfold wpS; rfl
theorem wpS_run {P : Program} {T : Tys} {sz : Nat} {keep : List Nat} {c : Code} {G : PHeap} {l : Fr} {H : Heap} {K : Post} : wpS P T sz keep .run c G l H K = wpC P T sz keep c G l H K := by unfold wpS; rfl
theorem wpS_seq {P : Program} {T : Tys} {sz : Nat} {keep : List Nat} {a b : Sk} {x y : Code} {G : PHeap} {l : Fr} {H : Heap} {K : Post} : wpS P T sz keep (.seq a b) (.seq x y) G l H K = wpS P T sz keep a x G l H (thenK (fun G' l' H' => wpS P T sz keep b y G' l' H' K) K .mk .mk) := by rw [wpS]
theorem wpS_cond {P : Program} {T : Tys} {sz : Nat} {keep : List Nat} {a b : Sk} {e : Operand} {x y : Code} {G : PHeap} {l : Fr} {H : Heap} {K : Post} : wpS P T sz keep (.cond a b) (.cond e x y) G l H K = withV (ev l e) fun v => condK v (wpS P T sz keep a x G l H K) (wpS P T sz keep b y G l H K) := by rw [wpS]
theorem wpS_block {P : Program} {T : Tys} {sz : Nat} {keep : List Nat} {a : Sk} {id : Nat} {c : Code} {G : PHeap} {l : Fr} {H : Heap} {K : Post} : wpS P T sz keep (.block a) (.block id c) G l H K = wpS P T sz keep a c G l H (blockK id K .mk) := by rw [wpS]
attribute [go_sem] wpS_cut wpS_run wpS_seq wpS_cond wpS_block

theorem Tri.runS {P : Program} {T : Tys} (hT : TyOk P T) {sz : Nat} (keep : List Nat) (s : Sk) {c : Code} {G : PHeap} {l : Fr} {H : Heap} {K : Post} (hlt : codeLt sz c = true) (h : wpS P T sz keep s c G l H K) : Tri P sz c G l H K :=
  fun E a w Q hs hk => wpS_sound hT s c hlt h a w Q hs hk

theorem Tri.sepT {P : Program} {sz : Nat} {c : Code} {G : PHeap} {l : Fr} {H : Heap} {K : Post} (h : Sep G (keys H) → Tri P sz c G l H K) : Tri P sz c G l H K := fun E a w Q hs hk => h hs.heap.sep a w Q hs hk
theorem Sep.suf {G : PHeap} {H' : Heap} : ∀ {H : Heap}, Sep G (keys (H ++ H')) → Sep G (keys H')
  | [], h => h
  | _ :: H, h => Sep.suf (H := H) h.2
theorem NotIn.neFind {H : Heap} {b n : Nat} {r : Res} (h : NotIn n (keys H)) (hf : findH H b = some r) : n ≠ b := by
  have := findH_mem hf
  intro e; subst e
  have hm : n ∈ keys H := List.mem_map.2 ⟨_, this, rfl⟩
  clear this hf
  induction H with
  | nil => cases hm
  | cons p H ih =>
    rcases List.mem_cons.1 hm with e | e
    · exact h.1 e
    · exact ih h.2 e
/-- less may be known of the slots -/
theorem Tri.live {P : Program} {sz : Nat} (live : List Nat) {c : Code} {G : PHeap} {l : Fr} {H : Heap} {K : Post} (h : Tri P sz c G (restrict live l) H K) : Tri P sz c G l H K :=
  fun E a w Q hs hk => h a w Q (hs.weak (look_restrict live l)) hk

/-- what stands behind a piece that only ends as it should -/
def onlyN (M : PHeap → Fr → Heap → Prop) (_ : Tok M := .mk) : Post := fun e G l H => match e with
  | .normal => Upd G H fun G' H' => M G' l H'
  | _ => False
theorem onlyN_normal {M : PHeap → Fr → Heap → Prop} {G : PHeap} {l : Fr} {H : Heap} : onlyN M .mk .normal G l H = Upd G H fun G' H' => M G' l H' := rfl
theorem Tri.onlyN {P : Program} {sz : Nat} {c : Code} {G : PHeap} {l : Fr} {H : Heap} {K : Post} {M : PHeap → Fr → Heap → Prop} (h : Tri P sz c G l H (V.onlyN M))
    (hk : ∀ G' l' H', PLe G G' → Sep G' (keys H') → M G' l' H' → K .normal G' l' H') : Tri P sz c G l H K := by
  intro E a w Q hs hq
  refine h a w Q hs fun E' e G' l' H' a' w' hE hle hs' hk' => ?_
  cases e with
  | normal =>
    obtain ⟨G2, H2, q1, q2, q3⟩ := hk' w' hs'.heap
    exact hq E' .normal G2 l' H2 a' w' hE (hle.trans q1) ⟨hs'.size, hs'.defers, hs'.fr, q2⟩ (hk G2 l' H2 (hle.trans q1) q2.sep q3)
  | exit id => exact hk'.elim
  | ret => exact hk'.elim
theorem heldV_slice (l : Fr) (ts : List Nat) (H : Heap) (a : Option Addr) (n c : Nat) : heldV l ts H (some (.slice a n c)) = heldH l ts H := rfl
attribute [go_sem] onlyN_normal heldV_slice

/-- a call that leaves memory as it was, where memory stands in another order -/
theorem FnT.rd {P : Program} {f : FuncId} {args : List Value} {G : PHeap} {H : Heap} (H' : Heap) {v : Value} {R : Value → PHeap → Heap → Prop} (h : ∀ R' : Value → PHeap → Heap → Prop, R' v G H' → FnT P f args G H' R')
    (hs1 : ∀ f : Nat × Res → Nat, (H'.map f).sum ≤ (H.map f).sum) (hs2 : ∀ f : Nat × Res → Nat, (H.map f).sum ≤ (H'.map f).sum) (hR : R v G H) : FnT P f args G H R :=
  FnT.upd (FnT.leave (h _ (Upd.go (H' := H) hs2 (Upd.now hR))) hs1)
/-- a piece of a function's body; 0 the first or only part, 1 the second -/
def subO : List Nat → Option Code → Option Code
  | [], c => c
  | 0 :: p, some (.seq x _) => subO p (some x)
  | _ :: p, some (.seq _ y) => subO p (some y)
  | 0 :: p, some (.cond _ x _) => subO p (some x)
  | _ :: p, some (.cond _ _ y) => subO p (some y)
  | _ :: p, some (.block _ c) => subO p (some c)
  | _ :: p, some (.loop c) => subO p (some c)
  | _ :: p, some (.scope c) => subO p (some c)
  | 0 :: p, some (.rangeFunc _ _ x _) => subO p (some x)
  | _ :: p, some (.rangeFunc _ _ _ y) => subO p (some y)
  | _, _ => none
def piece (p : List Nat) (f : Func) : Code := (subO p f.body).getD .skip
theorem piece_of {p : List Nat} {f : Func} {c : Code} (h : subO p f.body = some c) : piece p f = c := by unfold piece; rw [h]; rfl
/-- a piece is walked -/
theorem Tri.piece {P : Program} {sz : Nat} {p : List Nat} {f : Func} {c : Code} (hb : subO p f.body = some c) {G : PHeap} {l : Fr} {H : Heap} {K : Post} (h : Tri P sz c G l H K) : Tri P sz (V.piece p f) G l H K := piece_of hb ▸ h
/-- a piece that was walked is met -/
theorem Tri.isPiece {P : Program} {sz : Nat} (p : List Nat) (f : Func) {c : Code} (hb : (V.piece p f) = c) {G : PHeap} {l : Fr} {H : Heap} {K : Post} (h : Tri P sz (V.piece p f) G l H K) : Tri P sz c G l H K := hb ▸ h

/-- a loop whose rounds are cut -/
theorem Tri.loopS {P : Program} {T : Tys} (hT : TyOk P T) {sz : Nat} (keep : List Nat) (s : Sk) {c : Code} {G : PHeap} {l : Fr} {H : Heap} {K : Post} (hlt : codeLt sz c = true) (live : List Nat)
    (I : Nat → PHeap → Fr → Heap → Prop) (n : Nat) (h0 : Upd G H fun G' H' => I n G' (restrict live l) H')
    (round : ∀ n G' l' H', PLe G G' → Sep G' (keys H') → I n G' l' H' → wpS P T sz keep s c G' l' H' (thenK (fun G'' l'' H'' => Upd G'' H'' fun G0 H0 => ∃ m, m < n ∧ I m G0 (restrict live l'') H0) K .mk .mk)) :
    Tri P sz (.loop c) G l H K := by
  intro E a w Q hs hk
  obtain ⟨G1, H1, g1, g2, g3⟩ := h0 w hs.heap
  refine wp_loopN (fun n a w => ∃ E' G' l' H', Env.le E E' ∧ PLe G G' ∧ Sim E' sz G' l' H' a w ∧ I n G' l' H') ?_ n a w ⟨E, G1, _, H1, Env.le.refl E, g1, ⟨hs.size, hs.defers, (hs.weak (look_restrict live l)).fr, g2⟩, g3⟩
  rintro n a w ⟨E', G', l', H', hE, hle, hs', hI⟩
  refine wpS_sound hT s c hlt (round n G' l' H' hle hs'.heap.sep hI) a w _ hs' fun E2 e G2 l2 H2 a2 w2 hE2 hle2 hs2 hk2 => ?_
  cases e with
  | normal =>
    obtain ⟨G3, H3, q1, q2, m, hm, hI2⟩ := hk2 w2 hs2.heap
    exact ⟨m, hm, E2, G3, _, H3, hE.trans hE2, (hle.trans hle2).trans q1, ⟨hs2.size, hs2.defers, (hs2.weak (look_restrict live l2)).fr, q2⟩, hI2⟩
  | exit id => exact hk E2 (.exit id) G2 l2 H2 a2 w2 (hE.trans hE2) (hle.trans hle2) hs2 hk2
  | ret => exact hk E2 .ret G2 l2 H2 a2 w2 (hE.trans hE2) (hle.trans hle2) hs2 hk2

/-- a function whose body is cut -/
theorem FnT.bodyS {P : Program} {T : Tys} (hT : TyOk P T) {f : FuncId} {fn : Func} {c : Code} (keep : List Nat) (s : Sk) (hf : P.funcs[f]? = some fn) (hb : fn.body = some c) (hn : (fn.name == "runtime.NumGoroutine") = false)
    {args : List Value} {G : PHeap} {H : Heap} {R : Value → PHeap → Heap → Prop} (hlt : codeLt fn.ntmps c = true) (hargs : args.length ≤ fn.ntmps)
    (h : Sep G (keys H) → wpS P T fn.ntmps keep s c G (argsFr 0 args) H (endK T fn.results.toList (UpdR R) .mk)) : FnT P f args G H R := by
  exact FnT.upd (FnT.ofT hT hf hb hn hargs fun hs => wpS_sound hT s c hlt (h hs))
end Go.V
