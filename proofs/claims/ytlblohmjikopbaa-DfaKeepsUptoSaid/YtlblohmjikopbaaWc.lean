/- The states at which a machine may be: dfa.Reach. -/
import Derived.Test.YtlblohmjikopbaaWb
set_option linter.unusedSimpArgs false
set_option linter.unusedVariables false
namespace Go.Proofs.Ytlblohmjikopbaa
open Go Go.V Go.Proofs

theorem sep_app2 {G : PHeap} {A B : Heap} (h : Sep G (keys (A ++ B))) : Sep G (keys A) := by
  rw [sep_iff, keys_app] at *
  exact ⟨fun b hb => h.1 b (List.mem_append.2 (.inl hb)), (List.nodup_append.1 h.2).1⟩
/-- where a machine goes from a state -/
def nextF (d : DfaT) (s : Int) : List Int := d.next.getD s.toNat []
theorem nextF_get {d : DfaT} {s : Nat} (h : s < d.next.length) : nextF d (s : Int) = d.next[s] := by
  unfold nextF
  rw [Int.toNat_natCast, List.getD_eq_getElem?_getD, List.getElem?_eq_getElem h, Option.getD_some]
theorem nextF_ok {d : DfaT} (hok : RightP d) : ∀ s : Int, 0 ≤ s → s < d.label.length → ∀ t ∈ nextF d s, 0 ≤ t ∧ t < d.label.length := fun s h1 h2 t ht => by
  obtain ⟨i, rfl⟩ := Int.eq_ofNat_of_zero_le h1
  obtain ⟨hk1, hk2, hk3, hk4, hk5, hk6, hk7⟩ := hok
  have hi : i < d.next.length := by omega
  rw [nextF_get hi] at ht
  exact (hk7 i hi (by omega)).2.2.2 t ht
theorem reachf_t {d : DfaT} (hsm : SmallD d) (hok : RightP d) {C : List Value} {an al ay : Option Addr} {cn cl cs : Nat} {rs : List Value} {G : PHeap} (O : OpenD G d C an al ay cn cl cs rs) {bx : Nat} {s : Int} (h0 : 0 ≤ s) (h1 : s < d.label.length)
    {H : Heap} {R : Value → PHeap → Heap → Prop} (hg : G bx = none) (hf : findH H bx = some (.cells C [] 27)) (hR : ∀ v, Sl G (Value.int .i64) v (nextF d s) → R v G H) : FnT Try.prog 34 [.int .i64 s, .pointer (some ⟨bx, 0, none⟩)] G H R := by
  obtain ⟨i, rfl⟩ := Int.eq_ofNat_of_zero_le h0
  have hCl := O.len
  have hCn := O.n
  have hl := hok.2.2.1
  have hi : i < d.next.length := by omega
  have hrnl := O.rnl
  obtain ⟨b, c, e1, e2, e3⟩ := O.rs i hi (by omega)
  have had : Adr an := O.rn.adr (by omega)
  rw [nextF_get hi] at hR
  refine FnT.body tok [0, 1, 3] Try.func34 rfl (by kernel_rfl) (by kernel_rfl) (by show _ ≤ 9; simp) fun hsep => ?_
  rw [Try.results34]
  have hsE := hsep
  try simp only [keys_cons, keys_app, keys_nil, Sep_cons, Sep_nil, NotIn_cons, NotIn_app, NotIn_nil, List.cons_append, List.nil_append, List.append_assoc, and_assoc, and_true, true_and] at hsE
  repeat (obtain ⟨hsx, hsE⟩ := hsE)
  repeat' first
    | with_reducible refine Br.yes ?_
    | with_reducible refine Br.no ?_
    | with_reducible refine Br.dec (fun _ => ?_) (fun _ => ?_)
    | with_reducible refine Br.beqB (fun _ => ?_) (fun _ => ?_)
    | with_reducible refine Br.beqb (fun _ => ?_) (fun _ => ?_)
    | with_reducible refine Br.mk (fun _ => ?_) (fun _ => ?_)
    | with_reducible refine foundO.mk (fun _ _ => ?_) (fun _ => ?_)
    | with_reducible refine appV.zero ?_
    | with_reducible refine appV.own ?_
    | ((with_reducible refine NewB.mk fun nb hnb => ?_); have hnb1 := hnb.1.1; have hnb2 := hnb.1.2; try simp only [keys_cons, keys_app, keys_nil, NotIn_cons, NotIn_app, NotIn_nil, and_true] at hnb2)
    | ((with_reducible refine NewRow.mk fun nb nsp ncap hnb hncap => ?_); have hnb1 := hnb.1.1; have hnb2 := hnb.1.2; try simp only [keys_cons, keys_app, keys_nil, NotIn_cons, NotIn_app, NotIn_nil, and_true] at hnb2)
    | simp (dsimp := false) (implicitDefEqProofs := false) (disch := first | assumption | (simp only [List.mem_cons, List.mem_append, true_or, or_true, eq_self]; done) | omega | (with_reducible refine Row.adr (by assumption) ?_; simp only [List.length_map, List.length_take, List.length_drop]; omega) | (simp only [List.length_cons, List.length_nil, List.length_map, List.length_append, List.length_replicate, Nat.reduceAdd, true_and, and_true, and_self]; first | done | omega)) only [go_sem, ↓reduceIte, Nat.reduceEqDiff, Nat.reduceAdd, Nat.reduceSub, Nat.reduceMul, Nat.reduceBEq, Nat.reduceLT, Nat.reduceLeDiff, Nat.reduceMod, Nat.reducePow, List.reduceReplicate, UInt8.reduceOfNat, Int.reducePow, Int.reduceDiv, Int.reduceMod, Nat.reduceDiv, Int.reduceNeg, Int.reduceAdd, Int.reduceSub, Int.reduceMul, Int.reduceLE, Int.reduceLT, Int.reduceEq, Int.reduceToNat, reduceCtorEq, -List.reduceReplicate, hf, hCl, hCn, Row.obj O.rn, e1]
  all_goals refine Upd.finL ?_ (hR _ ⟨b, c, rfl, e2, e3⟩) ?_
  any_goals (intro fsum; first | exact Nat.le_refl _ | (simp only [List.map_append, List.map_cons, List.map_nil, List.sum_append, List.sum_cons, List.sum_nil, List.cons_append, List.nil_append]; omega))
  all_goals rfl
theorem calleeReachf : V.Callee Try.prog 34 := ⟨_, _, Try.func34, rfl, by kernel_rfl⟩
theorem walk_t {n : Nat} {a cap : Option Addr} {k c : Nat} {fid : FuncId} {v fv : Value} (hv : v = .slice a k c) (hf : fv = .func (.func fid) #[] #[.pointer cap]) {G : PHeap} {H : Heap} {R : Value → PHeap → Heap → Prop}
    (hR : ∀ b1 b2 b3, Sep G (b3 :: b2 :: b1 :: keys H) → R (.func (.func 52) #[] #[.pointer (some ⟨b1, 0, none⟩), .pointer (some ⟨b2, 0, none⟩), .pointer (some ⟨b3, 0, none⟩)]) G ((b3, .cells [fv] [] 51) :: (b2, .cells [v] [] 24) :: (b1, .cells [.int .i64 (n : Nat)] [] 3) :: H)) :
    FnT Try.prog 33 [.int .i64 (n : Nat), v, fv] G H R := by
  subst hv hf
  refine FnT.body tok [0, 1, 2, 3, 4, 5, 6] Try.func33 rfl (by kernel_rfl) (by kernel_rfl) (by show _ ≤ 8; simp) fun hsep => ?_
  rw [Try.results33]
  have hsE := hsep
  try simp only [keys_cons, keys_app, keys_nil, Sep_cons, Sep_nil, NotIn_cons, NotIn_app, NotIn_nil, List.cons_append, List.nil_append, List.append_assoc, and_assoc, and_true, true_and] at hsE
  repeat (obtain ⟨hsx, hsE⟩ := hsE)
  repeat' first
    | with_reducible refine Br.yes ?_
    | with_reducible refine Br.no ?_
    | with_reducible refine Br.dec (fun _ => ?_) (fun _ => ?_)
    | with_reducible refine Br.beqB (fun _ => ?_) (fun _ => ?_)
    | with_reducible refine Br.beqb (fun _ => ?_) (fun _ => ?_)
    | with_reducible refine Br.mk (fun _ => ?_) (fun _ => ?_)
    | with_reducible refine foundO.mk (fun _ _ => ?_) (fun _ => ?_)
    | with_reducible refine appV.zero ?_
    | with_reducible refine appV.own ?_
    | ((with_reducible refine NewB.mk fun nb hnb => ?_); have hnb1 := hnb.1.1; have hnb2 := hnb.1.2; try simp only [keys_cons, keys_app, keys_nil, NotIn_cons, NotIn_app, NotIn_nil, and_true] at hnb2)
    | ((with_reducible refine NewRow.mk fun nb nsp ncap hnb hncap => ?_); have hnb1 := hnb.1.1; have hnb2 := hnb.1.2; try simp only [keys_cons, keys_app, keys_nil, NotIn_cons, NotIn_app, NotIn_nil, and_true] at hnb2)
    | simp (dsimp := false) (implicitDefEqProofs := false) (disch := first | assumption | (simp only [List.mem_cons, List.mem_append, true_or, or_true, eq_self]; done) | omega | (with_reducible refine Row.adr (by assumption) ?_; simp only [List.length_map, List.length_take, List.length_drop]; omega) | (simp only [List.length_cons, List.length_nil, List.length_map, List.length_append, List.length_replicate, Nat.reduceAdd, true_and, and_true, and_self]; first | done | omega)) only [go_sem, ↓reduceIte, Nat.reduceEqDiff, Nat.reduceAdd, Nat.reduceSub, Nat.reduceMul, Nat.reduceBEq, Nat.reduceLT, Nat.reduceLeDiff, Nat.reduceMod, Nat.reducePow, List.reduceReplicate, UInt8.reduceOfNat, Int.reducePow, Int.reduceDiv, Int.reduceMod, Nat.reduceDiv, Int.reduceNeg, Int.reduceAdd, Int.reduceSub, Int.reduceMul, Int.reduceLE, Int.reduceLT, Int.reduceEq, Int.reduceToNat, reduceCtorEq]
  exact Upd.fin (hR _ _ _ hnb) rfl
theorem calleeWalk : V.Callee Try.prog 33 := ⟨_, _, Try.func33, rfl, by kernel_rfl⟩
/-- the states at which a machine may be -/
def reachL (d : DfaT) : List Int := walkL (nextF d) d.label.length [0]
noncomputable def reachD (d : DfaT) : List Int := if boolOf (RightP d) = true then reachL d else []
set_option maxHeartbeats 16000000 in
theorem reach_t {d : DfaT} (hsm : SmallD d) {G : PHeap} {H : Heap} {R : Value → PHeap → Heap → Prop} {v : Value} (hv : IsD G d v)
    (hR : ∀ G' v', PLe G G' → Sep G' (keys H) → Sl G' (Value.int .i64) v' (reachD d) → R v' G' H) : FnT Try.prog 9 [v] G H R := by
  obtain ⟨C, an, al, ay, cn, cl, cs, rs, rfl, O⟩ := hv.opened
  have hCl := O.len
  have hCa := O.all
  have hCx := O.l
  refine FnT.sep ?_
  by_cases hok : RightP d
  · have hb := boolOf_yes hok
    refine FnT.body tok [0, 1, 2, 3, 4, 7, 13, 14] Try.func9 rfl (by kernel_rfl) (by kernel_rfl) (by show _ ≤ 20; simp) fun hsep => ?_
    rw [Try.results9]
    have hsE := hsep
    try simp only [keys_cons, keys_app, keys_nil, Sep_cons, Sep_nil, NotIn_cons, NotIn_app, NotIn_nil, List.cons_append, List.nil_append, List.append_assoc, and_assoc, and_true, true_and] at hsE
    repeat (obtain ⟨hsx, hsE⟩ := hsE)
    repeat' first
      | with_reducible refine Br.yes ?_
      | with_reducible refine Br.no ?_
      | with_reducible refine Br.dec (fun _ => ?_) (fun _ => ?_)
      | with_reducible refine Br.beqB (fun _ => ?_) (fun _ => ?_)
      | with_reducible refine Br.beqb (fun _ => ?_) (fun _ => ?_)
      | with_reducible refine Br.mk (fun _ => ?_) (fun _ => ?_)
      | with_reducible refine foundO.mk (fun _ _ => ?_) (fun _ => ?_)
      | with_reducible refine appV.zero ?_
      | with_reducible refine appV.own ?_
      | ((with_reducible refine NewB.mk fun nb hnb => ?_); have hnb1 := hnb.1.1; have hnb2 := hnb.1.2; try simp only [keys_cons, keys_app, keys_nil, NotIn_cons, NotIn_app, NotIn_nil, and_true] at hnb2)
      | ((with_reducible refine NewRow.mk fun nb nsp ncap hnb hncap => ?_); have hnb1 := hnb.1.1; have hnb2 := hnb.1.2; try simp only [keys_cons, keys_app, keys_nil, NotIn_cons, NotIn_app, NotIn_nil, and_true] at hnb2)
      | simp (dsimp := false) (implicitDefEqProofs := false) (disch := first | assumption | (simp only [List.mem_cons, List.mem_append, true_or, or_true, eq_self]; done) | omega | (with_reducible refine Row.adr (by assumption) ?_; simp only [List.length_map, List.length_take, List.length_drop]; omega) | (simp only [List.length_cons, List.length_nil, List.length_map, List.length_append, List.length_replicate, Nat.reduceAdd, true_and, and_true, and_self]; first | done | omega)) only [go_sem, ↓reduceIte, Nat.reduceEqDiff, Nat.reduceAdd, Nat.reduceSub, Nat.reduceMul, Nat.reduceBEq, Nat.reduceLT, Nat.reduceLeDiff, Nat.reduceMod, Nat.reducePow, List.reduceReplicate, UInt8.reduceOfNat, Int.reducePow, Int.reduceDiv, Int.reduceMod, Nat.reduceDiv, Int.reduceNeg, Int.reduceAdd, Int.reduceSub, Int.reduceMul, Int.reduceLE, Int.reduceLT, Int.reduceEq, Int.reduceToNat, reduceCtorEq, -List.reduceReplicate, List.toList_toArray, hCl, hCa, hb, hCx, List.replicate_one]
      | with_reducible refine right_t hsm O.is ?_
    rename_i b2 hx1 hx2 hx3 bl hx4 hx5 hx6
    have hz : reachD d = reachL d := by unfold reachD; rw [if_pos hb]
    rw [hz] at hR
    have hon := nextF_ok hok
    have hk1 := hok.1
    have hk2 := hok.2.1
    have hO : OnceN d.label.length [0] := ⟨by simp, fun x hx => by rw [List.mem_singleton] at hx; omega⟩
    refine FnT.pre calleeWalk (Upd.go (H' := (nb, .cells [.int .i64 0] [] 3) :: (bl, .cells [.slice none 0 0] [] 24) :: (b2, .cells C [] 27) :: H) (by intro fsum; first | exact Nat.le_refl _ | (simp only [List.map_append, List.map_cons, List.map_nil, List.sum_append, List.sum_cons, List.sum_nil, List.cons_append, List.nil_append]; omega)) (Upd.shareRow (by assumption) fun G2 hle2 hs2 hr2 => ?_))
    refine walk_t rfl rfl fun c1 c2 c3 hs3 => ?_
    have hsE := hs3
    try simp only [keys_cons, keys_app, keys_nil, Sep_cons, Sep_nil, NotIn_cons, NotIn_app, NotIn_nil, List.cons_append, List.nil_append, List.append_assoc, and_assoc, and_true, true_and] at hsE
    repeat (obtain ⟨hsx, hsE⟩ := hsE)
    repeat' first
      | with_reducible refine Br.yes ?_
      | with_reducible refine Br.no ?_
      | with_reducible refine Br.dec (fun _ => ?_) (fun _ => ?_)
      | with_reducible refine Br.beqB (fun _ => ?_) (fun _ => ?_)
      | with_reducible refine Br.beqb (fun _ => ?_) (fun _ => ?_)
      | with_reducible refine Br.mk (fun _ => ?_) (fun _ => ?_)
      | with_reducible refine foundO.mk (fun _ _ => ?_) (fun _ => ?_)
      | with_reducible refine appV.zero ?_
      | with_reducible refine appV.own ?_
      | ((with_reducible refine NewB.mk fun nb hnb => ?_); have hnb1 := hnb.1.1; have hnb2 := hnb.1.2; try simp only [keys_cons, keys_app, keys_nil, NotIn_cons, NotIn_app, NotIn_nil, and_true] at hnb2)
      | ((with_reducible refine NewRow.mk fun nb nsp ncap hnb hncap => ?_); have hnb1 := hnb.1.1; have hnb2 := hnb.1.2; try simp only [keys_cons, keys_app, keys_nil, NotIn_cons, NotIn_app, NotIn_nil, and_true] at hnb2)
      | simp (dsimp := false) (implicitDefEqProofs := false) (disch := first | assumption | (simp only [List.mem_cons, List.mem_append, true_or, or_true, eq_self]; done) | omega | (with_reducible refine Row.adr (by assumption) ?_; simp only [List.length_map, List.length_take, List.length_drop]; omega) | (simp only [List.length_cons, List.length_nil, List.length_map, List.length_append, List.length_replicate, Nat.reduceAdd, true_and, and_true, and_self]; first | done | omega)) only [go_sem, ↓reduceIte, Nat.reduceEqDiff, Nat.reduceAdd, Nat.reduceSub, Nat.reduceMul, Nat.reduceBEq, Nat.reduceLT, Nat.reduceLeDiff, Nat.reduceMod, Nat.reducePow, List.reduceReplicate, UInt8.reduceOfNat, Int.reducePow, Int.reduceDiv, Int.reduceMod, Nat.reduceDiv, Int.reduceNeg, Int.reduceAdd, Int.reduceSub, Int.reduceMul, Int.reduceLE, Int.reduceLT, Int.reduceEq, Int.reduceToNat, reduceCtorEq]
    refine Tri.rangeF2 tok [0, 1, 2, 3, 4, 7, 13, 14] rfl calleeWalk1 (by kernel_rfl) fun lr Rr Rb hlr yl => ?_
    have hsE := hlr
    try simp only [keys_cons, keys_app, keys_nil, Sep_cons, Sep_nil, NotIn_cons, NotIn_app, NotIn_nil, List.cons_append, List.nil_append, List.append_assoc, and_assoc, and_true, true_and] at hsE
    repeat (obtain ⟨hsx, hsE⟩ := hsE)
    refine FnT.leave (H' := (c3, .cells [.func (.func 34) #[] #[.pointer (some ⟨b2, 0, none⟩)]] [] 51) :: (c2, .cells [.slice (some ⟨nb, 0, none⟩) 1 1] [] 24) :: (c1, .cells [.int .i64 (d.label.length : Nat)] [] 3) :: ((lr, Rr .normal) :: (bl, .cells [.slice none 0 0] [] 24) :: (b2, .cells C [] 27) :: H)) ?_ (by intro fsum; first | exact Nat.le_refl _ | (simp only [List.map_append, List.map_cons, List.map_nil, List.sum_append, List.sum_cons, List.sum_nil, List.cons_append, List.nil_append]; omega))
    refine walk1_t lr c1 c2 c3 b2 (by omega) hO hon (fun s h0 h1 => ?_) (fun s G1 H1 R1 hle h0 h1 hg hf hR1 => reachf_t hsm hok (O.mono (hle2.trans hle)) h0 h1 hg hf hR1)
      (v0 := .slice (some ⟨nb, 0, none⟩) 1 1) ⟨some ⟨nb, 0, none⟩, 1, rfl, hr2, Nat.le_refl _⟩
      (fun i G' H' => ∃ v kb, SliceO [] 3 1 v i (((bw (nextF d) [0] i).take i).map (Value.int .i64)) kb ∧ i ≤ (bw (nextF d) [0] i).length ∧ H' = (lr, Rr .normal) :: (bl, .cells [v] [] 24) :: (b2, .cells C [] 27) :: (kb ++ H))
      (fun _ _ _ => False) ?_ ?_ ?_ ⟨_, [], .inl ⟨none, rfl, rfl, rfl, rfl⟩, Nat.zero_le _, rfl⟩ ?_
    · obtain ⟨j, rfl⟩ := Int.eq_ofNat_of_zero_le h0
      have hj : j < d.next.length := by have := hok.2.2.1; omega
      rw [nextF_get hj]
      exact Nat.le_trans (hsm.2.1 _ (List.getElem_mem hj)) (by omega)
    · exact fun _ _ _ _ _ h => h
    · rintro i G1 _ _ ⟨v, kb, _, _, rfl⟩
      simp (dsimp := false) (implicitDefEqProofs := false) (disch := first | assumption | (simp only [List.mem_cons, List.mem_append, true_or, or_true, eq_self]; done) | omega | (with_reducible refine Row.adr (by assumption) ?_; simp only [List.length_map, List.length_take, List.length_drop]; omega) | (simp only [List.length_cons, List.length_nil, List.length_map, List.length_append, List.length_replicate, Nat.reduceAdd, true_and, and_true, and_self]; first | done | omega)) only [go_sem, ↓reduceIte, Nat.reduceEqDiff, Nat.reduceAdd, Nat.reduceSub, Nat.reduceMul, Nat.reduceBEq, Nat.reduceLT, Nat.reduceLeDiff, Nat.reduceMod, Nat.reducePow, List.reduceReplicate, UInt8.reduceOfNat, Int.reducePow, Int.reduceDiv, Int.reduceMod, Nat.reduceDiv, Int.reduceNeg, Int.reduceAdd, Int.reduceSub, Int.reduceMul, Int.reduceLE, Int.reduceLT, Int.reduceEq, Int.reduceToNat, reduceCtorEq]
    · rintro i G1 _ HW hi hle1 hs4 ⟨v, kb, hkb, hil, rfl⟩
      have hs5 := sep_app2 hs4
      obtain ⟨X, hX⟩ := bw_pre (nextF d) [0] i
      have hti : (bw (nextF d) [0] (i + 1)).take (i + 1) = (bw (nextF d) [0] i).take i ++ [(bw (nextF d) [0] i)[i]] := by
        rw [hX, List.take_append_of_le_length (by omega), List.take_succ_eq_append_getElem hi]
      have htl : ((bw (nextF d) [0] i).take i).length = i := by rw [List.length_take]; omega
      have hml : (((bw (nextF d) [0] i).take i).map (Value.int .i64)).length = i := by rw [List.length_map, htl]
      have hbl := (bw_once hO hon i).len
      have hil2 : i + 1 ≤ (bw (nextF d) [0] (i + 1)).length := by rw [hX, List.length_append]; omega
      rcases hkb with ⟨a, rfl, hz, hz2, rfl⟩ | ⟨bk, ck, sk, rfl, rfl, hkl, hkc⟩
      · have hsE := hs4
        try simp only [keys_cons, keys_app, keys_nil, Sep_cons, Sep_nil, NotIn_cons, NotIn_app, NotIn_nil, List.cons_append, List.nil_append, List.append_assoc, and_assoc, and_true, true_and] at hsE
        repeat (obtain ⟨hsx, hsE⟩ := hsE)
        have hsE := hs5
        try simp only [keys_cons, keys_app, keys_nil, Sep_cons, Sep_nil, NotIn_cons, NotIn_app, NotIn_nil, List.cons_append, List.nil_append, List.append_assoc, and_assoc, and_true, true_and] at hsE
        repeat (obtain ⟨hsx, hsE⟩ := hsE)
        refine YldT.upd (yl rfl ?_ ?_)
        · simp (dsimp := false) (implicitDefEqProofs := false) (disch := first | assumption | (simp only [List.mem_cons, List.mem_append, true_or, or_true, eq_self]; done) | omega | (with_reducible refine Row.adr (by assumption) ?_; simp only [List.length_map, List.length_take, List.length_drop]; omega) | (simp only [List.length_cons, List.length_nil, List.length_map, List.length_append, List.length_replicate, Nat.reduceAdd, true_and, and_true, and_self]; first | done | omega)) only [go_sem, ↓reduceIte, Nat.reduceEqDiff, Nat.reduceAdd, Nat.reduceSub, Nat.reduceMul, Nat.reduceBEq, Nat.reduceLT, Nat.reduceLeDiff, Nat.reduceMod, Nat.reducePow, List.reduceReplicate, UInt8.reduceOfNat, Int.reducePow, Int.reduceDiv, Int.reduceMod, Nat.reduceDiv, Int.reduceNeg, Int.reduceAdd, Int.reduceSub, Int.reduceMul, Int.reduceLE, Int.reduceLT, Int.reduceEq, Int.reduceToNat, reduceCtorEq]
        · repeat' first
            | with_reducible refine Br.yes ?_
            | with_reducible refine Br.no ?_
            | with_reducible refine Br.dec (fun _ => ?_) (fun _ => ?_)
            | with_reducible refine Br.beqB (fun _ => ?_) (fun _ => ?_)
            | with_reducible refine Br.beqb (fun _ => ?_) (fun _ => ?_)
            | with_reducible refine Br.mk (fun _ => ?_) (fun _ => ?_)
            | with_reducible refine foundO.mk (fun _ _ => ?_) (fun _ => ?_)
            | with_reducible refine appV.zero ?_
            | with_reducible refine appV.own ?_
            | ((with_reducible refine NewB.mk fun nb hnb => ?_); have hnb1 := hnb.1.1; have hnb2 := hnb.1.2; try simp only [keys_cons, keys_app, keys_nil, NotIn_cons, NotIn_app, NotIn_nil, and_true] at hnb2)
            | ((with_reducible refine NewRow.mk fun nb nsp ncap hnb hncap => ?_); have hnb1 := hnb.1.1; have hnb2 := hnb.1.2; try simp only [keys_cons, keys_app, keys_nil, NotIn_cons, NotIn_app, NotIn_nil, and_true] at hnb2)
            | simp (dsimp := false) (implicitDefEqProofs := false) (disch := first | assumption | (simp only [List.mem_cons, List.mem_append, true_or, or_true, eq_self]; done) | omega | (with_reducible refine Row.adr (by assumption) ?_; simp only [List.length_map, List.length_take, List.length_drop]; omega) | (simp only [List.length_cons, List.length_nil, List.length_map, List.length_append, List.length_replicate, Nat.reduceAdd, true_and, and_true, and_self]; first | done | omega)) only [go_sem, ↓reduceIte, Nat.reduceEqDiff, Nat.reduceAdd, Nat.reduceSub, Nat.reduceMul, Nat.reduceBEq, Nat.reduceLT, Nat.reduceLeDiff, Nat.reduceMod, Nat.reducePow, List.reduceReplicate, UInt8.reduceOfNat, Int.reducePow, Int.reduceDiv, Int.reduceMod, Nat.reduceDiv, Int.reduceNeg, Int.reduceAdd, Int.reduceSub, Int.reduceMul, Int.reduceLE, Int.reduceLT, Int.reduceEq, Int.reduceToNat, reduceCtorEq, List.replicate_one]
          have hi0 : i = 0 := hz
          refine Upd.go (H' := ((lr, Rr .normal) :: (bl, .cells [.slice (some ⟨nb, 0, none⟩) 1 ncap] [] 24) :: (b2, .cells C [] 27) :: ([(nb, .cells [.int .i64 (bw (nextF d) [0] i)[i]] nsp 3)] ++ H)) ++ HW) (by intro fsum; first | exact Nat.le_refl _ | (simp only [List.map_append, List.map_cons, List.map_nil, List.sum_append, List.sum_cons, List.sum_nil, List.cons_append, List.nil_append]; omega)) (Upd.now ⟨_, rfl, .inl ⟨rfl, _, [(nb, .cells [.int .i64 (bw (nextF d) [0] i)[i]] nsp 3)], .inr ⟨nb, ncap, nsp, ?_, ?_, ?_, ?_⟩, hil2, rfl⟩⟩)
          · rw [hi0]
          · rw [hti, List.map_append, hz2]; rfl
          · rw [hti, List.map_append, hz2]; show 1 = (i + 1) * 1; omega
          · rw [hti, List.map_append, hz2]; show 1 + nsp.length = ncap * 1; omega
      · have hsE := hs4
        try simp only [keys_cons, keys_app, keys_nil, Sep_cons, Sep_nil, NotIn_cons, NotIn_app, NotIn_nil, List.cons_append, List.nil_append, List.append_assoc, and_assoc, and_true, true_and] at hsE
        repeat (obtain ⟨hsx, hsE⟩ := hsE)
        have hsE := hs5
        try simp only [keys_cons, keys_app, keys_nil, Sep_cons, Sep_nil, NotIn_cons, NotIn_app, NotIn_nil, List.cons_append, List.nil_append, List.append_assoc, and_assoc, and_true, true_and] at hsE
        repeat (obtain ⟨hsx, hsE⟩ := hsE)
        refine YldT.upd (yl rfl ?_ ?_)
        · simp (dsimp := false) (implicitDefEqProofs := false) (disch := first | assumption | (simp only [List.mem_cons, List.mem_append, true_or, or_true, eq_self]; done) | omega | (with_reducible refine Row.adr (by assumption) ?_; simp only [List.length_map, List.length_take, List.length_drop]; omega) | (simp only [List.length_cons, List.length_nil, List.length_map, List.length_append, List.length_replicate, Nat.reduceAdd, true_and, and_true, and_self]; first | done | omega)) only [go_sem, ↓reduceIte, Nat.reduceEqDiff, Nat.reduceAdd, Nat.reduceSub, Nat.reduceMul, Nat.reduceBEq, Nat.reduceLT, Nat.reduceLeDiff, Nat.reduceMod, Nat.reducePow, List.reduceReplicate, UInt8.reduceOfNat, Int.reducePow, Int.reduceDiv, Int.reduceMod, Nat.reduceDiv, Int.reduceNeg, Int.reduceAdd, Int.reduceSub, Int.reduceMul, Int.reduceLE, Int.reduceLT, Int.reduceEq, Int.reduceToNat, reduceCtorEq]
        · repeat' first
            | with_reducible refine Br.yes ?_
            | with_reducible refine Br.no ?_
            | with_reducible refine Br.dec (fun _ => ?_) (fun _ => ?_)
            | with_reducible refine Br.beqB (fun _ => ?_) (fun _ => ?_)
            | with_reducible refine Br.beqb (fun _ => ?_) (fun _ => ?_)
            | with_reducible refine Br.mk (fun _ => ?_) (fun _ => ?_)
            | with_reducible refine foundO.mk (fun _ _ => ?_) (fun _ => ?_)
            | with_reducible refine appV.zero ?_
            | with_reducible refine appV.own ?_
            | ((with_reducible refine NewB.mk fun nb hnb => ?_); have hnb1 := hnb.1.1; have hnb2 := hnb.1.2; try simp only [keys_cons, keys_app, keys_nil, NotIn_cons, NotIn_app, NotIn_nil, and_true] at hnb2)
            | ((with_reducible refine NewRow.mk fun nb nsp ncap hnb hncap => ?_); have hnb1 := hnb.1.1; have hnb2 := hnb.1.2; try simp only [keys_cons, keys_app, keys_nil, NotIn_cons, NotIn_app, NotIn_nil, and_true] at hnb2)
            | simp (dsimp := false) (implicitDefEqProofs := false) (disch := first | assumption | (simp only [List.mem_cons, List.mem_append, true_or, or_true, eq_self]; done) | omega | (with_reducible refine Row.adr (by assumption) ?_; simp only [List.length_map, List.length_take, List.length_drop]; omega) | (simp only [List.length_cons, List.length_nil, List.length_map, List.length_append, List.length_replicate, Nat.reduceAdd, true_and, and_true, and_self]; first | done | omega)) only [go_sem, ↓reduceIte, Nat.reduceEqDiff, Nat.reduceAdd, Nat.reduceSub, Nat.reduceMul, Nat.reduceBEq, Nat.reduceLT, Nat.reduceLeDiff, Nat.reduceMod, Nat.reducePow, List.reduceReplicate, UInt8.reduceOfNat, Int.reducePow, Int.reduceDiv, Int.reduceMod, Nat.reduceDiv, Int.reduceNeg, Int.reduceAdd, Int.reduceSub, Int.reduceMul, Int.reduceLE, Int.reduceLT, Int.reduceEq, Int.reduceToNat, reduceCtorEq, List.replicate_one]
          have hm2 : ((bw (nextF d) [0] i).take i).map (Value.int .i64) ++ [.int .i64 (bw (nextF d) [0] i)[i]] = ((bw (nextF d) [0] (i + 1)).take (i + 1)).map (Value.int .i64) := by rw [hti, List.map_append]; rfl
          rw [hm2]
          refine Upd.go (H' := ((lr, Rr .normal) :: (bl, .cells [.slice (some ⟨nb, 0, none⟩) (i + 1) ncap] [] 24) :: (b2, .cells C [] 27) :: ([(nb, .cells (((bw (nextF d) [0] (i + 1)).take (i + 1)).map (Value.int .i64)) nsp 3)] ++ H)) ++ HW) (by intro fsum; first | exact Nat.le_refl _ | (simp only [List.map_append, List.map_cons, List.map_nil, List.sum_append, List.sum_cons, List.sum_nil, List.cons_append, List.nil_append]; omega)) (Upd.now ⟨_, rfl, .inl ⟨rfl, _, [(nb, .cells (((bw (nextF d) [0] (i + 1)).take (i + 1)).map (Value.int .i64)) nsp 3)], .inr ⟨nb, ncap, nsp, rfl, rfl, ?_, ?_⟩, hil2, rfl⟩⟩)
          · rw [List.length_map, List.length_take]; omega
          · rw [List.length_map, List.length_take]; omega
    · rintro G1 _ hle1 hs4 (⟨i, hi, v, kb, hkb, hil, rfl⟩ | ⟨_, h⟩)
      · have he : bw (nextF d) [0] i = reachL d := bw_end hO hon (by omega)
        have htk : (bw (nextF d) [0] i).take i = reachL d := by rw [← he]; exact List.take_of_length_le (by omega)
        rw [htk] at hkb
        rw [he] at hi
        rcases hkb with ⟨a, rfl, hz, hz2, rfl⟩ | ⟨bk, ck, sk, rfl, rfl, hkl, hkc⟩
        · have hsE := hs4
          try simp only [keys_cons, keys_app, keys_nil, Sep_cons, Sep_nil, NotIn_cons, NotIn_app, NotIn_nil, List.cons_append, List.nil_append, List.append_assoc, and_assoc, and_true, true_and] at hsE
          repeat (obtain ⟨hsx, hsE⟩ := hsE)
          refine ⟨.normal, ?_, ?_⟩
          · simp (dsimp := false) (implicitDefEqProofs := false) (disch := first | assumption | (simp only [List.mem_cons, List.mem_append, true_or, or_true, eq_self]; done) | omega | (with_reducible refine Row.adr (by assumption) ?_; simp only [List.length_map, List.length_take, List.length_drop]; omega) | (simp only [List.length_cons, List.length_nil, List.length_map, List.length_append, List.length_replicate, Nat.reduceAdd, true_and, and_true, and_self]; first | done | omega)) only [go_sem, ↓reduceIte, Nat.reduceEqDiff, Nat.reduceAdd, Nat.reduceSub, Nat.reduceMul, Nat.reduceBEq, Nat.reduceLT, Nat.reduceLeDiff, Nat.reduceMod, Nat.reducePow, List.reduceReplicate, UInt8.reduceOfNat, Int.reducePow, Int.reduceDiv, Int.reduceMod, Nat.reduceDiv, Int.reduceNeg, Int.reduceAdd, Int.reduceSub, Int.reduceMul, Int.reduceLE, Int.reduceLT, Int.reduceEq, Int.reduceToNat, reduceCtorEq]
          · repeat' first
              | with_reducible refine Br.yes ?_
              | with_reducible refine Br.no ?_
              | with_reducible refine Br.dec (fun _ => ?_) (fun _ => ?_)
              | with_reducible refine Br.beqB (fun _ => ?_) (fun _ => ?_)
              | with_reducible refine Br.beqb (fun _ => ?_) (fun _ => ?_)
              | with_reducible refine Br.mk (fun _ => ?_) (fun _ => ?_)
              | with_reducible refine foundO.mk (fun _ _ => ?_) (fun _ => ?_)
              | with_reducible refine appV.zero ?_
              | with_reducible refine appV.own ?_
              | ((with_reducible refine NewB.mk fun nb hnb => ?_); have hnb1 := hnb.1.1; have hnb2 := hnb.1.2; try simp only [keys_cons, keys_app, keys_nil, NotIn_cons, NotIn_app, NotIn_nil, and_true] at hnb2)
              | ((with_reducible refine NewRow.mk fun nb nsp ncap hnb hncap => ?_); have hnb1 := hnb.1.1; have hnb2 := hnb.1.2; try simp only [keys_cons, keys_app, keys_nil, NotIn_cons, NotIn_app, NotIn_nil, and_true] at hnb2)
              | simp (dsimp := false) (implicitDefEqProofs := false) (disch := first | assumption | (simp only [List.mem_cons, List.mem_append, true_or, or_true, eq_self]; done) | omega | (with_reducible refine Row.adr (by assumption) ?_; simp only [List.length_map, List.length_take, List.length_drop]; omega) | (simp only [List.length_cons, List.length_nil, List.length_map, List.length_append, List.length_replicate, Nat.reduceAdd, true_and, and_true, and_self]; first | done | omega)) only [go_sem, ↓reduceIte, Nat.reduceEqDiff, Nat.reduceAdd, Nat.reduceSub, Nat.reduceMul, Nat.reduceBEq, Nat.reduceLT, Nat.reduceLeDiff, Nat.reduceMod, Nat.reducePow, List.reduceReplicate, UInt8.reduceOfNat, Int.reducePow, Int.reduceDiv, Int.reduceMod, Nat.reduceDiv, Int.reduceNeg, Int.reduceAdd, Int.reduceSub, Int.reduceMul, Int.reduceLE, Int.reduceLT, Int.reduceEq, Int.reduceToNat, reduceCtorEq]
            unfold UpdR
            refine Upd.leave (H' := H) (by intro fsum; first | exact Nat.le_refl _ | (simp only [List.map_append, List.map_cons, List.map_nil, List.sum_append, List.sum_cons, List.sum_nil, List.cons_append, List.nil_append]; omega)) ?_
            have h0 : reachL d = [] := List.eq_nil_of_length_eq_zero (by omega)
            exact fun hle hs => hR G1 _ (hle2.trans hle1) hs ⟨a, 0, by rw [h0]; rfl, by rw [h0]; exact Row.nil _ _, by rw [h0]; exact Nat.le_refl _⟩
        · have hsE := hs4
          try simp only [keys_cons, keys_app, keys_nil, Sep_cons, Sep_nil, NotIn_cons, NotIn_app, NotIn_nil, List.cons_append, List.nil_append, List.append_assoc, and_assoc, and_true, true_and] at hsE
          repeat (obtain ⟨hsx, hsE⟩ := hsE)
          refine ⟨.normal, ?_, ?_⟩
          · simp (dsimp := false) (implicitDefEqProofs := false) (disch := first | assumption | (simp only [List.mem_cons, List.mem_append, true_or, or_true, eq_self]; done) | omega | (with_reducible refine Row.adr (by assumption) ?_; simp only [List.length_map, List.length_take, List.length_drop]; omega) | (simp only [List.length_cons, List.length_nil, List.length_map, List.length_append, List.length_replicate, Nat.reduceAdd, true_and, and_true, and_self]; first | done | omega)) only [go_sem, ↓reduceIte, Nat.reduceEqDiff, Nat.reduceAdd, Nat.reduceSub, Nat.reduceMul, Nat.reduceBEq, Nat.reduceLT, Nat.reduceLeDiff, Nat.reduceMod, Nat.reducePow, List.reduceReplicate, UInt8.reduceOfNat, Int.reducePow, Int.reduceDiv, Int.reduceMod, Nat.reduceDiv, Int.reduceNeg, Int.reduceAdd, Int.reduceSub, Int.reduceMul, Int.reduceLE, Int.reduceLT, Int.reduceEq, Int.reduceToNat, reduceCtorEq]
          · repeat' first
              | with_reducible refine Br.yes ?_
              | with_reducible refine Br.no ?_
              | with_reducible refine Br.dec (fun _ => ?_) (fun _ => ?_)
              | with_reducible refine Br.beqB (fun _ => ?_) (fun _ => ?_)
              | with_reducible refine Br.beqb (fun _ => ?_) (fun _ => ?_)
              | with_reducible refine Br.mk (fun _ => ?_) (fun _ => ?_)
              | with_reducible refine foundO.mk (fun _ _ => ?_) (fun _ => ?_)
              | with_reducible refine appV.zero ?_
              | with_reducible refine appV.own ?_
              | ((with_reducible refine NewB.mk fun nb hnb => ?_); have hnb1 := hnb.1.1; have hnb2 := hnb.1.2; try simp only [keys_cons, keys_app, keys_nil, NotIn_cons, NotIn_app, NotIn_nil, and_true] at hnb2)
              | ((with_reducible refine NewRow.mk fun nb nsp ncap hnb hncap => ?_); have hnb1 := hnb.1.1; have hnb2 := hnb.1.2; try simp only [keys_cons, keys_app, keys_nil, NotIn_cons, NotIn_app, NotIn_nil, and_true] at hnb2)
              | simp (dsimp := false) (implicitDefEqProofs := false) (disch := first | assumption | (simp only [List.mem_cons, List.mem_append, true_or, or_true, eq_self]; done) | omega | (with_reducible refine Row.adr (by assumption) ?_; simp only [List.length_map, List.length_take, List.length_drop]; omega) | (simp only [List.length_cons, List.length_nil, List.length_map, List.length_append, List.length_replicate, Nat.reduceAdd, true_and, and_true, and_self]; first | done | omega)) only [go_sem, ↓reduceIte, Nat.reduceEqDiff, Nat.reduceAdd, Nat.reduceSub, Nat.reduceMul, Nat.reduceBEq, Nat.reduceLT, Nat.reduceLeDiff, Nat.reduceMod, Nat.reducePow, List.reduceReplicate, UInt8.reduceOfNat, Int.reducePow, Int.reduceDiv, Int.reduceMod, Nat.reduceDiv, Int.reduceNeg, Int.reduceAdd, Int.reduceSub, Int.reduceMul, Int.reduceLE, Int.reduceLT, Int.reduceEq, Int.reduceToNat, reduceCtorEq]
            unfold UpdR
            refine Upd.go (H' := (bk, .cells ((reachL d).map (Value.int .i64)) sk 3) :: H) (by intro fsum; first | exact Nat.le_refl _ | (simp only [List.map_append, List.map_cons, List.map_nil, List.sum_append, List.sum_cons, List.sum_nil, List.cons_append, List.nil_append]; omega)) (Upd.shareRow (by assumption) fun G3 hle3 hs6 hr3 => ?_)
            rw [List.length_map] at hkl hkc
            exact fun hle hs => hR G3 _ ((hle2.trans hle1).trans hle3) hs ⟨some ⟨bk, 0, none⟩, ck, by rw [hi], hr3, by omega⟩
      · exact h.elim
  · have hb := boolOf_no hok
    have hz : reachD d = [] := by unfold reachD; rw [if_neg (by rw [hb]; exact Bool.false_ne_true)]
    rw [hz] at hR
    refine FnT.body tok [0, 1, 2, 3, 4, 7, 13, 14] Try.func9 rfl (by kernel_rfl) (by kernel_rfl) (by show _ ≤ 20; simp) fun hsep => ?_
    rw [Try.results9]
    have hsE := hsep
    try simp only [keys_cons, keys_app, keys_nil, Sep_cons, Sep_nil, NotIn_cons, NotIn_app, NotIn_nil, List.cons_append, List.nil_append, List.append_assoc, and_assoc, and_true, true_and] at hsE
    repeat (obtain ⟨hsx, hsE⟩ := hsE)
    repeat' first
      | with_reducible refine Br.yes ?_
      | with_reducible refine Br.no ?_
      | with_reducible refine Br.dec (fun _ => ?_) (fun _ => ?_)
      | with_reducible refine Br.beqB (fun _ => ?_) (fun _ => ?_)
      | with_reducible refine Br.beqb (fun _ => ?_) (fun _ => ?_)
      | with_reducible refine Br.mk (fun _ => ?_) (fun _ => ?_)
      | with_reducible refine foundO.mk (fun _ _ => ?_) (fun _ => ?_)
      | with_reducible refine appV.zero ?_
      | with_reducible refine appV.own ?_
      | ((with_reducible refine NewB.mk fun nb hnb => ?_); have hnb1 := hnb.1.1; have hnb2 := hnb.1.2; try simp only [keys_cons, keys_app, keys_nil, NotIn_cons, NotIn_app, NotIn_nil, and_true] at hnb2)
      | ((with_reducible refine NewRow.mk fun nb nsp ncap hnb hncap => ?_); have hnb1 := hnb.1.1; have hnb2 := hnb.1.2; try simp only [keys_cons, keys_app, keys_nil, NotIn_cons, NotIn_app, NotIn_nil, and_true] at hnb2)
      | simp (dsimp := false) (implicitDefEqProofs := false) (disch := first | assumption | (simp only [List.mem_cons, List.mem_append, true_or, or_true, eq_self]; done) | omega | (with_reducible refine Row.adr (by assumption) ?_; simp only [List.length_map, List.length_take, List.length_drop]; omega) | (simp only [List.length_cons, List.length_nil, List.length_map, List.length_append, List.length_replicate, Nat.reduceAdd, true_and, and_true, and_self]; first | done | omega)) only [go_sem, ↓reduceIte, Nat.reduceEqDiff, Nat.reduceAdd, Nat.reduceSub, Nat.reduceMul, Nat.reduceBEq, Nat.reduceLT, Nat.reduceLeDiff, Nat.reduceMod, Nat.reducePow, List.reduceReplicate, UInt8.reduceOfNat, Int.reducePow, Int.reduceDiv, Int.reduceMod, Nat.reduceDiv, Int.reduceNeg, Int.reduceAdd, Int.reduceSub, Int.reduceMul, Int.reduceLE, Int.reduceLT, Int.reduceEq, Int.reduceToNat, reduceCtorEq, -List.reduceReplicate, List.toList_toArray, hCl, hCa, hb]
      | with_reducible refine right_t hsm O.is ?_
    unfold UpdR
    refine Upd.leave (H' := H) (by intro fsum; first | exact Nat.le_refl _ | (simp only [List.map_append, List.map_cons, List.map_nil, List.sum_append, List.sum_cons, List.sum_nil, List.cons_append, List.nil_append]; omega)) ?_
    exact fun hle hs => hR G _ (PLe.refl _) hs (Sl.nil _ _)
end Go.Proofs.Ytlblohmjikopbaa
