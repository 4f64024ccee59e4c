/- slices.Insert at place 0: one element ahead of a block of one's own. -/
import Derived.Test.YtpagkndgjihbbaaVh
import Derived.Lib.Overlaps
set_option linter.unusedSimpArgs false
set_option linter.unusedVariables false
namespace Go.Proofs.Ytpagkndgjihbbaa
open Go Go.V Go.Proofs

/-- two blocks of one's own, the first without marks: they do not overlap -/
theorem FnT.apart {f : FuncId} {fn : Func} {tS tR e e1 : TypeId} (hf : (Try.prog).funcs[f]? = some fn) (hname : (fn.name == "runtime.NumGoroutine") = false) (hb : fn.body.isNone = true) (hn : Extern.findNext fn = none) (he : Extern.find fn = some (Extern.SlicesOverlaps.overlaps #[tS, tS] #[tR])) (hk : (T tS).k = .slice e) (hk2 : (T e).k ≠ .none)
    {a b la ca lb cb o : Nat} {xs sp ys sp' : List Value} {e2 : TypeId} {G : PHeap} {H : Heap} {R : Value → PHeap → Heap → Prop} (ha : findH H a = some (.cells xs sp e1)) (h5 : e1 ≠ 5) (hbb : findH H b = some (.cells ys sp' e2)) (hne : a ≠ b) (hl : ys.length + sp'.length ≠ 0) (hR : R (.bool false) G H) :
    FnT Try.prog f [.slice (some ⟨a, 0, none⟩) la ca, .slice (some ⟨b, o, none⟩) lb cb] G H R := by
  refine FnT.ext (v := .bool false) (fun E w hw => ?_) hR
  obtain ⟨d, hd, hfit⟩ := tok.und hk (by simp)
  simp only [TK.fits] at hfit
  subst hfit
  obtain ⟨i, z, hi, hs, _⟩ := tok.info hk2
  obtain ⟨o1, ho1, fr1, rfl, hm1⟩ := hw.find ha
  obtain ⟨o2, ho2, fr2, rfl, hm2⟩ := hw.find hbb
  have hfr : fr1 = (0, 0) := by
    rcases hm1 with h | ⟨_, h⟩
    · exact h
    · exact absurd h h5
  subst hfr
  have key := Lib.run_overlaps_apart (P := Try.prog) w tS tR e hd ((Try.prog).cellsOf e) (fun w => run_sizeOf w hi) ⟨a, 0, none⟩ ⟨b, o, none⟩ la ca lb cb hne e1 e2 (xs ++ sp).length (ys ++ sp').length (by simp [World.shape?, ho1]) (by simp [World.shape?, ho2]) (by simpa using hl) (by simp [World.frozen?, ho1]) (by simp [World.frozen?, ho1])
  have h1 := run_callFunc_extern hf hname hb hn he #[.slice (some ⟨a, 0, none⟩) la ca, .slice (some ⟨b, o, none⟩) lb cb] w
  exact h1.trans (by rw [key]; rfl)
theorem ins_put (xs : List Value) (s0 x : Value) : splice (splice (xs ++ [s0]) 1 xs) 0 [x] = x :: xs := by
  unfold splice
  cases xs with
  | nil => rfl
  | cons y ys => simp; omega
theorem ins_new (xs : List Value) (z x : Value) : splice (splice (List.replicate (xs.length + 1) z) 0 [x]) 1 xs = x :: xs := by
  unfold splice
  simp [List.replicate_succ]; omega
theorem ins_len (xs : List Value) (s0 : Value) : (splice (xs ++ [s0]) 1 xs).length = xs.length + 1 := by
  unfold splice
  cases xs <;> simp <;> omega
theorem ins_len2 (n : Nat) (z x : Value) : (splice (List.replicate (n + 1) z) 0 [x]).length = n + 1 := by
  unfold splice
  simp
theorem callee_insI : V.Callee Try.prog 42 := ⟨_, _, Try.func42, rfl, by kernel_rfl⟩
theorem insI_apart {a b la ca lb cb o : Nat} {xs sp ys sp' : List Value} {G : PHeap} {H : Heap} {R : Value → PHeap → Heap → Prop} (ha : findH H a = some (.cells xs sp 3)) (hbb : findH H b = some (.cells ys sp' 3)) (hne : a ≠ b) (hl : ys.length + sp'.length ≠ 0) (hR : R (.bool false) G H) :
    FnT Try.prog 56 [.slice (some ⟨a, 0, none⟩) la ca, .slice (some ⟨b, o, none⟩) lb cb] G H R :=
  FnT.apart (fn := Try.f56) (tS := 24) (tR := 4) (e := 3) rfl (by kernel_rfl) (by kernel_rfl) (by kernel_rfl) (by kernel_rfl) rfl (fun h => nomatch (show TK.int IntKind.i64 = TK.none from h)) ha (by decide) hbb hne hl hR
set_option maxHeartbeats 8000000 in
theorem insI_t {xs sp : List Value} {n c : Nat} (hn : 0 < n) (hn2 : n ≤ 100000) (hx : xs.length = n) (hc : n + sp.length = c) (hone : xs.all oneV = true) {x : Value} (hx1 : oneV x = true) {b d : Nat} {G : PHeap} {H : Heap} {R : Value → PHeap → Heap → Prop}
    (hR : ∀ b' c' sp', Sep G (keys ((b', Res.cells (x :: xs) sp' 3) :: H)) → n + 1 + sp'.length = c' → R (.slice (some ⟨b', 0, none⟩) (n + 1 : Nat) c') G ((b', .cells (x :: xs) sp' 3) :: H)) :
    FnT Try.prog 42 [.slice (some ⟨b, 0, none⟩) n c, .int .i64 0, .slice (some ⟨d, 0, none⟩) 1 1] G ((b, .cells xs sp 3) :: (d, .cells [x] [] 3) :: H) R := by
  subst hx
  have hone1 : [x].all oneV = true := by simp [hx1]
  have hT1 : ((xs.length : Int) + ((1 : Nat) : Int) - 0).toNat = xs.length + 1 := by omega
  have hT1' : ((xs.length : Int) + ((1 : Nat) : Int)).toNat = xs.length + 1 := by omega
  have hT2 : min 1 (xs.length + 1 - 0) = 1 := by omega
  have hT2' : min 1 (xs.length + 1 - 0 - 0) = 1 := by omega
  have hT3 : min (xs.length - 0) (xs.length + 1 - 1) = xs.length := by omega
  have hT3' : min (xs.length + 1 - 0) (xs.length + 1 - 1) = xs.length := by omega
  have hT4 : (0 + ((1 : Nat) : Int)).toNat = 1 := by omega
  refine FnT.upd (FnT.sep ?_)
  by_cases hg : c < xs.length + 1
  · obtain rfl : sp = [] := List.eq_nil_of_length_eq_zero (by omega)
    refine FnT.body tok [0, 1, 2, 6, 7, 8, 9, 16, 22, 31, 68] Try.func42 rfl (by kernel_rfl) (by kernel_rfl) (by show _ ≤ 95; simp) fun hsep => ?_
    rw [Try.results42]
    have hsE := hsep
    try simp only [keys_cons, keys_app, keys_nil, Sep_cons, Sep_nil, NotIn_cons, NotIn_app, NotIn_nil, List.cons_append, List.nil_append, List.append_assoc, and_assoc, and_true, true_and] at hsE
    repeat (obtain ⟨hsx, hsE⟩ := hsE)
    repeat' first
      | with_reducible refine Br.yes ?_
      | with_reducible refine Br.no ?_
      | with_reducible refine Br.dec (fun _ => ?_) (fun _ => ?_)
      | with_reducible refine Br.beqB (fun _ => ?_) (fun _ => ?_)
      | with_reducible refine Br.beqb (fun _ => ?_) (fun _ => ?_)
      | with_reducible refine Br.mk (fun _ => ?_) (fun _ => ?_)
      | with_reducible refine foundO.mk (fun _ _ => ?_) (fun _ => ?_)
      | with_reducible refine appV.zero ?_
      | with_reducible refine appV.own ?_
      | ((with_reducible refine NewB.mk fun nb hnb => ?_); have hnb1 := hnb.1.1; have hnb2 := hnb.1.2; try simp only [keys_cons, keys_app, keys_nil, NotIn_cons, NotIn_app, NotIn_nil, and_true] at hnb2)
      | ((with_reducible refine NewRow.mk fun nb nsp ncap hnb hncap => ?_); have hnb1 := hnb.1.1; have hnb2 := hnb.1.2; try simp only [keys_cons, keys_app, keys_nil, NotIn_cons, NotIn_app, NotIn_nil, and_true] at hnb2)
      | with_reducible refine Tri.drawM tok mixed [0, 1, 2, 6, 7, 8, 9, 16, 22, 31, 68] 11 [] (.op 0 .plain (.op 1 .plain (.op 2 .plain (.op 3 .plain (.op 4 .plain (.op 5 .plain (.op 6 .plain (.op 7 .plain (.op 8 .keeps .nil))))))))) (by kernel_rfl) [] (List.nil_sublist _) ?_
      | with_reducible refine Tri.drawM tok mixed [0, 1, 2, 6, 7, 8, 9, 16, 22, 31, 68] 15 [] (.op 0 .plain (.op 1 .plain (.op 2 .plain (.op 3 .plain (.op 4 .plain (.op 5 .plain (.op 6 .plain (.op 7 .plain (.op 8 .keeps .nil))))))))) (by kernel_rfl) [] (List.nil_sublist _) ?_
      | simp (dsimp := false) (implicitDefEqProofs := false) (disch := first | assumption | (simp only [List.mem_cons, List.mem_append, true_or, or_true, eq_self]; done) | omega | (with_reducible refine Row.adr (by assumption) ?_; simp only [List.length_map, List.length_take, List.length_drop]; omega) | (simp only [List.length_cons, List.length_nil, List.length_map, List.length_append, List.length_replicate, Nat.reduceAdd, true_and, and_true, and_self]; first | done | omega)) only [go_sem, ↓reduceIte, Nat.reduceEqDiff, Nat.reduceAdd, Nat.reduceSub, Nat.reduceMul, Nat.reduceBEq, Nat.reduceLT, Nat.reduceLeDiff, Nat.reduceMod, Nat.reducePow, List.reduceReplicate, UInt8.reduceOfNat, Int.reducePow, Int.reduceDiv, Int.reduceMod, Nat.reduceDiv, Int.reduceNeg, Int.reduceAdd, Int.reduceSub, Int.reduceMul, Int.reduceLE, Int.reduceLT, Int.reduceEq, Int.reduceToNat, reduceCtorEq, -List.reduceReplicate, ins_new, ins_len2, hT1, hT2, hT3, hT4, hone, hone1, List.take_succ_cons, List.take_zero, List.length_replicate, List.take_length]
    unfold UpdR
    simp at hncap
    exact Upd.now fun _ _ => Upd.leave (H' := (nb, .cells (x :: xs) nsp 3) :: H) (by intro fsum; simp only [List.map_append, List.map_cons, List.map_nil, List.sum_append, List.sum_cons, List.sum_nil, List.cons_append, List.nil_append]; omega) (hR _ _ _ (by simp only [keys_cons, Sep_cons]; exact ⟨⟨hnb1, hnb2.2.2⟩, by assumption⟩) (by omega))
  · obtain ⟨s0, sp, rfl⟩ : ∃ s0 sp0, sp = s0 :: sp0 := by
      cases sp with
      | nil => simp at hc; omega
      | cons s0 sp0 => exact ⟨_, _, rfl⟩
    rw [List.length_cons] at hc
    refine FnT.pre callee_insI (Upd.refind b (xs := xs) (sp := s0 :: sp) (e := 3) (xs ++ [s0]) sp (by simp [findH]) (by simp) ?_)
    simp only [setH, if_true]
    refine Upd.now (FnT.sep ?_)
    have hL := ins_len xs s0
    have hT5 : List.take xs.length (xs ++ s0 :: sp) = xs := by simp
    refine FnT.body tok [0, 1, 2, 6, 7, 8, 9, 16, 22, 31, 68] Try.func42 rfl (by kernel_rfl) (by kernel_rfl) (by show _ ≤ 95; simp) fun hsep => ?_
    rw [Try.results42]
    have hsE := hsep
    try simp only [keys_cons, keys_app, keys_nil, Sep_cons, Sep_nil, NotIn_cons, NotIn_app, NotIn_nil, List.cons_append, List.nil_append, List.append_assoc, and_assoc, and_true, true_and] at hsE
    repeat (obtain ⟨hsx, hsE⟩ := hsE)
    repeat' first
      | with_reducible refine Br.yes ?_
      | with_reducible refine Br.no ?_
      | with_reducible refine Br.dec (fun _ => ?_) (fun _ => ?_)
      | with_reducible refine Br.beqB (fun _ => ?_) (fun _ => ?_)
      | with_reducible refine Br.beqb (fun _ => ?_) (fun _ => ?_)
      | with_reducible refine Br.mk (fun _ => ?_) (fun _ => ?_)
      | with_reducible refine foundO.mk (fun _ _ => ?_) (fun _ => ?_)
      | with_reducible refine appV.zero ?_
      | with_reducible refine appV.own ?_
      | ((with_reducible refine NewB.mk fun nb hnb => ?_); have hnb1 := hnb.1.1; have hnb2 := hnb.1.2; try simp only [keys_cons, keys_app, keys_nil, NotIn_cons, NotIn_app, NotIn_nil, and_true] at hnb2)
      | ((with_reducible refine NewRow.mk fun nb nsp ncap hnb hncap => ?_); have hnb1 := hnb.1.1; have hnb2 := hnb.1.2; try simp only [keys_cons, keys_app, keys_nil, NotIn_cons, NotIn_app, NotIn_nil, and_true] at hnb2)
      | with_reducible refine Tri.drawM tok mixed [0, 1, 2, 6, 7, 8, 9, 16, 22, 31, 68] 11 [] (.op 0 .plain (.op 1 .plain (.op 2 .plain (.op 3 .plain (.op 4 .plain (.op 5 .plain (.op 6 .plain (.op 7 .plain (.op 8 .keeps .nil))))))))) (by kernel_rfl) [] (List.nil_sublist _) ?_
      | with_reducible refine Tri.drawM tok mixed [0, 1, 2, 6, 7, 8, 9, 16, 22, 31, 68] 15 [] (.op 0 .plain (.op 1 .plain (.op 2 .plain (.op 3 .plain (.op 4 .plain (.op 5 .plain (.op 6 .plain (.op 7 .plain (.op 8 .keeps .nil))))))))) (by kernel_rfl) [] (List.nil_sublist _) ?_
      | simp (dsimp := false) (implicitDefEqProofs := false) (disch := first | assumption | (simp only [List.mem_cons, List.mem_append, true_or, or_true, eq_self]; done) | omega | (with_reducible refine Row.adr (by assumption) ?_; simp only [List.length_map, List.length_take, List.length_drop]; omega) | (simp only [List.length_cons, List.length_nil, List.length_map, List.length_append, List.length_replicate, Nat.reduceAdd, true_and, and_true, and_self]; first | done | omega)) only [go_sem, ↓reduceIte, Nat.reduceEqDiff, Nat.reduceAdd, Nat.reduceSub, Nat.reduceMul, Nat.reduceBEq, Nat.reduceLT, Nat.reduceLeDiff, Nat.reduceMod, Nat.reducePow, List.reduceReplicate, UInt8.reduceOfNat, Int.reducePow, Int.reduceDiv, Int.reduceMod, Nat.reduceDiv, Int.reduceNeg, Int.reduceAdd, Int.reduceSub, Int.reduceMul, Int.reduceLE, Int.reduceLT, Int.reduceEq, Int.reduceToNat, reduceCtorEq, -List.reduceReplicate, ins_put, hL, hT1, hT1', hT2, hT2', hT3, hT3', hT4, hT5, hone, hone1, List.take_succ_cons, List.take_zero, List.length_replicate, List.take_length, List.append_assoc, List.cons_append, List.nil_append, List.drop_zero]
      | with_reducible refine insI_apart (xs := [x]) (sp := []) (ys := xs ++ [s0]) (sp' := sp) ?_ ?_ (Ne.symm (by assumption)) (by simp) ?_
    all_goals (simp only [Nat.sub_zero])
    unfold UpdR
    exact Upd.now fun _ _ _ _ => Upd.leave (H' := (b, .cells (x :: xs) sp 3) :: H) (by intro fsum; simp only [List.map_append, List.map_cons, List.map_nil, List.sum_append, List.sum_cons, List.sum_nil, List.cons_append, List.nil_append]; omega) (hR _ _ _ (by simp only [keys_cons, Sep_cons]; exact ⟨⟨by assumption, by assumption⟩, by assumption⟩) (by omega))
theorem callee_insR : V.Callee Try.prog 40 := ⟨_, _, Try.func40, rfl, by kernel_rfl⟩
theorem insR_apart {a b la ca lb cb o : Nat} {xs sp ys sp' : List Value} {G : PHeap} {H : Heap} {R : Value → PHeap → Heap → Prop} (ha : findH H a = some (.cells xs sp 24)) (hbb : findH H b = some (.cells ys sp' 24)) (hne : a ≠ b) (hl : ys.length + sp'.length ≠ 0) (hR : R (.bool false) G H) :
    FnT Try.prog 54 [.slice (some ⟨a, 0, none⟩) la ca, .slice (some ⟨b, o, none⟩) lb cb] G H R :=
  FnT.apart (fn := Try.f54) (tS := 23) (tR := 4) (e := 24) rfl (by kernel_rfl) (by kernel_rfl) (by kernel_rfl) (by kernel_rfl) rfl (fun h => nomatch (show TK.slice 3 = TK.none from h)) ha (by decide) hbb hne hl hR
set_option maxHeartbeats 8000000 in
theorem insR_t {xs sp : List Value} {n c : Nat} (hn : 0 < n) (hn2 : n ≤ 100000) (hx : xs.length = n) (hc : n + sp.length = c) (hone : xs.all oneV = true) {x : Value} (hx1 : oneV x = true) {b d : Nat} {G : PHeap} {H : Heap} {R : Value → PHeap → Heap → Prop}
    (hR : ∀ b' c' sp', Sep G (keys ((b', Res.cells (x :: xs) sp' 24) :: H)) → n + 1 + sp'.length = c' → R (.slice (some ⟨b', 0, none⟩) (n + 1 : Nat) c') G ((b', .cells (x :: xs) sp' 24) :: H)) :
    FnT Try.prog 40 [.slice (some ⟨b, 0, none⟩) n c, .int .i64 0, .slice (some ⟨d, 0, none⟩) 1 1] G ((b, .cells xs sp 24) :: (d, .cells [x] [] 24) :: H) R := by
  subst hx
  have hone1 : [x].all oneV = true := by simp [hx1]
  have hT1 : ((xs.length : Int) + ((1 : Nat) : Int) - 0).toNat = xs.length + 1 := by omega
  have hT1' : ((xs.length : Int) + ((1 : Nat) : Int)).toNat = xs.length + 1 := by omega
  have hT2 : min 1 (xs.length + 1 - 0) = 1 := by omega
  have hT2' : min 1 (xs.length + 1 - 0 - 0) = 1 := by omega
  have hT3 : min (xs.length - 0) (xs.length + 1 - 1) = xs.length := by omega
  have hT3' : min (xs.length + 1 - 0) (xs.length + 1 - 1) = xs.length := by omega
  have hT4 : (0 + ((1 : Nat) : Int)).toNat = 1 := by omega
  refine FnT.upd (FnT.sep ?_)
  by_cases hg : c < xs.length + 1
  · obtain rfl : sp = [] := List.eq_nil_of_length_eq_zero (by omega)
    refine FnT.body tok [0, 1, 2, 6, 7, 8, 9, 16, 22, 31, 68] Try.func40 rfl (by kernel_rfl) (by kernel_rfl) (by show _ ≤ 95; simp) fun hsep => ?_
    rw [Try.results40]
    have hsE := hsep
    try simp only [keys_cons, keys_app, keys_nil, Sep_cons, Sep_nil, NotIn_cons, NotIn_app, NotIn_nil, List.cons_append, List.nil_append, List.append_assoc, and_assoc, and_true, true_and] at hsE
    repeat (obtain ⟨hsx, hsE⟩ := hsE)
    repeat' first
      | with_reducible refine Br.yes ?_
      | with_reducible refine Br.no ?_
      | with_reducible refine Br.dec (fun _ => ?_) (fun _ => ?_)
      | with_reducible refine Br.beqB (fun _ => ?_) (fun _ => ?_)
      | with_reducible refine Br.beqb (fun _ => ?_) (fun _ => ?_)
      | with_reducible refine Br.mk (fun _ => ?_) (fun _ => ?_)
      | with_reducible refine foundO.mk (fun _ _ => ?_) (fun _ => ?_)
      | with_reducible refine appV.zero ?_
      | with_reducible refine appV.own ?_
      | ((with_reducible refine NewB.mk fun nb hnb => ?_); have hnb1 := hnb.1.1; have hnb2 := hnb.1.2; try simp only [keys_cons, keys_app, keys_nil, NotIn_cons, NotIn_app, NotIn_nil, and_true] at hnb2)
      | ((with_reducible refine NewRow.mk fun nb nsp ncap hnb hncap => ?_); have hnb1 := hnb.1.1; have hnb2 := hnb.1.2; try simp only [keys_cons, keys_app, keys_nil, NotIn_cons, NotIn_app, NotIn_nil, and_true] at hnb2)
      | with_reducible refine Tri.drawM tok mixed [0, 1, 2, 6, 7, 8, 9, 16, 22, 31, 68] 11 [] (.op 0 .plain (.op 1 .plain (.op 2 .plain (.op 3 .plain (.op 4 .plain (.op 5 .plain (.op 6 .plain (.op 7 .plain (.op 8 .keeps .nil))))))))) (by kernel_rfl) [] (List.nil_sublist _) ?_
      | with_reducible refine Tri.drawM tok mixed [0, 1, 2, 6, 7, 8, 9, 16, 22, 31, 68] 15 [] (.op 0 .plain (.op 1 .plain (.op 2 .plain (.op 3 .plain (.op 4 .plain (.op 5 .plain (.op 6 .plain (.op 7 .plain (.op 8 .keeps .nil))))))))) (by kernel_rfl) [] (List.nil_sublist _) ?_
      | simp (dsimp := false) (implicitDefEqProofs := false) (disch := first | assumption | (simp only [List.mem_cons, List.mem_append, true_or, or_true, eq_self]; done) | omega | (with_reducible refine Row.adr (by assumption) ?_; simp only [List.length_map, List.length_take, List.length_drop]; omega) | (simp only [List.length_cons, List.length_nil, List.length_map, List.length_append, List.length_replicate, Nat.reduceAdd, true_and, and_true, and_self]; first | done | omega)) only [go_sem, ↓reduceIte, Nat.reduceEqDiff, Nat.reduceAdd, Nat.reduceSub, Nat.reduceMul, Nat.reduceBEq, Nat.reduceLT, Nat.reduceLeDiff, Nat.reduceMod, Nat.reducePow, List.reduceReplicate, UInt8.reduceOfNat, Int.reducePow, Int.reduceDiv, Int.reduceMod, Nat.reduceDiv, Int.reduceNeg, Int.reduceAdd, Int.reduceSub, Int.reduceMul, Int.reduceLE, Int.reduceLT, Int.reduceEq, Int.reduceToNat, reduceCtorEq, -List.reduceReplicate, ins_new, ins_len2, hT1, hT2, hT3, hT4, hone, hone1, List.take_succ_cons, List.take_zero, List.length_replicate, List.take_length]
    unfold UpdR
    simp at hncap
    exact Upd.now fun _ _ => Upd.leave (H' := (nb, .cells (x :: xs) nsp 24) :: H) (by intro fsum; simp only [List.map_append, List.map_cons, List.map_nil, List.sum_append, List.sum_cons, List.sum_nil, List.cons_append, List.nil_append]; omega) (hR _ _ _ (by simp only [keys_cons, Sep_cons]; exact ⟨⟨hnb1, hnb2.2.2⟩, by assumption⟩) (by omega))
  · obtain ⟨s0, sp, rfl⟩ : ∃ s0 sp0, sp = s0 :: sp0 := by
      cases sp with
      | nil => simp at hc; omega
      | cons s0 sp0 => exact ⟨_, _, rfl⟩
    rw [List.length_cons] at hc
    refine FnT.pre callee_insR (Upd.refind b (xs := xs) (sp := s0 :: sp) (e := 24) (xs ++ [s0]) sp (by simp [findH]) (by simp) ?_)
    simp only [setH, if_true]
    refine Upd.now (FnT.sep ?_)
    have hL := ins_len xs s0
    have hT5 : List.take xs.length (xs ++ s0 :: sp) = xs := by simp
    refine FnT.body tok [0, 1, 2, 6, 7, 8, 9, 16, 22, 31, 68] Try.func40 rfl (by kernel_rfl) (by kernel_rfl) (by show _ ≤ 95; simp) fun hsep => ?_
    rw [Try.results40]
    have hsE := hsep
    try simp only [keys_cons, keys_app, keys_nil, Sep_cons, Sep_nil, NotIn_cons, NotIn_app, NotIn_nil, List.cons_append, List.nil_append, List.append_assoc, and_assoc, and_true, true_and] at hsE
    repeat (obtain ⟨hsx, hsE⟩ := hsE)
    repeat' first
      | with_reducible refine Br.yes ?_
      | with_reducible refine Br.no ?_
      | with_reducible refine Br.dec (fun _ => ?_) (fun _ => ?_)
      | with_reducible refine Br.beqB (fun _ => ?_) (fun _ => ?_)
      | with_reducible refine Br.beqb (fun _ => ?_) (fun _ => ?_)
      | with_reducible refine Br.mk (fun _ => ?_) (fun _ => ?_)
      | with_reducible refine foundO.mk (fun _ _ => ?_) (fun _ => ?_)
      | with_reducible refine appV.zero ?_
      | with_reducible refine appV.own ?_
      | ((with_reducible refine NewB.mk fun nb hnb => ?_); have hnb1 := hnb.1.1; have hnb2 := hnb.1.2; try simp only [keys_cons, keys_app, keys_nil, NotIn_cons, NotIn_app, NotIn_nil, and_true] at hnb2)
      | ((with_reducible refine NewRow.mk fun nb nsp ncap hnb hncap => ?_); have hnb1 := hnb.1.1; have hnb2 := hnb.1.2; try simp only [keys_cons, keys_app, keys_nil, NotIn_cons, NotIn_app, NotIn_nil, and_true] at hnb2)
      | with_reducible refine Tri.drawM tok mixed [0, 1, 2, 6, 7, 8, 9, 16, 22, 31, 68] 11 [] (.op 0 .plain (.op 1 .plain (.op 2 .plain (.op 3 .plain (.op 4 .plain (.op 5 .plain (.op 6 .plain (.op 7 .plain (.op 8 .keeps .nil))))))))) (by kernel_rfl) [] (List.nil_sublist _) ?_
      | with_reducible refine Tri.drawM tok mixed [0, 1, 2, 6, 7, 8, 9, 16, 22, 31, 68] 15 [] (.op 0 .plain (.op 1 .plain (.op 2 .plain (.op 3 .plain (.op 4 .plain (.op 5 .plain (.op 6 .plain (.op 7 .plain (.op 8 .keeps .nil))))))))) (by kernel_rfl) [] (List.nil_sublist _) ?_
      | simp (dsimp := false) (implicitDefEqProofs := false) (disch := first | assumption | (simp only [List.mem_cons, List.mem_append, true_or, or_true, eq_self]; done) | omega | (with_reducible refine Row.adr (by assumption) ?_; simp only [List.length_map, List.length_take, List.length_drop]; omega) | (simp only [List.length_cons, List.length_nil, List.length_map, List.length_append, List.length_replicate, Nat.reduceAdd, true_and, and_true, and_self]; first | done | omega)) only [go_sem, ↓reduceIte, Nat.reduceEqDiff, Nat.reduceAdd, Nat.reduceSub, Nat.reduceMul, Nat.reduceBEq, Nat.reduceLT, Nat.reduceLeDiff, Nat.reduceMod, Nat.reducePow, List.reduceReplicate, UInt8.reduceOfNat, Int.reducePow, Int.reduceDiv, Int.reduceMod, Nat.reduceDiv, Int.reduceNeg, Int.reduceAdd, Int.reduceSub, Int.reduceMul, Int.reduceLE, Int.reduceLT, Int.reduceEq, Int.reduceToNat, reduceCtorEq, -List.reduceReplicate, ins_put, hL, hT1, hT1', hT2, hT2', hT3, hT3', hT4, hT5, hone, hone1, List.take_succ_cons, List.take_zero, List.length_replicate, List.take_length, List.append_assoc, List.cons_append, List.nil_append, List.drop_zero]
      | with_reducible refine insR_apart (xs := [x]) (sp := []) (ys := xs ++ [s0]) (sp' := sp) ?_ ?_ (Ne.symm (by assumption)) (by simp) ?_
    all_goals (simp only [Nat.sub_zero])
    unfold UpdR
    exact Upd.now fun _ _ _ _ => Upd.leave (H' := (b, .cells (x :: xs) sp 24) :: H) (by intro fsum; simp only [List.map_append, List.map_cons, List.map_nil, List.sum_append, List.sum_cons, List.sum_nil, List.cons_append, List.nil_append]; omega) (hR _ _ _ (by simp only [keys_cons, Sep_cons]; exact ⟨⟨by assumption, by assumption⟩, by assumption⟩) (by omega))
end Go.Proofs.Ytpagkndgjihbbaa
