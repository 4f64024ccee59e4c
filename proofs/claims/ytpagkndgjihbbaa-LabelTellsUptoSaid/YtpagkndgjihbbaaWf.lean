/- Where a machine is behind a word, and what it tells there. -/
import Derived.Test.YtpagkndgjihbbaaTb
set_option linter.unusedSimpArgs false
set_option linter.unusedVariables false
namespace Go.Proofs.Ytpagkndgjihbbaa
open Go Go.V Go.Proofs

theorem DfaT.ext2 {d e : DfaT} (h1 : d.of = e.of) (h2 : d.width = e.width) (h3 : d.next = e.next) (h4 : d.label = e.label) (h5 : d.names = e.names) : d = e := by
  cases d; cases e; simp only at h1 h2 h3 h4 h5; subst h1 h2 h3 h4 h5; rfl
/-- where a machine is behind a word -/
def runD (d : DfaT) (w : List UInt8) : Int := w.foldl (fun s b => toD d s b.toNat) 0
theorem runD_take (d : DfaT) (w : List UInt8) {i : Nat} (h : i < w.length) : runD d (w.take (i + 1)) = toD d (runD d (w.take i)) w[i].toNat := by
  unfold runD; rw [List.take_succ_eq_append_getElem h, List.foldl_append]; rfl
theorem toD_ok {d : DfaT} (hok : RightP d) (hof : d.of.length = 256) {s : Int} (hs : 0 ≤ s ∧ s < d.label.length) {c : Nat} (hc : c < 256) : 0 ≤ toD d s c ∧ toD d s c < d.label.length := by
  obtain ⟨t, rfl⟩ := Int.eq_ofNat_of_zero_le hs.1
  obtain ⟨hk1, hk2, hk3, hk4, hk5, hk6, hk7⟩ := id hok
  have htn : t < d.next.length := by omega
  have hco : c < d.of.length := by omega
  have hox := of_bound hok (List.getElem_mem hco)
  obtain ⟨y, hy⟩ := Int.eq_ofNat_of_zero_le hox.1
  obtain ⟨hw0, _, _, hrng⟩ := hk7 t htn (by omega)
  have hyk : y < (d.next[t]).length := by omega
  have hval : toD d (t : Nat) c = (d.next[t])[y] := by
    unfold toD
    rw [Int.toNat_natCast, List.getD_eq_getElem?_getD, List.getElem?_eq_getElem htn, List.getD_eq_getElem?_getD, List.getElem?_eq_getElem hco]
    show atL d.next[t] d.of[c] = _
    rw [hy, atL_get (by simpa using hyk)]
    simp only [Int.toNat_natCast]
  rw [hval]
  exact hrng _ (List.getElem_mem hyk)
theorem runD_ok {d : DfaT} (hok : RightP d) (hof : d.of.length = 256) (w : List UInt8) : 0 ≤ runD d w ∧ runD d w < d.label.length := by
  have key : ∀ i, i ≤ w.length → 0 ≤ runD d (w.take i) ∧ runD d (w.take i) < d.label.length := by
    intro i
    induction i with
    | zero => intro _; rw [List.take_zero]; have := hok.1; exact ⟨Int.le_refl 0, by show (0 : Int) < _; omega⟩
    | succ i ih =>
      intro h
      rw [runD_take d w h]
      exact toD_ok hok hof (ih (by omega)) w[i].toNat_lt
  have := key w.length (Nat.le_refl _)
  rwa [List.take_length] at this
noncomputable def runB (d : DfaT) (w : List UInt8) : Int := if boolOf (RightP d) = true then runD d w else -1
/-- what a machine tells behind a word -/
def tellD (d : DfaT) (w : List UInt8) : Int := atL d.label (runD d w)
noncomputable def tellB (d : DfaT) (w : List UInt8) : Int := if boolOf (RightP d) = true then tellD d w else 0
/-- the name of a label -/
def nameD (d : DfaT) (k : Int) : List UInt8 := if 0 < k then d.names.getD (k - 1).toNat [] else []
theorem tellD_ok {d : DfaT} (hok : RightP d) (hof : d.of.length = 256) (w : List UInt8) : 0 ≤ tellD d w ∧ tellD d w ≤ d.names.length := by
  obtain ⟨h1, h2⟩ := runD_ok hok hof w
  unfold tellD
  obtain ⟨i, hi⟩ := Int.eq_ofNat_of_zero_le h1
  rw [hi] at h2 ⊢
  obtain ⟨hk1, hk2, hk3, hk4, hk5, hk6, hk7⟩ := id hok
  obtain ⟨_, g1, g2, _⟩ := hk7 i (by omega) (by omega)
  rw [atL_get (by simpa using h2)]
  simp only [Int.toNat_natCast]
  exact ⟨g1, g2⟩
set_option maxHeartbeats 8000000 in
theorem drun_t {d : DfaT} (hsm : SmallD d) {w : List UInt8} (hwl : w.length ≤ 2000000) {G : PHeap} {H : Heap} {R : Value → PHeap → Heap → Prop} {v vw : Value} (hv : IsD G d v) (hw : Sl G byteV vw w)
    (hR : R (.int .i64 (runB d w)) G H) : FnT Try.prog 59 [v, vw] G H R := by
  obtain ⟨C, an, al, ay, cn, cl, cs, rs, rfl, O⟩ := hv.opened
  obtain ⟨aw, cw, rfl, hwr, hwc⟩ := hw
  have hCl := O.len
  have hCa := O.all
  have hCn := O.n
  by_cases hok : RightP d
  · have hb := boolOf_yes hok
    have hz : runB d w = runD d w := by unfold runB; rw [if_pos hb]
    rw [hz] at hR
    have hk2 := hok.2.1
    have hrnl := O.rnl
    refine FnT.body tok [0, 1, 2, 4, 5, 7, 10, 11, 12, 13, 14] Try.func59 rfl (by kernel_rfl) (by kernel_rfl) (by show _ ≤ 30; simp) fun hsep => ?_
    rw [Try.results59]
    have hsE := hsep
    try simp only [keys_cons, keys_app, keys_nil, Sep_cons, Sep_nil, NotIn_cons, NotIn_app, NotIn_nil, List.cons_append, List.nil_append, List.append_assoc, and_assoc, and_true, true_and] at hsE
    repeat (obtain ⟨hsx, hsE⟩ := hsE)
    repeat' first
      | with_reducible refine Br.yes ?_
      | with_reducible refine Br.no ?_
      | with_reducible refine Br.dec (fun _ => ?_) (fun _ => ?_)
      | with_reducible refine Br.beqB (fun _ => ?_) (fun _ => ?_)
      | with_reducible refine Br.beqb (fun _ => ?_) (fun _ => ?_)
      | with_reducible refine Br.mk (fun _ => ?_) (fun _ => ?_)
      | with_reducible refine foundO.mk (fun _ _ => ?_) (fun _ => ?_)
      | with_reducible refine appV.zero ?_
      | with_reducible refine appV.own ?_
      | ((with_reducible refine NewB.mk fun nb hnb => ?_); have hnb1 := hnb.1.1; have hnb2 := hnb.1.2; try simp only [keys_cons, keys_app, keys_nil, NotIn_cons, NotIn_app, NotIn_nil, and_true] at hnb2)
      | ((with_reducible refine NewRow.mk fun nb nsp ncap hnb hncap => ?_); have hnb1 := hnb.1.1; have hnb2 := hnb.1.2; try simp only [keys_cons, keys_app, keys_nil, NotIn_cons, NotIn_app, NotIn_nil, and_true] at hnb2)
      | simp (dsimp := false) (implicitDefEqProofs := false) (disch := first | assumption | (simp only [List.mem_cons, List.mem_append, true_or, or_true, eq_self]; done) | omega | (with_reducible refine Row.adr (by assumption) ?_; simp only [List.length_map, List.length_take, List.length_drop]; omega) | (simp only [List.length_cons, List.length_nil, List.length_map, List.length_append, List.length_replicate, Nat.reduceAdd, true_and, and_true, and_self]; first | done | omega)) only [go_sem, ↓reduceIte, Nat.reduceEqDiff, Nat.reduceAdd, Nat.reduceSub, Nat.reduceMul, Nat.reduceBEq, Nat.reduceLT, Nat.reduceLeDiff, Nat.reduceMod, Nat.reducePow, List.reduceReplicate, UInt8.reduceOfNat, Int.reducePow, Int.reduceDiv, Int.reduceMod, Nat.reduceDiv, Int.reduceNeg, Int.reduceAdd, Int.reduceSub, Int.reduceMul, Int.reduceLE, Int.reduceLT, Int.reduceEq, Int.reduceToNat, reduceCtorEq, -List.reduceReplicate, List.toList_toArray, hCl, hCa, hb]
      | with_reducible refine right_t hsm O.is ?_
    refine Tri.loopU tok [0, 1, 2, 4, 5, 7, 10, 11, 12, 13, 14] (by kernel_rfl) [1, 2, 4, 5, 11, 12, 13] (fun q G' fr H' => ∃ i : Nat, i + q = w.length ∧ G' = G ∧ H' = (nb, .cells C [] 27) :: H ∧ fr = [(1, .slice aw w.length cw), (2, .pointer (some ⟨nb, 0, none⟩)), (4, .int .i64 0), (5, .int .i64 (runD d (w.take i))), (11, .slice aw w.length cw), (12, .int .i64 w.length), (13, .int .i64 (i : Nat))]) (w.length) (Upd.now ?_) ?_
    · exact ⟨0, by omega, rfl, rfl, by rw [List.take_zero]; rfl⟩
    · rintro q G1 fr H' hle hs1 ⟨i, hiq, rfl, rfl, rfl⟩
      by_cases hil : i < w.length
      · have hadw : Adr aw := hwr.adr (by rw [List.length_map]; omega)
        have hrun := runD_take d w hil
        obtain ⟨h1, h2⟩ := runD_ok hok O.ofl (w.take i)
        obtain ⟨t, ht⟩ := Int.eq_ofNat_of_zero_le h1
        rw [ht] at h2 hrun ⊢
        have hc := w[i].toNat_lt
        generalize hcc : w[i].toNat = c at *
        obtain ⟨y, z, b, cc, htn, htv, hyk, hyb, hCc, e1, e2, e3, hz1, hval, hz2, hz3, had, had2⟩ := to_facts hok O (t := t) (by omega) hc
        have hrl := hsm.2.1 _ (List.getElem_mem htn)
        rw [hval] at hrun
        repeat' first
          | with_reducible refine Br.yes ?_
          | with_reducible refine Br.no ?_
          | with_reducible refine Br.dec (fun _ => ?_) (fun _ => ?_)
          | with_reducible refine Br.beqB (fun _ => ?_) (fun _ => ?_)
          | with_reducible refine Br.beqb (fun _ => ?_) (fun _ => ?_)
          | with_reducible refine Br.mk (fun _ => ?_) (fun _ => ?_)
          | with_reducible refine foundO.mk (fun _ _ => ?_) (fun _ => ?_)
          | with_reducible refine appV.zero ?_
          | with_reducible refine appV.own ?_
          | ((with_reducible refine NewB.mk fun nb hnb => ?_); have hnb1 := hnb.1.1; have hnb2 := hnb.1.2; try simp only [keys_cons, keys_app, keys_nil, NotIn_cons, NotIn_app, NotIn_nil, and_true] at hnb2)
          | ((with_reducible refine NewRow.mk fun nb nsp ncap hnb hncap => ?_); have hnb1 := hnb.1.1; have hnb2 := hnb.1.2; try simp only [keys_cons, keys_app, keys_nil, NotIn_cons, NotIn_app, NotIn_nil, and_true] at hnb2)
          | with_reducible refine Tri.drawM tok mixed [0, 1, 2, 4, 5, 7, 10, 11, 12, 13, 14] 7 [1, 4, 8, 10] (.op 0 .plain (.op 1 .held (.op 2 .plain (.op 3 .plain (.op 4 .held (.op 5 .plain (.op 6 .plain (.op 7 .plain (.op 8 .held (.op 9 .plain (.op 10 .held (.op 11 .plain .nil)))))))))))) (by kernel_rfl) _ (List.Sublist.refl _) ?_
          | simp (dsimp := false) (implicitDefEqProofs := false) (disch := first | assumption | (simp only [List.mem_cons, List.mem_append, true_or, or_true, eq_self]; done) | omega | (with_reducible refine Row.adr (by assumption) ?_; simp only [List.length_map, List.length_take, List.length_drop]; omega) | (simp only [List.length_cons, List.length_nil, List.length_map, List.length_append, List.length_replicate, Nat.reduceAdd, true_and, and_true, and_self]; first | done | omega)) only [go_sem, ↓reduceIte, Nat.reduceEqDiff, Nat.reduceAdd, Nat.reduceSub, Nat.reduceMul, Nat.reduceBEq, Nat.reduceLT, Nat.reduceLeDiff, Nat.reduceMod, Nat.reducePow, List.reduceReplicate, UInt8.reduceOfNat, Int.reducePow, Int.reduceDiv, Int.reduceMod, Nat.reduceDiv, Int.reduceNeg, Int.reduceAdd, Int.reduceSub, Int.reduceMul, Int.reduceLE, Int.reduceLT, Int.reduceEq, Int.reduceToNat, reduceCtorEq, -List.reduceReplicate, List.toList_toArray, hCl, hCa, hCn, hCc, Row.obj hwr, byteV, hcc, Row.obj O.rn, e1, Row.obj e2, List.getElem_map, hz1]
        exact Upd.now ⟨q - 1, by omega, i + 1, by omega, rfl, rfl, by rw [hrun]; rfl⟩
      · obtain rfl : i = w.length := by omega
        rw [List.take_length]
        repeat' first
          | with_reducible refine Br.yes ?_
          | with_reducible refine Br.no ?_
          | with_reducible refine Br.dec (fun _ => ?_) (fun _ => ?_)
          | with_reducible refine Br.beqB (fun _ => ?_) (fun _ => ?_)
          | with_reducible refine Br.beqb (fun _ => ?_) (fun _ => ?_)
          | with_reducible refine Br.mk (fun _ => ?_) (fun _ => ?_)
          | with_reducible refine foundO.mk (fun _ _ => ?_) (fun _ => ?_)
          | with_reducible refine appV.zero ?_
          | with_reducible refine appV.own ?_
          | ((with_reducible refine NewB.mk fun nb hnb => ?_); have hnb1 := hnb.1.1; have hnb2 := hnb.1.2; try simp only [keys_cons, keys_app, keys_nil, NotIn_cons, NotIn_app, NotIn_nil, and_true] at hnb2)
          | ((with_reducible refine NewRow.mk fun nb nsp ncap hnb hncap => ?_); have hnb1 := hnb.1.1; have hnb2 := hnb.1.2; try simp only [keys_cons, keys_app, keys_nil, NotIn_cons, NotIn_app, NotIn_nil, and_true] at hnb2)
          | simp (dsimp := false) (implicitDefEqProofs := false) (disch := first | assumption | (simp only [List.mem_cons, List.mem_append, true_or, or_true, eq_self]; done) | omega | (with_reducible refine Row.adr (by assumption) ?_; simp only [List.length_map, List.length_take, List.length_drop]; omega) | (simp only [List.length_cons, List.length_nil, List.length_map, List.length_append, List.length_replicate, Nat.reduceAdd, true_and, and_true, and_self]; first | done | omega)) only [go_sem, ↓reduceIte, Nat.reduceEqDiff, Nat.reduceAdd, Nat.reduceSub, Nat.reduceMul, Nat.reduceBEq, Nat.reduceLT, Nat.reduceLeDiff, Nat.reduceMod, Nat.reducePow, List.reduceReplicate, UInt8.reduceOfNat, Int.reducePow, Int.reduceDiv, Int.reduceMod, Nat.reduceDiv, Int.reduceNeg, Int.reduceAdd, Int.reduceSub, Int.reduceMul, Int.reduceLE, Int.reduceLT, Int.reduceEq, Int.reduceToNat, reduceCtorEq]
        all_goals refine Upd.finL ?_ hR ?_
        any_goals (intro fsum; first | exact Nat.le_refl _ | (simp only [List.map_append, List.map_cons, List.map_nil, List.sum_append, List.sum_cons, List.sum_nil, List.cons_append, List.nil_append]; omega))
        all_goals rfl
  · have hb := boolOf_no hok
    have hz : runB d w = -1 := by unfold runB; rw [if_neg (by rw [hb]; exact Bool.false_ne_true)]
    rw [hz] at hR
    refine FnT.body tok [0, 1, 2, 4, 5, 7, 10, 11, 12, 13, 14] Try.func59 rfl (by kernel_rfl) (by kernel_rfl) (by show _ ≤ 30; simp) fun hsep => ?_
    rw [Try.results59]
    have hsE := hsep
    try simp only [keys_cons, keys_app, keys_nil, Sep_cons, Sep_nil, NotIn_cons, NotIn_app, NotIn_nil, List.cons_append, List.nil_append, List.append_assoc, and_assoc, and_true, true_and] at hsE
    repeat (obtain ⟨hsx, hsE⟩ := hsE)
    repeat' first
      | with_reducible refine Br.yes ?_
      | with_reducible refine Br.no ?_
      | with_reducible refine Br.dec (fun _ => ?_) (fun _ => ?_)
      | with_reducible refine Br.beqB (fun _ => ?_) (fun _ => ?_)
      | with_reducible refine Br.beqb (fun _ => ?_) (fun _ => ?_)
      | with_reducible refine Br.mk (fun _ => ?_) (fun _ => ?_)
      | with_reducible refine foundO.mk (fun _ _ => ?_) (fun _ => ?_)
      | with_reducible refine appV.zero ?_
      | with_reducible refine appV.own ?_
      | ((with_reducible refine NewB.mk fun nb hnb => ?_); have hnb1 := hnb.1.1; have hnb2 := hnb.1.2; try simp only [keys_cons, keys_app, keys_nil, NotIn_cons, NotIn_app, NotIn_nil, and_true] at hnb2)
      | ((with_reducible refine NewRow.mk fun nb nsp ncap hnb hncap => ?_); have hnb1 := hnb.1.1; have hnb2 := hnb.1.2; try simp only [keys_cons, keys_app, keys_nil, NotIn_cons, NotIn_app, NotIn_nil, and_true] at hnb2)
      | simp (dsimp := false) (implicitDefEqProofs := false) (disch := first | assumption | (simp only [List.mem_cons, List.mem_append, true_or, or_true, eq_self]; done) | omega | (with_reducible refine Row.adr (by assumption) ?_; simp only [List.length_map, List.length_take, List.length_drop]; omega) | (simp only [List.length_cons, List.length_nil, List.length_map, List.length_append, List.length_replicate, Nat.reduceAdd, true_and, and_true, and_self]; first | done | omega)) only [go_sem, ↓reduceIte, Nat.reduceEqDiff, Nat.reduceAdd, Nat.reduceSub, Nat.reduceMul, Nat.reduceBEq, Nat.reduceLT, Nat.reduceLeDiff, Nat.reduceMod, Nat.reducePow, List.reduceReplicate, UInt8.reduceOfNat, Int.reducePow, Int.reduceDiv, Int.reduceMod, Nat.reduceDiv, Int.reduceNeg, Int.reduceAdd, Int.reduceSub, Int.reduceMul, Int.reduceLE, Int.reduceLT, Int.reduceEq, Int.reduceToNat, reduceCtorEq, -List.reduceReplicate, List.toList_toArray, hCl, hCa, hb]
      | with_reducible refine right_t hsm O.is ?_
    all_goals refine Upd.finL ?_ hR ?_
    any_goals (intro fsum; first | exact Nat.le_refl _ | (simp only [List.map_append, List.map_cons, List.map_nil, List.sum_append, List.sum_cons, List.sum_nil, List.cons_append, List.nil_append]; omega))
    all_goals rfl
theorem dtell_t {d : DfaT} (hsm : SmallD d) {w : List UInt8} (hwl : w.length ≤ 2000000) {G : PHeap} {H : Heap} {R : Value → PHeap → Heap → Prop} {v vw : Value} (hv : IsD G d v) (hw : Sl G byteV vw w)
    (hR : R (.int .i64 (tellB d w)) G H) : FnT Try.prog 46 [v, vw] G H R := by
  obtain ⟨C, an, al, ay, cn, cl, cs, rs, rfl, O⟩ := hv.opened
  have hCl := O.len
  have hCa := O.all
  have hCx := O.l
  by_cases hok : RightP d
  · have hb := boolOf_yes hok
    have hz : tellB d w = tellD d w := by unfold tellB; rw [if_pos hb]
    have hz2 : runB d w = runD d w := by unfold runB; rw [if_pos hb]
    rw [hz] at hR
    obtain ⟨h1, h2⟩ := runD_ok hok O.ofl w
    have had : Adr al := O.rl.adr (by rw [List.length_map]; omega)
    unfold tellD at hR
    obtain ⟨t, ht⟩ := Int.eq_ofNat_of_zero_le h1
    rw [ht] at h2 hz2 hR
    rw [atL_get (by simpa using h2)] at hR
    simp only [Int.toNat_natCast] at hR
    refine FnT.body tok [0, 1, 2, 4, 5, 10] Try.func46 rfl (by kernel_rfl) (by kernel_rfl) (by show _ ≤ 16; simp) fun hsep => ?_
    rw [Try.results46]
    have hsE := hsep
    try simp only [keys_cons, keys_app, keys_nil, Sep_cons, Sep_nil, NotIn_cons, NotIn_app, NotIn_nil, List.cons_append, List.nil_append, List.append_assoc, and_assoc, and_true, true_and] at hsE
    repeat (obtain ⟨hsx, hsE⟩ := hsE)
    repeat' first
      | with_reducible refine Br.yes ?_
      | with_reducible refine Br.no ?_
      | with_reducible refine Br.dec (fun _ => ?_) (fun _ => ?_)
      | with_reducible refine Br.beqB (fun _ => ?_) (fun _ => ?_)
      | with_reducible refine Br.beqb (fun _ => ?_) (fun _ => ?_)
      | with_reducible refine Br.mk (fun _ => ?_) (fun _ => ?_)
      | with_reducible refine foundO.mk (fun _ _ => ?_) (fun _ => ?_)
      | with_reducible refine appV.zero ?_
      | with_reducible refine appV.own ?_
      | ((with_reducible refine NewB.mk fun nb hnb => ?_); have hnb1 := hnb.1.1; have hnb2 := hnb.1.2; try simp only [keys_cons, keys_app, keys_nil, NotIn_cons, NotIn_app, NotIn_nil, and_true] at hnb2)
      | ((with_reducible refine NewRow.mk fun nb nsp ncap hnb hncap => ?_); have hnb1 := hnb.1.1; have hnb2 := hnb.1.2; try simp only [keys_cons, keys_app, keys_nil, NotIn_cons, NotIn_app, NotIn_nil, and_true] at hnb2)
      | simp (dsimp := false) (implicitDefEqProofs := false) (disch := first | assumption | (simp only [List.mem_cons, List.mem_append, true_or, or_true, eq_self]; done) | omega | (with_reducible refine Row.adr (by assumption) ?_; simp only [List.length_map, List.length_take, List.length_drop]; omega) | (simp only [List.length_cons, List.length_nil, List.length_map, List.length_append, List.length_replicate, Nat.reduceAdd, true_and, and_true, and_self]; first | done | omega)) only [go_sem, ↓reduceIte, Nat.reduceEqDiff, Nat.reduceAdd, Nat.reduceSub, Nat.reduceMul, Nat.reduceBEq, Nat.reduceLT, Nat.reduceLeDiff, Nat.reduceMod, Nat.reducePow, List.reduceReplicate, UInt8.reduceOfNat, Int.reducePow, Int.reduceDiv, Int.reduceMod, Nat.reduceDiv, Int.reduceNeg, Int.reduceAdd, Int.reduceSub, Int.reduceMul, Int.reduceLE, Int.reduceLT, Int.reduceEq, Int.reduceToNat, reduceCtorEq, -List.reduceReplicate, List.toList_toArray, hCl, hCa, hCx, hz2, Row.obj O.rl, List.getElem_map]
      | with_reducible refine drun_t hsm hwl O.is hw ?_
    all_goals try (exfalso; omega)
    all_goals refine Upd.finL ?_ hR ?_
    any_goals (intro fsum; first | exact Nat.le_refl _ | (simp only [List.map_append, List.map_cons, List.map_nil, List.sum_append, List.sum_cons, List.sum_nil, List.cons_append, List.nil_append]; omega))
    all_goals rfl
  · have hb := boolOf_no hok
    have hz : tellB d w = 0 := by unfold tellB; rw [if_neg (by rw [hb]; exact Bool.false_ne_true)]
    have hz2 : runB d w = -1 := by unfold runB; rw [if_neg (by rw [hb]; exact Bool.false_ne_true)]
    rw [hz] at hR
    refine FnT.body tok [0, 1, 2, 4, 5, 10] Try.func46 rfl (by kernel_rfl) (by kernel_rfl) (by show _ ≤ 16; simp) fun hsep => ?_
    rw [Try.results46]
    have hsE := hsep
    try simp only [keys_cons, keys_app, keys_nil, Sep_cons, Sep_nil, NotIn_cons, NotIn_app, NotIn_nil, List.cons_append, List.nil_append, List.append_assoc, and_assoc, and_true, true_and] at hsE
    repeat (obtain ⟨hsx, hsE⟩ := hsE)
    repeat' first
      | with_reducible refine Br.yes ?_
      | with_reducible refine Br.no ?_
      | with_reducible refine Br.dec (fun _ => ?_) (fun _ => ?_)
      | with_reducible refine Br.beqB (fun _ => ?_) (fun _ => ?_)
      | with_reducible refine Br.beqb (fun _ => ?_) (fun _ => ?_)
      | with_reducible refine Br.mk (fun _ => ?_) (fun _ => ?_)
      | with_reducible refine foundO.mk (fun _ _ => ?_) (fun _ => ?_)
      | with_reducible refine appV.zero ?_
      | with_reducible refine appV.own ?_
      | ((with_reducible refine NewB.mk fun nb hnb => ?_); have hnb1 := hnb.1.1; have hnb2 := hnb.1.2; try simp only [keys_cons, keys_app, keys_nil, NotIn_cons, NotIn_app, NotIn_nil, and_true] at hnb2)
      | ((with_reducible refine NewRow.mk fun nb nsp ncap hnb hncap => ?_); have hnb1 := hnb.1.1; have hnb2 := hnb.1.2; try simp only [keys_cons, keys_app, keys_nil, NotIn_cons, NotIn_app, NotIn_nil, and_true] at hnb2)
      | simp (dsimp := false) (implicitDefEqProofs := false) (disch := first | assumption | (simp only [List.mem_cons, List.mem_append, true_or, or_true, eq_self]; done) | omega | (with_reducible refine Row.adr (by assumption) ?_; simp only [List.length_map, List.length_take, List.length_drop]; omega) | (simp only [List.length_cons, List.length_nil, List.length_map, List.length_append, List.length_replicate, Nat.reduceAdd, true_and, and_true, and_self]; first | done | omega)) only [go_sem, ↓reduceIte, Nat.reduceEqDiff, Nat.reduceAdd, Nat.reduceSub, Nat.reduceMul, Nat.reduceBEq, Nat.reduceLT, Nat.reduceLeDiff, Nat.reduceMod, Nat.reducePow, List.reduceReplicate, UInt8.reduceOfNat, Int.reducePow, Int.reduceDiv, Int.reduceMod, Nat.reduceDiv, Int.reduceNeg, Int.reduceAdd, Int.reduceSub, Int.reduceMul, Int.reduceLE, Int.reduceLT, Int.reduceEq, Int.reduceToNat, reduceCtorEq, -List.reduceReplicate, List.toList_toArray, hCl, hCa, hCx, hz2]
      | with_reducible refine drun_t hsm hwl O.is hw ?_
    all_goals try (exfalso; omega)
    all_goals refine Upd.finL ?_ hR ?_
    any_goals (intro fsum; first | exact Nat.le_refl _ | (simp only [List.map_append, List.map_cons, List.map_nil, List.sum_append, List.sum_cons, List.sum_nil, List.cons_append, List.nil_append]; omega))
    all_goals rfl
theorem dname_t {d : DfaT} (hsm : SmallD d) {w : List UInt8} (hwl : w.length ≤ 2000000) {G : PHeap} {H : Heap} {R : Value → PHeap → Heap → Prop} {v vw : Value} (hv : IsD G d v) (hw : Sl G byteV vw w)
    (hR : R (str (nameD d (tellB d w))) G H) : FnT Try.prog 23 [v, vw] G H R := by
  obtain ⟨C, an, al, ay, cn, cl, cs, rs, rfl, O⟩ := hv.opened
  have hCl := O.len
  have hCa := O.all
  have hCy := O.s
  have hbnd : 0 ≤ tellB d w ∧ tellB d w ≤ d.names.length := by
    by_cases hok : RightP d
    · have hz : tellB d w = tellD d w := by unfold tellB; rw [if_pos (boolOf_yes hok)]
      rw [hz]; exact tellD_ok hok O.ofl w
    · have hz : tellB d w = 0 := by unfold tellB; rw [if_neg (by rw [boolOf_no hok]; exact Bool.false_ne_true)]
      rw [hz]; omega
  have hsml := hsm.2.2.2.1
  obtain ⟨k, hk⟩ := Int.eq_ofNat_of_zero_le hbnd.1
  rw [hk] at hR hbnd
  by_cases hk0 : k = 0
  · subst hk0
    have hnn : nameD d ((0 : Nat) : Int) = [] := by unfold nameD; rw [if_neg (by omega)]
    rw [hnn] at hR
    refine FnT.body tok [0, 1, 2, 4, 5, 10] Try.func23 rfl (by kernel_rfl) (by kernel_rfl) (by show _ ≤ 17; simp) fun hsep => ?_
    rw [Try.results23]
    have hsE := hsep
    try simp only [keys_cons, keys_app, keys_nil, Sep_cons, Sep_nil, NotIn_cons, NotIn_app, NotIn_nil, List.cons_append, List.nil_append, List.append_assoc, and_assoc, and_true, true_and] at hsE
    repeat (obtain ⟨hsx, hsE⟩ := hsE)
    repeat' first
      | with_reducible refine Br.yes ?_
      | with_reducible refine Br.no ?_
      | with_reducible refine Br.dec (fun _ => ?_) (fun _ => ?_)
      | with_reducible refine Br.beqB (fun _ => ?_) (fun _ => ?_)
      | with_reducible refine Br.beqb (fun _ => ?_) (fun _ => ?_)
      | with_reducible refine Br.mk (fun _ => ?_) (fun _ => ?_)
      | with_reducible refine foundO.mk (fun _ _ => ?_) (fun _ => ?_)
      | with_reducible refine appV.zero ?_
      | with_reducible refine appV.own ?_
      | ((with_reducible refine NewB.mk fun nb hnb => ?_); have hnb1 := hnb.1.1; have hnb2 := hnb.1.2; try simp only [keys_cons, keys_app, keys_nil, NotIn_cons, NotIn_app, NotIn_nil, and_true] at hnb2)
      | ((with_reducible refine NewRow.mk fun nb nsp ncap hnb hncap => ?_); have hnb1 := hnb.1.1; have hnb2 := hnb.1.2; try simp only [keys_cons, keys_app, keys_nil, NotIn_cons, NotIn_app, NotIn_nil, and_true] at hnb2)
      | simp (dsimp := false) (implicitDefEqProofs := false) (disch := first | assumption | (simp only [List.mem_cons, List.mem_append, true_or, or_true, eq_self]; done) | omega | (with_reducible refine Row.adr (by assumption) ?_; simp only [List.length_map, List.length_take, List.length_drop]; omega) | (simp only [List.length_cons, List.length_nil, List.length_map, List.length_append, List.length_replicate, Nat.reduceAdd, true_and, and_true, and_self]; first | done | omega)) only [go_sem, ↓reduceIte, Nat.reduceEqDiff, Nat.reduceAdd, Nat.reduceSub, Nat.reduceMul, Nat.reduceBEq, Nat.reduceLT, Nat.reduceLeDiff, Nat.reduceMod, Nat.reducePow, List.reduceReplicate, UInt8.reduceOfNat, Int.reducePow, Int.reduceDiv, Int.reduceMod, Nat.reduceDiv, Int.reduceNeg, Int.reduceAdd, Int.reduceSub, Int.reduceMul, Int.reduceLE, Int.reduceLT, Int.reduceEq, Int.reduceToNat, reduceCtorEq, -List.reduceReplicate, List.toList_toArray, hCl, hCa, hCy, hk]
      | with_reducible refine dtell_t hsm hwl O.is hw ?_
    all_goals try (exfalso; omega)
    all_goals refine Upd.finL ?_ hR ?_
    any_goals (intro fsum; first | exact Nat.le_refl _ | (simp only [List.map_append, List.map_cons, List.map_nil, List.sum_append, List.sum_cons, List.sum_nil, List.cons_append, List.nil_append]; omega))
    all_goals rfl
  · obtain ⟨j, rfl⟩ : ∃ j, k = j + 1 := ⟨k - 1, by omega⟩
    have hj : j < d.names.length := by omega
    have had : Adr ay := O.ry.adr (by rw [List.length_map]; omega)
    have hnn : nameD d ((j + 1 : Nat) : Int) = d.names[j] := by
      unfold nameD
      rw [if_pos (by omega), show (((j + 1 : Nat) : Int) - 1).toNat = j by omega, List.getD_eq_getElem?_getD, List.getElem?_eq_getElem hj, Option.getD_some]
    rw [hnn] at hR
    have hsub : ((j + 1 : Nat) : Int) - 1 = (j : Nat) := by omega
    refine FnT.body tok [0, 1, 2, 4, 5, 10] Try.func23 rfl (by kernel_rfl) (by kernel_rfl) (by show _ ≤ 17; simp) fun hsep => ?_
    rw [Try.results23]
    have hsE := hsep
    try simp only [keys_cons, keys_app, keys_nil, Sep_cons, Sep_nil, NotIn_cons, NotIn_app, NotIn_nil, List.cons_append, List.nil_append, List.append_assoc, and_assoc, and_true, true_and] at hsE
    repeat (obtain ⟨hsx, hsE⟩ := hsE)
    repeat' first
      | with_reducible refine Br.yes ?_
      | with_reducible refine Br.no ?_
      | with_reducible refine Br.dec (fun _ => ?_) (fun _ => ?_)
      | with_reducible refine Br.beqB (fun _ => ?_) (fun _ => ?_)
      | with_reducible refine Br.beqb (fun _ => ?_) (fun _ => ?_)
      | with_reducible refine Br.mk (fun _ => ?_) (fun _ => ?_)
      | with_reducible refine foundO.mk (fun _ _ => ?_) (fun _ => ?_)
      | with_reducible refine appV.zero ?_
      | with_reducible refine appV.own ?_
      | ((with_reducible refine NewB.mk fun nb hnb => ?_); have hnb1 := hnb.1.1; have hnb2 := hnb.1.2; try simp only [keys_cons, keys_app, keys_nil, NotIn_cons, NotIn_app, NotIn_nil, and_true] at hnb2)
      | ((with_reducible refine NewRow.mk fun nb nsp ncap hnb hncap => ?_); have hnb1 := hnb.1.1; have hnb2 := hnb.1.2; try simp only [keys_cons, keys_app, keys_nil, NotIn_cons, NotIn_app, NotIn_nil, and_true] at hnb2)
      | simp (dsimp := false) (implicitDefEqProofs := false) (disch := first | assumption | (simp only [List.mem_cons, List.mem_append, true_or, or_true, eq_self]; done) | omega | (with_reducible refine Row.adr (by assumption) ?_; simp only [List.length_map, List.length_take, List.length_drop]; omega) | (simp only [List.length_cons, List.length_nil, List.length_map, List.length_append, List.length_replicate, Nat.reduceAdd, true_and, and_true, and_self]; first | done | omega)) only [go_sem, ↓reduceIte, Nat.reduceEqDiff, Nat.reduceAdd, Nat.reduceSub, Nat.reduceMul, Nat.reduceBEq, Nat.reduceLT, Nat.reduceLeDiff, Nat.reduceMod, Nat.reducePow, List.reduceReplicate, UInt8.reduceOfNat, Int.reducePow, Int.reduceDiv, Int.reduceMod, Nat.reduceDiv, Int.reduceNeg, Int.reduceAdd, Int.reduceSub, Int.reduceMul, Int.reduceLE, Int.reduceLT, Int.reduceEq, Int.reduceToNat, reduceCtorEq, -List.reduceReplicate, List.toList_toArray, hCl, hCa, hCy, hk, hsub, Row.obj O.ry, List.getElem_map]
      | with_reducible refine dtell_t hsm hwl O.is hw ?_
    all_goals try (exfalso; omega)
    all_goals refine Upd.finL ?_ hR ?_
    any_goals (intro fsum; first | exact Nat.le_refl _ | (simp only [List.map_append, List.map_cons, List.map_nil, List.sum_append, List.sum_cons, List.sum_nil, List.cons_append, List.nil_append]; omega))
    all_goals rfl
end Go.Proofs.Ytpagkndgjihbbaa
