/- Machines as bytes: pack.Read. -/
import Derived.Test.YtomdbjfdbkejoaaYk
set_option linter.unusedSimpArgs false
set_option linter.unusedVariables false
namespace Go.Proofs.Ytomdbjfdbkejoaa
open Go Go.V Go.Proofs

theorem dfa_one {G : PHeap} {d : DfaT} {C : List Value} (h : IsD G d (.agg C.toArray)) : C.all oneV = true := by
  obtain ⟨_, _, vn, vl, vs, e, ⟨an, cn, rs, rfl, _⟩, ⟨al, cl, rfl, _⟩, ⟨ay, cy, rfl, _⟩⟩ := h
  have e2 := congrArg (fun v => match v with | Value.agg a => a.toList | _ => []) e
  simp only [List.toList_toArray] at e2
  rw [e2]; exact cellsD_one rfl rfl rfl
theorem dfa_put {C : List Value} (h : C.length = 260) : splice zeroC 0 C = C := by
  unfold splice
  rw [List.take_zero, List.nil_append, List.drop_of_length_le (by rw [zeroC_len]; omega), List.append_nil]
--IF dfa.Trim
theorem Sl.drop {G : PHeap} {a : Option Addr} {c n : Nat} {l : List UInt8} (hr : Row G a (l.map byteV)) (hc : l.length ≤ c) (h : n ≤ l.length) : Sl G byteV (.slice (subOb a n c n) (l.length - n) (c - n)) (l.drop n) := by
  have h2 : Row G (subOb a n c n) ((l.drop n).map byteV) := by
    have := hr.drop (l := n) (m := c) (s := 1) (fun e => by rw [List.length_map]; omega)
    rw [Nat.mul_one, ← List.map_drop] at this
    exact this
  exact ⟨_, c - n, by rw [List.length_drop], h2, by rw [List.length_drop]; omega⟩
theorem Row.takeB {G : PHeap} {a : Option Addr} {c n : Nat} {l : List UInt8} (hr : Row G a (l.map byteV)) (hc : l.length ≤ c) : Row G (subOb a 0 c 0) ((l.take n).map byteV) := by
  have := (hr.take n).drop (l := 0) (m := c) (s := 1) (fun e => by rw [List.length_take, List.length_map]; omega)
  rw [Nat.zero_mul, List.drop_zero, ← List.map_take] at this
  exact this
theorem Sl.mid {G : PHeap} {a : Option Addr} {c n m : Nat} {l : List UInt8} (hr : Row G a (l.map byteV)) (hc : l.length ≤ c) (h : n ≤ l.length) (hm : m ≤ n) : Sl G byteV (.slice (subOb a m c m) (n - m) (c - m)) ((l.take n).drop m) := by
  have h2 : Row G (subOb a m c m) (((l.take n).drop m).map byteV) := by
    by_cases hmn : m = n
    · have : (l.take n).drop m = [] := List.drop_of_length_le (by rw [List.length_take]; omega)
      rw [this]; exact Row.nil _ _
    have := (hr.take n).drop (l := m) (m := c) (s := 1) (fun e => by rw [List.length_take, List.length_map]; omega)
    rw [Nat.mul_one, ← List.map_take, ← List.map_drop] at this
    exact this
  exact ⟨_, c - m, by rw [List.length_drop, List.length_take, Nat.min_eq_left h], h2, by rw [List.length_drop, List.length_take]; omega⟩
theorem Sl.take {G : PHeap} {a : Option Addr} {c n : Nat} {l : List UInt8} (hr : Row G a (l.map byteV)) (hc : l.length ≤ c) (h : n ≤ l.length) : Sl G byteV (.slice (subOb a 0 c 0) (n - 0) (c - 0)) (l.take n) := by
  have h2 : Row G (subOb a 0 c 0) ((l.take n).map byteV) := by
    have := (hr.take n).drop (l := 0) (m := c) (s := 1) (fun e => by rw [List.length_take, List.length_map]; omega)
    rw [Nat.zero_mul, List.drop_zero, ← List.map_take] at this
    exact this
  exact ⟨_, c - 0, by rw [List.length_take, Nat.min_eq_left h, Nat.sub_zero], h2, by rw [List.length_take]; omega⟩
theorem Row.midB {G : PHeap} {a : Option Addr} {c n m : Nat} {l : List UInt8} (hr : Row G a (l.map byteV)) (hc : l.length ≤ c) (h : n ≤ l.length) (hm : m ≤ n) : Row G (subOb a m c m) (((l.take n).drop m).map byteV) := by
  by_cases hmn : m = n
  · have : (l.take n).drop m = [] := List.drop_of_length_le (by rw [List.length_take]; omega)
    rw [this]; exact Row.nil _ _
  · have := (hr.take n).drop (l := m) (m := c) (s := 1) (fun e => by rw [List.length_take, List.length_map]; omega)
    rw [Nat.mul_one, ← List.map_take, ← List.map_drop] at this
    exact this
theorem calleeEq : V.Callee Try.prog 16 := ⟨_, _, Try.func16, rfl, by kernel_rfl⟩
set_option maxHeartbeats 8000000 in
theorem pread_t {b : List UInt8} (hbl : b.length ≤ 200000000) {G : PHeap} {H : Heap} {R : Value → PHeap → Heap → Prop} {v : Value} (hv : Sl G byteV v b)
    (hR : ∀ G' v', PLe G G' → Sep G' (keys H) → IsD G' (readR b).1 v' → R (.tuple #[v', .int .i64 (readR b).2]) G' H) : FnT Try.prog 5 [v] G H R := by
  have hv0 := hv
  obtain ⟨a, c, rfl, hr, hc⟩ := hv
  refine FnT.sep ?_
  by_cases hs8 : 8 ≤ b.length
  · have hr4 : Row G (subOb a 0 c 0) ((b.take 4).map byteV) := by
      have := (hr.take 4).drop (l := 0) (m := c) (s := 1) (fun e => by rw [List.length_take, List.length_map]; omega)
      rw [Nat.zero_mul, List.drop_zero, ← List.map_take] at this
      exact this
    have h4l : (b.take 4).length = 4 := by rw [List.length_take]; omega
    by_cases hf2 : b.take 4 = frontL
    · have hf : frontOk b := ⟨hs8, hf2⟩
      have hn4 : ((b.length : Nat) : Int) - 4 = ((b.length - 4 : Nat) : Int) := by omega
      have hnt : (((b.length : Nat) : Int) - 4).toNat = b.length - 4 := by omega
      have hend := Sl.drop (n := b.length - 4) hr hc (by omega)
      have hbd := Sl.take (n := b.length - 4) hr hc (by omega)
      have hsr : Sl G byteV (.slice (subOb a (b.length - 4) c (b.length - 4)) (b.length - (b.length - 4)) (c - (b.length - 4))) ((false, b.drop (b.length - 4)) : Rdr).2 := hend
      have hdl : (b.drop (b.length - 4)).length = 4 := by rw [List.length_drop]; omega
      have htk : takeP 4 (false, b.drop (b.length - 4)) = (b.drop (b.length - 4), (false, [])) := by
        unfold takeP
        rw [if_neg (by simp [hdl])]
        show (List.take 4 (b.drop (b.length - 4)), ((false, List.drop 4 (b.drop (b.length - 4))) : Rdr)) = _
        have e1 : List.take 4 (b.drop (b.length - 4)) = b.drop (b.length - 4) := List.take_of_length_le (by omega)
        have e2 : List.drop 4 (b.drop (b.length - 4)) = [] := List.drop_of_length_le (by omega)
        rw [e1, e2]
      have hnum : numP 4 (false, b.drop (b.length - 4)) = (beV (b.drop (b.length - 4)), (false, [])) := by unfold numP; rw [htk]
      have hsl := sumL_lt (b.take (b.length - 4))
      have hwr : IntKind.i64.wrap ((sumL (b.take (b.length - 4)) : Nat) : Int) = (sumL (b.take (b.length - 4)) : Nat) := wrap_i64 (by omega) (by omega)
      refine FnT.body tok [0, 2, 3, 4, 5, 6, 7, 18, 30, 56] Try.func5 rfl (by kernel_rfl) (by kernel_rfl) (by show _ ≤ 59; simp) fun hsep => ?_
      rw [Try.results5]
      have hsE := hsep
      try simp only [keys_cons, keys_app, keys_nil, Sep_cons, Sep_nil, NotIn_cons, NotIn_app, NotIn_nil, List.cons_append, List.nil_append, List.append_assoc, and_assoc, and_true, true_and] at hsE
      repeat (obtain ⟨hsx, hsE⟩ := hsE)
      repeat' first
        | with_reducible refine Br.yes ?_
        | with_reducible refine Br.no ?_
        | with_reducible refine Br.dec (fun _ => ?_) (fun _ => ?_)
        | with_reducible refine Br.beqB (fun _ => ?_) (fun _ => ?_)
        | with_reducible refine Br.beqb (fun _ => ?_) (fun _ => ?_)
        | with_reducible refine Br.mk (fun _ => ?_) (fun _ => ?_)
        | with_reducible refine foundO.mk (fun _ _ => ?_) (fun _ => ?_)
        | with_reducible refine appV.zero ?_
        | with_reducible refine appV.own ?_
        | ((with_reducible refine NewB.mk fun nb hnb => ?_); have hnb1 := hnb.1.1; have hnb2 := hnb.1.2; try simp only [keys_cons, keys_app, keys_nil, NotIn_cons, NotIn_app, NotIn_nil, and_true] at hnb2)
        | ((with_reducible refine NewRow.mk fun nb nsp ncap hnb hncap => ?_); have hnb1 := hnb.1.1; have hnb2 := hnb.1.2; try simp only [keys_cons, keys_app, keys_nil, NotIn_cons, NotIn_app, NotIn_nil, and_true] at hnb2)
        | with_reducible refine Tri.drawM tok mixed [0, 2, 3, 4, 5, 6, 7, 18, 30, 56] 5 [] (.op 1 .plain (.op 2 .plain (.op 3 .plain (.op 0 .keeps (.op 4 .keeps (.op 5 .plain (.op 6 .plain .nil))))))) (by kernel_rfl) [] (List.nil_sublist _) ?_
        | simp (dsimp := false) (implicitDefEqProofs := false) (disch := first | assumption | (simp only [List.mem_cons, List.mem_append, true_or, or_true, eq_self]; done) | omega | (with_reducible refine Row.adr (by assumption) ?_; simp only [List.length_map, List.length_take, List.length_drop]; omega) | (simp only [List.length_cons, List.length_nil, List.length_map, List.length_append, List.length_replicate, Nat.reduceAdd, true_and, and_true, and_self]; first | done | omega)) only [go_sem, ↓reduceIte, Nat.reduceEqDiff, Nat.reduceAdd, Nat.reduceSub, Nat.reduceMul, Nat.reduceBEq, Nat.reduceLT, Nat.reduceLeDiff, Nat.reduceMod, Nat.reducePow, List.reduceReplicate, UInt8.reduceOfNat, Int.reducePow, Int.reduceDiv, Int.reduceMod, Nat.reduceDiv, Int.reduceNeg, Int.reduceAdd, Int.reduceSub, Int.reduceMul, Int.reduceLE, Int.reduceLT, Int.reduceEq, Int.reduceToNat, reduceCtorEq, -List.reduceReplicate, zeroC_len, zeroC_one, zeroC_take, zeroC_put, Row.rdSlAll hr4, List.length_map, hnt]
      · rename_i b2 hb20 hb21 hb22
        revert nb
        intro b5 hb50 hb51 hb52
        refine number_t (s := (false, b.drop (b.length - 4))) (by show (b.drop (b.length - 4)).length ≤ _; omega) (n := 4) (by omega) hsr fun G1 sv1 hle1 hs1 hsv1 => ?_
        rw [hnum] at hs1 hsv1 ⊢
        have hsE := hs1
        try simp only [keys_cons, keys_app, keys_nil, Sep_cons, Sep_nil, NotIn_cons, NotIn_app, NotIn_nil, List.cons_append, List.nil_append, List.append_assoc, and_assoc, and_true, true_and] at hsE
        repeat (obtain ⟨hsx, hsE⟩ := hsE)
        repeat' first
          | with_reducible refine Br.yes ?_
          | with_reducible refine Br.no ?_
          | with_reducible refine Br.dec (fun _ => ?_) (fun _ => ?_)
          | with_reducible refine Br.beqB (fun _ => ?_) (fun _ => ?_)
          | with_reducible refine Br.beqb (fun _ => ?_) (fun _ => ?_)
          | with_reducible refine Br.mk (fun _ => ?_) (fun _ => ?_)
          | with_reducible refine foundO.mk (fun _ _ => ?_) (fun _ => ?_)
          | with_reducible refine appV.zero ?_
          | with_reducible refine appV.own ?_
          | ((with_reducible refine NewB.mk fun nb hnb => ?_); have hnb1 := hnb.1.1; have hnb2 := hnb.1.2; try simp only [keys_cons, keys_app, keys_nil, NotIn_cons, NotIn_app, NotIn_nil, and_true] at hnb2)
          | ((with_reducible refine NewRow.mk fun nb nsp ncap hnb hncap => ?_); have hnb1 := hnb.1.1; have hnb2 := hnb.1.2; try simp only [keys_cons, keys_app, keys_nil, NotIn_cons, NotIn_app, NotIn_nil, and_true] at hnb2)
          | simp (dsimp := false) (implicitDefEqProofs := false) (disch := first | assumption | (simp only [List.mem_cons, List.mem_append, true_or, or_true, eq_self]; done) | omega | (with_reducible refine Row.adr (by assumption) ?_; simp only [List.length_map, List.length_take, List.length_drop]; omega) | (simp only [List.length_cons, List.length_nil, List.length_map, List.length_append, List.length_replicate, Nat.reduceAdd, true_and, and_true, and_self]; first | done | omega)) only [go_sem, ↓reduceIte, Nat.reduceEqDiff, Nat.reduceAdd, Nat.reduceSub, Nat.reduceMul, Nat.reduceBEq, Nat.reduceLT, Nat.reduceLeDiff, Nat.reduceMod, Nat.reducePow, List.reduceReplicate, UInt8.reduceOfNat, Int.reducePow, Int.reduceDiv, Int.reduceMod, Nat.reduceDiv, Int.reduceNeg, Int.reduceAdd, Int.reduceSub, Int.reduceMul, Int.reduceLE, Int.reduceLT, Int.reduceEq, Int.reduceToNat, reduceCtorEq, -List.reduceReplicate, zeroC_len, zeroC_one, zeroC_take, zeroC_put, hnt]
        refine psum_t (b := b.take (b.length - 4)) (by rw [List.length_take]; omega) (hbd.mono hle1) ?_
        repeat' first
          | with_reducible refine Br.yes ?_
          | with_reducible refine Br.no ?_
          | with_reducible refine Br.dec (fun _ => ?_) (fun _ => ?_)
          | with_reducible refine Br.beqB (fun _ => ?_) (fun _ => ?_)
          | with_reducible refine Br.beqb (fun _ => ?_) (fun _ => ?_)
          | with_reducible refine Br.mk (fun _ => ?_) (fun _ => ?_)
          | with_reducible refine foundO.mk (fun _ _ => ?_) (fun _ => ?_)
          | with_reducible refine appV.zero ?_
          | with_reducible refine appV.own ?_
          | ((with_reducible refine NewB.mk fun nb hnb => ?_); have hnb1 := hnb.1.1; have hnb2 := hnb.1.2; try simp only [keys_cons, keys_app, keys_nil, NotIn_cons, NotIn_app, NotIn_nil, and_true] at hnb2)
          | ((with_reducible refine NewRow.mk fun nb nsp ncap hnb hncap => ?_); have hnb1 := hnb.1.1; have hnb2 := hnb.1.2; try simp only [keys_cons, keys_app, keys_nil, NotIn_cons, NotIn_app, NotIn_nil, and_true] at hnb2)
          | simp (dsimp := false) (implicitDefEqProofs := false) (disch := first | assumption | (simp only [List.mem_cons, List.mem_append, true_or, or_true, eq_self]; done) | omega | (with_reducible refine Row.adr (by assumption) ?_; simp only [List.length_map, List.length_take, List.length_drop]; omega) | (simp only [List.length_cons, List.length_nil, List.length_map, List.length_append, List.length_replicate, Nat.reduceAdd, true_and, and_true, and_self]; first | done | omega)) only [go_sem, ↓reduceIte, Nat.reduceEqDiff, Nat.reduceAdd, Nat.reduceSub, Nat.reduceMul, Nat.reduceBEq, Nat.reduceLT, Nat.reduceLeDiff, Nat.reduceMod, Nat.reducePow, List.reduceReplicate, UInt8.reduceOfNat, Int.reducePow, Int.reduceDiv, Int.reduceMod, Nat.reduceDiv, Int.reduceNeg, Int.reduceAdd, Int.reduceSub, Int.reduceMul, Int.reduceLE, Int.reduceLT, Int.reduceEq, Int.reduceToNat, reduceCtorEq, -List.reduceReplicate, zeroC_len, zeroC_one, zeroC_take, zeroC_put, hnt, hwr]
        · rename_i hsum
          revert nb
          intro b6 hb60 hb61 hb62
          have hso : sumOk b := Int.ofNat_inj.1 hsum
          have htkl : (b.take (b.length - 4)).length = b.length - 4 := by rw [List.length_take]; omega
          have hmid := Sl.mid (n := b.length - 4) (m := 4) hr hc (by omega) (by omega)
          obtain ⟨l0, hl0⟩ : ∃ l, l = (b.take (b.length - 4)).drop 4 := ⟨_, rfl⟩
          rw [← hl0] at hmid
          have hl0l : l0.length ≤ 200000000 := by rw [hl0, List.length_drop, htkl]; omega
          refine machine_t (s := (false, l0)) hl0l (hmid.mono hle1) fun G2 v2 sv2 hle2 hs2 hI2 hsv2 => ?_
          have hsmd := machD_small (false, l0)
          obtain ⟨bad, lr, hrest⟩ : ∃ bad lr, (machRest (false, l0)).s = (bad, lr) := ⟨_, _, rfl⟩
          have hdec : ∀ d, Fit d → layL d = b → machD (false, l0) = d ∧ (machRest (false, l0)).s = (false, []) := fun d hd e => by
            have := lay_dec hd
            rw [e, ← hl0] at this
            exact this
          have hnot : ¬ (bad = false ∧ lr = [] ∧ RightP (machD (false, l0)) ∧ layL (machD (false, l0)) = b) → readR b = (zeroD, 3) := fun h => readR_no hf hso fun ⟨d, hd, e⟩ => h (by
            obtain ⟨e1, e2⟩ := hdec d hd e
            rw [hrest] at e2
            cases e2
            exact ⟨rfl, rfl, e1 ▸ hd.1, by rw [e1]; exact e⟩)
          obtain ⟨d0, hd0⟩ : ∃ d, d = machD (false, l0) := ⟨_, rfl⟩
          have hfit : RightP d0 → Fit d0 := fun h => by rw [hd0] at h ⊢; exact machD_fit h
          rw [hrest] at hs2 hsv2 ⊢
          rw [← hd0] at hI2 hsmd hdec hnot
          obtain ⟨C, an, al, ay, cn, cl, cs, rs, rfl, O⟩ := hI2.opened
          have hCl := O.len
          have hCa := O.all
          have hone := dfa_one O.is
          have hput := dfa_put hCl
          obtain ⟨a2, c2, rfl, hr2, hc2⟩ := hsv2
          simp only at hs2 ⊢
          have hsE := hs2
          try simp only [keys_cons, keys_app, keys_nil, Sep_cons, Sep_nil, NotIn_cons, NotIn_app, NotIn_nil, List.cons_append, List.nil_append, List.append_assoc, and_assoc, and_true, true_and] at hsE
          repeat (obtain ⟨hsx, hsE⟩ := hsE)
          rcases bad with _ | _
          · rcases lr with _ | ⟨x, lr⟩
            · by_cases hok : RightP d0
              · have hb := boolOf_yes hok
                repeat' first
                  | with_reducible refine Br.yes ?_
                  | with_reducible refine Br.no ?_
                  | with_reducible refine Br.dec (fun _ => ?_) (fun _ => ?_)
                  | with_reducible refine Br.beqB (fun _ => ?_) (fun _ => ?_)
                  | with_reducible refine Br.beqb (fun _ => ?_) (fun _ => ?_)
                  | with_reducible refine Br.mk (fun _ => ?_) (fun _ => ?_)
                  | with_reducible refine foundO.mk (fun _ _ => ?_) (fun _ => ?_)
                  | with_reducible refine appV.zero ?_
                  | with_reducible refine appV.own ?_
                  | ((with_reducible refine NewB.mk fun nb hnb => ?_); have hnb1 := hnb.1.1; have hnb2 := hnb.1.2; try simp only [keys_cons, keys_app, keys_nil, NotIn_cons, NotIn_app, NotIn_nil, and_true] at hnb2)
                  | ((with_reducible refine NewRow.mk fun nb nsp ncap hnb hncap => ?_); have hnb1 := hnb.1.1; have hnb2 := hnb.1.2; try simp only [keys_cons, keys_app, keys_nil, NotIn_cons, NotIn_app, NotIn_nil, and_true] at hnb2)
                  | simp (dsimp := false) (implicitDefEqProofs := false) (disch := first | assumption | (simp only [List.mem_cons, List.mem_append, true_or, or_true, eq_self]; done) | omega | (with_reducible refine Row.adr (by assumption) ?_; simp only [List.length_map, List.length_take, List.length_drop]; omega) | (simp only [List.length_cons, List.length_nil, List.length_map, List.length_append, List.length_replicate, Nat.reduceAdd, true_and, and_true, and_self]; first | done | omega)) only [go_sem, ↓reduceIte, Nat.reduceEqDiff, Nat.reduceAdd, Nat.reduceSub, Nat.reduceMul, Nat.reduceBEq, Nat.reduceLT, Nat.reduceLeDiff, Nat.reduceMod, Nat.reducePow, List.reduceReplicate, UInt8.reduceOfNat, Int.reducePow, Int.reduceDiv, Int.reduceMod, Nat.reduceDiv, Int.reduceNeg, Int.reduceAdd, Int.reduceSub, Int.reduceMul, Int.reduceLE, Int.reduceLT, Int.reduceEq, Int.reduceToNat, reduceCtorEq, -List.reduceReplicate, zeroC_len, zeroC_one, zeroC_take, zeroC_put, hCl, hCa, hone, hput]
                  | with_reducible refine right_t hsmd O.is ?_
                rotate_left
                · rename_i h; rw [hb] at h; cases h
                rename_i h7
                revert nb
                intro b7 hb70 hb71 hb72
                refine lay_t hsmd hok O.is fun v8 kb8 hbf8 hs8 => ?_
                have hll : (layL d0).length ≤ 50000004 := by
                  have := bodyL_len hok O.ofl
                  unfold layL; rw [List.length_append, beB_len]; omega
                obtain ⟨x8, c8, sp8, rfl, rfl, hc8⟩ := hbf8.own (by have := (bodyL_pos d0).1; omega)
                have hsE := hs8
                try simp only [keys_cons, keys_app, keys_nil, Sep_cons, Sep_nil, NotIn_cons, NotIn_app, NotIn_nil, List.cons_append, List.nil_append, List.append_assoc, and_assoc, and_true, true_and] at hsE
                repeat (obtain ⟨hsx, hsE⟩ := hsE)
                repeat' first
                  | with_reducible refine Br.yes ?_
                  | with_reducible refine Br.no ?_
                  | with_reducible refine Br.dec (fun _ => ?_) (fun _ => ?_)
                  | with_reducible refine Br.beqB (fun _ => ?_) (fun _ => ?_)
                  | with_reducible refine Br.beqb (fun _ => ?_) (fun _ => ?_)
                  | with_reducible refine Br.mk (fun _ => ?_) (fun _ => ?_)
                  | with_reducible refine foundO.mk (fun _ _ => ?_) (fun _ => ?_)
                  | with_reducible refine appV.zero ?_
                  | with_reducible refine appV.own ?_
                  | ((with_reducible refine NewB.mk fun nb hnb => ?_); have hnb1 := hnb.1.1; have hnb2 := hnb.1.2; try simp only [keys_cons, keys_app, keys_nil, NotIn_cons, NotIn_app, NotIn_nil, and_true] at hnb2)
                  | ((with_reducible refine NewRow.mk fun nb nsp ncap hnb hncap => ?_); have hnb1 := hnb.1.1; have hnb2 := hnb.1.2; try simp only [keys_cons, keys_app, keys_nil, NotIn_cons, NotIn_app, NotIn_nil, and_true] at hnb2)
                  | simp (dsimp := false) (implicitDefEqProofs := false) (disch := first | assumption | (simp only [List.mem_cons, List.mem_append, true_or, or_true, eq_self]; done) | omega | (with_reducible refine Row.adr (by assumption) ?_; simp only [List.length_map, List.length_take, List.length_drop]; omega) | (simp only [List.length_cons, List.length_nil, List.length_map, List.length_append, List.length_replicate, Nat.reduceAdd, true_and, and_true, and_self]; first | done | omega)) only [go_sem, ↓reduceIte, Nat.reduceEqDiff, Nat.reduceAdd, Nat.reduceSub, Nat.reduceMul, Nat.reduceBEq, Nat.reduceLT, Nat.reduceLeDiff, Nat.reduceMod, Nat.reducePow, List.reduceReplicate, UInt8.reduceOfNat, Int.reducePow, Int.reduceDiv, Int.reduceMod, Nat.reduceDiv, Int.reduceNeg, Int.reduceAdd, Int.reduceSub, Int.reduceMul, Int.reduceLE, Int.reduceLT, Int.reduceEq, Int.reduceToNat, reduceCtorEq, -List.reduceReplicate, zeroC_len, zeroC_one, zeroC_take, zeroC_put, hCl, hCa, hone, hput]
                  | (refine FnT.share calleeEq (by assumption) fun G3 hle3 hs3 hr3 => ?_; refine equalb_t (layL d0) b (by omega) ⟨_, _, rfl, hr3, by omega⟩ (hv0.mono ((hle1.trans hle2).trans hle3)) ?_; (have hsE := hs3; try simp only [keys_cons, keys_app, keys_nil, Sep_cons, Sep_nil, NotIn_cons, NotIn_app, NotIn_nil, List.cons_append, List.nil_append, List.append_assoc, and_assoc, and_true, true_and] at hsE; repeat (obtain ⟨hsx, hsE⟩ := hsE)))
                · rename_i he
                  have hrd : readR b = (d0, 0) := by rw [← he]; exact readR_yes (hfit hok)
                  rw [hrd] at hR
                  unfold UpdR
                  refine Upd.leave (H' := H) (by intro fsum; first | exact Nat.le_refl _ | (simp only [List.map_append, List.map_cons, List.map_nil, List.sum_append, List.sum_cons, List.sum_nil, List.cons_append, List.nil_append]; omega)) ?_
                  exact fun _ hs => hR G3 _ ((hle1.trans hle2).trans hle3) hs (O.is.mono hle3)
                · rename_i he
                  rw [hnot fun h => he h.2.2.2] at hR
                  unfold UpdR
                  refine Upd.leave (H' := H) (by intro fsum; first | exact Nat.le_refl _ | (simp only [List.map_append, List.map_cons, List.map_nil, List.sum_append, List.sum_cons, List.sum_nil, List.cons_append, List.nil_append]; omega)) ?_
                  exact fun _ hs => hR G3 _ ((hle1.trans hle2).trans hle3) hs (zeroD_is _)
              · have hb := boolOf_no hok
                rw [hnot fun h => hok h.2.2.1] at hR
                repeat' first
                  | with_reducible refine Br.yes ?_
                  | with_reducible refine Br.no ?_
                  | with_reducible refine Br.dec (fun _ => ?_) (fun _ => ?_)
                  | with_reducible refine Br.beqB (fun _ => ?_) (fun _ => ?_)
                  | with_reducible refine Br.beqb (fun _ => ?_) (fun _ => ?_)
                  | with_reducible refine Br.mk (fun _ => ?_) (fun _ => ?_)
                  | with_reducible refine foundO.mk (fun _ _ => ?_) (fun _ => ?_)
                  | with_reducible refine appV.zero ?_
                  | with_reducible refine appV.own ?_
                  | ((with_reducible refine NewB.mk fun nb hnb => ?_); have hnb1 := hnb.1.1; have hnb2 := hnb.1.2; try simp only [keys_cons, keys_app, keys_nil, NotIn_cons, NotIn_app, NotIn_nil, and_true] at hnb2)
                  | ((with_reducible refine NewRow.mk fun nb nsp ncap hnb hncap => ?_); have hnb1 := hnb.1.1; have hnb2 := hnb.1.2; try simp only [keys_cons, keys_app, keys_nil, NotIn_cons, NotIn_app, NotIn_nil, and_true] at hnb2)
                  | simp (dsimp := false) (implicitDefEqProofs := false) (disch := first | assumption | (simp only [List.mem_cons, List.mem_append, true_or, or_true, eq_self]; done) | omega | (with_reducible refine Row.adr (by assumption) ?_; simp only [List.length_map, List.length_take, List.length_drop]; omega) | (simp only [List.length_cons, List.length_nil, List.length_map, List.length_append, List.length_replicate, Nat.reduceAdd, true_and, and_true, and_self]; first | done | omega)) only [go_sem, ↓reduceIte, Nat.reduceEqDiff, Nat.reduceAdd, Nat.reduceSub, Nat.reduceMul, Nat.reduceBEq, Nat.reduceLT, Nat.reduceLeDiff, Nat.reduceMod, Nat.reducePow, List.reduceReplicate, UInt8.reduceOfNat, Int.reducePow, Int.reduceDiv, Int.reduceMod, Nat.reduceDiv, Int.reduceNeg, Int.reduceAdd, Int.reduceSub, Int.reduceMul, Int.reduceLE, Int.reduceLT, Int.reduceEq, Int.reduceToNat, reduceCtorEq, -List.reduceReplicate, zeroC_len, zeroC_one, zeroC_take, zeroC_put, hCl, hCa, hone, hput, hb]
                  | with_reducible refine right_t hsmd O.is ?_
                unfold UpdR
                refine Upd.leave (H' := H) (by intro fsum; first | exact Nat.le_refl _ | (simp only [List.map_append, List.map_cons, List.map_nil, List.sum_append, List.sum_cons, List.sum_nil, List.cons_append, List.nil_append]; omega)) ?_
                exact fun _ hs => hR G2 _ (hle1.trans hle2) hs (zeroD_is _)
            · rw [hnot fun h => by cases h.2.1] at hR
              repeat' first
                | with_reducible refine Br.yes ?_
                | with_reducible refine Br.no ?_
                | with_reducible refine Br.dec (fun _ => ?_) (fun _ => ?_)
                | with_reducible refine Br.beqB (fun _ => ?_) (fun _ => ?_)
                | with_reducible refine Br.beqb (fun _ => ?_) (fun _ => ?_)
                | with_reducible refine Br.mk (fun _ => ?_) (fun _ => ?_)
                | with_reducible refine foundO.mk (fun _ _ => ?_) (fun _ => ?_)
                | with_reducible refine appV.zero ?_
                | with_reducible refine appV.own ?_
                | ((with_reducible refine NewB.mk fun nb hnb => ?_); have hnb1 := hnb.1.1; have hnb2 := hnb.1.2; try simp only [keys_cons, keys_app, keys_nil, NotIn_cons, NotIn_app, NotIn_nil, and_true] at hnb2)
                | ((with_reducible refine NewRow.mk fun nb nsp ncap hnb hncap => ?_); have hnb1 := hnb.1.1; have hnb2 := hnb.1.2; try simp only [keys_cons, keys_app, keys_nil, NotIn_cons, NotIn_app, NotIn_nil, and_true] at hnb2)
                | simp (dsimp := false) (implicitDefEqProofs := false) (disch := first | assumption | (simp only [List.mem_cons, List.mem_append, true_or, or_true, eq_self]; done) | omega | (with_reducible refine Row.adr (by assumption) ?_; simp only [List.length_map, List.length_take, List.length_drop]; omega) | (simp only [List.length_cons, List.length_nil, List.length_map, List.length_append, List.length_replicate, Nat.reduceAdd, true_and, and_true, and_self]; first | done | omega)) only [go_sem, ↓reduceIte, Nat.reduceEqDiff, Nat.reduceAdd, Nat.reduceSub, Nat.reduceMul, Nat.reduceBEq, Nat.reduceLT, Nat.reduceLeDiff, Nat.reduceMod, Nat.reducePow, List.reduceReplicate, UInt8.reduceOfNat, Int.reducePow, Int.reduceDiv, Int.reduceMod, Nat.reduceDiv, Int.reduceNeg, Int.reduceAdd, Int.reduceSub, Int.reduceMul, Int.reduceLE, Int.reduceLT, Int.reduceEq, Int.reduceToNat, reduceCtorEq, -List.reduceReplicate, zeroC_len, zeroC_one, zeroC_take, zeroC_put, hCl, hCa, hone, hput]
              unfold UpdR
              refine Upd.leave (H' := H) (by intro fsum; first | exact Nat.le_refl _ | (simp only [List.map_append, List.map_cons, List.map_nil, List.sum_append, List.sum_cons, List.sum_nil, List.cons_append, List.nil_append]; omega)) ?_
              exact fun _ hs => hR G2 _ (hle1.trans hle2) hs (zeroD_is _)
          · rw [hnot fun h => by cases h.1] at hR
            repeat' first
              | with_reducible refine Br.yes ?_
              | with_reducible refine Br.no ?_
              | with_reducible refine Br.dec (fun _ => ?_) (fun _ => ?_)
              | with_reducible refine Br.beqB (fun _ => ?_) (fun _ => ?_)
              | with_reducible refine Br.beqb (fun _ => ?_) (fun _ => ?_)
              | with_reducible refine Br.mk (fun _ => ?_) (fun _ => ?_)
              | with_reducible refine foundO.mk (fun _ _ => ?_) (fun _ => ?_)
              | with_reducible refine appV.zero ?_
              | with_reducible refine appV.own ?_
              | ((with_reducible refine NewB.mk fun nb hnb => ?_); have hnb1 := hnb.1.1; have hnb2 := hnb.1.2; try simp only [keys_cons, keys_app, keys_nil, NotIn_cons, NotIn_app, NotIn_nil, and_true] at hnb2)
              | ((with_reducible refine NewRow.mk fun nb nsp ncap hnb hncap => ?_); have hnb1 := hnb.1.1; have hnb2 := hnb.1.2; try simp only [keys_cons, keys_app, keys_nil, NotIn_cons, NotIn_app, NotIn_nil, and_true] at hnb2)
              | simp (dsimp := false) (implicitDefEqProofs := false) (disch := first | assumption | (simp only [List.mem_cons, List.mem_append, true_or, or_true, eq_self]; done) | omega | (with_reducible refine Row.adr (by assumption) ?_; simp only [List.length_map, List.length_take, List.length_drop]; omega) | (simp only [List.length_cons, List.length_nil, List.length_map, List.length_append, List.length_replicate, Nat.reduceAdd, true_and, and_true, and_self]; first | done | omega)) only [go_sem, ↓reduceIte, Nat.reduceEqDiff, Nat.reduceAdd, Nat.reduceSub, Nat.reduceMul, Nat.reduceBEq, Nat.reduceLT, Nat.reduceLeDiff, Nat.reduceMod, Nat.reducePow, List.reduceReplicate, UInt8.reduceOfNat, Int.reducePow, Int.reduceDiv, Int.reduceMod, Nat.reduceDiv, Int.reduceNeg, Int.reduceAdd, Int.reduceSub, Int.reduceMul, Int.reduceLE, Int.reduceLT, Int.reduceEq, Int.reduceToNat, reduceCtorEq, -List.reduceReplicate, zeroC_len, zeroC_one, zeroC_take, zeroC_put, hCl, hCa, hone, hput]
            unfold UpdR
            refine Upd.leave (H' := H) (by intro fsum; first | exact Nat.le_refl _ | (simp only [List.map_append, List.map_cons, List.map_nil, List.sum_append, List.sum_cons, List.sum_nil, List.cons_append, List.nil_append]; omega)) ?_
            exact fun _ hs => hR G2 _ (hle1.trans hle2) hs (zeroD_is _)
        · rename_i hsum
          rw [readR_sum hf fun h => hsum (congrArg Int.ofNat h)] at hR
          unfold UpdR
          refine Upd.leave (H' := H) (by intro fsum; first | exact Nat.le_refl _ | (simp only [List.map_append, List.map_cons, List.map_nil, List.sum_append, List.sum_cons, List.sum_nil, List.cons_append, List.nil_append]; omega)) ?_
          exact fun _ hs => hR G1 _ hle1 hs (zeroD_is _)
      · rename_i h
        exact absurd hf2 h
    · rw [readR_front fun h => hf2 h.2] at hR
      refine FnT.body tok [0, 2, 3, 4, 5, 6, 7, 18, 30, 56] Try.func5 rfl (by kernel_rfl) (by kernel_rfl) (by show _ ≤ 59; simp) fun hsep => ?_
      rw [Try.results5]
      have hsE := hsep
      try simp only [keys_cons, keys_app, keys_nil, Sep_cons, Sep_nil, NotIn_cons, NotIn_app, NotIn_nil, List.cons_append, List.nil_append, List.append_assoc, and_assoc, and_true, true_and] at hsE
      repeat (obtain ⟨hsx, hsE⟩ := hsE)
      repeat' first
        | with_reducible refine Br.yes ?_
        | with_reducible refine Br.no ?_
        | with_reducible refine Br.dec (fun _ => ?_) (fun _ => ?_)
        | with_reducible refine Br.beqB (fun _ => ?_) (fun _ => ?_)
        | with_reducible refine Br.beqb (fun _ => ?_) (fun _ => ?_)
        | with_reducible refine Br.mk (fun _ => ?_) (fun _ => ?_)
        | with_reducible refine foundO.mk (fun _ _ => ?_) (fun _ => ?_)
        | with_reducible refine appV.zero ?_
        | with_reducible refine appV.own ?_
        | ((with_reducible refine NewB.mk fun nb hnb => ?_); have hnb1 := hnb.1.1; have hnb2 := hnb.1.2; try simp only [keys_cons, keys_app, keys_nil, NotIn_cons, NotIn_app, NotIn_nil, and_true] at hnb2)
        | ((with_reducible refine NewRow.mk fun nb nsp ncap hnb hncap => ?_); have hnb1 := hnb.1.1; have hnb2 := hnb.1.2; try simp only [keys_cons, keys_app, keys_nil, NotIn_cons, NotIn_app, NotIn_nil, and_true] at hnb2)
        | simp (dsimp := false) (implicitDefEqProofs := false) (disch := first | assumption | (simp only [List.mem_cons, List.mem_append, true_or, or_true, eq_self]; done) | omega | (with_reducible refine Row.adr (by assumption) ?_; simp only [List.length_map, List.length_take, List.length_drop]; omega) | (simp only [List.length_cons, List.length_nil, List.length_map, List.length_append, List.length_replicate, Nat.reduceAdd, true_and, and_true, and_self]; first | done | omega)) only [go_sem, ↓reduceIte, Nat.reduceEqDiff, Nat.reduceAdd, Nat.reduceSub, Nat.reduceMul, Nat.reduceBEq, Nat.reduceLT, Nat.reduceLeDiff, Nat.reduceMod, Nat.reducePow, List.reduceReplicate, UInt8.reduceOfNat, Int.reducePow, Int.reduceDiv, Int.reduceMod, Nat.reduceDiv, Int.reduceNeg, Int.reduceAdd, Int.reduceSub, Int.reduceMul, Int.reduceLE, Int.reduceLT, Int.reduceEq, Int.reduceToNat, reduceCtorEq, -List.reduceReplicate, zeroC_len, zeroC_one, zeroC_take, zeroC_put, Row.rdSlAll hr4, List.length_map]
      · rename_i h
        have : (b.take 4 == frontL) = false := by rw [beq_eq_false_iff_ne]; exact hf2
        exact absurd (show b.take 4 = frontL by assumption) hf2
      · unfold UpdR
        refine Upd.leave (H' := H) (by intro fsum; first | exact Nat.le_refl _ | (simp only [List.map_append, List.map_cons, List.map_nil, List.sum_append, List.sum_cons, List.sum_nil, List.cons_append, List.nil_append]; omega)) ?_
        exact fun _ hs => hR G _ (PLe.refl _) hs (zeroD_is _)
  · rw [readR_front fun h => hs8 h.1] at hR
    refine FnT.body tok [0, 2, 3, 4, 5, 6, 7, 18, 30, 56] Try.func5 rfl (by kernel_rfl) (by kernel_rfl) (by show _ ≤ 59; simp) fun hsep => ?_
    rw [Try.results5]
    have hsE := hsep
    try simp only [keys_cons, keys_app, keys_nil, Sep_cons, Sep_nil, NotIn_cons, NotIn_app, NotIn_nil, List.cons_append, List.nil_append, List.append_assoc, and_assoc, and_true, true_and] at hsE
    repeat (obtain ⟨hsx, hsE⟩ := hsE)
    repeat' first
      | with_reducible refine Br.yes ?_
      | with_reducible refine Br.no ?_
      | with_reducible refine Br.dec (fun _ => ?_) (fun _ => ?_)
      | with_reducible refine Br.beqB (fun _ => ?_) (fun _ => ?_)
      | with_reducible refine Br.beqb (fun _ => ?_) (fun _ => ?_)
      | with_reducible refine Br.mk (fun _ => ?_) (fun _ => ?_)
      | with_reducible refine foundO.mk (fun _ _ => ?_) (fun _ => ?_)
      | with_reducible refine appV.zero ?_
      | with_reducible refine appV.own ?_
      | ((with_reducible refine NewB.mk fun nb hnb => ?_); have hnb1 := hnb.1.1; have hnb2 := hnb.1.2; try simp only [keys_cons, keys_app, keys_nil, NotIn_cons, NotIn_app, NotIn_nil, and_true] at hnb2)
      | ((with_reducible refine NewRow.mk fun nb nsp ncap hnb hncap => ?_); have hnb1 := hnb.1.1; have hnb2 := hnb.1.2; try simp only [keys_cons, keys_app, keys_nil, NotIn_cons, NotIn_app, NotIn_nil, and_true] at hnb2)
      | simp (dsimp := false) (implicitDefEqProofs := false) (disch := first | assumption | (simp only [List.mem_cons, List.mem_append, true_or, or_true, eq_self]; done) | omega | (with_reducible refine Row.adr (by assumption) ?_; simp only [List.length_map, List.length_take, List.length_drop]; omega) | (simp only [List.length_cons, List.length_nil, List.length_map, List.length_append, List.length_replicate, Nat.reduceAdd, true_and, and_true, and_self]; first | done | omega)) only [go_sem, ↓reduceIte, Nat.reduceEqDiff, Nat.reduceAdd, Nat.reduceSub, Nat.reduceMul, Nat.reduceBEq, Nat.reduceLT, Nat.reduceLeDiff, Nat.reduceMod, Nat.reducePow, List.reduceReplicate, UInt8.reduceOfNat, Int.reducePow, Int.reduceDiv, Int.reduceMod, Nat.reduceDiv, Int.reduceNeg, Int.reduceAdd, Int.reduceSub, Int.reduceMul, Int.reduceLE, Int.reduceLT, Int.reduceEq, Int.reduceToNat, reduceCtorEq, -List.reduceReplicate, zeroC_len, zeroC_one, zeroC_take, zeroC_put]
    unfold UpdR
    refine Upd.leave (H' := H) (by intro fsum; first | exact Nat.le_refl _ | (simp only [List.map_append, List.map_cons, List.map_nil, List.sum_append, List.sum_cons, List.sum_nil, List.cons_append, List.nil_append]; omega)) ?_
    exact fun _ hs => hR G _ (PLe.refl _) hs (zeroD_is _)
end Go.Proofs.Ytomdbjfdbkejoaa
