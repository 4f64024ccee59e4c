/- May a machine be: dfa.Right. -/
import Derived.Test.YtpagkndgjihbbaaSi
set_option linter.unusedSimpArgs false
set_option linter.unusedVariables false
namespace Go.Proofs.Ytpagkndgjihbbaa
open Go Go.V Go.Proofs

def RightP (d : DfaT) : Prop := 1 ≤ d.label.length ∧ d.label.length ≤ 65536 ∧ d.next.length = d.label.length ∧ nums d.of = d.of ∧ ((tabO d.of).length : Int) = d.width ∧ namesOk d.names ∧ rowsOk d
/-- a machine's value, opened -/
structure OpenD (G : PHeap) (d : DfaT) (C : List Value) (an al ay : Option Addr) (cn cl cs : Nat) (rs : List Value) : Prop where
  len : C.length = 260
  w : C[256]? = some (.int .i64 d.width)
  n : C[257]? = some (.slice an d.next.length cn)
  l : C[258]? = some (.slice al d.label.length cl)
  s : C[259]? = some (.slice ay d.names.length cs)
  of : C.take 256 = u8L d.of
  all : C.take 260 = C
  is : IsD G d (.agg C.toArray)
  ofl : d.of.length = 256
  ofb : ∀ x ∈ d.of, 0 ≤ x ∧ x ≤ 255
  rn : Row G an rs
  rnl : rs.length = d.next.length
  rnc : d.next.length ≤ cn
  rs : ∀ i (h : i < d.next.length) (h2 : i < rs.length), ∃ b c, rs[i] = .slice b d.next[i].length c ∧ Row G b (d.next[i].map (Value.int .i64)) ∧ d.next[i].length ≤ c
  rl : Row G al (d.label.map (Value.int .i64))
  rlc : d.label.length ≤ cl
  ry : Row G ay (d.names.map str)
  ryc : d.names.length ≤ cs
theorem IsD.opened {G : PHeap} {d : DfaT} {v : Value} (h : IsD G d v) : ∃ C an al ay cn cl cs rs, v = .agg (List.toArray C) ∧ OpenD G d C an al ay cn cl cs rs := by
  have h0 := h
  obtain ⟨hof, hofb, vn, vl, vs, rfl, ⟨an, cn, rs, rfl, hrn, hrl, hcn, hrs⟩, ⟨al, cl, rfl, hrl', hcl⟩, ⟨ay, cs, rfl, hrs', hcs⟩⟩ := h
  exact ⟨_, an, al, ay, cn, cl, cs, rs, rfl, cellsD_len hof _ _ _, cellsD_w hof _ _ _, cellsD_n hof _ _ _, cellsD_l hof _ _ _, cellsD_s hof _ _ _, cellsD_of hof _ _ _, cellsD_all hof _ _ _, h0, hof, hofb, hrn, hrl, hcn, hrs, hrl', hcl, hrs', hcs⟩
theorem OpenD.mono {G G' : PHeap} (hle : PLe G G') {d : DfaT} {C : List Value} {an al ay : Option Addr} {cn cl cs : Nat} {rs : List Value} (h : OpenD G d C an al ay cn cl cs rs) : OpenD G' d C an al ay cn cl cs rs :=
  ⟨h.len, h.w, h.n, h.l, h.s, h.of, h.all, h.is.mono hle, h.ofl, h.ofb, h.rn.mono hle, h.rnl, h.rnc, fun i h1 h2 => by
    obtain ⟨b, c, e1, e2, e3⟩ := h.rs i h1 h2
    exact ⟨b, c, e1, e2.mono hle, e3⟩, h.rl.mono hle, h.rlc, h.ry.mono hle, h.ryc⟩
theorem OpenD.label {G : PHeap} {d : DfaT} {C : List Value} {an al ay : Option Addr} {cn cl cs : Nat} {rs : List Value} (h : OpenD G d C an al ay cn cl cs rs) : Sl G (Value.int .i64) (.slice al d.label.length cl) d.label := ⟨al, cl, rfl, h.rl, h.rlc⟩
theorem OpenD.names {G : PHeap} {d : DfaT} {C : List Value} {an al ay : Option Addr} {cn cl cs : Nat} {rs : List Value} (h : OpenD G d C an al ay cn cl cs rs) : Sl G str (.slice ay d.names.length cs) d.names := ⟨ay, cs, rfl, h.ry, h.ryc⟩
theorem OpenD.get {G : PHeap} {d : DfaT} {C : List Value} {an al ay : Option Addr} {cn cl cs : Nat} {rs : List Value} (h : OpenD G d C an al ay cn cl cs rs) (i : Nat) : C[i]? = C[i]? := rfl
set_option maxHeartbeats 8000000 in
theorem right_t {d : DfaT} (hsm : SmallD d) {G : PHeap} {H : Heap} {R : Value → PHeap → Heap → Prop} {v : Value} (hv : IsD G d v) (hR : R (.bool (boolOf (RightP d))) G H) : FnT Try.prog 22 [v] G H R := by
  obtain ⟨C, an, al, ay, cn, cl, cs, rs, rfl, O⟩ := hv.opened
  obtain ⟨hm1, hm2, hm3, hm4, hm5⟩ := id hsm
  have hCl := O.len
  have hCw := O.w
  have hCn := O.n
  have hCx := O.l
  have hCs := O.s
  have hCo := O.of
  have hCa := O.all
  by_cases h1 : 1 ≤ d.label.length ∧ d.label.length ≤ 65536 ∧ d.next.length = d.label.length
  · obtain ⟨h1a, h1b, h1c⟩ := h1
    refine FnT.body tok [0, 1, 2, 3] Try.func22 rfl (by kernel_rfl) (by kernel_rfl) (by show _ ≤ 36; simp) fun hsep => ?_
    rw [Try.results22]
    have hsE := hsep
    try simp only [keys_cons, keys_app, keys_nil, Sep_cons, Sep_nil, NotIn_cons, NotIn_app, NotIn_nil, List.cons_append, List.nil_append, List.append_assoc, and_assoc, and_true, true_and] at hsE
    repeat (obtain ⟨hsx, hsE⟩ := hsE)
    repeat' first
      | with_reducible refine Br.yes ?_
      | with_reducible refine Br.no ?_
      | with_reducible refine Br.dec (fun _ => ?_) (fun _ => ?_)
      | with_reducible refine Br.beqB (fun _ => ?_) (fun _ => ?_)
      | with_reducible refine Br.beqb (fun _ => ?_) (fun _ => ?_)
      | with_reducible refine Br.mk (fun _ => ?_) (fun _ => ?_)
      | with_reducible refine foundO.mk (fun _ _ => ?_) (fun _ => ?_)
      | with_reducible refine appV.zero ?_
      | with_reducible refine appV.own ?_
      | ((with_reducible refine NewB.mk fun nb hnb => ?_); have hnb1 := hnb.1.1; have hnb2 := hnb.1.2; try simp only [keys_cons, keys_app, keys_nil, NotIn_cons, NotIn_app, NotIn_nil, and_true] at hnb2)
      | ((with_reducible refine NewRow.mk fun nb nsp ncap hnb hncap => ?_); have hnb1 := hnb.1.1; have hnb2 := hnb.1.2; try simp only [keys_cons, keys_app, keys_nil, NotIn_cons, NotIn_app, NotIn_nil, and_true] at hnb2)
      | simp (dsimp := false) (implicitDefEqProofs := false) (disch := first | assumption | (simp only [List.mem_cons, List.mem_append, true_or, or_true, eq_self]; done) | omega | (with_reducible refine Row.adr (by assumption) ?_; simp only [List.length_map, List.length_take, List.length_drop]; omega) | (simp only [List.length_cons, List.length_nil, List.length_map, List.length_append, List.length_replicate, Nat.reduceAdd, true_and, and_true, and_self]; first | done | omega)) only [go_sem, ↓reduceIte, Nat.reduceEqDiff, Nat.reduceAdd, Nat.reduceSub, Nat.reduceMul, Nat.reduceBEq, Nat.reduceLT, Nat.reduceLeDiff, Nat.reduceMod, Nat.reducePow, List.reduceReplicate, UInt8.reduceOfNat, Int.reducePow, Int.reduceDiv, Int.reduceMod, Nat.reduceDiv, Int.reduceNeg, Int.reduceAdd, Int.reduceSub, Int.reduceMul, Int.reduceLE, Int.reduceLT, Int.reduceEq, Int.reduceToNat, reduceCtorEq, -List.reduceReplicate, List.toList_toArray, hCl, hCw, hCn, hCx, hCs, hCo, hCa]
      | with_reducible refine pright_t O.ofl d.width ?_
      | with_reducible refine names_t d.names hm4 hm5 O.names ?_
      | with_reducible refine rows_t hsm h1c O.is ?_
    · rename_i hp hq
      refine Upd.finL (by intro fsum; first | exact Nat.le_refl _ | (simp only [List.map_append, List.map_cons, List.map_nil, List.sum_append, List.sum_cons, List.sum_nil, List.cons_append, List.nil_append]; omega)) hR ?_
      rw [Bool.and_eq_true, decide_eq_true_eq, decide_eq_true_eq] at hp
      simp only [Value.bool.injEq]
      rw [Bool.eq_iff_iff, boolOf_iff, boolOf_iff]
      exact ⟨fun h => ⟨h1a, h1b, h1c, hp.1, hp.2, boolOf_iff.1 hq, h⟩, fun h => h.2.2.2.2.2.2⟩
    · rename_i hp hq
      rw [boolOf_no fun h => by rw [boolOf_yes h.2.2.2.2.2.1] at hq; cases hq] at hR
      all_goals refine Upd.finL ?_ hR ?_
      any_goals (intro fsum; first | exact Nat.le_refl _ | (simp only [List.map_append, List.map_cons, List.map_nil, List.sum_append, List.sum_cons, List.sum_nil, List.cons_append, List.nil_append]; omega))
      rfl
    · rename_i hp
      rw [boolOf_no fun h => by rw [decide_eq_true h.2.2.2.1, decide_eq_true h.2.2.2.2.1] at hp; cases hp] at hR
      all_goals refine Upd.finL ?_ hR ?_
      any_goals (intro fsum; first | exact Nat.le_refl _ | (simp only [List.map_append, List.map_cons, List.map_nil, List.sum_append, List.sum_cons, List.sum_nil, List.cons_append, List.nil_append]; omega))
      rfl
  · rw [boolOf_no fun h => h1 ⟨h.1, h.2.1, h.2.2.1⟩] at hR
    refine FnT.body tok [0, 1, 2, 3] Try.func22 rfl (by kernel_rfl) (by kernel_rfl) (by show _ ≤ 36; simp) fun hsep => ?_
    rw [Try.results22]
    have hsE := hsep
    try simp only [keys_cons, keys_app, keys_nil, Sep_cons, Sep_nil, NotIn_cons, NotIn_app, NotIn_nil, List.cons_append, List.nil_append, List.append_assoc, and_assoc, and_true, true_and] at hsE
    repeat (obtain ⟨hsx, hsE⟩ := hsE)
    repeat' first
      | with_reducible refine Br.yes ?_
      | with_reducible refine Br.no ?_
      | with_reducible refine Br.dec (fun _ => ?_) (fun _ => ?_)
      | with_reducible refine Br.beqB (fun _ => ?_) (fun _ => ?_)
      | with_reducible refine Br.beqb (fun _ => ?_) (fun _ => ?_)
      | with_reducible refine Br.mk (fun _ => ?_) (fun _ => ?_)
      | with_reducible refine foundO.mk (fun _ _ => ?_) (fun _ => ?_)
      | with_reducible refine appV.zero ?_
      | with_reducible refine appV.own ?_
      | ((with_reducible refine NewB.mk fun nb hnb => ?_); have hnb1 := hnb.1.1; have hnb2 := hnb.1.2; try simp only [keys_cons, keys_app, keys_nil, NotIn_cons, NotIn_app, NotIn_nil, and_true] at hnb2)
      | ((with_reducible refine NewRow.mk fun nb nsp ncap hnb hncap => ?_); have hnb1 := hnb.1.1; have hnb2 := hnb.1.2; try simp only [keys_cons, keys_app, keys_nil, NotIn_cons, NotIn_app, NotIn_nil, and_true] at hnb2)
      | simp (dsimp := false) (implicitDefEqProofs := false) (disch := first | assumption | (simp only [List.mem_cons, List.mem_append, true_or, or_true, eq_self]; done) | omega | (with_reducible refine Row.adr (by assumption) ?_; simp only [List.length_map, List.length_take, List.length_drop]; omega) | (simp only [List.length_cons, List.length_nil, List.length_map, List.length_append, List.length_replicate, Nat.reduceAdd, true_and, and_true, and_self]; first | done | omega)) only [go_sem, ↓reduceIte, Nat.reduceEqDiff, Nat.reduceAdd, Nat.reduceSub, Nat.reduceMul, Nat.reduceBEq, Nat.reduceLT, Nat.reduceLeDiff, Nat.reduceMod, Nat.reducePow, List.reduceReplicate, UInt8.reduceOfNat, Int.reducePow, Int.reduceDiv, Int.reduceMod, Nat.reduceDiv, Int.reduceNeg, Int.reduceAdd, Int.reduceSub, Int.reduceMul, Int.reduceLE, Int.reduceLT, Int.reduceEq, Int.reduceToNat, reduceCtorEq, -List.reduceReplicate, List.toList_toArray, hCl, hCw, hCn, hCx, hCs, hCo, hCa]
    all_goals try (exfalso; omega)
    all_goals refine Upd.finL ?_ hR ?_
    any_goals (intro fsum; first | exact Nat.le_refl _ | (simp only [List.map_append, List.map_cons, List.map_nil, List.sum_append, List.sum_cons, List.sum_nil, List.cons_append, List.nil_append]; omega))
    all_goals rfl
end Go.Proofs.Ytpagkndgjihbbaa
