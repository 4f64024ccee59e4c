/- Machines as bytes: the bytes of a machine. -/
import Derived.Test.YtomdbjfdbkejoaaYb
import Derived.Test.YtomdbjfdbkejoaaSl
import Derived.Test.YtomdbjfdbkejoaaTb
set_option linter.unusedSimpArgs false
set_option linter.unusedVariables false
namespace Go.Proofs.Ytomdbjfdbkejoaa
open Go Go.V Go.Proofs

def frontL : List UInt8 := [68, 66, 76, 49]
def nameE (s : List UInt8) : List UInt8 := beB 1 s.length ++ s
def namesE (l : List (List UInt8)) : List UInt8 := l.flatMap nameE
/-- where the run of a byte begins -/
def startL (l : List Int) : Nat → Nat
  | 0 => 0
  | c + 1 => if l.getD (c + 1) 0 ≠ l.getD c 0 then c + 1 else startL l c
def emL (l : List Int) (c : Nat) : List UInt8 := if c = 255 ∨ l.getD (c + 1) 0 ≠ l.getD c 0 then beB 1 (l.getD c 0).toNat ++ beB 1 (c - startL l c) else []
def runsT (l : List Int) (c : Nat) : List UInt8 := (List.range c).flatMap (emL l)
theorem runsT_succ (l : List Int) (c : Nat) : runsT l (c + 1) = runsT l c ++ emL l c := by
  unfold runsT; rw [List.range_succ, List.flatMap_append, List.flatMap_singleton]
def rowE (r : List Int) : List UInt8 := r.flatMap fun t => beB 2 t.toNat
def stE (d : DfaT) (s : Nat) : List UInt8 := beB 1 (atL d.label (s : Nat)).toNat ++ rowE (d.next.getD s [])
def statesT (d : DfaT) (k : Nat) : List UInt8 := (List.range k).flatMap (stE d)
theorem statesT_succ (d : DfaT) (k : Nat) : statesT d (k + 1) = statesT d k ++ stE d k := by
  unfold statesT; rw [List.range_succ, List.flatMap_append, List.flatMap_singleton]
def bodyL (d : DfaT) : List UInt8 := frontL ++ beB 1 d.names.length ++ namesE d.names ++ runsT d.of 256 ++ beB 2 (d.label.length - 1) ++ statesT d d.label.length
def layL (d : DfaT) : List UInt8 := bodyL d ++ beB 4 (sumL (bodyL d))
theorem startL_le (l : List Int) : ∀ c, startL l c ≤ c
  | 0 => Nat.le_refl _
  | c + 1 => by
    have := startL_le l c
    unfold startL; split <;> omega
theorem emL_len (l : List Int) (c : Nat) : (emL l c).length ≤ 2 := by
  unfold emL; split
  · rw [List.length_append, beB_len, beB_len]; omega
  · exact Nat.zero_le _
theorem runsT_len (l : List Int) : ∀ c, (runsT l c).length ≤ 2 * c
  | 0 => by simp [runsT]
  | c + 1 => by
    have := runsT_len l c
    have := emL_len l c
    rw [runsT_succ, List.length_append]; omega
theorem nameE_len (s : List UInt8) : (nameE s).length = 1 + s.length := by unfold nameE; rw [List.length_append, beB_len]
theorem namesE_len : ∀ (l : List (List UInt8)), (∀ s ∈ l, s.length ≤ 32) → (namesE l).length ≤ 33 * l.length
  | [], _ => Nat.le_refl _
  | s :: l, h => by
    have h1 := namesE_len l fun x hx => h x (List.mem_cons_of_mem _ hx)
    have h2 := h s List.mem_cons_self
    unfold namesE at h1 ⊢
    rw [List.flatMap_cons, List.length_append, nameE_len, List.length_cons]; omega
theorem rowE_len : ∀ (r : List Int), (rowE r).length = 2 * r.length
  | [] => rfl
  | t :: r => by
    have h1 := rowE_len r
    unfold rowE at h1 ⊢
    rw [List.flatMap_cons, List.length_append, beB_len, h1, List.length_cons]; omega
theorem rowE_snoc (r : List Int) {k : Nat} (h : k < r.length) : rowE (r.take (k + 1)) = rowE (r.take k) ++ beB 2 r[k].toNat := by
  unfold rowE; rw [List.take_succ_eq_append_getElem h, List.flatMap_append, List.flatMap_singleton]
theorem namesE_snoc (l : List (List UInt8)) {k : Nat} (h : k < l.length) : namesE (l.take (k + 1)) = namesE (l.take k) ++ nameE l[k] := by
  unfold namesE; rw [List.take_succ_eq_append_getElem h, List.flatMap_append, List.flatMap_singleton]
theorem right_names {d : DfaT} (hok : RightP d) : d.names.length ≤ 64 ∧ ∀ s ∈ d.names, s.length ≤ 32 := by
  obtain ⟨h1, h2⟩ := hok.2.2.2.2.2.1
  refine ⟨h1, fun s hs => ?_⟩
  obtain ⟨i, hi, rfl⟩ := List.getElem_of_mem hs
  exact (nameB_iff.1 (h2 i hi).1).2.1
theorem right_width {d : DfaT} (hok : RightP d) (hl : d.of.length = 256) : 0 ≤ d.width ∧ d.width ≤ 256 := by
  have h1 := hok.2.2.2.2.1
  have h2 := tabO_len d.of
  omega
theorem stE_at {d : DfaT} {s : Nat} (hs : s < d.next.length) (hl : s < d.label.length) : stE d s = beB 1 d.label[s].toNat ++ rowE d.next[s] := by
  unfold stE
  rw [atL_get (by simpa using hl), List.getD_eq_getElem?_getD, List.getElem?_eq_getElem hs]
  simp only [Int.toNat_natCast]; rfl
theorem statesT_len {d : DfaT} (hok : RightP d) (hl : d.of.length = 256) : ∀ k, k ≤ d.label.length → (statesT d k).length ≤ 513 * k
  | 0, _ => by simp [statesT]
  | k + 1, h => by
    have h1 := statesT_len hok hl k (by omega)
    have hn := hok.2.2.1
    have hw := (hok.2.2.2.2.2.2 k (by omega) (by omega)).1
    have hw2 := right_width hok hl
    rw [statesT_succ, List.length_append, stE_at (by omega) (by omega), List.length_append, beB_len, rowE_len]; omega
theorem bodyL_len {d : DfaT} (hok : RightP d) (hl : d.of.length = 256) : (bodyL d).length ≤ 50000000 := by
  have h1 := statesT_len hok hl d.label.length (Nat.le_refl _)
  have h2 := runsT_len d.of 256
  have h3 := right_names hok
  have h4 := namesE_len d.names h3.2
  have h5 := hok.2.1
  unfold bodyL
  simp only [List.length_append, beB_len]
  have : frontL.length = 4 := rfl
  omega
/-! sums of one's own bytes -/
set_option maxHeartbeats 4000000 in
theorem psumO_t {b : List UInt8} (hbl : b.length ≤ 200000000) {x cap : Nat} {sp : List Value} {G : PHeap} {H : Heap} {R : Value → PHeap → Heap → Prop} (hR : R (.int .u32 (sumL b : Nat)) G ((x, .cells (b.map byteV) sp 5) :: H)) : FnT Try.prog 14 [.slice (some ⟨x, 0, none⟩) b.length cap] G ((x, .cells (b.map byteV) sp 5) :: H) R := by
  refine FnT.body tok [0, 2, 3, 5, 6, 7, 8, 9] Try.func14 rfl (by kernel_rfl) (by kernel_rfl) (by show _ ≤ 20; simp) fun hsep => ?_
  rw [Try.results14]
  have hsE := hsep
  try simp only [keys_cons, keys_app, keys_nil, Sep_cons, Sep_nil, NotIn_cons, NotIn_app, NotIn_nil, List.cons_append, List.nil_append, List.append_assoc, and_assoc, and_true, true_and] at hsE
  repeat (obtain ⟨hsx, hsE⟩ := hsE)
  repeat' first
    | with_reducible refine Br.yes ?_
    | with_reducible refine Br.no ?_
    | with_reducible refine Br.dec (fun _ => ?_) (fun _ => ?_)
    | with_reducible refine Br.beqB (fun _ => ?_) (fun _ => ?_)
    | with_reducible refine Br.beqb (fun _ => ?_) (fun _ => ?_)
    | with_reducible refine Br.mk (fun _ => ?_) (fun _ => ?_)
    | with_reducible refine foundO.mk (fun _ _ => ?_) (fun _ => ?_)
    | with_reducible refine appV.zero ?_
    | with_reducible refine appV.own ?_
    | ((with_reducible refine NewB.mk fun nb hnb => ?_); have hnb1 := hnb.1.1; have hnb2 := hnb.1.2; try simp only [keys_cons, keys_app, keys_nil, NotIn_cons, NotIn_app, NotIn_nil, and_true] at hnb2)
    | ((with_reducible refine NewRow.mk fun nb nsp ncap hnb hncap => ?_); have hnb1 := hnb.1.1; have hnb2 := hnb.1.2; try simp only [keys_cons, keys_app, keys_nil, NotIn_cons, NotIn_app, NotIn_nil, and_true] at hnb2)
    | simp (dsimp := false) (implicitDefEqProofs := false) (disch := first | assumption | (simp only [List.mem_cons, List.mem_append, true_or, or_true, eq_self]; done) | omega | (with_reducible refine Row.adr (by assumption) ?_; simp only [List.length_map, List.length_take, List.length_drop]; omega) | (simp only [List.length_cons, List.length_nil, List.length_map, List.length_append, List.length_replicate, Nat.reduceAdd, true_and, and_true, and_self]; first | done | omega)) only [go_sem, ↓reduceIte, Nat.reduceEqDiff, Nat.reduceAdd, Nat.reduceSub, Nat.reduceMul, Nat.reduceBEq, Nat.reduceLT, Nat.reduceLeDiff, Nat.reduceMod, Nat.reducePow, List.reduceReplicate, UInt8.reduceOfNat, Int.reducePow, Int.reduceDiv, Int.reduceMod, Nat.reduceDiv, Int.reduceNeg, Int.reduceAdd, Int.reduceSub, Int.reduceMul, Int.reduceLE, Int.reduceLT, Int.reduceEq, Int.reduceToNat, reduceCtorEq]
  refine Tri.loopU tok [0, 2, 3, 5, 6, 7, 8, 9] (by kernel_rfl) [0, 2, 3, 6, 7, 8] (fun q G' fr H' => ∃ i : Nat, i + q = b.length ∧ G' = G ∧ H' = (x, .cells (b.map byteV) sp 5) :: H ∧ fr = [(0, .slice (some ⟨x, 0, none⟩) b.length cap), (2, .int .u32 0), (3, .int .u32 (sumL (b.take i) : Nat)), (6, .slice (some ⟨x, 0, none⟩) b.length cap), (7, .int .i64 b.length), (8, .int .i64 (i : Nat))]) (b.length) (Upd.now ?_) ?_
  · exact ⟨0, by omega, rfl, rfl, rfl⟩
  · rintro q G1 fr H' hle hs1 ⟨i, hiq, rfl, rfl, rfl⟩
    have hsE := hs1
    try simp only [keys_cons, keys_app, keys_nil, Sep_cons, Sep_nil, NotIn_cons, NotIn_app, NotIn_nil, List.cons_append, List.nil_append, List.append_assoc, and_assoc, and_true, true_and] at hsE
    repeat (obtain ⟨hsx, hsE⟩ := hsE)
    by_cases hil : i < b.length
    · have hst := sumL_take b hil
      have hlt := sumL_lt (b.take i)
      have hget : ∀ h, (b.map byteV ++ sp)[i]'h = Value.int .u8 (b[i].toNat : Nat) := fun h => by rw [List.getElem_append_left (by rw [List.length_map]; exact hil), List.getElem_map]; rfl
      repeat' first
        | with_reducible refine Br.yes ?_
        | with_reducible refine Br.no ?_
        | with_reducible refine Br.dec (fun _ => ?_) (fun _ => ?_)
        | with_reducible refine Br.beqB (fun _ => ?_) (fun _ => ?_)
        | with_reducible refine Br.beqb (fun _ => ?_) (fun _ => ?_)
        | with_reducible refine Br.mk (fun _ => ?_) (fun _ => ?_)
        | with_reducible refine foundO.mk (fun _ _ => ?_) (fun _ => ?_)
        | with_reducible refine appV.zero ?_
        | with_reducible refine appV.own ?_
        | ((with_reducible refine NewB.mk fun nb hnb => ?_); have hnb1 := hnb.1.1; have hnb2 := hnb.1.2; try simp only [keys_cons, keys_app, keys_nil, NotIn_cons, NotIn_app, NotIn_nil, and_true] at hnb2)
        | ((with_reducible refine NewRow.mk fun nb nsp ncap hnb hncap => ?_); have hnb1 := hnb.1.1; have hnb2 := hnb.1.2; try simp only [keys_cons, keys_app, keys_nil, NotIn_cons, NotIn_app, NotIn_nil, and_true] at hnb2)
        | simp (dsimp := false) (implicitDefEqProofs := false) (disch := first | assumption | (simp only [List.mem_cons, List.mem_append, true_or, or_true, eq_self]; done) | omega | (with_reducible refine Row.adr (by assumption) ?_; simp only [List.length_map, List.length_take, List.length_drop]; omega) | (simp only [List.length_cons, List.length_nil, List.length_map, List.length_append, List.length_replicate, Nat.reduceAdd, true_and, and_true, and_self]; first | done | omega)) only [go_sem, ↓reduceIte, Nat.reduceEqDiff, Nat.reduceAdd, Nat.reduceSub, Nat.reduceMul, Nat.reduceBEq, Nat.reduceLT, Nat.reduceLeDiff, Nat.reduceMod, Nat.reducePow, List.reduceReplicate, UInt8.reduceOfNat, Int.reducePow, Int.reduceDiv, Int.reduceMod, Nat.reduceDiv, Int.reduceNeg, Int.reduceAdd, Int.reduceSub, Int.reduceMul, Int.reduceLE, Int.reduceLT, Int.reduceEq, Int.reduceToNat, reduceCtorEq, List.length_map, hget, stepS_wrap hlt]
      exact Upd.now ⟨q - 1, by omega, i + 1, by omega, rfl, rfl, by rw [hst]; rfl⟩
    · obtain rfl : i = b.length := by omega
      rw [List.take_length]
      repeat' first
        | with_reducible refine Br.yes ?_
        | with_reducible refine Br.no ?_
        | with_reducible refine Br.dec (fun _ => ?_) (fun _ => ?_)
        | with_reducible refine Br.beqB (fun _ => ?_) (fun _ => ?_)
        | with_reducible refine Br.beqb (fun _ => ?_) (fun _ => ?_)
        | with_reducible refine Br.mk (fun _ => ?_) (fun _ => ?_)
        | with_reducible refine foundO.mk (fun _ _ => ?_) (fun _ => ?_)
        | with_reducible refine appV.zero ?_
        | with_reducible refine appV.own ?_
        | ((with_reducible refine NewB.mk fun nb hnb => ?_); have hnb1 := hnb.1.1; have hnb2 := hnb.1.2; try simp only [keys_cons, keys_app, keys_nil, NotIn_cons, NotIn_app, NotIn_nil, and_true] at hnb2)
        | ((with_reducible refine NewRow.mk fun nb nsp ncap hnb hncap => ?_); have hnb1 := hnb.1.1; have hnb2 := hnb.1.2; try simp only [keys_cons, keys_app, keys_nil, NotIn_cons, NotIn_app, NotIn_nil, and_true] at hnb2)
        | simp (dsimp := false) (implicitDefEqProofs := false) (disch := first | assumption | (simp only [List.mem_cons, List.mem_append, true_or, or_true, eq_self]; done) | omega | (with_reducible refine Row.adr (by assumption) ?_; simp only [List.length_map, List.length_take, List.length_drop]; omega) | (simp only [List.length_cons, List.length_nil, List.length_map, List.length_append, List.length_replicate, Nat.reduceAdd, true_and, and_true, and_self]; first | done | omega)) only [go_sem, ↓reduceIte, Nat.reduceEqDiff, Nat.reduceAdd, Nat.reduceSub, Nat.reduceMul, Nat.reduceBEq, Nat.reduceLT, Nat.reduceLeDiff, Nat.reduceMod, Nat.reducePow, List.reduceReplicate, UInt8.reduceOfNat, Int.reducePow, Int.reduceDiv, Int.reduceMod, Nat.reduceDiv, Int.reduceNeg, Int.reduceAdd, Int.reduceSub, Int.reduceMul, Int.reduceLE, Int.reduceLT, Int.reduceEq, Int.reduceToNat, reduceCtorEq]
      all_goals refine Upd.finL ?_ hR ?_
      any_goals (intro fsum; first | exact Nat.le_refl _ | (simp only [List.map_append, List.map_cons, List.map_nil, List.sum_append, List.sum_cons, List.sum_nil, List.cons_append, List.nil_append]; omega))
      all_goals rfl
set_option maxHeartbeats 4000000 in
theorem rsumO_t {b : List UInt8} (hbl : b.length ≤ 200000000) {x cap : Nat} {sp : List Value} {G : PHeap} {H : Heap} {R : Value → PHeap → Heap → Prop} (hR : R (.int .u32 (sumL b : Nat)) G ((x, .cells (b.map byteV) sp 5) :: H)) : FnT Try.prog 8 [.slice (some ⟨x, 0, none⟩) b.length cap] G ((x, .cells (b.map byteV) sp 5) :: H) R := by
  refine FnT.body tok [0, 2, 3, 4, 8] Try.func8 rfl (by kernel_rfl) (by kernel_rfl) (by show _ ≤ 20; simp) fun hsep => ?_
  rw [Try.results8]
  have hsE := hsep
  try simp only [keys_cons, keys_app, keys_nil, Sep_cons, Sep_nil, NotIn_cons, NotIn_app, NotIn_nil, List.cons_append, List.nil_append, List.append_assoc, and_assoc, and_true, true_and] at hsE
  repeat (obtain ⟨hsx, hsE⟩ := hsE)
  repeat' first
    | with_reducible refine Br.yes ?_
    | with_reducible refine Br.no ?_
    | with_reducible refine Br.dec (fun _ => ?_) (fun _ => ?_)
    | with_reducible refine Br.beqB (fun _ => ?_) (fun _ => ?_)
    | with_reducible refine Br.beqb (fun _ => ?_) (fun _ => ?_)
    | with_reducible refine Br.mk (fun _ => ?_) (fun _ => ?_)
    | with_reducible refine foundO.mk (fun _ _ => ?_) (fun _ => ?_)
    | with_reducible refine appV.zero ?_
    | with_reducible refine appV.own ?_
    | ((with_reducible refine NewB.mk fun nb hnb => ?_); have hnb1 := hnb.1.1; have hnb2 := hnb.1.2; try simp only [keys_cons, keys_app, keys_nil, NotIn_cons, NotIn_app, NotIn_nil, and_true] at hnb2)
    | ((with_reducible refine NewRow.mk fun nb nsp ncap hnb hncap => ?_); have hnb1 := hnb.1.1; have hnb2 := hnb.1.2; try simp only [keys_cons, keys_app, keys_nil, NotIn_cons, NotIn_app, NotIn_nil, and_true] at hnb2)
    | simp (dsimp := false) (implicitDefEqProofs := false) (disch := first | assumption | (simp only [List.mem_cons, List.mem_append, true_or, or_true, eq_self]; done) | omega | (with_reducible refine Row.adr (by assumption) ?_; simp only [List.length_map, List.length_take, List.length_drop]; omega) | (simp only [List.length_cons, List.length_nil, List.length_map, List.length_append, List.length_replicate, Nat.reduceAdd, true_and, and_true, and_self]; first | done | omega)) only [go_sem, ↓reduceIte, Nat.reduceEqDiff, Nat.reduceAdd, Nat.reduceSub, Nat.reduceMul, Nat.reduceBEq, Nat.reduceLT, Nat.reduceLeDiff, Nat.reduceMod, Nat.reducePow, List.reduceReplicate, UInt8.reduceOfNat, Int.reducePow, Int.reduceDiv, Int.reduceMod, Nat.reduceDiv, Int.reduceNeg, Int.reduceAdd, Int.reduceSub, Int.reduceMul, Int.reduceLE, Int.reduceLT, Int.reduceEq, Int.reduceToNat, reduceCtorEq]
  refine Tri.loopU tok [0, 2, 3, 4, 8] (by kernel_rfl) [0, 2, 3, 4] (fun q G' fr H' => ∃ i : Nat, i + q = b.length ∧ G' = G ∧ H' = (x, .cells (b.map byteV) sp 5) :: H ∧ fr = [(0, .slice (some ⟨x, 0, none⟩) b.length cap), (2, .int .u32 0), (3, .int .u32 (sumL (b.take i) : Nat)), (4, .int .i64 (i : Nat))]) (b.length) (Upd.now ?_) ?_
  · exact ⟨0, by omega, rfl, rfl, rfl⟩
  · rintro q G1 fr H' hle hs1 ⟨i, hiq, rfl, rfl, rfl⟩
    have hsE := hs1
    try simp only [keys_cons, keys_app, keys_nil, Sep_cons, Sep_nil, NotIn_cons, NotIn_app, NotIn_nil, List.cons_append, List.nil_append, List.append_assoc, and_assoc, and_true, true_and] at hsE
    repeat (obtain ⟨hsx, hsE⟩ := hsE)
    by_cases hil : i < b.length
    · have hst := sumL_take b hil
      have hlt := sumL_lt (b.take i)
      have hget : ∀ h, (b.map byteV ++ sp)[i]'h = Value.int .u8 (b[i].toNat : Nat) := fun h => by rw [List.getElem_append_left (by rw [List.length_map]; exact hil), List.getElem_map]; rfl
      repeat' first
        | with_reducible refine Br.yes ?_
        | with_reducible refine Br.no ?_
        | with_reducible refine Br.dec (fun _ => ?_) (fun _ => ?_)
        | with_reducible refine Br.beqB (fun _ => ?_) (fun _ => ?_)
        | with_reducible refine Br.beqb (fun _ => ?_) (fun _ => ?_)
        | with_reducible refine Br.mk (fun _ => ?_) (fun _ => ?_)
        | with_reducible refine foundO.mk (fun _ _ => ?_) (fun _ => ?_)
        | with_reducible refine appV.zero ?_
        | with_reducible refine appV.own ?_
        | ((with_reducible refine NewB.mk fun nb hnb => ?_); have hnb1 := hnb.1.1; have hnb2 := hnb.1.2; try simp only [keys_cons, keys_app, keys_nil, NotIn_cons, NotIn_app, NotIn_nil, and_true] at hnb2)
        | ((with_reducible refine NewRow.mk fun nb nsp ncap hnb hncap => ?_); have hnb1 := hnb.1.1; have hnb2 := hnb.1.2; try simp only [keys_cons, keys_app, keys_nil, NotIn_cons, NotIn_app, NotIn_nil, and_true] at hnb2)
        | simp (dsimp := false) (implicitDefEqProofs := false) (disch := first | assumption | (simp only [List.mem_cons, List.mem_append, true_or, or_true, eq_self]; done) | omega | (with_reducible refine Row.adr (by assumption) ?_; simp only [List.length_map, List.length_take, List.length_drop]; omega) | (simp only [List.length_cons, List.length_nil, List.length_map, List.length_append, List.length_replicate, Nat.reduceAdd, true_and, and_true, and_self]; first | done | omega)) only [go_sem, ↓reduceIte, Nat.reduceEqDiff, Nat.reduceAdd, Nat.reduceSub, Nat.reduceMul, Nat.reduceBEq, Nat.reduceLT, Nat.reduceLeDiff, Nat.reduceMod, Nat.reducePow, List.reduceReplicate, UInt8.reduceOfNat, Int.reducePow, Int.reduceDiv, Int.reduceMod, Nat.reduceDiv, Int.reduceNeg, Int.reduceAdd, Int.reduceSub, Int.reduceMul, Int.reduceLE, Int.reduceLT, Int.reduceEq, Int.reduceToNat, reduceCtorEq, List.length_map, hget, stepS_wrap hlt]
      exact Upd.now ⟨q - 1, by omega, i + 1, by omega, rfl, rfl, by rw [hst]; rfl⟩
    · obtain rfl : i = b.length := by omega
      rw [List.take_length]
      repeat' first
        | with_reducible refine Br.yes ?_
        | with_reducible refine Br.no ?_
        | with_reducible refine Br.dec (fun _ => ?_) (fun _ => ?_)
        | with_reducible refine Br.beqB (fun _ => ?_) (fun _ => ?_)
        | with_reducible refine Br.beqb (fun _ => ?_) (fun _ => ?_)
        | with_reducible refine Br.mk (fun _ => ?_) (fun _ => ?_)
        | with_reducible refine foundO.mk (fun _ _ => ?_) (fun _ => ?_)
        | with_reducible refine appV.zero ?_
        | with_reducible refine appV.own ?_
        | ((with_reducible refine NewB.mk fun nb hnb => ?_); have hnb1 := hnb.1.1; have hnb2 := hnb.1.2; try simp only [keys_cons, keys_app, keys_nil, NotIn_cons, NotIn_app, NotIn_nil, and_true] at hnb2)
        | ((with_reducible refine NewRow.mk fun nb nsp ncap hnb hncap => ?_); have hnb1 := hnb.1.1; have hnb2 := hnb.1.2; try simp only [keys_cons, keys_app, keys_nil, NotIn_cons, NotIn_app, NotIn_nil, and_true] at hnb2)
        | simp (dsimp := false) (implicitDefEqProofs := false) (disch := first | assumption | (simp only [List.mem_cons, List.mem_append, true_or, or_true, eq_self]; done) | omega | (with_reducible refine Row.adr (by assumption) ?_; simp only [List.length_map, List.length_take, List.length_drop]; omega) | (simp only [List.length_cons, List.length_nil, List.length_map, List.length_append, List.length_replicate, Nat.reduceAdd, true_and, and_true, and_self]; first | done | omega)) only [go_sem, ↓reduceIte, Nat.reduceEqDiff, Nat.reduceAdd, Nat.reduceSub, Nat.reduceMul, Nat.reduceBEq, Nat.reduceLT, Nat.reduceLeDiff, Nat.reduceMod, Nat.reducePow, List.reduceReplicate, UInt8.reduceOfNat, Int.reducePow, Int.reduceDiv, Int.reduceMod, Nat.reduceDiv, Int.reduceNeg, Int.reduceAdd, Int.reduceSub, Int.reduceMul, Int.reduceLE, Int.reduceLT, Int.reduceEq, Int.reduceToNat, reduceCtorEq]
      all_goals refine Upd.finL ?_ hR ?_
      any_goals (intro fsum; first | exact Nat.le_refl _ | (simp only [List.map_append, List.map_cons, List.map_nil, List.sum_append, List.sum_cons, List.sum_nil, List.cons_append, List.nil_append]; omega))
      all_goals rfl
end Go.Proofs.Ytomdbjfdbkejoaa
