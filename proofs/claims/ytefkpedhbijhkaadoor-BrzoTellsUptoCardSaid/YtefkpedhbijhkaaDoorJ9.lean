/- A part of the proof, joined of several texts: the verification layer, contracts of functions, plain law. -/
import Derived.Test.YtefkpedhbijhkaaDoorJ8
set_option linter.unusedSimpArgs false
set_option linter.unusedVariables false
set_option linter.unusedSectionVars false
namespace Go.Proofs.YtefkpedhbijhkaaDoor
open Go Go.V Go.Proofs
theorem and_word32 {w : Nat} (hw : w < 4294967296) : bitsOp .and .u64 (w : Int) 4294967295 = (w : Int) := by
  unfold bitsOp
  have : (BitVec.ofInt IntKind.u64.bits (w : Int) &&& BitVec.ofInt IntKind.u64.bits 4294967295).toNat = w := by
    show (BitVec.ofInt 64 (w : Int) &&& BitVec.ofInt 64 4294967295).toNat = w
    rw [BitVec.toNat_and]
    have h1 : (BitVec.ofInt 64 (w : Int)).toNat = w := by
      rw [BitVec.toNat_ofInt]; omega
    have h2 : (BitVec.ofInt 64 4294967295).toNat = 2 ^ 32 - 1 := by decide
    rw [h1, h2, Nat.and_two_pow_sub_one_eq_mod]
    exact Nat.mod_eq_of_lt hw
  show IntKind.u64.wrap ((BitVec.ofInt IntKind.u64.bits (w : Int) &&& BitVec.ofInt IntKind.u64.bits 4294967295).toNat : Int) = w
  rw [this]
  unfold IntKind.wrap
  have hb : (IntKind.u64.bits) = 64 := rfl
  simp [hb]
  omega
set_option maxRecDepth 8000 in
theorem mul64_t {n : Nat} (hn : n ≤ 65536) {G : PHeap} {H : Heap} {R : Value → PHeap → Heap → Prop} (hR : R (.tuple #[.int .u64 0, .int .u64 (n : Nat)]) G H) : FnT Tryd.prog 93 [.int .u64 1, .int .u64 (n : Nat)] G H R := by
  have b1 : bitsOp .and .u64 1 4294967295 = 1 := by decide
  have b2 : bitsOp .and .u64 (n : Int) 4294967295 = (n : Int) := and_word32 (by omega)
  have b3 : bitsOp .and .u64 0 4294967295 = 0 := by decide
  refine FnT.body tok [0, 1, 4, 5, 6, 7, 8, 9, 10, 11, 12, 13] Tryd.func93 rfl (by kernel_rfl) (by kernel_rfl) (by show _ ≤ 51; simp) fun hsep => ?_
  rw [Tryd.results93]
  have hsE := hsep
  try simp only [zzs] at hsE
  repeat (obtain ⟨hsx, hsE⟩ := hsE)
  have hq : (n : Int) / 4294967296 = 0 := by omega
  have wz : IntKind.u64.wrap 0 = 0 := by decide
  repeat' first
    | (with_reducible first | refine Br.yes ?_ | refine Br.no ?_ | refine Br.dec (fun _ => ?_) (fun _ => ?_) | refine Br.mk (fun _ => ?_) (fun _ => ?_))
    | ((with_reducible first | refine NewB.mk (fun nb hnb => ?_)); have hnb1 := hnb.1.1; have hnb2 := hnb.1.2; try simp only [zzn] at hnb2)
    | simp (dsimp := false) (implicitDefEqProofs := false) (disch := first | assumption | (simp only [zzm]; done) | omega | (with_reducible refine Row.adr (by assumption) ?_; simp only [zzk]; omega) | (simp only [zzl, Nat.reduceAdd]; first | done | omega)) only [go_sem, ↓reduceIte, Nat.reduceEqDiff, Nat.reduceAdd, Nat.reduceSub, Nat.reduceMul, Nat.reduceBEq, Nat.reduceLT, Nat.reduceLeDiff, Nat.reduceMod, Nat.reducePow, List.reduceReplicate, UInt8.reduceOfNat, Int.reducePow, Int.reduceDiv, Int.reduceMod, Nat.reduceDiv, Int.reduceNeg, Int.reduceAdd, Int.reduceSub, Int.reduceMul, Int.reduceLE, Int.reduceLT, Int.reduceEq, Int.reduceToNat, reduceCtorEq, b1, b2, b3, Int.zero_mul, Int.one_mul, Int.mul_zero, Int.add_zero, Int.zero_add, hq, wz]
  all_goals refine Upd.finL ?_ hR ?_
  any_goals (intro fsum; first | exact Nat.le_refl _ | (simp only [zzq]; omega))
  all_goals rfl
theorem mul_t {n : Nat} (hn : n ≤ 65536) {G : PHeap} {H : Heap} {R : Value → PHeap → Heap → Prop} (hR : R (.tuple #[.int .u64 0, .int .u64 (n : Nat)]) G H) : FnT Tryd.prog 78 [.int .u64 1, .int .u64 (n : Nat)] G H R := by
  refine FnT.body tok [0, 1, 4, 5, 6, 7, 8, 9] Tryd.func78 rfl (by kernel_rfl) (by kernel_rfl) (by show _ ≤ 30; simp) fun hsep => ?_
  rw [Tryd.results78]
  have hsE := hsep
  try simp only [zzs] at hsE
  repeat (obtain ⟨hsx, hsE⟩ := hsE)
  repeat' first
    | (with_reducible first | refine Br.yes ?_ | refine Br.no ?_ | refine Br.dec (fun _ => ?_) (fun _ => ?_) | refine Br.mk (fun _ => ?_) (fun _ => ?_))
    | ((with_reducible first | refine NewB.mk (fun nb hnb => ?_) | refine NewRow.mk (fun nb nsp ncap hnb hncap => ?_)); have hnb1 := hnb.1.1; have hnb2 := hnb.1.2; try simp only [zzn] at hnb2)
    | simp (dsimp := false) (implicitDefEqProofs := false) (disch := first | assumption | (simp only [zzm]; done) | omega | (with_reducible refine Row.adr (by assumption) ?_; simp only [zzk]; omega) | (simp only [zzl, Nat.reduceAdd]; first | done | omega)) only [go_sem, ↓reduceIte, Nat.reduceEqDiff, Nat.reduceAdd, Nat.reduceSub, Nat.reduceMul, Nat.reduceBEq, Nat.reduceLT, Nat.reduceLeDiff, Nat.reduceMod, Nat.reducePow, List.reduceReplicate, UInt8.reduceOfNat, Int.reducePow, Int.reduceDiv, Int.reduceMod, Nat.reduceDiv, Int.reduceNeg, Int.reduceAdd, Int.reduceSub, Int.reduceMul, Int.reduceLE, Int.reduceLT, Int.reduceEq, Int.reduceToNat, reduceCtorEq]
    | with_reducible refine mul64_t hn ?_
  all_goals refine Upd.finL ?_ hR ?_
  any_goals (intro fsum; first | exact Nat.le_refl _ | (simp only [zzq]; omega))
  all_goals rfl
/-- so many times a number, and then naught -/
def repQ (n k : Nat) (x : Int) : List Value := List.replicate k (.int .i64 x) ++ List.replicate (n - k) (.int .i64 0)
theorem repQ_len {n k : Nat} (h : k ≤ n) (x : Int) : (repQ n k x).length = n := by simp [repQ]; omega
theorem repQ_zero (n : Nat) (x : Int) : List.replicate n (Value.int .i64 0) = repQ n 0 x := by simp [repQ]
theorem repQ_all (n : Nat) (x : Int) : repQ n n x = List.replicate n (.int .i64 x) := by simp [repQ]
theorem repQ_first {n : Nat} (h : 1 ≤ n) (x : Int) : splice (repQ n 0 x) 0 [.int .i64 x] = repQ n 1 x := by
  obtain ⟨m, rfl⟩ := Nat.exists_eq_add_of_le h
  unfold splice repQ
  rw [show 1 + m - 0 = m + 1 by omega, List.replicate_succ, show 1 + m - 1 = m by omega]
  simp
theorem repQ_more {n k m : Nat} (hk : k ≤ n) (hm : m ≤ k) (hmn : m ≤ n - k) (x : Int) : splice (repQ n k x) k ((repQ n k x).take m) = repQ n (k + m) x := by
  have h1 : (repQ n k x).take m = List.replicate m (.int .i64 x) := by
    unfold repQ
    rw [List.take_append_of_le_length (by simp; exact hm), List.take_replicate, Nat.min_eq_left hm]
  rw [h1]
  unfold splice repQ
  have e1 : (List.replicate k (Value.int .i64 x) ++ List.replicate (n - k) (Value.int .i64 0)).take k = List.replicate k (.int .i64 x) := by
    rw [List.take_append_of_le_length (by simp), List.take_of_length_le (by simp)]
  have e2 : (List.replicate k (Value.int .i64 x) ++ List.replicate (n - k) (Value.int .i64 0)).drop (k + (List.replicate m (Value.int .i64 x)).length) = List.replicate (n - (k + m)) (.int .i64 0) := by
    rw [List.length_replicate, List.drop_append, List.length_replicate, List.drop_of_length_le (by simp), List.nil_append, List.drop_replicate]
    congr 1; omega
  rw [e1, e2, List.replicate_append_replicate]
set_option maxRecDepth 4000 in
set_option maxHeartbeats 8000000 in
theorem repeat_t {x : Int} {n : Nat} (h1 : 1 ≤ n) (hn : n ≤ 65536) {G : PHeap} {H : Heap} {R : Value → PHeap → Heap → Prop} {v : Value} (hv : Sl G (Value.int .i64) v [x])
    (hR : ∀ b, Sep G (b :: keys H) → R (.slice (some ⟨b, 0, none⟩) n n) G ((b, .cells (List.replicate n (.int .i64 x)) [] 3) :: H)) : FnT Tryd.prog 68 [v, .int .i64 (n : Nat)] G H R := by
  obtain ⟨a, cap, rfl, hrow, hcap⟩ := hv
  have hw : IntKind.u64.wrap (n : Int) = n := by
    unfold IntKind.wrap
    have hb : (IntKind.u64.bits) = 64 := rfl
    simp [hb]
    omega
  refine FnT.body tok [0, 1, 4, 5, 6, 7, 8, 10, 26, 37] Tryd.func68 rfl (by kernel_rfl) (by kernel_rfl) (by show _ ≤ 48; simp) fun hsep => ?_
  rw [Tryd.results68]
  have hsE := hsep
  try simp only [zzs] at hsE
  repeat (obtain ⟨hsx, hsE⟩ := hsE)
  repeat' first
    | (with_reducible first | refine Br.yes ?_ | refine Br.no ?_ | refine Br.dec (fun _ => ?_) (fun _ => ?_) | refine Br.mk (fun _ => ?_) (fun _ => ?_))
    | ((with_reducible first | refine NewB.mk (fun nb hnb => ?_) | refine NewRow.mk (fun nb nsp ncap hnb hncap => ?_)); have hnb1 := hnb.1.1; have hnb2 := hnb.1.2; try simp only [zzn] at hnb2)
    | simp (dsimp := false) (implicitDefEqProofs := false) (disch := first | assumption | (simp only [zzm]; done) | omega | (with_reducible refine Row.adr (by assumption) ?_; simp only [zzk]; omega) | (simp only [zzl, Nat.reduceAdd]; first | done | omega)) only [go_sem, ↓reduceIte, Nat.reduceEqDiff, Nat.reduceAdd, Nat.reduceSub, Nat.reduceMul, Nat.reduceBEq, Nat.reduceLT, Nat.reduceLeDiff, Nat.reduceMod, Nat.reducePow, List.reduceReplicate, UInt8.reduceOfNat, Int.reducePow, Int.reduceDiv, Int.reduceMod, Nat.reduceDiv, Int.reduceNeg, Int.reduceAdd, Int.reduceSub, Int.reduceMul, Int.reduceLE, Int.reduceLT, Int.reduceEq, Int.reduceToNat, reduceCtorEq, hw]
  all_goals try (exfalso; omega)
  refine mul_t hn ?_
  repeat' first
    | (with_reducible first | refine Br.yes ?_ | refine Br.no ?_ | refine Br.dec (fun _ => ?_) (fun _ => ?_) | refine Br.mk (fun _ => ?_) (fun _ => ?_))
    | ((with_reducible first | refine NewB.mk (fun nb hnb => ?_) | refine NewRow.mk (fun nb nsp ncap hnb hncap => ?_)); have hnb1 := hnb.1.1; have hnb2 := hnb.1.2; try simp only [zzn] at hnb2)
    | simp (dsimp := false) (implicitDefEqProofs := false) (disch := first | assumption | (simp only [zzm]; done) | omega | (with_reducible refine Row.adr (by assumption) ?_; simp only [zzk]; omega) | (simp only [zzl, Nat.reduceAdd]; first | done | omega)) only [go_sem, ↓reduceIte, Nat.reduceEqDiff, Nat.reduceAdd, Nat.reduceSub, Nat.reduceMul, Nat.reduceBEq, Nat.reduceLT, Nat.reduceLeDiff, Nat.reduceMod, Nat.reducePow, List.reduceReplicate, UInt8.reduceOfNat, Int.reducePow, Int.reduceDiv, Int.reduceMod, Nat.reduceDiv, Int.reduceNeg, Int.reduceAdd, Int.reduceSub, Int.reduceMul, Int.reduceLE, Int.reduceLT, Int.reduceEq, Int.reduceToNat, reduceCtorEq, hw, Nat.sub_self, List.replicate_zero, Row.rdSlAll hrow]
  rw [repQ_zero n x, repQ_first h1, show min 1 n = 1 by omega]
  refine Tri.loopU tok [0, 1, 4, 5, 6, 7, 8, 10, 26, 37] (by kernel_rfl) [4, 7, 8] (fun q G' fr H' => ∃ k : Nat, k + q = n + 1 ∧ 1 ≤ k ∧ k ≤ n ∧ G' = G ∧ H' = (nb, .cells (repQ n k x) [] 3) :: H ∧ fr = [(4, .slice none 0 0), (7, .slice (some ⟨nb, 0, none⟩) n n), (8, .int .i64 (k : Nat))]) (n) ?_ ?_
  · exact Upd.now ⟨1, by omega, Nat.le_refl 1, h1, rfl, rfl, rfl⟩
  · rintro q G1 fr H' hle hs1 ⟨k, hkq, hk1, hkn, rfl, rfl, rfl⟩
    have hsE := hs1
    try simp only [zzs] at hsE
    repeat (obtain ⟨hsx, hsE⟩ := hsE)
    have hql := repQ_len (n := n) (k := k) (by omega) x
    by_cases hk : k < n
    · have hsa : subAddr nb 0 k n k = ⟨nb, k, none⟩ := by unfold subAddr; rw [if_neg (by omega), Nat.zero_add]
      have hmore := repQ_more (n := n) (k := k) (m := min k (n - k)) (by omega) (by omega) (by omega) x
      have htl : (List.take (min k (n - k)) (repQ n k x)).length = min k (n - k) := by rw [List.length_take, hql]; omega
      have hone : (List.take (min k (n - k)) (repQ n k x)).all oneV = true := by
        rw [List.all_eq_true]
        intro y hy
        have := List.mem_of_mem_take hy
        unfold repQ at this
        rw [List.mem_append, List.mem_replicate, List.mem_replicate] at this
        rcases this with ⟨_, rfl⟩ | ⟨_, rfl⟩ <;> rfl
      repeat' first
        | (with_reducible first | refine Br.yes ?_ | refine Br.no ?_ | refine Br.dec (fun _ => ?_) (fun _ => ?_) | refine Br.mk (fun _ => ?_) (fun _ => ?_))
        | ((with_reducible first | refine NewB.mk (fun nb hnb => ?_) | refine NewRow.mk (fun nb nsp ncap hnb hncap => ?_)); have hnb1 := hnb.1.1; have hnb2 := hnb.1.2; try simp only [zzn] at hnb2)
        | with_reducible refine Tri.drawM tok mixed [0, 1, 4, 5, 6, 7, 8, 10, 26, 37] 9 [] (.op 0 .plain (.op 1 .plain (.op 2 .plain (.op 3 .plain (.op 4 .plain (.op 5 .plain (.op 6 .plain (.op 7 .keeps (.op 8 .plain (.op 9 .plain .nil)))))))))) (by kernel_rfl) [] (List.nil_sublist _) ?_
        | simp (dsimp := false) (implicitDefEqProofs := false) (disch := first | assumption | (simp only [zzm]; done) | omega | (with_reducible refine Row.adr (by assumption) ?_; simp only [zzk]; omega) | (simp only [zzl, Nat.reduceAdd]; first | done | omega)) only [go_sem, ↓reduceIte, Nat.reduceEqDiff, Nat.reduceAdd, Nat.reduceSub, Nat.reduceMul, Nat.reduceBEq, Nat.reduceLT, Nat.reduceLeDiff, Nat.reduceMod, Nat.reducePow, List.reduceReplicate, UInt8.reduceOfNat, Int.reducePow, Int.reduceDiv, Int.reduceMod, Nat.reduceDiv, Int.reduceNeg, Int.reduceAdd, Int.reduceSub, Int.reduceMul, Int.reduceLE, Int.reduceLT, Int.reduceEq, Int.reduceToNat, reduceCtorEq, hsa, Nat.sub_zero, htl, hone, hmore]
      exact Upd.now ⟨q - min k (n - k), by omega, k + min k (n - k), by omega, by omega, by omega, rfl, rfl, rfl⟩
    · obtain rfl : k = n := by omega
      repeat' first
        | (with_reducible first | refine Br.yes ?_ | refine Br.no ?_ | refine Br.dec (fun _ => ?_) (fun _ => ?_) | refine Br.mk (fun _ => ?_) (fun _ => ?_))
        | ((with_reducible first | refine NewB.mk (fun nb hnb => ?_) | refine NewRow.mk (fun nb nsp ncap hnb hncap => ?_)); have hnb1 := hnb.1.1; have hnb2 := hnb.1.2; try simp only [zzn] at hnb2)
        | simp (dsimp := false) (implicitDefEqProofs := false) (disch := first | assumption | (simp only [zzm]; done) | omega | (with_reducible refine Row.adr (by assumption) ?_; simp only [zzk]; omega) | (simp only [zzl, Nat.reduceAdd]; first | done | omega)) only [go_sem, ↓reduceIte, Nat.reduceEqDiff, Nat.reduceAdd, Nat.reduceSub, Nat.reduceMul, Nat.reduceBEq, Nat.reduceLT, Nat.reduceLeDiff, Nat.reduceMod, Nat.reducePow, List.reduceReplicate, UInt8.reduceOfNat, Int.reducePow, Int.reduceDiv, Int.reduceMod, Nat.reduceDiv, Int.reduceNeg, Int.reduceAdd, Int.reduceSub, Int.reduceMul, Int.reduceLE, Int.reduceLT, Int.reduceEq, Int.reduceToNat, reduceCtorEq]
      rw [repQ_all]
      unfold UpdR
      exact Upd.now (hR nb hs1)
/-- where numbers stand in a list -/
def atR (n : Nat) (l : List Int) : List Value := (List.range n).map fun t : Nat => .int .i64 (findF l (t : Int))
theorem atR_len (n : Nat) (l : List Int) : (atR n l).length = n := by simp [atR]
theorem atR_get {n : Nat} (l : List Int) {t : Nat} (h : t < n) : (atR n l)[t]? = some (.int .i64 (findF l (t : Int))) := by
  unfold atR; rw [List.getElem?_map, List.getElem?_range h]; rfl
theorem atR_get' {n : Nat} (l : List Int) {t : Nat} (h : t < n) : (atR n l)[t]'(by rw [atR_len]; exact h) = .int .i64 (findF l (t : Int)) := by simp [atR]
theorem findF_nil (x : Int) : findF [] x = -1 := rfl
theorem atR_nil (n : Nat) : List.replicate n (Value.int .i64 (-1)) = atR n [] := by
  apply List.ext_getElem
  · simp [atR]
  · intro i h1 h2; simp [atR, findF_nil]
theorem findF_snoc {l : List Int} {s t : Int} (h : s ∉ l) : findF (l ++ [s]) t = if t = s then (l.length : Int) else findF l t := by
  by_cases e : t = s
  · subst e
    rw [if_pos rfl]
    unfold findF
    rw [place_end h]
  · rw [if_neg e]
    by_cases ht : t ∈ l
    · unfold findF; rw [place_app ht]
    · have h2 : t ∉ l ++ [s] := by
        rw [List.mem_append, List.mem_singleton]
        rintro (h3 | h3)
        · exact ht h3
        · exact e h3
      unfold findF; rw [place_no ht, place_no h2]
theorem atR_put {n : Nat} {l : List Int} {s : Nat} (hs : s < n) (h : (s : Int) ∉ l) : splice (atR n l) s [.int .i64 (l.length : Nat)] = atR n (l ++ [(s : Int)]) := by
  unfold splice
  apply List.ext_getElem
  · simp [atR_len]; omega
  · intro j h1 h2
    rw [atR_len] at h2
    rw [atR_get' _ h2, findF_snoc h]
    have hl : ((atR n l).take s).length = s := by rw [List.length_take, atR_len]; omega
    rcases Nat.lt_trichotomy j s with hj | hj | hj
    · rw [List.getElem_append_left (by rw [List.length_append, hl]; omega), List.getElem_append_left (by omega), List.getElem_take, atR_get' l h2, if_neg (by omega)]
    · subst hj
      rw [List.getElem_append_left (by rw [List.length_append, hl]; simp), List.getElem_append_right (by omega)]
      simp [hl]
    · rw [List.getElem_append_right (by rw [List.length_append, hl]; simp; omega), List.getElem_drop, if_neg (by omega)]
      simp only [List.length_append, hl, List.length_singleton]
      have : (atR n l)[s + 1 + (j - (s + 1))]'(by rw [atR_len]; omega) = (atR n l)[j]'(by rw [atR_len]; exact h2) := by congr 1; omega
      rw [this, atR_get' l h2]
theorem findF_memW {l : List Int} {t : Int} : 0 ≤ findF l t ↔ t ∈ l := by
  constructor
  · intro h
    exact Classical.byContradiction fun hn => by
      unfold findF at h
      rw [place_no hn] at h
      simp at h
  · intro h
    obtain ⟨n, hn⟩ := place_mem h
    unfold findF; rw [hn]; exact Int.natCast_nonneg n
theorem calleeRepeat : V.Callee Tryd.prog 68 := ⟨_, _, Tryd.func68, rfl, by kernel_rfl⟩
set_option maxHeartbeats 8000000 in
theorem places_t {n : Nat} (h1 : 1 ≤ n) (hn : n ≤ 65536) {l : List Int} (hl : l.length ≤ 2000000) {G : PHeap} {H : Heap} {R : Value → PHeap → Heap → Prop} {v : Value} (hv : Sl G (Value.int .i64) v l)
    (hR : ∀ G' b, PLe G G' → Sep G' (b :: keys H) → OnceN n l → R (.tuple #[.slice (some ⟨b, 0, none⟩) n n, .bool (decide (l.head? = some 0))]) G' ((b, .cells (atR n l) [] 3) :: H))
    (hR2 : ∀ G', PLe G G' → Sep G' (keys H) → ¬ OnceN n l → R (.tuple #[.slice none 0 0, .bool false]) G' H) : FnT Tryd.prog 54 [.int .i64 (n : Nat), v] G H R := by
  obtain ⟨a, cap, rfl, hrow, hcap⟩ := hv
  refine FnT.body tok [0, 1, 4, 5, 6, 7, 8, 12, 13, 14, 15, 32] Tryd.func54 rfl (by kernel_rfl) (by kernel_rfl) (by show _ ≤ 48; simp) fun hsep => ?_
  rw [Tryd.results54]
  have hsE := hsep
  try simp only [zzs] at hsE
  repeat (obtain ⟨hsx, hsE⟩ := hsE)
  repeat' first
    | (with_reducible first | refine Br.yes ?_ | refine Br.no ?_ | refine Br.dec (fun _ => ?_) (fun _ => ?_) | refine Br.beqB (fun _ => ?_) (fun _ => ?_) | refine Br.beqb (fun _ => ?_) (fun _ => ?_) | refine Br.mk (fun _ => ?_) (fun _ => ?_))
    | ((with_reducible first | refine NewB.mk (fun nb hnb => ?_) | refine NewRow.mk (fun nb nsp ncap hnb hncap => ?_)); have hnb1 := hnb.1.1; have hnb2 := hnb.1.2; try simp only [zzn] at hnb2)
    | simp (dsimp := false) (implicitDefEqProofs := false) (disch := first | assumption | (simp only [zzm]; done) | omega | (with_reducible refine Row.adr (by assumption) ?_; simp only [zzk]; omega) | (simp only [zzl, Nat.reduceAdd]; first | done | omega)) only [go_sem, ↓reduceIte, Nat.reduceEqDiff, Nat.reduceAdd, Nat.reduceSub, Nat.reduceMul, Nat.reduceBEq, Nat.reduceLT, Nat.reduceLeDiff, Nat.reduceMod, Nat.reducePow, List.reduceReplicate, UInt8.reduceOfNat, Int.reducePow, Int.reduceDiv, Int.reduceMod, Nat.reduceDiv, Int.reduceNeg, Int.reduceAdd, Int.reduceSub, Int.reduceMul, Int.reduceLE, Int.reduceLT, Int.reduceEq, Int.reduceToNat, reduceCtorEq, List.replicate_one]
  refine FnT.pre calleeRepeat (Upd.shareRow (by assumption) fun G2 hle2 hs2 hr2 => ?_)
  refine repeat_t (x := -1) h1 hn ⟨some ⟨nb, 0, none⟩, 1, rfl, hr2, Nat.le_refl 1⟩ fun b hb => ?_
  rw [atR_nil]
  have hsE := hb
  try simp only [zzs] at hsE
  repeat (obtain ⟨hsx, hsE⟩ := hsE)
  have hrow2 := hrow.mono hle2
  repeat' first
    | (with_reducible first | refine Br.yes ?_ | refine Br.no ?_ | refine Br.dec (fun _ => ?_) (fun _ => ?_) | refine Br.beqB (fun _ => ?_) (fun _ => ?_) | refine Br.beqb (fun _ => ?_) (fun _ => ?_) | refine Br.mk (fun _ => ?_) (fun _ => ?_))
    | ((with_reducible first | refine NewB.mk (fun nb hnb => ?_) | refine NewRow.mk (fun nb nsp ncap hnb hncap => ?_)); have hnb1 := hnb.1.1; have hnb2 := hnb.1.2; try simp only [zzn] at hnb2)
    | simp (dsimp := false) (implicitDefEqProofs := false) (disch := first | assumption | (simp only [zzm]; done) | omega | (with_reducible refine Row.adr (by assumption) ?_; simp only [zzk]; omega) | (simp only [zzl, Nat.reduceAdd]; first | done | omega)) only [go_sem, ↓reduceIte, Nat.reduceEqDiff, Nat.reduceAdd, Nat.reduceSub, Nat.reduceMul, Nat.reduceBEq, Nat.reduceLT, Nat.reduceLeDiff, Nat.reduceMod, Nat.reducePow, List.reduceReplicate, UInt8.reduceOfNat, Int.reducePow, Int.reduceDiv, Int.reduceMod, Nat.reduceDiv, Int.reduceNeg, Int.reduceAdd, Int.reduceSub, Int.reduceMul, Int.reduceLE, Int.reduceLT, Int.reduceEq, Int.reduceToNat, reduceCtorEq]
  refine Tri.loopU tok [0, 1, 4, 5, 6, 7, 8, 12, 13, 14, 15, 32] (by kernel_rfl) [0, 1, 4, 5, 6, 12, 13, 14] (fun q G' fr H' => ∃ i : Nat, i + q = l.length ∧ OnceN n (l.take i) ∧ G' = G2 ∧ H' = (b, .cells (atR n (l.take i)) [] 3) :: H ∧ fr = [(0, .int .i64 (n : Nat)), (1, .slice a l.length cap), (4, .slice none 0 0), (5, .bool false), (6, .slice (some ⟨b, 0, none⟩) n n), (12, .slice a l.length cap), (13, .int .i64 l.length), (14, .int .i64 (i : Nat))]) (l.length) ?_ ?_
  · refine Upd.now ?_
    exact ⟨0, by omega, ⟨by rw [List.take_zero]; exact List.nodup_nil, fun x hx => by rw [List.take_zero] at hx; cases hx⟩, rfl, by rw [List.take_zero], rfl⟩
  · rintro q G1 fr H' hle hs1 ⟨i, hiq, hO, rfl, rfl, rfl⟩
    have hsE := hs1
    try simp only [zzs] at hsE
    repeat (obtain ⟨hsx, hsE⟩ := hsE)
    by_cases hil : i < l.length
    · have had : Adr a := hrow.adr (by rw [List.length_map]; omega)
      have htk := List.take_succ_eq_append_getElem hil
      have htl : (l.take i).length = i := by rw [List.length_take]; omega
      by_cases hbad : l[i] < 0 ∨ (n : Int) ≤ l[i] ∨ l[i] ∈ l.take i
      · have hno : ¬ OnceN n l := fun h => by
          rcases hbad with hb1 | hb1 | hb1
          · have := (h.2 _ (List.getElem_mem hil)).1; omega
          · have := (h.2 _ (List.getElem_mem hil)).2; omega
          · have h2 := h.1.sublist (List.take_sublist (i + 1) l)
            rw [htk, List.nodup_append] at h2
            exact h2.2.2 _ hb1 _ (List.mem_singleton.2 rfl) rfl
        by_cases hr : 0 ≤ l[i] ∧ l[i] < n
        · obtain ⟨s, hs⟩ := Int.eq_ofNat_of_zero_le hr.1
          have hsn : s < n := by omega
          have hmem : l[i] ∈ l.take i := by rcases hbad with hb1 | hb1 | hb1 <;> first | omega | exact hb1
          rw [hs] at hmem
          have hg := atR_get (l.take i) hsn
          have hf := findF_memW.2 hmem
          generalize hfv : findF (l.take i) (s : Int) = fv at *
          repeat' first
            | (with_reducible first | refine Br.yes ?_ | refine Br.no ?_ | refine Br.dec (fun _ => ?_) (fun _ => ?_) | refine Br.beqB (fun _ => ?_) (fun _ => ?_) | refine Br.beqb (fun _ => ?_) (fun _ => ?_) | refine Br.mk (fun _ => ?_) (fun _ => ?_))
            | ((with_reducible first | refine NewB.mk (fun nb hnb => ?_) | refine NewRow.mk (fun nb nsp ncap hnb hncap => ?_)); have hnb1 := hnb.1.1; have hnb2 := hnb.1.2; try simp only [zzn] at hnb2)
            | simp (dsimp := false) (implicitDefEqProofs := false) (disch := first | assumption | (simp only [zzm]; done) | omega | (with_reducible refine Row.adr (by assumption) ?_; simp only [zzk]; omega) | (simp only [zzl, Nat.reduceAdd]; first | done | omega)) only [go_sem, ↓reduceIte, Nat.reduceEqDiff, Nat.reduceAdd, Nat.reduceSub, Nat.reduceMul, Nat.reduceBEq, Nat.reduceLT, Nat.reduceLeDiff, Nat.reduceMod, Nat.reducePow, List.reduceReplicate, UInt8.reduceOfNat, Int.reducePow, Int.reduceDiv, Int.reduceMod, Nat.reduceDiv, Int.reduceNeg, Int.reduceAdd, Int.reduceSub, Int.reduceMul, Int.reduceLE, Int.reduceLT, Int.reduceEq, Int.reduceToNat, reduceCtorEq, Row.obj hrow2, List.getElem_map, hs, hg]
          all_goals try (exfalso; omega)
          unfold UpdR
          exact Upd.go (H' := H) (by intro fsum; first | exact Nat.le_refl _ | (simp only [zzq]; omega)) (Upd.now (hR2 G1 hle2 (by assumption) hno))
        · repeat' first
            | (with_reducible first | refine Br.yes ?_ | refine Br.no ?_ | refine Br.dec (fun _ => ?_) (fun _ => ?_) | refine Br.beqB (fun _ => ?_) (fun _ => ?_) | refine Br.beqb (fun _ => ?_) (fun _ => ?_) | refine Br.mk (fun _ => ?_) (fun _ => ?_))
            | ((with_reducible first | refine NewB.mk (fun nb hnb => ?_) | refine NewRow.mk (fun nb nsp ncap hnb hncap => ?_)); have hnb1 := hnb.1.1; have hnb2 := hnb.1.2; try simp only [zzn] at hnb2)
            | simp (dsimp := false) (implicitDefEqProofs := false) (disch := first | assumption | (simp only [zzm]; done) | omega | (with_reducible refine Row.adr (by assumption) ?_; simp only [zzk]; omega) | (simp only [zzl, Nat.reduceAdd]; first | done | omega)) only [go_sem, ↓reduceIte, Nat.reduceEqDiff, Nat.reduceAdd, Nat.reduceSub, Nat.reduceMul, Nat.reduceBEq, Nat.reduceLT, Nat.reduceLeDiff, Nat.reduceMod, Nat.reducePow, List.reduceReplicate, UInt8.reduceOfNat, Int.reducePow, Int.reduceDiv, Int.reduceMod, Nat.reduceDiv, Int.reduceNeg, Int.reduceAdd, Int.reduceSub, Int.reduceMul, Int.reduceLE, Int.reduceLT, Int.reduceEq, Int.reduceToNat, reduceCtorEq, Row.obj hrow2, List.getElem_map]
          all_goals try (exfalso; omega)
          all_goals unfold UpdR
          all_goals exact Upd.go (H' := H) (by intro fsum; first | exact Nat.le_refl _ | (simp only [zzq]; omega)) (Upd.now (hR2 G1 hle2 (by assumption) hno))
      · have hb1 : 0 ≤ l[i] ∧ l[i] < n := by omega
        have hb2 : l[i] ∉ l.take i := fun h => hbad (.inr (.inr h))
        obtain ⟨s, hs⟩ := Int.eq_ofNat_of_zero_le hb1.1
        have hsn : s < n := by omega
        have hO2 : OnceN n (l.take (i + 1)) := by
          have h3 := hO.add1 hb1
          unfold add1 at h3
          rw [if_neg hb2, ← htk] at h3
          exact h3
        rw [hs] at hb2
        have hg := atR_get (l.take i) hsn
        have hf : findF (l.take i) (s : Int) < 0 := by
          rcases Int.lt_or_le (findF (l.take i) (s : Int)) 0 with h | h
          · exact h
          · exact absurd (findF_memW.1 h) hb2
        have hput := atR_put hsn hb2
        rw [htl, ← hs, ← htk] at hput
        have hal := atR_len n (l.take i)
        generalize hfv : findF (l.take i) (s : Int) = fv at *
        repeat' first
          | (with_reducible first | refine Br.yes ?_ | refine Br.no ?_ | refine Br.dec (fun _ => ?_) (fun _ => ?_) | refine Br.beqB (fun _ => ?_) (fun _ => ?_) | refine Br.beqb (fun _ => ?_) (fun _ => ?_) | refine Br.mk (fun _ => ?_) (fun _ => ?_))
          | ((with_reducible first | refine NewB.mk (fun nb hnb => ?_) | refine NewRow.mk (fun nb nsp ncap hnb hncap => ?_)); have hnb1 := hnb.1.1; have hnb2 := hnb.1.2; try simp only [zzn] at hnb2)
          | simp (dsimp := false) (implicitDefEqProofs := false) (disch := first | assumption | (simp only [zzm]; done) | omega | (with_reducible refine Row.adr (by assumption) ?_; simp only [zzk]; omega) | (simp only [zzl, Nat.reduceAdd]; first | done | omega)) only [go_sem, ↓reduceIte, Nat.reduceEqDiff, Nat.reduceAdd, Nat.reduceSub, Nat.reduceMul, Nat.reduceBEq, Nat.reduceLT, Nat.reduceLeDiff, Nat.reduceMod, Nat.reducePow, List.reduceReplicate, UInt8.reduceOfNat, Int.reducePow, Int.reduceDiv, Int.reduceMod, Nat.reduceDiv, Int.reduceNeg, Int.reduceAdd, Int.reduceSub, Int.reduceMul, Int.reduceLE, Int.reduceLT, Int.reduceEq, Int.reduceToNat, reduceCtorEq, Row.obj hrow2, List.getElem_map, hs, hg, hput]
        all_goals try (exfalso; omega)
        exact Upd.now ⟨q - 1, by omega, i + 1, by omega, hO2, rfl, rfl, rfl⟩
    · obtain rfl : i = l.length := by omega
      rw [List.take_length] at hO hs1 ⊢
      by_cases hl0 : l.length = 0
      · have hl1 : l = [] := List.eq_nil_of_length_eq_zero hl0
        have hh : decide (l.head? = some 0) = false := by rw [hl1]; rfl
        rw [hh] at hR
        repeat' first
          | (with_reducible first | refine Br.yes ?_ | refine Br.no ?_ | refine Br.dec (fun _ => ?_) (fun _ => ?_) | refine Br.beqB (fun _ => ?_) (fun _ => ?_) | refine Br.beqb (fun _ => ?_) (fun _ => ?_) | refine Br.mk (fun _ => ?_) (fun _ => ?_))
          | ((with_reducible first | refine NewB.mk (fun nb hnb => ?_) | refine NewRow.mk (fun nb nsp ncap hnb hncap => ?_)); have hnb1 := hnb.1.1; have hnb2 := hnb.1.2; try simp only [zzn] at hnb2)
          | with_reducible refine Tri.drawH tok mixed [0, 1, 4, 5, 6, 7, 8, 12, 13, 14, 15, 32] 9 [7] (.op 0 .plain (.op 1 .plain (.op 2 .plain (.op 3 .plain (.op 4 .plain (.op 5 .plain (.op 6 .plain (.op 7 .held (.op 8 .plain (.op 9 .plain (.op 10 .plain (.op 11 .plain .nil)))))))))))) (by kernel_rfl) [1] ?_
          | simp (dsimp := false) (implicitDefEqProofs := false) (disch := first | assumption | (simp only [zzm]; done) | omega | (with_reducible refine Row.adr (by assumption) ?_; simp only [zzk]; omega) | (simp only [zzl, Nat.reduceAdd]; first | done | omega)) only [go_sem, ↓reduceIte, Nat.reduceEqDiff, Nat.reduceAdd, Nat.reduceSub, Nat.reduceMul, Nat.reduceBEq, Nat.reduceLT, Nat.reduceLeDiff, Nat.reduceMod, Nat.reducePow, List.reduceReplicate, UInt8.reduceOfNat, Int.reducePow, Int.reduceDiv, Int.reduceMod, Nat.reduceDiv, Int.reduceNeg, Int.reduceAdd, Int.reduceSub, Int.reduceMul, Int.reduceLE, Int.reduceLT, Int.reduceEq, Int.reduceToNat, reduceCtorEq]
        all_goals try (exfalso; omega)
        unfold UpdR
        exact Upd.now (hR G1 b hle2 hs1 hO)
      · have h0l : 0 < l.length := by omega
        have had : Adr a := hrow.adr (by rw [List.length_map]; omega)
        have hhd : l.head? = some l[0] := by rw [List.head?_eq_getElem?, List.getElem?_eq_getElem h0l]
        have hh : decide (l.head? = some 0) = decide (l[0] = 0) := by rw [hhd]; simp
        rw [hh] at hR
        have hob : ∀ (H : Heap) (k : Value → Prop), objK G1 H (blk a) (G1 (blk a)) (ofs a) k = k (.int .i64 l[0]) := fun H k => by
          have := Row.obj hrow2 (i := 0) (by rw [List.length_map]; omega) H k
          rw [Nat.add_zero, List.getElem_map] at this
          exact this
        repeat' first
          | (with_reducible first | refine Br.yes ?_ | refine Br.no ?_ | refine Br.dec (fun _ => ?_) (fun _ => ?_) | refine Br.beqB (fun _ => ?_) (fun _ => ?_) | refine Br.beqb (fun _ => ?_) (fun _ => ?_) | refine Br.mk (fun _ => ?_) (fun _ => ?_))
          | ((with_reducible first | refine NewB.mk (fun nb hnb => ?_) | refine NewRow.mk (fun nb nsp ncap hnb hncap => ?_)); have hnb1 := hnb.1.1; have hnb2 := hnb.1.2; try simp only [zzn] at hnb2)
          | with_reducible refine Tri.drawH tok mixed [0, 1, 4, 5, 6, 7, 8, 12, 13, 14, 15, 32] 9 [7] (.op 0 .plain (.op 1 .plain (.op 2 .plain (.op 3 .plain (.op 4 .plain (.op 5 .plain (.op 6 .plain (.op 7 .held (.op 8 .plain (.op 9 .plain (.op 10 .plain (.op 11 .plain .nil)))))))))))) (by kernel_rfl) [1] ?_
          | simp (dsimp := false) (implicitDefEqProofs := false) (disch := first | assumption | (simp only [zzm]; done) | omega | (with_reducible refine Row.adr (by assumption) ?_; simp only [zzk]; omega) | (simp only [zzl, Nat.reduceAdd]; first | done | omega)) only [go_sem, ↓reduceIte, Nat.reduceEqDiff, Nat.reduceAdd, Nat.reduceSub, Nat.reduceMul, Nat.reduceBEq, Nat.reduceLT, Nat.reduceLeDiff, Nat.reduceMod, Nat.reducePow, List.reduceReplicate, UInt8.reduceOfNat, Int.reducePow, Int.reduceDiv, Int.reduceMod, Nat.reduceDiv, Int.reduceNeg, Int.reduceAdd, Int.reduceSub, Int.reduceMul, Int.reduceLE, Int.reduceLT, Int.reduceEq, Int.reduceToNat, reduceCtorEq, hob]
        all_goals try (exfalso; omega)
        unfold UpdR
        exact Upd.now (hR G1 b hle2 hs1 hO)
end Go.Proofs.YtefkpedhbijhkaaDoor
namespace Go.Proofs.YtefkpedhbijhkaaDoor
open Go Go.V Go.Proofs
theorem atR_ints (n : Nat) (l : List Int) : atR n l = ((List.range n).map fun t : Nat => findF l (t : Int)).map (Value.int .i64) := by
  unfold atR; rw [List.map_map]; rfl
/-- a state's row, by places -/
def rowK (d : DfaT) (l : List Int) (s : Int) : List Int := (nextF d s).map (findF l)
def labF (d : DfaT) (l : List Int) : List Int := l.map fun s => d.label.getD s.toNat 0
/-- the machine with some states alone -/
def keepD (d : DfaT) (l : List Int) : DfaT := ⟨d.of, d.width, l.map (rowK d l), labF d l, d.names⟩
/-- can a state be kept? -/
def fineK (d : DfaT) (l : List Int) (s : Int) : Prop := ∀ t ∈ nextF d s, t ∈ l
def KeepOk (d : DfaT) (l : List Int) : Prop := (OnceN d.label.length l ∧ l.head? = some 0) ∧ ∀ s ∈ l, fineK d l s
noncomputable def keepR (d : DfaT) (l : List Int) : DfaT × Int :=
  haveI := Classical.propDecidable; if RightP d then if KeepOk d l then (keepD d l, 0) else (zeroD, 1) else (zeroD, 6)
theorem keepR_bad {d : DfaT} {l : List Int} (h : ¬ RightP d) : keepR d l = (zeroD, 6) := by unfold keepR; rw [if_neg h]
theorem keepR_not {d : DfaT} {l : List Int} (h : RightP d) (h2 : ¬ KeepOk d l) : keepR d l = (zeroD, 1) := by unfold keepR; rw [if_pos h, if_neg h2]
theorem keepR_ok {d : DfaT} {l : List Int} (h : RightP d) (h2 : KeepOk d l) : keepR d l = (keepD d l, 0) := by unfold keepR; rw [if_pos h, if_pos h2]
/-- the labels that there are -/
def LabK (d : DfaT) (l : List Int) (j : Nat) (vl : Value) (kl : Heap) : Prop :=
  (j = 0 ∧ vl = .slice none 0 0 ∧ kl = []) ∨ ∃ bl c2 sp2, vl = .slice (some ⟨bl, 0, none⟩) j c2 ∧ kl = [(bl, .cells (((labF d l).take j).map (Value.int .i64)) sp2 3)] ∧ j + sp2.length = c2
set_option maxHeartbeats 8000000 in
theorem kp6_t {d : DfaT} (hsm : SmallD d) {C : List Value} {an al ay : Option Addr} {cn cl cs : Nat} {rs : List Value} {G : PHeap} {H : Heap} (O : OpenD G d C an al ay cn cl cs rs) {v0 v1 v6 v7 : Value} {b2 b4 : Nat} :
    Tri Tryd.prog Tryd.f40.ntmps (piece [1, 1, 1, 1, 0] Tryd.f40) G [(0, v0), (1, v1), (2, .pointer (some ⟨b2, 0, none⟩)), (4, .pointer (some ⟨b4, 0, none⟩)), (5, .int .i64 0), (6, v6), (7, v7)] ((b4, .cells zeroC [] 27) :: (b2, .cells C [] 27) :: H) (onlyN fun G' fr' H' =>
      ∃ b7 vs, PLe G G' ∧ Sl G' str vs d.names ∧ restrict [0, 1, 2, 4, 5, 6, 7, 8] fr' = [(0, v0), (1, v1), (2, .pointer (some ⟨b2, 0, none⟩)), (4, .pointer (some ⟨b4, 0, none⟩)), (5, .int .i64 0), (6, v6), (7, v7), (8, .pointer (some ⟨b7, 0, none⟩))] ∧ H' = (b7, .cells (cellsD d (.slice none 0 0) (.slice none 0 0) vs) [] 27) :: (b4, .cells zeroC [] 27) :: (b2, .cells C [] 27) :: H) := by
  obtain ⟨hm1, hm2, hm3, hm4, hm5⟩ := id hsm
  have hCl := O.len
  have hCw := O.w
  have hCs := O.s
  have hCo := O.of
  have hofl : (u8L d.of).length = 256 := by rw [List.length_map, O.ofl]
  have hb1 := build_of O.ofl
  have hb2 := build_w O.ofl
  have hl1 : (u8L d.of ++ [Value.int .i64 0, Value.slice none 0 0, Value.slice none 0 0, Value.slice none 0 0]).length = 260 := by rw [List.length_append, hofl]; rfl
  have hl2 : ∀ v : Value, (cellsD d (.slice none 0 0) (.slice none 0 0) v).length = 260 := fun v => cellsD_len O.ofl _ _ _
  have hb3 := build_s O.ofl (.slice none 0 0) (.slice none 0 0) (.slice none 0 0)
  have hputz : ∀ v : Value, splice zeroC 0 (cellsD d (.slice none 0 0) (.slice none 0 0) v) = cellsD d (.slice none 0 0) (.slice none 0 0) v := fun v => by
    unfold splice
    rw [List.take_zero, List.nil_append, List.drop_of_length_le (by rw [zeroC_len, hl2]; omega), List.append_nil]
  refine Tri.sepT fun hs0 => ?_
  have hsE := hs0
  try simp only [zzs] at hsE
  repeat (obtain ⟨hsx, hsE⟩ := hsE)
  refine Tri.piece (f := Tryd.f40) rfl ?_
  refine Tri.run tok [0, 1, 2, 4, 5, 6, 7, 8, 10, 11, 12, 13, 16, 27, 37, 38, 39, 40, 50, 51, 52, 53, 61] (by kernel_rfl) ?_
  repeat' first
    | (with_reducible first | refine Br.yes ?_ | refine Br.no ?_ | refine Br.dec (fun _ => ?_) (fun _ => ?_) | refine Br.mk (fun _ => ?_) (fun _ => ?_) | refine appV.zero ?_ | refine appV.own ?_)
    | ((with_reducible first | refine NewB.mk (fun nb hnb => ?_) | refine NewRow.mk (fun nb nsp ncap hnb hncap => ?_)); have hnb1 := hnb.1.1; have hnb2 := hnb.1.2; try simp only [zzn] at hnb2)
    | with_reducible refine Tri.drawH tok mixed [0, 1, 2, 4, 5, 6, 7, 8, 10, 11, 12, 13, 16, 27, 37, 38, 39, 40, 50, 51, 52, 53, 61] 6 [1, 3, 5] (.op 0 .plain (.op 1 .held (.op 2 .plain (.op 3 .held (.op 4 .plain (.op 5 .held (.both (.op 6 .keeps (.op 7 .plain (.op 8 .keeps (.op 9 .plain .nil)))) (.op 8 .keeps (.op 6 .keeps (.op 7 .plain (.op 9 .plain .nil))))))))))) (by kernel_rfl) [2] ?_
    | with_reducible refine Tri.drawM tok mixed [0, 1, 2, 4, 5, 6, 7, 8, 10, 11, 12, 13, 16, 27, 37, 38, 39, 40, 50, 51, 52, 53, 61] 19 [1, 3, 6] (.op 0 .plain (.op 1 .held (.op 2 .plain (.op 3 .held (.op 4 .plain (.op 5 .plain (.op 6 .held (.op 7 .keeps (.op 8 .keeps (.op 9 .plain (.op 10 .plain .nil))))))))))) (by kernel_rfl) _ (List.Sublist.refl _) ?_
    | simp (dsimp := false) (implicitDefEqProofs := false) (disch := first | assumption | (simp only [zzm]; done) | omega | (with_reducible refine Row.adr (by assumption) ?_; simp only [zzk]; omega) | (simp only [zzl, Nat.reduceAdd]; first | done | omega)) only [go_sem, ↓reduceIte, Nat.reduceEqDiff, Nat.reduceAdd, Nat.reduceSub, Nat.reduceMul, Nat.reduceBEq, Nat.reduceLT, Nat.reduceLeDiff, Nat.reduceMod, Nat.reducePow, List.reduceReplicate, UInt8.reduceOfNat, Int.reducePow, Int.reduceDiv, Int.reduceMod, Nat.reduceDiv, Int.reduceNeg, Int.reduceAdd, Int.reduceSub, Int.reduceMul, Int.reduceLE, Int.reduceLT, Int.reduceEq, Int.reduceToNat, reduceCtorEq, -List.reduceReplicate, List.toList_toArray, hCl, hCw, hCs, hCo, hofl, hb1, hb2, hb3, hl1, hl2, zeroC_len, zeroC_one, hputz]
    | ((with_reducible refine clones_t d.names hm4 O.names fun G4 v4 hle4 hs4 hsl4 => ?_); obtain ⟨ay4, cy4, rfl, hr4, hc4⟩ := hsl4; have hone := cellsD_one (d := d) (vn := .slice none 0 0) (vl := .slice none 0 0) (vs := .slice ay4 d.names.length cy4) rfl rfl rfl; (have hsE := hs4; try simp only [zzs] at hsE; repeat (obtain ⟨hsx, hsE⟩ := hsE)))
    | (with_reducible refine And.intro ?_ ?_)
  all_goals exact Upd.now ⟨nb, _, hle4, ⟨ay4, cy4, rfl, hr4, hc4⟩, rfl, rfl⟩
set_option maxHeartbeats 16000000 in
theorem kr19_t {d : DfaT} {l : List Int} {C : List Value} {an al ay : Option Addr} {cn cl cs : Nat} {rs : List Value} {G : PHeap} {H : Heap} (O : OpenD G d C an al ay cn cl cs rs) {v0 v1 v6 v7 v35 v36 v37 : Value} {b2 b4 b7 : Nat} {j t : Nat} (hj : j < l.length) (hjb : j < 65536) (ht : t < d.label.length) (hsj : l[j] = (t : Int)) {vn vl vs : Value} {kl : Heap} (hout : LabK d l j vl kl) :
    Tri Tryd.prog Tryd.f40.ntmps (piece [1, 1, 1, 1, 1, 0, 1, 0, 0, 1, 1, 0, 0, 1, 1, 1, 1] Tryd.f40) G [(0, v0), (1, v1), (2, .pointer (some ⟨b2, 0, none⟩)), (4, .pointer (some ⟨b4, 0, none⟩)), (5, .int .i64 0), (6, v6), (7, v7), (8, .pointer (some ⟨b7, 0, none⟩)), (10, .int .i64 (t : Nat)), (37, v35), (38, v36), (39, v37)] ((b7, .cells (cellsD d vn vl vs) [] 27) :: (b2, .cells C [] 27) :: (kl ++ H)) (onlyN fun G' fr' H' =>
      ∃ vl' kl', G' = G ∧ LabK d l (j + 1) vl' kl' ∧ restrict [0, 1, 2, 4, 5, 6, 7, 8, 37, 38, 39] fr' = [(0, v0), (1, v1), (2, .pointer (some ⟨b2, 0, none⟩)), (4, .pointer (some ⟨b4, 0, none⟩)), (5, .int .i64 0), (6, v6), (7, v7), (8, .pointer (some ⟨b7, 0, none⟩)), (37, v35), (38, v36), (39, v37)] ∧ H' = (b7, .cells (cellsD d vn vl' vs) [] 27) :: (b2, .cells C [] 27) :: (kl' ++ H)) := by
  have hCl := O.len
  have hCx := O.l
  have hl2 : ∀ a b c : Value, (cellsD d a b c).length = 260 := fun a b c => cellsD_len O.ofl _ _ _
  have hg2 : ∀ a b c : Value, (cellsD d a b c)[258]? = some b := fun a b c => cellsD_l O.ofl _ _ _
  have hputL : ∀ a b c x : Value, splice (cellsD d a b c) 258 [x] = cellsD d a x c := fun a b c x => cellsD_putL O.ofl _ _ _ _
  have hlt : d.label[t] = d.label.getD t 0 := by rw [List.getD_eq_getElem?_getD, List.getElem?_eq_getElem ht]; rfl
  have hlab : (labF d l).take (j + 1) = (labF d l).take j ++ [d.label.getD t 0] := by
    have hjl : j < (labF d l).length := by unfold labF; rw [List.length_map]; exact hj
    rw [List.take_succ_eq_append_getElem hjl]
    congr 2
    simp only [labF, List.getElem_map, hsj, Int.toNat_natCast]
  have hlj : ((labF d l).take j).length = j := by rw [List.length_take]; unfold labF; rw [List.length_map]; omega
  have had2 : Adr al := O.rl.adr (by rw [List.length_map]; omega)
  refine Tri.sepT fun hs0 => ?_
  rcases hout with ⟨hj0, rfl, rfl⟩ | ⟨bl, c2, sp2, rfl, rfl, hc2⟩
  · have hsE := hs0
    try simp only [zzs] at hsE
    repeat (obtain ⟨hsx, hsE⟩ := hsE)
    have hce : ((labF d l).take (j + 1)).map (Value.int .i64) = [Value.int .i64 (d.label.getD t 0)] := by rw [hlab, List.map_append, List.eq_nil_of_length_eq_zero (hlj.trans hj0)]; rfl
    refine Tri.piece (f := Tryd.f40) rfl ?_
    refine Tri.run tok [0, 1, 2, 4, 5, 6, 7, 8, 10, 11, 12, 13, 16, 27, 37, 38, 39, 40, 50, 51, 52, 53, 61] (by kernel_rfl) ?_
    repeat' first
      | (with_reducible first | refine Br.yes ?_ | refine Br.no ?_ | refine Br.dec (fun _ => ?_) (fun _ => ?_) | refine Br.mk (fun _ => ?_) (fun _ => ?_) | refine appV.zero ?_ | refine appV.own ?_)
      | ((with_reducible first | refine NewB.mk (fun nb hnb => ?_) | refine NewRow.mk (fun nb nsp ncap hnb hncap => ?_)); have hnb1 := hnb.1.1; have hnb2 := hnb.1.2; try simp only [zzn] at hnb2)
      | simp (dsimp := false) (implicitDefEqProofs := false) (disch := first | assumption | (simp only [zzm]; done) | omega | (with_reducible refine Row.adr (by assumption) ?_; simp only [zzk]; omega) | (simp only [zzl, Nat.reduceAdd]; first | done | omega)) only [go_sem, ↓reduceIte, Nat.reduceEqDiff, Nat.reduceAdd, Nat.reduceSub, Nat.reduceMul, Nat.reduceBEq, Nat.reduceLT, Nat.reduceLeDiff, Nat.reduceMod, Nat.reducePow, List.reduceReplicate, UInt8.reduceOfNat, Int.reducePow, Int.reduceDiv, Int.reduceMod, Nat.reduceDiv, Int.reduceNeg, Int.reduceAdd, Int.reduceSub, Int.reduceMul, Int.reduceLE, Int.reduceLT, Int.reduceEq, Int.reduceToNat, reduceCtorEq, -List.reduceReplicate, List.replicate_one, List.toList_toArray, hCl, hCx, hl2, hg2, hputL, Row.obj O.rl, List.getElem_map, hlt, Int.toNat_natCast, Nat.sub_self]
      | with_reducible refine Tri.drawH tok mixed [0, 1, 2, 4, 5, 6, 7, 8, 10, 11, 12, 13, 16, 27, 37, 38, 39, 40, 50, 51, 52, 53, 61] 19 [1, 3, 6] (.op 0 .plain (.op 1 .held (.op 2 .plain (.op 3 .held (.op 4 .plain (.op 5 .plain (.op 6 .held (.op 7 .keeps (.op 8 .keeps (.op 9 .plain (.op 10 .plain .nil))))))))))) (by kernel_rfl) [8, 2] ?_
    rw [← hce]
    exact Upd.go (H' := (b7, .cells (cellsD d vn (.slice (some ⟨nb, 0, none⟩) 1 ncap) vs) [] 27) :: (b2, .cells C [] 27) :: ([(nb, .cells (((labF d l).take (j + 1)).map (Value.int .i64)) nsp 3)] ++ H)) (by intro fsum; first | exact Nat.le_refl _ | (simp only [zzq]; omega)) (Upd.now ⟨.slice (some ⟨nb, 0, none⟩) 1 ncap, _, rfl, .inr ⟨nb, ncap, nsp, by rw [hj0], rfl, by omega⟩, rfl, rfl⟩)
  · have hsE := hs0
    try simp only [zzs] at hsE
    repeat (obtain ⟨hsx, hsE⟩ := hsE)
    obtain ⟨ps, hps, hpl⟩ : ∃ ps, ps = ((labF d l).take j).map (Value.int .i64) ∧ ps.length = j := ⟨_, rfl, by rw [List.length_map, hlj]⟩
    have hce : ((labF d l).take (j + 1)).map (Value.int .i64) = ps ++ [Value.int .i64 (d.label.getD t 0)] := by rw [hlab, List.map_append, ← hps]; rfl
    rw [← hps]
    refine Tri.piece (f := Tryd.f40) rfl ?_
    refine Tri.run tok [0, 1, 2, 4, 5, 6, 7, 8, 10, 11, 12, 13, 16, 27, 37, 38, 39, 40, 50, 51, 52, 53, 61] (by kernel_rfl) ?_
    repeat' first
      | (with_reducible first | refine Br.yes ?_ | refine Br.no ?_ | refine Br.dec (fun _ => ?_) (fun _ => ?_) | refine Br.mk (fun _ => ?_) (fun _ => ?_) | refine appV.zero ?_ | refine appV.own ?_)
      | ((with_reducible first | refine NewB.mk (fun nb hnb => ?_) | refine NewRow.mk (fun nb nsp ncap hnb hncap => ?_)); have hnb1 := hnb.1.1; have hnb2 := hnb.1.2; try simp only [zzn] at hnb2)
      | simp (dsimp := false) (implicitDefEqProofs := false) (disch := first | assumption | (simp only [zzm]; done) | omega | (with_reducible refine Row.adr (by assumption) ?_; simp only [zzk]; omega) | (simp only [zzl, Nat.reduceAdd]; first | done | omega)) only [go_sem, ↓reduceIte, Nat.reduceEqDiff, Nat.reduceAdd, Nat.reduceSub, Nat.reduceMul, Nat.reduceBEq, Nat.reduceLT, Nat.reduceLeDiff, Nat.reduceMod, Nat.reducePow, List.reduceReplicate, UInt8.reduceOfNat, Int.reducePow, Int.reduceDiv, Int.reduceMod, Nat.reduceDiv, Int.reduceNeg, Int.reduceAdd, Int.reduceSub, Int.reduceMul, Int.reduceLE, Int.reduceLT, Int.reduceEq, Int.reduceToNat, reduceCtorEq, -List.reduceReplicate, List.replicate_one, List.toList_toArray, hCl, hCx, hl2, hg2, hputL, Row.obj O.rl, List.getElem_map, hlt, Int.toNat_natCast, Nat.sub_self]
      | with_reducible refine Tri.drawH tok mixed [0, 1, 2, 4, 5, 6, 7, 8, 10, 11, 12, 13, 16, 27, 37, 38, 39, 40, 50, 51, 52, 53, 61] 19 [1, 3, 6] (.op 0 .plain (.op 1 .held (.op 2 .plain (.op 3 .held (.op 4 .plain (.op 5 .plain (.op 6 .held (.op 7 .keeps (.op 8 .keeps (.op 9 .plain (.op 10 .plain .nil))))))))))) (by kernel_rfl) [8, 2] ?_
    rw [← hce]
    exact Upd.go (H' := (b7, .cells (cellsD d vn (.slice (some ⟨nb, 0, none⟩) (j + 1) ncap) vs) [] 27) :: (b2, .cells C [] 27) :: ([(nb, .cells (((labF d l).take (j + 1)).map (Value.int .i64)) nsp 3)] ++ H)) (by intro fsum; first | exact Nat.le_refl _ | (simp only [zzq]; omega)) (Upd.now ⟨_, _, rfl, .inr ⟨nb, ncap, nsp, rfl, rfl, by omega⟩, rfl, rfl⟩)
end Go.Proofs.YtefkpedhbijhkaaDoor
namespace Go.Proofs.YtefkpedhbijhkaaDoor
open Go Go.V Go.Proofs
/-- the rows that there are -/
def RowK (d : DfaT) (l : List Int) (G' : PHeap) (j : Nat) (vn : Value) (kn : Heap) : Prop :=
  (j = 0 ∧ vn = .slice none 0 0 ∧ kn = []) ∨ ∃ bn c1 rv sp1, vn = .slice (some ⟨bn, 0, none⟩) j c1 ∧ kn = [(bn, .cells rv sp1 24)] ∧ rv.length = j ∧ j + sp1.length = c1 ∧
    ∀ i (h : i < j) (h2 : i < rv.length) (h3 : i < l.length), ∃ b c, rv[i] = .slice b (rowK d l l[i]).length c ∧ Row G' b ((rowK d l l[i]).map (Value.int .i64)) ∧ (rowK d l l[i]).length ≤ c
set_option maxHeartbeats 32000000 in
theorem kx_t {d : DfaT} (hsm : SmallD d) (hok : RightP d) {l : List Int} (hO : OnceN d.label.length l) {C : List Value} {an al ay : Option Addr} {cn cl cs : Nat} {rs : List Value} {G : PHeap} {H : Heap} (O : OpenD G d C an al ay cn cl cs rs) {v0 v1 v7 : Value} {b2 b4 b7 : Nat} {an3 ah : Option Addr} {cn3 ch : Nat} (hr3 : Row G an3 (((List.range d.label.length).map fun t : Nat => findF l (t : Int)).map (Value.int .i64))) (hrh : Row G ah ((l).map (Value.int .i64))) {j : Nat} (hj : j < l.length) {vn vl vs : Value} {kn kl : Heap} (hout : RowK d l G j vn kn) (hlab0 : LabK d l j vl kl) (hvs : oneV vs = true) (hfine : fineK d l (l[j]'hj)) :
    Tri Tryd.prog Tryd.f40.ntmps (piece [1, 1, 1, 1, 1, 0, 1, 0, 0, 1, 1, 0, 0] Tryd.f40) G [(0, v0), (1, v1), (2, .pointer (some ⟨b2, 0, none⟩)), (4, .pointer (some ⟨b4, 0, none⟩)), (5, .int .i64 0), (6, .slice an3 d.label.length cn3), (7, v7), (8, .pointer (some ⟨b7, 0, none⟩)), (37, .slice ah l.length ch), (38, .int .i64 l.length), (39, .int .i64 (j : Nat))] ((b7, .cells (cellsD d vn vl vs) [] 27) :: (b2, .cells C [] 27) :: (kn ++ (kl ++ H))) (onlyN fun G' fr' H' =>
      ∃ vn' vl' kn' kl', PLe G G' ∧ RowK d l G' (j + 1) vn' kn' ∧ LabK d l (j + 1) vl' kl' ∧ restrict [0, 1, 2, 4, 5, 6, 7, 8, 37, 38, 39] fr' = [(0, v0), (1, v1), (2, .pointer (some ⟨b2, 0, none⟩)), (4, .pointer (some ⟨b4, 0, none⟩)), (5, .int .i64 0), (6, .slice an3 d.label.length cn3), (7, v7), (8, .pointer (some ⟨b7, 0, none⟩)), (37, .slice ah l.length ch), (38, .int .i64 l.length), (39, .int .i64 (j : Nat))] ∧ H' = (b7, .cells (cellsD d vn' vl' vs) [] 27) :: (b2, .cells C [] 27) :: (kn' ++ (kl' ++ H))) := by
  obtain ⟨hm1, hm2, hm3, hm4, hm5⟩ := id hsm
  obtain ⟨hk1, hk2, hk3, hk4, hk5, hk6, hk7⟩ := id hok
  have hal : (((List.range d.label.length).map fun t : Nat => findF l (t : Int)).map (Value.int .i64)).length = d.label.length := by rw [List.length_map, List.length_map, List.length_range]
  have hCl := O.len
  have hCw := O.w
  have hCn := O.n
  have hCx := O.l
  have hl2 : ∀ a b c : Value, (cellsD d a b c).length = 260 := fun a b c => cellsD_len O.ofl _ _ _
  have hg1 : ∀ a b c : Value, (cellsD d a b c)[257]? = some a := fun a b c => cellsD_n O.ofl _ _ _
  have hg2 : ∀ a b c : Value, (cellsD d a b c)[258]? = some b := fun a b c => cellsD_l O.ofl _ _ _
  have hputN : ∀ a b c x : Value, splice (cellsD d a b c) 257 [x] = cellsD d x b c := fun a b c x => cellsD_putN O.ofl _ _ _ _
  have hputL : ∀ a b c x : Value, splice (cellsD d a b c) 258 [x] = cellsD d a x c := fun a b c x => cellsD_putL O.ofl _ _ _ _
  have hjm := hO.2 _ (List.getElem_mem hj)
  obtain ⟨t, hsj⟩ := Int.eq_ofNat_of_zero_le hjm.1
  have htl : t < d.label.length := by omega
  have htn : t < d.next.length := by omega
  have htl2 : t < d.label.length := by omega
  have htv : t < rs.length := by have := O.rnl; omega
  obtain ⟨b, c, e1, e2, e3⟩ := O.rs t htn htv
  obtain ⟨hw0, hlt0, hlt1, hrng⟩ := hk7 t htn htl2
  obtain ⟨row, hrow⟩ : ∃ row, row = d.next[t] := ⟨_, rfl⟩
  have hrl := hm2 _ (List.getElem_mem htn)
  rw [← hrow] at e1 e2 e3 hw0 hrng hrl
  have hw : d.width = (row.length : Int) := hw0.symm
  obtain ⟨r, hr⟩ : ∃ r, r = rowK d l (t : Nat) := ⟨_, rfl⟩
  have hr' : r = row.map (findF l) := by rw [hr]; unfold rowK; rw [nextF_get htn, hrow]
  have hfr : ∀ x ∈ row, x ∈ l := fun x hx => by
    have h1 := hfine x
    rw [hsj, nextF_get htn, ← hrow] at h1
    exact h1 hx
  have hrlen : r.length = row.length := by rw [hr', List.length_map]
  have hlt : d.label[t] = d.label.getD t 0 := by rw [List.getD_eq_getElem?_getD, List.getElem?_eq_getElem htl2]; rfl
  have hlab : (labF d l).take (j + 1) = (labF d l).take j ++ [d.label.getD t 0] := by
    have hjl : j < (labF d l).length := by unfold labF; rw [List.length_map]; exact hj
    rw [List.take_succ_eq_append_getElem hjl]
    congr 2
    simp only [labF, List.getElem_map, hsj, Int.toNat_natCast]
  have hlj : ((labF d l).take j).length = j := by rw [List.length_take]; unfold labF; rw [List.length_map]; omega
  have hrj : rowK d l l[j] = r := by rw [hsj, hr]
  have had : Adr an := O.rn.adr (by omega)
  have had2 : Adr al := O.rl.adr (by rw [List.length_map]; omega)
  have had3 : Adr ah := hrh.adr (by rw [List.length_map]; omega)
  have had4 : Adr an3 := hr3.adr (by rw [List.length_map, List.length_map, List.length_range]; omega)
  have hjb : j < 65536 := by
    have h1 := hO.len
    omega
  refine Tri.sepT fun hs0 => ?_
  have hsE := hs0
  try simp only [zzs] at hsE
  repeat (obtain ⟨hsx, hsE⟩ := hsE)
  refine Tri.piece (f := Tryd.f40) rfl ?_
  refine Tri.runS tok [0, 1, 2, 4, 5, 6, 7, 8, 10, 11, 12, 13, 16, 27, 37, 38, 39, 40, 50, 51, 52, 53, 61] (.seq .run (.seq .run (.seq .run (.seq .run .cut)))) (by kernel_rfl) ?_
  repeat' first
    | (with_reducible first | refine Br.yes ?_ | refine Br.no ?_ | refine Br.dec (fun _ => ?_) (fun _ => ?_) | refine Br.mk (fun _ => ?_) (fun _ => ?_) | refine appV.zero ?_ | refine appV.own ?_)
    | ((with_reducible first | refine NewB.mk (fun nb hnb => ?_) | refine NewRow.mk (fun nb nsp ncap hnb hncap => ?_)); have hnb1 := hnb.1.1; have hnb2 := hnb.1.2; try simp only [zzn] at hnb2)
    | simp (dsimp := false) (implicitDefEqProofs := false) (disch := first | assumption | (simp only [zzm]; done) | omega | (with_reducible refine Row.adr (by assumption) ?_; simp only [zzk]; omega) | (simp only [zzl, Nat.reduceAdd]; first | done | omega)) only [go_sem, ↓reduceIte, Nat.reduceEqDiff, Nat.reduceAdd, Nat.reduceSub, Nat.reduceMul, Nat.reduceBEq, Nat.reduceLT, Nat.reduceLeDiff, Nat.reduceMod, Nat.reducePow, List.reduceReplicate, UInt8.reduceOfNat, Int.reducePow, Int.reduceDiv, Int.reduceMod, Nat.reduceDiv, Int.reduceNeg, Int.reduceAdd, Int.reduceSub, Int.reduceMul, Int.reduceLE, Int.reduceLT, Int.reduceEq, Int.reduceToNat, reduceCtorEq, -List.reduceReplicate, List.toList_toArray, hCl, hCw, hCn, hCx, hw, hl2, hg1, hg2, hputN, hputL, Row.obj hrh, Row.obj O.rn, e1, Row.obj O.rl, Row.obj hr3, List.getElem_map, hsj, hlt, Int.toNat_natCast, Nat.sub_self, List.replicate_zero]
  revert nb
  intro br hbr hbr1 hbr2
  rw [show List.replicate row.length (Value.int .i64 0) = (partR r 0).map (Value.int .i64) by rw [← hrlen, partR_zero]]
  refine Tri.loopU tok [0, 1, 2, 4, 5, 6, 7, 8, 10, 11, 12, 13, 16, 27, 37, 38, 39, 40, 50, 51, 52, 53, 61] (by kernel_rfl) [0, 1, 2, 4, 5, 6, 7, 8, 10, 11, 37, 38, 39, 50, 51, 52] (fun q G' fr H' => ∃ k : Nat, k + q = row.length ∧ G' = G ∧ H' = (br, .cells ((partR r k).map (Value.int .i64)) [] 3) :: (b7, .cells (cellsD d vn vl vs) [] 27) :: (b2, .cells C [] 27) :: (kn ++ (kl ++ H)) ∧ fr = [(0, v0), (1, v1), (2, .pointer (some ⟨b2, 0, none⟩)), (4, .pointer (some ⟨b4, 0, none⟩)), (5, .int .i64 0), (6, .slice an3 d.label.length cn3), (7, v7), (8, .pointer (some ⟨b7, 0, none⟩)), (10, .int .i64 (t : Nat)), (11, .slice (some ⟨br, 0, none⟩) row.length row.length), (37, .slice ah l.length ch), (38, .int .i64 l.length), (39, .int .i64 (j : Nat)), (50, .slice b row.length c), (51, .int .i64 row.length), (52, .int .i64 (k : Nat))]) (row.length) ?_ ?_
  · refine Upd.now ?_
    exact ⟨0, by omega, rfl, rfl, rfl⟩
  · rintro q G1 fr H' hle hs ⟨k, hk, rfl, rfl, rfl⟩
    have hpl : (partR r k).length = row.length := by rw [partR_len r (by omega), hrlen]
    by_cases hkl : k < row.length
    · have hsE := hs
      try simp only [zzs] at hsE
      repeat (obtain ⟨hsx, hsE⟩ := hsE)
      have hkr : k < r.length := by omega
      have had5 : Adr b := e2.adr (by rw [List.length_map]; omega)
      have hx := hrng _ (List.getElem_mem hkl)
      obtain ⟨y, hxy⟩ := Int.eq_ofNat_of_zero_le hx.1
      have hym : y < d.label.length := by omega
      have hval : findF l (y : Nat) = r[k] := by
        simp only [hr', List.getElem_map]
        rw [hxy]
      have hpos : 0 ≤ r[k] := by
        rw [← hval]
        refine findF_memW.2 ?_
        rw [← hxy]
        exact hfr _ (List.getElem_mem hkl)
      have hput := partR_put hkr
      repeat' first
        | (with_reducible first | refine Br.yes ?_ | refine Br.no ?_ | refine Br.dec (fun _ => ?_) (fun _ => ?_) | refine Br.mk (fun _ => ?_) (fun _ => ?_) | refine appV.zero ?_ | refine appV.own ?_)
        | ((with_reducible first | refine NewB.mk (fun nb hnb => ?_) | refine NewRow.mk (fun nb nsp ncap hnb hncap => ?_)); have hnb1 := hnb.1.1; have hnb2 := hnb.1.2; try simp only [zzn] at hnb2)
        | simp (dsimp := false) (implicitDefEqProofs := false) (disch := first | assumption | (simp only [zzm]; done) | omega | (with_reducible refine Row.adr (by assumption) ?_; simp only [zzk]; omega) | (simp only [zzl, Nat.reduceAdd]; first | done | omega)) only [go_sem, ↓reduceIte, Nat.reduceEqDiff, Nat.reduceAdd, Nat.reduceSub, Nat.reduceMul, Nat.reduceBEq, Nat.reduceLT, Nat.reduceLeDiff, Nat.reduceMod, Nat.reducePow, List.reduceReplicate, UInt8.reduceOfNat, Int.reducePow, Int.reduceDiv, Int.reduceMod, Nat.reduceDiv, Int.reduceNeg, Int.reduceAdd, Int.reduceSub, Int.reduceMul, Int.reduceLE, Int.reduceLT, Int.reduceEq, Int.reduceToNat, reduceCtorEq, -List.reduceReplicate, Row.obj e2, Row.obj hr3, List.getElem_map, List.getElem_range, hxy, hval, hput, hpl, Int.toNat_natCast]
      all_goals try (exfalso; omega)
      refine Upd.now ?_
      exact ⟨q - 1, by omega, k + 1, by omega, rfl, rfl, rfl⟩
    · obtain rfl : k = row.length := by omega
      have hpa : partR r row.length = r := by rw [← hrlen]; exact partR_all r
      rw [hpa] at hs ⊢
      rcases hout with ⟨hj0, rfl, rfl⟩ | ⟨bn, c1, rv, sp1, rfl, rfl, hrv, hc1, hrws⟩
      · have hsE := hs
        try simp only [zzs] at hsE
        repeat (obtain ⟨hsx, hsE⟩ := hsE)
        repeat' first
          | (with_reducible first | refine Br.yes ?_ | refine Br.no ?_ | refine Br.dec (fun _ => ?_) (fun _ => ?_) | refine Br.mk (fun _ => ?_) (fun _ => ?_) | refine appV.zero ?_ | refine appV.own ?_)
          | ((with_reducible first | refine NewB.mk (fun nb hnb => ?_) | refine NewRow.mk (fun nb nsp ncap hnb hncap => ?_)); have hnb1 := hnb.1.1; have hnb2 := hnb.1.2; try simp only [zzn] at hnb2)
          | simp (dsimp := false) (implicitDefEqProofs := false) (disch := first | assumption | (simp only [zzm]; done) | omega | (with_reducible refine Row.adr (by assumption) ?_; simp only [zzk]; omega) | (simp only [zzl, Nat.reduceAdd]; first | done | omega)) only [go_sem, ↓reduceIte, Nat.reduceEqDiff, Nat.reduceAdd, Nat.reduceSub, Nat.reduceMul, Nat.reduceBEq, Nat.reduceLT, Nat.reduceLeDiff, Nat.reduceMod, Nat.reducePow, List.reduceReplicate, UInt8.reduceOfNat, Int.reducePow, Int.reduceDiv, Int.reduceMod, Nat.reduceDiv, Int.reduceNeg, Int.reduceAdd, Int.reduceSub, Int.reduceMul, Int.reduceLE, Int.reduceLT, Int.reduceEq, Int.reduceToNat, reduceCtorEq, -List.reduceReplicate, List.length_map, hlj, List.replicate_one, List.toList_toArray, hCl, hCw, hCn, hCx, hw, hl2, hg1, hg2, hputN, hputL, Row.obj hrh, Row.obj O.rn, e1, Row.obj O.rl, Row.obj hr3, List.getElem_map, hsj, hlt, Int.toNat_natCast, Nat.sub_self, List.replicate_zero]
        refine Tri.upd (Upd.go (H' := (b7, .cells (cellsD d (.slice (some ⟨nb, 0, none⟩) 1 ncap) vl vs) [] 27) :: (b2, .cells C [] 27) :: (kl ++ ((br, .cells (r.map (Value.int .i64)) [] 3) :: (nb, .cells [.slice (some ⟨br, 0, none⟩) row.length row.length] nsp 24) :: H))) (by intro fsum; first | exact Nat.le_refl _ | (simp only [zzq]; omega)) (Upd.now ?_))
        refine Tri.live [0, 1, 2, 4, 5, 6, 7, 8, 10, 37, 38, 39] ?_
        refine Tri.isPiece [1, 1, 1, 1, 1, 0, 1, 0, 0, 1, 1, 0, 0, 1, 1, 1, 1] Tryd.f40 (by kernel_rfl) ?_
        refine Tri.onlyN (kr19_t O hj hjb htl2 hsj hlab0) fun G5 l5 H5 hle5 hs5 hM => ?_
        obtain ⟨vl', kl', rfl, hlab1, hfr, rfl⟩ := hM
        rw [onlyN_normal]
        have hsE := hs5
        try simp only [zzs] at hsE
        repeat (obtain ⟨hsx, hsE⟩ := hsE)
        refine Upd.go (H' := (br, .cells (r.map (Value.int .i64)) [] 3) :: (b7, .cells (cellsD d (.slice (some ⟨nb, 0, none⟩) 1 ncap) vl' vs) [] 27) :: (b2, .cells C [] 27) :: ([(nb, .cells [.slice (some ⟨br, 0, none⟩) row.length row.length] nsp 24)] ++ (kl' ++ H))) (by intro fsum; first | exact Nat.le_refl _ | (simp only [zzq]; omega)) (Upd.shareRow (by assumption) fun G6 hle6 hs6 hr6 => ?_)
        refine ⟨_, vl', _, kl', hle6, .inr ⟨nb, ncap, _, nsp, by rw [hj0], rfl, by rw [hj0]; rfl, by omega, fun i h h2 h3 => ?_⟩, hlab1, hfr, rfl⟩
        obtain rfl : i = 0 := by omega
        obtain rfl : j = 0 := hj0
        refine ⟨some ⟨br, 0, none⟩, row.length, ?_, ?_, ?_⟩
        · rw [hrj, hrlen]; rfl
        · rw [hrj]; exact hr6
        · rw [hrj, hrlen]; exact Nat.le_refl _
      · have hsE := hs
        try simp only [zzs] at hsE
        repeat (obtain ⟨hsx, hsE⟩ := hsE)
        repeat' first
          | (with_reducible first | refine Br.yes ?_ | refine Br.no ?_ | refine Br.dec (fun _ => ?_) (fun _ => ?_) | refine Br.mk (fun _ => ?_) (fun _ => ?_) | refine appV.zero ?_ | refine appV.own ?_)
          | ((with_reducible first | refine NewB.mk (fun nb hnb => ?_) | refine NewRow.mk (fun nb nsp ncap hnb hncap => ?_)); have hnb1 := hnb.1.1; have hnb2 := hnb.1.2; try simp only [zzn] at hnb2)
          | simp (dsimp := false) (implicitDefEqProofs := false) (disch := first | assumption | (simp only [zzm]; done) | omega | (with_reducible refine Row.adr (by assumption) ?_; simp only [zzk]; omega) | (simp only [zzl, Nat.reduceAdd]; first | done | omega)) only [go_sem, ↓reduceIte, Nat.reduceEqDiff, Nat.reduceAdd, Nat.reduceSub, Nat.reduceMul, Nat.reduceBEq, Nat.reduceLT, Nat.reduceLeDiff, Nat.reduceMod, Nat.reducePow, List.reduceReplicate, UInt8.reduceOfNat, Int.reducePow, Int.reduceDiv, Int.reduceMod, Nat.reduceDiv, Int.reduceNeg, Int.reduceAdd, Int.reduceSub, Int.reduceMul, Int.reduceLE, Int.reduceLT, Int.reduceEq, Int.reduceToNat, reduceCtorEq, -List.reduceReplicate, List.length_map, hlj, List.replicate_one, List.toList_toArray, hCl, hCw, hCn, hCx, hw, hl2, hg1, hg2, hputN, hputL, Row.obj hrh, Row.obj O.rn, e1, Row.obj O.rl, Row.obj hr3, List.getElem_map, hsj, hlt, Int.toNat_natCast, Nat.sub_self, List.replicate_zero]
        refine Tri.upd (Upd.go (H' := (b7, .cells (cellsD d (.slice (some ⟨nb, 0, none⟩) (j + 1) ncap) vl vs) [] 27) :: (b2, .cells C [] 27) :: (kl ++ ((br, .cells (r.map (Value.int .i64)) [] 3) :: (nb, .cells (rv ++ [.slice (some ⟨br, 0, none⟩) row.length row.length]) nsp 24) :: H))) (by intro fsum; first | exact Nat.le_refl _ | (simp only [zzq]; omega)) (Upd.now ?_))
        refine Tri.live [0, 1, 2, 4, 5, 6, 7, 8, 10, 37, 38, 39] ?_
        refine Tri.isPiece [1, 1, 1, 1, 1, 0, 1, 0, 0, 1, 1, 0, 0, 1, 1, 1, 1] Tryd.f40 (by kernel_rfl) ?_
        refine Tri.onlyN (kr19_t O hj hjb htl2 hsj hlab0) fun G5 l5 H5 hle5 hs5 hM => ?_
        obtain ⟨vl', kl', rfl, hlab1, hfr, rfl⟩ := hM
        rw [onlyN_normal]
        have hsE := hs5
        try simp only [zzs] at hsE
        repeat (obtain ⟨hsx, hsE⟩ := hsE)
        refine Upd.go (H' := (br, .cells (r.map (Value.int .i64)) [] 3) :: (b7, .cells (cellsD d (.slice (some ⟨nb, 0, none⟩) (j + 1) ncap) vl' vs) [] 27) :: (b2, .cells C [] 27) :: ([(nb, .cells (rv ++ [.slice (some ⟨br, 0, none⟩) row.length row.length]) nsp 24)] ++ (kl' ++ H))) (by intro fsum; first | exact Nat.le_refl _ | (simp only [zzq]; omega)) (Upd.shareRow (by assumption) fun G6 hle6 hs6 hr6 => ?_)
        refine ⟨_, vl', _, kl', hle6, .inr ⟨nb, ncap, _, nsp, rfl, rfl, by rw [List.length_append, hrv]; rfl, by omega, fun i h h2 h3 => ?_⟩, hlab1, hfr, rfl⟩
        rcases Nat.lt_or_ge i j with hij | hij
        · obtain ⟨b', c', f1, f2, f3⟩ := hrws i hij (by omega) h3
          exact ⟨b', c', by rw [List.getElem_append_left (by omega)]; exact f1, f2.mono hle6, f3⟩
        · obtain rfl : i = j := by omega
          refine ⟨some ⟨br, 0, none⟩, row.length, ?_, ?_, ?_⟩
          · rw [hrj, hrlen, List.getElem_append_right (by omega)]; simp [hrv]
          · rw [hrj]; exact hr6
          · rw [hrj, hrlen]; exact Nat.le_refl _
set_option maxHeartbeats 32000000 in
theorem kxb_t {d : DfaT} (hsm : SmallD d) (hok : RightP d) {l : List Int} (hO : OnceN d.label.length l) {C : List Value} {an al ay : Option Addr} {cn cl cs : Nat} {rs : List Value} {G : PHeap} {H : Heap} (O : OpenD G d C an al ay cn cl cs rs) {v0 v1 v7 : Value} {b2 b4 b7 : Nat} {an3 ah : Option Addr} {cn3 ch : Nat} (hr3 : Row G an3 (((List.range d.label.length).map fun t : Nat => findF l (t : Int)).map (Value.int .i64))) (hrh : Row G ah ((l).map (Value.int .i64))) {j : Nat} (hj : j < l.length) {B7 : List Value} (hbad : ¬ fineK d l (l[j]'hj)) :
    Tri Tryd.prog Tryd.f40.ntmps (piece [1, 1, 1, 1, 1, 0, 1, 0, 0, 1, 1, 0, 0] Tryd.f40) G [(0, v0), (1, v1), (2, .pointer (some ⟨b2, 0, none⟩)), (4, .pointer (some ⟨b4, 0, none⟩)), (5, .int .i64 0), (6, .slice an3 d.label.length cn3), (7, v7), (8, .pointer (some ⟨b7, 0, none⟩)), (37, .slice ah l.length ch), (38, .int .i64 l.length), (39, .int .i64 (j : Nat))] ((b4, .cells zeroC [] 27) :: (b7, .cells B7 [] 27) :: (b2, .cells C [] 27) :: H) (onlyR fun G' fr' H' => PLe G G' ∧ restrict [4, 5] fr' = [(4, .pointer (some ⟨b4, 0, none⟩)), (5, .int .i64 1)] ∧ H' = (b4, .cells zeroC [] 27) :: H) := by
  obtain ⟨hm1, hm2, hm3, hm4, hm5⟩ := id hsm
  obtain ⟨hk1, hk2, hk3, hk4, hk5, hk6, hk7⟩ := id hok
  have hal : (((List.range d.label.length).map fun t : Nat => findF l (t : Int)).map (Value.int .i64)).length = d.label.length := by rw [List.length_map, List.length_map, List.length_range]
  have hCl := O.len
  have hCw := O.w
  have hCn := O.n
  have hCx := O.l
  have hjm := hO.2 _ (List.getElem_mem hj)
  obtain ⟨t, hsj⟩ := Int.eq_ofNat_of_zero_le hjm.1
  have htl : t < d.label.length := by omega
  have htn : t < d.next.length := by omega
  have htl2 : t < d.label.length := by omega
  have htv : t < rs.length := by have := O.rnl; omega
  obtain ⟨b, c, e1, e2, e3⟩ := O.rs t htn htv
  obtain ⟨hw0, hlt0, hlt1, hrng⟩ := hk7 t htn htl2
  obtain ⟨row, hrow⟩ : ∃ row, row = d.next[t] := ⟨_, rfl⟩
  have hrl := hm2 _ (List.getElem_mem htn)
  rw [← hrow] at e1 e2 e3 hw0 hrng hrl
  have hw : d.width = (row.length : Int) := hw0.symm
  obtain ⟨r, hr⟩ : ∃ r, r = rowK d l (t : Nat) := ⟨_, rfl⟩
  have hr' : r = row.map (findF l) := by rw [hr]; unfold rowK; rw [nextF_get htn, hrow]
  have hfr : ¬ ∀ x ∈ row, x ∈ l := fun h => hbad fun y hy => by
    rw [hsj, nextF_get htn, ← hrow] at hy
    exact h y hy
  have hrlen : r.length = row.length := by rw [hr', List.length_map]
  have had : Adr an := O.rn.adr (by omega)
  have had3 : Adr ah := hrh.adr (by rw [List.length_map]; omega)
  have had4 : Adr an3 := hr3.adr (by rw [List.length_map, List.length_map, List.length_range]; omega)
  have hjb : j < 65536 := by
    have h1 := hO.len
    omega
  refine Tri.sepT fun hs0 => ?_
  have hsE := hs0
  try simp only [zzs] at hsE
  repeat (obtain ⟨hsx, hsE⟩ := hsE)
  refine Tri.piece (f := Tryd.f40) rfl ?_
  refine Tri.run tok [0, 1, 2, 4, 5, 6, 7, 8, 10, 11, 12, 13, 16, 27, 37, 38, 39, 40, 50, 51, 52, 53, 61] (by kernel_rfl) ?_
  repeat' first
    | (with_reducible first | refine Br.yes ?_ | refine Br.no ?_ | refine Br.dec (fun _ => ?_) (fun _ => ?_) | refine Br.mk (fun _ => ?_) (fun _ => ?_) | refine appV.zero ?_ | refine appV.own ?_)
    | ((with_reducible first | refine NewB.mk (fun nb hnb => ?_) | refine NewRow.mk (fun nb nsp ncap hnb hncap => ?_)); have hnb1 := hnb.1.1; have hnb2 := hnb.1.2; try simp only [zzn] at hnb2)
    | simp (dsimp := false) (implicitDefEqProofs := false) (disch := first | assumption | (simp only [zzm]; done) | omega | (with_reducible refine Row.adr (by assumption) ?_; simp only [zzk]; omega) | (simp only [zzl, Nat.reduceAdd]; first | done | omega)) only [go_sem, ↓reduceIte, Nat.reduceEqDiff, Nat.reduceAdd, Nat.reduceSub, Nat.reduceMul, Nat.reduceBEq, Nat.reduceLT, Nat.reduceLeDiff, Nat.reduceMod, Nat.reducePow, List.reduceReplicate, UInt8.reduceOfNat, Int.reducePow, Int.reduceDiv, Int.reduceMod, Nat.reduceDiv, Int.reduceNeg, Int.reduceAdd, Int.reduceSub, Int.reduceMul, Int.reduceLE, Int.reduceLT, Int.reduceEq, Int.reduceToNat, reduceCtorEq, -List.reduceReplicate, List.toList_toArray, hCl, hCw, hCn, hCx, hw, Row.obj hrh, Row.obj O.rn, e1, Row.obj hr3, List.getElem_map, hsj, Int.toNat_natCast, Nat.sub_self, List.replicate_zero]
  revert nb
  intro br hbr hbr1 hbr2
  rw [show List.replicate row.length (Value.int .i64 0) = (partR r 0).map (Value.int .i64) by rw [← hrlen, partR_zero]]
  refine Tri.loopU tok [0, 1, 2, 4, 5, 6, 7, 8, 10, 11, 12, 13, 16, 27, 37, 38, 39, 40, 50, 51, 52, 53, 61] (by kernel_rfl) [0, 1, 2, 4, 5, 6, 7, 8, 10, 11, 37, 38, 39, 50, 51, 52] (fun q G' fr H' => ∃ k : Nat, k + q = row.length ∧ (∀ i (h : i < row.length), i < k → row[i] ∈ l) ∧ G' = G ∧ H' = (br, .cells ((partR r k).map (Value.int .i64)) [] 3) :: (b4, .cells zeroC [] 27) :: (b7, .cells B7 [] 27) :: (b2, .cells C [] 27) :: H ∧ fr = [(0, v0), (1, v1), (2, .pointer (some ⟨b2, 0, none⟩)), (4, .pointer (some ⟨b4, 0, none⟩)), (5, .int .i64 0), (6, .slice an3 d.label.length cn3), (7, v7), (8, .pointer (some ⟨b7, 0, none⟩)), (10, .int .i64 (t : Nat)), (11, .slice (some ⟨br, 0, none⟩) row.length row.length), (37, .slice ah l.length ch), (38, .int .i64 l.length), (39, .int .i64 (j : Nat)), (50, .slice b row.length c), (51, .int .i64 row.length), (52, .int .i64 (k : Nat))]) (row.length) ?_ ?_
  · refine Upd.now ?_
    exact ⟨0, by omega, fun i h h2 => by omega, rfl, rfl, rfl⟩
  · rintro q G1 fr H' hle hs ⟨k, hk, hall, rfl, rfl, rfl⟩
    have hpl : (partR r k).length = row.length := by rw [partR_len r (by omega), hrlen]
    by_cases hkl : k < row.length
    · have hsE := hs
      try simp only [zzs] at hsE
      repeat (obtain ⟨hsx, hsE⟩ := hsE)
      have hkr : k < r.length := by omega
      have had5 : Adr b := e2.adr (by rw [List.length_map]; omega)
      have hx := hrng _ (List.getElem_mem hkl)
      obtain ⟨y, hxy⟩ := Int.eq_ofNat_of_zero_le hx.1
      have hym : y < d.label.length := by omega
      have hval : findF l (y : Nat) = r[k] := by
        simp only [hr', List.getElem_map]
        rw [hxy]
      have hput := partR_put hkr
      by_cases hin : row[k] ∈ l
      · have hpos : 0 ≤ r[k] := by
          rw [← hval]
          refine findF_memW.2 ?_
          rw [← hxy]
          exact hin
        repeat' first
          | (with_reducible first | refine Br.yes ?_ | refine Br.no ?_ | refine Br.dec (fun _ => ?_) (fun _ => ?_) | refine Br.mk (fun _ => ?_) (fun _ => ?_) | refine appV.zero ?_ | refine appV.own ?_)
          | ((with_reducible first | refine NewB.mk (fun nb hnb => ?_) | refine NewRow.mk (fun nb nsp ncap hnb hncap => ?_)); have hnb1 := hnb.1.1; have hnb2 := hnb.1.2; try simp only [zzn] at hnb2)
          | simp (dsimp := false) (implicitDefEqProofs := false) (disch := first | assumption | (simp only [zzm]; done) | omega | (with_reducible refine Row.adr (by assumption) ?_; simp only [zzk]; omega) | (simp only [zzl, Nat.reduceAdd]; first | done | omega)) only [go_sem, ↓reduceIte, Nat.reduceEqDiff, Nat.reduceAdd, Nat.reduceSub, Nat.reduceMul, Nat.reduceBEq, Nat.reduceLT, Nat.reduceLeDiff, Nat.reduceMod, Nat.reducePow, List.reduceReplicate, UInt8.reduceOfNat, Int.reducePow, Int.reduceDiv, Int.reduceMod, Nat.reduceDiv, Int.reduceNeg, Int.reduceAdd, Int.reduceSub, Int.reduceMul, Int.reduceLE, Int.reduceLT, Int.reduceEq, Int.reduceToNat, reduceCtorEq, -List.reduceReplicate, Row.obj e2, Row.obj hr3, List.getElem_map, List.getElem_range, hxy, hval, hput, hpl, Int.toNat_natCast]
        all_goals try (exfalso; omega)
        refine Upd.now ?_
        exact ⟨q - 1, by omega, k + 1, by omega, fun i h h2 => by
          by_cases e : i = k
          · subst e; exact hin
          · exact hall i h (by omega), rfl, rfl, rfl⟩
      · have hneg : r[k] < 0 := by
          rw [← hval]
          rcases Int.lt_or_le (findF l (y : Int)) 0 with h | h
          · exact h
          · exact absurd (hxy ▸ findF_memW.1 h) hin
        repeat' first
          | (with_reducible first | refine Br.yes ?_ | refine Br.no ?_ | refine Br.dec (fun _ => ?_) (fun _ => ?_) | refine Br.mk (fun _ => ?_) (fun _ => ?_) | refine appV.zero ?_ | refine appV.own ?_)
          | ((with_reducible first | refine NewB.mk (fun nb hnb => ?_) | refine NewRow.mk (fun nb nsp ncap hnb hncap => ?_)); have hnb1 := hnb.1.1; have hnb2 := hnb.1.2; try simp only [zzn] at hnb2)
          | simp (dsimp := false) (implicitDefEqProofs := false) (disch := first | assumption | (simp only [zzm]; done) | omega | (with_reducible refine Row.adr (by assumption) ?_; simp only [zzk]; omega) | (simp only [zzl, Nat.reduceAdd]; first | done | omega)) only [go_sem, ↓reduceIte, Nat.reduceEqDiff, Nat.reduceAdd, Nat.reduceSub, Nat.reduceMul, Nat.reduceBEq, Nat.reduceLT, Nat.reduceLeDiff, Nat.reduceMod, Nat.reducePow, List.reduceReplicate, UInt8.reduceOfNat, Int.reducePow, Int.reduceDiv, Int.reduceMod, Nat.reduceDiv, Int.reduceNeg, Int.reduceAdd, Int.reduceSub, Int.reduceMul, Int.reduceLE, Int.reduceLT, Int.reduceEq, Int.reduceToNat, reduceCtorEq, -List.reduceReplicate, Row.obj e2, Row.obj hr3, List.getElem_map, List.getElem_range, hxy, hval, hpl, Int.toNat_natCast, zeroC_len, zeroC_one, zeroC_take, zeroC_put]
        all_goals try (exfalso; omega)
        exact Upd.go (H' := (b4, .cells zeroC [] 27) :: H) (by intro fsum; first | exact Nat.le_refl _ | (simp only [zzq]; omega)) (Upd.now ⟨hle, rfl, rfl⟩)
    · exact absurd (fun x hx => by
        obtain ⟨i, hi, rfl⟩ := List.getElem_of_mem hx
        exact hall i hi (by omega)) hfr
end Go.Proofs.YtefkpedhbijhkaaDoor
namespace Go.Proofs.YtefkpedhbijhkaaDoor
open Go Go.V Go.Proofs
set_option maxHeartbeats 32000000 in
theorem keep_t {d : DfaT} (hsm : SmallD d) {l : List Int} (hl : l.length ≤ 2000000) {G : PHeap} {H : Heap} {R : Value → PHeap → Heap → Prop} {v w : Value} (hv : IsD G d v) (hwl : Sl G (Value.int .i64) w l)
    (hR : ∀ G' v', PLe G G' → Sep G' (keys H) → IsD G' (keepR d l).1 v' → R (.tuple #[v', .int .i64 (keepR d l).2]) G' H) : FnT Tryd.prog 40 [v, w] G H R := by
  obtain ⟨C, an, al, ay, cn, cl, cs, rs, rfl, O⟩ := hv.opened
  obtain ⟨hm1, hm2, hm3, hm4, hm5⟩ := id hsm
  have hw0 := hwl
  obtain ⟨aw, cw, rfl, hroww, hcw⟩ := hwl
  have hCl := O.len
  have hCa := O.all
  have hCx := O.l
  refine FnT.sep ?_
  by_cases hok : RightP d
  · obtain ⟨hk1, hk2, hk3, hk4, hk5, hk6, hk7⟩ := id hok
    have hb := boolOf_yes hok
    have hl2 : ∀ a b c : Value, (cellsD d a b c).length = 260 := fun a b c => cellsD_len O.ofl _ _ _
    have ht2 : ∀ a b c : Value, List.take 260 (cellsD d a b c) = cellsD d a b c := fun a b c => cellsD_all O.ofl _ _ _
    have hputz : ∀ a b c : Value, splice zeroC 0 (cellsD d a b c) = cellsD d a b c := fun a b c => by
      unfold splice
      rw [List.take_zero, List.nil_append, List.drop_of_length_le (by rw [zeroC_len, hl2]; omega), List.append_nil]
    refine FnT.bodyS tok [0, 1, 2, 4, 5, 6, 7, 8, 10, 11, 12, 13, 16, 27, 37, 38, 39, 40, 50, 51, 52, 53, 61] (.seq .run (.seq .run (.seq .run (.seq .run (.seq .cut .cut))))) Tryd.func40 rfl (by kernel_rfl) (by kernel_rfl) (by show _ ≤ 89; simp) fun hsep => ?_
    rw [Tryd.results40]
    have hsE := hsep
    try simp only [zzs] at hsE
    repeat (obtain ⟨hsx, hsE⟩ := hsE)
    repeat' first
      | (with_reducible first | refine Br.yes ?_ | refine Br.no ?_ | refine Br.dec (fun _ => ?_) (fun _ => ?_) | refine Br.mk (fun _ => ?_) (fun _ => ?_) | refine appV.zero ?_ | refine appV.own ?_)
      | ((with_reducible first | refine NewB.mk (fun nb hnb => ?_) | refine NewRow.mk (fun nb nsp ncap hnb hncap => ?_)); have hnb1 := hnb.1.1; have hnb2 := hnb.1.2; try simp only [zzn] at hnb2)
      | simp (dsimp := false) (implicitDefEqProofs := false) (disch := first | assumption | (simp only [zzm]; done) | omega | (with_reducible refine Row.adr (by assumption) ?_; simp only [zzk]; omega) | (simp only [zzl, Nat.reduceAdd]; first | done | omega)) only [go_sem, ↓reduceIte, Nat.reduceEqDiff, Nat.reduceAdd, Nat.reduceSub, Nat.reduceMul, Nat.reduceBEq, Nat.reduceLT, Nat.reduceLeDiff, Nat.reduceMod, Nat.reducePow, List.reduceReplicate, UInt8.reduceOfNat, Int.reducePow, Int.reduceDiv, Int.reduceMod, Nat.reduceDiv, Int.reduceNeg, Int.reduceAdd, Int.reduceSub, Int.reduceMul, Int.reduceLE, Int.reduceLT, Int.reduceEq, Int.reduceToNat, reduceCtorEq, -List.reduceReplicate, List.toList_toArray, hCl, hCa, hCx, hb]
      | with_reducible refine right_t hsm O.is ?_
    rename_i b2 hb20 hb21 hb22
    obtain ⟨b4, e0⟩ : ∃ x, x = nb := ⟨_, rfl⟩
    subst e0
    refine FnT.upd (places_t hk1 hk2 hl hw0 (fun G2 b hle2 hs2 hO => ?_) (fun G2 hle2 hs2 hno => ?_))
    · refine Upd.shareRow hs2.1.1 fun G3 hle3 hs3 hr3 => ?_
      rw [atR_ints] at hr3
      have hsE := hs3
      try simp only [zzs] at hsE
      repeat (obtain ⟨hsx, hsE⟩ := hsE)
      have k3 := hle2.trans hle3
      have O3 := O.mono k3
      by_cases hh : l.head? = some 0
      · rw [decide_eq_true hh]
        repeat' first
          | (with_reducible first | refine Br.yes ?_ | refine Br.no ?_ | refine Br.dec (fun _ => ?_) (fun _ => ?_) | refine Br.mk (fun _ => ?_) (fun _ => ?_) | refine appV.zero ?_ | refine appV.own ?_)
          | ((with_reducible first | refine NewB.mk (fun nb hnb => ?_) | refine NewRow.mk (fun nb nsp ncap hnb hncap => ?_)); have hnb1 := hnb.1.1; have hnb2 := hnb.1.2; try simp only [zzn] at hnb2)
          | simp (dsimp := false) (implicitDefEqProofs := false) (disch := first | assumption | (simp only [zzm]; done) | omega | (with_reducible refine Row.adr (by assumption) ?_; simp only [zzk]; omega) | (simp only [zzl, Nat.reduceAdd]; first | done | omega)) only [go_sem, ↓reduceIte, Nat.reduceEqDiff, Nat.reduceAdd, Nat.reduceSub, Nat.reduceMul, Nat.reduceBEq, Nat.reduceLT, Nat.reduceLeDiff, Nat.reduceMod, Nat.reducePow, List.reduceReplicate, UInt8.reduceOfNat, Int.reducePow, Int.reduceDiv, Int.reduceMod, Nat.reduceDiv, Int.reduceNeg, Int.reduceAdd, Int.reduceSub, Int.reduceMul, Int.reduceLE, Int.reduceLT, Int.reduceEq, Int.reduceToNat, reduceCtorEq, -List.reduceReplicate, List.toList_toArray]
        refine Tri.isPiece [1, 1, 1, 1, 0] Tryd.f40 (by kernel_rfl) ?_
        refine Tri.live [0, 1, 2, 4, 5, 6, 7] ?_
        refine Tri.onlyN (kp6_t hsm O3) fun G4 l4 H4 hle4 hs4 hM => ?_
        obtain ⟨b7, vs, _, hvs, hfr, rfl⟩ := hM
        simp only [go_sem]
        refine Tri.live [0, 1, 2, 4, 5, 6, 7, 8] ?_
        rw [hfr]
        have hsE := hs4
        try simp only [zzs] at hsE
        repeat (obtain ⟨hsx, hsE⟩ := hsE)
        have O4 := O3.mono hle4
        obtain ⟨ay4, cy4, rfl, hr4y, hcy4⟩ := id hvs
        refine Tri.run tok [0, 1, 2, 4, 5, 6, 7, 8, 10, 11, 12, 13, 16, 27, 37, 38, 39, 40, 50, 51, 52, 53, 61] (by kernel_rfl) ?_
        repeat' first
          | (with_reducible first | refine Br.yes ?_ | refine Br.no ?_ | refine Br.dec (fun _ => ?_) (fun _ => ?_) | refine Br.mk (fun _ => ?_) (fun _ => ?_) | refine appV.zero ?_ | refine appV.own ?_)
          | ((with_reducible first | refine NewB.mk (fun nb hnb => ?_) | refine NewRow.mk (fun nb nsp ncap hnb hncap => ?_)); have hnb1 := hnb.1.1; have hnb2 := hnb.1.2; try simp only [zzn] at hnb2)
          | simp (dsimp := false) (implicitDefEqProofs := false) (disch := first | assumption | (simp only [zzm]; done) | omega | (with_reducible refine Row.adr (by assumption) ?_; simp only [zzk]; omega) | (simp only [zzl, Nat.reduceAdd]; first | done | omega)) only [go_sem, ↓reduceIte, Nat.reduceEqDiff, Nat.reduceAdd, Nat.reduceSub, Nat.reduceMul, Nat.reduceBEq, Nat.reduceLT, Nat.reduceLeDiff, Nat.reduceMod, Nat.reducePow, List.reduceReplicate, UInt8.reduceOfNat, Int.reducePow, Int.reduceDiv, Int.reduceMod, Nat.reduceDiv, Int.reduceNeg, Int.reduceAdd, Int.reduceSub, Int.reduceMul, Int.reduceLE, Int.reduceLT, Int.reduceEq, Int.reduceToNat, reduceCtorEq, -List.reduceReplicate, List.toList_toArray]
        have hln : l.length ≤ d.label.length := hO.len
        have hpos : 0 < l.length := by
          rcases l with _ | ⟨x, l⟩
          · cases hh
          · simp
        refine Tri.loopS tok [0, 1, 2, 4, 5, 6, 7, 8, 10, 11, 12, 13, 16, 27, 37, 38, 39, 40, 50, 51, 52, 53, 61] (.seq .run (.seq .run (.seq (.block .cut) .cut))) (by kernel_rfl) [0, 1, 2, 4, 5, 6, 7, 8, 37, 38, 39] (fun q G' fr H' => ∃ (j : Nat) (vn vl : Value) (kn kl : Heap), j + q = l.length ∧ PLe G4 G' ∧ (∀ i (h : i < l.length), i < j → fineK d l l[i]) ∧ RowK d l G' j vn kn ∧ LabK d l j vl kl ∧ H' = (b7, .cells (cellsD d vn vl (.slice ay4 d.names.length cy4)) [] 27) :: (b2, .cells C [] 27) :: (kn ++ (kl ++ ((b4, .cells zeroC [] 27) :: H))) ∧ fr = [(0, .agg (List.toArray C)), (1, .slice aw l.length cw), (2, .pointer (some ⟨b2, 0, none⟩)), (4, .pointer (some ⟨b4, 0, none⟩)), (5, .int .i64 0), (6, .slice (some ⟨b, 0, none⟩) d.label.length d.label.length), (7, .bool true), (8, .pointer (some ⟨b7, 0, none⟩)), (37, .slice aw l.length cw), (38, .int .i64 l.length), (39, .int .i64 (j : Nat))]) (l.length) ?_ ?_
        · exact Upd.go (H' := (b7, .cells (cellsD d (.slice none 0 0) (.slice none 0 0) (.slice ay4 d.names.length cy4)) [] 27) :: (b2, .cells C [] 27) :: ([] ++ ([] ++ ((b4, .cells zeroC [] 27) :: H)))) (by intro fsum; first | exact Nat.le_refl _ | (simp only [zzq]; omega)) (Upd.now ⟨0, _, _, [], [], by omega, PLe.refl _, fun i h h2 => by omega, .inl ⟨rfl, rfl, rfl⟩, .inl ⟨rfl, rfl, rfl⟩, rfl, rfl⟩)
        · rintro q G6 fr H' hle6 hs6 ⟨j, vn, vl, kn, kl, hj, hleG6, hfine, hro, hlo, rfl, rfl⟩
          have O6 := O4.mono hleG6
          have k6 := (k3.trans hle4).trans hleG6
          by_cases hjl : j < l.length
          · by_cases hfj : fineK d l l[j]
            · repeat' first
                | (with_reducible first | refine Br.yes ?_ | refine Br.no ?_ | refine Br.dec (fun _ => ?_) (fun _ => ?_) | refine Br.mk (fun _ => ?_) (fun _ => ?_) | refine appV.zero ?_ | refine appV.own ?_)
                | ((with_reducible first | refine NewB.mk (fun nb hnb => ?_) | refine NewRow.mk (fun nb nsp ncap hnb hncap => ?_)); have hnb1 := hnb.1.1; have hnb2 := hnb.1.2; try simp only [zzn] at hnb2)
                | simp (dsimp := false) (implicitDefEqProofs := false) (disch := first | assumption | (simp only [zzm]; done) | omega | (with_reducible refine Row.adr (by assumption) ?_; simp only [zzk]; omega) | (simp only [zzl, Nat.reduceAdd]; first | done | omega)) only [go_sem, ↓reduceIte, Nat.reduceEqDiff, Nat.reduceAdd, Nat.reduceSub, Nat.reduceMul, Nat.reduceBEq, Nat.reduceLT, Nat.reduceLeDiff, Nat.reduceMod, Nat.reducePow, List.reduceReplicate, UInt8.reduceOfNat, Int.reducePow, Int.reduceDiv, Int.reduceMod, Nat.reduceDiv, Int.reduceNeg, Int.reduceAdd, Int.reduceSub, Int.reduceMul, Int.reduceLE, Int.reduceLT, Int.reduceEq, Int.reduceToNat, reduceCtorEq, -List.reduceReplicate, List.toList_toArray]
              refine Tri.live [0, 1, 2, 4, 5, 6, 7, 8, 37, 38, 39] ?_
              refine Tri.isPiece [1, 1, 1, 1, 1, 0, 1, 0, 0, 1, 1, 0, 0] Tryd.f40 (by kernel_rfl) ?_
              refine Tri.onlyN (kx_t hsm hok hO O6 ((hr3.mono hle4).mono hleG6) (hroww.mono k6) hjl hro hlo rfl hfj) fun G7 l7 H7 hle7 hs7 hM => ?_
              obtain ⟨vn', vl', kn', kl', _, hro', hlo', hfr', rfl⟩ := hM
              simp only [go_sem]
              refine Tri.live [0, 1, 2, 4, 5, 6, 7, 8, 37, 38, 39] ?_
              rw [hfr']
              refine Tri.run tok [0, 1, 2, 4, 5, 6, 7, 8, 10, 11, 12, 13, 16, 27, 37, 38, 39, 40, 50, 51, 52, 53, 61] (by kernel_rfl) ?_
              repeat' first
                | (with_reducible first | refine Br.yes ?_ | refine Br.no ?_ | refine Br.dec (fun _ => ?_) (fun _ => ?_) | refine Br.mk (fun _ => ?_) (fun _ => ?_) | refine appV.zero ?_ | refine appV.own ?_)
                | ((with_reducible first | refine NewB.mk (fun nb hnb => ?_) | refine NewRow.mk (fun nb nsp ncap hnb hncap => ?_)); have hnb1 := hnb.1.1; have hnb2 := hnb.1.2; try simp only [zzn] at hnb2)
                | simp (dsimp := false) (implicitDefEqProofs := false) (disch := first | assumption | (simp only [zzm]; done) | omega | (with_reducible refine Row.adr (by assumption) ?_; simp only [zzk]; omega) | (simp only [zzl, Nat.reduceAdd]; first | done | omega)) only [go_sem, ↓reduceIte, Nat.reduceEqDiff, Nat.reduceAdd, Nat.reduceSub, Nat.reduceMul, Nat.reduceBEq, Nat.reduceLT, Nat.reduceLeDiff, Nat.reduceMod, Nat.reducePow, List.reduceReplicate, UInt8.reduceOfNat, Int.reducePow, Int.reduceDiv, Int.reduceMod, Nat.reduceDiv, Int.reduceNeg, Int.reduceAdd, Int.reduceSub, Int.reduceMul, Int.reduceLE, Int.reduceLT, Int.reduceEq, Int.reduceToNat, reduceCtorEq, -List.reduceReplicate, List.toList_toArray]
              refine Upd.now ?_
              exact ⟨q - 1, by omega, j + 1, vn', vl', kn', kl', by omega, hleG6.trans hle7, fun i h h2 => by
                by_cases e : i = j
                · subst e; exact hfj
                · exact hfine i h (by omega), hro', hlo', rfl, rfl⟩
            · have hno : ¬ KeepOk d l := fun h => hfj (h.2 _ (List.getElem_mem hjl))
              rw [keepR_not hok hno] at hR
              repeat' first
                | (with_reducible first | refine Br.yes ?_ | refine Br.no ?_ | refine Br.dec (fun _ => ?_) (fun _ => ?_) | refine Br.mk (fun _ => ?_) (fun _ => ?_) | refine appV.zero ?_ | refine appV.own ?_)
                | ((with_reducible first | refine NewB.mk (fun nb hnb => ?_) | refine NewRow.mk (fun nb nsp ncap hnb hncap => ?_)); have hnb1 := hnb.1.1; have hnb2 := hnb.1.2; try simp only [zzn] at hnb2)
                | simp (dsimp := false) (implicitDefEqProofs := false) (disch := first | assumption | (simp only [zzm]; done) | omega | (with_reducible refine Row.adr (by assumption) ?_; simp only [zzk]; omega) | (simp only [zzl, Nat.reduceAdd]; first | done | omega)) only [go_sem, ↓reduceIte, Nat.reduceEqDiff, Nat.reduceAdd, Nat.reduceSub, Nat.reduceMul, Nat.reduceBEq, Nat.reduceLT, Nat.reduceLeDiff, Nat.reduceMod, Nat.reducePow, List.reduceReplicate, UInt8.reduceOfNat, Int.reducePow, Int.reduceDiv, Int.reduceMod, Nat.reduceDiv, Int.reduceNeg, Int.reduceAdd, Int.reduceSub, Int.reduceMul, Int.reduceLE, Int.reduceLT, Int.reduceEq, Int.reduceToNat, reduceCtorEq, -List.reduceReplicate, List.toList_toArray]
              refine Tri.live [0, 1, 2, 4, 5, 6, 7, 8, 37, 38, 39] ?_
              refine Tri.upd (Upd.go (H' := (b4, .cells zeroC [] 27) :: (b7, .cells (cellsD d vn vl (.slice ay4 d.names.length cy4)) [] 27) :: (b2, .cells C [] 27) :: (kn ++ (kl ++ H))) (by intro fsum; first | exact Nat.le_refl _ | (simp only [zzq]; omega)) (Upd.now ?_))
              refine Tri.isPiece [1, 1, 1, 1, 1, 0, 1, 0, 0, 1, 1, 0, 0] Tryd.f40 (by kernel_rfl) ?_
              refine Tri.onlyR (kxb_t hsm hok hO O6 ((hr3.mono hle4).mono hleG6) (hroww.mono k6) hjl hfj) fun G7 l7 H7 hle7 hs7 hM => ?_
              obtain ⟨_, hfr', rfl⟩ := hM
              have hsE := hs7
              try simp only [zzs] at hsE
              repeat (obtain ⟨hsx, hsE⟩ := hsE)
              have h4 : V.look l7 4 = some (.pointer (some ⟨b4, 0, none⟩)) := look_restrict [4, 5] l7 4 _ (by rw [hfr']; rfl)
              have h5 : V.look l7 5 = some (.int .i64 1) := look_restrict [4, 5] l7 5 _ (by rw [hfr']; rfl)
              repeat' first
                | (with_reducible first | refine Br.yes ?_ | refine Br.no ?_ | refine Br.dec (fun _ => ?_) (fun _ => ?_) | refine Br.mk (fun _ => ?_) (fun _ => ?_) | refine appV.zero ?_ | refine appV.own ?_)
                | ((with_reducible first | refine NewB.mk (fun nb hnb => ?_) | refine NewRow.mk (fun nb nsp ncap hnb hncap => ?_)); have hnb1 := hnb.1.1; have hnb2 := hnb.1.2; try simp only [zzn] at hnb2)
                | simp (dsimp := false) (implicitDefEqProofs := false) (disch := first | assumption | (simp only [zzm]; done) | omega | (with_reducible refine Row.adr (by assumption) ?_; simp only [zzk]; omega) | (simp only [zzl, Nat.reduceAdd]; first | done | omega)) only [go_sem, ↓reduceIte, Nat.reduceEqDiff, Nat.reduceAdd, Nat.reduceSub, Nat.reduceMul, Nat.reduceBEq, Nat.reduceLT, Nat.reduceLeDiff, Nat.reduceMod, Nat.reducePow, List.reduceReplicate, UInt8.reduceOfNat, Int.reducePow, Int.reduceDiv, Int.reduceMod, Nat.reduceDiv, Int.reduceNeg, Int.reduceAdd, Int.reduceSub, Int.reduceMul, Int.reduceLE, Int.reduceLT, Int.reduceEq, Int.reduceToNat, reduceCtorEq, -List.reduceReplicate, List.toList_toArray, h4, h5, zeroC_len, zeroC_one, zeroC_take, zeroC_put]
              unfold UpdR
              refine Upd.leave (H' := H) (by intro fsum; first | exact Nat.le_refl _ | (simp only [zzq]; omega)) ?_
              exact fun _ hs => hR G7 _ (k6.trans hle7) hs (zeroD_is _)
          · obtain rfl : j = l.length := by omega
            have hko : KeepOk d l := ⟨⟨hO, hh⟩, fun x hx => by
              obtain ⟨i, hi, rfl⟩ := List.getElem_of_mem hx
              exact hfine i hi hi⟩
            rw [keepR_ok hok hko] at hR
            rcases hro with ⟨hj0, _, _⟩ | ⟨bn, c1, rv, sp1, rfl, rfl, hrv, hc1, hrws⟩
            · exact absurd hj0 (by omega)
            rcases hlo with ⟨hj0, _, _⟩ | ⟨bl, c2, sp2, rfl, rfl, hc2⟩
            · exact absurd hj0 (by omega)
            have hsE := hs6
            try simp only [zzs] at hsE
            repeat (obtain ⟨hsx, hsE⟩ := hsE)
            have hone := cellsD_one (d := d) (vn := .slice (some ⟨bn, 0, none⟩) l.length c1) (vl := .slice (some ⟨bl, 0, none⟩) l.length c2) (vs := .slice ay4 d.names.length cy4) rfl rfl rfl
            have hLl : (labF d l).length = l.length := by unfold labF; rw [List.length_map]
            rw [show (labF d l).take l.length = labF d l by rw [← hLl, List.take_length]]
            repeat' first
              | (with_reducible first | refine Br.yes ?_ | refine Br.no ?_ | refine Br.dec (fun _ => ?_) (fun _ => ?_) | refine Br.mk (fun _ => ?_) (fun _ => ?_) | refine appV.zero ?_ | refine appV.own ?_)
              | ((with_reducible first | refine NewB.mk (fun nb hnb => ?_) | refine NewRow.mk (fun nb nsp ncap hnb hncap => ?_)); have hnb1 := hnb.1.1; have hnb2 := hnb.1.2; try simp only [zzn] at hnb2)
              | simp (dsimp := false) (implicitDefEqProofs := false) (disch := first | assumption | (simp only [zzm]; done) | omega | (with_reducible refine Row.adr (by assumption) ?_; simp only [zzk]; omega) | (simp only [zzl, Nat.reduceAdd]; first | done | omega)) only [go_sem, ↓reduceIte, Nat.reduceEqDiff, Nat.reduceAdd, Nat.reduceSub, Nat.reduceMul, Nat.reduceBEq, Nat.reduceLT, Nat.reduceLeDiff, Nat.reduceMod, Nat.reducePow, List.reduceReplicate, UInt8.reduceOfNat, Int.reducePow, Int.reduceDiv, Int.reduceMod, Nat.reduceDiv, Int.reduceNeg, Int.reduceAdd, Int.reduceSub, Int.reduceMul, Int.reduceLE, Int.reduceLT, Int.reduceEq, Int.reduceToNat, reduceCtorEq, -List.reduceReplicate, List.toList_toArray, hl2, ht2, hputz, hone, zeroC_len]
            unfold UpdR
            refine Upd.go (H' := (bn, .cells rv sp1 24) :: (bl, .cells ((labF d l).map (Value.int .i64)) sp2 3) :: H) (by intro fsum; first | exact Nat.le_refl _ | (simp only [zzq]; omega)) (Upd.trans (Upd.shareRow (by assumption) fun G7 hle7 hs7 hr7 => ?_))
            refine Upd.shareRow hs7.1.1 fun G8 hle8 hs8 hr8 => ?_
            have k8 := hle7.trans hle8
            refine fun _ hs => hR G8 _ (k6.trans k8) hs ?_
            refine ⟨O.ofl, O.ofb, _, _, _, rfl, ⟨some ⟨bn, 0, none⟩, c1, rv, ?_, hr7.mono hle8, ?_, ?_, fun i h h2 => ?_⟩, ⟨some ⟨bl, 0, none⟩, c2, ?_, hr8, ?_⟩, ⟨ay4, cy4, rfl, hr4y.mono (hleG6.trans k8), hcy4⟩⟩
            · simp only [keepD, List.length_map]
            · simp only [keepD, List.length_map]; exact hrv
            · simp only [keepD, List.length_map]; omega
            · have hi : i < l.length := by simp only [keepD, List.length_map] at h; exact h
              obtain ⟨b', c', f1, f2, f3⟩ := hrws i hi h2 hi
              refine ⟨b', c', ?_, ?_, ?_⟩
              · simp only [keepD, List.getElem_map]; exact f1
              · simp only [keepD, List.getElem_map]; exact f2.mono k8
              · simp only [keepD, List.getElem_map]; exact f3
            · simp only [keepD, hLl]
            · simp only [keepD, hLl]; omega
      · rw [decide_eq_false hh]
        have hno : ¬ KeepOk d l := fun h => hh h.1.2
        rw [keepR_not hok hno] at hR
        repeat' first
          | (with_reducible first | refine Br.yes ?_ | refine Br.no ?_ | refine Br.dec (fun _ => ?_) (fun _ => ?_) | refine Br.mk (fun _ => ?_) (fun _ => ?_) | refine appV.zero ?_ | refine appV.own ?_)
          | ((with_reducible first | refine NewB.mk (fun nb hnb => ?_) | refine NewRow.mk (fun nb nsp ncap hnb hncap => ?_)); have hnb1 := hnb.1.1; have hnb2 := hnb.1.2; try simp only [zzn] at hnb2)
          | simp (dsimp := false) (implicitDefEqProofs := false) (disch := first | assumption | (simp only [zzm]; done) | omega | (with_reducible refine Row.adr (by assumption) ?_; simp only [zzk]; omega) | (simp only [zzl, Nat.reduceAdd]; first | done | omega)) only [go_sem, ↓reduceIte, Nat.reduceEqDiff, Nat.reduceAdd, Nat.reduceSub, Nat.reduceMul, Nat.reduceBEq, Nat.reduceLT, Nat.reduceLeDiff, Nat.reduceMod, Nat.reducePow, List.reduceReplicate, UInt8.reduceOfNat, Int.reducePow, Int.reduceDiv, Int.reduceMod, Nat.reduceDiv, Int.reduceNeg, Int.reduceAdd, Int.reduceSub, Int.reduceMul, Int.reduceLE, Int.reduceLT, Int.reduceEq, Int.reduceToNat, reduceCtorEq, -List.reduceReplicate, List.toList_toArray, zeroC_len, zeroC_one, zeroC_take, zeroC_put]
        unfold UpdR
        refine Upd.leave (H' := H) (by intro fsum; first | exact Nat.le_refl _ | (simp only [zzq]; omega)) ?_
        exact fun _ hs => hR G3 _ k3 hs (zeroD_is _)
    · have hno : ¬ KeepOk d l := fun h => hno h.1.1
      rw [keepR_not hok hno] at hR
      refine Upd.now ?_
      have hsE := hs2
      try simp only [zzs] at hsE
      repeat (obtain ⟨hsx, hsE⟩ := hsE)
      repeat' first
        | (with_reducible first | refine Br.yes ?_ | refine Br.no ?_ | refine Br.dec (fun _ => ?_) (fun _ => ?_) | refine Br.mk (fun _ => ?_) (fun _ => ?_) | refine appV.zero ?_ | refine appV.own ?_)
        | ((with_reducible first | refine NewB.mk (fun nb hnb => ?_) | refine NewRow.mk (fun nb nsp ncap hnb hncap => ?_)); have hnb1 := hnb.1.1; have hnb2 := hnb.1.2; try simp only [zzn] at hnb2)
        | simp (dsimp := false) (implicitDefEqProofs := false) (disch := first | assumption | (simp only [zzm]; done) | omega | (with_reducible refine Row.adr (by assumption) ?_; simp only [zzk]; omega) | (simp only [zzl, Nat.reduceAdd]; first | done | omega)) only [go_sem, ↓reduceIte, Nat.reduceEqDiff, Nat.reduceAdd, Nat.reduceSub, Nat.reduceMul, Nat.reduceBEq, Nat.reduceLT, Nat.reduceLeDiff, Nat.reduceMod, Nat.reducePow, List.reduceReplicate, UInt8.reduceOfNat, Int.reducePow, Int.reduceDiv, Int.reduceMod, Nat.reduceDiv, Int.reduceNeg, Int.reduceAdd, Int.reduceSub, Int.reduceMul, Int.reduceLE, Int.reduceLT, Int.reduceEq, Int.reduceToNat, reduceCtorEq, -List.reduceReplicate, List.toList_toArray, zeroC_len, zeroC_one, zeroC_take, zeroC_put]
      unfold UpdR
      refine Upd.leave (H' := H) (by intro fsum; first | exact Nat.le_refl _ | (simp only [zzq]; omega)) ?_
      exact fun _ hs => hR G2 _ hle2 hs (zeroD_is _)
  · have hb := boolOf_no hok
    rw [keepR_bad hok] at hR
    refine FnT.body tok [0, 1, 2, 4, 5, 6, 7, 8, 10, 11, 12, 13, 16, 27, 37, 38, 39, 40, 50, 51, 52, 53, 61] Tryd.func40 rfl (by kernel_rfl) (by kernel_rfl) (by show _ ≤ 89; simp) fun hsep => ?_
    rw [Tryd.results40]
    have hsE := hsep
    try simp only [zzs] at hsE
    repeat (obtain ⟨hsx, hsE⟩ := hsE)
    repeat' first
      | (with_reducible first | refine Br.yes ?_ | refine Br.no ?_ | refine Br.dec (fun _ => ?_) (fun _ => ?_) | refine Br.mk (fun _ => ?_) (fun _ => ?_) | refine appV.zero ?_ | refine appV.own ?_)
      | ((with_reducible first | refine NewB.mk (fun nb hnb => ?_) | refine NewRow.mk (fun nb nsp ncap hnb hncap => ?_)); have hnb1 := hnb.1.1; have hnb2 := hnb.1.2; try simp only [zzn] at hnb2)
      | simp (dsimp := false) (implicitDefEqProofs := false) (disch := first | assumption | (simp only [zzm]; done) | omega | (with_reducible refine Row.adr (by assumption) ?_; simp only [zzk]; omega) | (simp only [zzl, Nat.reduceAdd]; first | done | omega)) only [go_sem, ↓reduceIte, Nat.reduceEqDiff, Nat.reduceAdd, Nat.reduceSub, Nat.reduceMul, Nat.reduceBEq, Nat.reduceLT, Nat.reduceLeDiff, Nat.reduceMod, Nat.reducePow, List.reduceReplicate, UInt8.reduceOfNat, Int.reducePow, Int.reduceDiv, Int.reduceMod, Nat.reduceDiv, Int.reduceNeg, Int.reduceAdd, Int.reduceSub, Int.reduceMul, Int.reduceLE, Int.reduceLT, Int.reduceEq, Int.reduceToNat, reduceCtorEq, -List.reduceReplicate, List.toList_toArray, hCl, hCa, zeroC_len, zeroC_one, zeroC_take, zeroC_put, hb]
      | with_reducible refine right_t hsm O.is ?_
    unfold UpdR
    refine Upd.leave (H' := H) (by intro fsum; first | exact Nat.le_refl _ | (simp only [zzq]; omega)) ?_
    exact fun _ hs => hR G _ (PLe.refl _) hs (zeroD_is _)
end Go.Proofs.YtefkpedhbijhkaaDoor
namespace Go.Proofs.YtefkpedhbijhkaaDoor
open Go Go.V Go.Proofs
theorem reach_once {d : DfaT} (hok : RightP d) : OnceN d.label.length [0] := ⟨by simp, fun x hx => by rw [List.mem_singleton] at hx; have := hok.1; omega⟩
theorem reachL_once {d : DfaT} (hok : RightP d) : OnceN d.label.length (reachL d) := bw_once (reach_once hok) (nextF_ok hok) _
theorem reachL_pre (d : DfaT) : ∃ X, reachL d = 0 :: X := by
  obtain ⟨X, h⟩ := bw_pre' (nextF d) [0] 0 d.label.length
  rw [Nat.zero_add] at h
  exact ⟨X, h⟩
theorem reachL_head (d : DfaT) : (reachL d).head? = some 0 := by
  obtain ⟨X, h⟩ := reachL_pre d
  rw [h]; rfl
theorem reachL_keep {d : DfaT} (hok : RightP d) : KeepOk d (reachL d) := ⟨⟨reachL_once hok, reachL_head d⟩, fun s hs => bw_closed (reach_once hok) (nextF_ok hok) hs⟩
/-- the trimmed machine -/
def trimD (d : DfaT) : DfaT := keepD d (reachL d)
noncomputable def trimR (d : DfaT) : DfaT × Int := keepR d (reachD d)
theorem trimR_ok {d : DfaT} (h : RightP d) : trimR d = (trimD d, 0) := by
  unfold trimR
  have : reachD d = reachL d := by unfold reachD; rw [if_pos (boolOf_yes h)]
  rw [this, keepR_ok h (reachL_keep h)]; rfl
/-- what a kept machine is -/
theorem keepD_next {d : DfaT} {l : List Int} {i : Nat} (h : i < l.length) : (keepD d l).next[i]'(by unfold keepD; simpa using h) = rowK d l l[i] := by simp [keepD]
theorem keepD_label {d : DfaT} {l : List Int} {i : Nat} (h : i < l.length) : (keepD d l).label[i]'(by unfold keepD labF; simpa using h) = d.label.getD l[i].toNat 0 := by simp [keepD, labF]
theorem keepD_len (d : DfaT) (l : List Int) : (keepD d l).next.length = l.length ∧ (keepD d l).label.length = l.length := by simp [keepD, labF]
theorem findF_at {l : List Int} {x : Int} (h : x ∈ l) : ∃ (i : Nat) (hi : i < l.length), findF l x = i ∧ l[i] = x := by
  obtain ⟨n, hn⟩ := place_mem h
  obtain ⟨h1, h2⟩ := place_some hn
  rw [List.getElem?_eq_getElem h1] at h2
  exact ⟨n, h1, findF_some hn, Option.some.inj h2⟩
theorem keep_right {d : DfaT} {l : List Int} (hok : RightP d) (hk : KeepOk d l) : RightP (keepD d l) := by
  obtain ⟨hk1, hk2, hk3, hk4, hk5, hk6, hk7⟩ := id hok
  obtain ⟨⟨hO, hh⟩, hf⟩ := hk
  have hl := hO.len
  have hpos : 0 < l.length := by
    rcases l with _ | ⟨x, l⟩
    · cases hh
    · simp
  obtain ⟨e1, e2⟩ := keepD_len d l
  refine ⟨by omega, by omega, by omega, hk4, hk5, hk6, fun s h1 h2 => ?_⟩
  have hs : s < l.length := by omega
  have hx := hO.2 _ (List.getElem_mem hs)
  obtain ⟨t, ht⟩ := Int.eq_ofNat_of_zero_le hx.1
  have htn : t < d.next.length := by omega
  obtain ⟨g1, g2, g3, g4⟩ := hk7 t htn (by omega)
  rw [keepD_next hs, keepD_label hs]
  unfold rowK
  rw [ht, nextF_get htn]
  refine ⟨by rw [List.length_map]; exact g1, ?_, ?_, fun y hy => ?_⟩
  · rw [Int.toNat_natCast, List.getD_eq_getElem?_getD, List.getElem?_eq_getElem (by omega), Option.getD_some]; exact g2
  · rw [Int.toNat_natCast, List.getD_eq_getElem?_getD, List.getElem?_eq_getElem (by omega), Option.getD_some]; exact g3
  · rw [List.mem_map] at hy
    obtain ⟨z, hz, rfl⟩ := hy
    have hzl := hf _ (List.getElem_mem hs) z (by rw [ht, nextF_get htn]; exact hz)
    obtain ⟨i, hi, h3, _⟩ := findF_at hzl
    rw [h3, e2]
    omega
theorem trim_small {d : DfaT} (hsm : SmallD d) (hok : RightP d) : SmallD (trimD d) := by
  obtain ⟨hm1, hm2, hm3, hm4, hm5⟩ := id hsm
  obtain ⟨e1, e2⟩ := keepD_len d (reachL d)
  have hO := reachL_once hok
  have hl := hO.len
  have hk3 := hok.2.2.1
  refine ⟨by show (keepD d (reachL d)).next.length ≤ _; omega, fun r hr => ?_, by show (keepD d (reachL d)).label.length ≤ _; omega, hm4, hm5⟩
  obtain ⟨x, hx, rfl⟩ := List.mem_map.1 (show r ∈ (reachL d).map (rowK d (reachL d)) from hr)
  have hb := hO.2 x hx
  obtain ⟨t, rfl⟩ := Int.eq_ofNat_of_zero_le hb.1
  unfold rowK
  rw [nextF_get (by omega), List.length_map]
  exact hm2 _ (List.getElem_mem _)
theorem isD_one {G : PHeap} {d : DfaT} {C : List Value} (h : IsD G d (.agg C.toArray)) : C.all oneV = true := by
  obtain ⟨_, _, vn, vl, vs, e, ⟨an, cn, rs, rfl, _⟩, ⟨al, cl, rfl, _⟩, ⟨ay, cy, rfl, _⟩⟩ := h
  have e2 := congrArg (fun v => match v with | Value.agg a => a.toList | _ => []) e
  simp only [List.toList_toArray] at e2
  rw [e2]; exact cellsD_one rfl rfl rfl
theorem isD_put {C : List Value} (h : C.length = 260) : splice zeroC 0 C = C := by
  unfold splice
  rw [List.take_zero, List.nil_append, List.drop_of_length_le (by rw [zeroC_len]; omega), List.append_nil]
set_option maxHeartbeats 16000000 in
theorem trim_t {d : DfaT} (hsm : SmallD d) {G : PHeap} {H : Heap} {R : Value → PHeap → Heap → Prop} {v : Value} (hv : IsD G d v)
    (hR : ∀ G' v', PLe G G' → Sep G' (keys H) → IsD G' (trimR d).1 v' → R (.tuple #[v', .int .i64 (trimR d).2]) G' H) : FnT Tryd.prog 22 [v] G H R := by
  obtain ⟨C, an, al, ay, cn, cl, cs, rs, rfl, O⟩ := hv.opened
  have hCl := O.len
  have hCa := O.all
  have hrl : (reachD d).length ≤ 2000000 := by
    by_cases hok : RightP d
    · have h1 : reachD d = reachL d := by unfold reachD; rw [if_pos (boolOf_yes hok)]
      have h2 := (reachL_once hok).len
      have h3 := hok.2.1
      rw [h1]; omega
    · have h1 : reachD d = [] := by unfold reachD; rw [if_neg (by rw [boolOf_no hok]; exact Bool.false_ne_true)]
      rw [h1]; simp
  refine FnT.sep ?_
  refine FnT.body tok [0, 1, 2, 3] Tryd.func22 rfl (by kernel_rfl) (by kernel_rfl) (by show _ ≤ 10; simp) fun hsep => ?_
  rw [Tryd.results22]
  have hsE := hsep
  try simp only [zzs] at hsE
  repeat (obtain ⟨hsx, hsE⟩ := hsE)
  repeat' first
    | (with_reducible first | refine Br.yes ?_ | refine Br.no ?_ | refine Br.dec (fun _ => ?_) (fun _ => ?_) | refine Br.mk (fun _ => ?_) (fun _ => ?_))
    | ((with_reducible first | refine NewB.mk (fun nb hnb => ?_)); have hnb1 := hnb.1.1; have hnb2 := hnb.1.2; try simp only [zzn] at hnb2)
    | simp (dsimp := false) (implicitDefEqProofs := false) (disch := first | assumption | (simp only [zzm]; done) | omega | (with_reducible refine Row.adr (by assumption) ?_; simp only [zzk]; omega) | (simp only [zzl, Nat.reduceAdd]; first | done | omega)) only [go_sem, ↓reduceIte, Nat.reduceEqDiff, Nat.reduceAdd, Nat.reduceSub, Nat.reduceMul, Nat.reduceBEq, Nat.reduceLT, Nat.reduceLeDiff, Nat.reduceMod, Nat.reducePow, List.reduceReplicate, UInt8.reduceOfNat, Int.reducePow, Int.reduceDiv, Int.reduceMod, Nat.reduceDiv, Int.reduceNeg, Int.reduceAdd, Int.reduceSub, Int.reduceMul, Int.reduceLE, Int.reduceLT, Int.reduceEq, Int.reduceToNat, reduceCtorEq, -List.reduceReplicate, List.toList_toArray, hCl, hCa]
    | with_reducible refine Tri.drawH tok mixed [0, 1, 2, 3] 1 [0, 1] (.op 0 .held (.op 1 .held (.op 2 .keeps (.op 3 .keeps (.op 4 .plain (.op 5 .plain (.op 6 .plain (.op 7 .plain .nil)))))))) (by kernel_rfl) [1] ?_
  obtain ⟨b2, e0⟩ : ∃ x, x = nb := ⟨_, rfl⟩
  subst e0
  refine reach_t hsm O.is fun G2 v2 hle2 hs2 hsl2 => ?_
  have hsE := hs2
  try simp only [zzs] at hsE
  repeat (obtain ⟨hsx, hsE⟩ := hsE)
  repeat' first
    | (with_reducible first | refine Br.yes ?_ | refine Br.no ?_ | refine Br.dec (fun _ => ?_) (fun _ => ?_) | refine Br.mk (fun _ => ?_) (fun _ => ?_))
    | ((with_reducible first | refine NewB.mk (fun nb hnb => ?_)); have hnb1 := hnb.1.1; have hnb2 := hnb.1.2; try simp only [zzn] at hnb2)
    | simp (dsimp := false) (implicitDefEqProofs := false) (disch := first | assumption | (simp only [zzm]; done) | omega | (with_reducible refine Row.adr (by assumption) ?_; simp only [zzk]; omega) | (simp only [zzl, Nat.reduceAdd]; first | done | omega)) only [go_sem, ↓reduceIte, Nat.reduceEqDiff, Nat.reduceAdd, Nat.reduceSub, Nat.reduceMul, Nat.reduceBEq, Nat.reduceLT, Nat.reduceLeDiff, Nat.reduceMod, Nat.reducePow, List.reduceReplicate, UInt8.reduceOfNat, Int.reducePow, Int.reduceDiv, Int.reduceMod, Nat.reduceDiv, Int.reduceNeg, Int.reduceAdd, Int.reduceSub, Int.reduceMul, Int.reduceLE, Int.reduceLT, Int.reduceEq, Int.reduceToNat, reduceCtorEq, -List.reduceReplicate, List.toList_toArray, hCl, hCa]
  refine keep_t hsm hrl (O.is.mono hle2) hsl2 fun G3 v3 hle3 hs3 hI => ?_
  have hI3 : IsD G3 (trimR d).1 v3 := hI
  obtain ⟨C', an', al', ay', cn', cl', cs', rs', rfl, O'⟩ := hI3.opened
  have hDl := O'.len
  have hone := isD_one O'.is
  have hput := isD_put hDl
  have htk : List.take 260 C' = C' := List.take_of_length_le (by omega)
  have hsE := hs3
  try simp only [zzs] at hsE
  repeat (obtain ⟨hsx, hsE⟩ := hsE)
  repeat' first
    | (with_reducible first | refine Br.yes ?_ | refine Br.no ?_ | refine Br.dec (fun _ => ?_) (fun _ => ?_) | refine Br.mk (fun _ => ?_) (fun _ => ?_))
    | ((with_reducible first | refine NewB.mk (fun nb hnb => ?_)); have hnb1 := hnb.1.1; have hnb2 := hnb.1.2; try simp only [zzn] at hnb2)
    | simp (dsimp := false) (implicitDefEqProofs := false) (disch := first | assumption | (simp only [zzm]; done) | omega | (with_reducible refine Row.adr (by assumption) ?_; simp only [zzk]; omega) | (simp only [zzl, Nat.reduceAdd]; first | done | omega)) only [go_sem, ↓reduceIte, Nat.reduceEqDiff, Nat.reduceAdd, Nat.reduceSub, Nat.reduceMul, Nat.reduceBEq, Nat.reduceLT, Nat.reduceLeDiff, Nat.reduceMod, Nat.reducePow, List.reduceReplicate, UInt8.reduceOfNat, Int.reducePow, Int.reduceDiv, Int.reduceMod, Nat.reduceDiv, Int.reduceNeg, Int.reduceAdd, Int.reduceSub, Int.reduceMul, Int.reduceLE, Int.reduceLT, Int.reduceEq, Int.reduceToNat, reduceCtorEq, -List.reduceReplicate, List.toList_toArray, hDl, hone, hput, htk, zeroC_len]
  unfold UpdR
  refine Upd.leave (H' := H) (by intro fsum; first | exact Nat.le_refl _ | (simp only [zzq]; omega)) ?_
  exact fun _ hs => hR G3 _ (hle2.trans hle3) hs O'.is
end Go.Proofs.YtefkpedhbijhkaaDoor
namespace Go.Proofs.YtefkpedhbijhkaaDoor
open Go Go.V Go.Proofs
theorem and63 {i : Nat} (hi : i < 256) : bitsOp .and .u8 (i : Int) 63 = ((i % 64 : Nat) : Int) := by
  have h := bits_and (k := .u8) (x := (i : Int)) (y := 63) rfl (by omega) (by show (i : Int) < 256; omega) (by decide) (by decide)
  rw [h, Int.toNat_natCast, show (63 : Int).toNat = 2 ^ 6 - 1 from rfl, Nat.and_two_pow_sub_one_eq_mod]
theorem numsU_over4 (f g : Nat → Nat) : splice (numsU 4 f) 0 (numsU 4 g) = numsU 4 g := by
  unfold splice
  rw [List.take_zero, List.nil_append, List.drop_of_length_le (by rw [numsU_len, numsU_len]; omega), List.append_nil]
def oneW (i : Nat) : Nat → Nat := upd (fun _ => 0) (i / 64) (2 ^ (i % 64))
def twoW (f g : Nat → Nat) : Nat → Nat := fun k => f k ||| g k
theorem oneW_lt (i k : Nat) : oneW i k < 18446744073709551616 := by
  have := pow_lt (show i % 64 < 64 by omega)
  simp only [oneW, upd]
  split
  · exact this
  · decide
theorem oneW_mem (i x : Nat) : mem (oneW i) x = decide (x = i) := by
  have := put_mem (fun _ => 0) i x
  rw [mem_none, Bool.false_or, Nat.zero_or] at this
  exact this
theorem twoW_mem (f g : Nat → Nat) (x : Nat) : mem (twoW f g) x = (mem f x || mem g x) := by
  unfold mem twoW; rw [Nat.testBit_or]
set_option maxHeartbeats 8000000 in
theorem sof_t {i : Nat} (hi : i < 256) {b : Nat} {e : TypeId} {G : PHeap} {H : Heap} {R : Value → PHeap → Heap → Prop} (hg : G b = none) (hf : findH H b = some (.cells [.int .u8 (i : Nat)] [] e))
    (hR : R (.agg (numsU 4 (oneW i)).toArray) G H) : FnT Tryd.prog 76 [.slice (some ⟨b, 0, none⟩) 1 1] G H R := by
  have hq : i / 64 < 4 := by omega
  have hjj : i % 64 < 64 := by omega
  have hor : bitsOp .or .u64 ((0 : Nat) : Int) ((2 ^ (i % 64) : Nat) : Int) = ((2 ^ (i % 64) : Nat) : Int) := by
    have := or_word (w := 0) (by decide) (pow_lt hjj)
    rw [Nat.zero_or] at this; exact this
  have hput : splice (numsU 4 (fun _ => 0)) (i / 64) [.int .u64 ((2 ^ (i % 64) : Nat) : Int)] = numsU 4 (oneW i) := numsU_putS hq _
  have hl4 := numsU_len 4 (fun _ => 0)
  have hl5 := numsU_len 4 (oneW i)
  have h63 := and63 hi
  refine FnT.sep ?_
  refine FnT.body tok [0, 2, 3, 5, 6, 7, 8, 9] Tryd.func76 rfl (by kernel_rfl) (by kernel_rfl) (by show _ ≤ 23; simp) fun hsep => ?_
  rw [Tryd.results76]
  have hsE := hsep
  try simp only [zzs] at hsE
  repeat (obtain ⟨hsx, hsE⟩ := hsE)
  repeat' first
    | (with_reducible first | refine Br.yes ?_ | refine Br.no ?_ | refine Br.dec (fun _ => ?_) (fun _ => ?_) | refine Br.mk (fun _ => ?_) (fun _ => ?_))
    | ((with_reducible first | refine NewB.mk (fun nb hnb => ?_)); have hnb1 := hnb.1.1; have hnb2 := hnb.1.2; try simp only [zzn] at hnb2)
    | simp (dsimp := false) (implicitDefEqProofs := false) (disch := first | assumption | (simp only [zzm]; done) | omega | (with_reducible refine Row.adr (by assumption) ?_; simp only [zzk]; omega) | (simp only [zzl, Nat.reduceAdd]; first | done | omega)) only [go_sem, ↓reduceIte, Nat.reduceEqDiff, Nat.reduceAdd, Nat.reduceSub, Nat.reduceMul, Nat.reduceBEq, Nat.reduceLT, Nat.reduceLeDiff, Nat.reduceMod, Nat.reducePow, List.reduceReplicate, UInt8.reduceOfNat, Int.reducePow, Int.reduceDiv, Int.reduceMod, Nat.reduceDiv, Int.reduceNeg, Int.reduceAdd, Int.reduceSub, Int.reduceMul, Int.reduceLE, Int.reduceLT, Int.reduceEq, Int.reduceToNat, reduceCtorEq, -List.reduceReplicate, hf]
  rename_i b1 hb1 hb11 hb12
  have hn1 := NotIn.neFind hb12 hf
  have hn2 := NotIn.neFind hnb2.2 hf
  rw [zero4]
  refine Tri.loopU tok [0, 2, 3, 5, 6, 7, 8, 9] (by kernel_rfl) [2, 3, 6, 7, 8] (fun q G' fr H' => ∃ (j : Nat), j + q = 1 ∧ G' = G ∧ H' = (nb, .cells (numsU 4 (if j = 0 then fun _ => 0 else oneW i)) [] 95) :: (b1, .cells (numsU 4 (fun _ => 0)) [] 95) :: H ∧ fr = [(2, .pointer (some ⟨b1, 0, none⟩)), (3, .pointer (some ⟨nb, 0, none⟩)), (6, .slice (some ⟨b, 0, none⟩) 1 1), (7, .int .i64 1), (8, .int .i64 (j : Nat))]) (1) ?_ ?_
  · exact Upd.now ⟨0, rfl, rfl, rfl, rfl⟩
  · rintro q G1 fr H' hle hs1 ⟨j, hj, rfl, rfl, rfl⟩
    have hsE := hs1
    try simp only [zzs] at hsE
    repeat (obtain ⟨hsx, hsE⟩ := hsE)
    by_cases h0 : j = 0
    · subst h0
      repeat' first
        | (with_reducible first | refine Br.yes ?_ | refine Br.no ?_ | refine Br.dec (fun _ => ?_) (fun _ => ?_) | refine Br.mk (fun _ => ?_) (fun _ => ?_))
        | ((with_reducible first | refine NewB.mk (fun nb hnb => ?_)); have hnb1 := hnb.1.1; have hnb2 := hnb.1.2; try simp only [zzn] at hnb2)
        | simp (dsimp := false) (implicitDefEqProofs := false) (disch := first | assumption | (simp only [zzm]; done) | omega | (with_reducible refine Row.adr (by assumption) ?_; simp only [zzk]; omega) | (simp only [zzl, Nat.reduceAdd]; first | done | omega)) only [go_sem, ↓reduceIte, Nat.reduceEqDiff, Nat.reduceAdd, Nat.reduceSub, Nat.reduceMul, Nat.reduceBEq, Nat.reduceLT, Nat.reduceLeDiff, Nat.reduceMod, Nat.reducePow, List.reduceReplicate, UInt8.reduceOfNat, Int.reducePow, Int.reduceDiv, Int.reduceMod, Nat.reduceDiv, Int.reduceNeg, Int.reduceAdd, Int.reduceSub, Int.reduceMul, Int.reduceLE, Int.reduceLT, Int.reduceEq, Int.reduceToNat, reduceCtorEq, -List.reduceReplicate, hf, hl4, hq, toNat_div64, mod64, shl_one hjj, h63, hor, numsU_at, hput, Int.toNat_natCast]
      exact Upd.now ⟨0, by omega, 1, by omega, rfl, rfl, rfl⟩
    · obtain rfl : j = 1 := by omega
      repeat' first
        | (with_reducible first | refine Br.yes ?_ | refine Br.no ?_ | refine Br.dec (fun _ => ?_) (fun _ => ?_) | refine Br.mk (fun _ => ?_) (fun _ => ?_))
        | ((with_reducible first | refine NewB.mk (fun nb hnb => ?_)); have hnb1 := hnb.1.1; have hnb2 := hnb.1.2; try simp only [zzn] at hnb2)
        | simp (dsimp := false) (implicitDefEqProofs := false) (disch := first | assumption | (simp only [zzm]; done) | omega | (with_reducible refine Row.adr (by assumption) ?_; simp only [zzk]; omega) | (simp only [zzl, Nat.reduceAdd]; first | done | omega)) only [go_sem, ↓reduceIte, Nat.reduceEqDiff, Nat.reduceAdd, Nat.reduceSub, Nat.reduceMul, Nat.reduceBEq, Nat.reduceLT, Nat.reduceLeDiff, Nat.reduceMod, Nat.reducePow, List.reduceReplicate, UInt8.reduceOfNat, Int.reducePow, Int.reduceDiv, Int.reduceMod, Nat.reduceDiv, Int.reduceNeg, Int.reduceAdd, Int.reduceSub, Int.reduceMul, Int.reduceLE, Int.reduceLT, Int.reduceEq, Int.reduceToNat, reduceCtorEq, -List.reduceReplicate, hf, hl4, hl5, numsU_all, numsU_one, numsU_over4, List.toList_toArray]
      all_goals refine Upd.finL ?_ (fun _ _ => hR) ?_
      any_goals (intro fsum; first | exact Nat.le_refl _ | (simp only [zzq]; omega))
      rfl
/-- sets, put together one after the other -/
def uacc (l : List (Nat → Nat)) : Nat → Nat := fun k => l.foldl (fun a f => a ||| f k) 0
def umix (l : List (Nat → Nat)) (j p : Nat) : Nat → Nat := fun k => if k < p then uacc (l.take (j + 1)) k else uacc (l.take j) k
theorem uacc_lt {l : List (Nat → Nat)} (hl : ∀ f ∈ l, ∀ k, f k < 18446744073709551616) (k : Nat) : uacc l k < 18446744073709551616 := by
  unfold uacc
  suffices h : ∀ (l : List (Nat → Nat)) (a : Nat), (∀ f ∈ l, f k < 18446744073709551616) → a < 18446744073709551616 → l.foldl (fun a f => a ||| f k) a < 18446744073709551616 from h l 0 (fun f hf => hl f hf k) (by decide)
  intro l
  induction l with
  | nil => exact fun a _ h => h
  | cons f l ih => exact fun a h1 h2 => ih _ (fun g hg => h1 g (List.mem_cons_of_mem _ hg)) (Nat.or_lt_two_pow (n := 64) h2 (h1 f (List.mem_cons_self ..)))
theorem uacc_snoc (l : List (Nat → Nat)) (f : Nat → Nat) (k : Nat) : uacc (l ++ [f]) k = uacc l k ||| f k := by unfold uacc; rw [List.foldl_append]; rfl
set_option maxHeartbeats 8000000 in
theorem sunion_t {l : List (Nat → Nat)} (hlen : l.length ≤ 1000) (hl : ∀ f ∈ l, ∀ k, f k < 18446744073709551616) {b : Nat} {sp : List Value} {cap : Nat} {e : TypeId} {G : PHeap} {H : Heap} {R : Value → PHeap → Heap → Prop} (hg : G b = none) (hf : findH H b = some (.cells (l.flatMap numsOf) sp e))
    (hR : R (.agg (numsU 4 (uacc l)).toArray) G H) : FnT Tryd.prog 75 [.slice (some ⟨b, 0, none⟩) l.length cap] G H R := by
  have hfl := flatMap_len (enc := numsOf) (m := 4) numsOf_len l
  refine FnT.sep ?_
  refine FnT.body tok [0, 2, 3, 5, 6, 7, 8, 9, 10, 11, 14, 15, 16] Tryd.func75 rfl (by kernel_rfl) (by kernel_rfl) (by show _ ≤ 28; simp) fun hsep => ?_
  rw [Tryd.results75]
  have hsE := hsep
  try simp only [zzs] at hsE
  repeat (obtain ⟨hsx, hsE⟩ := hsE)
  repeat' first
    | (with_reducible first | refine Br.yes ?_ | refine Br.no ?_ | refine Br.dec (fun _ => ?_) (fun _ => ?_) | refine Br.mk (fun _ => ?_) (fun _ => ?_))
    | ((with_reducible first | refine NewB.mk (fun nb hnb => ?_)); have hnb1 := hnb.1.1; have hnb2 := hnb.1.2; try simp only [zzn] at hnb2)
    | simp (dsimp := false) (implicitDefEqProofs := false) (disch := first | assumption | (simp only [zzm]; done) | omega | (with_reducible refine Row.adr (by assumption) ?_; simp only [zzk]; omega) | (simp only [zzl, Nat.reduceAdd]; first | done | omega)) only [go_sem, ↓reduceIte, Nat.reduceEqDiff, Nat.reduceAdd, Nat.reduceSub, Nat.reduceMul, Nat.reduceBEq, Nat.reduceLT, Nat.reduceLeDiff, Nat.reduceMod, Nat.reducePow, List.reduceReplicate, UInt8.reduceOfNat, Int.reducePow, Int.reduceDiv, Int.reduceMod, Nat.reduceDiv, Int.reduceNeg, Int.reduceAdd, Int.reduceSub, Int.reduceMul, Int.reduceLE, Int.reduceLT, Int.reduceEq, Int.reduceToNat, reduceCtorEq, -List.reduceReplicate, hf]
  rename_i b1 hb1 hb11 hb12
  have hn1 := NotIn.neFind hb12 hf
  revert nb
  intro b3 hb3 hb31 hb32
  have hn2 := NotIn.neFind hb32.2 hf
  rw [zero4]
  refine Tri.loopU tok [0, 2, 3, 5, 6, 7, 8, 9, 10, 11, 14, 15, 16] (by kernel_rfl) [2, 3, 8, 9, 10] (fun q G' fr H' => ∃ (j : Nat), j + q = l.length ∧ G' = G ∧ H' = (b3, .cells (numsU 4 (uacc (l.take j))) [] 95) :: (b1, .cells (numsU 4 (fun _ => 0)) [] 95) :: H ∧ fr = [(2, .pointer (some ⟨b1, 0, none⟩)), (3, .pointer (some ⟨b3, 0, none⟩)), (8, .slice (some ⟨b, 0, none⟩) l.length cap), (9, .int .i64 l.length), (10, .int .i64 (j : Nat))]) (l.length) ?_ ?_
  · exact Upd.now ⟨0, by omega, rfl, rfl, rfl⟩
  · rintro q G1 fr H' hle hs1 ⟨j, hj, rfl, rfl, rfl⟩
    have hsE := hs1
    try simp only [zzs] at hsE
    repeat (obtain ⟨hsx, hsE⟩ := hsE)
    by_cases hjl : j < l.length
    · have hget := flatMap_get (enc := numsOf) (m := 4) numsOf_len l j hjl
      have hjf := hl _ (List.getElem_mem hjl)
      have htk := List.take_succ_eq_append_getElem hjl
      have hmul : (j + 1) * 4 ≤ l.length * 4 := Nat.mul_le_mul_right _ hjl
      have hget' : List.take 4 (List.drop (j * 4) (l.flatMap numsOf ++ sp)) = numsU 4 l[j] := by
        rw [List.drop_append_of_le_length (by omega), List.take_append_of_le_length (by rw [List.length_drop]; omega)]; exact hget
      have hu1 := uacc_lt (l := l.take j) fun f hf2 => hl f (List.mem_of_mem_take hf2)
      have hl4 := numsU_len 4
      repeat' first
        | (with_reducible first | refine Br.yes ?_ | refine Br.no ?_ | refine Br.dec (fun _ => ?_) (fun _ => ?_) | refine Br.mk (fun _ => ?_) (fun _ => ?_))
        | ((with_reducible first | refine NewB.mk (fun nb hnb => ?_)); have hnb1 := hnb.1.1; have hnb2 := hnb.1.2; try simp only [zzn] at hnb2)
        | simp (dsimp := false) (implicitDefEqProofs := false) (disch := first | assumption | (simp only [zzm]; done) | omega | (with_reducible refine Row.adr (by assumption) ?_; simp only [zzk]; omega) | (simp only [zzl, Nat.reduceAdd]; first | done | omega)) only [go_sem, ↓reduceIte, Nat.reduceEqDiff, Nat.reduceAdd, Nat.reduceSub, Nat.reduceMul, Nat.reduceBEq, Nat.reduceLT, Nat.reduceLeDiff, Nat.reduceMod, Nat.reducePow, List.reduceReplicate, UInt8.reduceOfNat, Int.reducePow, Int.reduceDiv, Int.reduceMod, Nat.reduceDiv, Int.reduceNeg, Int.reduceAdd, Int.reduceSub, Int.reduceMul, Int.reduceLE, Int.reduceLT, Int.reduceEq, Int.reduceToNat, reduceCtorEq, -List.reduceReplicate, hf, hfl, hget', hl4, numsU_one, numsU_over, numsU_all, List.toList_toArray]
      revert nb
      intro nc hnc hnc1 hnc2
      refine Tri.loopU tok [0, 2, 3, 5, 6, 7, 8, 9, 10, 11, 14, 15, 16] (by kernel_rfl) [2, 3, 8, 9, 10, 14, 15] (fun q2 G' fr H' => ∃ (p : Nat), p + q2 = 4 ∧ G' = G1 ∧ H' = (nc, .cells (numsU 4 l[j]) [] 95) :: (b3, .cells (numsU 4 (umix l j p)) [] 95) :: (b1, .cells (numsU 4 (fun _ => 0)) [] 95) :: H ∧ fr = [(2, .pointer (some ⟨b1, 0, none⟩)), (3, .pointer (some ⟨b3, 0, none⟩)), (8, .slice (some ⟨b, 0, none⟩) l.length cap), (9, .int .i64 l.length), (10, .int .i64 (j : Nat)), (14, .agg (numsU 4 l[j]).toArray), (15, .int .i64 (p : Nat))]) (4) ?_ ?_
      · exact Upd.now ⟨0, by omega, rfl, by rw [show umix l j 0 = uacc (l.take j) from funext fun k => if_neg (by omega)], rfl⟩
      · rintro q2 G2 fr H' hle2 hs2 ⟨p, hp, rfl, rfl, rfl⟩
        have hsE := hs2
        try simp only [zzs] at hsE
        repeat (obtain ⟨hsx, hsE⟩ := hsE)
        by_cases hp4 : p < 4
        · have hul : ∀ k, umix l j p k < 18446744073709551616 := fun k => by
            unfold umix; split
            · exact uacc_lt (l := l.take (j + 1)) (fun f hf2 => hl f (List.mem_of_mem_take hf2)) k
            · exact hu1 k
          have hor := or_word (hul p) (hjf p)
          have hget2 : (numsU 4 l[j])[p]? = some (.int .u64 (l[j] p)) := by rw [List.getElem?_eq_getElem (by rw [hl4]; exact hp4), numsU_at]
          have hget3 : (numsU 4 (umix l j p))[p]? = some (.int .u64 (umix l j p p : Nat)) := by rw [List.getElem?_eq_getElem (by rw [hl4]; exact hp4), numsU_at]
          have hput : splice (numsU 4 (umix l j p)) p [.int .u64 ((umix l j p p ||| l[j] p : Nat) : Int)] = numsU 4 (umix l j (p + 1)) := by
            rw [numsU_putS hp4]
            congr 1
            funext k
            unfold upd
            by_cases e : k = p
            · subst e
              rw [if_pos rfl]
              unfold umix
              rw [if_neg (Nat.lt_irrefl _), if_pos (Nat.lt_succ_self _), htk, uacc_snoc]
            · rw [if_neg e]
              unfold umix
              by_cases h : k < p
              · rw [if_pos h, if_pos (by omega)]
              · rw [if_neg h, if_neg (by omega)]
          repeat' first
            | (with_reducible first | refine Br.yes ?_ | refine Br.no ?_ | refine Br.dec (fun _ => ?_) (fun _ => ?_) | refine Br.mk (fun _ => ?_) (fun _ => ?_))
            | ((with_reducible first | refine NewB.mk (fun nb hnb => ?_)); have hnb1 := hnb.1.1; have hnb2 := hnb.1.2; try simp only [zzn] at hnb2)
            | simp (dsimp := false) (implicitDefEqProofs := false) (disch := first | assumption | (simp only [zzm]; done) | omega | (with_reducible refine Row.adr (by assumption) ?_; simp only [zzk]; omega) | (simp only [zzl, Nat.reduceAdd]; first | done | omega)) only [go_sem, ↓reduceIte, Nat.reduceEqDiff, Nat.reduceAdd, Nat.reduceSub, Nat.reduceMul, Nat.reduceBEq, Nat.reduceLT, Nat.reduceLeDiff, Nat.reduceMod, Nat.reducePow, List.reduceReplicate, UInt8.reduceOfNat, Int.reducePow, Int.reduceDiv, Int.reduceMod, Nat.reduceDiv, Int.reduceNeg, Int.reduceAdd, Int.reduceSub, Int.reduceMul, Int.reduceLE, Int.reduceLT, Int.reduceEq, Int.reduceToNat, reduceCtorEq, -List.reduceReplicate, hf, hl4, hor, hget2, hget3, hput, numsU_at, numsU_one, numsU_over, numsU_all, List.toList_toArray, partL]
          exact Upd.now ⟨q2 - 1, by omega, p + 1, by omega, rfl, rfl, rfl⟩
        · obtain rfl : p = 4 := by omega
          rw [show numsU 4 (umix l j 4) = numsU 4 (uacc (l.take (j + 1))) from List.map_congr_left fun k hk => by rw [List.mem_range] at hk; unfold umix; rw [if_pos hk]]
          repeat' first
            | (with_reducible first | refine Br.yes ?_ | refine Br.no ?_ | refine Br.dec (fun _ => ?_) (fun _ => ?_) | refine Br.mk (fun _ => ?_) (fun _ => ?_))
            | ((with_reducible first | refine NewB.mk (fun nb hnb => ?_)); have hnb1 := hnb.1.1; have hnb2 := hnb.1.2; try simp only [zzn] at hnb2)
            | simp (dsimp := false) (implicitDefEqProofs := false) (disch := first | assumption | (simp only [zzm]; done) | omega | (with_reducible refine Row.adr (by assumption) ?_; simp only [zzk]; omega) | (simp only [zzl, Nat.reduceAdd]; first | done | omega)) only [go_sem, ↓reduceIte, Nat.reduceEqDiff, Nat.reduceAdd, Nat.reduceSub, Nat.reduceMul, Nat.reduceBEq, Nat.reduceLT, Nat.reduceLeDiff, Nat.reduceMod, Nat.reducePow, List.reduceReplicate, UInt8.reduceOfNat, Int.reducePow, Int.reduceDiv, Int.reduceMod, Nat.reduceDiv, Int.reduceNeg, Int.reduceAdd, Int.reduceSub, Int.reduceMul, Int.reduceLE, Int.reduceLT, Int.reduceEq, Int.reduceToNat, reduceCtorEq, -List.reduceReplicate]
          refine Upd.go (H' := (b3, .cells (numsU 4 (uacc (l.take (j + 1)))) [] 95) :: (b1, .cells (numsU 4 (fun _ => 0)) [] 95) :: H) (by intro fsum; first | exact Nat.le_refl _ | (simp only [zzq]; omega)) (Upd.now ⟨q - 1, by omega, j + 1, by omega, rfl, rfl, rfl⟩)
    · obtain rfl : j = l.length := by omega
      repeat' first
        | (with_reducible first | refine Br.yes ?_ | refine Br.no ?_ | refine Br.dec (fun _ => ?_) (fun _ => ?_) | refine Br.mk (fun _ => ?_) (fun _ => ?_))
        | ((with_reducible first | refine NewB.mk (fun nb hnb => ?_)); have hnb1 := hnb.1.1; have hnb2 := hnb.1.2; try simp only [zzn] at hnb2)
        | simp (dsimp := false) (implicitDefEqProofs := false) (disch := first | assumption | (simp only [zzm]; done) | omega | (with_reducible refine Row.adr (by assumption) ?_; simp only [zzk]; omega) | (simp only [zzl, Nat.reduceAdd]; first | done | omega)) only [go_sem, ↓reduceIte, Nat.reduceEqDiff, Nat.reduceAdd, Nat.reduceSub, Nat.reduceMul, Nat.reduceBEq, Nat.reduceLT, Nat.reduceLeDiff, Nat.reduceMod, Nat.reducePow, List.reduceReplicate, UInt8.reduceOfNat, Int.reducePow, Int.reduceDiv, Int.reduceMod, Nat.reduceDiv, Int.reduceNeg, Int.reduceAdd, Int.reduceSub, Int.reduceMul, Int.reduceLE, Int.reduceLT, Int.reduceEq, Int.reduceToNat, reduceCtorEq, -List.reduceReplicate, hf, numsU_all, numsU_one, numsU_len, numsU_over4, List.toList_toArray, List.take_length]
      all_goals refine Upd.finL ?_ (fun _ _ => hR) ?_
      any_goals (intro fsum; first | exact Nat.le_refl _ | (simp only [zzq]; omega))
      rfl
end Go.Proofs.YtefkpedhbijhkaaDoor
namespace Go.Proofs.YtefkpedhbijhkaaDoor
open Go Go.V Go.Proofs
theorem low_bit (w : Nat) : 0 < w → ∃ t, w.testBit t = true ∧ (∀ j, j < t → w.testBit j = false) ∧ (∀ j, (w &&& (w - 1)).testBit j = (w.testBit j && decide (j ≠ t))) ∧ ∀ N, w < 2 ^ N → w &&& (2 ^ N - w) = 2 ^ t := by
  induction w using Nat.strongRecOn with
  | _ w ih =>
    intro hw
    by_cases ho : w % 2 = 1
    · refine ⟨0, by rw [Nat.testBit_zero]; simpa using ho, fun j hj => absurd hj (Nat.not_lt_zero _), fun j => ?_, fun N hN => ?_⟩
      · cases j with
        | zero => rw [Nat.testBit_and, Nat.testBit_zero, Nat.testBit_zero]; simp; omega
        | succ j => rw [Nat.testBit_and, Nat.testBit_succ, Nat.testBit_succ, show (w - 1) / 2 = w / 2 by omega]; simp
      · cases N with
        | zero => omega
        | succ M =>
          have hp : 2 ^ (M + 1) = 2 * 2 ^ M := by rw [Nat.pow_succ]; omega
          apply Nat.eq_of_testBit_eq
          intro j
          cases j with
          | zero => rw [Nat.testBit_and, Nat.testBit_zero, Nat.testBit_zero]; simp; omega
          | succ j =>
            rw [Nat.testBit_and, Nat.testBit_succ, Nat.testBit_succ, show (2 ^ (M + 1) - w) / 2 = 2 ^ M - (w / 2 + 1) by omega, Nat.testBit_two_pow_sub_succ (by omega)]
            have : (2 ^ 0 : Nat).testBit (j + 1) = false := by rw [Nat.testBit_succ]; simp
            rw [this]
            cases (w / 2).testBit j <;> simp
    · obtain ⟨t, h1, h2, h3, h4⟩ := ih (w / 2) (by omega) (by omega)
      refine ⟨t + 1, by rw [Nat.testBit_succ]; exact h1, fun j hj => ?_, fun j => ?_, fun N hN => ?_⟩
      · cases j with
        | zero => rw [Nat.testBit_zero]; simpa using ho
        | succ j => rw [Nat.testBit_succ]; exact h2 j (by omega)
      · cases j with
        | zero => rw [Nat.testBit_and, Nat.testBit_zero]; simp [ho]
        | succ j =>
          have := h3 j
          rw [Nat.testBit_and] at this ⊢
          rw [Nat.testBit_succ, Nat.testBit_succ, show (w - 1) / 2 = w / 2 - 1 by omega, this]
          congr 1
          rw [decide_eq_decide]; omega
      · cases N with
        | zero => omega
        | succ M =>
          have hp : 2 ^ (M + 1) = 2 * 2 ^ M := by rw [Nat.pow_succ]; omega
          apply Nat.eq_of_testBit_eq
          intro j
          cases j with
          | zero =>
            rw [Nat.testBit_and, Nat.testBit_zero, Nat.testBit_zero]
            have : 2 ^ (t + 1) % 2 = 0 := by rw [Nat.pow_succ]; omega
            simp [ho, this]
          | succ j =>
            have := h4 M (by omega)
            rw [Nat.testBit_and, Nat.testBit_succ, Nat.testBit_succ, show (2 ^ (M + 1) - w) / 2 = 2 ^ M - w / 2 by omega, ← Nat.testBit_and, this, Nat.testBit_succ, show 2 ^ (t + 1) / 2 = 2 ^ t by rw [Nat.pow_succ]; omega]
def tabL : List Nat := [0, 1, 56, 2, 57, 49, 28, 3, 61, 58, 42, 50, 38, 29, 17, 4, 62, 47, 59, 36, 45, 43, 51, 22, 53, 39, 33, 30, 24, 18, 12, 5, 63, 55, 48, 27, 60, 41, 37, 16, 46, 35, 44, 21, 52, 32, 23, 11, 54, 26, 40, 15, 34, 20, 31, 10, 25, 14, 19, 9, 13, 8, 7, 6]
theorem tab_ok : ∀ t : Fin 64, tabL[(2 ^ t.val * 285870213051353865 % 18446744073709551616) / 288230376151711744]? = some t.val := by decide +kernel
theorem bit_lt {w t : Nat} (h : w < 18446744073709551616) (ht : w.testBit t = true) : t < 64 := by
  rcases Nat.lt_or_ge t 64 with h1 | h1
  · exact h1
  · rw [Nat.testBit_lt_two_pow (Nat.lt_of_lt_of_le (show w < 2 ^ 64 from h) (Nat.pow_le_pow_right (by decide) h1))] at ht
    cases ht
/-- the table of the library's -/
def tabV : List Value := tabL.map fun x => Value.int .u8 (x : Nat)
def HasTab (G : PHeap) : Prop := RowAt G 0 0 tabV
theorem HasTab.mono {G G' : PHeap} (h : HasTab G) (hle : PLe G G') : HasTab G' := by
  obtain ⟨c, e, fr, h1, h2, h3⟩ := h
  exact ⟨c, e, fr, hle _ _ h1, h2, h3⟩
theorem tz_t (w t : Nat) (hw : w < 18446744073709551616) (h0 : 0 < w) (ht : t < 64) (hb : w &&& (2 ^ 64 - w) = 2 ^ t) {G : PHeap} {H : Heap} {R : Value → PHeap → Heap → Prop} (hg : HasTab G)
    (hR : R (.int .i64 t) G H) : FnT Tryd.prog 91 [.int .u64 w] G H R := by
  obtain ⟨q, hq⟩ : ∃ q, q = 2 ^ t * 285870213051353865 % 18446744073709551616 / 288230376151711744 := ⟨_, rfl⟩
  have htab := tab_ok ⟨t, ht⟩
  simp only [] at htab
  rw [← hq] at htab
  obtain ⟨hq64, hqv⟩ := List.getElem?_eq_some_iff.1 htab
  have hq2 : q < 64 := hq64
  have hneg : IntKind.u64.wrap (0 - (w : Int)) = ((18446744073709551616 - w : Nat) : Int) := by
    simp only [IntKind.wrap, IntKind.bits, IntKind.signed]; simp; omega
  have hb2 : w &&& (18446744073709551616 - w) = 2 ^ t := hb
  have hx : IntKind.u64.wrap (((2 ^ t : Nat) : Int) * 285870213051353865) / 288230376151711744 = (q : Int) := by
    rw [hq]
    generalize 2 ^ t = z
    simp only [IntKind.wrap, IntKind.bits, IntKind.signed]
    simp
  have hvl : tabV.length = 64 := rfl
  have hget : tabV[q]'(by rw [hvl]; exact hq2) = .int .u8 (t : Nat) := by
    unfold tabV
    rw [List.getElem_map, hqv]
  have hw0 : (w : Int) ≠ 0 := by omega
  refine FnT.body tok [0, 2, 4] Tryd.func91 rfl (by kernel_rfl) (by kernel_rfl) (by show _ ≤ 14; simp) fun hsep => ?_
  rw [Tryd.results91]
  have hsE := hsep
  try simp only [zzs] at hsE
  repeat (obtain ⟨hsx, hsE⟩ := hsE)
  repeat' first
    | (with_reducible first | refine Br.yes ?_ | refine Br.no ?_ | refine Br.dec (fun _ => ?_) (fun _ => ?_) | refine Br.beqB (fun _ => ?_) (fun _ => ?_) | refine Br.beqb (fun _ => ?_) (fun _ => ?_) | refine Br.mk (fun _ => ?_) (fun _ => ?_))
    | ((with_reducible first | refine NewB.mk (fun nb hnb => ?_) | refine NewRow.mk (fun nb nsp ncap hnb hncap => ?_)); have hnb1 := hnb.1.1; have hnb2 := hnb.1.2; try simp only [zzn] at hnb2)
    | simp (dsimp := false) (implicitDefEqProofs := false) (disch := first | assumption | (simp only [zzm]; done) | omega | (with_reducible refine Row.adr (by assumption) ?_; simp only [zzk]; omega) | (simp only [zzl, Nat.reduceAdd]; first | done | omega)) only [go_sem, ↓reduceIte, Nat.reduceEqDiff, Nat.reduceAdd, Nat.reduceSub, Nat.reduceMul, Nat.reduceBEq, Nat.reduceLT, Nat.reduceLeDiff, Nat.reduceMod, Nat.reducePow, List.reduceReplicate, UInt8.reduceOfNat, Int.reducePow, Int.reduceDiv, Int.reduceMod, Nat.reduceDiv, Int.reduceNeg, Int.reduceAdd, Int.reduceSub, Int.reduceMul, Int.reduceLE, Int.reduceLT, Int.reduceEq, Int.reduceToNat, reduceCtorEq, hneg, hb2, hx, RowAt.obj0 hg, hget, hvl]
  all_goals refine Upd.finL ?_ hR ?_
  any_goals (intro fsum; first | exact Nat.le_refl _ | (simp only [zzq]; omega))
  rfl
/-- a set's numbers, rising -/
def elems (n : Nat) (ws : Nat → Nat) : List Nat := (List.range n).filter (mem ws)
theorem elems_skip {ws : Nat → Nat} {a : Nat} : ∀ {b : Nat}, a ≤ b → (∀ i, a ≤ i → i < b → mem ws i = false) → elems b ws = elems a ws
  | b, hab, h => by
    unfold elems
    obtain ⟨d, rfl⟩ := Nat.exists_eq_add_of_le hab
    clear hab
    induction d with
    | zero => rfl
    | succ d ih =>
      rw [show a + (d + 1) = (a + d) + 1 by omega, List.range_succ, List.filter_append, ih fun i h1 h2 => h i h1 (by omega)]
      simp [h (a + d) (by omega) (by omega)]
theorem elems_hit {ws : Nat → Nat} {a : Nat} (h : mem ws a = true) : elems (a + 1) ws = elems a ws ++ [a] := by
  unfold elems; rw [List.range_succ, List.filter_append]; simp [h]
set_option maxHeartbeats 8000000 in
theorem seach1_t (lr bx : Nat) {ws : Nat → Nat} (hw : ∀ k, ws k < 18446744073709551616) {G : PHeap} {HC : Heap} {R : Value → PHeap → Heap → Prop} (hg : HasTab G)
    (J Jx : List Nat → PHeap → Heap → Prop)
    (hY : ∀ x G1 H1, PLe G G1 → Sep G1 (keys ((bx, Res.cells (numsU 4 ws) [] 95) :: H1)) → J (elems x ws) G1 H1 → x < 256 → mem ws x = true → YldT Tryd.prog lr [.int .u8 (x : Nat)] G1 ((bx, .cells (numsU 4 ws) [] 95) :: H1) fun v G2 H2 => ∃ H3, H2 = (bx, .cells (numsU 4 ws) [] 95) :: H3 ∧ ((v = .bool true ∧ J (elems x ws ++ [x]) G2 H3) ∨ (v = .bool false ∧ Jx (elems x ws ++ [x]) G2 H3)))
    (h0 : J [] G HC)
    (hR : ∀ G' H', PLe G G' → Sep G' (keys ((bx, Res.cells (numsU 4 ws) [] 95) :: H')) → (J (elems 256 ws) G' H' ∨ ∃ pre, Jx pre G' H') → R (.tuple #[]) G' ((bx, .cells (numsU 4 ws) [] 95) :: H')) :
    FnT Tryd.prog 90 [.func (.yield lr) #[] #[], .pointer (some ⟨bx, 0, none⟩)] G ((bx, .cells (numsU 4 ws) [] 95) :: HC) R := by
  have hl := numsU_len 4 ws
  refine FnT.body tok [0, 1, 3, 4, 5, 6, 7, 11, 24] Tryd.func90 rfl (by kernel_rfl) (by kernel_rfl) (by show _ ≤ 26; simp) fun hsep => ?_
  rw [Tryd.results90]
  have hsE := hsep
  try simp only [zzs] at hsE
  repeat (obtain ⟨hsx, hsE⟩ := hsE)
  repeat' first
    | (with_reducible first | refine Br.yes ?_ | refine Br.no ?_ | refine Br.dec (fun _ => ?_) (fun _ => ?_) | refine Br.beqB (fun _ => ?_) (fun _ => ?_) | refine Br.beqb (fun _ => ?_) (fun _ => ?_) | refine Br.mk (fun _ => ?_) (fun _ => ?_))
    | ((with_reducible first | refine NewB.mk (fun nb hnb => ?_) | refine NewRow.mk (fun nb nsp ncap hnb hncap => ?_)); have hnb1 := hnb.1.1; have hnb2 := hnb.1.2; try simp only [zzn] at hnb2)
    | simp (dsimp := false) (implicitDefEqProofs := false) (disch := first | assumption | (simp only [zzm]; done) | omega | (with_reducible refine Row.adr (by assumption) ?_; simp only [zzk]; omega) | (simp only [zzl, Nat.reduceAdd]; first | done | omega)) only [go_sem, ↓reduceIte, Nat.reduceEqDiff, Nat.reduceAdd, Nat.reduceSub, Nat.reduceMul, Nat.reduceBEq, Nat.reduceLT, Nat.reduceLeDiff, Nat.reduceMod, Nat.reducePow, List.reduceReplicate, UInt8.reduceOfNat, Int.reducePow, Int.reduceDiv, Int.reduceMod, Nat.reduceDiv, Int.reduceNeg, Int.reduceAdd, Int.reduceSub, Int.reduceMul, Int.reduceLE, Int.reduceLT, Int.reduceEq, Int.reduceToNat, reduceCtorEq, numsU_all, List.toList_toArray, hl]
  refine Tri.loopU tok [0, 1, 3, 4, 5, 6, 7, 11, 24] (by kernel_rfl) [0, 1, 5, 6] (fun q G' fr H' => ∃ (k : Nat) (H1 : Heap), k + q = 4 ∧ PLe G G' ∧ J (elems (k * 64) ws) G' H1 ∧ H' = (bx, .cells (numsU 4 ws) [] 95) :: H1 ∧ fr = [(0, .func (.yield lr) #[] #[]), (1, .pointer (some ⟨bx, 0, none⟩)), (5, .agg (numsU 4 ws).toArray), (6, .int .i64 k)]) (4) ?_ ?_
  · exact Upd.now ⟨0, HC, by omega, PLe.refl _, h0, rfl, rfl⟩
  · rintro q G1 fr H' hle hs ⟨k, H1, hk, hle1, hJ, rfl, rfl⟩
    have hsE := hs
    try simp only [zzs] at hsE
    repeat (obtain ⟨hsx, hsE⟩ := hsE)
    by_cases hkn : k < 4
    · have hwk := hw k
      have hget2 : (numsU 4 ws)[k]? = some (.int .u64 (ws k)) := by rw [List.getElem?_eq_getElem (by rw [hl]; exact hkn), numsU_at]
      repeat' first
        | (with_reducible first | refine Br.yes ?_ | refine Br.no ?_ | refine Br.dec (fun _ => ?_) (fun _ => ?_) | refine Br.beqB (fun _ => ?_) (fun _ => ?_) | refine Br.beqb (fun _ => ?_) (fun _ => ?_) | refine Br.mk (fun _ => ?_) (fun _ => ?_))
        | ((with_reducible first | refine NewB.mk (fun nb hnb => ?_) | refine NewRow.mk (fun nb nsp ncap hnb hncap => ?_)); have hnb1 := hnb.1.1; have hnb2 := hnb.1.2; try simp only [zzn] at hnb2)
        | simp (dsimp := false) (implicitDefEqProofs := false) (disch := first | assumption | (simp only [zzm]; done) | omega | (with_reducible refine Row.adr (by assumption) ?_; simp only [zzk]; omega) | (simp only [zzl, Nat.reduceAdd]; first | done | omega)) only [go_sem, ↓reduceIte, Nat.reduceEqDiff, Nat.reduceAdd, Nat.reduceSub, Nat.reduceMul, Nat.reduceBEq, Nat.reduceLT, Nat.reduceLeDiff, Nat.reduceMod, Nat.reducePow, List.reduceReplicate, UInt8.reduceOfNat, Int.reducePow, Int.reduceDiv, Int.reduceMod, Nat.reduceDiv, Int.reduceNeg, Int.reduceAdd, Int.reduceSub, Int.reduceMul, Int.reduceLE, Int.reduceLT, Int.reduceEq, Int.reduceToNat, reduceCtorEq, hl, hget2, partL, List.toList_toArray]
      refine Tri.loopU tok [0, 1, 3, 4, 5, 6, 7, 11, 24] (by kernel_rfl) [0, 1, 3, 4, 5, 6] (fun q2 G' fr H' => ∃ (p w : Nat) (H2 : Heap), p + q2 = 64 ∧ w < 18446744073709551616 ∧ (∀ j, w.testBit j = ((ws k).testBit j && decide (p ≤ j))) ∧ PLe G G' ∧ J (elems (k * 64 + p) ws) G' H2 ∧ H' = (bx, .cells (numsU 4 ws) [] 95) :: H2 ∧ fr = [(0, .func (.yield lr) #[] #[]), (1, .pointer (some ⟨bx, 0, none⟩)), (3, .int .i64 k), (4, .int .u64 w), (5, .agg (numsU 4 ws).toArray), (6, .int .i64 k)]) (64) ?_ ?_
      · exact Upd.now ⟨0, ws k, H1, by omega, hwk, fun j => by simp, hle1, hJ, rfl, rfl⟩
      · rintro q2 G2 fr H' hle2 hs2 ⟨p, w, H2, hp, hwl, hwb, hle3, hJ2, rfl, rfl⟩
        have hg2 := hg.mono hle3
        by_cases hw0 : w = 0
        · subst hw0
          have hnone : ∀ i, k * 64 + p ≤ i → i < (k + 1) * 64 → mem ws i = false := fun i h1 h2 => by
            have hb := hwb (i - k * 64)
            rw [Nat.zero_testBit, decide_eq_true (by omega), Bool.and_true] at hb
            rw [show i = k * 64 + (i - k * 64) by omega, mem_at _ _ _ (by omega)]
            exact hb.symm
          have he := elems_skip (b := (k + 1) * 64) (by omega) hnone
          rw [← he] at hJ2
          repeat' first
            | (with_reducible first | refine Br.yes ?_ | refine Br.no ?_ | refine Br.dec (fun _ => ?_) (fun _ => ?_) | refine Br.beqB (fun _ => ?_) (fun _ => ?_) | refine Br.beqb (fun _ => ?_) (fun _ => ?_) | refine Br.mk (fun _ => ?_) (fun _ => ?_))
            | ((with_reducible first | refine NewB.mk (fun nb hnb => ?_) | refine NewRow.mk (fun nb nsp ncap hnb hncap => ?_)); have hnb1 := hnb.1.1; have hnb2 := hnb.1.2; try simp only [zzn] at hnb2)
            | simp (dsimp := false) (implicitDefEqProofs := false) (disch := first | assumption | (simp only [zzm]; done) | omega | (with_reducible refine Row.adr (by assumption) ?_; simp only [zzk]; omega) | (simp only [zzl, Nat.reduceAdd]; first | done | omega)) only [go_sem, ↓reduceIte, Nat.reduceEqDiff, Nat.reduceAdd, Nat.reduceSub, Nat.reduceMul, Nat.reduceBEq, Nat.reduceLT, Nat.reduceLeDiff, Nat.reduceMod, Nat.reducePow, List.reduceReplicate, UInt8.reduceOfNat, Int.reducePow, Int.reduceDiv, Int.reduceMod, Nat.reduceDiv, Int.reduceNeg, Int.reduceAdd, Int.reduceSub, Int.reduceMul, Int.reduceLE, Int.reduceLT, Int.reduceEq, Int.reduceToNat, reduceCtorEq]
          exact Upd.now ⟨q - 1, by omega, k + 1, H2, by omega, hle3, hJ2, rfl, rfl⟩
        · obtain ⟨t, ht1, ht2, ht3, ht4⟩ := low_bit w (by omega)
          have ht64 := bit_lt hwl ht1
          have hbt := hwb t
          rw [ht1] at hbt
          simp only [Bool.true_eq, Bool.and_eq_true, decide_eq_true_eq] at hbt
          have hmem : mem ws (k * 64 + t) = true := by rw [mem_at _ _ _ ht64]; exact hbt.1
          have hlt : k * 64 + t < 256 := by omega
          have hskip : elems (k * 64 + t) ws = elems (k * 64 + p) ws := elems_skip (by omega) fun i h1 h2 => by
            have hb := hwb (i - k * 64)
            rw [ht2 _ (by omega), decide_eq_true (by omega), Bool.and_true] at hb
            rw [show i = k * 64 + (i - k * 64) by omega, mem_at _ _ _ (by omega)]
            exact hb.symm
          have hhit := elems_hit hmem
          have hcast : ((k : Int) * 64 + t) = ((k * 64 + t : Nat) : Int) := by simp
          have hw1 : ((w : Int) - 1).toNat = w - 1 := by omega
          have hws : w &&& (w - 1) < 18446744073709551616 := Nat.lt_of_le_of_lt Nat.and_le_left hwl
          have hw0' : (w : Int) ≠ 0 := by omega
          repeat' first
            | (with_reducible first | refine Br.yes ?_ | refine Br.no ?_ | refine Br.dec (fun _ => ?_) (fun _ => ?_) | refine Br.beqB (fun _ => ?_) (fun _ => ?_) | refine Br.beqb (fun _ => ?_) (fun _ => ?_) | refine Br.mk (fun _ => ?_) (fun _ => ?_))
            | ((with_reducible first | refine NewB.mk (fun nb hnb => ?_) | refine NewRow.mk (fun nb nsp ncap hnb hncap => ?_)); have hnb1 := hnb.1.1; have hnb2 := hnb.1.2; try simp only [zzn] at hnb2)
            | simp (dsimp := false) (implicitDefEqProofs := false) (disch := first | assumption | (simp only [zzm]; done) | omega | (with_reducible refine Row.adr (by assumption) ?_; simp only [zzk]; omega) | (simp only [zzl, Nat.reduceAdd]; first | done | omega)) only [go_sem, ↓reduceIte, Nat.reduceEqDiff, Nat.reduceAdd, Nat.reduceSub, Nat.reduceMul, Nat.reduceBEq, Nat.reduceLT, Nat.reduceLeDiff, Nat.reduceMod, Nat.reducePow, List.reduceReplicate, UInt8.reduceOfNat, Int.reducePow, Int.reduceDiv, Int.reduceMod, Nat.reduceDiv, Int.reduceNeg, Int.reduceAdd, Int.reduceSub, Int.reduceMul, Int.reduceLE, Int.reduceLT, Int.reduceEq, Int.reduceToNat, reduceCtorEq, hw1]
            | with_reducible refine tz_t w t hwl (by omega) ht64 (ht4 64 hwl) hg2 ?_
          rw [hcast]
          rw [← hskip] at hJ2
          refine YldT.mono (hY (k * 64 + t) G2 H2 hle3 hs2 hJ2 hlt hmem) ?_
          rintro v G3 H3' hle4 hs4 ⟨H3, rfl, ⟨rfl, hJ3⟩ | ⟨rfl, hJ3⟩⟩
          · rw [← hhit] at hJ3
            repeat' first
              | (with_reducible first | refine Br.yes ?_ | refine Br.no ?_ | refine Br.dec (fun _ => ?_) (fun _ => ?_) | refine Br.beqB (fun _ => ?_) (fun _ => ?_) | refine Br.beqb (fun _ => ?_) (fun _ => ?_) | refine Br.mk (fun _ => ?_) (fun _ => ?_))
              | ((with_reducible first | refine NewB.mk (fun nb hnb => ?_) | refine NewRow.mk (fun nb nsp ncap hnb hncap => ?_)); have hnb1 := hnb.1.1; have hnb2 := hnb.1.2; try simp only [zzn] at hnb2)
              | simp (dsimp := false) (implicitDefEqProofs := false) (disch := first | assumption | (simp only [zzm]; done) | omega | (with_reducible refine Row.adr (by assumption) ?_; simp only [zzk]; omega) | (simp only [zzl, Nat.reduceAdd]; first | done | omega)) only [go_sem, ↓reduceIte, Nat.reduceEqDiff, Nat.reduceAdd, Nat.reduceSub, Nat.reduceMul, Nat.reduceBEq, Nat.reduceLT, Nat.reduceLeDiff, Nat.reduceMod, Nat.reducePow, List.reduceReplicate, UInt8.reduceOfNat, Int.reducePow, Int.reduceDiv, Int.reduceMod, Nat.reduceDiv, Int.reduceNeg, Int.reduceAdd, Int.reduceSub, Int.reduceMul, Int.reduceLE, Int.reduceLT, Int.reduceEq, Int.reduceToNat, reduceCtorEq, hw1]
            exact Upd.now ⟨64 - (t + 1), by omega, t + 1, w &&& (w - 1), H3, by omega, hws, fun j => by
              rw [ht3]
              rcases Nat.lt_trichotomy j t with h | h | h
              · rw [ht2 j h, decide_eq_false (show ¬ t + 1 ≤ j by omega)]; simp
              · subst h; rw [decide_eq_false (show ¬ j + 1 ≤ j by omega)]; simp
              · rw [hwb, decide_eq_true (show p ≤ j by omega), decide_eq_true (show j ≠ t by omega), decide_eq_true (show t + 1 ≤ j by omega)]; simp, hle3.trans hle4, hJ3, rfl, rfl⟩
          · repeat' first
              | (with_reducible first | refine Br.yes ?_ | refine Br.no ?_ | refine Br.dec (fun _ => ?_) (fun _ => ?_) | refine Br.beqB (fun _ => ?_) (fun _ => ?_) | refine Br.beqb (fun _ => ?_) (fun _ => ?_) | refine Br.mk (fun _ => ?_) (fun _ => ?_))
              | ((with_reducible first | refine NewB.mk (fun nb hnb => ?_) | refine NewRow.mk (fun nb nsp ncap hnb hncap => ?_)); have hnb1 := hnb.1.1; have hnb2 := hnb.1.2; try simp only [zzn] at hnb2)
              | simp (dsimp := false) (implicitDefEqProofs := false) (disch := first | assumption | (simp only [zzm]; done) | omega | (with_reducible refine Row.adr (by assumption) ?_; simp only [zzk]; omega) | (simp only [zzl, Nat.reduceAdd]; first | done | omega)) only [go_sem, ↓reduceIte, Nat.reduceEqDiff, Nat.reduceAdd, Nat.reduceSub, Nat.reduceMul, Nat.reduceBEq, Nat.reduceLT, Nat.reduceLeDiff, Nat.reduceMod, Nat.reducePow, List.reduceReplicate, UInt8.reduceOfNat, Int.reducePow, Int.reduceDiv, Int.reduceMod, Nat.reduceDiv, Int.reduceNeg, Int.reduceAdd, Int.reduceSub, Int.reduceMul, Int.reduceLE, Int.reduceLT, Int.reduceEq, Int.reduceToNat, reduceCtorEq]
            all_goals refine Upd.finL ?_ (hR G3 H3 (hle3.trans hle4) hs4 (.inr ⟨_, hJ3⟩)) ?_
            any_goals (intro fsum; first | exact Nat.le_refl _ | (simp only [zzq]; omega))
            rfl
    · obtain rfl : k = 4 := by omega
      repeat' first
        | (with_reducible first | refine Br.yes ?_ | refine Br.no ?_ | refine Br.dec (fun _ => ?_) (fun _ => ?_) | refine Br.beqB (fun _ => ?_) (fun _ => ?_) | refine Br.beqb (fun _ => ?_) (fun _ => ?_) | refine Br.mk (fun _ => ?_) (fun _ => ?_))
        | ((with_reducible first | refine NewB.mk (fun nb hnb => ?_) | refine NewRow.mk (fun nb nsp ncap hnb hncap => ?_)); have hnb1 := hnb.1.1; have hnb2 := hnb.1.2; try simp only [zzn] at hnb2)
        | simp (dsimp := false) (implicitDefEqProofs := false) (disch := first | assumption | (simp only [zzm]; done) | omega | (with_reducible refine Row.adr (by assumption) ?_; simp only [zzk]; omega) | (simp only [zzl, Nat.reduceAdd]; first | done | omega)) only [go_sem, ↓reduceIte, Nat.reduceEqDiff, Nat.reduceAdd, Nat.reduceSub, Nat.reduceMul, Nat.reduceBEq, Nat.reduceLT, Nat.reduceLeDiff, Nat.reduceMod, Nat.reducePow, List.reduceReplicate, UInt8.reduceOfNat, Int.reducePow, Int.reduceDiv, Int.reduceMod, Nat.reduceDiv, Int.reduceNeg, Int.reduceAdd, Int.reduceSub, Int.reduceMul, Int.reduceLE, Int.reduceLT, Int.reduceEq, Int.reduceToNat, reduceCtorEq]
      all_goals refine Upd.finL ?_ (hR G1 H1 hle1 hs (.inl hJ)) ?_
      any_goals (intro fsum; first | exact Nat.le_refl _ | (simp only [zzq]; omega))
      rfl
theorem calleeEach : V.Callee Tryd.prog 90 := ⟨_, _, Tryd.func90, rfl, by kernel_rfl⟩
theorem seach_t {ws : Nat → Nat} {G : PHeap} {H : Heap} {R : Value → PHeap → Heap → Prop} (hR : ∀ bx, Sep G (bx :: keys H) → R (.func (.func 90) #[] #[.pointer (some ⟨bx, 0, none⟩)]) G ((bx, .cells (numsU 4 ws) [] 95) :: H)) : FnT Tryd.prog 77 [.agg (numsU 4 ws).toArray] G H R := by
  have hl := numsU_len 4 ws
  refine FnT.body tok [0, 1, 2] Tryd.func77 rfl (by kernel_rfl) (by kernel_rfl) (by show _ ≤ 4; simp) fun hsep => ?_
  rw [Tryd.results77]
  have hsE := hsep
  try simp only [zzs] at hsE
  repeat (obtain ⟨hsx, hsE⟩ := hsE)
  repeat' first
    | (with_reducible first | refine Br.yes ?_ | refine Br.no ?_ | refine Br.dec (fun _ => ?_) (fun _ => ?_) | refine Br.mk (fun _ => ?_) (fun _ => ?_))
    | ((with_reducible first | refine NewB.mk (fun nb hnb => ?_)); have hnb1 := hnb.1.1; have hnb2 := hnb.1.2; try simp only [zzn] at hnb2)
    | simp (dsimp := false) (implicitDefEqProofs := false) (disch := first | assumption | (simp only [zzm]; done) | omega | (with_reducible refine Row.adr (by assumption) ?_; simp only [zzk]; omega) | (simp only [zzl, Nat.reduceAdd]; first | done | omega)) only [go_sem, ↓reduceIte, Nat.reduceEqDiff, Nat.reduceAdd, Nat.reduceSub, Nat.reduceMul, Nat.reduceBEq, Nat.reduceLT, Nat.reduceLeDiff, Nat.reduceMod, Nat.reducePow, List.reduceReplicate, UInt8.reduceOfNat, Int.reducePow, Int.reduceDiv, Int.reduceMod, Nat.reduceDiv, Int.reduceNeg, Int.reduceAdd, Int.reduceSub, Int.reduceMul, Int.reduceLE, Int.reduceLT, Int.reduceEq, Int.reduceToNat, reduceCtorEq, hl, numsU_all, numsU_one, numsU_over, numsU_over4, List.toList_toArray]
  exact Upd.fin (hR nb hnb) rfl
set_option maxHeartbeats 8000000 in
theorem sleast_t {ws : Nat → Nat} (hw : ∀ k, ws k < 18446744073709551616) {x : Nat} (hx : x < 256) (hm : mem ws x = true) (hmin : ∀ y, y < x → mem ws y = false) {G : PHeap} {H : Heap} {R : Value → PHeap → Heap → Prop} (hg : HasTab G)
    (hR : R (.int .i64 (x : Nat)) G H) : FnT Tryd.prog 64 [.agg (numsU 4 ws).toArray] G H R := by
  have hl := numsU_len 4 ws
  refine FnT.body tok [0, 1, 2, 3, 5, 6] Tryd.func64 rfl (by kernel_rfl) (by kernel_rfl) (by show _ ≤ 9; simp) fun hsep => ?_
  rw [Tryd.results64]
  have hsE := hsep
  try simp only [zzs] at hsE
  repeat (obtain ⟨hsx, hsE⟩ := hsE)
  repeat' first
    | (with_reducible first | refine Br.yes ?_ | refine Br.no ?_ | refine Br.dec (fun _ => ?_) (fun _ => ?_) | refine Br.mk (fun _ => ?_) (fun _ => ?_))
    | ((with_reducible first | refine NewB.mk (fun nb hnb => ?_) | refine NewRow.mk (fun nb nsp ncap hnb hncap => ?_)); have hnb1 := hnb.1.1; have hnb2 := hnb.1.2; try simp only [zzn] at hnb2)
    | simp (dsimp := false) (implicitDefEqProofs := false) (disch := first | assumption | (simp only [zzm]; done) | omega | (with_reducible refine Row.adr (by assumption) ?_; simp only [zzk]; omega) | (simp only [zzl, Nat.reduceAdd]; first | done | omega)) only [go_sem, ↓reduceIte, Nat.reduceEqDiff, Nat.reduceAdd, Nat.reduceSub, Nat.reduceMul, Nat.reduceBEq, Nat.reduceLT, Nat.reduceLeDiff, Nat.reduceMod, Nat.reducePow, List.reduceReplicate, UInt8.reduceOfNat, Int.reducePow, Int.reduceDiv, Int.reduceMod, Nat.reduceDiv, Int.reduceNeg, Int.reduceAdd, Int.reduceSub, Int.reduceMul, Int.reduceLE, Int.reduceLT, Int.reduceEq, Int.reduceToNat, reduceCtorEq, hl, numsU_all, numsU_one, numsU_over, numsU_over4, List.toList_toArray]
  rename_i b1 hb1 hb11 hb12
  revert nb
  intro b2 hb2 hb21 hb22
  refine seach_t fun bx hbx => ?_
  repeat' first
    | (with_reducible first | refine Br.yes ?_ | refine Br.no ?_ | refine Br.dec (fun _ => ?_) (fun _ => ?_) | refine Br.mk (fun _ => ?_) (fun _ => ?_))
    | ((with_reducible first | refine NewB.mk (fun nb hnb => ?_) | refine NewRow.mk (fun nb nsp ncap hnb hncap => ?_)); have hnb1 := hnb.1.1; have hnb2 := hnb.1.2; try simp only [zzn] at hnb2)
    | simp (dsimp := false) (implicitDefEqProofs := false) (disch := first | assumption | (simp only [zzm]; done) | omega | (with_reducible refine Row.adr (by assumption) ?_; simp only [zzk]; omega) | (simp only [zzl, Nat.reduceAdd]; first | done | omega)) only [go_sem, ↓reduceIte, Nat.reduceEqDiff, Nat.reduceAdd, Nat.reduceSub, Nat.reduceMul, Nat.reduceBEq, Nat.reduceLT, Nat.reduceLeDiff, Nat.reduceMod, Nat.reducePow, List.reduceReplicate, UInt8.reduceOfNat, Int.reducePow, Int.reduceDiv, Int.reduceMod, Nat.reduceDiv, Int.reduceNeg, Int.reduceAdd, Int.reduceSub, Int.reduceMul, Int.reduceLE, Int.reduceLT, Int.reduceEq, Int.reduceToNat, reduceCtorEq]
  refine Tri.rangeF2 tok [0, 1, 2, 3, 5, 6] rfl calleeEach (by kernel_rfl) fun lr Rr Rb hlr yl => ?_
  have hsE := hlr
  try simp only [zzs] at hsE
  repeat (obtain ⟨hsx, hsE⟩ := hsE)
  refine FnT.leave (H' := (bx, .cells (numsU 4 ws) [] 95) :: (lr, Rr .normal) :: (b2, .cells [.int .i64 0] [] 3) :: (b1, .cells (numsU 4 ws) [] 95) :: H) ?_ (by intro fsum; first | exact Nat.le_refl _ | (simp only [zzq]; omega))
  refine seach1_t lr bx hw hg (fun pre G' H' => G' = G ∧ pre = [] ∧ H' = (lr, Rr .normal) :: (b2, .cells [.int .i64 0] [] 3) :: (b1, .cells (numsU 4 ws) [] 95) :: H) (fun pre G' H' => G' = G ∧ H' = (lr, Rr .ret) :: (b2, .cells [.int .i64 (x : Nat)] [] 3) :: (b1, .cells (numsU 4 ws) [] 95) :: H) ?_ ⟨rfl, rfl, rfl⟩ ?_
  · rintro y _ _ hle1 hs1 ⟨rfl, hpre, rfl⟩ hy hm1
    have hsE := hs1
    try simp only [zzs] at hsE
    repeat (obtain ⟨hsx, hsE⟩ := hsE)
    obtain rfl : y = x := by
      rcases Nat.lt_trichotomy y x with h | h | h
      · rw [hmin y h] at hm1; cases hm1
      · exact h
      · have hin : x ∈ elems y ws := List.mem_filter.2 ⟨List.mem_range.2 h, hm⟩
        rw [hpre] at hin; cases hin
    refine yl rfl ?_ ?_
    · simp (dsimp := false) (implicitDefEqProofs := false) (disch := first | assumption | (simp only [zzm]; done) | omega | (with_reducible refine Row.adr (by assumption) ?_; simp only [zzk]; omega) | (simp only [zzl, Nat.reduceAdd]; first | done | omega)) only [go_sem, ↓reduceIte, Nat.reduceEqDiff, Nat.reduceAdd, Nat.reduceSub, Nat.reduceMul, Nat.reduceBEq, Nat.reduceLT, Nat.reduceLeDiff, Nat.reduceMod, Nat.reducePow, List.reduceReplicate, UInt8.reduceOfNat, Int.reducePow, Int.reduceDiv, Int.reduceMod, Nat.reduceDiv, Int.reduceNeg, Int.reduceAdd, Int.reduceSub, Int.reduceMul, Int.reduceLE, Int.reduceLT, Int.reduceEq, Int.reduceToNat, reduceCtorEq]
    · repeat' first
        | (with_reducible first | refine Br.yes ?_ | refine Br.no ?_ | refine Br.dec (fun _ => ?_) (fun _ => ?_) | refine Br.mk (fun _ => ?_) (fun _ => ?_))
        | ((with_reducible first | refine NewB.mk (fun nb hnb => ?_) | refine NewRow.mk (fun nb nsp ncap hnb hncap => ?_)); have hnb1 := hnb.1.1; have hnb2 := hnb.1.2; try simp only [zzn] at hnb2)
        | simp (dsimp := false) (implicitDefEqProofs := false) (disch := first | assumption | (simp only [zzm]; done) | omega | (with_reducible refine Row.adr (by assumption) ?_; simp only [zzk]; omega) | (simp only [zzl, Nat.reduceAdd]; first | done | omega)) only [go_sem, ↓reduceIte, Nat.reduceEqDiff, Nat.reduceAdd, Nat.reduceSub, Nat.reduceMul, Nat.reduceBEq, Nat.reduceLT, Nat.reduceLeDiff, Nat.reduceMod, Nat.reducePow, List.reduceReplicate, UInt8.reduceOfNat, Int.reducePow, Int.reduceDiv, Int.reduceMod, Nat.reduceDiv, Int.reduceNeg, Int.reduceAdd, Int.reduceSub, Int.reduceMul, Int.reduceLE, Int.reduceLT, Int.reduceEq, Int.reduceToNat, reduceCtorEq]
      exact ⟨_, rfl, .inr rfl⟩
  · rintro _ _ hle1 hs1 (⟨rfl, hpre, rfl⟩ | ⟨_, rfl, rfl⟩)
    · have hin : x ∈ elems 256 ws := List.mem_filter.2 ⟨List.mem_range.2 hx, hm⟩
      rw [hpre] at hin; cases hin
    · have hsE := hs1
      try simp only [zzs] at hsE
      repeat (obtain ⟨hsx, hsE⟩ := hsE)
      refine ⟨.ret, ?_, ?_⟩
      · simp (dsimp := false) (implicitDefEqProofs := false) (disch := first | assumption | (simp only [zzm]; done) | omega | (with_reducible refine Row.adr (by assumption) ?_; simp only [zzk]; omega) | (simp only [zzl, Nat.reduceAdd]; first | done | omega)) only [go_sem, ↓reduceIte, Nat.reduceEqDiff, Nat.reduceAdd, Nat.reduceSub, Nat.reduceMul, Nat.reduceBEq, Nat.reduceLT, Nat.reduceLeDiff, Nat.reduceMod, Nat.reducePow, List.reduceReplicate, UInt8.reduceOfNat, Int.reducePow, Int.reduceDiv, Int.reduceMod, Nat.reduceDiv, Int.reduceNeg, Int.reduceAdd, Int.reduceSub, Int.reduceMul, Int.reduceLE, Int.reduceLT, Int.reduceEq, Int.reduceToNat, reduceCtorEq]
      · repeat' first
          | (with_reducible first | refine Br.yes ?_ | refine Br.no ?_ | refine Br.dec (fun _ => ?_) (fun _ => ?_) | refine Br.mk (fun _ => ?_) (fun _ => ?_))
          | ((with_reducible first | refine NewB.mk (fun nb hnb => ?_) | refine NewRow.mk (fun nb nsp ncap hnb hncap => ?_)); have hnb1 := hnb.1.1; have hnb2 := hnb.1.2; try simp only [zzn] at hnb2)
          | simp (dsimp := false) (implicitDefEqProofs := false) (disch := first | assumption | (simp only [zzm]; done) | omega | (with_reducible refine Row.adr (by assumption) ?_; simp only [zzk]; omega) | (simp only [zzl, Nat.reduceAdd]; first | done | omega)) only [go_sem, ↓reduceIte, Nat.reduceEqDiff, Nat.reduceAdd, Nat.reduceSub, Nat.reduceMul, Nat.reduceBEq, Nat.reduceLT, Nat.reduceLeDiff, Nat.reduceMod, Nat.reducePow, List.reduceReplicate, UInt8.reduceOfNat, Int.reducePow, Int.reduceDiv, Int.reduceMod, Nat.reduceDiv, Int.reduceNeg, Int.reduceAdd, Int.reduceSub, Int.reduceMul, Int.reduceLE, Int.reduceLT, Int.reduceEq, Int.reduceToNat, reduceCtorEq]
        all_goals refine Upd.finL ?_ hR ?_
        any_goals (intro fsum; first | exact Nat.le_refl _ | (simp only [zzq]; omega))
        rfl
end Go.Proofs.YtefkpedhbijhkaaDoor
namespace Go.Proofs.YtefkpedhbijhkaaDoor
open Go Go.V Go.Proofs
theorem splice_flat (W : List (Nat → Nat)) {k : Nat} (hk : k < W.length) (ws : Nat → Nat) : splice (W.flatMap numsOf) (k * 4) (numsU 4 ws) = (W.set k ws).flatMap numsOf := by
  have hd := flatMap_drop (enc := numsOf) (m := 4) numsOf_len W (k + 1)
  have hl := numsU_len 4 ws
  have ht : ∀ (V : List (Nat → Nat)) (i : Nat), (V.flatMap numsOf).take (i * 4) = (V.take i).flatMap numsOf := by
    intro V
    induction V with
    | nil => intro i; simp
    | cons v V ih =>
      intro i
      cases i with
      | zero => simp
      | succ i =>
        rw [List.flatMap_cons, List.take_succ_cons, List.flatMap_cons, show (i + 1) * 4 = (numsOf v).length + i * 4 by rw [numsOf_len]; omega, List.take_length_add_append, ih]
  unfold splice
  rw [ht, hl, show k * 4 + 4 = (k + 1) * 4 by omega, hd, List.set_eq_take_append_cons_drop, if_pos hk, List.flatMap_append, List.flatMap_cons]
  simp [numsOf]
/-- the sets of the classes of the first c bytes, by their numbers -/
def SetsTo (l : List Int) (c : Nat) (W : List (Nat → Nat)) : Prop :=
  W.length = (tabO l).length ∧ (∀ ws ∈ W, ∀ k, ws k < 18446744073709551616) ∧ ∀ i d (hi : i < W.length), mem W[i] d = decide (d < c ∧ nD l d = i)
theorem SetsTo.all {l : List Int} (hl : l.length = 256) {W : List (Nat → Nat)} (h : SetsTo l 256 W) : SetsOf l 256 W := by
  obtain ⟨h1, h2, h3⟩ := h
  have hlt : l.take 256 = l := List.take_of_length_le (by omega)
  unfold SetsOf
  simp only [hlt]
  refine ⟨h1, h2, fun i d hi hd h4 => ?_⟩
  rw [h3 i d hi]
  refine decide_eq_decide.2 ?_
  rw [class_iff hd h4]
  exact ⟨fun h => h.2, fun h => ⟨by omega, h⟩⟩
theorem SetsTo.zero (l : List Int) : SetsTo l 0 (List.replicate (tabO l).length fun _ => 0) := by
  refine ⟨List.length_replicate, fun ws hws k => ?_, fun i d hi => ?_⟩
  · rw [(List.mem_replicate.1 hws).2]; exact Nat.zero_lt_succ _
  · rw [List.getElem_replicate, mem_none, decide_eq_false (by omega)]
theorem SetsTo.succ {l : List Int} (hl : l.length = 256) {c : Nat} (hc : c < 256) {W : List (Nat → Nat)} (h : SetsTo l c W) {n : Nat} (hn : nD l c = n) (hnl : n < W.length) : SetsTo l (c + 1) (W.set n (uacc [W[n], oneW c])) := by
  obtain ⟨h1, h2, h3⟩ := h
  have hb : ∀ f ∈ [W[n], oneW c], ∀ k, f k < 18446744073709551616 := fun f hf k => by
    rcases List.mem_cons.1 hf with h | h
    · rw [h]; exact h2 _ (List.getElem_mem hnl) k
    · rw [List.mem_singleton.1 h]; exact oneW_lt c k
  refine ⟨by rw [List.length_set]; exact h1, fun ws hws k => ?_, fun i d hi => ?_⟩
  · rcases List.mem_or_eq_of_mem_set hws with h | h
    · exact h2 _ h k
    · rw [h]; exact uacc_lt hb k
  · rw [List.length_set] at hi
    rw [List.getElem_set]
    by_cases e : n = i
    · subst e
      rw [if_pos rfl]
      have hu : uacc [W[n], oneW c] = twoW W[n] (oneW c) := by funext k; show 0 ||| _ ||| _ = _; rw [Nat.zero_or]; rfl
      rw [hu, twoW_mem, oneW_mem, h3 n d hnl, Bool.eq_iff_iff]
      simp only [Bool.or_eq_true, decide_eq_true_eq]
      constructor
      · rintro (⟨q1, q2⟩ | q)
        · exact ⟨by omega, q2⟩
        · subst q; exact ⟨by omega, hn⟩
      · rintro ⟨q1, q2⟩
        by_cases e : d = c
        · exact .inr e
        · exact .inl ⟨by omega, q2⟩
    · rw [if_neg e, h3 i d hi]
      refine decide_eq_decide.2 ⟨fun q => ⟨by omega, q.2⟩, fun q => ⟨?_, q.2⟩⟩
      rcases Nat.lt_or_ge d c with q1 | q1
      · exact q1
      · obtain rfl : d = c := by omega
        rw [hn] at q; omega
theorem rep_zero4 (n : Nat) : rep n [Value.int .u64 0, Value.int .u64 0, Value.int .u64 0, Value.int .u64 0] = (List.replicate n (fun _ : Nat => 0)).flatMap numsOf := by
  induction n with
  | zero => rfl
  | succ n ih =>
    rw [List.replicate_succ, List.flatMap_cons, ← ih]
    rfl
set_option maxHeartbeats 16000000 in
theorem psets_t {l : List Int} (hl : l.length = 256) {G : PHeap} {H : Heap} {R : Value → PHeap → Heap → Prop}
    (hR : ∀ G' v' W, PLe G G' → Sep G' (keys H) → SlM G' numsOf v' W → SetsOf l 256 W → R v' G' H) : FnT Tryd.prog 63 [agg8 l] G H R := by
  have hu8 : (u8L l).length = 256 := by rw [List.length_map, hl]
  have htk : List.take 256 (u8L l) = u8L l := List.take_of_length_le (by omega)
  have hnl : (nums l).length = 256 := by rw [nums_len, hl]
  have hu9 : (u8L (nums l)).length = 256 := by rw [List.length_map, hnl]
  have htk9 : List.take 256 (u8L (nums l)) = u8L (nums l) := List.take_of_length_le (by omega)
  have hno1 : ∀ l : List Int, (u8L l).all oneV = true := fun l => by rw [List.all_map]; exact List.all_eq_true.2 fun _ _ => rfl
  have hov : ∀ f : Nat → Int, splice (u8F f) 0 (u8L (nums l)) = u8L (nums l) := fun f => by rw [← u8F_nums hl, u8F_over]
  have htl := tabO_len l
  refine FnT.sep ?_
  refine FnT.body tok [0, 1, 2, 3, 4, 5, 6, 7, 15, 16] Tryd.func63 rfl (by kernel_rfl) (by kernel_rfl) (by show _ ≤ 36; simp) fun hsep => ?_
  rw [Tryd.results63]
  have hsE := hsep
  try simp only [zzs] at hsE
  repeat (obtain ⟨hsx, hsE⟩ := hsE)
  repeat' first
    | (with_reducible first | refine Br.yes ?_ | refine Br.no ?_ | refine Br.dec (fun _ => ?_) (fun _ => ?_) | refine Br.mk (fun _ => ?_) (fun _ => ?_))
    | ((with_reducible first | refine NewB.mk (fun nb hnb => ?_) | refine NewRow.mk (fun nb nsp ncap hnb hncap => ?_)); have hnb1 := hnb.1.1; have hnb2 := hnb.1.2; try simp only [zzn] at hnb2)
    | simp (dsimp := false) (implicitDefEqProofs := false) (disch := first | assumption | (simp only [zzm]; done) | omega | (with_reducible refine Row.adr (by assumption) ?_; simp only [zzk]; omega) | (simp only [zzl, Nat.reduceAdd]; first | done | omega)) only [go_sem, ↓reduceIte, Nat.reduceEqDiff, Nat.reduceAdd, Nat.reduceSub, Nat.reduceMul, Nat.reduceBEq, Nat.reduceLT, Nat.reduceLeDiff, Nat.reduceMod, Nat.reducePow, List.reduceReplicate, UInt8.reduceOfNat, Int.reducePow, Int.reduceDiv, Int.reduceMod, Nat.reduceDiv, Int.reduceNeg, Int.reduceAdd, Int.reduceSub, Int.reduceMul, Int.reduceLE, Int.reduceLT, Int.reduceEq, Int.reduceToNat, reduceCtorEq, -List.reduceReplicate, List.toList_toArray, u8F_zero, u8F_len, hu8, htk]
    | with_reducible refine pnorm_t hl ?_
  rename_i b1 hb1 hb11 hb12 b3 hb3 hb31 hb32
  revert nb
  intro b5 hb5 hb51 hb52
  rw [hov, rep_zero4, Nat.sub_self, show rep 0 [Value.int .u64 0, Value.int .u64 0, Value.int .u64 0, Value.int .u64 0] = [] from rfl]
  refine Tri.loopU tok [0, 1, 2, 3, 4, 5, 6, 7, 15, 16] (by kernel_rfl) [2, 3, 5, 15] (fun q G' fr H' => ∃ (c : Nat) (W : List (Nat → Nat)), c + q = 256 ∧ G' = G ∧ SetsTo l c W ∧ H' = (b5, .cells (W.flatMap numsOf) [] 95) :: (b3, .cells (u8L (nums l)) [] 22) :: (b1, .cells (u8L l) [] 22) :: H ∧ fr = [(2, .slice none 0 0), (3, .pointer (some ⟨b3, 0, none⟩)), (5, .slice (some ⟨b5, 0, none⟩) (tabO l).length (tabO l).length), (15, .int .i64 (c : Nat))]) (256) ?_ ?_
  · exact Upd.now ⟨0, _, by omega, rfl, SetsTo.zero l, rfl, rfl⟩
  · rintro q G1 fr H' hle hs ⟨c, W, hc, rfl, hW, rfl, rfl⟩
    have hsE := hs
    try simp only [zzs] at hsE
    repeat (obtain ⟨hsx, hsE⟩ := hsE)
    obtain ⟨hW1, hW2, hW3⟩ := id hW
    have hfl := flatMap_len (enc := numsOf) (m := 4) numsOf_len W
    by_cases hcl : c < 256
    · obtain ⟨q1, q2⟩ := nums_bound (List.getElem_mem (l := nums l) (n := c) (by omega))
      obtain ⟨n, hn⟩ := Int.eq_ofNat_of_zero_le q1
      have hnW : n < W.length := by omega
      have hnd : nD l c = n := by unfold nD; rw [List.getD_eq_getElem?_getD, List.getElem?_eq_getElem (by omega), ← hn]; rfl
      have hget := u8_get (l := nums l) (i := c) (by omega) []
      rw [List.append_nil, hn] at hget
      have hget2 := flatMap_get (enc := numsOf) (m := 4) numsOf_len W n hnW
      have hget3 : List.take 4 (List.drop (n * 4) (W.flatMap numsOf)) = numsU 4 W[n] := hget2
      have hmul : (n + 1) * 4 ≤ W.length * 4 := Nat.mul_le_mul_right _ hnW
      have hc8 : IntKind.u8.wrap (c : Int) = (c : Int) := u8_wrap hcl
      have hS := hW.succ hl hcl hnd hnW
      have hr1 : ∀ v : Value, List.replicate 1 v = [v] := fun _ => rfl
      have hr8 : ∀ v : Value, List.replicate 8 v = [v, v, v, v, v, v, v, v] := fun _ => rfl
      have hl4 := numsU_len 4
      obtain ⟨Z, hZ⟩ : ∃ Z, Z = rep 2 [Value.int .u64 0, Value.int .u64 0, Value.int .u64 0, Value.int .u64 0] := ⟨_, rfl⟩
      have hZl : Z.length = 8 := by rw [hZ]; rfl
      have hspl1 : ∀ f, splice Z 0 (numsU 4 f) = numsU 4 f ++ Z.drop 4 := fun f => by unfold splice; rw [List.take_zero, List.nil_append, hl4]
      have hspl2 : ∀ f g, splice (numsU 4 f ++ Z.drop 4) 4 (numsU 4 g) = [f, g].flatMap numsOf := fun f g => by
        unfold splice
        rw [List.take_append_of_le_length (by rw [hl4]; omega), List.take_of_length_le (by rw [hl4]; omega), List.drop_of_length_le (by rw [List.length_append, hl4, hl4, List.length_drop, hZl]; omega)]
        simp [numsOf]
      have hspll : ∀ f, (numsU 4 f ++ Z.drop 4).length = 8 := fun f => by rw [List.length_append, hl4, List.length_drop, hZl]
      repeat' first
        | (with_reducible first | refine Br.yes ?_ | refine Br.no ?_ | refine Br.dec (fun _ => ?_) (fun _ => ?_) | refine Br.mk (fun _ => ?_) (fun _ => ?_))
        | ((with_reducible first | refine NewB.mk (fun nb hnb => ?_) | refine NewRow.mk (fun nb nsp ncap hnb hncap => ?_)); have hnb1 := hnb.1.1; have hnb2 := hnb.1.2; try simp only [zzn] at hnb2)
        | simp (dsimp := false) (implicitDefEqProofs := false) (disch := first | assumption | (simp only [zzm]; done) | omega | (with_reducible refine Row.adr (by assumption) ?_; simp only [zzk]; omega) | (simp only [zzl, Nat.reduceAdd]; first | done | omega)) only [go_sem, ↓reduceIte, Nat.reduceEqDiff, Nat.reduceAdd, Nat.reduceSub, Nat.reduceMul, Nat.reduceBEq, Nat.reduceLT, Nat.reduceLeDiff, Nat.reduceMod, Nat.reducePow, List.reduceReplicate, UInt8.reduceOfNat, Int.reducePow, Int.reduceDiv, Int.reduceMod, Nat.reduceDiv, Int.reduceNeg, Int.reduceAdd, Int.reduceSub, Int.reduceMul, Int.reduceLE, Int.reduceLT, Int.reduceEq, Int.reduceToNat, reduceCtorEq, -List.reduceReplicate, hr1, List.toList_toArray, hu9, hget, hfl, hget3, hl4, hc8, numsU_one, Int.toNat_natCast]
        | with_reducible refine Tri.drawS tok mixed [0, 1, 2, 3, 4, 5, 6, 7, 15, 16] 7 [5] (.op 0 .plain (.op 1 .plain (.op 2 .plain (.op 3 .plain (.op 4 .plain (.op 5 .held (.op 6 .plain (.op 7 .plain (.op 8 .keeps (.op 9 .keeps (.op 10 .plain (.op 11 .keeps (.op 12 .plain (.op 13 .plain .nil)))))))))))))) (by kernel_rfl) [(b5, .cells (W.flatMap numsOf) [] 95)] (by intro fsum; first | exact Nat.le_refl _ | (simp only [zzq]; omega)) ?_
      refine sof_t (e := 5) hcl hnb1 (by simp [findH]) ?_
      repeat' first
        | (with_reducible first | refine Br.yes ?_ | refine Br.no ?_ | refine Br.dec (fun _ => ?_) (fun _ => ?_) | refine Br.mk (fun _ => ?_) (fun _ => ?_))
        | ((with_reducible first | refine NewB.mk (fun nb hnb => ?_) | refine NewRow.mk (fun nb nsp ncap hnb hncap => ?_)); have hnb1 := hnb.1.1; have hnb2 := hnb.1.2; try simp only [zzn] at hnb2)
        | simp (dsimp := false) (implicitDefEqProofs := false) (disch := first | assumption | (simp only [zzm]; done) | omega | (with_reducible refine Row.adr (by assumption) ?_; simp only [zzk]; omega) | (simp only [zzl, Nat.reduceAdd]; first | done | omega)) only [go_sem, ↓reduceIte, Nat.reduceEqDiff, Nat.reduceAdd, Nat.reduceSub, Nat.reduceMul, Nat.reduceBEq, Nat.reduceLT, Nat.reduceLeDiff, Nat.reduceMod, Nat.reducePow, List.reduceReplicate, UInt8.reduceOfNat, Int.reducePow, Int.reduceDiv, Int.reduceMod, Nat.reduceDiv, Int.reduceNeg, Int.reduceAdd, Int.reduceSub, Int.reduceMul, Int.reduceLE, Int.reduceLT, Int.reduceEq, Int.reduceToNat, reduceCtorEq, -List.reduceReplicate, hr1, hr8, List.toList_toArray, hu9, hget, hfl, hget3, hl4, hc8, numsU_one, Int.toNat_natCast, ← hZ, hZl, hspl1, hspll, hspl2]
      refine sunion_t (l := [W[n], oneW c]) (e := 95) (sp := []) (by simp) (fun f hf => ?_) (by assumption) (by simp [findH]) ?_
      · rcases List.mem_cons.1 hf with h | h
        · rw [h]; exact hW2 _ (List.getElem_mem hnW)
        · rw [List.mem_singleton.1 h]; exact oneW_lt c
      have hfl2 := flatMap_len (enc := numsOf) (m := 4) numsOf_len (W.set n (uacc [W[n], oneW c]))
      have hspf := splice_flat W hnW (uacc [W[n], oneW c])
      repeat' first
        | (with_reducible first | refine Br.yes ?_ | refine Br.no ?_ | refine Br.dec (fun _ => ?_) (fun _ => ?_) | refine Br.mk (fun _ => ?_) (fun _ => ?_))
        | ((with_reducible first | refine NewB.mk (fun nb hnb => ?_) | refine NewRow.mk (fun nb nsp ncap hnb hncap => ?_)); have hnb1 := hnb.1.1; have hnb2 := hnb.1.2; try simp only [zzn] at hnb2)
        | simp (dsimp := false) (implicitDefEqProofs := false) (disch := first | assumption | (simp only [zzm]; done) | omega | (with_reducible refine Row.adr (by assumption) ?_; simp only [zzk]; omega) | (simp only [zzl, Nat.reduceAdd]; first | done | omega)) only [go_sem, ↓reduceIte, Nat.reduceEqDiff, Nat.reduceAdd, Nat.reduceSub, Nat.reduceMul, Nat.reduceBEq, Nat.reduceLT, Nat.reduceLeDiff, Nat.reduceMod, Nat.reducePow, List.reduceReplicate, UInt8.reduceOfNat, Int.reducePow, Int.reduceDiv, Int.reduceMod, Nat.reduceDiv, Int.reduceNeg, Int.reduceAdd, Int.reduceSub, Int.reduceMul, Int.reduceLE, Int.reduceLT, Int.reduceEq, Int.reduceToNat, reduceCtorEq, -List.reduceReplicate, List.toList_toArray, hfl, hl4, numsU_one, hspf]
      exact Upd.go (H' := (b5, .cells ((W.set n (uacc [W[n], oneW c])).flatMap numsOf) [] 95) :: (b3, .cells (u8L (nums l)) [] 22) :: (b1, .cells (u8L l) [] 22) :: H) (by intro fsum; first | exact Nat.le_refl _ | (simp only [zzq]; omega)) (Upd.now ⟨q - 1, by omega, c + 1, _, by omega, rfl, hS, rfl, rfl⟩)
    · obtain rfl : c = 256 := by omega
      repeat' first
        | (with_reducible first | refine Br.yes ?_ | refine Br.no ?_ | refine Br.dec (fun _ => ?_) (fun _ => ?_) | refine Br.mk (fun _ => ?_) (fun _ => ?_))
        | ((with_reducible first | refine NewB.mk (fun nb hnb => ?_) | refine NewRow.mk (fun nb nsp ncap hnb hncap => ?_)); have hnb1 := hnb.1.1; have hnb2 := hnb.1.2; try simp only [zzn] at hnb2)
        | simp (dsimp := false) (implicitDefEqProofs := false) (disch := first | assumption | (simp only [zzm]; done) | omega | (with_reducible refine Row.adr (by assumption) ?_; simp only [zzk]; omega) | (simp only [zzl, Nat.reduceAdd]; first | done | omega)) only [go_sem, ↓reduceIte, Nat.reduceEqDiff, Nat.reduceAdd, Nat.reduceSub, Nat.reduceMul, Nat.reduceBEq, Nat.reduceLT, Nat.reduceLeDiff, Nat.reduceMod, Nat.reducePow, List.reduceReplicate, UInt8.reduceOfNat, Int.reducePow, Int.reduceDiv, Int.reduceMod, Nat.reduceDiv, Int.reduceNeg, Int.reduceAdd, Int.reduceSub, Int.reduceMul, Int.reduceLE, Int.reduceLT, Int.reduceEq, Int.reduceToNat, reduceCtorEq, -List.reduceReplicate]
      unfold UpdR
      refine Upd.go (H' := (b5, .cells (W.flatMap numsOf) [] 95) :: H) (by intro fsum; first | exact Nat.le_refl _ | (simp only [zzq]; omega)) (Upd.shareRow (by assumption) fun G2 hle2 hs2 hr2 => ?_)
      exact fun _ hs => hR G2 _ W hle2 hs ⟨some ⟨b5, 0, none⟩, _, by rw [hW1], hr2, by omega⟩ (hW.all hl)
end Go.Proofs.YtefkpedhbijhkaaDoor
namespace Go.Proofs.YtefkpedhbijhkaaDoor
open Go Go.V Go.Proofs
def leastL (l : List Int) : List Int := (tabO l).map (findF l)
theorem leastL_len (l : List Int) : (leastL l).length = (tabO l).length := by simp [leastL]
/-- the first byte of a class -/
theorem least_at {l : List Int} (hl : l.length = 256) {W : List (Nat → Nat)} (hW : SetsOf l 256 W) {i : Nat} (hi : i < W.length) : ∃ (x : Nat) (h : i < (leastL l).length), (leastL l)[i] = (x : Nat) ∧ x < 256 ∧ mem W[i] x = true ∧ ∀ y, y < x → mem W[i] y = false := by
  obtain ⟨h1, h2, h3⟩ := hW
  have hlt : l.take 256 = l := List.take_of_length_le (by omega)
  simp only [hlt] at h1 h3
  have hit : i < (tabO l).length := by omega
  have hin : (tabO l)[i] ∈ l := (mem_tabO l).1 (List.getElem_mem hit)
  obtain ⟨x, hx⟩ := place_mem hin
  obtain ⟨hx1, hx2⟩ := place_some hx
  rw [List.getElem?_eq_getElem hx1, Option.some.injEq] at hx2
  refine ⟨x, by rw [leastL_len]; exact hit, by simp only [leastL, List.getElem_map]; exact findF_some hx, by omega, ?_, fun y hy => ?_⟩
  · rw [h3 i x hi hx1 hit]; exact decide_eq_true hx2
  · rw [h3 i y hi (by omega) hit]
    refine decide_eq_false fun e => ?_
    unfold place at hx
    rw [List.findIdx?_eq_some_iff_getElem] at hx
    obtain ⟨h5, h6, h7⟩ := hx
    have := h7 y hy
    simp only [e, decide_true, not_true_eq_false] at this
theorem take_snoc {l : List Int} {i : Nat} (h : i < l.length) : (l.take (i + 1)).map (Value.int .u8) = (l.take i).map (Value.int .u8) ++ [Value.int .u8 l[i]] := by
  rw [List.take_succ_eq_append_getElem h, List.map_append]; rfl
set_option maxHeartbeats 16000000 in
theorem pleasts_t {l : List Int} (hl : l.length = 256) {G : PHeap} {H : Heap} {R : Value → PHeap → Heap → Prop} (hg : HasTab G)
    (hR : ∀ G' v', PLe G G' → Sep G' (keys H) → Sl G' (Value.int .u8) v' (leastL l) → R v' G' H) : FnT Tryd.prog 45 [agg8 l] G H R := by
  have hu8 : (u8L l).length = 256 := by rw [List.length_map, hl]
  have htk : List.take 256 (u8L l) = u8L l := List.take_of_length_le (by omega)
  have hno1 : ∀ l : List Int, (u8L l).all oneV = true := fun l => by rw [List.all_map]; exact List.all_eq_true.2 fun _ _ => rfl
  have hll := leastL_len l
  have htl := tabO_len l
  refine FnT.sep ?_
  refine FnT.body tok [0, 1, 2, 3, 5, 7, 8, 9, 10] Tryd.func45 rfl (by kernel_rfl) (by kernel_rfl) (by show _ ≤ 21; simp) fun hsep => ?_
  rw [Tryd.results45]
  have hsE := hsep
  try simp only [zzs] at hsE
  repeat (obtain ⟨hsx, hsE⟩ := hsE)
  repeat' first
    | (with_reducible first | refine Br.yes ?_ | refine Br.no ?_ | refine Br.dec (fun _ => ?_) (fun _ => ?_) | refine Br.mk (fun _ => ?_) (fun _ => ?_) | refine appV.zero ?_ | refine appV.own ?_)
    | ((with_reducible first | refine NewB.mk (fun nb hnb => ?_) | refine NewRow.mk (fun nb nsp ncap hnb hncap => ?_)); have hnb1 := hnb.1.1; have hnb2 := hnb.1.2; try simp only [zzn] at hnb2)
    | simp (dsimp := false) (implicitDefEqProofs := false) (disch := first | assumption | (simp only [zzm]; done) | omega | (with_reducible refine Row.adr (by assumption) ?_; simp only [zzk]; omega) | (simp only [zzl, Nat.reduceAdd]; first | done | omega)) only [go_sem, ↓reduceIte, Nat.reduceEqDiff, Nat.reduceAdd, Nat.reduceSub, Nat.reduceMul, Nat.reduceBEq, Nat.reduceLT, Nat.reduceLeDiff, Nat.reduceMod, Nat.reducePow, List.reduceReplicate, UInt8.reduceOfNat, Int.reducePow, Int.reduceDiv, Int.reduceMod, Nat.reduceDiv, Int.reduceNeg, Int.reduceAdd, Int.reduceSub, Int.reduceMul, Int.reduceLE, Int.reduceLT, Int.reduceEq, Int.reduceToNat, reduceCtorEq, -List.reduceReplicate, List.toList_toArray, u8F_zero, u8F_len, hu8, htk]
  revert nb
  intro b1 hb1 hb11 hb12
  refine psets_t hl fun G2 v2 W hle2 hs2 hsl hW => ?_
  obtain ⟨a, cap, rfl, hrow, hcap⟩ := hsl
  have hWl : W.length = (tabO l).length := by
    have := hW.1
    rwa [List.take_of_length_le (by omega)] at this
  have hg2 := hg.mono hle2
  have hsE := hs2
  try simp only [zzs] at hsE
  repeat (obtain ⟨hsx, hsE⟩ := hsE)
  repeat' first
    | (with_reducible first | refine Br.yes ?_ | refine Br.no ?_ | refine Br.dec (fun _ => ?_) (fun _ => ?_) | refine Br.mk (fun _ => ?_) (fun _ => ?_) | refine appV.zero ?_ | refine appV.own ?_)
    | ((with_reducible first | refine NewB.mk (fun nb hnb => ?_) | refine NewRow.mk (fun nb nsp ncap hnb hncap => ?_)); have hnb1 := hnb.1.1; have hnb2 := hnb.1.2; try simp only [zzn] at hnb2)
    | simp (dsimp := false) (implicitDefEqProofs := false) (disch := first | assumption | (simp only [zzm]; done) | omega | (with_reducible refine Row.adr (by assumption) ?_; simp only [zzk]; omega) | (simp only [zzl, Nat.reduceAdd]; first | done | omega)) only [go_sem, ↓reduceIte, Nat.reduceEqDiff, Nat.reduceAdd, Nat.reduceSub, Nat.reduceMul, Nat.reduceBEq, Nat.reduceLT, Nat.reduceLeDiff, Nat.reduceMod, Nat.reducePow, List.reduceReplicate, UInt8.reduceOfNat, Int.reducePow, Int.reduceDiv, Int.reduceMod, Nat.reduceDiv, Int.reduceNeg, Int.reduceAdd, Int.reduceSub, Int.reduceMul, Int.reduceLE, Int.reduceLT, Int.reduceEq, Int.reduceToNat, reduceCtorEq, -List.reduceReplicate, List.toList_toArray]
  refine Tri.loopU tok [0, 1, 2, 3, 5, 7, 8, 9, 10] (by kernel_rfl) [2, 3, 7, 8, 9] (fun q G' fr H' => ∃ (i : Nat) (v : Value) (kb : Heap), i + q = W.length ∧ G' = G2 ∧ SliceO [] 5 1 v i ((leastL l).take i |>.map (Value.int .u8)) kb ∧ H' = (b1, .cells (u8L l) [] 22) :: (kb ++ H) ∧ fr = [(2, .slice none 0 0), (3, v), (7, .slice a W.length cap), (8, .int .i64 W.length), (9, .int .i64 i)]) (W.length) ?_ ?_
  · exact Upd.now ⟨0, _, [], by omega, rfl, .inl ⟨none, rfl, rfl, rfl, rfl⟩, rfl, rfl⟩
  · rintro q G1 fr H' hle hs ⟨i, v, kb, hi, rfl, hv, rfl, rfl⟩
    by_cases hil : i < W.length
    · have had : Adr a := hrow.adr (by rw [flatMap_len numsOf_len]; omega)
      obtain ⟨x, hx1, hx2, hx3, hx4, hx5⟩ := least_at hl hW hil
      have hsn := take_snoc hx1
      rw [hx2] at hsn
      have hx8 : IntKind.u8.wrap (x : Int) = (x : Int) := u8_wrap hx3
      have hws := hW.2.1 _ (List.getElem_mem hil)
      have hl4 := numsU_len 4
      have hr1 : ∀ v : Value, List.replicate 1 v = [v] := fun _ => rfl
      have hob : numsOf = numsU 4 := rfl
      have hlt : ((leastL l).take i).length = i := by rw [List.length_take]; omega
      rcases hv with ⟨a0, rfl, hn, hx, rfl⟩ | ⟨b2, c2, sp, rfl, rfl, hx, hc⟩
      · have hsE := hs
        try simp only [zzs] at hsE
        repeat (obtain ⟨hsx, hsE⟩ := hsE)
        repeat' first
          | (with_reducible first | refine Br.yes ?_ | refine Br.no ?_ | refine Br.dec (fun _ => ?_) (fun _ => ?_) | refine Br.mk (fun _ => ?_) (fun _ => ?_) | refine appV.zero ?_ | refine appV.own ?_)
          | ((with_reducible first | refine NewB.mk (fun nb hnb => ?_) | refine NewRow.mk (fun nb nsp ncap hnb hncap => ?_)); have hnb1 := hnb.1.1; have hnb2 := hnb.1.2; try simp only [zzn] at hnb2)
          | simp (dsimp := false) (implicitDefEqProofs := false) (disch := first | assumption | (simp only [zzm]; done) | omega | (with_reducible refine Row.adr (by assumption) ?_; simp only [zzk]; omega) | (simp only [zzl, Nat.reduceAdd]; first | done | omega)) only [go_sem, ↓reduceIte, Nat.reduceEqDiff, Nat.reduceAdd, Nat.reduceSub, Nat.reduceMul, Nat.reduceBEq, Nat.reduceLT, Nat.reduceLeDiff, Nat.reduceMod, Nat.reducePow, List.reduceReplicate, UInt8.reduceOfNat, Int.reducePow, Int.reduceDiv, Int.reduceMod, Nat.reduceDiv, Int.reduceNeg, Int.reduceAdd, Int.reduceSub, Int.reduceMul, Int.reduceLE, Int.reduceLT, Int.reduceEq, Int.reduceToNat, reduceCtorEq, -List.reduceReplicate, hr1, List.toList_toArray, Row.objsM hrow numsOf_len (by decide) hil, hob, hl4, numsU_one, numsU_over, numsU_all, hx8]
          | with_reducible refine sleast_t hws hx3 hx4 hx5 hg2 ?_
        have hce : ((leastL l).take (i + 1)).map (Value.int .u8) = [Value.int .u8 (x : Nat)] := by rw [hsn, hx]; rfl
        rw [← hce]
        have hlt1 : ((leastL l).take (i + 1)).length = i + 1 := by rw [List.length_take]; omega
        exact Upd.go (H' := (b1, .cells (u8L l) [] 22) :: ([(nb, .cells (((leastL l).take (i + 1)).map (Value.int .u8)) nsp 5)] ++ H)) (by intro fsum; first | exact Nat.le_refl _ | (simp only [zzq]; omega)) (Upd.now ⟨q - 1, by omega, i + 1, .slice (some ⟨nb, 0, none⟩) (i + 1) ncap, [_], by omega, rfl, .inr ⟨nb, ncap, nsp, rfl, rfl, by rw [List.length_map, hlt1, Nat.mul_one], by rw [hce]; simp at hncap ⊢; omega⟩, rfl, by obtain rfl : i = 0 := hn; rfl⟩)
      · have hsE := hs
        try simp only [zzs] at hsE
        repeat (obtain ⟨hsx, hsE⟩ := hsE)
        repeat' first
          | (with_reducible first | refine Br.yes ?_ | refine Br.no ?_ | refine Br.dec (fun _ => ?_) (fun _ => ?_) | refine Br.mk (fun _ => ?_) (fun _ => ?_) | refine appV.zero ?_ | refine appV.own ?_)
          | ((with_reducible first | refine NewB.mk (fun nb hnb => ?_) | refine NewRow.mk (fun nb nsp ncap hnb hncap => ?_)); have hnb1 := hnb.1.1; have hnb2 := hnb.1.2; try simp only [zzn] at hnb2)
          | simp (dsimp := false) (implicitDefEqProofs := false) (disch := first | assumption | (simp only [zzm]; done) | omega | (with_reducible refine Row.adr (by assumption) ?_; simp only [zzk]; omega) | (simp only [zzl, Nat.reduceAdd]; first | done | omega)) only [go_sem, ↓reduceIte, Nat.reduceEqDiff, Nat.reduceAdd, Nat.reduceSub, Nat.reduceMul, Nat.reduceBEq, Nat.reduceLT, Nat.reduceLeDiff, Nat.reduceMod, Nat.reducePow, List.reduceReplicate, UInt8.reduceOfNat, Int.reducePow, Int.reduceDiv, Int.reduceMod, Nat.reduceDiv, Int.reduceNeg, Int.reduceAdd, Int.reduceSub, Int.reduceMul, Int.reduceLE, Int.reduceLT, Int.reduceEq, Int.reduceToNat, reduceCtorEq, -List.reduceReplicate, hr1, List.toList_toArray, Row.objsM hrow numsOf_len (by decide) hil, hob, hl4, numsU_one, numsU_over, numsU_all, hx8, List.length_map]
          | with_reducible refine sleast_t hws hx3 hx4 hx5 hg2 ?_
        have hlt1 : ((leastL l).take (i + 1)).length = i + 1 := by rw [List.length_take]; omega
        rw [← hsn]
        exact Upd.go (H' := (b1, .cells (u8L l) [] 22) :: ([(nb, .cells (((leastL l).take (i + 1)).map (Value.int .u8)) nsp 5)] ++ H)) (by intro fsum; first | exact Nat.le_refl _ | (simp only [zzq]; omega)) (Upd.now ⟨q - 1, by omega, i + 1, .slice (some ⟨nb, 0, none⟩) (i + 1) ncap, [_], by omega, rfl, .inr ⟨nb, ncap, nsp, rfl, rfl, by rw [List.length_map, hlt1, Nat.mul_one], by rw [List.length_map, hlt1]; simp [hlt] at hncap ⊢; omega⟩, rfl, rfl⟩)
    · obtain rfl : i = W.length := by omega
      have hall : (leastL l).take W.length = leastL l := List.take_of_length_le (by omega)
      rw [hall] at hv
      repeat' first
        | (with_reducible first | refine Br.yes ?_ | refine Br.no ?_ | refine Br.dec (fun _ => ?_) (fun _ => ?_) | refine Br.mk (fun _ => ?_) (fun _ => ?_) | refine appV.zero ?_ | refine appV.own ?_)
        | ((with_reducible first | refine NewB.mk (fun nb hnb => ?_) | refine NewRow.mk (fun nb nsp ncap hnb hncap => ?_)); have hnb1 := hnb.1.1; have hnb2 := hnb.1.2; try simp only [zzn] at hnb2)
        | simp (dsimp := false) (implicitDefEqProofs := false) (disch := first | assumption | (simp only [zzm]; done) | omega | (with_reducible refine Row.adr (by assumption) ?_; simp only [zzk]; omega) | (simp only [zzl, Nat.reduceAdd]; first | done | omega)) only [go_sem, ↓reduceIte, Nat.reduceEqDiff, Nat.reduceAdd, Nat.reduceSub, Nat.reduceMul, Nat.reduceBEq, Nat.reduceLT, Nat.reduceLeDiff, Nat.reduceMod, Nat.reducePow, List.reduceReplicate, UInt8.reduceOfNat, Int.reducePow, Int.reduceDiv, Int.reduceMod, Nat.reduceDiv, Int.reduceNeg, Int.reduceAdd, Int.reduceSub, Int.reduceMul, Int.reduceLE, Int.reduceLT, Int.reduceEq, Int.reduceToNat, reduceCtorEq]
      unfold UpdR
      refine Upd.go (H' := kb ++ H) (by intro fsum; first | exact Nat.le_refl _ | (simp only [zzq]; omega)) ?_
      rcases hv with ⟨a0, rfl, hn, hx, rfl⟩ | ⟨b2, c2, sp, rfl, rfl, hx, hc⟩
      · have hl0 : leastL l = [] := List.eq_nil_of_length_eq_zero (by omega)
        rw [hl0] at hR
        refine Upd.now ?_
        exact fun hle hs => hR _ _ hle2 hs ⟨a0, 0, rfl, Row.nil _ _, Nat.le_refl _⟩
      · have hsE := hs
        try simp only [zzs] at hsE
        repeat (obtain ⟨hsx, hsE⟩ := hsE)
        refine Upd.shareRow (by assumption) fun G3 hle3 hs3 hr3 => ?_
        exact fun hle hs => hR _ _ (hle2.trans hle3) hs ⟨some ⟨b2, 0, none⟩, c2, by rw [hll, ← hWl], hr3, by rw [List.length_map] at hx hc; omega⟩
end Go.Proofs.YtefkpedhbijhkaaDoor
namespace Go.Proofs.YtefkpedhbijhkaaDoor
open Go Go.V Go.Proofs
theorem hes : KeyEnc T 9 str := keyEnc_str (T := T) (t := 9) rfl
set_option maxHeartbeats 8000000 in
theorem numS_t {l : List (List UInt8)} (hlen : l.length ≤ 2000000) {fid : FuncId} {XC : List Value} {tyX : TypeId} {b1 : Nat} {G : PHeap} {H : Heap} {R : Value → PHeap → Heap → Prop}
    (hkey : ∀ i (hi : i < l.length) (H1 : Heap) (R1 : Value → PHeap → Heap → Prop), G b1 = none → findH H1 b1 = some (.cells XC [] tyX) → R1 (str l[i]) G H1 → FnT Tryd.prog fid [.int .i64 (i : Nat), .pointer (some ⟨b1, 0, none⟩)] G H1 R1)
    (hR : ∀ G' v, PLe G G' → Sep G' (keys H) → Sl G' (Value.int .i64) v (nums l) → R v G' H) : FnT Tryd.prog 73 [.int .i64 l.length, .func (.func fid) #[] #[.pointer (some ⟨b1, 0, none⟩)]] G ((b1, .cells XC [] tyX) :: H) R := by
  refine FnT.sep ?_
  refine FnT.body tok [0, 1, 4, 5, 6, 7, 8, 10, 12, 13, 14, 26] Tryd.func73 rfl (by kernel_rfl) (by kernel_rfl) (by show _ ≤ 39; simp) fun hsep => ?_
  rw [Tryd.results73]
  have hsE := hsep
  try simp only [zzs] at hsE
  repeat (obtain ⟨hsx, hsE⟩ := hsE)
  repeat' first
    | (with_reducible first | refine Br.yes ?_ | refine Br.no ?_ | refine Br.dec (fun _ => ?_) (fun _ => ?_) | refine Br.mk (fun _ => ?_) (fun _ => ?_) | refine foundO.mk (fun _ _ => ?_) (fun _ => ?_) | refine appV.zero ?_ | refine appV.own ?_)
    | ((with_reducible first | refine NewB.mk (fun nb hnb => ?_) | refine NewRow.mk (fun nb nsp ncap hnb hncap => ?_)); have hnb1 := hnb.1.1; have hnb2 := hnb.1.2; try simp only [zzn] at hnb2)
    | simp (dsimp := false) (implicitDefEqProofs := false) (disch := first | assumption | (simp only [zzm]; done) | omega | (with_reducible refine Row.adr (by assumption) ?_; simp only [zzk]; omega) | (simp only [zzl, Nat.reduceAdd]; first | done | omega)) only [go_sem, ↓reduceIte, Nat.reduceEqDiff, Nat.reduceAdd, Nat.reduceSub, Nat.reduceMul, Nat.reduceBEq, Nat.reduceLT, Nat.reduceLeDiff, Nat.reduceMod, Nat.reducePow, List.reduceReplicate, UInt8.reduceOfNat, Int.reducePow, Int.reduceDiv, Int.reduceMod, Nat.reduceDiv, Int.reduceNeg, Int.reduceAdd, Int.reduceSub, Int.reduceMul, Int.reduceLE, Int.reduceLT, Int.reduceEq, Int.reduceToNat, reduceCtorEq]
  revert nb
  intro bm hbm hbm1 hbm2
  refine Tri.loopU tok [0, 1, 4, 5, 6, 7, 8, 10, 12, 13, 14, 26] (by kernel_rfl) [0, 1, 4, 5, 6, 12, 13] (fun q G' fr H' => ∃ (i : Nat) (v : Value) (kb : Heap), i + q = l.length ∧ G' = G ∧ SliceO [] 3 1 v i ((nums (l.take i)).map (Value.int .i64)) kb ∧ H' = (bm, .map ((numb 0 (tabO (l.take i))).map fun p => (str p.1, Value.int .i64 p.2))) :: (b1, .cells XC [] tyX) :: (kb ++ H) ∧ fr = [(0, .int .i64 l.length), (1, .func (.func fid) #[] #[.pointer (some ⟨b1, 0, none⟩)]), (4, .slice none 0 0), (5, .map (some bm)), (6, v), (12, .int .i64 l.length), (13, .int .i64 i)]) (l.length) ?_ ?_
  · exact Upd.now ⟨0, _, [], by omega, rfl, .inl ⟨none, rfl, rfl, rfl, rfl⟩, rfl, rfl⟩
  · rintro q G1 fr H' hle hs ⟨i, v, kb, hi, rfl, hv, rfl, rfl⟩
    have hnl : (nums (l.take i)).length = i := by rw [nums_len, List.length_take]; omega
    have htl := tabO_len (l.take i)
    rw [List.length_take] at htl
    by_cases hil : i < l.length
    · have htk := List.take_succ_eq_append_getElem hil
      rcases hp : place (tabO (l.take i)) l[i] with _ | n
      · have hnn := nums_new hp
        have hpe := place_end (place_none hp)
        rw [← htk] at hnn
        rcases hv with ⟨a0, rfl, hn, hx, rfl⟩ | ⟨b2, c2, sp, rfl, rfl, hx, hc⟩
        · have hsE := hs
          try simp only [zzs] at hsE
          repeat (obtain ⟨hsx, hsE⟩ := hsE)
          repeat' first
            | (with_reducible first | refine Br.yes ?_ | refine Br.no ?_ | refine Br.dec (fun _ => ?_) (fun _ => ?_) | refine Br.mk (fun _ => ?_) (fun _ => ?_) | refine foundO.mk (fun _ _ => ?_) (fun _ => ?_) | refine appV.zero ?_ | refine appV.own ?_)
            | ((with_reducible first | refine NewB.mk (fun nb hnb => ?_) | refine NewRow.mk (fun nb nsp ncap hnb hncap => ?_)); have hnb1 := hnb.1.1; have hnb2 := hnb.1.2; try simp only [zzn] at hnb2)
            | simp (dsimp := false) (implicitDefEqProofs := false) (disch := first | assumption | (simp only [zzm]; done) | omega | (with_reducible refine Row.adr (by assumption) ?_; simp only [zzk]; omega) | (simp only [zzl, Nat.reduceAdd]; first | done | omega)) only [go_sem, ↓reduceIte, Nat.reduceEqDiff, Nat.reduceAdd, Nat.reduceSub, Nat.reduceMul, Nat.reduceBEq, Nat.reduceLT, Nat.reduceLeDiff, Nat.reduceMod, Nat.reducePow, List.reduceReplicate, UInt8.reduceOfNat, Int.reducePow, Int.reduceDiv, Int.reduceMod, Nat.reduceDiv, Int.reduceNeg, Int.reduceAdd, Int.reduceSub, Int.reduceMul, Int.reduceLE, Int.reduceLT, Int.reduceEq, Int.reduceToNat, reduceCtorEq, findV_enc hes (Value.int .i64), keyOk_enc hes, aget_numb0, Option.map_map, putV_enc hes (Value.int .i64), aput_new, hp, hpe, List.length_map, numb_len]
            | with_reducible refine hkey i hil _ _ (by assumption) ?_ ?_
          have hce : (nums (l.take (i + 1))).map (Value.int .i64) = [Value.int .i64 (tabO (l.take i)).length] := by rw [hnn.2, List.map_append, hx]; rfl
          rw [← hnn.1, ← hce]
          refine Upd.go (H' := (bm, .map ((numb 0 (tabO (l.take (i + 1)))).map fun p => (str p.1, Value.int .i64 p.2))) :: (b1, .cells XC [] tyX) :: ([(nb, .cells ((nums (l.take (i + 1))).map (Value.int .i64)) nsp 3)] ++ H)) (by intro fsum; first | exact Nat.le_refl _ | (simp only [zzq]; omega)) (Upd.now ⟨q - 1, by omega, i + 1, .slice (some ⟨nb, 0, none⟩) (i + 1) ncap, [_], by omega, rfl, .inr ⟨nb, ncap, nsp, rfl, rfl, by rw [hce]; simp [hn], by rw [hce]; simp at hncap ⊢; omega⟩, rfl, by obtain rfl : i = 0 := hn; rfl⟩)
        · have hsE := hs
          try simp only [zzs] at hsE
          repeat (obtain ⟨hsx, hsE⟩ := hsE)
          repeat' first
            | (with_reducible first | refine Br.yes ?_ | refine Br.no ?_ | refine Br.dec (fun _ => ?_) (fun _ => ?_) | refine Br.mk (fun _ => ?_) (fun _ => ?_) | refine foundO.mk (fun _ _ => ?_) (fun _ => ?_) | refine appV.zero ?_ | refine appV.own ?_)
            | ((with_reducible first | refine NewB.mk (fun nb hnb => ?_) | refine NewRow.mk (fun nb nsp ncap hnb hncap => ?_)); have hnb1 := hnb.1.1; have hnb2 := hnb.1.2; try simp only [zzn] at hnb2)
            | simp (dsimp := false) (implicitDefEqProofs := false) (disch := first | assumption | (simp only [zzm]; done) | omega | (with_reducible refine Row.adr (by assumption) ?_; simp only [zzk]; omega) | (simp only [zzl, Nat.reduceAdd]; first | done | omega)) only [go_sem, ↓reduceIte, Nat.reduceEqDiff, Nat.reduceAdd, Nat.reduceSub, Nat.reduceMul, Nat.reduceBEq, Nat.reduceLT, Nat.reduceLeDiff, Nat.reduceMod, Nat.reducePow, List.reduceReplicate, UInt8.reduceOfNat, Int.reducePow, Int.reduceDiv, Int.reduceMod, Nat.reduceDiv, Int.reduceNeg, Int.reduceAdd, Int.reduceSub, Int.reduceMul, Int.reduceLE, Int.reduceLT, Int.reduceEq, Int.reduceToNat, reduceCtorEq, findV_enc hes (Value.int .i64), keyOk_enc hes, aget_numb0, Option.map_map, putV_enc hes (Value.int .i64), aput_new, hp, hpe, List.length_map, numb_len]
            | with_reducible refine hkey i hil _ _ (by assumption) ?_ ?_
          have hce : (nums (l.take (i + 1))).map (Value.int .i64) = (nums (l.take i)).map (Value.int .i64) ++ [Value.int .i64 (tabO (l.take i)).length] := by rw [hnn.2, List.map_append]; rfl
          rw [← hnn.1, ← hce]
          refine Upd.go (H' := (bm, .map ((numb 0 (tabO (l.take (i + 1)))).map fun p => (str p.1, Value.int .i64 p.2))) :: (b1, .cells XC [] tyX) :: ([(nb, .cells ((nums (l.take (i + 1))).map (Value.int .i64)) nsp 3)] ++ H)) (by intro fsum; first | exact Nat.le_refl _ | (simp only [zzq]; omega)) (Upd.now ⟨q - 1, by omega, i + 1, .slice (some ⟨nb, 0, none⟩) (i + 1) ncap, [_], by omega, rfl, .inr ⟨nb, ncap, nsp, rfl, rfl, by rw [hce]; simp [hnl], by rw [hce]; simp [hnl] at hncap ⊢; omega⟩, rfl, rfl⟩)
      · have hnn := nums_old hp
        rw [← htk] at hnn
        have hn0 : i ≠ 0 := fun e => by subst e; rw [List.take_zero, tabO_nil, place_nil] at hp; cases hp
        rcases hv with ⟨a0, rfl, hn, hx, rfl⟩ | ⟨b2, c2, sp, rfl, rfl, hx, hc⟩
        · exact absurd hn hn0
        · have hsE := hs
          try simp only [zzs] at hsE
          repeat (obtain ⟨hsx, hsE⟩ := hsE)
          repeat' first
            | (with_reducible first | refine Br.yes ?_ | refine Br.no ?_ | refine Br.dec (fun _ => ?_) (fun _ => ?_) | refine Br.mk (fun _ => ?_) (fun _ => ?_) | refine foundO.mk (fun _ _ => ?_) (fun _ => ?_) | refine appV.zero ?_ | refine appV.own ?_)
            | ((with_reducible first | refine NewB.mk (fun nb hnb => ?_) | refine NewRow.mk (fun nb nsp ncap hnb hncap => ?_)); have hnb1 := hnb.1.1; have hnb2 := hnb.1.2; try simp only [zzn] at hnb2)
            | simp (dsimp := false) (implicitDefEqProofs := false) (disch := first | assumption | (simp only [zzm]; done) | omega | (with_reducible refine Row.adr (by assumption) ?_; simp only [zzk]; omega) | (simp only [zzl, Nat.reduceAdd]; first | done | omega)) only [go_sem, ↓reduceIte, Nat.reduceEqDiff, Nat.reduceAdd, Nat.reduceSub, Nat.reduceMul, Nat.reduceBEq, Nat.reduceLT, Nat.reduceLeDiff, Nat.reduceMod, Nat.reducePow, List.reduceReplicate, UInt8.reduceOfNat, Int.reducePow, Int.reduceDiv, Int.reduceMod, Nat.reduceDiv, Int.reduceNeg, Int.reduceAdd, Int.reduceSub, Int.reduceMul, Int.reduceLE, Int.reduceLT, Int.reduceEq, Int.reduceToNat, reduceCtorEq, findV_enc hes (Value.int .i64), keyOk_enc hes, aget_numb0, Option.map_map, putV_enc hes (Value.int .i64), aput_new, hp, List.length_map, numb_len]
            | with_reducible refine hkey i hil _ _ (by assumption) ?_ ?_
          have hce : (nums (l.take (i + 1))).map (Value.int .i64) = (nums (l.take i)).map (Value.int .i64) ++ [Value.int .i64 n] := by rw [hnn.2, List.map_append]; rfl
          rw [← hnn.1, ← hce]
          refine Upd.go (H' := (bm, .map ((numb 0 (tabO (l.take (i + 1)))).map fun p => (str p.1, Value.int .i64 p.2))) :: (b1, .cells XC [] tyX) :: ([(nb, .cells ((nums (l.take (i + 1))).map (Value.int .i64)) nsp 3)] ++ H)) (by intro fsum; first | exact Nat.le_refl _ | (simp only [zzq]; omega)) (Upd.now ⟨q - 1, by omega, i + 1, .slice (some ⟨nb, 0, none⟩) (i + 1) ncap, [_], by omega, rfl, .inr ⟨nb, ncap, nsp, rfl, rfl, by rw [hce]; simp [hnl], by rw [hce]; simp [hnl] at hncap ⊢; omega⟩, rfl, rfl⟩)
    · obtain rfl : i = l.length := by omega
      rw [List.take_length] at hv ⊢
      repeat' first
        | (with_reducible first | refine Br.yes ?_ | refine Br.no ?_ | refine Br.dec (fun _ => ?_) (fun _ => ?_) | refine Br.mk (fun _ => ?_) (fun _ => ?_) | refine foundO.mk (fun _ _ => ?_) (fun _ => ?_) | refine appV.zero ?_ | refine appV.own ?_)
        | ((with_reducible first | refine NewB.mk (fun nb hnb => ?_) | refine NewRow.mk (fun nb nsp ncap hnb hncap => ?_)); have hnb1 := hnb.1.1; have hnb2 := hnb.1.2; try simp only [zzn] at hnb2)
        | simp (dsimp := false) (implicitDefEqProofs := false) (disch := first | assumption | (simp only [zzm]; done) | omega | (with_reducible refine Row.adr (by assumption) ?_; simp only [zzk]; omega) | (simp only [zzl, Nat.reduceAdd]; first | done | omega)) only [go_sem, ↓reduceIte, Nat.reduceEqDiff, Nat.reduceAdd, Nat.reduceSub, Nat.reduceMul, Nat.reduceBEq, Nat.reduceLT, Nat.reduceLeDiff, Nat.reduceMod, Nat.reducePow, List.reduceReplicate, UInt8.reduceOfNat, Int.reducePow, Int.reduceDiv, Int.reduceMod, Nat.reduceDiv, Int.reduceNeg, Int.reduceAdd, Int.reduceSub, Int.reduceMul, Int.reduceLE, Int.reduceLT, Int.reduceEq, Int.reduceToNat, reduceCtorEq]
      unfold UpdR
      refine Upd.go (H' := kb ++ H) (by intro fsum; first | exact Nat.le_refl _ | (simp only [zzq]; omega)) ?_
      rcases hv with ⟨a0, rfl, hn, hx, rfl⟩ | ⟨b2, c2, sp, rfl, rfl, hx, hc⟩
      · have hl0 : l = [] := List.eq_nil_of_length_eq_zero hn
        subst hl0
        refine Upd.now ?_
        exact fun hle hs => hR _ _ (PLe.refl _) hs ⟨a0, 0, rfl, Row.nil _ _, Nat.le_refl _⟩
      · have hsE := hs
        try simp only [zzs] at hsE
        repeat (obtain ⟨hsx, hsE⟩ := hsE)
        refine Upd.shareRow (by assumption) fun G2 hle2 hs2 hr2 => ?_
        exact fun hle hs => hR _ _ hle2 hs ⟨some ⟨b2, 0, none⟩, c2, by rw [nums_len], hr2, by rw [nums_len]; rw [List.length_map, nums_len] at hx hc; omega⟩
/-- a state as three bytes; a column of states as bytes -/
def b3 (n : Nat) : List UInt8 := [UInt8.ofNat n, UInt8.ofNat (n / 256), UInt8.ofNat (n / 65536)]
def colT (d : DfaT) (k s : Nat) : List UInt8 := (d.next.take s).flatMap fun r => b3 (atL r k).toNat
def colB (d : DfaT) (k : Nat) : List UInt8 := colT d k d.next.length
theorem colT_succ (d : DfaT) (k : Nat) {s : Nat} (h : s < d.next.length) : colT d k (s + 1) = colT d k s ++ b3 (atL d.next[s] k).toNat := by
  unfold colT
  rw [List.take_succ_eq_append_getElem h, List.flatMap_append]; simp
theorem colT_len (d : DfaT) (k : Nat) : ∀ s, s ≤ d.next.length → (colT d k s).length = 3 * s
  | 0, _ => by simp [colT]
  | s + 1, h => by rw [colT_succ d k (by omega), List.length_append, colT_len d k s (by omega)]; simp [b3]; omega
theorem u8_nat (n : Nat) : IntKind.u8.wrap (n : Int) = ((UInt8.ofNat n).toNat : Int) := by
  rw [UInt8.toNat_ofNat']
  simp only [IntKind.wrap, IntKind.bits, IntKind.signed]
  simp
set_option maxHeartbeats 8000000 in
theorem col_t {d : DfaT} (hsm : SmallD d) (hok : RightP d) {C : List Value} {an al ay : Option Addr} {cn cl cs : Nat} {rs : List Value} {G : PHeap} (O : OpenD G d C an al ay cn cl cs rs) {b1 : Nat} {k : Nat} (hk : (k : Int) < d.width)
    {H : Heap} {R : Value → PHeap → Heap → Prop} (hg : G b1 = none) (hf : findH H b1 = some (.cells C [] 27)) (hR : R (str (colB d k)) G H) : FnT Tryd.prog 74 [.int .i64 (k : Nat), .pointer (some ⟨b1, 0, none⟩)] G H R := by
  obtain ⟨hk1, hk2, hk3, hk4, hk5, hk6, hk7⟩ := id hok
  have hCl := O.len
  have hCn := O.n
  have hrnl := O.rnl
  refine FnT.sep ?_
  refine FnT.body tok [0, 1, 3, 4, 6, 13, 14, 15, 16] Tryd.func74 rfl (by kernel_rfl) (by kernel_rfl) (by show _ ≤ 42; simp) fun hsep => ?_
  rw [Tryd.results74]
  have hsE := hsep
  try simp only [zzs] at hsE
  repeat (obtain ⟨hsx, hsE⟩ := hsE)
  repeat' first
    | (with_reducible first | refine Br.yes ?_ | refine Br.no ?_ | refine Br.dec (fun _ => ?_) (fun _ => ?_) | refine Br.mk (fun _ => ?_) (fun _ => ?_) | refine appV.zero ?_ | refine appV.own ?_)
    | ((with_reducible first | refine NewB.mk (fun nb hnb => ?_) | refine NewRow.mk (fun nb nsp ncap hnb hncap => ?_)); have hnb1 := hnb.1.1; have hnb2 := hnb.1.2; try simp only [zzn] at hnb2)
    | simp (dsimp := false) (implicitDefEqProofs := false) (disch := first | assumption | (simp only [zzm]; done) | omega | (with_reducible refine Row.adr (by assumption) ?_; simp only [zzk]; omega) | (simp only [zzl, Nat.reduceAdd]; first | done | omega)) only [go_sem, ↓reduceIte, Nat.reduceEqDiff, Nat.reduceAdd, Nat.reduceSub, Nat.reduceMul, Nat.reduceBEq, Nat.reduceLT, Nat.reduceLeDiff, Nat.reduceMod, Nat.reducePow, List.reduceReplicate, UInt8.reduceOfNat, Int.reducePow, Int.reduceDiv, Int.reduceMod, Nat.reduceDiv, Int.reduceNeg, Int.reduceAdd, Int.reduceSub, Int.reduceMul, Int.reduceLE, Int.reduceLT, Int.reduceEq, Int.reduceToNat, reduceCtorEq, -List.reduceReplicate, hf, hCl, hCn, List.replicate_zero]
  have hne := NotIn.neFind hnb2 hf
  repeat' first
    | (with_reducible first | refine Br.yes ?_ | refine Br.no ?_ | refine Br.dec (fun _ => ?_) (fun _ => ?_) | refine Br.mk (fun _ => ?_) (fun _ => ?_) | refine appV.zero ?_ | refine appV.own ?_)
    | ((with_reducible first | refine NewB.mk (fun nb hnb => ?_) | refine NewRow.mk (fun nb nsp ncap hnb hncap => ?_)); have hnb1 := hnb.1.1; have hnb2 := hnb.1.2; try simp only [zzn] at hnb2)
    | simp (dsimp := false) (implicitDefEqProofs := false) (disch := first | assumption | (simp only [zzm]; done) | omega | (with_reducible refine Row.adr (by assumption) ?_; simp only [zzk]; omega) | (simp only [zzl, Nat.reduceAdd]; first | done | omega)) only [go_sem, ↓reduceIte, Nat.reduceEqDiff, Nat.reduceAdd, Nat.reduceSub, Nat.reduceMul, Nat.reduceBEq, Nat.reduceLT, Nat.reduceLeDiff, Nat.reduceMod, Nat.reducePow, List.reduceReplicate, UInt8.reduceOfNat, Int.reducePow, Int.reduceDiv, Int.reduceMod, Nat.reduceDiv, Int.reduceNeg, Int.reduceAdd, Int.reduceSub, Int.reduceMul, Int.reduceLE, Int.reduceLT, Int.reduceEq, Int.reduceToNat, reduceCtorEq, -List.reduceReplicate, hf, hCl, hCn, List.replicate_zero]
  refine Tri.loopU tok [0, 1, 3, 4, 6, 13, 14, 15, 16] (by kernel_rfl) [0, 1, 3, 4, 13, 14, 15] (fun q G' fr H' => ∃ (s br c : Nat) (sp : List Value), s + q = d.next.length ∧ 3 * s + sp.length = c ∧ G' = G ∧ H' = (br, .cells ((colT d k s).map byteV) sp 5) :: H ∧ fr = [(0, .int .i64 (k : Nat)), (1, .pointer (some ⟨b1, 0, none⟩)), (3, .string ⟨#[]⟩), (4, .slice (some ⟨br, 0, none⟩) (3 * s) c), (13, .slice an d.next.length cn), (14, .int .i64 (d.next.length : Nat)), (15, .int .i64 (s : Nat))]) (d.next.length) ?_ ?_
  · refine Upd.now ?_
    exact ⟨0, nb, _, _, by omega, by rw [List.length_replicate]; omega, rfl, rfl, rfl⟩
  · rintro q G1 fr H' hle hs1 ⟨s, br, c, sp, hsq, hc, rfl, rfl, rfl⟩
    have hsE := hs1
    try simp only [zzs] at hsE
    repeat (obtain ⟨hsx, hsE⟩ := hsE)
    have hcl := colT_len d k s (by omega)
    have hml : ((colT d k s).map byteV).length = 3 * s := by rw [List.length_map, hcl]
    by_cases hsn : s < d.next.length
    · have had : Adr an := O.rn.adr (by omega)
      obtain ⟨b, cc, e1, e2, e3⟩ := O.rs s hsn (by omega)
      obtain ⟨hw1, hw2, hw3, hw4⟩ := hk7 s hsn (by omega)
      have hrl := hsm.2.1 _ (List.getElem_mem hsn)
      have hkr : k < (d.next[s]).length := by omega
      have had2 : Adr b := e2.adr (by rw [List.length_map]; omega)
      have hx := hw4 _ (List.getElem_mem hkr)
      obtain ⟨t, ht⟩ := Int.eq_ofNat_of_zero_le hx.1
      have hat : (atL d.next[s] k).toNat = t := by rw [atL_get (by simpa using hkr)]; simp only [Int.toNat_natCast, ht]
      have hsucc := colT_succ d k hsn
      rw [hat] at hsucc
      have w0 := u8_nat t
      have w1 : IntKind.u8.wrap ((t : Int) / 256) = ((UInt8.ofNat (t / 256)).toNat : Int) := by rw [← u8_nat]; rfl
      have w2 : IntKind.u8.wrap ((t : Int) / 65536) = ((UInt8.ofNat (t / 65536)).toNat : Int) := by rw [← u8_nat]; rfl
      have hm2 : (colT d k s).map byteV ++ [.int .u8 ((UInt8.ofNat t).toNat : Int), .int .u8 ((UInt8.ofNat (t / 256)).toNat : Int), .int .u8 ((UInt8.ofNat (t / 65536)).toNat : Int)] = (colT d k (s + 1)).map byteV := by rw [hsucc, List.map_append]; rfl
      have hr3 : ∀ x : Value, List.replicate 3 x = [x, x, x] := fun _ => rfl
      repeat' first
        | (with_reducible first | refine Br.yes ?_ | refine Br.no ?_ | refine Br.dec (fun _ => ?_) (fun _ => ?_) | refine Br.mk (fun _ => ?_) (fun _ => ?_) | refine appV.zero ?_ | refine appV.own ?_)
        | ((with_reducible first | refine NewB.mk (fun nb hnb => ?_) | refine NewRow.mk (fun nb nsp ncap hnb hncap => ?_)); have hnb1 := hnb.1.1; have hnb2 := hnb.1.2; try simp only [zzn] at hnb2)
        | simp (dsimp := false) (implicitDefEqProofs := false) (disch := first | assumption | (simp only [zzm]; done) | omega | (with_reducible refine Row.adr (by assumption) ?_; simp only [zzk]; omega) | (simp only [zzl, Nat.reduceAdd]; first | done | omega)) only [go_sem, ↓reduceIte, Nat.reduceEqDiff, Nat.reduceAdd, Nat.reduceSub, Nat.reduceMul, Nat.reduceBEq, Nat.reduceLT, Nat.reduceLeDiff, Nat.reduceMod, Nat.reducePow, List.reduceReplicate, UInt8.reduceOfNat, Int.reducePow, Int.reduceDiv, Int.reduceMod, Nat.reduceDiv, Int.reduceNeg, Int.reduceAdd, Int.reduceSub, Int.reduceMul, Int.reduceLE, Int.reduceLT, Int.reduceEq, Int.reduceToNat, reduceCtorEq, -List.reduceReplicate, Row.obj O.rn, e1, Row.obj e2, List.getElem_map, ht, w0, w1, w2, hr3]
        | with_reducible refine Tri.drawH tok mixed [0, 1, 3, 4, 6, 13, 14, 15, 16] 5 [4, 9, 15] (.op 0 .plain (.op 1 .plain (.op 2 .plain (.op 3 .plain (.op 4 .held (.op 5 .plain (.op 6 .plain (.op 7 .plain (.op 8 .plain (.op 9 .held (.op 10 .plain (.op 11 .plain (.op 12 .plain (.op 13 .plain (.op 14 .plain (.op 15 .held (.op 16 .plain (.op 17 .plain (.op 18 .keeps (.op 19 .keeps (.op 20 .plain .nil))))))))))))))))))))) (by kernel_rfl) [6] ?_
      rw [hm2]
      refine Upd.go (H' := (nb, .cells ((colT d k (s + 1)).map byteV) nsp 5) :: H) (by intro fsum; first | exact Nat.le_refl _ | (simp only [zzq]; omega)) (Upd.now ⟨q - 1, by omega, s + 1, nb, ncap, nsp, by omega, by omega, rfl, rfl, rfl⟩)
    · obtain rfl : s = d.next.length := by omega
      repeat' first
        | (with_reducible first | refine Br.yes ?_ | refine Br.no ?_ | refine Br.dec (fun _ => ?_) (fun _ => ?_) | refine Br.mk (fun _ => ?_) (fun _ => ?_) | refine appV.zero ?_ | refine appV.own ?_)
        | ((with_reducible first | refine NewB.mk (fun nb hnb => ?_) | refine NewRow.mk (fun nb nsp ncap hnb hncap => ?_)); have hnb1 := hnb.1.1; have hnb2 := hnb.1.2; try simp only [zzn] at hnb2)
        | simp (dsimp := false) (implicitDefEqProofs := false) (disch := first | assumption | (simp only [zzm]; done) | omega | (with_reducible refine Row.adr (by assumption) ?_; simp only [zzk]; omega) | (simp only [zzl, Nat.reduceAdd]; first | done | omega)) only [go_sem, ↓reduceIte, Nat.reduceEqDiff, Nat.reduceAdd, Nat.reduceSub, Nat.reduceMul, Nat.reduceBEq, Nat.reduceLT, Nat.reduceLeDiff, Nat.reduceMod, Nat.reducePow, List.reduceReplicate, UInt8.reduceOfNat, Int.reducePow, Int.reduceDiv, Int.reduceMod, Nat.reduceDiv, Int.reduceNeg, Int.reduceAdd, Int.reduceSub, Int.reduceMul, Int.reduceLE, Int.reduceLT, Int.reduceEq, Int.reduceToNat, reduceCtorEq, -List.reduceReplicate]
      unfold UpdR
      refine Upd.go (H' := H) (by intro fsum; first | exact Nat.le_refl _ | (simp only [zzq]; omega)) (Upd.now fun hle hs => hR)
end Go.Proofs.YtefkpedhbijhkaaDoor
namespace Go.Proofs.YtefkpedhbijhkaaDoor
open Go Go.V Go.Proofs
def colL (d : DfaT) : List (List UInt8) := (List.range d.width.toNat).map (colB d)
theorem colL_len (d : DfaT) : (colL d).length = d.width.toNat := by simp [colL]
theorem colL_at {d : DfaT} {k : Nat} (h : k < (colL d).length) : (colL d)[k] = colB d k := by simp [colL]
theorem width_pos {d : DfaT} (hok : RightP d) : d.width = ((colL d).length : Nat) := by
  obtain ⟨hk1, hk2, hk3, hk4, hk5, hk6, hk7⟩ := hok
  rw [colL_len]; omega
theorem width_le {d : DfaT} (hok : RightP d) (hl : d.of.length = 256) : (colL d).length ≤ 256 := by
  have := width_pos hok
  obtain ⟨hk1, hk2, hk3, hk4, hk5, hk6, hk7⟩ := hok
  have := tabO_len d.of
  omega
/-- the classes of bytes, before their numbers are made in order -/
def clL (d : DfaT) : List Int := d.of.map fun o => atL (nums (colL d)) o
theorem clL_len {d : DfaT} (hl : d.of.length = 256) : (clL d).length = 256 := by unfold clL; rw [List.length_map, hl]
theorem clL_at {d : DfaT} (hok : RightP d) {i : Nat} (hi : i < d.of.length) : ∃ (h : (d.of[i]).toNat < (nums (colL d)).length) (h2 : i < (clL d).length), (clL d)[i] = (nums (colL d))[(d.of[i]).toNat] ∧ 0 ≤ (clL d)[i] ∧ (clL d)[i] < (colL d).length := by
  obtain ⟨h1, h2⟩ := of_bound hok (List.getElem_mem hi)
  have hw := width_pos hok
  have h3 : (d.of[i]).toNat < (nums (colL d)).length := by rw [nums_len]; omega
  have h4 : i < (clL d).length := by unfold clL; rw [List.length_map]; exact hi
  have e : (clL d)[i] = (nums (colL d))[(d.of[i]).toNat] := by simp only [clL, List.getElem_map]; rw [atL_get h3]
  obtain ⟨b1, b2⟩ := nums_bound (List.getElem_mem h3)
  have := tabO_len (colL d)
  exact ⟨h3, h4, e, by rw [e]; exact b1, by rw [e]; omega⟩
def clU (d : DfaT) (c k : Nat) : Int := if k < c then atL (clL d) k else 0
theorem clU_zero (d : DfaT) : u8F (fun _ => 0) = u8F (clU d 0) := u8F_congr fun k _ => by unfold clU; rw [if_neg (by omega)]
theorem clU_succ {d : DfaT} {c : Nat} {x : Int} (h : x = atL (clL d) c) : u8F (upd (clU d c) c x) = u8F (clU d (c + 1)) := u8F_congr fun k _ => by
  by_cases e : k = c
  · subst e; simp only [clU, upd]; rw [if_pos (show k < k + 1 by omega), h]; simp
  · simp only [clU, upd]
    rw [if_neg e]
    by_cases hk : k < c
    · rw [if_pos hk, if_pos (by omega)]
    · rw [if_neg hk, if_neg (by omega)]
theorem clU_all {d : DfaT} (hl : d.of.length = 256) : u8F (clU d 256) = u8L (clL d) := by
  apply List.ext_getElem (by rw [u8F_len, List.length_map, clL_len hl])
  intro k h1 h2
  rw [u8F_len] at h1
  have h3 : k < (clL d).length := by rw [clL_len hl]; exact h1
  rw [u8F_at, List.getElem_map]
  unfold clU
  rw [if_pos h1, atL_get (by simpa using h3)]
  simp
set_option maxHeartbeats 8000000 in
theorem cols_t {d : DfaT} (hsm : SmallD d) (hok : RightP d) {C : List Value} {an al ay : Option Addr} {cn cl cs : Nat} {rs : List Value} {G : PHeap} (O : OpenD G d C an al ay cn cl cs rs)
    {H : Heap} {R : Value → PHeap → Heap → Prop} (hR : ∀ G' v, PLe G G' → Sep G' (keys H) → Sl G' (Value.int .i64) v (nums (colL d)) → R v G' H) : FnT Tryd.prog 62 [.agg C.toArray] G H R := by
  have hCl := O.len
  have hCw := O.w
  have hCa := O.all
  have hw := width_pos hok
  have hle := width_le hok O.ofl
  rw [hw] at hCw
  refine FnT.sep ?_
  refine FnT.body tok [0, 1, 2] Tryd.func62 rfl (by kernel_rfl) (by kernel_rfl) (by show _ ≤ 7; simp) fun hsep => ?_
  rw [Tryd.results62]
  have hsE := hsep
  try simp only [zzs] at hsE
  repeat (obtain ⟨hsx, hsE⟩ := hsE)
  repeat' first
    | (with_reducible first | refine Br.yes ?_ | refine Br.no ?_ | refine Br.dec (fun _ => ?_) (fun _ => ?_) | refine Br.mk (fun _ => ?_) (fun _ => ?_))
    | ((with_reducible first | refine NewB.mk (fun nb hnb => ?_)); have hnb1 := hnb.1.1; have hnb2 := hnb.1.2; try simp only [zzn] at hnb2)
    | simp (dsimp := false) (implicitDefEqProofs := false) (disch := first | assumption | (simp only [zzm]; done) | omega | (with_reducible refine Row.adr (by assumption) ?_; simp only [zzk]; omega) | (simp only [zzl, Nat.reduceAdd]; first | done | omega)) only [go_sem, ↓reduceIte, Nat.reduceEqDiff, Nat.reduceAdd, Nat.reduceSub, Nat.reduceMul, Nat.reduceBEq, Nat.reduceLT, Nat.reduceLeDiff, Nat.reduceMod, Nat.reducePow, List.reduceReplicate, UInt8.reduceOfNat, Int.reducePow, Int.reduceDiv, Int.reduceMod, Nat.reduceDiv, Int.reduceNeg, Int.reduceAdd, Int.reduceSub, Int.reduceMul, Int.reduceLE, Int.reduceLT, Int.reduceEq, Int.reduceToNat, reduceCtorEq, -List.reduceReplicate, List.toList_toArray, hCl, hCw, hCa]
    | with_reducible refine numS_t (l := colL d) (by omega) (fun i hi H1 R1 hg hf hR1 => ?_) fun G2 v2 hle2 hs2 hsl2 => ?_
  · refine col_t hsm hok O (by omega) hg hf ?_
    rw [← colL_at hi]; exact hR1
  · unfold UpdR
    refine Upd.leave (H' := H) (by intro fsum; first | exact Nat.le_refl _ | (simp only [zzq]; omega)) ?_
    exact fun hle hs => hR G2 v2 hle2 hs2 hsl2
set_option maxHeartbeats 8000000 in
theorem Classes_t {d : DfaT} (hsm : SmallD d) {G : PHeap} {H : Heap} {R : Value → PHeap → Heap → Prop} {v : Value} (hv : IsD G d v)
    (hR : ∀ G', PLe G G' → Sep G' (keys H) → R (if boolOf (RightP d) = true then .tuple #[agg8 (nums (clL d)), .int .i64 (tabO (clL d)).length] else .tuple #[agg8 (List.replicate 256 0), .int .i64 0]) G' H) : FnT Tryd.prog 44 [v] G H R := by
  obtain ⟨C, an, al, ay, cn, cl, cs, rs, rfl, O⟩ := hv.opened
  have hCl := O.len
  have hCa := O.all
  have hCo := O.of
  refine FnT.sep ?_
  by_cases hok : RightP d
  · have hb := boolOf_yes hok
    rw [if_pos hb] at hR
    have hcl := clL_len O.ofl
    have hu8 : (u8L (clL d)).length = 256 := by rw [List.length_map, hcl]
    have htk : List.take 256 (u8L (clL d)) = u8L (clL d) := List.take_of_length_le (by omega)
    refine FnT.body tok [0, 1, 2, 3, 4, 5, 6, 7, 10, 15, 16, 17] Tryd.func44 rfl (by kernel_rfl) (by kernel_rfl) (by show _ ≤ 32; simp) fun hsep => ?_
    rw [Tryd.results44]
    have hsE := hsep
    try simp only [zzs] at hsE
    repeat (obtain ⟨hsx, hsE⟩ := hsE)
    repeat' first
      | (with_reducible first | refine Br.yes ?_ | refine Br.no ?_ | refine Br.dec (fun _ => ?_) (fun _ => ?_) | refine Br.mk (fun _ => ?_) (fun _ => ?_))
      | ((with_reducible first | refine NewB.mk (fun nb hnb => ?_) | refine NewRow.mk (fun nb nsp ncap hnb hncap => ?_)); have hnb1 := hnb.1.1; have hnb2 := hnb.1.2; try simp only [zzn] at hnb2)
      | simp (dsimp := false) (implicitDefEqProofs := false) (disch := first | assumption | (simp only [zzm]; done) | omega | (with_reducible refine Row.adr (by assumption) ?_; simp only [zzk]; omega) | (simp only [zzl, Nat.reduceAdd]; first | done | omega)) only [go_sem, ↓reduceIte, Nat.reduceEqDiff, Nat.reduceAdd, Nat.reduceSub, Nat.reduceMul, Nat.reduceBEq, Nat.reduceLT, Nat.reduceLeDiff, Nat.reduceMod, Nat.reducePow, List.reduceReplicate, UInt8.reduceOfNat, Int.reducePow, Int.reduceDiv, Int.reduceMod, Nat.reduceDiv, Int.reduceNeg, Int.reduceAdd, Int.reduceSub, Int.reduceMul, Int.reduceLE, Int.reduceLT, Int.reduceEq, Int.reduceToNat, reduceCtorEq, -List.reduceReplicate, List.toList_toArray, hCl, hCa, hCo, hb, u8F_zero, u8F_len, u8F_one, u8F_over, u8F_take]
      | with_reducible refine right_t hsm O.is ?_
    rename_i b1 hb1 hb11 hb12 b2 hb2 hb21 hb22
    refine cols_t hsm hok O fun G2 v2 hle2 hs2 hsl2 => ?_
    obtain ⟨a2, c2, rfl, hr2, hc2⟩ := hsl2
    have hsE := hs2
    try simp only [zzs] at hsE
    repeat (obtain ⟨hsx, hsE⟩ := hsE)
    repeat' first
      | (with_reducible first | refine Br.yes ?_ | refine Br.no ?_ | refine Br.dec (fun _ => ?_) (fun _ => ?_) | refine Br.mk (fun _ => ?_) (fun _ => ?_))
      | ((with_reducible first | refine NewB.mk (fun nb hnb => ?_) | refine NewRow.mk (fun nb nsp ncap hnb hncap => ?_)); have hnb1 := hnb.1.1; have hnb2 := hnb.1.2; try simp only [zzn] at hnb2)
      | simp (dsimp := false) (implicitDefEqProofs := false) (disch := first | assumption | (simp only [zzm]; done) | omega | (with_reducible refine Row.adr (by assumption) ?_; simp only [zzk]; omega) | (simp only [zzl, Nat.reduceAdd]; first | done | omega)) only [go_sem, ↓reduceIte, Nat.reduceEqDiff, Nat.reduceAdd, Nat.reduceSub, Nat.reduceMul, Nat.reduceBEq, Nat.reduceLT, Nat.reduceLeDiff, Nat.reduceMod, Nat.reducePow, List.reduceReplicate, UInt8.reduceOfNat, Int.reducePow, Int.reduceDiv, Int.reduceMod, Nat.reduceDiv, Int.reduceNeg, Int.reduceAdd, Int.reduceSub, Int.reduceMul, Int.reduceLE, Int.reduceLT, Int.reduceEq, Int.reduceToNat, reduceCtorEq, -List.reduceReplicate, List.toList_toArray, hCl, hCa, hCo, hb, u8F_zero, u8F_len, u8F_one, u8F_over, u8F_take]
    have hnl := nums_len (colL d)
    have hnu8 : (u8L (nums (clL d))).length = 256 := by rw [List.length_map, nums_len, hcl]
    have hno1 : (u8L (nums (clL d))).all oneV = true := by rw [List.all_map]; exact List.all_eq_true.2 fun _ _ => rfl
    have hns : splice (u8F fun _ => 0) 0 (u8L (nums (clL d))) = u8L (nums (clL d)) := by rw [← u8F_nums hcl, u8F_over]
    have hnt : List.take 256 (u8L (nums (clL d))) = u8L (nums (clL d)) := List.take_of_length_le (by omega)
    have had : Adr a2 := hr2.adr (by rw [List.length_map, hnl]; have := width_pos hok; have := of_bound hok (List.getElem_mem (l := d.of) (n := 0) (by rw [O.ofl]; omega)); omega)
    have hofl := O.ofl
    have hu8o : (u8L d.of).length = 256 := by rw [List.length_map, hofl]
    have hw8 := width_le hok O.ofl
    refine Tri.loopU tok [0, 1, 2, 3, 4, 5, 6, 7, 10, 15, 16, 17] (by kernel_rfl) [1, 2, 3, 4, 5, 15, 16] (fun q G' fr H' => ∃ (c : Nat), c + q = 256 ∧ G' = G2 ∧ H' = (nb, .cells (u8F (clU d c)) [] 22) :: (b2, .cells (u8F fun _ => 0) [] 22) :: (b1, .cells C [] 27) :: H ∧ fr = [(1, .pointer (some ⟨b1, 0, none⟩)), (2, .pointer (some ⟨b2, 0, none⟩)), (3, .int .i64 0), (4, .pointer (some ⟨nb, 0, none⟩)), (5, .slice a2 (nums (colL d)).length c2), (15, agg8 d.of), (16, .int .i64 (c : Nat))]) (256) ?_ ?_
    · exact Upd.now ⟨0, by omega, rfl, by rw [clU_zero], rfl⟩
    · rintro q G1 fr H' hle hs1 ⟨c, hc, rfl, rfl, rfl⟩
      have hsE := hs1
      try simp only [zzs] at hsE
      repeat (obtain ⟨hsx, hsE⟩ := hsE)
      by_cases hc2 : c < 256
      · obtain ⟨h3, h4, e, e1, e2⟩ := clL_at hok (i := c) (by omega)
        obtain ⟨q1, q2⟩ := O.ofb _ (List.getElem_mem (l := d.of) (n := c) (by omega))
        have hw : IntKind.u8.wrap ((nums (colL d))[(d.of[c]).toNat]) = (clL d)[c] := by
          rw [e]; obtain ⟨t, ht⟩ := Int.eq_ofNat_of_zero_le (e ▸ e1); rw [ht]; exact u8_wrap (by omega)
        have hput : splice (u8F (clU d c)) c [.int .u8 (clL d)[c]] = u8F (clU d (c + 1)) := by
          rw [u8F_putS hc2]; exact clU_succ (by rw [atL_get (by simpa using h4)]; simp)
        have hget : (u8L d.of)[c]? = some (.int .u8 d.of[c]) := by rw [List.getElem?_map, List.getElem?_eq_getElem (by omega)]; rfl
        repeat' first
          | (with_reducible first | refine Br.yes ?_ | refine Br.no ?_ | refine Br.dec (fun _ => ?_) (fun _ => ?_) | refine Br.mk (fun _ => ?_) (fun _ => ?_))
          | ((with_reducible first | refine NewB.mk (fun nb hnb => ?_) | refine NewRow.mk (fun nb nsp ncap hnb hncap => ?_)); have hnb1 := hnb.1.1; have hnb2 := hnb.1.2; try simp only [zzn] at hnb2)
          | simp (dsimp := false) (implicitDefEqProofs := false) (disch := first | assumption | (simp only [zzm]; done) | omega | (with_reducible refine Row.adr (by assumption) ?_; simp only [zzk]; omega) | (simp only [zzl, Nat.reduceAdd]; first | done | omega)) only [go_sem, ↓reduceIte, Nat.reduceEqDiff, Nat.reduceAdd, Nat.reduceSub, Nat.reduceMul, Nat.reduceBEq, Nat.reduceLT, Nat.reduceLeDiff, Nat.reduceMod, Nat.reducePow, List.reduceReplicate, UInt8.reduceOfNat, Int.reducePow, Int.reduceDiv, Int.reduceMod, Nat.reduceDiv, Int.reduceNeg, Int.reduceAdd, Int.reduceSub, Int.reduceMul, Int.reduceLE, Int.reduceLT, Int.reduceEq, Int.reduceToNat, reduceCtorEq, -List.reduceReplicate, List.toList_toArray, hCl, hCa, hCo, hb, u8F_len, u8F_one, u8F_over, u8F_take, hu8o, List.getElem_map, hofl, Row.obj hr2, hw, hput, hget, partL]
        exact Upd.now ⟨q - 1, by omega, c + 1, by omega, rfl, rfl, rfl⟩
      · obtain rfl : c = 256 := by omega
        rw [clU_all hofl]
        repeat' first
          | (with_reducible first | refine Br.yes ?_ | refine Br.no ?_ | refine Br.dec (fun _ => ?_) (fun _ => ?_) | refine Br.mk (fun _ => ?_) (fun _ => ?_))
          | ((with_reducible first | refine NewB.mk (fun nb hnb => ?_) | refine NewRow.mk (fun nb nsp ncap hnb hncap => ?_)); have hnb1 := hnb.1.1; have hnb2 := hnb.1.2; try simp only [zzn] at hnb2)
          | simp (dsimp := false) (implicitDefEqProofs := false) (disch := first | assumption | (simp only [zzm]; done) | omega | (with_reducible refine Row.adr (by assumption) ?_; simp only [zzk]; omega) | (simp only [zzl, Nat.reduceAdd]; first | done | omega)) only [go_sem, ↓reduceIte, Nat.reduceEqDiff, Nat.reduceAdd, Nat.reduceSub, Nat.reduceMul, Nat.reduceBEq, Nat.reduceLT, Nat.reduceLeDiff, Nat.reduceMod, Nat.reducePow, List.reduceReplicate, UInt8.reduceOfNat, Int.reducePow, Int.reduceDiv, Int.reduceMod, Nat.reduceDiv, Int.reduceNeg, Int.reduceAdd, Int.reduceSub, Int.reduceMul, Int.reduceLE, Int.reduceLT, Int.reduceEq, Int.reduceToNat, reduceCtorEq, -List.reduceReplicate, List.toList_toArray, hCl, hCa, hCo, hb, u8F_len, u8F_one, u8F_over, u8F_take, hu8, htk, hnu8, hno1, hns, hnt]
          | with_reducible refine pnorm_t hcl ?_
        unfold UpdR
        refine Upd.leave (H' := H) (by intro fsum; first | exact Nat.le_refl _ | (simp only [zzq]; omega)) ?_
        exact fun _ hs => hR G1 hle2 hs
  · have hb := boolOf_no hok
    rw [hb, if_neg (by simp)] at hR
    have h8 : (List.replicate 256 (Value.int .u8 0)) = u8L (List.replicate 256 0) := by rw [u8L, List.map_replicate]
    refine FnT.body tok [0, 1, 2, 3, 4, 5, 6, 7, 10, 15, 16, 17] Tryd.func44 rfl (by kernel_rfl) (by kernel_rfl) (by show _ ≤ 32; simp) fun hsep => ?_
    rw [Tryd.results44]
    have hsE := hsep
    try simp only [zzs] at hsE
    repeat (obtain ⟨hsx, hsE⟩ := hsE)
    repeat' first
      | (with_reducible first | refine Br.yes ?_ | refine Br.no ?_ | refine Br.dec (fun _ => ?_) (fun _ => ?_) | refine Br.mk (fun _ => ?_) (fun _ => ?_))
      | ((with_reducible first | refine NewB.mk (fun nb hnb => ?_) | refine NewRow.mk (fun nb nsp ncap hnb hncap => ?_)); have hnb1 := hnb.1.1; have hnb2 := hnb.1.2; try simp only [zzn] at hnb2)
      | simp (dsimp := false) (implicitDefEqProofs := false) (disch := first | assumption | (simp only [zzm]; done) | omega | (with_reducible refine Row.adr (by assumption) ?_; simp only [zzk]; omega) | (simp only [zzl, Nat.reduceAdd]; first | done | omega)) only [go_sem, ↓reduceIte, Nat.reduceEqDiff, Nat.reduceAdd, Nat.reduceSub, Nat.reduceMul, Nat.reduceBEq, Nat.reduceLT, Nat.reduceLeDiff, Nat.reduceMod, Nat.reducePow, List.reduceReplicate, UInt8.reduceOfNat, Int.reducePow, Int.reduceDiv, Int.reduceMod, Nat.reduceDiv, Int.reduceNeg, Int.reduceAdd, Int.reduceSub, Int.reduceMul, Int.reduceLE, Int.reduceLT, Int.reduceEq, Int.reduceToNat, reduceCtorEq, -List.reduceReplicate, List.toList_toArray, hCl, hCa, hCo, hb, u8F_zero, u8F_len, u8F_one, u8F_over, u8F_take]
      | with_reducible refine right_t hsm O.is ?_
    unfold UpdR
    refine Upd.leave (H' := H) (by intro fsum; first | exact Nat.le_refl _ | (simp only [zzq]; omega)) ?_
    rw [← u8F_zero, h8]
    exact fun _ hs => hR G (PLe.refl _) hs
end Go.Proofs.YtefkpedhbijhkaaDoor
namespace Go.Proofs.YtefkpedhbijhkaaDoor
open Go Go.V Go.Proofs
section
variable {α β : Type} [DecidableEq α] [DecidableEq β]
theorem tab_le {l : List α} {m : List β} (h : nums l = nums m) : (tabO m).length ≤ (tabO l).length := by
  rcases Nat.lt_or_ge (tabO l).length (tabO m).length with hlt | hge
  · obtain ⟨c, hc, e⟩ := List.getElem_of_mem ((mem_tabO m).1 (List.getElem_mem hlt))
    have hp := place_get (tabO_nodup m) hlt
    have hx : (nums m)[c]'(by rw [nums_len]; exact hc) = ((tabO l).length : Nat) := by rw [nums_get hc, e, findF_some hp]
    have hcl : c < (nums m).length := by rw [nums_len]; exact hc
    have hmem : (nums m)[c] ∈ nums l := by rw [h]; exact List.getElem_mem hcl
    have := nums_bound hmem
    omega
  · exact hge
theorem tab_same {l : List α} {m : List β} (h : nums l = nums m) : (tabO l).length = (tabO m).length := Nat.le_antisymm (tab_le h.symm) (tab_le h)
end
end Go.Proofs.YtefkpedhbijhkaaDoor
namespace Go.Proofs.YtefkpedhbijhkaaDoor
open Go Go.V Go.Proofs
theorem cloneI_t (l : List Int) (hlen : l.length ≤ 2000000) {G : PHeap} {H : Heap} {R : Value → PHeap → Heap → Prop} {v : Value} (hv : Sl G (Value.int .i64) v l)
    (hR : ∀ G' v', PLe G G' → Sep G' (keys H) → Sl G' (Value.int .i64) v' l → R v' G' H) : FnT Tryd.prog 46 [v] G H R := by
  obtain ⟨a, cap, rfl, hrow, hcap⟩ := hv
  refine FnT.sep ?_
  rcases a with _ | a
  · have h0 : l = [] := List.eq_nil_of_length_eq_zero (by
      rcases Nat.eq_zero_or_pos l.length with h | h
      · exact h
      · have := hrow.adr (by rw [List.length_map]; exact h)
        cases this)
    subst h0
    refine FnT.body tok [0, 2, 4] Tryd.func46 rfl (by kernel_rfl) (by kernel_rfl) (by show _ ≤ 8; simp) fun hsep => ?_
    rw [Tryd.results46]
    have hsE := hsep
    try simp only [zzs] at hsE
    repeat (obtain ⟨hsx, hsE⟩ := hsE)
    repeat' first
      | (with_reducible first | refine Br.yes ?_ | refine Br.no ?_ | refine Br.dec (fun _ => ?_) (fun _ => ?_) | refine Br.beqB (fun _ => ?_) (fun _ => ?_) | refine Br.beqb (fun _ => ?_) (fun _ => ?_) | refine Br.mk (fun _ => ?_) (fun _ => ?_) | refine appV.zero ?_ | refine appV.own ?_)
      | ((with_reducible first | refine NewB.mk (fun nb hnb => ?_) | refine NewRow.mk (fun nb nsp ncap hnb hncap => ?_)); have hnb1 := hnb.1.1; have hnb2 := hnb.1.2; try simp only [zzn] at hnb2)
      | simp (dsimp := false) (implicitDefEqProofs := false) (disch := first | assumption | (simp only [zzm]; done) | omega | (with_reducible refine Row.adr (by assumption) ?_; simp only [zzk]; omega) | (simp only [zzl, Nat.reduceAdd]; first | done | omega)) only [go_sem, ↓reduceIte, Nat.reduceEqDiff, Nat.reduceAdd, Nat.reduceSub, Nat.reduceMul, Nat.reduceBEq, Nat.reduceLT, Nat.reduceLeDiff, Nat.reduceMod, Nat.reducePow, List.reduceReplicate, UInt8.reduceOfNat, Int.reducePow, Int.reduceDiv, Int.reduceMod, Nat.reduceDiv, Int.reduceNeg, Int.reduceAdd, Int.reduceSub, Int.reduceMul, Int.reduceLE, Int.reduceLT, Int.reduceEq, Int.reduceToNat, reduceCtorEq]
    unfold UpdR
    refine Upd.leave (H' := H) (by intro fsum; first | exact Nat.le_refl _ | (simp only [zzq]; omega)) ?_
    exact fun hle hs => hR G _ (PLe.refl _) hs (Sl.nil _ _)
  · refine FnT.body tok [0, 2, 4] Tryd.func46 rfl (by kernel_rfl) (by kernel_rfl) (by show _ ≤ 8; simp) fun hsep => ?_
    rw [Tryd.results46]
    have hsE := hsep
    try simp only [zzs] at hsE
    repeat (obtain ⟨hsx, hsE⟩ := hsE)
    repeat' first
      | (with_reducible first | refine Br.yes ?_ | refine Br.no ?_ | refine Br.dec (fun _ => ?_) (fun _ => ?_) | refine Br.beqB (fun _ => ?_) (fun _ => ?_) | refine Br.beqb (fun _ => ?_) (fun _ => ?_) | refine Br.mk (fun _ => ?_) (fun _ => ?_) | refine appV.zero ?_ | refine appV.own ?_)
      | ((with_reducible first | refine NewB.mk (fun nb hnb => ?_) | refine NewRow.mk (fun nb nsp ncap hnb hncap => ?_)); have hnb1 := hnb.1.1; have hnb2 := hnb.1.2; try simp only [zzn] at hnb2)
      | simp (dsimp := false) (implicitDefEqProofs := false) (disch := first | assumption | (simp only [zzm]; done) | omega | (with_reducible refine Row.adr (by assumption) ?_; simp only [zzk]; omega) | (simp only [zzl, Nat.reduceAdd]; first | done | omega)) only [go_sem, ↓reduceIte, Nat.reduceEqDiff, Nat.reduceAdd, Nat.reduceSub, Nat.reduceMul, Nat.reduceBEq, Nat.reduceLT, Nat.reduceLeDiff, Nat.reduceMod, Nat.reducePow, List.reduceReplicate, UInt8.reduceOfNat, Int.reducePow, Int.reduceDiv, Int.reduceMod, Nat.reduceDiv, Int.reduceNeg, Int.reduceAdd, Int.reduceSub, Int.reduceMul, Int.reduceLE, Int.reduceLT, Int.reduceEq, Int.reduceToNat, reduceCtorEq, Row.rdSlAll hrow, List.length_map]
    · rename_i h0
      have h0 : l = [] := List.eq_nil_of_length_eq_zero h0
      subst h0
      unfold UpdR
      refine Upd.leave (H' := H) (by intro fsum; first | exact Nat.le_refl _ | (simp only [zzq]; omega)) ?_
      exact fun hle hs => hR G _ (PLe.refl _) hs ⟨_, 0, rfl, Row.nil _ _, Nat.le_refl _⟩
    · unfold UpdR
      refine Upd.go (H' := (nb, .cells (l.map (Value.int .i64)) nsp 3) :: H) (by intro fsum; first | exact Nat.le_refl _ | (simp only [zzq]; omega)) (Upd.shareRow (by assumption) fun G2 hle2 hs2 hr2 => ?_)
      exact fun hle hs => hR G2 _ hle2 hs ⟨some ⟨nb, 0, none⟩, ncap, rfl, hr2, by omega⟩
theorem nums_nums (l : List Int) : nums (nums l) = nums l := nums_same (nums_len l) fun i j hi hj => by
  rw [nums_len] at hi hj
  exact nums_iff hi hj
/-- a row of the machine with its classes of bytes -/
def rowM (d : DfaT) (row : List Int) : List Int := (leastL (nums (clL d))).map fun b => atL row (atL d.of b)
def rowsM (d : DfaT) : List (List Int) := d.next.map (rowM d)
def mergeD (d : DfaT) : DfaT := { of := nums (clL d), width := (tabO (clL d)).length, next := rowsM d, label := d.label, names := d.names }
noncomputable def mergeR (d : DfaT) : DfaT × Int := if boolOf (RightP d) = true then (mergeD d, 0) else (zeroD, 6)
theorem mergeR_ok {d : DfaT} (h : RightP d) : mergeR d = (mergeD d, 0) := by unfold mergeR; rw [if_pos (boolOf_yes h)]
theorem mergeR_bad {d : DfaT} (h : ¬ RightP d) : mergeR d = (zeroD, 6) := by unfold mergeR; rw [boolOf_no h, if_neg (by simp)]
theorem least_len (d : DfaT) : (leastL (nums (clL d))).length = (tabO (clL d)).length := by rw [leastL_len, tab_same (nums_nums (clL d))]
theorem least_bound {d : DfaT} (hl : d.of.length = 256) {k : Nat} (hk : k < (leastL (nums (clL d))).length) : ∃ x : Nat, (leastL (nums (clL d)))[k] = (x : Nat) ∧ x < 256 := by
  have hin : (tabO (nums (clL d)))[k]'(by rw [leastL_len] at hk; exact hk) ∈ nums (clL d) := (mem_tabO _).1 (List.getElem_mem _)
  obtain ⟨x, hx⟩ := place_mem hin
  obtain ⟨hx1, hx2⟩ := place_some hx
  exact ⟨x, by simp only [leastL, List.getElem_map]; exact findF_some hx, by rw [nums_len, clL_len hl] at hx1; exact hx1⟩
theorem rowM_len (d : DfaT) (row : List Int) : (rowM d row).length = (tabO (clL d)).length := by unfold rowM; rw [List.length_map, least_len]
/-- the rows that there are -/
def RowX (rows : List (List Int)) (G' : PHeap) (j : Nat) (vn : Value) (kn : Heap) : Prop :=
  (j = 0 ∧ vn = .slice none 0 0 ∧ kn = []) ∨ ∃ bn c1 rv sp1, vn = .slice (some ⟨bn, 0, none⟩) j c1 ∧ kn = [(bn, .cells rv sp1 24)] ∧ rv.length = j ∧ j + sp1.length = c1 ∧
    ∀ i (h : i < j) (h2 : i < rv.length) (h3 : i < rows.length), ∃ b c, rv[i] = .slice b rows[i].length c ∧ Row G' b (rows[i].map (Value.int .i64)) ∧ rows[i].length ≤ c
theorem RowX.vn {rows : List (List Int)} {G' : PHeap} {j : Nat} {vn : Value} {kn : Heap} (h : RowX rows G' j vn kn) : ∃ a c, vn = .slice a j c := by
  rcases h with ⟨rfl, rfl, _⟩ | ⟨bn, c1, rv, sp1, rfl, _⟩
  · exact ⟨none, 0, rfl⟩
  · exact ⟨_, _, rfl⟩
theorem RowX.mono {rows : List (List Int)} {G G' : PHeap} (hle : PLe G G') {j : Nat} {vn : Value} {kn : Heap} (h : RowX rows G j vn kn) : RowX rows G' j vn kn := by
  rcases h with h | ⟨bn, c1, rv, sp1, h1, h2, h3, h4, h5⟩
  · exact .inl h
  · exact .inr ⟨bn, c1, rv, sp1, h1, h2, h3, h4, fun i a b c => by
      obtain ⟨x, y, e1, e2, e3⟩ := h5 i a b c
      exact ⟨x, y, e1, e2.mono hle, e3⟩⟩
end Go.Proofs.YtefkpedhbijhkaaDoor
namespace Go.Proofs.YtefkpedhbijhkaaDoor
open Go Go.V Go.Proofs
section
variable {α β : Type} [DecidableEq α] [DecidableEq β]
end
theorem merge_right {d : DfaT} (hok : RightP d) (hl : d.of.length = 256) : RightP (mergeD d) := by
  obtain ⟨hk1, hk2, hk3, hk4, hk5, hk6, hk7⟩ := id hok
  have hcl := clL_len hl
  have hnl : (rowsM d).length = d.next.length := by unfold rowsM; rw [List.length_map]
  refine ⟨hk1, hk2, hnl.trans hk3, nums_nums _, by show ((tabO (nums (clL d))).length : Int) = _; rw [tab_same (nums_nums (clL d))]; rfl, hk6, fun s h h2 => ?_⟩
  have hs : s < d.next.length := by have : s < (rowsM d).length := h; omega
  obtain ⟨hw1, hw2, hw3, hw4⟩ := hk7 s hs h2
  have g2 : (mergeD d).next[s] = rowM d d.next[s] := by simp only [mergeD, rowsM, List.getElem_map]
  rw [g2]
  refine ⟨by rw [rowM_len]; rfl, hw2, hw3, fun t ht => ?_⟩
  unfold rowM at ht
  obtain ⟨b, hb, rfl⟩ := List.mem_map.1 ht
  obtain ⟨i, hi, e⟩ := List.getElem_of_mem hb
  obtain ⟨x, e2, hx⟩ := least_bound hl hi
  rw [← e, e2]
  have hxd : x < d.of.length := by omega
  have hox := of_bound hok (List.getElem_mem hxd)
  rw [atL_get (x := ((x : Nat) : Int)) (by simpa using hxd)]
  simp only [Int.toNat_natCast]
  have f1 : (d.of[x]).toNat < (d.next[s]).length := by omega
  rw [atL_get f1]
  exact hw4 _ (List.getElem_mem f1)
end Go.Proofs.YtefkpedhbijhkaaDoor
