/- Machines as bytes: the reader. -/
import Derived.Test.YtomdbjfdbkejoaaYb
set_option linter.unusedSimpArgs false
set_option linter.unusedVariables false
namespace Go.Proofs.Ytomdbjfdbkejoaa
open Go Go.V Go.Proofs

/-- a reader: has it gone wrong, and what is left -/
abbrev Rdr := Bool × List UInt8
def takeP (n : Nat) (s : Rdr) : List UInt8 × Rdr := if s.1 = true ∨ s.2.length < n then (List.replicate n 0, (true, s.2)) else (s.2.take n, (s.1, s.2.drop n))
theorem takeP_len (n : Nat) (s : Rdr) : (takeP n s).1.length = n := by
  unfold takeP
  split
  · exact List.length_replicate
  · rename_i h
    show (s.2.take n).length = n
    rw [List.length_take]; omega
theorem takeP_le (n : Nat) (s : Rdr) : (takeP n s).2.2.length ≤ s.2.length := by
  unfold takeP
  split
  · exact Nat.le_refl _
  · show (s.2.drop n).length ≤ _
    rw [List.length_drop]; omega
def beV (l : List UInt8) : Nat := l.foldl (fun n c => n * 256 + c.toNat) 0
theorem beV_snoc (l : List UInt8) (c : UInt8) : beV (l ++ [c]) = beV l * 256 + c.toNat := by unfold beV; rw [List.foldl_append, List.foldl_cons, List.foldl_nil]
theorem beV_lt (l : List UInt8) : beV l < 256 ^ l.length := by
  refine snocI (P := fun l => beV l < 256 ^ l.length) (by simp [beV]) (fun l c ih => ?_) l
  rw [beV_snoc, List.length_append, List.length_singleton, Nat.pow_succ]
  have := c.toNat_lt
  omega
def numP (many : Nat) (s : Rdr) : Nat × Rdr := (beV (takeP many s).1, (takeP many s).2)
theorem numP_lt (many : Nat) (s : Rdr) : (numP many s).1 < 256 ^ many := by
  have := beV_lt (takeP many s).1
  rwa [takeP_len] at this
theorem numP_le (many : Nat) (s : Rdr) : (numP many s).2.2.length ≤ s.2.length := takeP_le many s
theorem or_shift {n c : Nat} (hn : n < 1099511627776) (hc : c < 256) : bitsOp .or .i64 ((n : Int) * 256) (c : Nat) = ((n * 256 + c : Nat) : Int) := by
  have e : ((n : Int) * 256) = ((n * 256 : Nat) : Int) := by omega
  rw [e]
  simp only [bitsOp, BitVec.ofInt_natCast]
  have h1 : (BitVec.ofNat IntKind.i64.bits (n * 256) ||| BitVec.ofNat IntKind.i64.bits c).toNat = n * 256 + c := by
    show (BitVec.ofNat 64 (n * 256) ||| BitVec.ofNat 64 c).toNat = n * 256 + c
    rw [BitVec.toNat_or, BitVec.toNat_ofNat, BitVec.toNat_ofNat, Nat.mod_eq_of_lt (by omega), Nat.mod_eq_of_lt (by omega)]
    have := Nat.two_pow_add_eq_or_of_lt (i := 8) (b := c) (by omega) n
    rw [show n * 256 = 2 ^ 8 * n by omega]
    exact this.symm
  have h2 : IntKind.i64.wrap ((n * 256 + c : Nat) : Int) = ((n * 256 + c : Nat) : Int) := wrap_i64 (by omega) (by omega)
  exact (congrArg (fun x : Nat => IntKind.i64.wrap (x : Int)) h1).trans h2
set_option maxHeartbeats 4000000 in
theorem take_t {s : Rdr} (hsl : s.2.length ≤ 200000000) {n : Nat} (hn : n ≤ 65536) {bR : Nat} {sv : Value} {G : PHeap} {H : Heap} {R : Value → PHeap → Heap → Prop} (hs : Sl G byteV sv s.2)
    (hR : ∀ G' v sv', PLe G G' → Sep G' (keys ((bR, Res.cells [sv', .bool (takeP n s).2.1] [] 43) :: H)) → Sl G' byteV v (takeP n s).1 → Sl G' byteV sv' (takeP n s).2.2 → R v G' ((bR, .cells [sv', .bool (takeP n s).2.1] [] 43) :: H)) :
    FnT Try.prog 30 [.pointer (some ⟨bR, 0, none⟩), .int .i64 (n : Nat)] G ((bR, .cells [sv, .bool s.1] [] 43) :: H) R := by
  obtain ⟨a, c, rfl, hr, hc⟩ := hs
  obtain ⟨bad, l⟩ := s
  simp only at hsl hr hc hR ⊢
  refine FnT.sep ?_
  by_cases h : bad = true ∨ l.length < n
  · have e : takeP n (bad, l) = (List.replicate n 0, (true, l)) := by unfold takeP; rw [if_pos h]
    rw [e] at hR
    rcases h with h | h
    · subst h
      refine FnT.body tok [0, 1, 4, 5, 18] Try.func30 rfl (by kernel_rfl) (by kernel_rfl) (by show _ ≤ 41; simp) fun hsep => ?_
      rw [Try.results30]
      have hsE := hsep
      try simp only [keys_cons, keys_app, keys_nil, Sep_cons, Sep_nil, NotIn_cons, NotIn_app, NotIn_nil, List.cons_append, List.nil_append, List.append_assoc, and_assoc, and_true, true_and] at hsE
      repeat (obtain ⟨hsx, hsE⟩ := hsE)
      repeat' first
        | with_reducible refine Br.yes ?_
        | with_reducible refine Br.no ?_
        | with_reducible refine Br.dec (fun _ => ?_) (fun _ => ?_)
        | with_reducible refine Br.beqB (fun _ => ?_) (fun _ => ?_)
        | with_reducible refine Br.beqb (fun _ => ?_) (fun _ => ?_)
        | with_reducible refine Br.mk (fun _ => ?_) (fun _ => ?_)
        | with_reducible refine foundO.mk (fun _ _ => ?_) (fun _ => ?_)
        | with_reducible refine appV.zero ?_
        | with_reducible refine appV.own ?_
        | ((with_reducible refine NewB.mk fun nb hnb => ?_); have hnb1 := hnb.1.1; have hnb2 := hnb.1.2; try simp only [keys_cons, keys_app, keys_nil, NotIn_cons, NotIn_app, NotIn_nil, and_true] at hnb2)
        | ((with_reducible refine NewRow.mk fun nb nsp ncap hnb hncap => ?_); have hnb1 := hnb.1.1; have hnb2 := hnb.1.2; try simp only [keys_cons, keys_app, keys_nil, NotIn_cons, NotIn_app, NotIn_nil, and_true] at hnb2)
        | simp (dsimp := false) (implicitDefEqProofs := false) (disch := first | assumption | (simp only [List.mem_cons, List.mem_append, true_or, or_true, eq_self]; done) | omega | (with_reducible refine Row.adr (by assumption) ?_; simp only [List.length_map, List.length_take, List.length_drop]; omega) | (simp only [List.length_cons, List.length_nil, List.length_map, List.length_append, List.length_replicate, Nat.reduceAdd, true_and, and_true, and_self]; first | done | omega)) only [go_sem, ↓reduceIte, Nat.reduceEqDiff, Nat.reduceAdd, Nat.reduceSub, Nat.reduceMul, Nat.reduceBEq, Nat.reduceLT, Nat.reduceLeDiff, Nat.reduceMod, Nat.reducePow, List.reduceReplicate, UInt8.reduceOfNat, Int.reducePow, Int.reduceDiv, Int.reduceMod, Nat.reduceDiv, Int.reduceNeg, Int.reduceAdd, Int.reduceSub, Int.reduceMul, Int.reduceLE, Int.reduceLT, Int.reduceEq, Int.reduceToNat, reduceCtorEq]
      unfold UpdR
      refine Upd.go (H' := (nb, .cells (List.replicate n (Value.int .u8 0)) (List.replicate (n - n) (Value.int .u8 0)) 5) :: (bR, .cells [.slice a l.length c, .bool true] [] 43) :: H) (by intro fsum; first | exact Nat.le_refl _ | (simp only [List.map_append, List.map_cons, List.map_nil, List.sum_append, List.sum_cons, List.sum_nil, List.cons_append, List.nil_append]; omega)) (Upd.shareRow (by assumption) fun G2 hle2 hs2 hr2 => ?_)
      exact fun hle hs => hR G2 _ _ hle2 hs ⟨some ⟨nb, 0, none⟩, n, by rw [List.length_replicate], by rw [List.map_replicate]; exact hr2, by rw [List.length_replicate]; exact Nat.le_refl _⟩ ⟨a, c, rfl, hr.mono hle2, hc⟩
    · refine FnT.body tok [0, 1, 4, 5, 18] Try.func30 rfl (by kernel_rfl) (by kernel_rfl) (by show _ ≤ 41; simp) fun hsep => ?_
      rw [Try.results30]
      have hsE := hsep
      try simp only [keys_cons, keys_app, keys_nil, Sep_cons, Sep_nil, NotIn_cons, NotIn_app, NotIn_nil, List.cons_append, List.nil_append, List.append_assoc, and_assoc, and_true, true_and] at hsE
      repeat (obtain ⟨hsx, hsE⟩ := hsE)
      repeat' first
        | with_reducible refine Br.yes ?_
        | with_reducible refine Br.no ?_
        | with_reducible refine Br.dec (fun _ => ?_) (fun _ => ?_)
        | with_reducible refine Br.beqB (fun _ => ?_) (fun _ => ?_)
        | with_reducible refine Br.beqb (fun _ => ?_) (fun _ => ?_)
        | with_reducible refine Br.mk (fun _ => ?_) (fun _ => ?_)
        | with_reducible refine foundO.mk (fun _ _ => ?_) (fun _ => ?_)
        | with_reducible refine appV.zero ?_
        | with_reducible refine appV.own ?_
        | ((with_reducible refine NewB.mk fun nb hnb => ?_); have hnb1 := hnb.1.1; have hnb2 := hnb.1.2; try simp only [keys_cons, keys_app, keys_nil, NotIn_cons, NotIn_app, NotIn_nil, and_true] at hnb2)
        | ((with_reducible refine NewRow.mk fun nb nsp ncap hnb hncap => ?_); have hnb1 := hnb.1.1; have hnb2 := hnb.1.2; try simp only [keys_cons, keys_app, keys_nil, NotIn_cons, NotIn_app, NotIn_nil, and_true] at hnb2)
        | simp (dsimp := false) (implicitDefEqProofs := false) (disch := first | assumption | (simp only [List.mem_cons, List.mem_append, true_or, or_true, eq_self]; done) | omega | (with_reducible refine Row.adr (by assumption) ?_; simp only [List.length_map, List.length_take, List.length_drop]; omega) | (simp only [List.length_cons, List.length_nil, List.length_map, List.length_append, List.length_replicate, Nat.reduceAdd, true_and, and_true, and_self]; first | done | omega)) only [go_sem, ↓reduceIte, Nat.reduceEqDiff, Nat.reduceAdd, Nat.reduceSub, Nat.reduceMul, Nat.reduceBEq, Nat.reduceLT, Nat.reduceLeDiff, Nat.reduceMod, Nat.reducePow, List.reduceReplicate, UInt8.reduceOfNat, Int.reducePow, Int.reduceDiv, Int.reduceMod, Nat.reduceDiv, Int.reduceNeg, Int.reduceAdd, Int.reduceSub, Int.reduceMul, Int.reduceLE, Int.reduceLT, Int.reduceEq, Int.reduceToNat, reduceCtorEq]
      all_goals try (exfalso; omega)
      all_goals
        unfold UpdR
        refine Upd.go (H' := (nb, .cells (List.replicate n (Value.int .u8 0)) (List.replicate (n - n) (Value.int .u8 0)) 5) :: (bR, .cells [.slice a l.length c, .bool true] [] 43) :: H) (by intro fsum; first | exact Nat.le_refl _ | (simp only [List.map_append, List.map_cons, List.map_nil, List.sum_append, List.sum_cons, List.sum_nil, List.cons_append, List.nil_append]; omega)) (Upd.shareRow (by assumption) fun G2 hle2 hs2 hr2 => ?_)
        exact fun hle hs => hR G2 _ _ hle2 hs ⟨some ⟨nb, 0, none⟩, n, by rw [List.length_replicate], by rw [List.map_replicate]; exact hr2, by rw [List.length_replicate]; exact Nat.le_refl _⟩ ⟨a, c, rfl, hr.mono hle2, hc⟩
  · have hb : bad = false := by cases bad with | false => rfl | true => exact absurd (Or.inl rfl) h
    subst hb
    have hnl : n ≤ l.length := by omega
    have e : takeP n (false, l) = (l.take n, (false, l.drop n)) := by unfold takeP; rw [if_neg h]
    rw [e] at hR
    refine FnT.body tok [0, 1, 4, 5, 18] Try.func30 rfl (by kernel_rfl) (by kernel_rfl) (by show _ ≤ 41; simp) fun hsep => ?_
    rw [Try.results30]
    have hsE := hsep
    try simp only [keys_cons, keys_app, keys_nil, Sep_cons, Sep_nil, NotIn_cons, NotIn_app, NotIn_nil, List.cons_append, List.nil_append, List.append_assoc, and_assoc, and_true, true_and] at hsE
    repeat (obtain ⟨hsx, hsE⟩ := hsE)
    repeat' first
      | with_reducible refine Br.yes ?_
      | with_reducible refine Br.no ?_
      | with_reducible refine Br.dec (fun _ => ?_) (fun _ => ?_)
      | with_reducible refine Br.beqB (fun _ => ?_) (fun _ => ?_)
      | with_reducible refine Br.beqb (fun _ => ?_) (fun _ => ?_)
      | with_reducible refine Br.mk (fun _ => ?_) (fun _ => ?_)
      | with_reducible refine foundO.mk (fun _ _ => ?_) (fun _ => ?_)
      | with_reducible refine appV.zero ?_
      | with_reducible refine appV.own ?_
      | ((with_reducible refine NewB.mk fun nb hnb => ?_); have hnb1 := hnb.1.1; have hnb2 := hnb.1.2; try simp only [keys_cons, keys_app, keys_nil, NotIn_cons, NotIn_app, NotIn_nil, and_true] at hnb2)
      | ((with_reducible refine NewRow.mk fun nb nsp ncap hnb hncap => ?_); have hnb1 := hnb.1.1; have hnb2 := hnb.1.2; try simp only [keys_cons, keys_app, keys_nil, NotIn_cons, NotIn_app, NotIn_nil, and_true] at hnb2)
      | simp (dsimp := false) (implicitDefEqProofs := false) (disch := first | assumption | (simp only [List.mem_cons, List.mem_append, true_or, or_true, eq_self]; done) | omega | (with_reducible refine Row.adr (by assumption) ?_; simp only [List.length_map, List.length_take, List.length_drop]; omega) | (simp only [List.length_cons, List.length_nil, List.length_map, List.length_append, List.length_replicate, Nat.reduceAdd, true_and, and_true, and_self]; first | done | omega)) only [go_sem, ↓reduceIte, Nat.reduceEqDiff, Nat.reduceAdd, Nat.reduceSub, Nat.reduceMul, Nat.reduceBEq, Nat.reduceLT, Nat.reduceLeDiff, Nat.reduceMod, Nat.reducePow, List.reduceReplicate, UInt8.reduceOfNat, Int.reducePow, Int.reduceDiv, Int.reduceMod, Nat.reduceDiv, Int.reduceNeg, Int.reduceAdd, Int.reduceSub, Int.reduceMul, Int.reduceLE, Int.reduceLT, Int.reduceEq, Int.reduceToNat, reduceCtorEq]
    all_goals try (exfalso; omega)
    refine ⟨rfl, ?_⟩
    unfold UpdR
    refine Upd.now ?_
    have h1 : Row G (subOb a 0 n 0) ((l.take n).map byteV) := by
      have := (hr.take n).drop (l := 0) (m := n) (s := 1) (fun e => by subst e; simp)
      rw [Nat.zero_mul, List.drop_zero, ← List.map_take] at this
      exact this
    have h2 : Row G (subOb a n c n) ((l.drop n).map byteV) := by
      have := hr.drop (l := n) (m := c) (s := 1) (fun e => by rw [List.length_map]; omega)
      rw [Nat.mul_one, ← List.map_drop] at this
      exact this
    exact fun hle hs => hR G _ _ (PLe.refl _) hs ⟨_, n - 0, by rw [List.length_take, Nat.min_eq_left hnl, Nat.sub_zero], h1, by rw [List.length_take]; omega⟩ ⟨_, c - n, by rw [List.length_drop], h2, by rw [List.length_drop]; omega⟩
set_option maxHeartbeats 4000000 in
theorem number_t {s : Rdr} (hsl : s.2.length ≤ 200000000) {n : Nat} (hn : n ≤ 4) {bR : Nat} {sv : Value} {G : PHeap} {H : Heap} {R : Value → PHeap → Heap → Prop} (hs : Sl G byteV sv s.2)
    (hR : ∀ G' sv', PLe G G' → Sep G' (keys ((bR, Res.cells [sv', .bool (numP n s).2.1] [] 43) :: H)) → Sl G' byteV sv' (numP n s).2.2 → R (.int .i64 ((numP n s).1 : Nat)) G' ((bR, .cells [sv', .bool (numP n s).2.1] [] 43) :: H)) :
    FnT Try.prog 13 [.pointer (some ⟨bR, 0, none⟩), .int .i64 (n : Nat)] G ((bR, .cells [sv, .bool s.1] [] 43) :: H) R := by
  refine FnT.body tok [0, 1, 4, 5, 7, 10, 11, 12, 13] Try.func13 rfl (by kernel_rfl) (by kernel_rfl) (by show _ ≤ 23; simp) fun hsep => ?_
  rw [Try.results13]
  have hsE := hsep
  try simp only [keys_cons, keys_app, keys_nil, Sep_cons, Sep_nil, NotIn_cons, NotIn_app, NotIn_nil, List.cons_append, List.nil_append, List.append_assoc, and_assoc, and_true, true_and] at hsE
  repeat (obtain ⟨hsx, hsE⟩ := hsE)
  repeat' first
    | with_reducible refine Br.yes ?_
    | with_reducible refine Br.no ?_
    | with_reducible refine Br.dec (fun _ => ?_) (fun _ => ?_)
    | with_reducible refine Br.beqB (fun _ => ?_) (fun _ => ?_)
    | with_reducible refine Br.beqb (fun _ => ?_) (fun _ => ?_)
    | with_reducible refine Br.mk (fun _ => ?_) (fun _ => ?_)
    | with_reducible refine foundO.mk (fun _ _ => ?_) (fun _ => ?_)
    | with_reducible refine appV.zero ?_
    | with_reducible refine appV.own ?_
    | ((with_reducible refine NewB.mk fun nb hnb => ?_); have hnb1 := hnb.1.1; have hnb2 := hnb.1.2; try simp only [keys_cons, keys_app, keys_nil, NotIn_cons, NotIn_app, NotIn_nil, and_true] at hnb2)
    | ((with_reducible refine NewRow.mk fun nb nsp ncap hnb hncap => ?_); have hnb1 := hnb.1.1; have hnb2 := hnb.1.2; try simp only [keys_cons, keys_app, keys_nil, NotIn_cons, NotIn_app, NotIn_nil, and_true] at hnb2)
    | simp (dsimp := false) (implicitDefEqProofs := false) (disch := first | assumption | (simp only [List.mem_cons, List.mem_append, true_or, or_true, eq_self]; done) | omega | (with_reducible refine Row.adr (by assumption) ?_; simp only [List.length_map, List.length_take, List.length_drop]; omega) | (simp only [List.length_cons, List.length_nil, List.length_map, List.length_append, List.length_replicate, Nat.reduceAdd, true_and, and_true, and_self]; first | done | omega)) only [go_sem, ↓reduceIte, Nat.reduceEqDiff, Nat.reduceAdd, Nat.reduceSub, Nat.reduceMul, Nat.reduceBEq, Nat.reduceLT, Nat.reduceLeDiff, Nat.reduceMod, Nat.reducePow, List.reduceReplicate, UInt8.reduceOfNat, Int.reducePow, Int.reduceDiv, Int.reduceMod, Nat.reduceDiv, Int.reduceNeg, Int.reduceAdd, Int.reduceSub, Int.reduceMul, Int.reduceLE, Int.reduceLT, Int.reduceEq, Int.reduceToNat, reduceCtorEq]
  refine take_t hsl (by omega) hs fun G1 v1 sv1 hle1 hs1 hx hsv1 => ?_
  obtain ⟨x, hxd⟩ : ∃ x, x = (takeP n s).1 := ⟨_, rfl⟩
  have hxl : x.length = n := by rw [hxd]; exact takeP_len n s
  rw [← hxd] at hx
  have hnum : (numP n s).1 = beV x := by rw [hxd]; rfl
  obtain ⟨a, c, rfl, hr, hc⟩ := hx
  have hsE := hs1
  try simp only [keys_cons, keys_app, keys_nil, Sep_cons, Sep_nil, NotIn_cons, NotIn_app, NotIn_nil, List.cons_append, List.nil_append, List.append_assoc, and_assoc, and_true, true_and] at hsE
  repeat (obtain ⟨hsx, hsE⟩ := hsE)
  repeat' first
    | with_reducible refine Br.yes ?_
    | with_reducible refine Br.no ?_
    | with_reducible refine Br.dec (fun _ => ?_) (fun _ => ?_)
    | with_reducible refine Br.beqB (fun _ => ?_) (fun _ => ?_)
    | with_reducible refine Br.beqb (fun _ => ?_) (fun _ => ?_)
    | with_reducible refine Br.mk (fun _ => ?_) (fun _ => ?_)
    | with_reducible refine foundO.mk (fun _ _ => ?_) (fun _ => ?_)
    | with_reducible refine appV.zero ?_
    | with_reducible refine appV.own ?_
    | ((with_reducible refine NewB.mk fun nb hnb => ?_); have hnb1 := hnb.1.1; have hnb2 := hnb.1.2; try simp only [keys_cons, keys_app, keys_nil, NotIn_cons, NotIn_app, NotIn_nil, and_true] at hnb2)
    | ((with_reducible refine NewRow.mk fun nb nsp ncap hnb hncap => ?_); have hnb1 := hnb.1.1; have hnb2 := hnb.1.2; try simp only [keys_cons, keys_app, keys_nil, NotIn_cons, NotIn_app, NotIn_nil, and_true] at hnb2)
    | simp (dsimp := false) (implicitDefEqProofs := false) (disch := first | assumption | (simp only [List.mem_cons, List.mem_append, true_or, or_true, eq_self]; done) | omega | (with_reducible refine Row.adr (by assumption) ?_; simp only [List.length_map, List.length_take, List.length_drop]; omega) | (simp only [List.length_cons, List.length_nil, List.length_map, List.length_append, List.length_replicate, Nat.reduceAdd, true_and, and_true, and_self]; first | done | omega)) only [go_sem, ↓reduceIte, Nat.reduceEqDiff, Nat.reduceAdd, Nat.reduceSub, Nat.reduceMul, Nat.reduceBEq, Nat.reduceLT, Nat.reduceLeDiff, Nat.reduceMod, Nat.reducePow, List.reduceReplicate, UInt8.reduceOfNat, Int.reducePow, Int.reduceDiv, Int.reduceMod, Nat.reduceDiv, Int.reduceNeg, Int.reduceAdd, Int.reduceSub, Int.reduceMul, Int.reduceLE, Int.reduceLT, Int.reduceEq, Int.reduceToNat, reduceCtorEq]
  refine Tri.loopU tok [0, 1, 4, 5, 7, 10, 11, 12, 13] (by kernel_rfl) [4, 5, 10, 11, 12] (fun q G' fr H' => ∃ i : Nat, i + q = x.length ∧ G' = G1 ∧ H' = (bR, .cells [sv1, .bool (takeP n s).2.1] [] 43) :: H ∧ fr = [(4, .int .i64 0), (5, .int .i64 (beV (x.take i) : Nat)), (10, .slice a x.length c), (11, .int .i64 x.length), (12, .int .i64 (i : Nat))]) (x.length) (Upd.now ?_) ?_
  · exact ⟨0, by omega, rfl, rfl, by rw [List.take_zero]; rfl⟩
  · rintro q G2 fr H' hle2 hs2 ⟨i, hiq, rfl, rfl, rfl⟩
    have hsE := hs2
    try simp only [keys_cons, keys_app, keys_nil, Sep_cons, Sep_nil, NotIn_cons, NotIn_app, NotIn_nil, List.cons_append, List.nil_append, List.append_assoc, and_assoc, and_true, true_and] at hsE
    repeat (obtain ⟨hsx, hsE⟩ := hsE)
    by_cases hil : i < x.length
    · have had : Adr a := hr.adr (by rw [List.length_map]; omega)
      have hlt := beV_lt (x.take i)
      have hlt2 : 256 ^ (x.take i).length ≤ 256 ^ 3 := Nat.pow_le_pow_right (by decide) (by rw [List.length_take]; omega)
      have hsn : beV (x.take (i + 1)) = beV (x.take i) * 256 + x[i].toNat := by rw [List.take_succ_eq_append_getElem hil, beV_snoc]
      have hor := or_shift (n := beV (x.take i)) (c := x[i].toNat) (by omega) x[i].toNat_lt
      have hc8 := x[i].toNat_lt
      have hwr : IntKind.i64.wrap ((x[i].toNat : Nat) : Int) = (x[i].toNat : Nat) := wrap_i64 (by omega) (by omega)
      repeat' first
        | with_reducible refine Br.yes ?_
        | with_reducible refine Br.no ?_
        | with_reducible refine Br.dec (fun _ => ?_) (fun _ => ?_)
        | with_reducible refine Br.beqB (fun _ => ?_) (fun _ => ?_)
        | with_reducible refine Br.beqb (fun _ => ?_) (fun _ => ?_)
        | with_reducible refine Br.mk (fun _ => ?_) (fun _ => ?_)
        | with_reducible refine foundO.mk (fun _ _ => ?_) (fun _ => ?_)
        | with_reducible refine appV.zero ?_
        | with_reducible refine appV.own ?_
        | ((with_reducible refine NewB.mk fun nb hnb => ?_); have hnb1 := hnb.1.1; have hnb2 := hnb.1.2; try simp only [keys_cons, keys_app, keys_nil, NotIn_cons, NotIn_app, NotIn_nil, and_true] at hnb2)
        | ((with_reducible refine NewRow.mk fun nb nsp ncap hnb hncap => ?_); have hnb1 := hnb.1.1; have hnb2 := hnb.1.2; try simp only [keys_cons, keys_app, keys_nil, NotIn_cons, NotIn_app, NotIn_nil, and_true] at hnb2)
        | simp (dsimp := false) (implicitDefEqProofs := false) (disch := first | assumption | (simp only [List.mem_cons, List.mem_append, true_or, or_true, eq_self]; done) | omega | (with_reducible refine Row.adr (by assumption) ?_; simp only [List.length_map, List.length_take, List.length_drop]; omega) | (simp only [List.length_cons, List.length_nil, List.length_map, List.length_append, List.length_replicate, Nat.reduceAdd, true_and, and_true, and_self]; first | done | omega)) only [go_sem, ↓reduceIte, Nat.reduceEqDiff, Nat.reduceAdd, Nat.reduceSub, Nat.reduceMul, Nat.reduceBEq, Nat.reduceLT, Nat.reduceLeDiff, Nat.reduceMod, Nat.reducePow, List.reduceReplicate, UInt8.reduceOfNat, Int.reducePow, Int.reduceDiv, Int.reduceMod, Nat.reduceDiv, Int.reduceNeg, Int.reduceAdd, Int.reduceSub, Int.reduceMul, Int.reduceLE, Int.reduceLT, Int.reduceEq, Int.reduceToNat, reduceCtorEq, Row.obj hr, List.getElem_map, byteV, hwr, hor]
      exact Upd.now ⟨q - 1, by omega, i + 1, by omega, rfl, rfl, by rw [hsn]; rfl⟩
    · obtain rfl : i = x.length := by omega
      rw [List.take_length, ← hnum]
      repeat' first
        | with_reducible refine Br.yes ?_
        | with_reducible refine Br.no ?_
        | with_reducible refine Br.dec (fun _ => ?_) (fun _ => ?_)
        | with_reducible refine Br.beqB (fun _ => ?_) (fun _ => ?_)
        | with_reducible refine Br.beqb (fun _ => ?_) (fun _ => ?_)
        | with_reducible refine Br.mk (fun _ => ?_) (fun _ => ?_)
        | with_reducible refine foundO.mk (fun _ _ => ?_) (fun _ => ?_)
        | with_reducible refine appV.zero ?_
        | with_reducible refine appV.own ?_
        | ((with_reducible refine NewB.mk fun nb hnb => ?_); have hnb1 := hnb.1.1; have hnb2 := hnb.1.2; try simp only [keys_cons, keys_app, keys_nil, NotIn_cons, NotIn_app, NotIn_nil, and_true] at hnb2)
        | ((with_reducible refine NewRow.mk fun nb nsp ncap hnb hncap => ?_); have hnb1 := hnb.1.1; have hnb2 := hnb.1.2; try simp only [keys_cons, keys_app, keys_nil, NotIn_cons, NotIn_app, NotIn_nil, and_true] at hnb2)
        | simp (dsimp := false) (implicitDefEqProofs := false) (disch := first | assumption | (simp only [List.mem_cons, List.mem_append, true_or, or_true, eq_self]; done) | omega | (with_reducible refine Row.adr (by assumption) ?_; simp only [List.length_map, List.length_take, List.length_drop]; omega) | (simp only [List.length_cons, List.length_nil, List.length_map, List.length_append, List.length_replicate, Nat.reduceAdd, true_and, and_true, and_self]; first | done | omega)) only [go_sem, ↓reduceIte, Nat.reduceEqDiff, Nat.reduceAdd, Nat.reduceSub, Nat.reduceMul, Nat.reduceBEq, Nat.reduceLT, Nat.reduceLeDiff, Nat.reduceMod, Nat.reducePow, List.reduceReplicate, UInt8.reduceOfNat, Int.reducePow, Int.reduceDiv, Int.reduceMod, Nat.reduceDiv, Int.reduceNeg, Int.reduceAdd, Int.reduceSub, Int.reduceMul, Int.reduceLE, Int.reduceLT, Int.reduceEq, Int.reduceToNat, reduceCtorEq]
      all_goals refine Upd.finL ?_ (hR G2 sv1 hle1 hs1 hsv1) ?_
      any_goals (intro fsum; first | exact Nat.le_refl _ | (simp only [List.map_append, List.map_cons, List.map_nil, List.sum_append, List.sum_cons, List.sum_nil, List.cons_append, List.nil_append]; omega))
      all_goals rfl
end Go.Proofs.Ytomdbjfdbkejoaa
