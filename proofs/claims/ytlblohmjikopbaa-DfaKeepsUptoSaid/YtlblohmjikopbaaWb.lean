/- A walk through states: dfa.walk's function. -/
import Derived.Test.YtlblohmjikopbaaWa
set_option linter.unusedSimpArgs false
set_option linter.unusedVariables false
namespace Go.Proofs.Ytlblohmjikopbaa
open Go Go.V Go.Proofs

theorem calleeWalk1 : V.Callee Try.prog 52 := ⟨_, _, Try.func52, rfl, by kernel_rfl⟩
/-- those that were met -/
def metR (n : Nat) (W : List Int) : List Value := rowV n fun t => decide ((t : Int) ∈ W)
theorem metR_len (n : Nat) (W : List Int) : (metR n W).length = n := rowV_len _ _
theorem metR_put {n : Nat} {W : List Int} {t : Nat} (h : t < n) : splice (metR n W) t [.bool true] = metR n (add1 W t) := by
  unfold metR
  rw [rowV_put _ h]
  refine rowV_congr fun j hj => ?_
  rw [Bool.eq_iff_iff]
  split
  · rename_i e; subst e; simp [mem_add1]
  · rename_i e
    rw [decide_eq_true_eq, decide_eq_true_eq, mem_add1]
    constructor
    · exact .inl
    · rintro (h1 | h1)
      · exact h1
      · omega
theorem metR_get {n : Nat} {W : List Int} {t : Nat} (h : t < n) : (metR n W)[t]? = some (.bool (decide ((t : Int) ∈ W))) := by unfold metR; rw [rowV_get? _ h]
theorem metR_zero (n : Nat) : metR n [] = List.replicate n (.bool false) := by
  unfold metR rowV
  apply List.ext_getElem
  · simp
  · intro i h1 h2; simp
theorem metR_addN (n : Nat) {V W : List Int} (h : ∀ x, x ∈ V ↔ x ∈ W) : metR n V = metR n W := rowV_congr fun t _ => by simp [h]
theorem sep_app {G : PHeap} {A B : Heap} {b : Nat} (h : Sep G (keys (A ++ B))) (hb : b ∈ keys B) : NotIn b (keys A) := by
  have h1 := (sep_iff.1 h).2
  rw [keys_app, List.nodup_append] at h1
  exact notIn_iff.2 fun ha => h1.2.2 b ha b hb rfl
theorem sep_find {G : PHeap} {H : Heap} {b : Nat} {r : Res} (h : Sep G (keys H)) (hf : findH H b = some r) : G b = none :=
  (sep_iff.1 h).1 b (List.mem_map.2 ⟨_, findH_mem hf, rfl⟩)
theorem find_sep {G : PHeap} {x : Nat × Res} {H : Heap} {b : Nat} {r : Res} (hs : Sep G (keys (x :: H))) (h : findH H b = some r) : findH (x :: H) b = some r := by
  have h1 : NotIn x.1 (keys H) := hs.1.2
  have h2 := NotIn.neFind h1 h
  obtain ⟨k, q⟩ := x
  exact (findH_ne h2 q H).trans h
theorem sep_turn {G : PHeap} {x1 x2 x3 x4 x5 : Nat × Res} {H : Heap} (h : Sep G (keys (x1 :: x2 :: x3 :: x4 :: x5 :: H))) : Sep G (keys (H ++ [x1, x2, x3, x4, x5])) := by
  rw [sep_iff] at h ⊢
  have hp : List.Perm (keys (H ++ [x1, x2, x3, x4, x5])) (keys (x1 :: x2 :: x3 :: x4 :: x5 :: H)) := by
    unfold keys
    exact (List.perm_append_comm (l₁ := H) (l₂ := [x1, x2, x3, x4, x5])).map _
  exact ⟨fun b hb => h.1 b (hp.mem_iff.1 hb), hp.nodup_iff.2 h.2⟩
theorem sep_turn' {G : PHeap} {x1 x2 x3 x4 x5 : Nat × Res} {H : Heap} (h : Sep G (keys (H ++ [x1, x2, x3, x4, x5]))) : Sep G (keys (x1 :: x2 :: x3 :: x4 :: x5 :: H)) := by
  rw [sep_iff] at h ⊢
  have hp : List.Perm (keys (H ++ [x1, x2, x3, x4, x5])) (keys (x1 :: x2 :: x3 :: x4 :: x5 :: H)) := by
    unfold keys
    exact (List.perm_append_comm (l₁ := H) (l₂ := [x1, x2, x3, x4, x5])).map _
  exact ⟨fun b hb => h.1 b (hp.mem_iff.2 hb), hp.nodup_iff.1 h.2⟩
set_option maxHeartbeats 16000000 in
set_option maxRecDepth 4000 in
theorem walk1_t (lr b1 b2 b3 bx : Nat) {n : Nat} (hn : n ≤ 65536) {W0 : List Int} (hW : OnceN n W0) {on : Int → List Int} (hon : ∀ s : Int, 0 ≤ s → s < n → ∀ t ∈ on s, 0 ≤ t ∧ t < n) (hol : ∀ s : Int, 0 ≤ s → s < n → (on s).length ≤ 20000000)
    {fid : FuncId} {XC : List Value} {tyX : TypeId} {G : PHeap}
    (hOn : ∀ (s : Int) (G1 : PHeap) (H1 : Heap) (R1 : Value → PHeap → Heap → Prop), PLe G G1 → 0 ≤ s → s < n → G1 bx = none → findH H1 bx = some (.cells XC [] tyX) → (∀ v, Sl G1 (Value.int .i64) v (on s) → R1 v G1 H1) → FnT Try.prog fid [.int .i64 s, .pointer (some ⟨bx, 0, none⟩)] G1 H1 R1)
    {v0 : Value} (hv0 : Sl G (Value.int .i64) v0 W0) {HC : Heap} {R : Value → PHeap → Heap → Prop}
    (J Jx : Nat → PHeap → Heap → Prop) (hJ : ∀ i G1 G2 H1, PLe G1 G2 → J i G1 H1 → J i G2 H1) (hX : ∀ i G1 H1, Sep G1 (keys H1) → J i G1 H1 → findH H1 bx = some (.cells XC [] tyX))
    (hY : ∀ i G1 H1 HW (hi : i < (bw on W0 i).length), PLe G G1 → Sep G1 (keys (H1 ++ HW)) → J i G1 H1 → YldT Try.prog lr [.int .i64 (bw on W0 i)[i]] G1 (H1 ++ HW) fun w G2 H2 => ∃ H3, H2 = H3 ++ HW ∧ ((w = .bool true ∧ J (i + 1) G2 H3) ∨ (w = .bool false ∧ Jx i G2 H3)))
    (h0 : J 0 G HC)
    (hR : ∀ G' H', PLe G G' → Sep G' (keys H') → ((∃ i, i = (bw on W0 i).length ∧ J i G' H') ∨ ∃ i, Jx i G' H') → R (.tuple #[]) G' H') :
    FnT Try.prog 52 [.func (.yield lr) #[] #[], .pointer (some ⟨b1, 0, none⟩), .pointer (some ⟨b2, 0, none⟩), .pointer (some ⟨b3, 0, none⟩)] G
      ((b3, .cells [.func (.func fid) #[] #[.pointer (some ⟨bx, 0, none⟩)]] [] 51) :: (b2, .cells [v0] [] 24) :: (b1, .cells [.int .i64 (n : Nat)] [] 3) :: HC) R := by
  obtain ⟨a0, c0, rfl, hrow0, hcap0⟩ := id hv0
  have hW0 := hW.len
  refine FnT.body tok [0, 1, 2, 3, 5, 6, 8, 9, 11, 16, 17, 18, 19, 29, 38, 44, 45, 46, 47, 53] Try.func52 rfl (by kernel_rfl) (by kernel_rfl) (by show _ ≤ 62; simp) fun hsep => ?_
  rw [Try.results52]
  have hsE := hsep
  try simp only [keys_cons, keys_app, keys_nil, Sep_cons, Sep_nil, NotIn_cons, NotIn_app, NotIn_nil, List.cons_append, List.nil_append, List.append_assoc, and_assoc, and_true, true_and] at hsE
  repeat (obtain ⟨hsx, hsE⟩ := hsE)
  repeat' first
    | with_reducible refine Br.yes ?_
    | with_reducible refine Br.no ?_
    | with_reducible refine Br.dec (fun _ => ?_) (fun _ => ?_)
    | with_reducible refine Br.beqB (fun _ => ?_) (fun _ => ?_)
    | with_reducible refine Br.beqb (fun _ => ?_) (fun _ => ?_)
    | with_reducible refine Br.mk (fun _ => ?_) (fun _ => ?_)
    | with_reducible refine foundO.mk (fun _ _ => ?_) (fun _ => ?_)
    | with_reducible refine appV.zero ?_
    | with_reducible refine appV.own ?_
    | ((with_reducible refine NewB.mk fun nb hnb => ?_); have hnb1 := hnb.1.1; have hnb2 := hnb.1.2; try simp only [keys_cons, keys_app, keys_nil, NotIn_cons, NotIn_app, NotIn_nil, and_true] at hnb2)
    | ((with_reducible refine NewRow.mk fun nb nsp ncap hnb hncap => ?_); have hnb1 := hnb.1.1; have hnb2 := hnb.1.2; try simp only [keys_cons, keys_app, keys_nil, NotIn_cons, NotIn_app, NotIn_nil, and_true] at hnb2)
    | simp (dsimp := false) (implicitDefEqProofs := false) (disch := first | assumption | (simp only [List.mem_cons, List.mem_append, true_or, or_true, eq_self]; done) | omega | (with_reducible refine Row.adr (by assumption) ?_; simp only [List.length_map, List.length_take, List.length_drop]; omega) | (simp only [List.length_cons, List.length_nil, List.length_map, List.length_append, List.length_replicate, Nat.reduceAdd, true_and, and_true, and_self]; first | done | omega)) only [go_sem, ↓reduceIte, Nat.reduceEqDiff, Nat.reduceAdd, Nat.reduceSub, Nat.reduceMul, Nat.reduceBEq, Nat.reduceLT, Nat.reduceLeDiff, Nat.reduceMod, Nat.reducePow, List.reduceReplicate, UInt8.reduceOfNat, Int.reducePow, Int.reduceDiv, Int.reduceMod, Nat.reduceDiv, Int.reduceNeg, Int.reduceAdd, Int.reduceSub, Int.reduceMul, Int.reduceLE, Int.reduceLT, Int.reduceEq, Int.reduceToNat, reduceCtorEq, -List.reduceReplicate, Nat.sub_self, List.replicate_zero]
  obtain ⟨bt, e0⟩ : ∃ x, x = nb := ⟨_, rfl⟩
  subst e0
  refine clonei_t W0 (by omega) hv0 fun v kb hsk hkb => ?_
  have hn1 : NotIn bt (keys kb) := sep_app hsk (by simp [keys])
  have hn2 : NotIn b3 (keys kb) := sep_app hsk (by simp [keys])
  have hn3 : NotIn b2 (keys kb) := sep_app hsk (by simp [keys])
  have hn4 : NotIn b1 (keys kb) := sep_app hsk (by simp [keys])
  repeat' first
    | with_reducible refine Br.yes ?_
    | with_reducible refine Br.no ?_
    | with_reducible refine Br.dec (fun _ => ?_) (fun _ => ?_)
    | with_reducible refine Br.beqB (fun _ => ?_) (fun _ => ?_)
    | with_reducible refine Br.beqb (fun _ => ?_) (fun _ => ?_)
    | with_reducible refine Br.mk (fun _ => ?_) (fun _ => ?_)
    | with_reducible refine foundO.mk (fun _ _ => ?_) (fun _ => ?_)
    | with_reducible refine appV.zero ?_
    | with_reducible refine appV.own ?_
    | ((with_reducible refine NewB.mk fun nb hnb => ?_); have hnb1 := hnb.1.1; have hnb2 := hnb.1.2; try simp only [keys_cons, keys_app, keys_nil, NotIn_cons, NotIn_app, NotIn_nil, and_true] at hnb2)
    | ((with_reducible refine NewRow.mk fun nb nsp ncap hnb hncap => ?_); have hnb1 := hnb.1.1; have hnb2 := hnb.1.2; try simp only [keys_cons, keys_app, keys_nil, NotIn_cons, NotIn_app, NotIn_nil, and_true] at hnb2)
    | simp (dsimp := false) (implicitDefEqProofs := false) (disch := first | assumption | (simp only [List.mem_cons, List.mem_append, true_or, or_true, eq_self]; done) | omega | (with_reducible refine Row.adr (by assumption) ?_; simp only [List.length_map, List.length_take, List.length_drop]; omega) | (simp only [List.length_cons, List.length_nil, List.length_map, List.length_append, List.length_replicate, Nat.reduceAdd, true_and, and_true, and_self]; first | done | omega)) only [go_sem, ↓reduceIte, Nat.reduceEqDiff, Nat.reduceAdd, Nat.reduceSub, Nat.reduceMul, Nat.reduceBEq, Nat.reduceLT, Nat.reduceLeDiff, Nat.reduceMod, Nat.reducePow, List.reduceReplicate, UInt8.reduceOfNat, Int.reducePow, Int.reduceDiv, Int.reduceMod, Nat.reduceDiv, Int.reduceNeg, Int.reduceAdd, Int.reduceSub, Int.reduceMul, Int.reduceLE, Int.reduceLT, Int.reduceEq, Int.reduceToNat, reduceCtorEq]
  refine Tri.loopU tok [0, 1, 2, 3, 5, 6, 8, 9, 11, 16, 17, 18, 19, 29, 38, 44, 45, 46, 47, 53] (by kernel_rfl) [0, 1, 2, 3, 5, 6, 16, 17, 18] (fun q G' fr H' => ∃ i : Nat, i + q = W0.length ∧ G' = G ∧ H' = (bt, .cells (metR n (W0.take i)) [] 4) :: (b3, .cells [.func (.func fid) #[] #[.pointer (some ⟨bx, 0, none⟩)]] [] 51) :: (b2, .cells [.slice a0 W0.length c0] [] 24) :: (b1, .cells [.int .i64 (n : Nat)] [] 3) :: (kb ++ HC) ∧ fr = [(0, .func (.yield lr) #[] #[]), (1, .pointer (some ⟨b1, 0, none⟩)), (2, .pointer (some ⟨b2, 0, none⟩)), (3, .pointer (some ⟨b3, 0, none⟩)), (5, .slice (some ⟨bt, 0, none⟩) n n), (6, v), (16, .slice a0 W0.length c0), (17, .int .i64 W0.length), (18, .int .i64 (i : Nat))]) (W0.length) ?_ ?_
  · rw [← metR_zero]
    exact Upd.go (H' := (bt, .cells (metR n []) [] 4) :: (b3, .cells [.func (.func fid) #[] #[.pointer (some ⟨bx, 0, none⟩)]] [] 51) :: (b2, .cells [.slice a0 W0.length c0] [] 24) :: (b1, .cells [.int .i64 (n : Nat)] [] 3) :: (kb ++ HC)) (by intro fsum; first | exact Nat.le_refl _ | (simp only [List.map_append, List.map_cons, List.map_nil, List.sum_append, List.sum_cons, List.sum_nil, List.cons_append, List.nil_append]; omega)) (Upd.now ⟨0, by omega, rfl, by rw [List.take_zero], rfl⟩)
  · rintro q G1 fr H' hle hs1 ⟨i, hiq, rfl, rfl, rfl⟩
    by_cases hil : i < W0.length
    · have had : Adr a0 := hrow0.adr (by rw [List.length_map]; omega)
      have hx := hW.2 _ (List.getElem_mem hil)
      obtain ⟨t, ht⟩ := Int.eq_ofNat_of_zero_le hx.1
      have htn : t < n := by omega
      have hml := metR_len n (W0.take i)
      have hput : splice (metR n (W0.take i)) t [.bool true] = metR n (W0.take (i + 1)) := by
        rw [metR_put htn, ← ht]
        exact metR_addN n fun x => by rw [mem_add1, List.take_succ_eq_append_getElem hil, List.mem_append, List.mem_singleton]
      repeat' first
        | with_reducible refine Br.yes ?_
        | with_reducible refine Br.no ?_
        | with_reducible refine Br.dec (fun _ => ?_) (fun _ => ?_)
        | with_reducible refine Br.beqB (fun _ => ?_) (fun _ => ?_)
        | with_reducible refine Br.beqb (fun _ => ?_) (fun _ => ?_)
        | with_reducible refine Br.mk (fun _ => ?_) (fun _ => ?_)
        | with_reducible refine foundO.mk (fun _ _ => ?_) (fun _ => ?_)
        | with_reducible refine appV.zero ?_
        | with_reducible refine appV.own ?_
        | ((with_reducible refine NewB.mk fun nb hnb => ?_); have hnb1 := hnb.1.1; have hnb2 := hnb.1.2; try simp only [keys_cons, keys_app, keys_nil, NotIn_cons, NotIn_app, NotIn_nil, and_true] at hnb2)
        | ((with_reducible refine NewRow.mk fun nb nsp ncap hnb hncap => ?_); have hnb1 := hnb.1.1; have hnb2 := hnb.1.2; try simp only [keys_cons, keys_app, keys_nil, NotIn_cons, NotIn_app, NotIn_nil, and_true] at hnb2)
        | simp (dsimp := false) (implicitDefEqProofs := false) (disch := first | assumption | (simp only [List.mem_cons, List.mem_append, true_or, or_true, eq_self]; done) | omega | (with_reducible refine Row.adr (by assumption) ?_; simp only [List.length_map, List.length_take, List.length_drop]; omega) | (simp only [List.length_cons, List.length_nil, List.length_map, List.length_append, List.length_replicate, Nat.reduceAdd, true_and, and_true, and_self]; first | done | omega)) only [go_sem, ↓reduceIte, Nat.reduceEqDiff, Nat.reduceAdd, Nat.reduceSub, Nat.reduceMul, Nat.reduceBEq, Nat.reduceLT, Nat.reduceLeDiff, Nat.reduceMod, Nat.reducePow, List.reduceReplicate, UInt8.reduceOfNat, Int.reducePow, Int.reduceDiv, Int.reduceMod, Nat.reduceDiv, Int.reduceNeg, Int.reduceAdd, Int.reduceSub, Int.reduceMul, Int.reduceLE, Int.reduceLT, Int.reduceEq, Int.reduceToNat, reduceCtorEq, Row.obj hrow0, List.getElem_map, ht, hput]
      exact Upd.now ⟨q - 1, by omega, i + 1, by omega, rfl, rfl, rfl⟩
    · obtain rfl : i = W0.length := by omega
      rw [List.take_length] at hs1 ⊢
      repeat' first
        | with_reducible refine Br.yes ?_
        | with_reducible refine Br.no ?_
        | with_reducible refine Br.dec (fun _ => ?_) (fun _ => ?_)
        | with_reducible refine Br.beqB (fun _ => ?_) (fun _ => ?_)
        | with_reducible refine Br.beqb (fun _ => ?_) (fun _ => ?_)
        | with_reducible refine Br.mk (fun _ => ?_) (fun _ => ?_)
        | with_reducible refine foundO.mk (fun _ _ => ?_) (fun _ => ?_)
        | with_reducible refine appV.zero ?_
        | with_reducible refine appV.own ?_
        | ((with_reducible refine NewB.mk fun nb hnb => ?_); have hnb1 := hnb.1.1; have hnb2 := hnb.1.2; try simp only [keys_cons, keys_app, keys_nil, NotIn_cons, NotIn_app, NotIn_nil, and_true] at hnb2)
        | ((with_reducible refine NewRow.mk fun nb nsp ncap hnb hncap => ?_); have hnb1 := hnb.1.1; have hnb2 := hnb.1.2; try simp only [keys_cons, keys_app, keys_nil, NotIn_cons, NotIn_app, NotIn_nil, and_true] at hnb2)
        | simp (dsimp := false) (implicitDefEqProofs := false) (disch := first | assumption | (simp only [List.mem_cons, List.mem_append, true_or, or_true, eq_self]; done) | omega | (with_reducible refine Row.adr (by assumption) ?_; simp only [List.length_map, List.length_take, List.length_drop]; omega) | (simp only [List.length_cons, List.length_nil, List.length_map, List.length_append, List.length_replicate, Nat.reduceAdd, true_and, and_true, and_self]; first | done | omega)) only [go_sem, ↓reduceIte, Nat.reduceEqDiff, Nat.reduceAdd, Nat.reduceSub, Nat.reduceMul, Nat.reduceBEq, Nat.reduceLT, Nat.reduceLeDiff, Nat.reduceMod, Nat.reducePow, List.reduceReplicate, UInt8.reduceOfNat, Int.reducePow, Int.reduceDiv, Int.reduceMod, Nat.reduceDiv, Int.reduceNeg, Int.reduceAdd, Int.reduceSub, Int.reduceMul, Int.reduceLE, Int.reduceLT, Int.reduceEq, Int.reduceToNat, reduceCtorEq]
      refine Tri.loopU tok [0, 1, 2, 3, 5, 6, 8, 9, 11, 16, 17, 18, 19, 29, 38, 44, 45, 46, 47, 53] (by kernel_rfl) [0, 1, 2, 3, 5, 6, 9] (fun q G' fr H' => ∃ (i : Nat) (v : Value) (kb H1 : Heap), i + q = n ∧ i ≤ (bw on W0 i).length ∧ PLe G1 G' ∧ SliceO [] 3 1 v (bw on W0 i).length ((bw on W0 i).map (Value.int .i64)) kb ∧ J i G' H1 ∧ H' = (bt, .cells (metR n (bw on W0 i)) [] 4) :: (b3, .cells [.func (.func fid) #[] #[.pointer (some ⟨bx, 0, none⟩)]] [] 51) :: (b2, .cells [.slice a0 W0.length c0] [] 24) :: (b1, .cells [.int .i64 (n : Nat)] [] 3) :: (kb ++ H1) ∧ fr = [(0, .func (.yield lr) #[] #[]), (1, .pointer (some ⟨b1, 0, none⟩)), (2, .pointer (some ⟨b2, 0, none⟩)), (3, .pointer (some ⟨b3, 0, none⟩)), (5, .slice (some ⟨bt, 0, none⟩) n n), (6, v), (9, .int .i64 (i : Nat))]) (n) ?_ ?_
      · exact Upd.now ⟨0, v, kb, HC, by omega, Nat.zero_le _, PLe.refl _, hkb, h0, rfl, rfl⟩
      · rintro q G2 fr H' hle2 hs2 ⟨i, v, kb, H1, hiq, hil, hleG, hkb, hJi, rfl, rfl⟩
        have hO := bw_once hW hon i
        have hOl := hO.len
        rcases hkb with ⟨a, rfl, hz, hz2, rfl⟩ | ⟨bk, ck, sk, rfl, rfl, hkl, hkc⟩
        · repeat' first
            | with_reducible refine Br.yes ?_
            | with_reducible refine Br.no ?_
            | with_reducible refine Br.dec (fun _ => ?_) (fun _ => ?_)
            | with_reducible refine Br.beqB (fun _ => ?_) (fun _ => ?_)
            | with_reducible refine Br.beqb (fun _ => ?_) (fun _ => ?_)
            | with_reducible refine Br.mk (fun _ => ?_) (fun _ => ?_)
            | with_reducible refine foundO.mk (fun _ _ => ?_) (fun _ => ?_)
            | with_reducible refine appV.zero ?_
            | with_reducible refine appV.own ?_
            | ((with_reducible refine NewB.mk fun nb hnb => ?_); have hnb1 := hnb.1.1; have hnb2 := hnb.1.2; try simp only [keys_cons, keys_app, keys_nil, NotIn_cons, NotIn_app, NotIn_nil, and_true] at hnb2)
            | ((with_reducible refine NewRow.mk fun nb nsp ncap hnb hncap => ?_); have hnb1 := hnb.1.1; have hnb2 := hnb.1.2; try simp only [keys_cons, keys_app, keys_nil, NotIn_cons, NotIn_app, NotIn_nil, and_true] at hnb2)
            | simp (dsimp := false) (implicitDefEqProofs := false) (disch := first | assumption | (simp only [List.mem_cons, List.mem_append, true_or, or_true, eq_self]; done) | omega | (with_reducible refine Row.adr (by assumption) ?_; simp only [List.length_map, List.length_take, List.length_drop]; omega) | (simp only [List.length_cons, List.length_nil, List.length_map, List.length_append, List.length_replicate, Nat.reduceAdd, true_and, and_true, and_self]; first | done | omega)) only [go_sem, ↓reduceIte, Nat.reduceEqDiff, Nat.reduceAdd, Nat.reduceSub, Nat.reduceMul, Nat.reduceBEq, Nat.reduceLT, Nat.reduceLeDiff, Nat.reduceMod, Nat.reducePow, List.reduceReplicate, UInt8.reduceOfNat, Int.reducePow, Int.reduceDiv, Int.reduceMod, Nat.reduceDiv, Int.reduceNeg, Int.reduceAdd, Int.reduceSub, Int.reduceMul, Int.reduceLE, Int.reduceLT, Int.reduceEq, Int.reduceToNat, reduceCtorEq]
          all_goals try (exfalso; omega)
          unfold UpdR
          exact Upd.go (H' := H1) (by intro fsum; first | exact Nat.le_refl _ | (simp only [List.map_append, List.map_cons, List.map_nil, List.sum_append, List.sum_cons, List.sum_nil, List.cons_append, List.nil_append]; omega)) (Upd.now (hR G2 H1 hleG (Sep.suf (H := [(bt, .cells (metR n (bw on W0 i)) [] 4), (b3, .cells [.func (.func fid) #[] #[.pointer (some ⟨bx, 0, none⟩)]] [] 51), (b2, .cells [.slice a0 W0.length c0] [] 24), (b1, .cells [.int .i64 (n : Nat)] [] 3)]) hs2) (.inl ⟨i, by omega, hJi⟩)))
        · rw [List.length_map] at hkl hkc
          have hsE := hs2
          try simp only [keys_cons, keys_app, keys_nil, Sep_cons, Sep_nil, NotIn_cons, NotIn_app, NotIn_nil, List.cons_append, List.nil_append, List.append_assoc, and_assoc, and_true, true_and] at hsE
          repeat (obtain ⟨hsx, hsE⟩ := hsE)
          by_cases hi : i < (bw on W0 i).length
          · have hx := hO.2 _ (List.getElem_mem hi)
            have hsucc := bw_succ hi
            repeat' first
              | with_reducible refine Br.yes ?_
              | with_reducible refine Br.no ?_
              | with_reducible refine Br.dec (fun _ => ?_) (fun _ => ?_)
              | with_reducible refine Br.beqB (fun _ => ?_) (fun _ => ?_)
              | with_reducible refine Br.beqb (fun _ => ?_) (fun _ => ?_)
              | with_reducible refine Br.mk (fun _ => ?_) (fun _ => ?_)
              | with_reducible refine foundO.mk (fun _ _ => ?_) (fun _ => ?_)
              | with_reducible refine appV.zero ?_
              | with_reducible refine appV.own ?_
              | ((with_reducible refine NewB.mk fun nb hnb => ?_); have hnb1 := hnb.1.1; have hnb2 := hnb.1.2; try simp only [keys_cons, keys_app, keys_nil, NotIn_cons, NotIn_app, NotIn_nil, and_true] at hnb2)
              | ((with_reducible refine NewRow.mk fun nb nsp ncap hnb hncap => ?_); have hnb1 := hnb.1.1; have hnb2 := hnb.1.2; try simp only [keys_cons, keys_app, keys_nil, NotIn_cons, NotIn_app, NotIn_nil, and_true] at hnb2)
              | simp (dsimp := false) (implicitDefEqProofs := false) (disch := first | assumption | (simp only [List.mem_cons, List.mem_append, true_or, or_true, eq_self]; done) | omega | (with_reducible refine Row.adr (by assumption) ?_; simp only [List.length_map, List.length_take, List.length_drop]; omega) | (simp only [List.length_cons, List.length_nil, List.length_map, List.length_append, List.length_replicate, Nat.reduceAdd, true_and, and_true, and_self]; first | done | omega)) only [go_sem, ↓reduceIte, Nat.reduceEqDiff, Nat.reduceAdd, Nat.reduceSub, Nat.reduceMul, Nat.reduceBEq, Nat.reduceLT, Nat.reduceLeDiff, Nat.reduceMod, Nat.reducePow, List.reduceReplicate, UInt8.reduceOfNat, Int.reducePow, Int.reduceDiv, Int.reduceMod, Nat.reduceDiv, Int.reduceNeg, Int.reduceAdd, Int.reduceSub, Int.reduceMul, Int.reduceLE, Int.reduceLT, Int.reduceEq, Int.reduceToNat, reduceCtorEq, List.getElem_append_left, List.getElem_map]
            refine YldT.upd (YldT.leave (H' := H1 ++ [(bt, .cells (metR n (bw on W0 i)) [] 4), (b3, .cells [.func (.func fid) #[] #[.pointer (some ⟨bx, 0, none⟩)]] [] 51), (b2, .cells [.slice a0 W0.length c0] [] 24), (b1, .cells [.int .i64 (n : Nat)] [] 3), (bk, .cells ((bw on W0 i).map (Value.int .i64)) sk 3)]) ?_ (by intro fsum; first | exact Nat.le_refl _ | (simp only [List.map_append, List.map_cons, List.map_nil, List.sum_append, List.sum_cons, List.sum_nil, List.cons_append, List.nil_append]; omega)))
            have hs3 := sep_turn hs2
            refine YldT.mono (hY i G2 H1 _ hi hleG hs3 hJi) ?_
            rintro w G3 _ hle3 hs4 ⟨H3, rfl, hw⟩
            refine Upd.go (H' := (bt, .cells (metR n (bw on W0 i)) [] 4) :: (b3, .cells [.func (.func fid) #[] #[.pointer (some ⟨bx, 0, none⟩)]] [] 51) :: (b2, .cells [.slice a0 W0.length c0] [] 24) :: (b1, .cells [.int .i64 (n : Nat)] [] 3) :: (bk, .cells ((bw on W0 i).map (Value.int .i64)) sk 3) :: H3) (by intro fsum; first | exact Nat.le_refl _ | (simp only [List.map_append, List.map_cons, List.map_nil, List.sum_append, List.sum_cons, List.sum_nil, List.cons_append, List.nil_append]; omega)) (Upd.now ?_)
            have hs5 := sep_turn' hs4
            have hsE := hs5
            try simp only [keys_cons, keys_app, keys_nil, Sep_cons, Sep_nil, NotIn_cons, NotIn_app, NotIn_nil, List.cons_append, List.nil_append, List.append_assoc, and_assoc, and_true, true_and] at hsE
            repeat (obtain ⟨hsx, hsE⟩ := hsE)
            rcases hw with ⟨rfl, hJ3⟩ | ⟨rfl, hJ3⟩
            · have hfx3 := hX _ G3 H3 hs5.2.2.2.2.2 hJ3
              repeat' first
                | with_reducible refine Br.yes ?_
                | with_reducible refine Br.no ?_
                | with_reducible refine Br.dec (fun _ => ?_) (fun _ => ?_)
                | with_reducible refine Br.beqB (fun _ => ?_) (fun _ => ?_)
                | with_reducible refine Br.beqb (fun _ => ?_) (fun _ => ?_)
                | with_reducible refine Br.mk (fun _ => ?_) (fun _ => ?_)
                | with_reducible refine foundO.mk (fun _ _ => ?_) (fun _ => ?_)
                | with_reducible refine appV.zero ?_
                | with_reducible refine appV.own ?_
                | ((with_reducible refine NewB.mk fun nb hnb => ?_); have hnb1 := hnb.1.1; have hnb2 := hnb.1.2; try simp only [keys_cons, keys_app, keys_nil, NotIn_cons, NotIn_app, NotIn_nil, and_true] at hnb2)
                | ((with_reducible refine NewRow.mk fun nb nsp ncap hnb hncap => ?_); have hnb1 := hnb.1.1; have hnb2 := hnb.1.2; try simp only [keys_cons, keys_app, keys_nil, NotIn_cons, NotIn_app, NotIn_nil, and_true] at hnb2)
                | simp (dsimp := false) (implicitDefEqProofs := false) (disch := first | assumption | (simp only [List.mem_cons, List.mem_append, true_or, or_true, eq_self]; done) | omega | (with_reducible refine Row.adr (by assumption) ?_; simp only [List.length_map, List.length_take, List.length_drop]; omega) | (simp only [List.length_cons, List.length_nil, List.length_map, List.length_append, List.length_replicate, Nat.reduceAdd, true_and, and_true, and_self]; first | done | omega)) only [go_sem, ↓reduceIte, Nat.reduceEqDiff, Nat.reduceAdd, Nat.reduceSub, Nat.reduceMul, Nat.reduceBEq, Nat.reduceLT, Nat.reduceLeDiff, Nat.reduceMod, Nat.reducePow, List.reduceReplicate, UInt8.reduceOfNat, Int.reducePow, Int.reduceDiv, Int.reduceMod, Nat.reduceDiv, Int.reduceNeg, Int.reduceAdd, Int.reduceSub, Int.reduceMul, Int.reduceLE, Int.reduceLT, Int.reduceEq, Int.reduceToNat, reduceCtorEq, List.getElem_append_left, List.getElem_map]
                | with_reducible refine Tri.drawS tok mixed [0, 1, 2, 3, 5, 6, 8, 9, 11, 16, 17, 18, 19, 29, 38, 44, 45, 46, 47, 53] 11 [0, 4] (.op 0 .held (.op 1 .plain (.op 2 .plain (.op 3 .plain (.op 4 .held (.op 7 .plain (.op 5 .plain (.op 6 .plain .nil)))))))) (by kernel_rfl) [(b3, .cells [.func (.func fid) #[] #[.pointer (some ⟨bx, 0, none⟩)]] [] 51), (bk, .cells ((bw on W0 i).map (Value.int .i64)) sk 3)] (by intro fsum; first | exact Nat.le_refl _ | (simp only [List.map_append, List.map_cons, List.map_nil, List.sum_append, List.sum_cons, List.sum_nil, List.cons_append, List.nil_append]; omega)) ?_
              have hfx5 := find_sep hs5 (find_sep hs5.2 (find_sep hs5.2.2 (find_sep hs5.2.2.2 (find_sep hs5.2.2.2.2 hfx3))))
              have hxb := sep_find hs5 hfx5
              refine hOn _ G3 _ _ (hleG.trans hle3) hx.1 hx.2 hxb hfx5 fun v' hv' => ?_
              obtain ⟨ao, co, rfl, hro, hco⟩ := hv'
              have honl := hol _ hx.1 hx.2
              have honr := hon _ hx.1 hx.2
              repeat' first
                | with_reducible refine Br.yes ?_
                | with_reducible refine Br.no ?_
                | with_reducible refine Br.dec (fun _ => ?_) (fun _ => ?_)
                | with_reducible refine Br.beqB (fun _ => ?_) (fun _ => ?_)
                | with_reducible refine Br.beqb (fun _ => ?_) (fun _ => ?_)
                | with_reducible refine Br.mk (fun _ => ?_) (fun _ => ?_)
                | with_reducible refine foundO.mk (fun _ _ => ?_) (fun _ => ?_)
                | with_reducible refine appV.zero ?_
                | with_reducible refine appV.own ?_
                | ((with_reducible refine NewB.mk fun nb hnb => ?_); have hnb1 := hnb.1.1; have hnb2 := hnb.1.2; try simp only [keys_cons, keys_app, keys_nil, NotIn_cons, NotIn_app, NotIn_nil, and_true] at hnb2)
                | ((with_reducible refine NewRow.mk fun nb nsp ncap hnb hncap => ?_); have hnb1 := hnb.1.1; have hnb2 := hnb.1.2; try simp only [keys_cons, keys_app, keys_nil, NotIn_cons, NotIn_app, NotIn_nil, and_true] at hnb2)
                | simp (dsimp := false) (implicitDefEqProofs := false) (disch := first | assumption | (simp only [List.mem_cons, List.mem_append, true_or, or_true, eq_self]; done) | omega | (with_reducible refine Row.adr (by assumption) ?_; simp only [List.length_map, List.length_take, List.length_drop]; omega) | (simp only [List.length_cons, List.length_nil, List.length_map, List.length_append, List.length_replicate, Nat.reduceAdd, true_and, and_true, and_self]; first | done | omega)) only [go_sem, ↓reduceIte, Nat.reduceEqDiff, Nat.reduceAdd, Nat.reduceSub, Nat.reduceMul, Nat.reduceBEq, Nat.reduceLT, Nat.reduceLeDiff, Nat.reduceMod, Nat.reducePow, List.reduceReplicate, UInt8.reduceOfNat, Int.reducePow, Int.reduceDiv, Int.reduceMod, Nat.reduceDiv, Int.reduceNeg, Int.reduceAdd, Int.reduceSub, Int.reduceMul, Int.reduceLE, Int.reduceLT, Int.reduceEq, Int.reduceToNat, reduceCtorEq]
              generalize hos : on (bw on W0 i)[i] = os at *
              refine Tri.loopU tok [0, 1, 2, 3, 5, 6, 8, 9, 11, 16, 17, 18, 19, 29, 38, 44, 45, 46, 47, 53] (by kernel_rfl) [0, 1, 2, 3, 5, 6, 9, 44, 45, 46] (fun q' G' fr H' => ∃ (k : Nat) (v : Value) (kb : Heap), k + q' = os.length ∧ G' = G3 ∧ SliceO [] 3 1 v (addN (bw on W0 i) (os.take k)).length ((addN (bw on W0 i) (os.take k)).map (Value.int .i64)) kb ∧ H' = (bt, .cells (metR n (addN (bw on W0 i) (os.take k))) [] 4) :: (b3, .cells [.func (.func fid) #[] #[.pointer (some ⟨bx, 0, none⟩)]] [] 51) :: (b2, .cells [.slice a0 W0.length c0] [] 24) :: (b1, .cells [.int .i64 (n : Nat)] [] 3) :: (kb ++ H3) ∧ fr = [(0, .func (.yield lr) #[] #[]), (1, .pointer (some ⟨b1, 0, none⟩)), (2, .pointer (some ⟨b2, 0, none⟩)), (3, .pointer (some ⟨b3, 0, none⟩)), (5, .slice (some ⟨bt, 0, none⟩) n n), (6, v), (9, .int .i64 (i : Nat)), (44, .slice ao os.length co), (45, .int .i64 os.length), (46, .int .i64 (k : Nat))]) (os.length) ?_ ?_
              · exact Upd.now ⟨0, _, [(bk, .cells ((bw on W0 i).map (Value.int .i64)) sk 3)], by omega, rfl, .inr ⟨bk, ck, sk, rfl, rfl, by rw [List.length_map]; simp, by rw [List.length_map, List.take_zero, addN_nil]; omega⟩, rfl, rfl⟩
              · rintro q' G4 fr H' hle4 hs6 ⟨k, v, kb, hkq, rfl, hkb, rfl, rfl⟩
                have hOk : OnceN n (addN (bw on W0 i) (os.take k)) := hO.addN fun x hx => honr x (List.mem_of_mem_take hx)
                have hOkl := hOk.len
                obtain ⟨X, hX1⟩ := addN_pre (os.take k) (bw on W0 i)
                have hXl := congrArg List.length hX1
                rw [List.length_append] at hXl
                rcases hkb with ⟨a, rfl, hz, hz2, rfl⟩ | ⟨bm, cm, sm, rfl, rfl, hml, hmc⟩
                · omega
                · rw [List.length_map] at hml hmc
                  have hmt := metR_len n (addN (bw on W0 i) (os.take k))
                  have hsE := hs6
                  try simp only [keys_cons, keys_app, keys_nil, Sep_cons, Sep_nil, NotIn_cons, NotIn_app, NotIn_nil, List.cons_append, List.nil_append, List.append_assoc, and_assoc, and_true, true_and] at hsE
                  repeat (obtain ⟨hsx, hsE⟩ := hsE)
                  by_cases hk : k < os.length
                  · have had : Adr ao := hro.adr (by rw [List.length_map]; omega)
                    have hy := honr _ (List.getElem_mem hk)
                    obtain ⟨t, ht⟩ := Int.eq_ofNat_of_zero_le hy.1
                    have htn : t < n := by omega
                    have hg := metR_get (W := addN (bw on W0 i) (os.take k)) htn
                    have hnext := addN_take (bw on W0 i) os hk
                    have hput := metR_put (W := addN (bw on W0 i) (os.take k)) htn
                    by_cases hin : (t : Int) ∈ addN (bw on W0 i) (os.take k)
                    · rw [decide_eq_true hin] at hg
                      have hn2 : addN (bw on W0 i) (os.take (k + 1)) = addN (bw on W0 i) (os.take k) := by rw [hnext, ht]; unfold add1; rw [if_pos hin]
                      repeat' first
                        | with_reducible refine Br.yes ?_
                        | with_reducible refine Br.no ?_
                        | with_reducible refine Br.dec (fun _ => ?_) (fun _ => ?_)
                        | with_reducible refine Br.beqB (fun _ => ?_) (fun _ => ?_)
                        | with_reducible refine Br.beqb (fun _ => ?_) (fun _ => ?_)
                        | with_reducible refine Br.mk (fun _ => ?_) (fun _ => ?_)
                        | with_reducible refine foundO.mk (fun _ _ => ?_) (fun _ => ?_)
                        | with_reducible refine appV.zero ?_
                        | with_reducible refine appV.own ?_
                        | ((with_reducible refine NewB.mk fun nb hnb => ?_); have hnb1 := hnb.1.1; have hnb2 := hnb.1.2; try simp only [keys_cons, keys_app, keys_nil, NotIn_cons, NotIn_app, NotIn_nil, and_true] at hnb2)
                        | ((with_reducible refine NewRow.mk fun nb nsp ncap hnb hncap => ?_); have hnb1 := hnb.1.1; have hnb2 := hnb.1.2; try simp only [keys_cons, keys_app, keys_nil, NotIn_cons, NotIn_app, NotIn_nil, and_true] at hnb2)
                        | simp (dsimp := false) (implicitDefEqProofs := false) (disch := first | assumption | (simp only [List.mem_cons, List.mem_append, true_or, or_true, eq_self]; done) | omega | (with_reducible refine Row.adr (by assumption) ?_; simp only [List.length_map, List.length_take, List.length_drop]; omega) | (simp only [List.length_cons, List.length_nil, List.length_map, List.length_append, List.length_replicate, Nat.reduceAdd, true_and, and_true, and_self]; first | done | omega)) only [go_sem, ↓reduceIte, Nat.reduceEqDiff, Nat.reduceAdd, Nat.reduceSub, Nat.reduceMul, Nat.reduceBEq, Nat.reduceLT, Nat.reduceLeDiff, Nat.reduceMod, Nat.reducePow, List.reduceReplicate, UInt8.reduceOfNat, Int.reducePow, Int.reduceDiv, Int.reduceMod, Nat.reduceDiv, Int.reduceNeg, Int.reduceAdd, Int.reduceSub, Int.reduceMul, Int.reduceLE, Int.reduceLT, Int.reduceEq, Int.reduceToNat, reduceCtorEq, Row.obj hro, List.getElem_map, ht, hg]
                      exact Upd.now ⟨q' - 1, by omega, k + 1, .slice (some ⟨bm, 0, none⟩) (addN (bw on W0 i) (os.take k)).length cm, [(bm, .cells ((addN (bw on W0 i) (os.take k)).map (Value.int .i64)) sm 3)], by omega, rfl, .inr ⟨bm, cm, sm, by rw [hn2], by rw [hn2], by rw [hn2, List.length_map]; omega, by rw [hn2, List.length_map]; omega⟩, by rw [hn2]; rfl, rfl⟩
                    · rw [decide_eq_false hin] at hg
                      have hn2 : addN (bw on W0 i) (os.take (k + 1)) = addN (bw on W0 i) (os.take k) ++ [(t : Int)] := by rw [hnext, ht]; unfold add1; rw [if_neg hin]
                      have hn3 : add1 (addN (bw on W0 i) (os.take k)) (t : Int) = addN (bw on W0 i) (os.take (k + 1)) := by rw [hnext, ht]
                      rw [hn3] at hput
                      repeat' first
                        | with_reducible refine Br.yes ?_
                        | with_reducible refine Br.no ?_
                        | with_reducible refine Br.dec (fun _ => ?_) (fun _ => ?_)
                        | with_reducible refine Br.beqB (fun _ => ?_) (fun _ => ?_)
                        | with_reducible refine Br.beqb (fun _ => ?_) (fun _ => ?_)
                        | with_reducible refine Br.mk (fun _ => ?_) (fun _ => ?_)
                        | with_reducible refine foundO.mk (fun _ _ => ?_) (fun _ => ?_)
                        | with_reducible refine appV.zero ?_
                        | with_reducible refine appV.own ?_
                        | ((with_reducible refine NewB.mk fun nb hnb => ?_); have hnb1 := hnb.1.1; have hnb2 := hnb.1.2; try simp only [keys_cons, keys_app, keys_nil, NotIn_cons, NotIn_app, NotIn_nil, and_true] at hnb2)
                        | ((with_reducible refine NewRow.mk fun nb nsp ncap hnb hncap => ?_); have hnb1 := hnb.1.1; have hnb2 := hnb.1.2; try simp only [keys_cons, keys_app, keys_nil, NotIn_cons, NotIn_app, NotIn_nil, and_true] at hnb2)
                        | simp (dsimp := false) (implicitDefEqProofs := false) (disch := first | assumption | (simp only [List.mem_cons, List.mem_append, true_or, or_true, eq_self]; done) | omega | (with_reducible refine Row.adr (by assumption) ?_; simp only [List.length_map, List.length_take, List.length_drop]; omega) | (simp only [List.length_cons, List.length_nil, List.length_map, List.length_append, List.length_replicate, Nat.reduceAdd, true_and, and_true, and_self]; first | done | omega)) only [go_sem, ↓reduceIte, Nat.reduceEqDiff, Nat.reduceAdd, Nat.reduceSub, Nat.reduceMul, Nat.reduceBEq, Nat.reduceLT, Nat.reduceLeDiff, Nat.reduceMod, Nat.reducePow, List.reduceReplicate, UInt8.reduceOfNat, Int.reducePow, Int.reduceDiv, Int.reduceMod, Nat.reduceDiv, Int.reduceNeg, Int.reduceAdd, Int.reduceSub, Int.reduceMul, Int.reduceLE, Int.reduceLT, Int.reduceEq, Int.reduceToNat, reduceCtorEq, Row.obj hro, List.getElem_map, ht, hg, hput, List.replicate_one]
                      have hl2 := congrArg List.length hn2
                      rw [List.length_append, List.length_singleton] at hl2
                      have hm2 : (addN (bw on W0 i) (os.take k)).map (Value.int .i64) ++ [Value.int .i64 (t : Nat)] = (addN (bw on W0 i) (os.take (k + 1))).map (Value.int .i64) := by rw [hn2, List.map_append]; rfl
                      rw [hm2, ← hl2]
                      exact Upd.go (H' := (bt, .cells (metR n (addN (bw on W0 i) (os.take (k + 1)))) [] 4) :: (b3, .cells [.func (.func fid) #[] #[.pointer (some ⟨bx, 0, none⟩)]] [] 51) :: (b2, .cells [.slice a0 W0.length c0] [] 24) :: (b1, .cells [.int .i64 (n : Nat)] [] 3) :: ([(nb, .cells ((addN (bw on W0 i) (os.take (k + 1))).map (Value.int .i64)) nsp 3)] ++ H3)) (by intro fsum; first | exact Nat.le_refl _ | (simp only [List.map_append, List.map_cons, List.map_nil, List.sum_append, List.sum_cons, List.sum_nil, List.cons_append, List.nil_append]; omega)) (Upd.now ⟨q' - 1, by omega, k + 1, _, [(nb, .cells ((addN (bw on W0 i) (os.take (k + 1))).map (Value.int .i64)) nsp 3)], by omega, rfl, .inr ⟨nb, ncap, nsp, rfl, rfl, by rw [List.length_map]; omega, by rw [List.length_map]; omega⟩, rfl, rfl⟩)
                  · obtain rfl : k = os.length := by omega
                    rw [List.take_length] at *
                    repeat' first
                      | with_reducible refine Br.yes ?_
                      | with_reducible refine Br.no ?_
                      | with_reducible refine Br.dec (fun _ => ?_) (fun _ => ?_)
                      | with_reducible refine Br.beqB (fun _ => ?_) (fun _ => ?_)
                      | with_reducible refine Br.beqb (fun _ => ?_) (fun _ => ?_)
                      | with_reducible refine Br.mk (fun _ => ?_) (fun _ => ?_)
                      | with_reducible refine foundO.mk (fun _ _ => ?_) (fun _ => ?_)
                      | with_reducible refine appV.zero ?_
                      | with_reducible refine appV.own ?_
                      | ((with_reducible refine NewB.mk fun nb hnb => ?_); have hnb1 := hnb.1.1; have hnb2 := hnb.1.2; try simp only [keys_cons, keys_app, keys_nil, NotIn_cons, NotIn_app, NotIn_nil, and_true] at hnb2)
                      | ((with_reducible refine NewRow.mk fun nb nsp ncap hnb hncap => ?_); have hnb1 := hnb.1.1; have hnb2 := hnb.1.2; try simp only [keys_cons, keys_app, keys_nil, NotIn_cons, NotIn_app, NotIn_nil, and_true] at hnb2)
                      | simp (dsimp := false) (implicitDefEqProofs := false) (disch := first | assumption | (simp only [List.mem_cons, List.mem_append, true_or, or_true, eq_self]; done) | omega | (with_reducible refine Row.adr (by assumption) ?_; simp only [List.length_map, List.length_take, List.length_drop]; omega) | (simp only [List.length_cons, List.length_nil, List.length_map, List.length_append, List.length_replicate, Nat.reduceAdd, true_and, and_true, and_self]; first | done | omega)) only [go_sem, ↓reduceIte, Nat.reduceEqDiff, Nat.reduceAdd, Nat.reduceSub, Nat.reduceMul, Nat.reduceBEq, Nat.reduceLT, Nat.reduceLeDiff, Nat.reduceMod, Nat.reducePow, List.reduceReplicate, UInt8.reduceOfNat, Int.reducePow, Int.reduceDiv, Int.reduceMod, Nat.reduceDiv, Int.reduceNeg, Int.reduceAdd, Int.reduceSub, Int.reduceMul, Int.reduceLE, Int.reduceLT, Int.reduceEq, Int.reduceToNat, reduceCtorEq]
                    rw [← hsucc] at *
                    exact Upd.now ⟨q - 1, by omega, i + 1, .slice (some ⟨bm, 0, none⟩) (bw on W0 (i + 1)).length cm, [(bm, .cells ((bw on W0 (i + 1)).map (Value.int .i64)) sm 3)], H3, by omega, by omega, hleG.trans hle3, .inr ⟨bm, cm, sm, rfl, rfl, by rw [List.length_map]; omega, by rw [List.length_map]; omega⟩, hJ3, rfl, rfl⟩
            · repeat' first
                | with_reducible refine Br.yes ?_
                | with_reducible refine Br.no ?_
                | with_reducible refine Br.dec (fun _ => ?_) (fun _ => ?_)
                | with_reducible refine Br.beqB (fun _ => ?_) (fun _ => ?_)
                | with_reducible refine Br.beqb (fun _ => ?_) (fun _ => ?_)
                | with_reducible refine Br.mk (fun _ => ?_) (fun _ => ?_)
                | with_reducible refine foundO.mk (fun _ _ => ?_) (fun _ => ?_)
                | with_reducible refine appV.zero ?_
                | with_reducible refine appV.own ?_
                | ((with_reducible refine NewB.mk fun nb hnb => ?_); have hnb1 := hnb.1.1; have hnb2 := hnb.1.2; try simp only [keys_cons, keys_app, keys_nil, NotIn_cons, NotIn_app, NotIn_nil, and_true] at hnb2)
                | ((with_reducible refine NewRow.mk fun nb nsp ncap hnb hncap => ?_); have hnb1 := hnb.1.1; have hnb2 := hnb.1.2; try simp only [keys_cons, keys_app, keys_nil, NotIn_cons, NotIn_app, NotIn_nil, and_true] at hnb2)
                | simp (dsimp := false) (implicitDefEqProofs := false) (disch := first | assumption | (simp only [List.mem_cons, List.mem_append, true_or, or_true, eq_self]; done) | omega | (with_reducible refine Row.adr (by assumption) ?_; simp only [List.length_map, List.length_take, List.length_drop]; omega) | (simp only [List.length_cons, List.length_nil, List.length_map, List.length_append, List.length_replicate, Nat.reduceAdd, true_and, and_true, and_self]; first | done | omega)) only [go_sem, ↓reduceIte, Nat.reduceEqDiff, Nat.reduceAdd, Nat.reduceSub, Nat.reduceMul, Nat.reduceBEq, Nat.reduceLT, Nat.reduceLeDiff, Nat.reduceMod, Nat.reducePow, List.reduceReplicate, UInt8.reduceOfNat, Int.reducePow, Int.reduceDiv, Int.reduceMod, Nat.reduceDiv, Int.reduceNeg, Int.reduceAdd, Int.reduceSub, Int.reduceMul, Int.reduceLE, Int.reduceLT, Int.reduceEq, Int.reduceToNat, reduceCtorEq]
              unfold UpdR
              exact Upd.go (H' := H3) (by intro fsum; first | exact Nat.le_refl _ | (simp only [List.map_append, List.map_cons, List.map_nil, List.sum_append, List.sum_cons, List.sum_nil, List.cons_append, List.nil_append]; omega)) (Upd.now (hR G3 H3 (hleG.trans hle3) (by assumption) (.inr ⟨i, hJ3⟩)))
          · repeat' first
              | with_reducible refine Br.yes ?_
              | with_reducible refine Br.no ?_
              | with_reducible refine Br.dec (fun _ => ?_) (fun _ => ?_)
              | with_reducible refine Br.beqB (fun _ => ?_) (fun _ => ?_)
              | with_reducible refine Br.beqb (fun _ => ?_) (fun _ => ?_)
              | with_reducible refine Br.mk (fun _ => ?_) (fun _ => ?_)
              | with_reducible refine foundO.mk (fun _ _ => ?_) (fun _ => ?_)
              | with_reducible refine appV.zero ?_
              | with_reducible refine appV.own ?_
              | ((with_reducible refine NewB.mk fun nb hnb => ?_); have hnb1 := hnb.1.1; have hnb2 := hnb.1.2; try simp only [keys_cons, keys_app, keys_nil, NotIn_cons, NotIn_app, NotIn_nil, and_true] at hnb2)
              | ((with_reducible refine NewRow.mk fun nb nsp ncap hnb hncap => ?_); have hnb1 := hnb.1.1; have hnb2 := hnb.1.2; try simp only [keys_cons, keys_app, keys_nil, NotIn_cons, NotIn_app, NotIn_nil, and_true] at hnb2)
              | simp (dsimp := false) (implicitDefEqProofs := false) (disch := first | assumption | (simp only [List.mem_cons, List.mem_append, true_or, or_true, eq_self]; done) | omega | (with_reducible refine Row.adr (by assumption) ?_; simp only [List.length_map, List.length_take, List.length_drop]; omega) | (simp only [List.length_cons, List.length_nil, List.length_map, List.length_append, List.length_replicate, Nat.reduceAdd, true_and, and_true, and_self]; first | done | omega)) only [go_sem, ↓reduceIte, Nat.reduceEqDiff, Nat.reduceAdd, Nat.reduceSub, Nat.reduceMul, Nat.reduceBEq, Nat.reduceLT, Nat.reduceLeDiff, Nat.reduceMod, Nat.reducePow, List.reduceReplicate, UInt8.reduceOfNat, Int.reducePow, Int.reduceDiv, Int.reduceMod, Nat.reduceDiv, Int.reduceNeg, Int.reduceAdd, Int.reduceSub, Int.reduceMul, Int.reduceLE, Int.reduceLT, Int.reduceEq, Int.reduceToNat, reduceCtorEq]
            all_goals try (exfalso; omega)
            unfold UpdR
            exact Upd.go (H' := H1) (by intro fsum; first | exact Nat.le_refl _ | (simp only [List.map_append, List.map_cons, List.map_nil, List.sum_append, List.sum_cons, List.sum_nil, List.cons_append, List.nil_append]; omega)) (Upd.now (hR G2 H1 hleG (by assumption) (.inl ⟨i, by omega, hJi⟩)))
end Go.Proofs.Ytlblohmjikopbaa
