/- The classes of bytes that a machine tells apart. -/
import Derived.Test.YtmnmihfinmcljaaDoorXa
import Derived.Test.YtmnmihfinmcljaaDoorSj
import Derived.Test.YtmnmihfinmcljaaDoorTb
import Derived.Test.YtmnmihfinmcljaaDoorUd
set_option linter.unusedSimpArgs false
set_option linter.unusedVariables false
namespace Go.Proofs.YtmnmihfinmcljaaDoor
open Go Go.V Go.Proofs

def colL (d : DfaT) : List (List UInt8) := (List.range d.width.toNat).map (colB d)
theorem colL_len (d : DfaT) : (colL d).length = d.width.toNat := by simp [colL]
theorem colL_at {d : DfaT} {k : Nat} (h : k < (colL d).length) : (colL d)[k] = colB d k := by simp [colL]
theorem width_pos {d : DfaT} (hok : RightP d) : d.width = ((colL d).length : Nat) := by
  obtain ⟨hk1, hk2, hk3, hk4, hk5, hk6, hk7⟩ := hok
  rw [colL_len]; omega
theorem width_le {d : DfaT} (hok : RightP d) (hl : d.of.length = 256) : (colL d).length ≤ 256 := by
  have := width_pos hok
  obtain ⟨hk1, hk2, hk3, hk4, hk5, hk6, hk7⟩ := hok
  have := tabO_len d.of
  omega
/-- the classes of bytes, before their numbers are made in order -/
def clL (d : DfaT) : List Int := d.of.map fun o => atL (nums (colL d)) o
theorem clL_len {d : DfaT} (hl : d.of.length = 256) : (clL d).length = 256 := by unfold clL; rw [List.length_map, hl]
theorem clL_at {d : DfaT} (hok : RightP d) {i : Nat} (hi : i < d.of.length) : ∃ (h : (d.of[i]).toNat < (nums (colL d)).length) (h2 : i < (clL d).length), (clL d)[i] = (nums (colL d))[(d.of[i]).toNat] ∧ 0 ≤ (clL d)[i] ∧ (clL d)[i] < (colL d).length := by
  obtain ⟨h1, h2⟩ := of_bound hok (List.getElem_mem hi)
  have hw := width_pos hok
  have h3 : (d.of[i]).toNat < (nums (colL d)).length := by rw [nums_len]; omega
  have h4 : i < (clL d).length := by unfold clL; rw [List.length_map]; exact hi
  have e : (clL d)[i] = (nums (colL d))[(d.of[i]).toNat] := by simp only [clL, List.getElem_map]; rw [atL_get h3]
  obtain ⟨b1, b2⟩ := nums_bound (List.getElem_mem h3)
  have := tabO_len (colL d)
  exact ⟨h3, h4, e, by rw [e]; exact b1, by rw [e]; omega⟩
def clU (d : DfaT) (c k : Nat) : Int := if k < c then atL (clL d) k else 0
theorem clU_zero (d : DfaT) : u8F (fun _ => 0) = u8F (clU d 0) := u8F_congr fun k _ => by unfold clU; rw [if_neg (by omega)]
theorem clU_succ {d : DfaT} {c : Nat} {x : Int} (h : x = atL (clL d) c) : u8F (upd (clU d c) c x) = u8F (clU d (c + 1)) := u8F_congr fun k _ => by
  by_cases e : k = c
  · subst e; simp only [clU, upd]; rw [if_pos (show k < k + 1 by omega), h]; simp
  · simp only [clU, upd]
    rw [if_neg e]
    by_cases hk : k < c
    · rw [if_pos hk, if_pos (by omega)]
    · rw [if_neg hk, if_neg (by omega)]
theorem clU_all {d : DfaT} (hl : d.of.length = 256) : u8F (clU d 256) = u8L (clL d) := by
  apply List.ext_getElem (by rw [u8F_len, List.length_map, clL_len hl])
  intro k h1 h2
  rw [u8F_len] at h1
  have h3 : k < (clL d).length := by rw [clL_len hl]; exact h1
  rw [u8F_at, List.getElem_map]
  unfold clU
  rw [if_pos h1, atL_get (by simpa using h3)]
  simp
set_option maxHeartbeats 8000000 in
theorem cols_t {d : DfaT} (hsm : SmallD d) (hok : RightP d) {C : List Value} {an al ay : Option Addr} {cn cl cs : Nat} {rs : List Value} {G : PHeap} (O : OpenD G d C an al ay cn cl cs rs)
    {H : Heap} {R : Value → PHeap → Heap → Prop} (hR : ∀ G' v, PLe G G' → Sep G' (keys H) → Sl G' (Value.int .i64) v (nums (colL d)) → R v G' H) : FnT Tryd.prog 19 [.agg C.toArray] G H R := by
  have hCl := O.len
  have hCw := O.w
  have hCa := O.all
  have hw := width_pos hok
  have hle := width_le hok O.ofl
  rw [hw] at hCw
  refine FnT.sep ?_
  refine FnT.body tok [0, 1, 2] Tryd.func19 rfl (by kernel_rfl) (by kernel_rfl) (by show _ ≤ 7; simp) fun hsep => ?_
  rw [Tryd.results19]
  have hsE := hsep
  try simp only [keys_cons, keys_app, keys_nil, Sep_cons, Sep_nil, NotIn_cons, NotIn_app, NotIn_nil, List.cons_append, List.nil_append, List.append_assoc, and_assoc, and_true, true_and] at hsE
  repeat (obtain ⟨hsx, hsE⟩ := hsE)
  repeat' first
    | with_reducible refine Br.yes ?_
    | with_reducible refine Br.no ?_
    | with_reducible refine Br.dec (fun _ => ?_) (fun _ => ?_)
    | with_reducible refine Br.beqB (fun _ => ?_) (fun _ => ?_)
    | with_reducible refine Br.beqb (fun _ => ?_) (fun _ => ?_)
    | with_reducible refine Br.mk (fun _ => ?_) (fun _ => ?_)
    | with_reducible refine foundO.mk (fun _ _ => ?_) (fun _ => ?_)
    | with_reducible refine appV.zero ?_
    | with_reducible refine appV.own ?_
    | ((with_reducible refine NewB.mk fun nb hnb => ?_); have hnb1 := hnb.1.1; have hnb2 := hnb.1.2; try simp only [keys_cons, keys_app, keys_nil, NotIn_cons, NotIn_app, NotIn_nil, and_true] at hnb2)
    | ((with_reducible refine NewRow.mk fun nb nsp ncap hnb hncap => ?_); have hnb1 := hnb.1.1; have hnb2 := hnb.1.2; try simp only [keys_cons, keys_app, keys_nil, NotIn_cons, NotIn_app, NotIn_nil, and_true] at hnb2)
    | simp (dsimp := false) (implicitDefEqProofs := false) (disch := first | assumption | (simp only [List.mem_cons, List.mem_append, true_or, or_true, eq_self]; done) | omega | (with_reducible refine Row.adr (by assumption) ?_; simp only [List.length_map, List.length_take, List.length_drop]; omega) | (simp only [List.length_cons, List.length_nil, List.length_map, List.length_append, List.length_replicate, Nat.reduceAdd, true_and, and_true, and_self]; first | done | omega)) only [go_sem, ↓reduceIte, Nat.reduceEqDiff, Nat.reduceAdd, Nat.reduceSub, Nat.reduceMul, Nat.reduceBEq, Nat.reduceLT, Nat.reduceLeDiff, Nat.reduceMod, Nat.reducePow, List.reduceReplicate, UInt8.reduceOfNat, Int.reducePow, Int.reduceDiv, Int.reduceMod, Nat.reduceDiv, Int.reduceNeg, Int.reduceAdd, Int.reduceSub, Int.reduceMul, Int.reduceLE, Int.reduceLT, Int.reduceEq, Int.reduceToNat, reduceCtorEq, -List.reduceReplicate, List.toList_toArray, hCl, hCw, hCa]
    | with_reducible refine numS_t (l := colL d) (by omega) (fun i hi H1 R1 hg hf hR1 => ?_) fun G2 v2 hle2 hs2 hsl2 => ?_
  · refine col_t hsm hok O (by omega) hg hf ?_
    rw [← colL_at hi]; exact hR1
  · unfold UpdR
    refine Upd.leave (H' := H) (by intro fsum; first | exact Nat.le_refl _ | (simp only [List.map_append, List.map_cons, List.map_nil, List.sum_append, List.sum_cons, List.sum_nil, List.cons_append, List.nil_append]; omega)) ?_
    exact fun hle hs => hR G2 v2 hle2 hs2 hsl2
set_option maxHeartbeats 8000000 in
theorem Classes_t {d : DfaT} (hsm : SmallD d) {G : PHeap} {H : Heap} {R : Value → PHeap → Heap → Prop} {v : Value} (hv : IsD G d v)
    (hR : ∀ G', PLe G G' → Sep G' (keys H) → R (if boolOf (RightP d) = true then .tuple #[agg8 (nums (clL d)), .int .i64 (tabO (clL d)).length] else .tuple #[agg8 (List.replicate 256 0), .int .i64 0]) G' H) : FnT Tryd.prog 6 [v] G H R := by
  obtain ⟨C, an, al, ay, cn, cl, cs, rs, rfl, O⟩ := hv.opened
  have hCl := O.len
  have hCa := O.all
  have hCo := O.of
  refine FnT.sep ?_
  by_cases hok : RightP d
  · have hb := boolOf_yes hok
    rw [if_pos hb] at hR
    have hcl := clL_len O.ofl
    have hu8 : (u8L (clL d)).length = 256 := by rw [List.length_map, hcl]
    have htk : List.take 256 (u8L (clL d)) = u8L (clL d) := List.take_of_length_le (by omega)
    refine FnT.body tok [0, 1, 2, 3, 4, 5, 6, 7, 10, 15, 16, 17] Tryd.func6 rfl (by kernel_rfl) (by kernel_rfl) (by show _ ≤ 32; simp) fun hsep => ?_
    rw [Tryd.results6]
    have hsE := hsep
    try simp only [keys_cons, keys_app, keys_nil, Sep_cons, Sep_nil, NotIn_cons, NotIn_app, NotIn_nil, List.cons_append, List.nil_append, List.append_assoc, and_assoc, and_true, true_and] at hsE
    repeat (obtain ⟨hsx, hsE⟩ := hsE)
    repeat' first
      | with_reducible refine Br.yes ?_
      | with_reducible refine Br.no ?_
      | with_reducible refine Br.dec (fun _ => ?_) (fun _ => ?_)
      | with_reducible refine Br.beqB (fun _ => ?_) (fun _ => ?_)
      | with_reducible refine Br.beqb (fun _ => ?_) (fun _ => ?_)
      | with_reducible refine Br.mk (fun _ => ?_) (fun _ => ?_)
      | with_reducible refine foundO.mk (fun _ _ => ?_) (fun _ => ?_)
      | with_reducible refine appV.zero ?_
      | with_reducible refine appV.own ?_
      | ((with_reducible refine NewB.mk fun nb hnb => ?_); have hnb1 := hnb.1.1; have hnb2 := hnb.1.2; try simp only [keys_cons, keys_app, keys_nil, NotIn_cons, NotIn_app, NotIn_nil, and_true] at hnb2)
      | ((with_reducible refine NewRow.mk fun nb nsp ncap hnb hncap => ?_); have hnb1 := hnb.1.1; have hnb2 := hnb.1.2; try simp only [keys_cons, keys_app, keys_nil, NotIn_cons, NotIn_app, NotIn_nil, and_true] at hnb2)
      | simp (dsimp := false) (implicitDefEqProofs := false) (disch := first | assumption | (simp only [List.mem_cons, List.mem_append, true_or, or_true, eq_self]; done) | omega | (with_reducible refine Row.adr (by assumption) ?_; simp only [List.length_map, List.length_take, List.length_drop]; omega) | (simp only [List.length_cons, List.length_nil, List.length_map, List.length_append, List.length_replicate, Nat.reduceAdd, true_and, and_true, and_self]; first | done | omega)) only [go_sem, ↓reduceIte, Nat.reduceEqDiff, Nat.reduceAdd, Nat.reduceSub, Nat.reduceMul, Nat.reduceBEq, Nat.reduceLT, Nat.reduceLeDiff, Nat.reduceMod, Nat.reducePow, List.reduceReplicate, UInt8.reduceOfNat, Int.reducePow, Int.reduceDiv, Int.reduceMod, Nat.reduceDiv, Int.reduceNeg, Int.reduceAdd, Int.reduceSub, Int.reduceMul, Int.reduceLE, Int.reduceLT, Int.reduceEq, Int.reduceToNat, reduceCtorEq, -List.reduceReplicate, List.toList_toArray, hCl, hCa, hCo, hb, u8F_zero, u8F_len, u8F_one, u8F_over, u8F_take]
      | with_reducible refine right_t hsm O.is ?_
    rename_i b1 hb1 hb11 hb12 b2 hb2 hb21 hb22
    refine cols_t hsm hok O fun G2 v2 hle2 hs2 hsl2 => ?_
    obtain ⟨a2, c2, rfl, hr2, hc2⟩ := hsl2
    have hsE := hs2
    try simp only [keys_cons, keys_app, keys_nil, Sep_cons, Sep_nil, NotIn_cons, NotIn_app, NotIn_nil, List.cons_append, List.nil_append, List.append_assoc, and_assoc, and_true, true_and] at hsE
    repeat (obtain ⟨hsx, hsE⟩ := hsE)
    repeat' first
      | with_reducible refine Br.yes ?_
      | with_reducible refine Br.no ?_
      | with_reducible refine Br.dec (fun _ => ?_) (fun _ => ?_)
      | with_reducible refine Br.beqB (fun _ => ?_) (fun _ => ?_)
      | with_reducible refine Br.beqb (fun _ => ?_) (fun _ => ?_)
      | with_reducible refine Br.mk (fun _ => ?_) (fun _ => ?_)
      | with_reducible refine foundO.mk (fun _ _ => ?_) (fun _ => ?_)
      | with_reducible refine appV.zero ?_
      | with_reducible refine appV.own ?_
      | ((with_reducible refine NewB.mk fun nb hnb => ?_); have hnb1 := hnb.1.1; have hnb2 := hnb.1.2; try simp only [keys_cons, keys_app, keys_nil, NotIn_cons, NotIn_app, NotIn_nil, and_true] at hnb2)
      | ((with_reducible refine NewRow.mk fun nb nsp ncap hnb hncap => ?_); have hnb1 := hnb.1.1; have hnb2 := hnb.1.2; try simp only [keys_cons, keys_app, keys_nil, NotIn_cons, NotIn_app, NotIn_nil, and_true] at hnb2)
      | simp (dsimp := false) (implicitDefEqProofs := false) (disch := first | assumption | (simp only [List.mem_cons, List.mem_append, true_or, or_true, eq_self]; done) | omega | (with_reducible refine Row.adr (by assumption) ?_; simp only [List.length_map, List.length_take, List.length_drop]; omega) | (simp only [List.length_cons, List.length_nil, List.length_map, List.length_append, List.length_replicate, Nat.reduceAdd, true_and, and_true, and_self]; first | done | omega)) only [go_sem, ↓reduceIte, Nat.reduceEqDiff, Nat.reduceAdd, Nat.reduceSub, Nat.reduceMul, Nat.reduceBEq, Nat.reduceLT, Nat.reduceLeDiff, Nat.reduceMod, Nat.reducePow, List.reduceReplicate, UInt8.reduceOfNat, Int.reducePow, Int.reduceDiv, Int.reduceMod, Nat.reduceDiv, Int.reduceNeg, Int.reduceAdd, Int.reduceSub, Int.reduceMul, Int.reduceLE, Int.reduceLT, Int.reduceEq, Int.reduceToNat, reduceCtorEq, -List.reduceReplicate, List.toList_toArray, hCl, hCa, hCo, hb, u8F_zero, u8F_len, u8F_one, u8F_over, u8F_take]
    have hnl := nums_len (colL d)
    have hnu8 : (u8L (nums (clL d))).length = 256 := by rw [List.length_map, nums_len, hcl]
    have hno1 : (u8L (nums (clL d))).all oneV = true := by rw [List.all_map]; exact List.all_eq_true.2 fun _ _ => rfl
    have hns : splice (u8F fun _ => 0) 0 (u8L (nums (clL d))) = u8L (nums (clL d)) := by rw [← u8F_nums hcl, u8F_over]
    have hnt : List.take 256 (u8L (nums (clL d))) = u8L (nums (clL d)) := List.take_of_length_le (by omega)
    have had : Adr a2 := hr2.adr (by rw [List.length_map, hnl]; have := width_pos hok; have := of_bound hok (List.getElem_mem (l := d.of) (n := 0) (by rw [O.ofl]; omega)); omega)
    have hofl := O.ofl
    have hu8o : (u8L d.of).length = 256 := by rw [List.length_map, hofl]
    have hw8 := width_le hok O.ofl
    refine Tri.loopU tok [0, 1, 2, 3, 4, 5, 6, 7, 10, 15, 16, 17] (by kernel_rfl) [1, 2, 3, 4, 5, 15, 16] (fun q G' fr H' => ∃ (c : Nat), c + q = 256 ∧ G' = G2 ∧ H' = (nb, .cells (u8F (clU d c)) [] 22) :: (b2, .cells (u8F fun _ => 0) [] 22) :: (b1, .cells C [] 27) :: H ∧ fr = [(1, .pointer (some ⟨b1, 0, none⟩)), (2, .pointer (some ⟨b2, 0, none⟩)), (3, .int .i64 0), (4, .pointer (some ⟨nb, 0, none⟩)), (5, .slice a2 (nums (colL d)).length c2), (15, agg8 d.of), (16, .int .i64 (c : Nat))]) (256) ?_ ?_
    · exact Upd.now ⟨0, by omega, rfl, by rw [clU_zero], rfl⟩
    · rintro q G1 fr H' hle hs1 ⟨c, hc, rfl, rfl, rfl⟩
      have hsE := hs1
      try simp only [keys_cons, keys_app, keys_nil, Sep_cons, Sep_nil, NotIn_cons, NotIn_app, NotIn_nil, List.cons_append, List.nil_append, List.append_assoc, and_assoc, and_true, true_and] at hsE
      repeat (obtain ⟨hsx, hsE⟩ := hsE)
      by_cases hc2 : c < 256
      · obtain ⟨h3, h4, e, e1, e2⟩ := clL_at hok (i := c) (by omega)
        obtain ⟨q1, q2⟩ := O.ofb _ (List.getElem_mem (l := d.of) (n := c) (by omega))
        have hw : IntKind.u8.wrap ((nums (colL d))[(d.of[c]).toNat]) = (clL d)[c] := by
          rw [e]; obtain ⟨t, ht⟩ := Int.eq_ofNat_of_zero_le (e ▸ e1); rw [ht]; exact u8_wrap (by omega)
        have hput : splice (u8F (clU d c)) c [.int .u8 (clL d)[c]] = u8F (clU d (c + 1)) := by
          rw [u8F_putS hc2]; exact clU_succ (by rw [atL_get (by simpa using h4)]; simp)
        have hget : (u8L d.of)[c]? = some (.int .u8 d.of[c]) := by rw [List.getElem?_map, List.getElem?_eq_getElem (by omega)]; rfl
        repeat' first
          | with_reducible refine Br.yes ?_
          | with_reducible refine Br.no ?_
          | with_reducible refine Br.dec (fun _ => ?_) (fun _ => ?_)
          | with_reducible refine Br.beqB (fun _ => ?_) (fun _ => ?_)
          | with_reducible refine Br.beqb (fun _ => ?_) (fun _ => ?_)
          | with_reducible refine Br.mk (fun _ => ?_) (fun _ => ?_)
          | with_reducible refine foundO.mk (fun _ _ => ?_) (fun _ => ?_)
          | with_reducible refine appV.zero ?_
          | with_reducible refine appV.own ?_
          | ((with_reducible refine NewB.mk fun nb hnb => ?_); have hnb1 := hnb.1.1; have hnb2 := hnb.1.2; try simp only [keys_cons, keys_app, keys_nil, NotIn_cons, NotIn_app, NotIn_nil, and_true] at hnb2)
          | ((with_reducible refine NewRow.mk fun nb nsp ncap hnb hncap => ?_); have hnb1 := hnb.1.1; have hnb2 := hnb.1.2; try simp only [keys_cons, keys_app, keys_nil, NotIn_cons, NotIn_app, NotIn_nil, and_true] at hnb2)
          | simp (dsimp := false) (implicitDefEqProofs := false) (disch := first | assumption | (simp only [List.mem_cons, List.mem_append, true_or, or_true, eq_self]; done) | omega | (with_reducible refine Row.adr (by assumption) ?_; simp only [List.length_map, List.length_take, List.length_drop]; omega) | (simp only [List.length_cons, List.length_nil, List.length_map, List.length_append, List.length_replicate, Nat.reduceAdd, true_and, and_true, and_self]; first | done | omega)) only [go_sem, ↓reduceIte, Nat.reduceEqDiff, Nat.reduceAdd, Nat.reduceSub, Nat.reduceMul, Nat.reduceBEq, Nat.reduceLT, Nat.reduceLeDiff, Nat.reduceMod, Nat.reducePow, List.reduceReplicate, UInt8.reduceOfNat, Int.reducePow, Int.reduceDiv, Int.reduceMod, Nat.reduceDiv, Int.reduceNeg, Int.reduceAdd, Int.reduceSub, Int.reduceMul, Int.reduceLE, Int.reduceLT, Int.reduceEq, Int.reduceToNat, reduceCtorEq, -List.reduceReplicate, List.toList_toArray, hCl, hCa, hCo, hb, u8F_len, u8F_one, u8F_over, u8F_take, hu8o, List.getElem_map, hofl, Row.obj hr2, hw, hput, hget, partL]
        exact Upd.now ⟨q - 1, by omega, c + 1, by omega, rfl, rfl, rfl⟩
      · obtain rfl : c = 256 := by omega
        rw [clU_all hofl]
        repeat' first
          | with_reducible refine Br.yes ?_
          | with_reducible refine Br.no ?_
          | with_reducible refine Br.dec (fun _ => ?_) (fun _ => ?_)
          | with_reducible refine Br.beqB (fun _ => ?_) (fun _ => ?_)
          | with_reducible refine Br.beqb (fun _ => ?_) (fun _ => ?_)
          | with_reducible refine Br.mk (fun _ => ?_) (fun _ => ?_)
          | with_reducible refine foundO.mk (fun _ _ => ?_) (fun _ => ?_)
          | with_reducible refine appV.zero ?_
          | with_reducible refine appV.own ?_
          | ((with_reducible refine NewB.mk fun nb hnb => ?_); have hnb1 := hnb.1.1; have hnb2 := hnb.1.2; try simp only [keys_cons, keys_app, keys_nil, NotIn_cons, NotIn_app, NotIn_nil, and_true] at hnb2)
          | ((with_reducible refine NewRow.mk fun nb nsp ncap hnb hncap => ?_); have hnb1 := hnb.1.1; have hnb2 := hnb.1.2; try simp only [keys_cons, keys_app, keys_nil, NotIn_cons, NotIn_app, NotIn_nil, and_true] at hnb2)
          | simp (dsimp := false) (implicitDefEqProofs := false) (disch := first | assumption | (simp only [List.mem_cons, List.mem_append, true_or, or_true, eq_self]; done) | omega | (with_reducible refine Row.adr (by assumption) ?_; simp only [List.length_map, List.length_take, List.length_drop]; omega) | (simp only [List.length_cons, List.length_nil, List.length_map, List.length_append, List.length_replicate, Nat.reduceAdd, true_and, and_true, and_self]; first | done | omega)) only [go_sem, ↓reduceIte, Nat.reduceEqDiff, Nat.reduceAdd, Nat.reduceSub, Nat.reduceMul, Nat.reduceBEq, Nat.reduceLT, Nat.reduceLeDiff, Nat.reduceMod, Nat.reducePow, List.reduceReplicate, UInt8.reduceOfNat, Int.reducePow, Int.reduceDiv, Int.reduceMod, Nat.reduceDiv, Int.reduceNeg, Int.reduceAdd, Int.reduceSub, Int.reduceMul, Int.reduceLE, Int.reduceLT, Int.reduceEq, Int.reduceToNat, reduceCtorEq, -List.reduceReplicate, List.toList_toArray, hCl, hCa, hCo, hb, u8F_len, u8F_one, u8F_over, u8F_take, hu8, htk, hnu8, hno1, hns, hnt]
          | with_reducible refine pnorm_t hcl ?_
        unfold UpdR
        refine Upd.leave (H' := H) (by intro fsum; first | exact Nat.le_refl _ | (simp only [List.map_append, List.map_cons, List.map_nil, List.sum_append, List.sum_cons, List.sum_nil, List.cons_append, List.nil_append]; omega)) ?_
        exact fun _ hs => hR G1 hle2 hs
  · have hb := boolOf_no hok
    rw [hb, if_neg (by simp)] at hR
    have h8 : (List.replicate 256 (Value.int .u8 0)) = u8L (List.replicate 256 0) := by rw [u8L, List.map_replicate]
    refine FnT.body tok [0, 1, 2, 3, 4, 5, 6, 7, 10, 15, 16, 17] Tryd.func6 rfl (by kernel_rfl) (by kernel_rfl) (by show _ ≤ 32; simp) fun hsep => ?_
    rw [Tryd.results6]
    have hsE := hsep
    try simp only [keys_cons, keys_app, keys_nil, Sep_cons, Sep_nil, NotIn_cons, NotIn_app, NotIn_nil, List.cons_append, List.nil_append, List.append_assoc, and_assoc, and_true, true_and] at hsE
    repeat (obtain ⟨hsx, hsE⟩ := hsE)
    repeat' first
      | with_reducible refine Br.yes ?_
      | with_reducible refine Br.no ?_
      | with_reducible refine Br.dec (fun _ => ?_) (fun _ => ?_)
      | with_reducible refine Br.beqB (fun _ => ?_) (fun _ => ?_)
      | with_reducible refine Br.beqb (fun _ => ?_) (fun _ => ?_)
      | with_reducible refine Br.mk (fun _ => ?_) (fun _ => ?_)
      | with_reducible refine foundO.mk (fun _ _ => ?_) (fun _ => ?_)
      | with_reducible refine appV.zero ?_
      | with_reducible refine appV.own ?_
      | ((with_reducible refine NewB.mk fun nb hnb => ?_); have hnb1 := hnb.1.1; have hnb2 := hnb.1.2; try simp only [keys_cons, keys_app, keys_nil, NotIn_cons, NotIn_app, NotIn_nil, and_true] at hnb2)
      | ((with_reducible refine NewRow.mk fun nb nsp ncap hnb hncap => ?_); have hnb1 := hnb.1.1; have hnb2 := hnb.1.2; try simp only [keys_cons, keys_app, keys_nil, NotIn_cons, NotIn_app, NotIn_nil, and_true] at hnb2)
      | simp (dsimp := false) (implicitDefEqProofs := false) (disch := first | assumption | (simp only [List.mem_cons, List.mem_append, true_or, or_true, eq_self]; done) | omega | (with_reducible refine Row.adr (by assumption) ?_; simp only [List.length_map, List.length_take, List.length_drop]; omega) | (simp only [List.length_cons, List.length_nil, List.length_map, List.length_append, List.length_replicate, Nat.reduceAdd, true_and, and_true, and_self]; first | done | omega)) only [go_sem, ↓reduceIte, Nat.reduceEqDiff, Nat.reduceAdd, Nat.reduceSub, Nat.reduceMul, Nat.reduceBEq, Nat.reduceLT, Nat.reduceLeDiff, Nat.reduceMod, Nat.reducePow, List.reduceReplicate, UInt8.reduceOfNat, Int.reducePow, Int.reduceDiv, Int.reduceMod, Nat.reduceDiv, Int.reduceNeg, Int.reduceAdd, Int.reduceSub, Int.reduceMul, Int.reduceLE, Int.reduceLT, Int.reduceEq, Int.reduceToNat, reduceCtorEq, -List.reduceReplicate, List.toList_toArray, hCl, hCa, hCo, hb, u8F_zero, u8F_len, u8F_one, u8F_over, u8F_take]
      | with_reducible refine right_t hsm O.is ?_
    unfold UpdR
    refine Upd.leave (H' := H) (by intro fsum; first | exact Nat.le_refl _ | (simp only [List.map_append, List.map_cons, List.map_nil, List.sum_append, List.sum_cons, List.sum_nil, List.cons_append, List.nil_append]; omega)) ?_
    rw [← u8F_zero, h8]
    exact fun _ hs => hR G (PLe.refl _) hs
end Go.Proofs.YtmnmihfinmcljaaDoor
