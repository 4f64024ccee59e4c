/- What is done to two sets: a round. -/
import Derived.Test.YtagojpdkikcmpaaDoorFq
set_option linter.unusedSimpArgs false
set_option linter.unusedVariables false
namespace Go.Proofs.YtagojpdkikcmpaaDoor
open Go Go.V Go.Proofs

set_option maxHeartbeats 32000000 in
set_option maxRecDepth 20000 in
theorem restF_t {n m : Int} {l : List OpB} (hlen : l.length ≤ 1048576) {k : Nat} (hkl : k < l.length) {a : Option Addr} {cap : Nat} {G : PHeap} {H : Heap} (hg : HasTab G) (hrow : Row G a (l.flatMap encOpB)) {bx by' b16 b17 pa pb : Nat} {ha hb : Heap} {na mb : Nat} {wa wb : Nat → Nat} (hta : TabB ha (.pointer (some ⟨pa, 0, none⟩)) na wa) (htb : TabB hb (.pointer (some ⟨pb, 0, none⟩)) mb wb) {xa ya : Option Addr} {xc yc : Nat} (hx : Sl G (Value.int .i64) (.slice xa (els na (mem wa)).length xc) (els na (mem wa))) (hy : Sl G (Value.int .i64) (.slice ya (els mb (mem wb)).length yc) (els mb (mem wb))) (ho : l[k].other = false) :
    Tri Tryd.prog Tryd.f4.ntmps (piece [1, 1, 1, 1, 1, 1, 1, 0, 1, 0, 0, 1, 0, 0, 1, 1, 1] Tryd.f4) G [(0, .int .i64 n), (1, .int .i64 m), (2, .slice a l.length cap), (6, .bool false), (8, .int .i64 0), (10, .int .i64 0), (11, .pointer (some ⟨bx, 0, none⟩)), (12, .pointer (some ⟨by', 0, none⟩)), (13, .int .i64 (k : Nat)), (14, .pointer (some ⟨pa, 0, none⟩)), (15, .pointer (some ⟨pb, 0, none⟩)), (16, .pointer (some ⟨b16, 0, none⟩)), (17, .pointer (some ⟨b17, 0, none⟩)), (18, .bool false), (19, .bool false)] ((b16, .cells [.int .i64 (na : Nat), .slice xa (els na (mem wa)).length xc] [] 39) :: (b17, .cells [.int .i64 (mb : Nat), .slice ya (els mb (mem wb)).length yc] [] 39) :: (ha ++ (hb ++ ((bx, .cells [.int .i64 (na : Nat), .slice xa (els na (mem wa)).length xc] [] 39) :: (by', .cells [.int .i64 (mb : Nat), .slice ya (els mb (mem wb)).length yc] [] 39) :: H)))) (onlyN fun G' fr' H' =>
      ∃ (pa pb na mb : Nat) (ha hb : Heap) (wa wb : Nat → Nat) (xa ya : Option Addr) (xc yc : Nat), TabB ha (.pointer (some ⟨pa, 0, none⟩)) na wa ∧ TabB hb (.pointer (some ⟨pb, 0, none⟩)) mb wb ∧ Sl G' (Value.int .i64) (.slice xa (els na (mem wa)).length xc) (els na (mem wa)) ∧ Sl G' (Value.int .i64) (.slice ya (els mb (mem wb)).length yc) (els mb (mem wb)) ∧ restrict [0, 1, 2, 6, 7, 8, 9, 10, 11, 12, 13] fr' = [(0, .int .i64 n), (1, .int .i64 m), (2, .slice a l.length cap), (6, .bool false), (7, .pointer (some ⟨pa, 0, none⟩)), (8, .int .i64 0), (9, .pointer (some ⟨pb, 0, none⟩)), (10, .int .i64 0), (11, .pointer (some ⟨bx, 0, none⟩)), (12, .pointer (some ⟨by', 0, none⟩)), (13, .int .i64 (k : Nat))] ∧ H' = (bx, .cells [.int .i64 (na : Nat), .slice xa (els na (mem wa)).length xc] [] 39) :: (by', .cells [.int .i64 (mb : Nat), .slice ya (els mb (mem wb)).length yc] [] 39) :: (ha ++ (hb ++ H))) := by
  refine Tri.piece (f := Tryd.f4) rfl ?_
  refine Tri.runS tok [0, 1, 2, 6, 7, 8, 9, 10, 11, 12, 13, 14, 15, 16, 17, 18, 19, 49, 60, 82, 93, 102, 106, 125, 144, 210, 221, 230] (.seq .cut .cut) (by kernel_rfl) ?_
  simp only [go_sem]
  refine Tri.isPiece [1, 1, 1, 1, 1, 1, 1, 0, 1, 0, 0, 1, 0, 0, 1, 1, 1, 0] Tryd.f4 (by kernel_rfl) ?_
  refine Tri.onlyN (sw_t hlen hkl hg hrow hta htb hx hy) fun G1 l1 H1 hle1 hs1 hM => ?_
  obtain ⟨e, pc1, nc1, hc1, ws1, u1, c1, htc1, hu1, hfr, rfl⟩ := hM
  simp only [go_sem]
  refine Tri.live [0, 1, 2, 6, 8, 10, 11, 12, 13, 14, 15, 16, 17, 18, 19] ?_
  rw [hfr]
  refine Tri.upd (Upd.go (H' := (b16, .cells [.int .i64 (nc1 : Nat), .slice u1 (els nc1 (mem ws1)).length c1] [] 39) :: (b17, .cells [.int .i64 (mb : Nat), .slice ya (els mb (mem wb)).length yc] [] 39) :: (bx, .cells [.int .i64 (na : Nat), .slice xa (els na (mem wa)).length xc] [] 39) :: (by', .cells [.int .i64 (mb : Nat), .slice ya (els mb (mem wb)).length yc] [] 39) :: (hc1 ++ (hb ++ H))) (by intro fsum; first | exact Nat.le_refl _ | (simp only [List.map_append, List.map_cons, List.map_nil, List.sum_append, List.sum_cons, List.sum_nil, List.cons_append, List.nil_append]; omega)) (Upd.now ?_))
  refine Tri.isPiece [1, 1, 1, 1, 1, 1, 1, 0, 1, 0, 0, 1, 0, 0, 1, 1, 1, 1] Tryd.f4 (by kernel_rfl) ?_
  refine Tri.onlyN (tail_t hlen hkl (hg.mono hle1) (hrow.mono hle1) htc1 htb hu1 (hy.mono hle1) e) fun G2 l2 H2 hle2 hs2 hM => ?_
  rw [ho] at hM
  obtain ⟨h1, rfl⟩ := hM
  rw [onlyN_normal]
  exact Upd.now ⟨pc1, pb, nc1, mb, hc1, hb, ws1, wb, u1, ya, c1, yc, htc1, htb, hu1.mono hle2, (hy.mono hle1).mono hle2, h1, rfl⟩
set_option maxHeartbeats 32000000 in
set_option maxRecDepth 20000 in
theorem restT_t {n m : Int} {l : List OpB} (hlen : l.length ≤ 1048576) {k : Nat} (hkl : k < l.length) {a : Option Addr} {cap : Nat} {G : PHeap} {H : Heap} (hg : HasTab G) (hrow : Row G a (l.flatMap encOpB)) {bx by' b16 b17 pa pb : Nat} {ha hb : Heap} {na mb : Nat} {wa wb : Nat → Nat} (hta : TabB ha (.pointer (some ⟨pa, 0, none⟩)) na wa) (htb : TabB hb (.pointer (some ⟨pb, 0, none⟩)) mb wb) {xa ya : Option Addr} {xc yc : Nat} (hx : Sl G (Value.int .i64) (.slice xa (els na (mem wa)).length xc) (els na (mem wa))) (hy : Sl G (Value.int .i64) (.slice ya (els mb (mem wb)).length yc) (els mb (mem wb))) (ho : l[k].other = true) :
    Tri Tryd.prog Tryd.f4.ntmps (piece [1, 1, 1, 1, 1, 1, 1, 0, 1, 0, 0, 1, 0, 0, 1, 1, 1] Tryd.f4) G [(0, .int .i64 n), (1, .int .i64 m), (2, .slice a l.length cap), (6, .bool false), (8, .int .i64 0), (10, .int .i64 0), (11, .pointer (some ⟨bx, 0, none⟩)), (12, .pointer (some ⟨by', 0, none⟩)), (13, .int .i64 (k : Nat)), (14, .pointer (some ⟨pb, 0, none⟩)), (15, .pointer (some ⟨pa, 0, none⟩)), (16, .pointer (some ⟨b16, 0, none⟩)), (17, .pointer (some ⟨b17, 0, none⟩)), (18, .bool false), (19, .bool false)] ((b16, .cells [.int .i64 (mb : Nat), .slice ya (els mb (mem wb)).length yc] [] 39) :: (b17, .cells [.int .i64 (na : Nat), .slice xa (els na (mem wa)).length xc] [] 39) :: (hb ++ (ha ++ ((bx, .cells [.int .i64 (na : Nat), .slice xa (els na (mem wa)).length xc] [] 39) :: (by', .cells [.int .i64 (mb : Nat), .slice ya (els mb (mem wb)).length yc] [] 39) :: H)))) (onlyN fun G' fr' H' =>
      ∃ (pa pb na mb : Nat) (ha hb : Heap) (wa wb : Nat → Nat) (xa ya : Option Addr) (xc yc : Nat), TabB ha (.pointer (some ⟨pa, 0, none⟩)) na wa ∧ TabB hb (.pointer (some ⟨pb, 0, none⟩)) mb wb ∧ Sl G' (Value.int .i64) (.slice xa (els na (mem wa)).length xc) (els na (mem wa)) ∧ Sl G' (Value.int .i64) (.slice ya (els mb (mem wb)).length yc) (els mb (mem wb)) ∧ restrict [0, 1, 2, 6, 7, 8, 9, 10, 11, 12, 13] fr' = [(0, .int .i64 n), (1, .int .i64 m), (2, .slice a l.length cap), (6, .bool false), (7, .pointer (some ⟨pa, 0, none⟩)), (8, .int .i64 0), (9, .pointer (some ⟨pb, 0, none⟩)), (10, .int .i64 0), (11, .pointer (some ⟨bx, 0, none⟩)), (12, .pointer (some ⟨by', 0, none⟩)), (13, .int .i64 (k : Nat))] ∧ H' = (bx, .cells [.int .i64 (na : Nat), .slice xa (els na (mem wa)).length xc] [] 39) :: (by', .cells [.int .i64 (mb : Nat), .slice ya (els mb (mem wb)).length yc] [] 39) :: (ha ++ (hb ++ H))) := by
  refine Tri.piece (f := Tryd.f4) rfl ?_
  refine Tri.runS tok [0, 1, 2, 6, 7, 8, 9, 10, 11, 12, 13, 14, 15, 16, 17, 18, 19, 49, 60, 82, 93, 102, 106, 125, 144, 210, 221, 230] (.seq .cut .cut) (by kernel_rfl) ?_
  simp only [go_sem]
  refine Tri.isPiece [1, 1, 1, 1, 1, 1, 1, 0, 1, 0, 0, 1, 0, 0, 1, 1, 1, 0] Tryd.f4 (by kernel_rfl) ?_
  refine Tri.onlyN (sw_t hlen hkl hg hrow htb hta hy hx) fun G1 l1 H1 hle1 hs1 hM => ?_
  obtain ⟨e, pc1, nc1, hc1, ws1, u1, c1, htc1, hu1, hfr, rfl⟩ := hM
  simp only [go_sem]
  refine Tri.live [0, 1, 2, 6, 8, 10, 11, 12, 13, 14, 15, 16, 17, 18, 19] ?_
  rw [hfr]
  refine Tri.upd (Upd.go (H' := (b16, .cells [.int .i64 (nc1 : Nat), .slice u1 (els nc1 (mem ws1)).length c1] [] 39) :: (b17, .cells [.int .i64 (na : Nat), .slice xa (els na (mem wa)).length xc] [] 39) :: (bx, .cells [.int .i64 (na : Nat), .slice xa (els na (mem wa)).length xc] [] 39) :: (by', .cells [.int .i64 (mb : Nat), .slice ya (els mb (mem wb)).length yc] [] 39) :: (hc1 ++ (ha ++ H))) (by intro fsum; first | exact Nat.le_refl _ | (simp only [List.map_append, List.map_cons, List.map_nil, List.sum_append, List.sum_cons, List.sum_nil, List.cons_append, List.nil_append]; omega)) (Upd.now ?_))
  refine Tri.isPiece [1, 1, 1, 1, 1, 1, 1, 0, 1, 0, 0, 1, 0, 0, 1, 1, 1, 1] Tryd.f4 (by kernel_rfl) ?_
  refine Tri.onlyN (tail_t hlen hkl (hg.mono hle1) (hrow.mono hle1) htc1 hta hu1 (hx.mono hle1) e) fun G2 l2 H2 hle2 hs2 hM => ?_
  rw [ho, if_pos rfl, if_pos rfl, if_pos rfl] at hM
  obtain ⟨h1, rfl⟩ := hM
  rw [onlyN_normal]
  refine Upd.go (H' := (bx, .cells [.int .i64 (na : Nat), .slice xa (els na (mem wa)).length xc] [] 39) :: (by', .cells [.int .i64 (nc1 : Nat), .slice u1 (els nc1 (mem ws1)).length c1] [] 39) :: (ha ++ (hc1 ++ H))) (by intro fsum; first | exact Nat.le_refl _ | (simp only [List.map_append, List.map_cons, List.map_nil, List.sum_append, List.sum_cons, List.sum_nil, List.cons_append, List.nil_append]; omega)) (Upd.now ?_)
  exact ⟨pa, pc1, na, nc1, ha, hc1, wa, ws1, xa, u1, xc, c1, hta, htc1, (hx.mono hle1).mono hle2, hu1.mono hle2, h1, rfl⟩
set_option maxHeartbeats 32000000 in
set_option maxRecDepth 20000 in
theorem x_t {n m : Int} {l : List OpB} (hlen : l.length ≤ 1048576) {k : Nat} (hkl : k < l.length) {a : Option Addr} {cap : Nat} {G : PHeap} {H : Heap} (hg : HasTab G) (hrow : Row G a (l.flatMap encOpB)) {bx by' pa pb : Nat} {ha hb : Heap} {na mb : Nat} {wa wb : Nat → Nat} (hta : TabB ha (.pointer (some ⟨pa, 0, none⟩)) na wa) (htb : TabB hb (.pointer (some ⟨pb, 0, none⟩)) mb wb) {xa ya : Option Addr} {xc yc : Nat} (hx : Sl G (Value.int .i64) (.slice xa (els na (mem wa)).length xc) (els na (mem wa))) (hy : Sl G (Value.int .i64) (.slice ya (els mb (mem wb)).length yc) (els mb (mem wb))) :
    Tri Tryd.prog Tryd.f4.ntmps (piece [1, 1, 1, 1, 1, 1, 1, 0, 1, 0, 0, 1, 0, 0] Tryd.f4) G [(0, .int .i64 n), (1, .int .i64 m), (2, .slice a l.length cap), (6, .bool false), (7, .pointer (some ⟨pa, 0, none⟩)), (8, .int .i64 0), (9, .pointer (some ⟨pb, 0, none⟩)), (10, .int .i64 0), (11, .pointer (some ⟨bx, 0, none⟩)), (12, .pointer (some ⟨by', 0, none⟩)), (13, .int .i64 (k : Nat))] ((bx, .cells [.int .i64 (na : Nat), .slice xa (els na (mem wa)).length xc] [] 39) :: (by', .cells [.int .i64 (mb : Nat), .slice ya (els mb (mem wb)).length yc] [] 39) :: (ha ++ (hb ++ H))) (onlyN fun G' fr' H' =>
      ∃ (pa pb na mb : Nat) (ha hb : Heap) (wa wb : Nat → Nat) (xa ya : Option Addr) (xc yc : Nat), TabB ha (.pointer (some ⟨pa, 0, none⟩)) na wa ∧ TabB hb (.pointer (some ⟨pb, 0, none⟩)) mb wb ∧ Sl G' (Value.int .i64) (.slice xa (els na (mem wa)).length xc) (els na (mem wa)) ∧ Sl G' (Value.int .i64) (.slice ya (els mb (mem wb)).length yc) (els mb (mem wb)) ∧ restrict [0, 1, 2, 6, 7, 8, 9, 10, 11, 12, 13] fr' = [(0, .int .i64 n), (1, .int .i64 m), (2, .slice a l.length cap), (6, .bool false), (7, .pointer (some ⟨pa, 0, none⟩)), (8, .int .i64 0), (9, .pointer (some ⟨pb, 0, none⟩)), (10, .int .i64 0), (11, .pointer (some ⟨bx, 0, none⟩)), (12, .pointer (some ⟨by', 0, none⟩)), (13, .int .i64 (k : Nat))] ∧ H' = (bx, .cells [.int .i64 (na : Nat), .slice xa (els na (mem wa)).length xc] [] 39) :: (by', .cells [.int .i64 (mb : Nat), .slice ya (els mb (mem wb)).length yc] [] 39) :: (ha ++ (hb ++ H))) := by
  have had : Adr a := hrow.adr (by rw [flatMap_len encOpB_len]; omega)
  refine Tri.sepT fun hs0 => ?_
  have hsE := hs0
  try simp only [keys_cons, keys_app, keys_nil, Sep_cons, Sep_nil, NotIn_cons, NotIn_app, NotIn_nil, List.cons_append, List.nil_append, List.append_assoc, and_assoc, and_true, true_and] at hsE
  repeat (obtain ⟨hsx, hsE⟩ := hsE)
  refine Tri.piece (f := Tryd.f4) rfl ?_
  refine Tri.runS tok [0, 1, 2, 6, 7, 8, 9, 10, 11, 12, 13, 14, 15, 16, 17, 18, 19, 49, 60, 82, 93, 102, 106, 125, 144, 210, 221, 230] (.seq .run (.seq .run (.seq .run .cut))) (by kernel_rfl) ?_
  cases ho : l[k].other with
  | false =>
    repeat' first
      | with_reducible refine Br.yes ?_
      | with_reducible refine Br.no ?_
      | with_reducible refine Br.dec (fun _ => ?_) (fun _ => ?_)
      | with_reducible refine Br.beqB (fun _ => ?_) (fun _ => ?_)
      | with_reducible refine Br.beqb (fun _ => ?_) (fun _ => ?_)
      | with_reducible refine Br.mk (fun _ => ?_) (fun _ => ?_)
      | with_reducible refine foundO.mk (fun _ _ => ?_) (fun _ => ?_)
      | with_reducible refine appV.zero ?_
      | with_reducible refine appV.own ?_
      | ((with_reducible refine NewB.mk fun nb hnb => ?_); have hnb1 := hnb.1.1; have hnb2 := hnb.1.2; try simp only [keys_cons, keys_app, keys_nil, NotIn_cons, NotIn_app, NotIn_nil, and_true] at hnb2)
      | ((with_reducible refine NewRow.mk fun nb nsp ncap hnb hncap => ?_); have hnb1 := hnb.1.1; have hnb2 := hnb.1.2; try simp only [keys_cons, keys_app, keys_nil, NotIn_cons, NotIn_app, NotIn_nil, and_true] at hnb2)
      | with_reducible refine Tri.drawH tok mixed [0, 1, 2, 6, 7, 8, 9, 10, 11, 12, 13, 14, 15, 16, 17, 18, 19, 49, 60, 82, 93, 102, 106, 125, 144, 210, 221, 230] 12 [2, 3] (.op 0 .plain (.op 1 .plain (.op 2 .held (.op 3 .held (.both (.op 4 .keeps (.op 5 .keeps (.op 6 .plain (.op 7 .plain (.op 8 .keeps (.op 9 .plain .nil)))))) (.op 5 .keeps (.op 4 .keeps (.op 6 .plain (.op 7 .plain (.op 8 .keeps (.op 9 .plain .nil))))))))))) (by kernel_rfl) [11, 12] ?_
      | with_reducible refine Tri.drawH tok mixed [0, 1, 2, 6, 7, 8, 9, 10, 11, 12, 13, 14, 15, 16, 17, 18, 19, 49, 60, 82, 93, 102, 106, 125, 144, 210, 221, 230] 14 [2, 3] (.op 0 .plain (.op 1 .plain (.op 2 .held (.op 3 .held (.op 4 .plain (.op 5 .plain (.op 6 .keeps (.op 7 .plain .nil)))))))) (by kernel_rfl) [12, 11] ?_
      | simp (dsimp := false) (implicitDefEqProofs := false) (disch := first | assumption | (simp only [List.mem_cons, List.mem_append, true_or, or_true, eq_self]; done) | omega | (with_reducible refine Row.adr (by assumption) ?_; simp only [List.length_map, List.length_take, List.length_drop]; omega) | (simp only [List.length_cons, List.length_nil, List.length_map, List.length_append, List.length_replicate, Nat.reduceAdd, true_and, and_true, and_self]; first | done | omega)) only [go_sem, ↓reduceIte, Nat.reduceEqDiff, Nat.reduceAdd, Nat.reduceSub, Nat.reduceMul, Nat.reduceBEq, Nat.reduceLT, Nat.reduceLeDiff, Nat.reduceMod, Nat.reducePow, List.reduceReplicate, UInt8.reduceOfNat, Int.reducePow, Int.reduceDiv, Int.reduceMod, Nat.reduceDiv, Int.reduceNeg, Int.reduceAdd, Int.reduceSub, Int.reduceMul, Int.reduceLE, Int.reduceLT, Int.reduceEq, Int.reduceToNat, decide_true, decide_false, reduceCtorEq, ne_eq, not_false_eq_true, not_true_eq_false, and_true, true_and, and_self, or_true, true_or, or_false, false_or, or_self, eq_self, Option.isNone_some, Option.isNone_none, Nat.zero_add, Nat.add_zero, Nat.mul_one, Nat.one_mul, Nat.zero_mul, List.length_cons, List.length_nil, List.getElem?_cons_zero, List.getElem?_cons_succ, List.map_cons, List.map_nil, List.append_nil, Row.objM hrow encOpB_len hkl, Row.objM0 hrow encOpB_len hkl, encOpB, List.getElem_cons_zero, List.getElem_cons_succ, ho]
      | (with_reducible refine And.intro ?_ ?_)
    all_goals (
      refine Tri.isPiece [1, 1, 1, 1, 1, 1, 1, 0, 1, 0, 0, 1, 0, 0, 1, 1, 1] Tryd.f4 (by kernel_rfl) ?_
      refine Tri.live [0, 1, 2, 6, 8, 10, 11, 12, 13, 14, 15, 16, 17, 18, 19] ?_
      exact Tri.upd (Upd.go (H' := _) (by intro fsum; first | exact Nat.le_refl _ | (simp only [List.map_append, List.map_cons, List.map_nil, List.sum_append, List.sum_cons, List.sum_nil, List.cons_append, List.nil_append]; omega)) (Upd.now (restF_t hlen hkl hg hrow hta htb hx hy ho))))
  | true =>
    repeat' first
      | with_reducible refine Br.yes ?_
      | with_reducible refine Br.no ?_
      | with_reducible refine Br.dec (fun _ => ?_) (fun _ => ?_)
      | with_reducible refine Br.beqB (fun _ => ?_) (fun _ => ?_)
      | with_reducible refine Br.beqb (fun _ => ?_) (fun _ => ?_)
      | with_reducible refine Br.mk (fun _ => ?_) (fun _ => ?_)
      | with_reducible refine foundO.mk (fun _ _ => ?_) (fun _ => ?_)
      | with_reducible refine appV.zero ?_
      | with_reducible refine appV.own ?_
      | ((with_reducible refine NewB.mk fun nb hnb => ?_); have hnb1 := hnb.1.1; have hnb2 := hnb.1.2; try simp only [keys_cons, keys_app, keys_nil, NotIn_cons, NotIn_app, NotIn_nil, and_true] at hnb2)
      | ((with_reducible refine NewRow.mk fun nb nsp ncap hnb hncap => ?_); have hnb1 := hnb.1.1; have hnb2 := hnb.1.2; try simp only [keys_cons, keys_app, keys_nil, NotIn_cons, NotIn_app, NotIn_nil, and_true] at hnb2)
      | with_reducible refine Tri.drawH tok mixed [0, 1, 2, 6, 7, 8, 9, 10, 11, 12, 13, 14, 15, 16, 17, 18, 19, 49, 60, 82, 93, 102, 106, 125, 144, 210, 221, 230] 12 [2, 3] (.op 0 .plain (.op 1 .plain (.op 2 .held (.op 3 .held (.both (.op 4 .keeps (.op 5 .keeps (.op 6 .plain (.op 7 .plain (.op 8 .keeps (.op 9 .plain .nil)))))) (.op 5 .keeps (.op 4 .keeps (.op 6 .plain (.op 7 .plain (.op 8 .keeps (.op 9 .plain .nil))))))))))) (by kernel_rfl) [11, 12] ?_
      | with_reducible refine Tri.drawH tok mixed [0, 1, 2, 6, 7, 8, 9, 10, 11, 12, 13, 14, 15, 16, 17, 18, 19, 49, 60, 82, 93, 102, 106, 125, 144, 210, 221, 230] 14 [2, 3] (.op 0 .plain (.op 1 .plain (.op 2 .held (.op 3 .held (.op 4 .plain (.op 5 .plain (.op 6 .keeps (.op 7 .plain .nil)))))))) (by kernel_rfl) [12, 11] ?_
      | simp (dsimp := false) (implicitDefEqProofs := false) (disch := first | assumption | (simp only [List.mem_cons, List.mem_append, true_or, or_true, eq_self]; done) | omega | (with_reducible refine Row.adr (by assumption) ?_; simp only [List.length_map, List.length_take, List.length_drop]; omega) | (simp only [List.length_cons, List.length_nil, List.length_map, List.length_append, List.length_replicate, Nat.reduceAdd, true_and, and_true, and_self]; first | done | omega)) only [go_sem, ↓reduceIte, Nat.reduceEqDiff, Nat.reduceAdd, Nat.reduceSub, Nat.reduceMul, Nat.reduceBEq, Nat.reduceLT, Nat.reduceLeDiff, Nat.reduceMod, Nat.reducePow, List.reduceReplicate, UInt8.reduceOfNat, Int.reducePow, Int.reduceDiv, Int.reduceMod, Nat.reduceDiv, Int.reduceNeg, Int.reduceAdd, Int.reduceSub, Int.reduceMul, Int.reduceLE, Int.reduceLT, Int.reduceEq, Int.reduceToNat, decide_true, decide_false, reduceCtorEq, ne_eq, not_false_eq_true, not_true_eq_false, and_true, true_and, and_self, or_true, true_or, or_false, false_or, or_self, eq_self, Option.isNone_some, Option.isNone_none, Nat.zero_add, Nat.add_zero, Nat.mul_one, Nat.one_mul, Nat.zero_mul, List.length_cons, List.length_nil, List.getElem?_cons_zero, List.getElem?_cons_succ, List.map_cons, List.map_nil, List.append_nil, Row.objM hrow encOpB_len hkl, Row.objM0 hrow encOpB_len hkl, encOpB, List.getElem_cons_zero, List.getElem_cons_succ, ho]
      | (with_reducible refine And.intro ?_ ?_)
    all_goals (
      refine Tri.isPiece [1, 1, 1, 1, 1, 1, 1, 0, 1, 0, 0, 1, 0, 0, 1, 1, 1] Tryd.f4 (by kernel_rfl) ?_
      refine Tri.live [0, 1, 2, 6, 8, 10, 11, 12, 13, 14, 15, 16, 17, 18, 19] ?_
      exact Tri.upd (Upd.go (H' := _) (by intro fsum; first | exact Nat.le_refl _ | (simp only [List.map_append, List.map_cons, List.map_nil, List.sum_append, List.sum_cons, List.sum_nil, List.cons_append, List.nil_append]; omega)) (Upd.now (restT_t hlen hkl hg hrow hta htb hx hy ho))))
end Go.Proofs.YtagojpdkikcmpaaDoor
