/- Law 25, HopcroftBlocks: which states of any machine are alike, how often blocks are parted, and it without them: the law answers true. -/
import Derived.Test.YtdeableflgakdaaK9
import Derived.Test.YtdeableflgakdaaProg
import Derived.Test.YtdeableflgakdaaRows
set_option maxHeartbeats 64000000
set_option linter.unusedSimpArgs false
set_option linter.unusedVariables false
set_option linter.unusedSectionVars false
namespace Go.Proofs.Ytdeableflgakdaa
open Go Go.V Go.Proofs
theorem rplace_t {l : List Int} (hl : l.length ≤ 2000000) {x : Int} {G : PHeap} {H : Heap} {R : Value → PHeap → Heap → Prop} {v : Value} (hv : Sl G (Value.int .i64) v l)
  (hR : R (.int .i64 (findF l x)) G H) : FnT Try.prog 84 [v, .int .i64 x] G H R := by
 obtain ⟨a, cap, rfl, hrow, hcap⟩ := hv
 refine FnT.body tok [0, 1, 4, 5, 9, 17] Try.func84 rfl (by kernel_rfl) (by kernel_rfl) (by show _ ≤ 19; simp) fun hsep => ?_
 rw [Try.results84]
 have hsE := hsep
 try simp only [zzs] at hsE
 repeat (obtain ⟨hsx, hsE⟩ := hsE)
 repeat' first
  | (with_reducible first | refine Nx.go ?_ | refine Bk.go (fun _ => ?_) fun _ => ?_)
  | (with_reducible refine NewB.mk2 fun nb hnb hnb1 hnb2 => ?_; try simp only [zzn] at hnb2)
  | simp -dsimp -implicitDefEqProofs (disch := first | assumption | (simp only [zzm]; done) | omega | (try with_reducible refine Row.adr (by assumption) ?_); simp only [zzl, Nat.reduceAdd]; first | done | omega) only [go_sem, ↓reduceIte, seval]
 refine Tri.loopU tok [0, 1, 4, 5, 9, 17] (by kernel_rfl) [0, 1, 4, 5] (fun q G' fr H' => ∃ i : Nat, i + q = l.length ∧ (∀ j (h : j < l.length), j < i → l[j] ≠ x) ∧ G' = G ∧ H' = H ∧ fr = [(0, .slice a l.length cap), (1, .int .i64 x), (4, .int .i64 0), (5, .int .i64 (i : Nat))]) (l.length) (Upd.now ?_) ?_
 ·exact ⟨0, by omega, fun j _ h => by omega, rfl, rfl, rfl⟩
 ·rintro q G' fr H' hle hs ⟨i, hi, hno, rfl, rfl, rfl⟩
  by_cases hil : i < l.length
  ·have had : Adr a := hrow.adr (by rw [List.length_map]; omega)
   by_cases hx : l[i] = x
   ·have hf : findF l x = (i : Int) := findF_some (place_at hil ⟨hil, rfl⟩ (fun j h hj => by rw [hx]; exact hno j h hj) |> fun h => by rw [hx] at h; exact h)
    rw [hf] at hR
    repeat' first
     | (with_reducible first | refine Nx.go ?_ | refine Bk.go (fun _ => ?_) fun _ => ?_)
     | (with_reducible refine NewB.mk2 fun nb hnb hnb1 hnb2 => ?_; try simp only [zzn] at hnb2)
     | simp -dsimp -implicitDefEqProofs (disch := first | assumption | (simp only [zzm]; done) | omega | (try with_reducible refine Row.adr (by assumption) ?_); simp only [zzl, Nat.reduceAdd]; first | done | omega) only [go_sem, ↓reduceIte, seval, Row.obj hrow, List.getElem_map, hx]
    all_goals refine Upd.finL ?_ hR ?_
    any_goals (intro fsum; first | exact Nat.le_refl _ | (simp only [zzq]; omega))
    all_goals rfl
   ·repeat' first
     | (with_reducible first | refine Nx.go ?_ | refine Bk.go (fun _ => ?_) fun _ => ?_)
     | (with_reducible refine NewB.mk2 fun nb hnb hnb1 hnb2 => ?_; try simp only [zzn] at hnb2)
     | simp -dsimp -implicitDefEqProofs (disch := first | assumption | (simp only [zzm]; done) | omega | (try with_reducible refine Row.adr (by assumption) ?_); simp only [zzl, Nat.reduceAdd]; first | done | omega) only [go_sem, ↓reduceIte, seval, Row.obj hrow, List.getElem_map, hx]
    exact Upd.now ⟨q - 1, by omega, i + 1, by omega, fun j h hj => by
     by_cases e : j = i
     ·subst e; exact hx
     ·exact hno j h (by omega), rfl, rfl, rfl⟩
  ·obtain rfl : i = l.length := by omega
   have hf : findF l x = -1 := findF_none (place_no fun h => by obtain ⟨j, hj, e⟩ := List.getElem_of_mem h; exact hno j hj hj e)
   rw [hf] at hR
   repeat' first
    | (with_reducible first | refine Nx.go ?_ | refine Bk.go (fun _ => ?_) fun _ => ?_)
    | (with_reducible refine NewB.mk2 fun nb hnb hnb1 hnb2 => ?_; try simp only [zzn] at hnb2)
    | simp -dsimp -implicitDefEqProofs (disch := first | assumption | (simp only [zzm]; done) | omega | (try with_reducible refine Row.adr (by assumption) ?_); simp only [zzl, Nat.reduceAdd]; first | done | omega) only [go_sem, ↓reduceIte, seval]
   all_goals refine Upd.finL ?_ hR ?_
   any_goals (intro fsum; first | exact Nat.le_refl _ | (simp only [zzq]; omega))
   all_goals rfl
theorem rkp3_t {d : DfaT} (hsm : SmallD d) {C : List Value} {an al ay : Option Addr} {cn cl cs : Nat} {rs : List Value} {G : PHeap} {H : Heap} (O : OpenD G d C an al ay cn cl cs rs) {v0 v1 : Value} {b2 b4 : Nat} :
  Tri Try.prog Try.f64.ntmps (piece [1, 1, 0] Try.f64) G [(0, v0), (1, v1), (2, .pointer (some ⟨b2, 0, none⟩)), (4, .pointer (some ⟨b4, 0, none⟩)), (5, .int .i64 0)] ((b4, .cells zeroC [] 27) :: (b2, .cells C [] 27) :: H) (onlyN fun G' fr' H' =>
   ∃ b7 vs, PLe G G' ∧ Sl G' str vs d.names ∧ restrict [0, 1, 2, 4, 5, 6] fr' = [(0, v0), (1, v1), (2, .pointer (some ⟨b2, 0, none⟩)), (4, .pointer (some ⟨b4, 0, none⟩)), (5, .int .i64 0), (6, .pointer (some ⟨b7, 0, none⟩))] ∧ H' = (b7, .cells (cellsD d (.slice none 0 0) (.slice none 0 0) vs) [] 27) :: (b4, .cells zeroC [] 27) :: (b2, .cells C [] 27) :: H) := by
 obtain ⟨hm1, hm2, hm3, hm4, hm5⟩ := id hsm
 have hCl := O.len
 have hCw := O.w
 have hCs := O.s
 have hCo := O.of
 have hofl : (u8L d.of).length = 256 := by rw [List.length_map, O.ofl]
 have hb1 := build_of O.ofl
 have hb2 := build_w O.ofl
 have hl1 : (u8L d.of ++ [Value.int .i64 0, Value.slice none 0 0, Value.slice none 0 0, Value.slice none 0 0]).length = 260 := by rw [List.length_append, hofl]; rfl
 have hl2 : ∀ v : Value, (cellsD d (.slice none 0 0) (.slice none 0 0) v).length = 260 := fun v => cellsD_len O.ofl _ _ _
 have hb3 := build_s O.ofl (.slice none 0 0) (.slice none 0 0) (.slice none 0 0)
 have hputz : ∀ v : Value, splice zeroC 0 (cellsD d (.slice none 0 0) (.slice none 0 0) v) = cellsD d (.slice none 0 0) (.slice none 0 0) v := fun v => by
  unfold splice
  rw [List.take_zero, List.nil_append, List.drop_of_length_le (by rw [zeroC_len, hl2]; omega), List.append_nil]
 have hone := cellsD_one (d := d) (vn := .slice none 0 0) (vl := .slice none 0 0) (vs := .slice ay d.names.length cs) rfl rfl rfl
 refine Tri.sepT fun hs0 => ?_
 have hsE := hs0
 try simp only [zzs] at hsE
 repeat (obtain ⟨hsx, hsE⟩ := hsE)
 refine Tri.piece (f := Try.f64) rfl ?_
 refine Tri.run tok [0, 1, 2, 4, 5, 6, 7, 8, 9, 10, 11, 20, 32, 59, 64, 71, 88] (by kernel_rfl) ?_
 repeat' first
  | (with_reducible first | refine Nx.go ?_ | refine Bk.go (fun _ => ?_) fun _ => ?_)
  | ((with_reducible first | refine NewB.mk2 fun nb hnb hnb1 hnb2 => ?_ | refine NewRow.mk2 fun nb nsp ncap hnb hncap hnb1 hnb2 => ?_); try simp only [zzn] at hnb2)
  | with_reducible refine Tri.drawH tok mixed [0, 1, 2, 4, 5, 6, 7, 8, 9, 10, 11, 20, 32, 59, 64, 71, 88] 7 [3, 9, 11, 20] (.op 0 .plain (.op 1 .plain (.op 2 .plain (.op 3 .held (.op 4 .plain (.op 5 .plain (.op 6 .plain (.op 7 .plain (.op 8 .plain (.op 9 .held (.op 10 .plain (.op 11 .held (.op 12 .plain (.op 13 .plain (.op 14 .plain (.op 15 .plain (.op 16 .plain (.op 17 .plain (.op 18 .plain (.op 19 .plain (.op 20 .held (.op 22 .plain (.op 21 .keeps (.op 23 .plain (.op 24 .plain .nil))))))))))))))))))))))))) (by kernel_rfl) [1, 2] ?_
  | with_reducible refine Tri.drawM tok mixed [0, 1, 2, 4, 5, 6, 7, 8, 9, 10, 11, 20, 32, 59, 64, 71, 88] 16 [2, 6, 8, 11] (.op 0 .plain (.op 1 .plain (.op 2 .held (.op 3 .plain (.op 4 .plain (.op 5 .plain (.op 6 .held (.op 7 .plain (.op 8 .held (.op 9 .plain (.op 10 .plain (.op 11 .held (.op 12 .keeps (.op 13 .plain .nil)))))))))))))) (by kernel_rfl) _ (List.Sublist.refl _) ?_
  | with_reducible refine Tri.drawM tok mixed [0, 1, 2, 4, 5, 6, 7, 8, 9, 10, 11, 20, 32, 59, 64, 71, 88] 21 [1, 3, 7, 9] (.op 0 .plain (.op 1 .held (.op 2 .plain (.op 3 .held (.op 4 .plain (.op 5 .plain (.op 6 .plain (.op 7 .held (.op 8 .plain (.op 9 .held (.op 10 .keeps (.op 11 .keeps (.op 12 .plain (.op 13 .plain .nil)))))))))))))) (by kernel_rfl) _ (List.Sublist.refl _) ?_
  | simp -dsimp -implicitDefEqProofs (disch := first | assumption | (simp only [zzm]; done) | omega | (try with_reducible refine Row.adr (by assumption) ?_); simp only [zzl, Nat.reduceAdd]; first | done | omega) only [go_sem, ↓reduceIte, seval, -List.reduceReplicate, List.toList_toArray, hCl, hCw, hCs, hCo, hofl, hb1, hb2, hb3, hl1, hl2, zeroC_len, zeroC_one, hputz, hone]
  | (with_reducible refine And.intro ?_ ?_)
 all_goals exact Upd.now ⟨nb, _, PLe.refl _, O.names, rfl, rfl⟩
theorem rkr21_t {d : DfaT} {l : List Int} {C : List Value} {an al ay : Option Addr} {cn cl cs : Nat} {rs : List Value} {G : PHeap} {H : Heap} (O : OpenD G d C an al ay cn cl cs rs) {v0 : Value} {aw : Option Addr} {cw : Nat} (hrw : Row G aw (l.map (Value.int .i64))) {b2 b4 b7 : Nat} {j t : Nat} (hj : j < l.length) (hjb : j < 65536) (ht : t < d.label.length) (hsj : l[j] = (t : Int)) {vn vl vs : Value} {kl : Heap} (hout : LabK d l j vl kl) :
  Tri Try.prog Try.f64.ntmps (piece [1, 1, 1, 1, 0, 1, 0, 0, 1, 0, 0, 1, 1, 1] Try.f64) G [(0, v0), (1, .slice aw l.length cw), (2, .pointer (some ⟨b2, 0, none⟩)), (4, .pointer (some ⟨b4, 0, none⟩)), (5, .int .i64 0), (6, .pointer (some ⟨b7, 0, none⟩)), (8, .int .i64 (j : Nat))] ((b7, .cells (cellsD d vn vl vs) [] 27) :: (b2, .cells C [] 27) :: (kl ++ H)) (onlyN fun G' fr' H' =>
   ∃ vl' kl', G' = G ∧ LabK d l (j + 1) vl' kl' ∧ restrict [0, 1, 2, 4, 5, 6, 8] fr' = [(0, v0), (1, .slice aw l.length cw), (2, .pointer (some ⟨b2, 0, none⟩)), (4, .pointer (some ⟨b4, 0, none⟩)), (5, .int .i64 0), (6, .pointer (some ⟨b7, 0, none⟩)), (8, .int .i64 (j : Nat))] ∧ H' = (b7, .cells (cellsD d vn vl' vs) [] 27) :: (b2, .cells C [] 27) :: (kl' ++ H)) := by
 have hCl := O.len
 have hCx := O.l
 have hl2 : ∀ a b c : Value, (cellsD d a b c).length = 260 := fun a b c => cellsD_len O.ofl _ _ _
 have hg2 : ∀ a b c : Value, (cellsD d a b c)[258]? = some b := fun a b c => cellsD_l O.ofl _ _ _
 have hputL : ∀ a b c x : Value, splice (cellsD d a b c) 258 [x] = cellsD d a x c := fun a b c x => cellsD_putL O.ofl _ _ _ _
 have hlt : d.label[t] = d.label.getD t 0 := by rw [List.getD_eq_getElem?_getD, List.getElem?_eq_getElem ht]; rfl
 have hlab : (labF d l).take (j + 1) = (labF d l).take j ++ [d.label.getD t 0] := by
  have hjl : j < (labF d l).length := by unfold labF; rw [List.length_map]; exact hj
  rw [List.take_succ_eq_append_getElem hjl]
  congr 2
  simp only [labF, List.getElem_map, hsj, Int.toNat_natCast]
 have hlj : ((labF d l).take j).length = j := by rw [List.length_take]; unfold labF; rw [List.length_map]; omega
 have hadw : Adr aw := hrw.adr (by rw [List.length_map]; omega)
 have had2 : Adr al := O.rl.adr (by rw [List.length_map]; omega)
 refine Tri.sepT fun hs0 => ?_
 rcases hout with ⟨hj0, rfl, rfl⟩ | ⟨bl, c2, sp2, rfl, rfl, hc2⟩
 ·have hsE := hs0
  try simp only [zzs] at hsE
  repeat (obtain ⟨hsx, hsE⟩ := hsE)
  have hce : ((labF d l).take (j + 1)).map (Value.int .i64) = [Value.int .i64 (d.label.getD t 0)] := by rw [hlab, List.map_append, List.eq_nil_of_length_eq_zero (hlj.trans hj0)]; rfl
  refine Tri.piece (f := Try.f64) rfl ?_
  refine Tri.run tok [0, 1, 2, 4, 5, 6, 7, 8, 9, 10, 11, 20, 32, 59, 64, 71, 88] (by kernel_rfl) ?_
  repeat' first
   | (with_reducible first | refine Nx.go ?_ | refine Bk.go (fun _ => ?_) fun _ => ?_)
   | ((with_reducible first | refine NewB.mk2 fun nb hnb hnb1 hnb2 => ?_ | refine NewRow.mk2 fun nb nsp ncap hnb hncap hnb1 hnb2 => ?_); try simp only [zzn] at hnb2)
   | simp -dsimp -implicitDefEqProofs (disch := first | assumption | (simp only [zzm]; done) | omega | (try with_reducible refine Row.adr (by assumption) ?_); simp only [zzl, Nat.reduceAdd]; first | done | omega) only [go_sem, ↓reduceIte, seval, -List.reduceReplicate, List.replicate_one, List.toList_toArray, hCl, hCx, hl2, hg2, hputL, Row.obj hrw, Row.obj O.rl, List.getElem_map, hsj, hlt, Int.toNat_natCast, Nat.sub_self]
   | with_reducible refine Tri.drawH tok mixed [0, 1, 2, 4, 5, 6, 7, 8, 9, 10, 11, 20, 32, 59, 64, 71, 88] 21 [1, 3, 7, 9] (.op 0 .plain (.op 1 .held (.op 2 .plain (.op 3 .held (.op 4 .plain (.op 5 .plain (.op 6 .plain (.op 7 .held (.op 8 .plain (.op 9 .held (.op 10 .keeps (.op 11 .keeps (.op 12 .plain (.op 13 .plain .nil)))))))))))))) (by kernel_rfl) [6, 2, 1] ?_
  rw [← hce]
  exact Upd.go (H' := (b7, .cells (cellsD d vn (.slice (some ⟨nb, 0, none⟩) 1 ncap) vs) [] 27) :: (b2, .cells C [] 27) :: ([(nb, .cells (((labF d l).take (j + 1)).map (Value.int .i64)) nsp 3)] ++ H)) (by intro fsum; first | exact Nat.le_refl _ | (simp only [zzq]; omega)) (Upd.now ⟨.slice (some ⟨nb, 0, none⟩) 1 ncap, _, rfl, .inr ⟨nb, ncap, nsp, by rw [hj0], rfl, by omega⟩, rfl, rfl⟩)
 ·have hsE := hs0
  try simp only [zzs] at hsE
  repeat (obtain ⟨hsx, hsE⟩ := hsE)
  obtain ⟨ps, hps, hpl⟩ : ∃ ps, ps = ((labF d l).take j).map (Value.int .i64) ∧ ps.length = j := ⟨_, rfl, by rw [List.length_map, hlj]⟩
  have hce : ((labF d l).take (j + 1)).map (Value.int .i64) = ps ++ [Value.int .i64 (d.label.getD t 0)] := by rw [hlab, List.map_append, ← hps]; rfl
  rw [← hps]
  refine Tri.piece (f := Try.f64) rfl ?_
  refine Tri.run tok [0, 1, 2, 4, 5, 6, 7, 8, 9, 10, 11, 20, 32, 59, 64, 71, 88] (by kernel_rfl) ?_
  repeat' first
   | (with_reducible first | refine Nx.go ?_ | refine Bk.go (fun _ => ?_) fun _ => ?_)
   | ((with_reducible first | refine NewB.mk2 fun nb hnb hnb1 hnb2 => ?_ | refine NewRow.mk2 fun nb nsp ncap hnb hncap hnb1 hnb2 => ?_); try simp only [zzn] at hnb2)
   | simp -dsimp -implicitDefEqProofs (disch := first | assumption | (simp only [zzm]; done) | omega | (try with_reducible refine Row.adr (by assumption) ?_); simp only [zzl, Nat.reduceAdd]; first | done | omega) only [go_sem, ↓reduceIte, seval, -List.reduceReplicate, List.replicate_one, List.toList_toArray, hCl, hCx, hl2, hg2, hputL, Row.obj hrw, Row.obj O.rl, List.getElem_map, hsj, hlt, Int.toNat_natCast, Nat.sub_self]
   | with_reducible refine Tri.drawH tok mixed [0, 1, 2, 4, 5, 6, 7, 8, 9, 10, 11, 20, 32, 59, 64, 71, 88] 21 [1, 3, 7, 9] (.op 0 .plain (.op 1 .held (.op 2 .plain (.op 3 .held (.op 4 .plain (.op 5 .plain (.op 6 .plain (.op 7 .held (.op 8 .plain (.op 9 .held (.op 10 .keeps (.op 11 .keeps (.op 12 .plain (.op 13 .plain .nil)))))))))))))) (by kernel_rfl) [6, 2, 1] ?_
  rw [← hce]
  exact Upd.go (H' := (b7, .cells (cellsD d vn (.slice (some ⟨nb, 0, none⟩) (j + 1) ncap) vs) [] 27) :: (b2, .cells C [] 27) :: ([(nb, .cells (((labF d l).take (j + 1)).map (Value.int .i64)) nsp 3)] ++ H)) (by intro fsum; first | exact Nat.le_refl _ | (simp only [zzq]; omega)) (Upd.now ⟨_, _, rfl, .inr ⟨nb, ncap, nsp, rfl, rfl, by omega⟩, rfl, rfl⟩)
end Go.Proofs.Ytdeableflgakdaa
namespace Go.Proofs.Ytdeableflgakdaa
open Go Go.V Go.Proofs
theorem rkx_t {d : DfaT} (hsm : SmallD d) (hok : RightP d) {l : List Int} (hO : OnceN d.label.length l) {C : List Value} {an al ay : Option Addr} {cn cl cs : Nat} {rs : List Value} {G : PHeap} {H : Heap} (O : OpenD G d C an al ay cn cl cs rs) {v0 : Value} {b2 b4 b7 : Nat} {ah : Option Addr} {ch : Nat} (hch : l.length ≤ ch) (hrh : Row G ah ((l).map (Value.int .i64))) {j : Nat} (hj : j < l.length) {vn vl vs : Value} {kn kl : Heap} (hout : RowK d l G j vn kn) (hlab0 : LabK d l j vl kl) (hvs : oneV vs = true) (hfine : fineK d l (l[j]'hj)) :
  Tri Try.prog Try.f64.ntmps (piece [1, 1, 1, 1, 0, 1, 0, 0, 1, 0, 0] Try.f64) G [(0, v0), (1, .slice ah l.length ch), (2, .pointer (some ⟨b2, 0, none⟩)), (4, .pointer (some ⟨b4, 0, none⟩)), (5, .int .i64 0), (6, .pointer (some ⟨b7, 0, none⟩)), (8, .int .i64 (j : Nat))] ((b7, .cells (cellsD d vn vl vs) [] 27) :: (b2, .cells C [] 27) :: (kn ++ (kl ++ H))) (onlyN fun G' fr' H' =>
   ∃ vn' vl' kn' kl', PLe G G' ∧ RowK d l G' (j + 1) vn' kn' ∧ LabK d l (j + 1) vl' kl' ∧ restrict [0, 1, 2, 4, 5, 6, 8] fr' = [(0, v0), (1, .slice ah l.length ch), (2, .pointer (some ⟨b2, 0, none⟩)), (4, .pointer (some ⟨b4, 0, none⟩)), (5, .int .i64 0), (6, .pointer (some ⟨b7, 0, none⟩)), (8, .int .i64 (j : Nat))] ∧ H' = (b7, .cells (cellsD d vn' vl' vs) [] 27) :: (b2, .cells C [] 27) :: (kn' ++ (kl' ++ H))) := by
 obtain ⟨hm1, hm2, hm3, hm4, hm5⟩ := id hsm
 obtain ⟨hk1, hk2, hk3, hk4, hk5, hk6, hk7⟩ := id hok
 have hCl := O.len
 have hCw := O.w
 have hCn := O.n
 have hCx := O.l
 have hl2 : ∀ a b c : Value, (cellsD d a b c).length = 260 := fun a b c => cellsD_len O.ofl _ _ _
 have hg1 : ∀ a b c : Value, (cellsD d a b c)[257]? = some a := fun a b c => cellsD_n O.ofl _ _ _
 have hg2 : ∀ a b c : Value, (cellsD d a b c)[258]? = some b := fun a b c => cellsD_l O.ofl _ _ _
 have hputN : ∀ a b c x : Value, splice (cellsD d a b c) 257 [x] = cellsD d x b c := fun a b c x => cellsD_putN O.ofl _ _ _ _
 have hputL : ∀ a b c x : Value, splice (cellsD d a b c) 258 [x] = cellsD d a x c := fun a b c x => cellsD_putL O.ofl _ _ _ _
 have hjm := hO.2 _ (List.getElem_mem hj)
 obtain ⟨t, hsj⟩ := Int.eq_ofNat_of_zero_le hjm.1
 have htl : t < d.label.length := by omega
 have htn : t < d.next.length := by omega
 have htl2 : t < d.label.length := by omega
 have htv : t < rs.length := by have := O.rnl; omega
 obtain ⟨b, c, e1, e2, e3⟩ := O.rs t htn htv
 obtain ⟨hw0, hlt0, hlt1, hrng⟩ := hk7 t htn htl2
 obtain ⟨row, hrow⟩ : ∃ row, row = d.next[t] := ⟨_, rfl⟩
 have hrl := hm2 _ (List.getElem_mem htn)
 rw [← hrow] at e1 e2 e3 hw0 hrng hrl
 have hw : d.width = (row.length : Int) := hw0.symm
 obtain ⟨r, hr⟩ : ∃ r, r = rowK d l (t : Nat) := ⟨_, rfl⟩
 have hr' : r = row.map (findF l) := by rw [hr]; unfold rowK; rw [nextF_get htn, hrow]
 have hfr : ∀ x ∈ row, x ∈ l := fun x hx => by
  have h1 := hfine x
  rw [hsj, nextF_get htn, ← hrow] at h1
  exact h1 hx
 have hrlen : r.length = row.length := by rw [hr', List.length_map]
 have hlt : d.label[t] = d.label.getD t 0 := by rw [List.getD_eq_getElem?_getD, List.getElem?_eq_getElem htl2]; rfl
 have hlab : (labF d l).take (j + 1) = (labF d l).take j ++ [d.label.getD t 0] := by
  have hjl : j < (labF d l).length := by unfold labF; rw [List.length_map]; exact hj
  rw [List.take_succ_eq_append_getElem hjl]
  congr 2
  simp only [labF, List.getElem_map, hsj, Int.toNat_natCast]
 have hlj : ((labF d l).take j).length = j := by rw [List.length_take]; unfold labF; rw [List.length_map]; omega
 have hrj : rowK d l l[j] = r := by rw [hsj, hr]
 have had : Adr an := O.rn.adr (by omega)
 have had2 : Adr al := O.rl.adr (by rw [List.length_map]; omega)
 have had3 : Adr ah := hrh.adr (by rw [List.length_map]; omega)
 have hll := hO.len
 have hslh : Sl G (Value.int .i64) (.slice ah l.length ch) l := ⟨ah, ch, rfl, hrh, hch⟩
 have hjb : j < 65536 := by
  have h1 := hO.len
  omega
 refine Tri.sepT fun hs0 => ?_
 have hsE := hs0
 try simp only [zzs] at hsE
 repeat (obtain ⟨hsx, hsE⟩ := hsE)
 refine Tri.piece (f := Try.f64) rfl ?_
 refine Tri.runS tok [0, 1, 2, 4, 5, 6, 7, 8, 9, 10, 11, 20, 32, 59, 64, 71, 88] (.seq .run (.seq .run (.seq .run .cut))) (by kernel_rfl) ?_
 repeat' first
  | (with_reducible first | refine Nx.go ?_ | refine Bk.go (fun _ => ?_) fun _ => ?_)
  | ((with_reducible first | refine NewB.mk2 fun nb hnb hnb1 hnb2 => ?_ | refine NewRow.mk2 fun nb nsp ncap hnb hncap hnb1 hnb2 => ?_); try simp only [zzn] at hnb2)
  | simp -dsimp -implicitDefEqProofs (disch := first | assumption | (simp only [zzm]; done) | omega | (try with_reducible refine Row.adr (by assumption) ?_); simp only [zzl, Nat.reduceAdd]; first | done | omega) only [go_sem, ↓reduceIte, seval, -List.reduceReplicate, List.toList_toArray, hCl, hCw, hCn, hCx, hw, hl2, hg1, hg2, hputN, hputL, Row.obj hrh, Row.obj O.rn, e1, Row.obj O.rl, List.getElem_map, hsj, hlt, Int.toNat_natCast, Nat.sub_self, List.replicate_zero]
 refine Tri.loopU tok [0, 1, 2, 4, 5, 6, 7, 8, 9, 10, 11, 20, 32, 59, 64, 71, 88] (by kernel_rfl) [0, 1, 2, 4, 5, 6, 8, 9, 10] (fun q G' fr H' => ∃ (k br cR : Nat) (spR : List Value), k + q = row.length ∧ k + spR.length = cR ∧ G' = G ∧ H' = (br, .cells ((r.take k).map (Value.int .i64)) spR 3) :: (b7, .cells (cellsD d vn vl vs) [] 27) :: (b2, .cells C [] 27) :: (kn ++ (kl ++ H)) ∧ fr = [(0, v0), (1, .slice ah l.length ch), (2, .pointer (some ⟨b2, 0, none⟩)), (4, .pointer (some ⟨b4, 0, none⟩)), (5, .int .i64 0), (6, .pointer (some ⟨b7, 0, none⟩)), (8, .int .i64 (j : Nat)), (9, .slice (some ⟨br, 0, none⟩) k cR), (10, .int .i64 (k : Nat))]) (row.length) ?_ ?_
 ·refine Upd.now ?_
  exact ⟨0, nb, 0, [], by omega, rfl, rfl, rfl, rfl⟩
 ·rintro q G1 fr H' hle hs ⟨k, br, cR, spR, hk, hcR, rfl, rfl, rfl⟩
  have hml : ((r.take k).map (Value.int .i64)).length = k := by rw [List.length_map, List.length_take]; omega
  have hml2 : (r.take k).length = k := by rw [List.length_take]; omega
  by_cases hkl : k < row.length
  ·have hsE := hs
   try simp only [zzs] at hsE
   repeat (obtain ⟨hsx, hsE⟩ := hsE)
   have hkr : k < r.length := by omega
   have had5 : Adr b := e2.adr (by rw [List.length_map]; omega)
   have hx := hrng _ (List.getElem_mem hkl)
   obtain ⟨y, hxy⟩ := Int.eq_ofNat_of_zero_le hx.1
   have hym : y < d.label.length := by omega
   have hval : findF l (row[k]) = r[k] := by
    simp only [hr', List.getElem_map]
   have hpos : 0 ≤ r[k] := by
    rw [← hval]
    refine findF_memW.2 ?_
    exact hfr _ (List.getElem_mem hkl)
   have htk := List.take_succ_eq_append_getElem hkr
   have hm2 : (r.take k).map (Value.int .i64) ++ [.int .i64 r[k]] = (r.take (k + 1)).map (Value.int .i64) := by rw [htk, List.map_append]; rfl
   repeat' first
    | (with_reducible first | refine Nx.go ?_ | refine Bk.go (fun _ => ?_) fun _ => ?_)
    | ((with_reducible first | refine NewB.mk2 fun nb hnb hnb1 hnb2 => ?_ | refine NewRow.mk2 fun nb nsp ncap hnb hncap hnb1 hnb2 => ?_); try simp only [zzn] at hnb2)
    | simp -dsimp -implicitDefEqProofs (disch := first | assumption | (simp only [zzm]; done) | omega | (try with_reducible refine Row.adr (by assumption) ?_); simp only [zzl, Nat.reduceAdd]; first | done | omega) only [go_sem, ↓reduceIte, seval, -List.reduceReplicate, hCl, hCw, hCn, hw, Row.obj O.rn, Row.obj hrh, e1, Row.obj e2, List.getElem_map, hsj, hml2, List.replicate_one]
    | with_reducible refine Tri.drawS tok mixed [0, 1, 2, 4, 5, 6, 7, 8, 9, 10, 11, 20, 32, 59, 64, 71, 88] 16 [2, 6, 8, 11] (.op 0 .plain (.op 1 .plain (.op 2 .held (.op 3 .plain (.op 4 .plain (.op 5 .plain (.op 6 .held (.op 7 .plain (.op 8 .held (.op 9 .plain (.op 10 .plain (.op 11 .held (.op 12 .keeps (.op 13 .plain .nil)))))))))))))) (by kernel_rfl) [(b2, .cells C [] 27)] (by intro fsum; first | exact Nat.le_refl _ | (simp only [zzq]; omega)) ?_
   refine rplace_t (by omega) hslh ?_
   rw [hval]
   repeat' first
    | (with_reducible first | refine Nx.go ?_ | refine Bk.go (fun _ => ?_) fun _ => ?_)
    | ((with_reducible first | refine NewB.mk2 fun nb hnb hnb1 hnb2 => ?_ | refine NewRow.mk2 fun nb nsp ncap hnb hncap hnb1 hnb2 => ?_); try simp only [zzn] at hnb2)
    | simp -dsimp -implicitDefEqProofs (disch := first | assumption | (simp only [zzm]; done) | omega | (try with_reducible refine Row.adr (by assumption) ?_); simp only [zzl, Nat.reduceAdd]; first | done | omega) only [go_sem, ↓reduceIte, seval, -List.reduceReplicate, hCl, hCw, hCn, hw, Row.obj O.rn, Row.obj hrh, e1, Row.obj e2, List.getElem_map, hsj, hml2, List.replicate_one]
   all_goals try (exfalso; omega)
   rw [hm2]
   exact Upd.go (H' := (nb, .cells ((r.take (k + 1)).map (Value.int .i64)) nsp 3) :: (b7, .cells (cellsD d vn vl vs) [] 27) :: (b2, .cells C [] 27) :: (kn ++ (kl ++ H))) (by intro fsum; first | exact Nat.le_refl _ | (simp only [zzq]; omega)) (Upd.now ⟨q - 1, by omega, k + 1, nb, ncap, nsp, by omega, by omega, rfl, rfl, rfl⟩)
  ·obtain rfl : k = row.length := by omega
   have hpa : r.take row.length = r := by rw [← hrlen, List.take_length]
   rw [hpa] at hs ⊢
   rcases hout with ⟨hj0, rfl, rfl⟩ | ⟨bn, c1, rv, sp1, rfl, rfl, hrv, hc1, hrws⟩
   ·have hsE := hs
    try simp only [zzs] at hsE
    repeat (obtain ⟨hsx, hsE⟩ := hsE)
    repeat' first
     | (with_reducible first | refine Nx.go ?_ | refine Bk.go (fun _ => ?_) fun _ => ?_)
     | ((with_reducible first | refine NewB.mk2 fun nb hnb hnb1 hnb2 => ?_ | refine NewRow.mk2 fun nb nsp ncap hnb hncap hnb1 hnb2 => ?_); try simp only [zzn] at hnb2)
     | simp -dsimp -implicitDefEqProofs (disch := first | assumption | (simp only [zzm]; done) | omega | (try with_reducible refine Row.adr (by assumption) ?_); simp only [zzl, Nat.reduceAdd]; first | done | omega) only [go_sem, ↓reduceIte, seval, -List.reduceReplicate, List.length_map, hlj, List.replicate_one, List.toList_toArray, hCl, hCw, hCn, hCx, hw, hl2, hg1, hg2, hputN, hputL, Row.obj hrh, Row.obj O.rn, e1, Row.obj O.rl, List.getElem_map, hsj, hlt, Int.toNat_natCast, Nat.sub_self, List.replicate_zero]
    refine Tri.upd (Upd.go (H' := (b7, .cells (cellsD d (.slice (some ⟨nb, 0, none⟩) 1 ncap) vl vs) [] 27) :: (b2, .cells C [] 27) :: (kl ++ ((br, .cells (r.map (Value.int .i64)) spR 3) :: (nb, .cells [.slice (some ⟨br, 0, none⟩) row.length cR] nsp 24) :: H))) (by intro fsum; first | exact Nat.le_refl _ | (simp only [zzq]; omega)) (Upd.now ?_))
    refine Tri.live [0, 1, 2, 4, 5, 6, 8] ?_
    refine Tri.isPiece [1, 1, 1, 1, 0, 1, 0, 0, 1, 0, 0, 1, 1, 1] Try.f64 (by kernel_rfl) ?_
    refine Tri.onlyN (rkr21_t O hrh hj hjb htl2 hsj hlab0) fun G5 l5 H5 hle5 hs5 hM => ?_
    obtain ⟨vl', kl', rfl, hlab1, hfr, rfl⟩ := hM
    rw [onlyN_normal]
    have hsE := hs5
    try simp only [zzs] at hsE
    repeat (obtain ⟨hsx, hsE⟩ := hsE)
    refine Upd.go (H' := (br, .cells (r.map (Value.int .i64)) spR 3) :: (b7, .cells (cellsD d (.slice (some ⟨nb, 0, none⟩) 1 ncap) vl' vs) [] 27) :: (b2, .cells C [] 27) :: ([(nb, .cells [.slice (some ⟨br, 0, none⟩) row.length cR] nsp 24)] ++ (kl' ++ H))) (by intro fsum; first | exact Nat.le_refl _ | (simp only [zzq]; omega)) (Upd.shareRow (by assumption) fun G6 hle6 hs6 hr6 => ?_)
    refine ⟨_, vl', _, kl', hle6, .inr ⟨nb, ncap, _, nsp, by rw [hj0], rfl, by rw [hj0]; rfl, by omega, fun i h h2 h3 => ?_⟩, hlab1, hfr, rfl⟩
    obtain rfl : i = 0 := by omega
    obtain rfl : j = 0 := hj0
    refine ⟨some ⟨br, 0, none⟩, cR, ?_, ?_, ?_⟩
    ·rw [hrj, hrlen]; rfl
    ·rw [hrj]; exact hr6
    ·rw [hrj, hrlen]; omega
   ·have hsE := hs
    try simp only [zzs] at hsE
    repeat (obtain ⟨hsx, hsE⟩ := hsE)
    repeat' first
     | (with_reducible first | refine Nx.go ?_ | refine Bk.go (fun _ => ?_) fun _ => ?_)
     | ((with_reducible first | refine NewB.mk2 fun nb hnb hnb1 hnb2 => ?_ | refine NewRow.mk2 fun nb nsp ncap hnb hncap hnb1 hnb2 => ?_); try simp only [zzn] at hnb2)
     | simp -dsimp -implicitDefEqProofs (disch := first | assumption | (simp only [zzm]; done) | omega | (try with_reducible refine Row.adr (by assumption) ?_); simp only [zzl, Nat.reduceAdd]; first | done | omega) only [go_sem, ↓reduceIte, seval, -List.reduceReplicate, List.length_map, hlj, List.replicate_one, List.toList_toArray, hCl, hCw, hCn, hCx, hw, hl2, hg1, hg2, hputN, hputL, Row.obj hrh, Row.obj O.rn, e1, Row.obj O.rl, List.getElem_map, hsj, hlt, Int.toNat_natCast, Nat.sub_self, List.replicate_zero]
    refine Tri.upd (Upd.go (H' := (b7, .cells (cellsD d (.slice (some ⟨nb, 0, none⟩) (j + 1) ncap) vl vs) [] 27) :: (b2, .cells C [] 27) :: (kl ++ ((br, .cells (r.map (Value.int .i64)) spR 3) :: (nb, .cells (rv ++ [.slice (some ⟨br, 0, none⟩) row.length cR]) nsp 24) :: H))) (by intro fsum; first | exact Nat.le_refl _ | (simp only [zzq]; omega)) (Upd.now ?_))
    refine Tri.live [0, 1, 2, 4, 5, 6, 8] ?_
    refine Tri.isPiece [1, 1, 1, 1, 0, 1, 0, 0, 1, 0, 0, 1, 1, 1] Try.f64 (by kernel_rfl) ?_
    refine Tri.onlyN (rkr21_t O hrh hj hjb htl2 hsj hlab0) fun G5 l5 H5 hle5 hs5 hM => ?_
    obtain ⟨vl', kl', rfl, hlab1, hfr, rfl⟩ := hM
    rw [onlyN_normal]
    have hsE := hs5
    try simp only [zzs] at hsE
    repeat (obtain ⟨hsx, hsE⟩ := hsE)
    refine Upd.go (H' := (br, .cells (r.map (Value.int .i64)) spR 3) :: (b7, .cells (cellsD d (.slice (some ⟨nb, 0, none⟩) (j + 1) ncap) vl' vs) [] 27) :: (b2, .cells C [] 27) :: ([(nb, .cells (rv ++ [.slice (some ⟨br, 0, none⟩) row.length cR]) nsp 24)] ++ (kl' ++ H))) (by intro fsum; first | exact Nat.le_refl _ | (simp only [zzq]; omega)) (Upd.shareRow (by assumption) fun G6 hle6 hs6 hr6 => ?_)
    refine ⟨_, vl', _, kl', hle6, .inr ⟨nb, ncap, _, nsp, rfl, rfl, by rw [List.length_append, hrv]; rfl, by omega, fun i h h2 h3 => ?_⟩, hlab1, hfr, rfl⟩
    rcases Nat.lt_or_ge i j with hij | hij
    ·obtain ⟨b', c', f1, f2, f3⟩ := hrws i hij (by omega) h3
     exact ⟨b', c', by rw [List.getElem_append_left (by omega)]; exact f1, f2.mono hle6, f3⟩
    ·obtain rfl : i = j := by omega
     refine ⟨some ⟨br, 0, none⟩, cR, ?_, ?_, ?_⟩
     ·rw [hrj, hrlen, List.getElem_append_right (by omega)]; simp [hrv]
     ·rw [hrj]; exact hr6
     ·rw [hrj, hrlen]; omega
theorem rkxb_t {d : DfaT} (hsm : SmallD d) (hok : RightP d) {l : List Int} (hO : OnceN d.label.length l) {C : List Value} {an al ay : Option Addr} {cn cl cs : Nat} {rs : List Value} {G : PHeap} {H : Heap} (O : OpenD G d C an al ay cn cl cs rs) {v0 : Value} {b2 b4 b7 : Nat} {ah : Option Addr} {ch : Nat} (hch : l.length ≤ ch) (hrh : Row G ah ((l).map (Value.int .i64))) {j : Nat} (hj : j < l.length) {B7 : List Value} (hbad : ¬ fineK d l (l[j]'hj)) :
  Tri Try.prog Try.f64.ntmps (piece [1, 1, 1, 1, 0, 1, 0, 0, 1, 0, 0] Try.f64) G [(0, v0), (1, .slice ah l.length ch), (2, .pointer (some ⟨b2, 0, none⟩)), (4, .pointer (some ⟨b4, 0, none⟩)), (5, .int .i64 0), (6, .pointer (some ⟨b7, 0, none⟩)), (8, .int .i64 (j : Nat))] ((b4, .cells zeroC [] 27) :: (b7, .cells B7 [] 27) :: (b2, .cells C [] 27) :: H) (onlyR fun G' fr' H' => PLe G G' ∧ restrict [4, 5] fr' = [(4, .pointer (some ⟨b4, 0, none⟩)), (5, .int .i64 1)] ∧ H' = (b4, .cells zeroC [] 27) :: H) := by
 obtain ⟨hm1, hm2, hm3, hm4, hm5⟩ := id hsm
 obtain ⟨hk1, hk2, hk3, hk4, hk5, hk6, hk7⟩ := id hok
 have hCl := O.len
 have hCw := O.w
 have hCn := O.n
 have hCx := O.l
 have hjm := hO.2 _ (List.getElem_mem hj)
 obtain ⟨t, hsj⟩ := Int.eq_ofNat_of_zero_le hjm.1
 have htl : t < d.label.length := by omega
 have htn : t < d.next.length := by omega
 have htl2 : t < d.label.length := by omega
 have htv : t < rs.length := by have := O.rnl; omega
 obtain ⟨b, c, e1, e2, e3⟩ := O.rs t htn htv
 obtain ⟨hw0, hlt0, hlt1, hrng⟩ := hk7 t htn htl2
 obtain ⟨row, hrow⟩ : ∃ row, row = d.next[t] := ⟨_, rfl⟩
 have hrl := hm2 _ (List.getElem_mem htn)
 rw [← hrow] at e1 e2 e3 hw0 hrng hrl
 have hw : d.width = (row.length : Int) := hw0.symm
 obtain ⟨r, hr⟩ : ∃ r, r = rowK d l (t : Nat) := ⟨_, rfl⟩
 have hr' : r = row.map (findF l) := by rw [hr]; unfold rowK; rw [nextF_get htn, hrow]
 have hfr : ¬ ∀ x ∈ row, x ∈ l := fun h => hbad fun y hy => by
  rw [hsj, nextF_get htn, ← hrow] at hy
  exact h y hy
 have hrlen : r.length = row.length := by rw [hr', List.length_map]
 have had : Adr an := O.rn.adr (by omega)
 have had3 : Adr ah := hrh.adr (by rw [List.length_map]; omega)
 have hll := hO.len
 have hslh : Sl G (Value.int .i64) (.slice ah l.length ch) l := ⟨ah, ch, rfl, hrh, hch⟩
 have hjb : j < 65536 := by
  have h1 := hO.len
  omega
 refine Tri.sepT fun hs0 => ?_
 have hsE := hs0
 try simp only [zzs] at hsE
 repeat (obtain ⟨hsx, hsE⟩ := hsE)
 refine Tri.piece (f := Try.f64) rfl ?_
 refine Tri.run tok [0, 1, 2, 4, 5, 6, 7, 8, 9, 10, 11, 20, 32, 59, 64, 71, 88] (by kernel_rfl) ?_
 repeat' first
  | (with_reducible first | refine Nx.go ?_ | refine Bk.go (fun _ => ?_) fun _ => ?_)
  | ((with_reducible first | refine NewB.mk2 fun nb hnb hnb1 hnb2 => ?_ | refine NewRow.mk2 fun nb nsp ncap hnb hncap hnb1 hnb2 => ?_); try simp only [zzn] at hnb2)
  | simp -dsimp -implicitDefEqProofs (disch := first | assumption | (simp only [zzm]; done) | omega | (try with_reducible refine Row.adr (by assumption) ?_); simp only [zzl, Nat.reduceAdd]; first | done | omega) only [go_sem, ↓reduceIte, seval, -List.reduceReplicate, List.toList_toArray, hCl, hCw, hCn, hCx, hw, Row.obj hrh, Row.obj O.rn, e1, List.getElem_map, hsj, Int.toNat_natCast, Nat.sub_self, List.replicate_zero]
 refine Tri.loopU tok [0, 1, 2, 4, 5, 6, 7, 8, 9, 10, 11, 20, 32, 59, 64, 71, 88] (by kernel_rfl) [0, 1, 2, 4, 5, 6, 8, 9, 10] (fun q G' fr H' => ∃ (k br cR : Nat) (spR : List Value), k + q = row.length ∧ (∀ i (h : i < row.length), i < k → row[i] ∈ l) ∧ k + spR.length = cR ∧ G' = G ∧ H' = (br, .cells ((r.take k).map (Value.int .i64)) spR 3) :: (b4, .cells zeroC [] 27) :: (b7, .cells B7 [] 27) :: (b2, .cells C [] 27) :: H ∧ fr = [(0, v0), (1, .slice ah l.length ch), (2, .pointer (some ⟨b2, 0, none⟩)), (4, .pointer (some ⟨b4, 0, none⟩)), (5, .int .i64 0), (6, .pointer (some ⟨b7, 0, none⟩)), (8, .int .i64 (j : Nat)), (9, .slice (some ⟨br, 0, none⟩) k cR), (10, .int .i64 (k : Nat))]) (row.length) ?_ ?_
 ·refine Upd.now ?_
  exact ⟨0, nb, 0, [], by omega, fun i h h2 => by omega, rfl, rfl, rfl, rfl⟩
 ·rintro q G1 fr H' hle hs ⟨k, br, cR, spR, hk, hall, hcR, rfl, rfl, rfl⟩
  have hml : ((r.take k).map (Value.int .i64)).length = k := by rw [List.length_map, List.length_take]; omega
  have hml2 : (r.take k).length = k := by rw [List.length_take]; omega
  by_cases hkl : k < row.length
  ·have hsE := hs
   try simp only [zzs] at hsE
   repeat (obtain ⟨hsx, hsE⟩ := hsE)
   have hkr : k < r.length := by omega
   have had5 : Adr b := e2.adr (by rw [List.length_map]; omega)
   have hx := hrng _ (List.getElem_mem hkl)
   obtain ⟨y, hxy⟩ := Int.eq_ofNat_of_zero_le hx.1
   have hym : y < d.label.length := by omega
   have hval : findF l (row[k]) = r[k] := by
    simp only [hr', List.getElem_map]
   have htk := List.take_succ_eq_append_getElem hkr
   have hm2 : (r.take k).map (Value.int .i64) ++ [.int .i64 r[k]] = (r.take (k + 1)).map (Value.int .i64) := by rw [htk, List.map_append]; rfl
   by_cases hin : row[k] ∈ l
   ·have hpos : 0 ≤ r[k] := by
     rw [← hval]
     exact findF_memW.2 hin
    repeat' first
     | (with_reducible first | refine Nx.go ?_ | refine Bk.go (fun _ => ?_) fun _ => ?_)
     | ((with_reducible first | refine NewB.mk2 fun nb hnb hnb1 hnb2 => ?_ | refine NewRow.mk2 fun nb nsp ncap hnb hncap hnb1 hnb2 => ?_); try simp only [zzn] at hnb2)
     | simp -dsimp -implicitDefEqProofs (disch := first | assumption | (simp only [zzm]; done) | omega | (try with_reducible refine Row.adr (by assumption) ?_); simp only [zzl, Nat.reduceAdd]; first | done | omega) only [go_sem, ↓reduceIte, seval, -List.reduceReplicate, hCl, hCw, hCn, hw, Row.obj O.rn, Row.obj hrh, e1, Row.obj e2, List.getElem_map, hsj, hml2, List.replicate_one]
     | with_reducible refine Tri.drawS tok mixed [0, 1, 2, 4, 5, 6, 7, 8, 9, 10, 11, 20, 32, 59, 64, 71, 88] 16 [2, 6, 8, 11] (.op 0 .plain (.op 1 .plain (.op 2 .held (.op 3 .plain (.op 4 .plain (.op 5 .plain (.op 6 .held (.op 7 .plain (.op 8 .held (.op 9 .plain (.op 10 .plain (.op 11 .held (.op 12 .keeps (.op 13 .plain .nil)))))))))))))) (by kernel_rfl) [(b2, .cells C [] 27)] (by intro fsum; first | exact Nat.le_refl _ | (simp only [zzq]; omega)) ?_
    refine rplace_t (by omega) hslh ?_
    rw [hval]
    repeat' first
     | (with_reducible first | refine Nx.go ?_ | refine Bk.go (fun _ => ?_) fun _ => ?_)
     | ((with_reducible first | refine NewB.mk2 fun nb hnb hnb1 hnb2 => ?_ | refine NewRow.mk2 fun nb nsp ncap hnb hncap hnb1 hnb2 => ?_); try simp only [zzn] at hnb2)
     | simp -dsimp -implicitDefEqProofs (disch := first | assumption | (simp only [zzm]; done) | omega | (try with_reducible refine Row.adr (by assumption) ?_); simp only [zzl, Nat.reduceAdd]; first | done | omega) only [go_sem, ↓reduceIte, seval, -List.reduceReplicate, hCl, hCw, hCn, hw, Row.obj O.rn, Row.obj hrh, e1, Row.obj e2, List.getElem_map, hsj, hml2, List.replicate_one]
    all_goals try (exfalso; omega)
    rw [hm2]
    exact Upd.go (H' := (nb, .cells ((r.take (k + 1)).map (Value.int .i64)) nsp 3) :: (b4, .cells zeroC [] 27) :: (b7, .cells B7 [] 27) :: (b2, .cells C [] 27) :: H) (by intro fsum; first | exact Nat.le_refl _ | (simp only [zzq]; omega)) (Upd.now ⟨q - 1, by omega, k + 1, nb, ncap, nsp, by omega, fun i h h2 => by
     by_cases e : i = k
     ·subst e; exact hin
     ·exact hall i h (by omega), by omega, rfl, rfl, rfl⟩)
   ·have hneg : r[k] < 0 := by
     rw [← hval]
     rcases Int.lt_or_le (findF l (row[k])) 0 with h | h
     ·exact h
     ·exact absurd (findF_memW.1 h) hin
    repeat' first
     | (with_reducible first | refine Nx.go ?_ | refine Bk.go (fun _ => ?_) fun _ => ?_)
     | ((with_reducible first | refine NewB.mk2 fun nb hnb hnb1 hnb2 => ?_ | refine NewRow.mk2 fun nb nsp ncap hnb hncap hnb1 hnb2 => ?_); try simp only [zzn] at hnb2)
     | simp -dsimp -implicitDefEqProofs (disch := first | assumption | (simp only [zzm]; done) | omega | (try with_reducible refine Row.adr (by assumption) ?_); simp only [zzl, Nat.reduceAdd]; first | done | omega) only [go_sem, ↓reduceIte, seval, -List.reduceReplicate, hCl, hCw, hCn, hw, Row.obj O.rn, Row.obj hrh, e1, Row.obj e2, List.getElem_map, hsj, hml2, List.replicate_one]
     | with_reducible refine Tri.drawS tok mixed [0, 1, 2, 4, 5, 6, 7, 8, 9, 10, 11, 20, 32, 59, 64, 71, 88] 16 [2, 6, 8, 11] (.op 0 .plain (.op 1 .plain (.op 2 .held (.op 3 .plain (.op 4 .plain (.op 5 .plain (.op 6 .held (.op 7 .plain (.op 8 .held (.op 9 .plain (.op 10 .plain (.op 11 .held (.op 12 .keeps (.op 13 .plain .nil)))))))))))))) (by kernel_rfl) [(b2, .cells C [] 27)] (by intro fsum; first | exact Nat.le_refl _ | (simp only [zzq]; omega)) ?_
    refine rplace_t (by omega) hslh ?_
    rw [hval]
    repeat' first
     | (with_reducible first | refine Nx.go ?_ | refine Bk.go (fun _ => ?_) fun _ => ?_)
     | ((with_reducible first | refine NewB.mk2 fun nb hnb hnb1 hnb2 => ?_ | refine NewRow.mk2 fun nb nsp ncap hnb hncap hnb1 hnb2 => ?_); try simp only [zzn] at hnb2)
     | simp -dsimp -implicitDefEqProofs (disch := first | assumption | (simp only [zzm]; done) | omega | (try with_reducible refine Row.adr (by assumption) ?_); simp only [zzl, Nat.reduceAdd]; first | done | omega) only [go_sem, ↓reduceIte, seval, -List.reduceReplicate, hCl, hCw, hCn, hw, Row.obj O.rn, Row.obj hrh, e1, Row.obj e2, List.getElem_map, hsj, hml2, zeroC_len, zeroC_one, zeroC_take, zeroC_put]
    all_goals try (exfalso; omega)
    exact Upd.go (H' := (b4, .cells zeroC [] 27) :: H) (by intro fsum; first | exact Nat.le_refl _ | (simp only [zzq]; omega)) (Upd.now ⟨hle, rfl, rfl⟩)
  ·exact absurd (fun x hx => by
    obtain ⟨i, hi, rfl⟩ := List.getElem_of_mem hx
    exact hall i hi (by omega)) hfr
end Go.Proofs.Ytdeableflgakdaa
namespace Go.Proofs.Ytdeableflgakdaa
open Go Go.V Go.Proofs
theorem hasO_t {l : List Int} (hl : l.length ≤ 2000000) {x : Int} {b cap : Nat} {sp : List Value} {e : TypeId} {G : PHeap} {H : Heap} {R : Value → PHeap → Heap → Prop} (hg : G b = none) (hf : findH H b = some (.cells (l.map (Value.int .i64)) sp e))
  (hR : R (.bool (decide (x ∈ l))) G H) : FnT Try.prog 85 [.slice (some ⟨b, 0, none⟩) l.length cap, .int .i64 x] G H R := by
 refine FnT.body tok [0, 1, 4, 5, 9, 17] Try.func85 rfl (by kernel_rfl) (by kernel_rfl) (by show _ ≤ 18; simp) fun hsep => ?_
 rw [Try.results85]
 have hsE := hsep
 try simp only [zzs] at hsE
 repeat (obtain ⟨hsx, hsE⟩ := hsE)
 repeat' first
  | (with_reducible first | refine Nx.go ?_ | refine Bk.go (fun _ => ?_) fun _ => ?_)
  | (with_reducible refine NewB.mk2 fun nb hnb hnb1 hnb2 => ?_; try simp only [zzn] at hnb2)
  | simp -dsimp -implicitDefEqProofs (disch := first | assumption | (simp only [zzm]; done) | omega | (try with_reducible refine Row.adr (by assumption) ?_); simp only [zzl, Nat.reduceAdd]; first | done | omega) only [go_sem, ↓reduceIte, seval]
 refine Tri.loopU tok [0, 1, 4, 5, 9, 17] (by kernel_rfl) [0, 1, 4, 5] (fun q G' fr H' => ∃ i : Nat, i + q = l.length ∧ (∀ j (h : j < l.length), j < i → l[j] ≠ x) ∧ G' = G ∧ H' = H ∧ fr = [(0, .slice (some ⟨b, 0, none⟩) l.length cap), (1, .int .i64 x), (4, .bool false), (5, .int .i64 (i : Nat))]) (l.length) (Upd.now ?_) ?_
 ·exact ⟨0, by omega, fun j _ h => by omega, rfl, rfl, rfl⟩
 ·rintro q G' fr H' hle hs ⟨i, hi, hno, rfl, rfl, rfl⟩
  by_cases hil : i < l.length
  ·by_cases hx : l[i] = x
   ·rw [decide_eq_true (show x ∈ l from hx ▸ List.getElem_mem hil)] at hR
    repeat' first
     | (with_reducible first | refine Nx.go ?_ | refine Bk.go (fun _ => ?_) fun _ => ?_)
     | (with_reducible refine NewB.mk2 fun nb hnb hnb1 hnb2 => ?_; try simp only [zzn] at hnb2)
     | simp -dsimp -implicitDefEqProofs (disch := first | assumption | (simp only [zzm]; done) | omega | (try with_reducible refine Row.adr (by assumption) ?_); simp only [zzl, Nat.reduceAdd]; first | done | omega) only [go_sem, ↓reduceIte, seval, hf, List.getElem_append_left, List.getElem_map, hx]
    all_goals refine Upd.finL ?_ hR ?_
    any_goals (intro fsum; first | exact Nat.le_refl _ | (simp only [zzq]; omega))
    all_goals rfl
   ·repeat' first
     | (with_reducible first | refine Nx.go ?_ | refine Bk.go (fun _ => ?_) fun _ => ?_)
     | (with_reducible refine NewB.mk2 fun nb hnb hnb1 hnb2 => ?_; try simp only [zzn] at hnb2)
     | simp -dsimp -implicitDefEqProofs (disch := first | assumption | (simp only [zzm]; done) | omega | (try with_reducible refine Row.adr (by assumption) ?_); simp only [zzl, Nat.reduceAdd]; first | done | omega) only [go_sem, ↓reduceIte, seval, hf, List.getElem_append_left, List.getElem_map, hx]
    exact Upd.now ⟨q - 1, by omega, i + 1, by omega, fun j h hj => by
     by_cases e : j = i
     ·subst e; exact hx
     ·exact hno j h (by omega), rfl, rfl, rfl⟩
  ·obtain rfl : i = l.length := by omega
   rw [decide_eq_false (fun h => by obtain ⟨j, hj, e⟩ := List.getElem_of_mem h; exact hno j hj hj e)] at hR
   repeat' first
    | (with_reducible first | refine Nx.go ?_ | refine Bk.go (fun _ => ?_) fun _ => ?_)
    | (with_reducible refine NewB.mk2 fun nb hnb hnb1 hnb2 => ?_; try simp only [zzn] at hnb2)
    | simp -dsimp -implicitDefEqProofs (disch := first | assumption | (simp only [zzm]; done) | omega | (try with_reducible refine Row.adr (by assumption) ?_); simp only [zzl, Nat.reduceAdd]; first | done | omega) only [go_sem, ↓reduceIte, seval]
   all_goals refine Upd.finL ?_ hR ?_
   any_goals (intro fsum; first | exact Nat.le_refl _ | (simp only [zzq]; omega))
   all_goals rfl
theorem rreach_t {d : DfaT} (hsm : SmallD d) (hok : RightP d) {G : PHeap} {H : Heap} {R : Value → PHeap → Heap → Prop} {v : Value} (hv : IsD G d v)
  (hR : ∀ G' v', PLe G G' → Sep G' (keys H) → Sl G' (Value.int .i64) v' (reachL d) → R v' G' H) : FnT Try.prog 65 [v] G H R := by
 obtain ⟨C, an, al, ay, cn, cl, cs, rs, rfl, O⟩ := hv.opened
 have hCl := O.len
 have hCa := O.all
 have hCw := O.w
 have hCn := O.n
 obtain ⟨hk1, hk2, hk3, hk4, hk5, hk6, hk7⟩ := id hok
 have hrnl := O.rnl
 have hon := nextF_ok hok
 have hO : OnceN d.label.length [0] := ⟨by simp, fun x hx => by rw [List.mem_singleton] at hx; omega⟩
 have had : Adr an := O.rn.adr (by omega)
 have htw := tabO_len d.of
 have hofl := O.ofl
 obtain ⟨W, hWd⟩ := Int.eq_ofNat_of_zero_le (show 0 ≤ d.width by omega)
 refine FnT.sep ?_
 refine FnT.body tok [0, 1, 2, 3, 4, 5, 6, 11, 17, 34] Try.func65 rfl (by kernel_rfl) (by kernel_rfl) (by show _ ≤ 40; simp) fun hsep => ?_
 rw [Try.results65]
 have hsE := hsep
 try simp only [zzs] at hsE
 repeat (obtain ⟨hsx, hsE⟩ := hsE)
 repeat' first
  | (with_reducible first | refine Nx.go ?_ | refine Bk.go (fun _ => ?_) fun _ => ?_)
  | ((with_reducible first | refine NewB.mk2 fun nb hnb hnb1 hnb2 => ?_ | refine NewRow.mk2 fun nb nsp ncap hnb hncap hnb1 hnb2 => ?_); try simp only [zzn] at hnb2)
  | simp -dsimp -implicitDefEqProofs (disch := first | assumption | (simp only [zzm]; done) | omega | (try with_reducible refine Row.adr (by assumption) ?_); simp only [zzl, Nat.reduceAdd]; first | done | omega) only [go_sem, ↓reduceIte, seval, -List.reduceReplicate, List.toList_toArray, hCl, hCa, List.replicate_one]
 rename_i b1 x1 x2 x3
 refine Tri.loopU tok [0, 1, 2, 3, 4, 5, 6, 11, 17, 34] (by kernel_rfl) [1, 2, 3, 4] (fun q G' fr H' => ∃ (i b c : Nat) (sp : List Value), i + q = d.label.length ∧ i ≤ (bw (nextF d) [0] i).length ∧ (bw (nextF d) [0] i).length + sp.length = c ∧ G' = G ∧ H' = (b, .cells ((bw (nextF d) [0] i).map (Value.int .i64)) sp 3) :: (b1, .cells C [] 27) :: H ∧ fr = [(1, .pointer (some ⟨b1, 0, none⟩)), (2, .slice none 0 0), (3, .slice (some ⟨b, 0, none⟩) (bw (nextF d) [0] i).length c), (4, .int .i64 (i : Nat))]) (d.label.length) ?_ ?_
 ·refine Upd.now ?_
  exact ⟨0, nb, 1, [], by omega, Nat.zero_le _, rfl, rfl, rfl, rfl⟩
 ·rintro q G1 fr H' hle hs1 ⟨i, b, c, sp, hiq, hil, hc, rfl, rfl, rfl⟩
  have hOi := bw_once hO hon i
  have hOl := hOi.len
  have hsE := hs1
  try simp only [zzs] at hsE
  repeat (obtain ⟨hsx, hsE⟩ := hsE)
  by_cases hi : i < (bw (nextF d) [0] i).length
  ·have hsucc := bw_succ hi
   have hx := hOi.2 _ (List.getElem_mem hi)
   generalize hBi : bw (nextF d) [0] i = B at *
   obtain ⟨s, hss⟩ := Int.eq_ofNat_of_zero_le hx.1
   have hsn : s < d.next.length := by omega
   obtain ⟨br, cr, e1, e2, e3⟩ := O.rs s hsn (by omega)
   obtain ⟨hw1, hw2, hw3, hw4⟩ := hk7 s hsn (by omega)
   have hrl := hsm.2.1 _ (List.getElem_mem hsn)
   rw [hss, nextF_get hsn] at hsucc
   generalize hr : d.next[s] = r at *
   repeat' first
    | (with_reducible first | refine Nx.go ?_ | refine Bk.go (fun _ => ?_) fun _ => ?_)
    | ((with_reducible first | refine NewB.mk2 fun nb hnb hnb1 hnb2 => ?_ | refine NewRow.mk2 fun nb nsp ncap hnb hncap hnb1 hnb2 => ?_); try simp only [zzn] at hnb2)
    | simp -dsimp -implicitDefEqProofs (disch := first | assumption | (simp only [zzm]; done) | omega | (try with_reducible refine Row.adr (by assumption) ?_); simp only [zzl, Nat.reduceAdd]; first | done | omega) only [go_sem, ↓reduceIte, seval]
   refine Tri.loopU tok [0, 1, 2, 3, 4, 5, 6, 11, 17, 34] (by kernel_rfl) [1, 2, 3, 4, 5] (fun q' G' fr H' => ∃ (k b c : Nat) (sp : List Value), k + q' = W ∧ (addN B (r.take k)).length + sp.length = c ∧ G' = G1 ∧ H' = (b, .cells ((addN B (r.take k)).map (Value.int .i64)) sp 3) :: (b1, .cells C [] 27) :: H ∧ fr = [(1, .pointer (some ⟨b1, 0, none⟩)), (2, .slice none 0 0), (3, .slice (some ⟨b, 0, none⟩) (addN B (r.take k)).length c), (4, .int .i64 (i : Nat)), (5, .int .i64 (k : Nat))]) (W) ?_ ?_
   ·refine Upd.now ?_
    exact ⟨0, b, c, sp, by omega, by rw [List.take_zero, addN_nil]; exact hc, rfl, rfl, rfl⟩
   ·rintro q' G9 fr H' hle' hs2 ⟨k, b', c', sp', hkq, hc', rfl, rfl, rfl⟩
    have hOk : OnceN d.label.length (addN B (r.take k)) := hOi.addN fun x hx => hw4 x (List.mem_of_mem_take hx)
    have hOkl := hOk.len
    obtain ⟨X, hX⟩ := addN_pre (r.take k) B
    have hXl := congrArg List.length hX
    rw [List.length_append] at hXl
    have hsE := hs2
    try simp only [zzs] at hsE
    repeat (obtain ⟨hsx, hsE⟩ := hsE)
    by_cases hk : k < W
    ·have hkr : k < r.length := by omega
     have had2 : Adr br := e2.adr (by rw [List.length_map]; omega)
     have hnext := addN_take B r hkr
     have hgi : (addN B (r.take k))[i]'(by omega) = (s : Nat) := by
      rw [← hss]
      simp only [hX]
      rw [List.getElem_append_left hi]
     have hga : ((addN B (r.take k)).map (Value.int .i64) ++ sp')[i]'(by rw [List.length_append, List.length_map]; omega) = .int .i64 (s : Nat) := by
      rw [List.getElem_append_left (by rw [List.length_map]; omega), List.getElem_map, hgi]
     have hb1 : G9 b' = none := by assumption
     have hy := hw4 _ (List.getElem_mem hkr)
     obtain ⟨t, ht⟩ := Int.eq_ofNat_of_zero_le hy.1
     rw [ht] at hnext
     have hfb : findH ((b', .cells ((addN B (r.take k)).map (Value.int .i64)) sp' 3) :: (b1, .cells C [] 27) :: H) b' = some (.cells ((addN B (r.take k)).map (Value.int .i64)) sp' 3) := findH_same _ _ _
     repeat' first
      | (with_reducible first | refine Nx.go ?_ | refine Bk.go (fun _ => ?_) fun _ => ?_)
      | ((with_reducible first | refine NewB.mk2 fun nb hnb hnb1 hnb2 => ?_ | refine NewRow.mk2 fun nb nsp ncap hnb hncap hnb1 hnb2 => ?_); try simp only [zzn] at hnb2)
      | simp -dsimp -implicitDefEqProofs (disch := first | assumption | (simp only [zzm]; done) | omega | (try with_reducible refine Row.adr (by assumption) ?_); simp only [zzl, Nat.reduceAdd]; first | done | omega) only [go_sem, ↓reduceIte, seval, -List.reduceReplicate, hCl, hCw, hWd, hCn, Row.obj O.rn, e1, Row.obj e2, List.getElem_map, ht, hga]
      | with_reducible refine Tri.drawS tok mixed [0, 1, 2, 3, 4, 5, 6, 11, 17, 34] 8 [1, 5, 7, 10] (.op 0 .plain (.op 1 .held (.op 2 .plain (.op 3 .plain (.op 4 .plain (.op 5 .held (.op 6 .plain (.op 7 .held (.op 8 .plain (.op 9 .plain (.op 10 .held (.op 11 .plain .nil)))))))))))) (by kernel_rfl) [(b1, .cells C [] 27), (b', .cells ((addN B (r.take k)).map (Value.int .i64)) sp' 3)] (by intro fsum; first | exact Nat.le_refl _ | (simp only [zzq]; omega)) ?_
     refine hasO_t (by omega) hb1 hfb ?_
     by_cases hin : (t : Int) ∈ addN B (r.take k)
     ·have hn2 : addN B (r.take (k + 1)) = addN B (r.take k) := by rw [hnext]; unfold add1; rw [if_pos hin]
      rw [decide_eq_true hin]
      repeat' first
       | (with_reducible first | refine Nx.go ?_ | refine Bk.go (fun _ => ?_) fun _ => ?_)
       | ((with_reducible first | refine NewB.mk2 fun nb hnb hnb1 hnb2 => ?_ | refine NewRow.mk2 fun nb nsp ncap hnb hncap hnb1 hnb2 => ?_); try simp only [zzn] at hnb2)
       | simp -dsimp -implicitDefEqProofs (disch := first | assumption | (simp only [zzm]; done) | omega | (try with_reducible refine Row.adr (by assumption) ?_); simp only [zzl, Nat.reduceAdd]; first | done | omega) only [go_sem, ↓reduceIte, seval]
      refine Upd.now ?_
      exact ⟨q' - 1, by omega, k + 1, b', c', sp', by omega, by rw [hn2]; exact hc', rfl, by rw [hn2], by rw [hn2]; rfl⟩
     ·have hn2 : addN B (r.take (k + 1)) = addN B (r.take k) ++ [(t : Int)] := by rw [hnext]; unfold add1; rw [if_neg hin]
      have hm2 : (addN B (r.take k)).map (Value.int .i64) ++ [.int .i64 (t : Nat)] = (addN B (r.take (k + 1))).map (Value.int .i64) := by rw [hn2, List.map_append]; rfl
      have hl2 := congrArg List.length hn2
      rw [List.length_append, List.length_singleton] at hl2
      rw [decide_eq_false hin]
      repeat' first
       | (with_reducible first | refine Nx.go ?_ | refine Bk.go (fun _ => ?_) fun _ => ?_)
       | ((with_reducible first | refine NewB.mk2 fun nb hnb hnb1 hnb2 => ?_ | refine NewRow.mk2 fun nb nsp ncap hnb hncap hnb1 hnb2 => ?_); try simp only [zzn] at hnb2)
       | simp -dsimp -implicitDefEqProofs (disch := first | assumption | (simp only [zzm]; done) | omega | (try with_reducible refine Row.adr (by assumption) ?_); simp only [zzl, Nat.reduceAdd]; first | done | omega) only [go_sem, ↓reduceIte, seval, List.replicate_one]
      rw [hm2, ← hl2]
      exact Upd.go (H' := (nb, .cells ((addN B (r.take (k + 1))).map (Value.int .i64)) nsp 3) :: (b1, .cells C [] 27) :: H) (by intro fsum; first | exact Nat.le_refl _ | (simp only [zzq]; omega)) (Upd.now ⟨q' - 1, by omega, k + 1, nb, ncap, nsp, by omega, by omega, rfl, rfl, rfl⟩)
    ·obtain rfl : k = W := by omega
     have hbr : addN B (r.take k) = bw (nextF d) [0] (i + 1) := by rw [List.take_of_length_le (by omega), hsucc]
     rw [hbr] at hc' hXl ⊢
     repeat' first
      | (with_reducible first | refine Nx.go ?_ | refine Bk.go (fun _ => ?_) fun _ => ?_)
      | ((with_reducible first | refine NewB.mk2 fun nb hnb hnb1 hnb2 => ?_ | refine NewRow.mk2 fun nb nsp ncap hnb hncap hnb1 hnb2 => ?_); try simp only [zzn] at hnb2)
      | simp -dsimp -implicitDefEqProofs (disch := first | assumption | (simp only [zzm]; done) | omega | (try with_reducible refine Row.adr (by assumption) ?_); simp only [zzl, Nat.reduceAdd]; first | done | omega) only [go_sem, ↓reduceIte, seval, -List.reduceReplicate, hCl, hCw, hWd]
     all_goals try (exfalso; omega)
     refine Upd.now ?_
     exact ⟨q - 1, by omega, i + 1, b', c', sp', by omega, by omega, hc', rfl, rfl, rfl⟩
  ·have he : bw (nextF d) [0] i = reachL d := bw_end hO hon (by omega)
   rw [he] at hil hc hi hOl ⊢
   repeat' first
    | (with_reducible first | refine Nx.go ?_ | refine Bk.go (fun _ => ?_) fun _ => ?_)
    | ((with_reducible first | refine NewB.mk2 fun nb hnb hnb1 hnb2 => ?_ | refine NewRow.mk2 fun nb nsp ncap hnb hncap hnb1 hnb2 => ?_); try simp only [zzn] at hnb2)
    | simp -dsimp -implicitDefEqProofs (disch := first | assumption | (simp only [zzm]; done) | omega | (try with_reducible refine Row.adr (by assumption) ?_); simp only [zzl, Nat.reduceAdd]; first | done | omega) only [go_sem, ↓reduceIte, seval]
   all_goals try (exfalso; omega)
   unfold UpdR
   refine Upd.go (H' := (b, .cells ((reachL d).map (Value.int .i64)) sp 3) :: H) (by intro fsum; first | exact Nat.le_refl _ | (simp only [zzq]; omega)) (Upd.shareRow (by assumption) fun G3 hle3 hs6 hr3 => ?_)
   exact fun hle hs => hR G3 _ hle3 hs ⟨some ⟨b, 0, none⟩, c, rfl, hr3, by omega⟩
end Go.Proofs.Ytdeableflgakdaa
namespace Go.Proofs.Ytdeableflgakdaa
open Go Go.V Go.Proofs
theorem take260 {C : List Value} (h : C.length = 260) : List.take 260 C = C := List.take_of_length_le (by omega)
theorem rkeep_t {d : DfaT} (hsm : SmallD d) (hok : RightP d) {l : List Int} (hl : l.length ≤ 2000000) {G : PHeap} {H : Heap} {R : Value → PHeap → Heap → Prop} {v w : Value} (hv : IsD G d v) (hwl : Sl G (Value.int .i64) w l)
  (hR : ∀ G' v', PLe G G' → Sep G' (keys H) → IsD G' (keepR d l).1 v' → R (.tuple #[v', .int .i64 (keepR d l).2]) G' H) : FnT Try.prog 64 [v, w] G H R := by
 obtain ⟨C, an, al, ay, cn, cl, cs, rs, rfl, O⟩ := hv.opened
 obtain ⟨hm1, hm2, hm3, hm4, hm5⟩ := id hsm
 have hw0 := hwl
 obtain ⟨aw, cw, rfl, hroww, hcw⟩ := hwl
 have hCl := O.len
 have hCa := O.all
 have hCx := O.l
 obtain ⟨hk1, hk2, hk3, hk4, hk5, hk6, hk7⟩ := id hok
 have hl2 : ∀ a b c : Value, (cellsD d a b c).length = 260 := fun a b c => cellsD_len O.ofl _ _ _
 have ht2 : ∀ a b c : Value, List.take 260 (cellsD d a b c) = cellsD d a b c := fun a b c => cellsD_all O.ofl _ _ _
 have hputz : ∀ a b c : Value, splice zeroC 0 (cellsD d a b c) = cellsD d a b c := fun a b c => by
  unfold splice
  rw [List.take_zero, List.nil_append, List.drop_of_length_le (by rw [zeroC_len, hl2]; omega), List.append_nil]
 refine FnT.sep ?_
 by_cases hh : l.head? = some 0
 ·have hpos : 0 < l.length := by
   rcases l with _ | ⟨x, l⟩
   ·cases hh
   ·simp
  have hl0 : l[0] = 0 := by
   rw [List.head?_eq_getElem?, List.getElem?_eq_getElem hpos] at hh
   exact Option.some.inj hh
  have hadw : Adr aw := hroww.adr (by rw [List.length_map]; omega)
  have hob : ∀ (H : Heap) (k : Value → Prop), objK G H (blk aw) (G (blk aw)) (ofs aw) k = k (.int .i64 0) := fun H k => by
   have := Row.obj hroww (i := 0) (by rw [List.length_map]; omega) H k
   rw [Nat.add_zero, List.getElem_map, hl0] at this
   exact this
  refine FnT.bodyS tok [0, 1, 2, 4, 5, 6, 7, 8, 9, 10, 11, 20, 32, 59, 64, 71, 88] (.seq .run (.seq .run (.seq .cut .cut))) Try.func64 rfl (by kernel_rfl) (by kernel_rfl) (by show _ ≤ 114; simp) fun hsep => ?_
  rw [Try.results64]
  have hsE := hsep
  try simp only [zzs] at hsE
  repeat (obtain ⟨hsx, hsE⟩ := hsE)
  repeat' first
   | (with_reducible first | refine Nx.go ?_ | refine Bk.go (fun _ => ?_) fun _ => ?_)
   | ((with_reducible first | refine NewB.mk2 fun nb hnb hnb1 hnb2 => ?_ | refine NewRow.mk2 fun nb nsp ncap hnb hncap hnb1 hnb2 => ?_); try simp only [zzn] at hnb2)
   | simp -dsimp -implicitDefEqProofs (disch := first | assumption | (simp only [zzm]; done) | omega | (try with_reducible refine Row.adr (by assumption) ?_); simp only [zzl, Nat.reduceAdd]; first | done | omega) only [go_sem, ↓reduceIte, seval, -List.reduceReplicate, List.toList_toArray, hCl, hCa, hCx, hob]
  all_goals try (exfalso; omega)
  rename_i b2 hb20 hb21 hb22
  obtain ⟨b4, e0⟩ : ∃ x, x = nb := ⟨_, rfl⟩
  subst e0
  refine Tri.live [0, 1, 2, 4, 5] ?_
  refine Tri.isPiece [1, 1, 0] Try.f64 (by kernel_rfl) ?_
  refine Tri.onlyN (rkp3_t hsm O) fun G4 l4 H4 hle4 hs4 hM => ?_
  obtain ⟨b7, vs, _, hvs, hfr, rfl⟩ := hM
  simp only [go_sem]
  refine Tri.live [0, 1, 2, 4, 5, 6] ?_
  rw [hfr]
  have hsE := hs4
  try simp only [zzs] at hsE
  repeat (obtain ⟨hsx, hsE⟩ := hsE)
  have O4 := O.mono hle4
  obtain ⟨ay4, cy4, rfl, hr4y, hcy4⟩ := id hvs
  have hrow4 := hroww.mono hle4
  have hsl4 := hw0.mono hle4
  refine Tri.run tok [0, 1, 2, 4, 5, 6, 7, 8, 9, 10, 11, 20, 32, 59, 64, 71, 88] (by kernel_rfl) ?_
  repeat' first
   | (with_reducible first | refine Nx.go ?_ | refine Bk.go (fun _ => ?_) fun _ => ?_)
   | ((with_reducible first | refine NewB.mk2 fun nb hnb hnb1 hnb2 => ?_ | refine NewRow.mk2 fun nb nsp ncap hnb hncap hnb1 hnb2 => ?_); try simp only [zzn] at hnb2)
   | simp -dsimp -implicitDefEqProofs (disch := first | assumption | (simp only [zzm]; done) | omega | (try with_reducible refine Row.adr (by assumption) ?_); simp only [zzl, Nat.reduceAdd]; first | done | omega) only [go_sem, ↓reduceIte, seval, -List.reduceReplicate, List.toList_toArray]
  refine Tri.loopU tok [0, 1, 2, 4, 5, 6, 7, 8, 9, 10, 11, 20, 32, 59, 64, 71, 88] (by kernel_rfl) [0, 1, 2, 4, 5, 6, 7] (fun q G' fr H' => ∃ i : Nat, i + q = l.length ∧ OnceN d.label.length (l.take i) ∧ G' = G4 ∧ H' = (b7, .cells (cellsD d (.slice none 0 0) (.slice none 0 0) (.slice ay4 d.names.length cy4)) [] 27) :: (b4, .cells zeroC [] 27) :: (b2, .cells C [] 27) :: H ∧ fr = [(0, .agg (List.toArray C)), (1, .slice aw l.length cw), (2, .pointer (some ⟨b2, 0, none⟩)), (4, .pointer (some ⟨b4, 0, none⟩)), (5, .int .i64 0), (6, .pointer (some ⟨b7, 0, none⟩)), (7, .int .i64 (i : Nat))]) (l.length) ?_ ?_
  ·refine Upd.now ?_
   exact ⟨0, by omega, ⟨by rw [List.take_zero]; exact List.nodup_nil, fun x hx => by rw [List.take_zero] at hx; cases hx⟩, rfl, rfl, rfl⟩
  ·rintro q0 G5 fr H' hle5 hs5 ⟨i, hiq, hOi, rfl, rfl, rfl⟩
   have hsE := hs5
   try simp only [zzs] at hsE
   repeat (obtain ⟨hsx, hsE⟩ := hsE)
   by_cases hil : i < l.length
   ·have htk := List.take_succ_eq_append_getElem hil
    obtain ⟨p, hp, hpi, _, hpn⟩ := place_first hil
    have hfp := findF_some hp
    by_cases hr : 0 ≤ l[i] ∧ l[i] < d.label.length
    ·by_cases hin : l[i] ∈ l.take i
     ·have hno : ¬ KeepOk d l := fun h => by
       have h2 := h.1.1.1.sublist (List.take_sublist (i + 1) l)
       rw [htk, List.nodup_append] at h2
       exact h2.2.2 _ hin _ (List.mem_singleton.2 rfl) rfl
      have hpi2 : p ≠ i := fun e => (hpn.1 e) hin
      rw [keepR_not hok hno] at hR
      repeat' first
       | (with_reducible first | refine Nx.go ?_ | refine Bk.go (fun _ => ?_) fun _ => ?_)
       | ((with_reducible first | refine NewB.mk2 fun nb hnb hnb1 hnb2 => ?_ | refine NewRow.mk2 fun nb nsp ncap hnb hncap hnb1 hnb2 => ?_); try simp only [zzn] at hnb2)
       | simp -dsimp -implicitDefEqProofs (disch := first | assumption | (simp only [zzm]; done) | omega | (try with_reducible refine Row.adr (by assumption) ?_); simp only [zzl, Nat.reduceAdd]; first | done | omega) only [go_sem, ↓reduceIte, seval, -List.reduceReplicate, hCl, hCx, Row.obj hrow4, List.getElem_map]
       | with_reducible refine Tri.drawS tok mixed [0, 1, 2, 4, 5, 6, 7, 8, 9, 10, 11, 20, 32, 59, 64, 71, 88] 7 [3, 9, 11, 20] (.op 0 .plain (.op 1 .plain (.op 2 .plain (.op 3 .held (.op 4 .plain (.op 5 .plain (.op 6 .plain (.op 7 .plain (.op 8 .plain (.op 9 .held (.op 10 .plain (.op 11 .held (.op 12 .plain (.op 13 .plain (.op 14 .plain (.op 15 .plain (.op 16 .plain (.op 17 .plain (.op 18 .plain (.op 19 .plain (.op 20 .held (.op 22 .plain (.op 21 .keeps (.op 23 .plain (.op 24 .plain .nil))))))))))))))))))))))))) (by kernel_rfl) [(b2, .cells C [] 27)] (by intro fsum; first | exact Nat.le_refl _ | (simp only [zzq]; omega)) ?_
      all_goals try (exfalso; omega)
      refine rplace_t hl hsl4 ?_
      rw [hfp]
      repeat' first
       | (with_reducible first | refine Nx.go ?_ | refine Bk.go (fun _ => ?_) fun _ => ?_)
       | ((with_reducible first | refine NewB.mk2 fun nb hnb hnb1 hnb2 => ?_ | refine NewRow.mk2 fun nb nsp ncap hnb hncap hnb1 hnb2 => ?_); try simp only [zzn] at hnb2)
       | simp -dsimp -implicitDefEqProofs (disch := first | assumption | (simp only [zzm]; done) | omega | (try with_reducible refine Row.adr (by assumption) ?_); simp only [zzl, Nat.reduceAdd]; first | done | omega) only [go_sem, ↓reduceIte, seval, -List.reduceReplicate, hCl, hCx, zeroC_len, zeroC_one, zeroC_take, zeroC_put]
      all_goals try (exfalso; omega)
      unfold UpdR
      refine Upd.leave (H' := H) (by intro fsum; first | exact Nat.le_refl _ | (simp only [zzq]; omega)) ?_
      exact fun _ hs => hR _ _ hle4 hs (zeroD_is _)
     ·have hpi2 : p = i := hpn.2 hin
      have hO2 : OnceN d.label.length (l.take (i + 1)) := by
       have h3 := hOi.add1 hr
       unfold add1 at h3
       rw [if_neg hin, ← htk] at h3
       exact h3
      repeat' first
       | (with_reducible first | refine Nx.go ?_ | refine Bk.go (fun _ => ?_) fun _ => ?_)
       | ((with_reducible first | refine NewB.mk2 fun nb hnb hnb1 hnb2 => ?_ | refine NewRow.mk2 fun nb nsp ncap hnb hncap hnb1 hnb2 => ?_); try simp only [zzn] at hnb2)
       | simp -dsimp -implicitDefEqProofs (disch := first | assumption | (simp only [zzm]; done) | omega | (try with_reducible refine Row.adr (by assumption) ?_); simp only [zzl, Nat.reduceAdd]; first | done | omega) only [go_sem, ↓reduceIte, seval, -List.reduceReplicate, hCl, hCx, Row.obj hrow4, List.getElem_map]
       | with_reducible refine Tri.drawS tok mixed [0, 1, 2, 4, 5, 6, 7, 8, 9, 10, 11, 20, 32, 59, 64, 71, 88] 7 [3, 9, 11, 20] (.op 0 .plain (.op 1 .plain (.op 2 .plain (.op 3 .held (.op 4 .plain (.op 5 .plain (.op 6 .plain (.op 7 .plain (.op 8 .plain (.op 9 .held (.op 10 .plain (.op 11 .held (.op 12 .plain (.op 13 .plain (.op 14 .plain (.op 15 .plain (.op 16 .plain (.op 17 .plain (.op 18 .plain (.op 19 .plain (.op 20 .held (.op 22 .plain (.op 21 .keeps (.op 23 .plain (.op 24 .plain .nil))))))))))))))))))))))))) (by kernel_rfl) [(b2, .cells C [] 27)] (by intro fsum; first | exact Nat.le_refl _ | (simp only [zzq]; omega)) ?_
      all_goals try (exfalso; omega)
      refine rplace_t hl hsl4 ?_
      rw [hfp, hpi2]
      repeat' first
       | (with_reducible first | refine Nx.go ?_ | refine Bk.go (fun _ => ?_) fun _ => ?_)
       | ((with_reducible first | refine NewB.mk2 fun nb hnb hnb1 hnb2 => ?_ | refine NewRow.mk2 fun nb nsp ncap hnb hncap hnb1 hnb2 => ?_); try simp only [zzn] at hnb2)
       | simp -dsimp -implicitDefEqProofs (disch := first | assumption | (simp only [zzm]; done) | omega | (try with_reducible refine Row.adr (by assumption) ?_); simp only [zzl, Nat.reduceAdd]; first | done | omega) only [go_sem, ↓reduceIte, seval, -List.reduceReplicate, hCl, hCx]
      all_goals try (exfalso; omega)
      refine Upd.now ?_
      exact ⟨q0 - 1, by omega, i + 1, by omega, hO2, rfl, rfl, rfl⟩
    ·have hno : ¬ KeepOk d l := fun h => hr (h.1.1.2 _ (List.getElem_mem hil))
     rw [keepR_not hok hno] at hR
     repeat' first
      | (with_reducible first | refine Nx.go ?_ | refine Bk.go (fun _ => ?_) fun _ => ?_)
      | ((with_reducible first | refine NewB.mk2 fun nb hnb hnb1 hnb2 => ?_ | refine NewRow.mk2 fun nb nsp ncap hnb hncap hnb1 hnb2 => ?_); try simp only [zzn] at hnb2)
      | simp -dsimp -implicitDefEqProofs (disch := first | assumption | (simp only [zzm]; done) | omega | (try with_reducible refine Row.adr (by assumption) ?_); simp only [zzl, Nat.reduceAdd]; first | done | omega) only [go_sem, ↓reduceIte, seval, -List.reduceReplicate, hCl, hCx, Row.obj hrow4, List.getElem_map, zeroC_len, zeroC_one, zeroC_take, zeroC_put]
      | with_reducible refine Tri.drawS tok mixed [0, 1, 2, 4, 5, 6, 7, 8, 9, 10, 11, 20, 32, 59, 64, 71, 88] 7 [3, 9, 11, 20] (.op 0 .plain (.op 1 .plain (.op 2 .plain (.op 3 .held (.op 4 .plain (.op 5 .plain (.op 6 .plain (.op 7 .plain (.op 8 .plain (.op 9 .held (.op 10 .plain (.op 11 .held (.op 12 .plain (.op 13 .plain (.op 14 .plain (.op 15 .plain (.op 16 .plain (.op 17 .plain (.op 18 .plain (.op 19 .plain (.op 20 .held (.op 22 .plain (.op 21 .keeps (.op 23 .plain (.op 24 .plain .nil))))))))))))))))))))))))) (by kernel_rfl) [(b2, .cells C [] 27)] (by intro fsum; first | exact Nat.le_refl _ | (simp only [zzq]; omega)) ?_
     all_goals try (exfalso; omega)
     all_goals unfold UpdR
     all_goals refine Upd.leave (H' := H) (by intro fsum; first | exact Nat.le_refl _ | (simp only [zzq]; omega)) ?_
     all_goals exact fun _ hs => hR _ _ hle4 hs (zeroD_is _)
   ·obtain rfl : i = l.length := by omega
    rw [List.take_length] at hOi
    have hO := hOi
    have hln : l.length ≤ d.label.length := hO.len
    repeat' first
     | (with_reducible first | refine Nx.go ?_ | refine Bk.go (fun _ => ?_) fun _ => ?_)
     | ((with_reducible first | refine NewB.mk2 fun nb hnb hnb1 hnb2 => ?_ | refine NewRow.mk2 fun nb nsp ncap hnb hncap hnb1 hnb2 => ?_); try simp only [zzn] at hnb2)
     | simp -dsimp -implicitDefEqProofs (disch := first | assumption | (simp only [zzm]; done) | omega | (try with_reducible refine Row.adr (by assumption) ?_); simp only [zzl, Nat.reduceAdd]; first | done | omega) only [go_sem, ↓reduceIte, seval, -List.reduceReplicate]
    all_goals try (exfalso; omega)
    refine Tri.loopS tok [0, 1, 2, 4, 5, 6, 7, 8, 9, 10, 11, 20, 32, 59, 64, 71, 88] (.seq .run (.seq (.block .cut) .cut)) (by kernel_rfl) [0, 1, 2, 4, 5, 6, 8] (fun q G' fr H' => ∃ (j : Nat) (vn vl : Value) (kn kl : Heap), j + q = l.length ∧ PLe G5 G' ∧ (∀ i (h : i < l.length), i < j → fineK d l l[i]) ∧ RowK d l G' j vn kn ∧ LabK d l j vl kl ∧ H' = (b7, .cells (cellsD d vn vl (.slice ay4 d.names.length cy4)) [] 27) :: (b2, .cells C [] 27) :: (kn ++ (kl ++ ((b4, .cells zeroC [] 27) :: H))) ∧ fr = [(0, .agg (List.toArray C)), (1, .slice aw l.length cw), (2, .pointer (some ⟨b2, 0, none⟩)), (4, .pointer (some ⟨b4, 0, none⟩)), (5, .int .i64 0), (6, .pointer (some ⟨b7, 0, none⟩)), (8, .int .i64 (j : Nat))]) (l.length) ?_ ?_
    ·exact Upd.go (H' := (b7, .cells (cellsD d (.slice none 0 0) (.slice none 0 0) (.slice ay4 d.names.length cy4)) [] 27) :: (b2, .cells C [] 27) :: ([] ++ ([] ++ ((b4, .cells zeroC [] 27) :: H)))) (by intro fsum; first | exact Nat.le_refl _ | (simp only [zzq]; omega)) (Upd.now ⟨0, _, _, [], [], by omega, PLe.refl _, fun i h h2 => by omega, .inl ⟨rfl, rfl, rfl⟩, .inl ⟨rfl, rfl, rfl⟩, rfl, rfl⟩)
    ·rintro q G6 fr H' hle6 hs6 ⟨j, vn, vl, kn, kl, hj, hleG6, hfine, hro, hlo, rfl, rfl⟩
     have O6 := O4.mono hleG6
     have k6 := hle4.trans hleG6
     by_cases hjl : j < l.length
     ·by_cases hfj : fineK d l l[j]
      ·repeat' first
        | (with_reducible first | refine Nx.go ?_ | refine Bk.go (fun _ => ?_) fun _ => ?_)
        | ((with_reducible first | refine NewB.mk2 fun nb hnb hnb1 hnb2 => ?_ | refine NewRow.mk2 fun nb nsp ncap hnb hncap hnb1 hnb2 => ?_); try simp only [zzn] at hnb2)
        | simp -dsimp -implicitDefEqProofs (disch := first | assumption | (simp only [zzm]; done) | omega | (try with_reducible refine Row.adr (by assumption) ?_); simp only [zzl, Nat.reduceAdd]; first | done | omega) only [go_sem, ↓reduceIte, seval, -List.reduceReplicate, List.toList_toArray]
       refine Tri.live [0, 1, 2, 4, 5, 6, 8] ?_
       refine Tri.isPiece [1, 1, 1, 1, 0, 1, 0, 0, 1, 0, 0] Try.f64 (by kernel_rfl) ?_
       refine Tri.onlyN (rkx_t hsm hok hO O6 hcw (hroww.mono k6) hjl hro hlo rfl hfj) fun G7 l7 H7 hle7 hs7 hM => ?_
       obtain ⟨vn', vl', kn', kl', _, hro', hlo', hfr', rfl⟩ := hM
       simp only [go_sem]
       refine Tri.live [0, 1, 2, 4, 5, 6, 8] ?_
       rw [hfr']
       refine Tri.run tok [0, 1, 2, 4, 5, 6, 7, 8, 9, 10, 11, 20, 32, 59, 64, 71, 88] (by kernel_rfl) ?_
       repeat' first
        | (with_reducible first | refine Nx.go ?_ | refine Bk.go (fun _ => ?_) fun _ => ?_)
        | ((with_reducible first | refine NewB.mk2 fun nb hnb hnb1 hnb2 => ?_ | refine NewRow.mk2 fun nb nsp ncap hnb hncap hnb1 hnb2 => ?_); try simp only [zzn] at hnb2)
        | simp -dsimp -implicitDefEqProofs (disch := first | assumption | (simp only [zzm]; done) | omega | (try with_reducible refine Row.adr (by assumption) ?_); simp only [zzl, Nat.reduceAdd]; first | done | omega) only [go_sem, ↓reduceIte, seval, -List.reduceReplicate, List.toList_toArray]
       refine Upd.now ?_
       exact ⟨q - 1, by omega, j + 1, vn', vl', kn', kl', by omega, hleG6.trans hle7, fun i h h2 => by
        by_cases e : i = j
        ·subst e; exact hfj
        ·exact hfine i h (by omega), hro', hlo', rfl, rfl⟩
      ·have hno : ¬ KeepOk d l := fun h => hfj (h.2 _ (List.getElem_mem hjl))
       rw [keepR_not hok hno] at hR
       repeat' first
        | (with_reducible first | refine Nx.go ?_ | refine Bk.go (fun _ => ?_) fun _ => ?_)
        | ((with_reducible first | refine NewB.mk2 fun nb hnb hnb1 hnb2 => ?_ | refine NewRow.mk2 fun nb nsp ncap hnb hncap hnb1 hnb2 => ?_); try simp only [zzn] at hnb2)
        | simp -dsimp -implicitDefEqProofs (disch := first | assumption | (simp only [zzm]; done) | omega | (try with_reducible refine Row.adr (by assumption) ?_); simp only [zzl, Nat.reduceAdd]; first | done | omega) only [go_sem, ↓reduceIte, seval, -List.reduceReplicate, List.toList_toArray]
       refine Tri.live [0, 1, 2, 4, 5, 6, 8] ?_
       refine Tri.upd (Upd.go (H' := (b4, .cells zeroC [] 27) :: (b7, .cells (cellsD d vn vl (.slice ay4 d.names.length cy4)) [] 27) :: (b2, .cells C [] 27) :: (kn ++ (kl ++ H))) (by intro fsum; first | exact Nat.le_refl _ | (simp only [zzq]; omega)) (Upd.now ?_))
       refine Tri.isPiece [1, 1, 1, 1, 0, 1, 0, 0, 1, 0, 0] Try.f64 (by kernel_rfl) ?_
       refine Tri.onlyR (rkxb_t hsm hok hO O6 hcw (hroww.mono k6) hjl hfj) fun G7 l7 H7 hle7 hs7 hM => ?_
       obtain ⟨_, hfr', rfl⟩ := hM
       have hsE := hs7
       try simp only [zzs] at hsE
       repeat (obtain ⟨hsx, hsE⟩ := hsE)
       have h4 : V.look l7 4 = some (.pointer (some ⟨b4, 0, none⟩)) := look_restrict [4, 5] l7 4 _ (by rw [hfr']; rfl)
       have h5 : V.look l7 5 = some (.int .i64 1) := look_restrict [4, 5] l7 5 _ (by rw [hfr']; rfl)
       repeat' first
        | (with_reducible first | refine Nx.go ?_ | refine Bk.go (fun _ => ?_) fun _ => ?_)
        | ((with_reducible first | refine NewB.mk2 fun nb hnb hnb1 hnb2 => ?_ | refine NewRow.mk2 fun nb nsp ncap hnb hncap hnb1 hnb2 => ?_); try simp only [zzn] at hnb2)
        | simp -dsimp -implicitDefEqProofs (disch := first | assumption | (simp only [zzm]; done) | omega | (try with_reducible refine Row.adr (by assumption) ?_); simp only [zzl, Nat.reduceAdd]; first | done | omega) only [go_sem, ↓reduceIte, seval, -List.reduceReplicate, List.toList_toArray, h4, h5, zeroC_len, zeroC_one, zeroC_take, zeroC_put]
       unfold UpdR
       refine Upd.leave (H' := H) (by intro fsum; first | exact Nat.le_refl _ | (simp only [zzq]; omega)) ?_
       exact fun _ hs => hR G7 _ (k6.trans hle7) hs (zeroD_is _)
     ·obtain rfl : j = l.length := by omega
      have hko : KeepOk d l := ⟨⟨hO, hh⟩, fun x hx => by
       obtain ⟨i, hi, rfl⟩ := List.getElem_of_mem hx
       exact hfine i hi hi⟩
      rw [keepR_ok hok hko] at hR
      rcases hro with ⟨hj0, _, _⟩ | ⟨bn, c1, rv, sp1, rfl, rfl, hrv, hc1, hrws⟩
      ·exact absurd hj0 (by omega)
      rcases hlo with ⟨hj0, _, _⟩ | ⟨bl, c2, sp2, rfl, rfl, hc2⟩
      ·exact absurd hj0 (by omega)
      have hsE := hs6
      try simp only [zzs] at hsE
      repeat (obtain ⟨hsx, hsE⟩ := hsE)
      have hone := cellsD_one (d := d) (vn := .slice (some ⟨bn, 0, none⟩) l.length c1) (vl := .slice (some ⟨bl, 0, none⟩) l.length c2) (vs := .slice ay4 d.names.length cy4) rfl rfl rfl
      have hLl : (labF d l).length = l.length := by unfold labF; rw [List.length_map]
      rw [show (labF d l).take l.length = labF d l by rw [← hLl, List.take_length]]
      repeat' first
       | (with_reducible first | refine Nx.go ?_ | refine Bk.go (fun _ => ?_) fun _ => ?_)
       | ((with_reducible first | refine NewB.mk2 fun nb hnb hnb1 hnb2 => ?_ | refine NewRow.mk2 fun nb nsp ncap hnb hncap hnb1 hnb2 => ?_); try simp only [zzn] at hnb2)
       | simp -dsimp -implicitDefEqProofs (disch := first | assumption | (simp only [zzm]; done) | omega | (try with_reducible refine Row.adr (by assumption) ?_); simp only [zzl, Nat.reduceAdd]; first | done | omega) only [go_sem, ↓reduceIte, seval, -List.reduceReplicate, List.toList_toArray, hl2, ht2, hputz, hone, zeroC_len]
      unfold UpdR
      refine Upd.go (H' := (bn, .cells rv sp1 24) :: (bl, .cells ((labF d l).map (Value.int .i64)) sp2 3) :: H) (by intro fsum; first | exact Nat.le_refl _ | (simp only [zzq]; omega)) (Upd.trans (Upd.shareRow (by assumption) fun G7 hle7 hs7 hr7 => ?_))
      refine Upd.shareRow hs7.1.1 fun G8 hle8 hs8 hr8 => ?_
      have k8 := hle7.trans hle8
      refine fun _ hs => hR G8 _ (k6.trans k8) hs ?_
      refine ⟨O.ofl, O.ofb, _, _, _, rfl, ⟨some ⟨bn, 0, none⟩, c1, rv, ?_, hr7.mono hle8, ?_, ?_, fun i h h2 => ?_⟩, ⟨some ⟨bl, 0, none⟩, c2, ?_, hr8, ?_⟩, ⟨ay4, cy4, rfl, hr4y.mono (hleG6.trans k8), hcy4⟩⟩
      ·simp only [keepD, List.length_map]
      ·simp only [keepD, List.length_map]; exact hrv
      ·simp only [keepD, List.length_map]; omega
      ·have hi : i < l.length := by simp only [keepD, List.length_map] at h; exact h
       obtain ⟨b', c', f1, f2, f3⟩ := hrws i hi h2 hi
       refine ⟨b', c', ?_, ?_, ?_⟩
       ·simp only [keepD, List.getElem_map]; exact f1
       ·simp only [keepD, List.getElem_map]; exact f2.mono k8
       ·simp only [keepD, List.getElem_map]; exact f3
      ·simp only [keepD, hLl]
      ·simp only [keepD, hLl]; omega
 ·have hno : ¬ KeepOk d l := fun h => hh h.1.2
  rw [keepR_not hok hno] at hR
  by_cases h0 : l.length = 0
  ·refine FnT.body tok [0, 1, 2, 4, 5, 6, 7, 8, 9, 10, 11, 20, 32, 59, 64, 71, 88] Try.func64 rfl (by kernel_rfl) (by kernel_rfl) (by show _ ≤ 114; simp) fun hsep => ?_
   rw [Try.results64]
   have hsE := hsep
   try simp only [zzs] at hsE
   repeat (obtain ⟨hsx, hsE⟩ := hsE)
   repeat' first
    | (with_reducible first | refine Nx.go ?_ | refine Bk.go (fun _ => ?_) fun _ => ?_)
    | ((with_reducible first | refine NewB.mk2 fun nb hnb hnb1 hnb2 => ?_ | refine NewRow.mk2 fun nb nsp ncap hnb hncap hnb1 hnb2 => ?_); try simp only [zzn] at hnb2)
    | simp -dsimp -implicitDefEqProofs (disch := first | assumption | (simp only [zzm]; done) | omega | (try with_reducible refine Row.adr (by assumption) ?_); simp only [zzl, Nat.reduceAdd]; first | done | omega) only [go_sem, ↓reduceIte, seval, -List.reduceReplicate, List.toList_toArray, hCl, hCa, zeroC_len, zeroC_one, zeroC_take, zeroC_put]
   all_goals try (exfalso; omega)
   unfold UpdR
   refine Upd.leave (H' := H) (by intro fsum; first | exact Nat.le_refl _ | (simp only [zzq]; omega)) ?_
   exact fun _ hs => hR G _ (PLe.refl _) hs (zeroD_is _)
  ·have hpos : 0 < l.length := by omega
   have hl0 : l[0] ≠ 0 := fun e => hh (by rw [List.head?_eq_getElem?, List.getElem?_eq_getElem hpos, e])
   have hadw : Adr aw := hroww.adr (by rw [List.length_map]; omega)
   have hob : ∀ (H : Heap) (k : Value → Prop), objK G H (blk aw) (G (blk aw)) (ofs aw) k = k (.int .i64 l[0]) := fun H k => by
    have := Row.obj hroww (i := 0) (by rw [List.length_map]; omega) H k
    rw [Nat.add_zero, List.getElem_map] at this
    exact this
   refine FnT.body tok [0, 1, 2, 4, 5, 6, 7, 8, 9, 10, 11, 20, 32, 59, 64, 71, 88] Try.func64 rfl (by kernel_rfl) (by kernel_rfl) (by show _ ≤ 114; simp) fun hsep => ?_
   rw [Try.results64]
   have hsE := hsep
   try simp only [zzs] at hsE
   repeat (obtain ⟨hsx, hsE⟩ := hsE)
   repeat' first
    | (with_reducible first | refine Nx.go ?_ | refine Bk.go (fun _ => ?_) fun _ => ?_)
    | ((with_reducible first | refine NewB.mk2 fun nb hnb hnb1 hnb2 => ?_ | refine NewRow.mk2 fun nb nsp ncap hnb hncap hnb1 hnb2 => ?_); try simp only [zzn] at hnb2)
    | simp -dsimp -implicitDefEqProofs (disch := first | assumption | (simp only [zzm]; done) | omega | (try with_reducible refine Row.adr (by assumption) ?_); simp only [zzl, Nat.reduceAdd]; first | done | omega) only [go_sem, ↓reduceIte, seval, -List.reduceReplicate, List.toList_toArray, hCl, hCa, hob, zeroC_len, zeroC_one, zeroC_take, zeroC_put]
   all_goals try (exfalso; omega)
   unfold UpdR
   refine Upd.leave (H' := H) (by intro fsum; first | exact Nat.le_refl _ | (simp only [zzq]; omega)) ?_
   exact fun _ hs => hR G _ (PLe.refl _) hs (zeroD_is _)
theorem rtrim_t {d : DfaT} (hsm : SmallD d) (hok : RightP d) {G : PHeap} {H : Heap} {R : Value → PHeap → Heap → Prop} {v : Value} (hv : IsD G d v)
  (hR : ∀ G' v', PLe G G' → Sep G' (keys H) → IsD G' (trimD d) v' → R v' G' H) : FnT Try.prog 34 [v] G H R := by
 obtain ⟨C, an, al, ay, cn, cl, cs, rs, rfl, O⟩ := hv.opened
 have hCl := O.len
 have hCa := O.all
 have hk2 := hok.2.1
 have hrl := (reachL_once hok).len
 have hkr := keepR_ok hok (reachL_keep hok)
 have hrl2 : (reachL d).length ≤ 2000000 := by omega
 refine FnT.sep ?_
 refine FnT.body tok [0, 1, 2, 3] Try.func34 rfl (by kernel_rfl) (by kernel_rfl) (by show _ ≤ 13; simp) fun hsep => ?_
 rw [Try.results34]
 have hsE := hsep
 try simp only [zzs] at hsE
 repeat (obtain ⟨hsx, hsE⟩ := hsE)
 repeat' first
  | (with_reducible first | refine Nx.go ?_ | refine Bk.go (fun _ => ?_) fun _ => ?_)
  | (with_reducible refine NewB.mk2 fun nb hnb hnb1 hnb2 => ?_; try simp only [zzn] at hnb2)
  | simp -dsimp -implicitDefEqProofs (disch := first | assumption | (simp only [zzm]; done) | omega | (try with_reducible refine Row.adr (by assumption) ?_); simp only [zzl, Nat.reduceAdd]; first | done | omega) only [go_sem, ↓reduceIte, seval, -List.reduceReplicate, List.toList_toArray, hCl, hCa, isD_put, take260, zeroC_len, zeroC_one]
  | with_reducible refine Tri.drawH tok mixed [0, 1, 2, 3] 1 [0, 1] (.op 0 .held (.op 1 .held (.both (.op 2 .keeps (.both (.op 3 .keeps (.op 4 .plain (.op 5 .plain (.op 6 .plain (.op 7 .keeps (.op 8 .plain (.op 9 .plain .nil))))))) (.op 7 .keeps (.op 3 .keeps (.op 4 .plain (.op 5 .plain (.op 6 .plain (.op 8 .plain (.op 9 .plain .nil))))))))) (.op 7 .keeps (.op 2 .keeps (.op 3 .keeps (.op 4 .plain (.op 5 .plain (.op 6 .plain (.op 8 .plain (.op 9 .plain .nil))))))))))) (by kernel_rfl) [1] ?_
  | (with_reducible refine And.intro ?_ ?_)
  | ((with_reducible refine rreach_t hsm hok O.is fun G2 v2 hle2 hs2 hsl2 => ?_); (have hsE := hs2; try simp only [zzs] at hsE; repeat (obtain ⟨hsx, hsE⟩ := hsE)))
  | ((with_reducible refine rkeep_t hsm hok hrl2 (O.is.mono hle2) hsl2 fun G3 v3 hle3 hs3 hI => ?_); rw [hkr] at hI ⊢; obtain ⟨C', an', al', ay', cn', cl', cs', rs', rfl, O'⟩ := IsD.opened (d := trimD d) hI; have hDl := O'.len; have hone := isD_one O'.is; have hob : C'.length ≤ 260 ∧ C'.all oneV = true := ⟨Nat.le_of_eq hDl, hone⟩; (have hsE := hs3; try simp only [zzs] at hsE; repeat (obtain ⟨hsx, hsE⟩ := hsE)))
 all_goals unfold UpdR
 all_goals refine Upd.leave (H' := H) (by intro fsum; first | exact Nat.le_refl _ | (simp only [zzq]; omega)) ?_
 all_goals exact fun _ hs => hR G3 _ (hle2.trans hle3) hs O'.is
end Go.Proofs.Ytdeableflgakdaa
namespace Go.Proofs.Ytdeableflgakdaa
open Go Go.V Go.Proofs
theorem atL_iff {m : List Int} {x y : Int} (hx : 0 ≤ x ∧ x < m.length) (hy : 0 ≤ y ∧ y < m.length) : atL (nums m) x = atL (nums m) y ↔ atL m x = atL m y := by
 have hnl := nums_len m
 have h1 : x.toNat < m.length := by omega
 have h2 : y.toNat < m.length := by omega
 rw [atL_get (by omega), atL_get (by omega), atL_get h1, atL_get h2]
 exact nums_iff h1 h2
theorem rstable_t {d : DfaT} (hsm : SmallD d) {m : List Int} (hml : m.length ≤ 2000000) {G : PHeap} {H : Heap} {R : Value → PHeap → Heap → Prop} {v w : Value} (hv : IsD G d v) (hw : Sl G (Value.int .i64) w m)
    (hR : ∀ G', PLe G G' → Sep G' (keys H) → R (.bool (boolOf (StableP d m))) G' H) : FnT Try.prog 66 [v, w] G H R := by
  obtain ⟨C, an, al, ay, cn, cl, cs, rs, rfl, O⟩ := hv.opened
  obtain ⟨hm1, hm2, hm3, hm4, hm5⟩ := id hsm
  have hCl := O.len
  have hCw := O.w
  have hCn := O.n
  have hCx := O.l
  have hCa := O.all
  have hw0 := hw
  obtain ⟨a, cap, rfl, hrow, hcap⟩ := hw
  refine FnT.sep ?_
  refine FnT.body tok [0, 1, 2, 4, 5, 6, 7, 18, 22, 41, 45, 70] Try.func66 rfl (by kernel_rfl) (by kernel_rfl) (by show _ ≤ 71; simp) fun hsep => ?_
  rw [Try.results66]
  have hsE := hsep
  try simp only [zzs] at hsE
  repeat (obtain ⟨hsx, hsE⟩ := hsE)
  repeat' first
    | (with_reducible first | refine Nx.go ?_ | refine Bk.go (fun _ => ?_) fun _ => ?_)
    | (with_reducible refine NewB.mk2 fun nb hnb hnb1 hnb2 => ?_; try simp only [zzn] at hnb2)
    | simp -dsimp -implicitDefEqProofs (disch := first | assumption | (simp only [zzm]; done) | omega | (try with_reducible refine Row.adr (by assumption) ?_); simp only [zzl, Nat.reduceAdd]; first | done | omega) only [go_sem, ↓reduceIte, seval, -List.reduceReplicate, List.toList_toArray, hCl, hCa]
  revert nb
  intro b2 hb2 hb21 hb22
  refine rright_t hsm O.is fun G2 hle2 hs2 => ?_
  have hsE := hs2
  try simp only [zzs] at hsE
  repeat (obtain ⟨hsx, hsE⟩ := hsE)
  by_cases hok : RightP d
  · rw [boolOf_yes hok]
    obtain ⟨hk1, hk2, hk3, hk4, hk5, hk6, hk7⟩ := id hok
    have O2 := OpenD.mono hle2 O
    have hrow2 := hrow.mono hle2
    have hrn := O2.rn
    have hrl := O2.rl
    have hrnl := O2.rnl
    repeat' first
      | (with_reducible first | refine Nx.go ?_ | refine Bk.go (fun _ => ?_) fun _ => ?_)
      | (with_reducible refine NewB.mk2 fun nb hnb hnb1 hnb2 => ?_; try simp only [zzn] at hnb2)
      | simp -dsimp -implicitDefEqProofs (disch := first | assumption | (simp only [zzm]; done) | omega | (try with_reducible refine Row.adr (by assumption) ?_); simp only [zzl, Nat.reduceAdd]; first | done | omega) only [go_sem, ↓reduceIte, seval, -List.reduceReplicate, List.toList_toArray, hCl, hCw, hCn, hCx]
    · rename_i hne
      have hm : m.length = d.label.length := by omega
      refine Tri.loopU tok [0, 1, 2, 4, 5, 6, 7, 18, 22, 41, 45, 70] (by kernel_rfl) [1, 2, 4, 5] (fun q G' fr H' => ∃ s : Nat, s + q = m.length ∧ (∀ j t (hj : j < s) (hs : j < m.length) (h1 : j < d.label.length) (h2 : t < d.label.length) (h3 : j < d.next.length) (h4 : t < d.next.length), place m m[j] = some t → d.label[j] = d.label[t] ∧ sameRows (nums m) d.next[j] d.next[t]) ∧ G' = G2 ∧ H' = (b2, .cells C [] 27) :: H ∧ fr = [(1, .slice a m.length cap), (2, .pointer (some ⟨b2, 0, none⟩)), (4, .bool false), (5, .int .i64 (s : Nat))]) (m.length) ?_ ?_
      · exact Upd.now ⟨0, by omega, fun j t hj => by omega, rfl, rfl, rfl⟩
      · rintro q G3 fr H' hle hs ⟨s, hi, hno, rfl, rfl, rfl⟩
        have hsE := hs
        try simp only [zzs] at hsE
        repeat (obtain ⟨hsx, hsE⟩ := hsE)
        by_cases hsl : s < m.length
        · have hsn : s < d.next.length := by omega
          have hsL : s < d.label.length := by omega
          have hsv : s < rs.length := by omega
          obtain ⟨t, hpt, htl, ⟨htl2, hte⟩, _⟩ := place_first hsl
          have htn : t < d.next.length := by omega
          have htL : t < d.label.length := by omega
          have htv : t < rs.length := by omega
          obtain ⟨b, c, e1, e2, e3⟩ := O2.rs s hsn hsv
          obtain ⟨b', c', f1, f2, f3⟩ := O2.rs t htn htv
          have hfs := findF_some hpt
          have had : Adr an := hrn.adr (by omega)
          have had2 : Adr al := hrl.adr (by rw [List.length_map]; omega)
          have had3 : Adr a := hrow2.adr (by rw [List.length_map]; omega)
          obtain ⟨hw1, _, _, hr1⟩ := hk7 s hsn hsL
          obtain ⟨hw2, _, _, hr2⟩ := hk7 t htn htL
          obtain ⟨row, hrowe⟩ : ∃ row, row = d.next[s] := ⟨_, rfl⟩
          obtain ⟨row', hrowe'⟩ : ∃ row', row' = d.next[t] := ⟨_, rfl⟩
          have hrm := hm2 _ (List.getElem_mem hsn)
          rw [← hrowe] at e1 e2 e3 hw1 hr1 hrm
          rw [← hrowe'] at f1 f2 f3 hw2 hr2
          have hrr : row.length = row'.length := by omega
          have hw : d.width = (row.length : Int) := hw1.symm
          repeat' first
            | (with_reducible first | refine Nx.go ?_ | refine Bk.go (fun _ => ?_) fun _ => ?_)
            | (with_reducible refine NewB.mk2 fun nb hnb hnb1 hnb2 => ?_; try simp only [zzn] at hnb2)
            | with_reducible refine Tri.drawM tok mixed [0, 1, 2, 4, 5, 6, 7, 18, 22, 41, 45, 70] 7 [1, 4, 6, 9] (.op 0 .plain (.op 1 .held (.op 2 .plain (.op 3 .plain (.op 4 .held (.op 5 .plain (.op 6 .held (.op 7 .plain (.op 8 .plain (.op 9 .held (.op 10 .plain .nil))))))))))) (by kernel_rfl) _ (List.Sublist.refl _) ?_
            | simp -dsimp -implicitDefEqProofs (disch := first | assumption | (simp only [zzm]; done) | omega | (try with_reducible refine Row.adr (by assumption) ?_); simp only [zzl, Nat.reduceAdd]; first | done | omega) only [go_sem, ↓reduceIte, seval, -List.reduceReplicate, List.toList_toArray, hCl, hCw, hCn, hCx, Row.obj hrow2, Row.obj hrl, List.getElem_map, hfs]
            | with_reducible refine first_t m m[s] hml (hw0.mono hle2) ?_
          · rename_i hlab
            refine Tri.loopU tok [0, 1, 2, 4, 5, 6, 7, 18, 22, 41, 45, 70] (by kernel_rfl) [1, 2, 4, 5, 6, 7] (fun q2 G' fr H' => ∃ k : Nat, k + q2 = row.length ∧ (∀ j (h : j < row.length), j < k → atL m row[j] = atL m (row'[j]'(by omega))) ∧ G' = G3 ∧ H' = (b2, .cells C [] 27) :: H ∧ fr = [(1, .slice a m.length cap), (2, .pointer (some ⟨b2, 0, none⟩)), (4, .bool false), (5, .int .i64 (s : Nat)), (6, .int .i64 (t : Nat)), (7, .int .i64 (k : Nat))]) (row.length) ?_ ?_
            · exact Upd.now ⟨0, by omega, fun j _ h => by omega, rfl, rfl, rfl⟩
            · rintro q2 G4 fr H' hle4 hs4 ⟨k, hk, hno2, rfl, rfl, rfl⟩
              have hsE := hs4
              try simp only [zzs] at hsE
              repeat (obtain ⟨hsx, hsE⟩ := hsE)
              by_cases hkl : k < row.length
              · have hkl' : k < row'.length := by omega
                have had4 : Adr b := e2.adr (by rw [List.length_map]; omega)
                have had5 : Adr b' := f2.adr (by rw [List.length_map]; omega)
                have hy1 := hr1 _ (List.getElem_mem hkl)
                have hy2 := hr2 _ (List.getElem_mem hkl')
                obtain ⟨y, hy⟩ := Int.eq_ofNat_of_zero_le hy1.1
                obtain ⟨y', hy'⟩ := Int.eq_ofNat_of_zero_le hy2.1
                have hym : y < m.length := by omega
                have hym' : y' < m.length := by omega
                have g1 : atL m row[k] = m[y] := by rw [hy, atL_get (by simpa using hym)]; simp only [Int.toNat_natCast]
                have g2 : atL m row'[k] = m[y'] := by rw [hy', atL_get (by simpa using hym')]; simp only [Int.toNat_natCast]
                repeat' first
                  | (with_reducible first | refine Nx.go ?_ | refine Bk.go (fun _ => ?_) fun _ => ?_)
                  | (with_reducible refine NewB.mk2 fun nb hnb hnb1 hnb2 => ?_; try simp only [zzn] at hnb2)
                  | with_reducible refine Tri.drawM tok mixed [0, 1, 2, 4, 5, 6, 7, 18, 22, 41, 45, 70] 12 [2, 5, 8, 10, 13, 16, 19, 21] (.op 0 .plain (.op 1 .plain (.op 2 .held (.op 3 .plain (.op 4 .plain (.op 5 .held (.op 6 .plain (.op 7 .plain (.op 8 .held (.op 9 .plain (.op 10 .held (.op 11 .plain (.op 12 .plain (.op 13 .held (.op 14 .plain (.op 15 .plain (.op 16 .held (.op 17 .plain (.op 18 .plain (.op 19 .held (.op 20 .plain (.op 21 .held (.op 22 .plain .nil))))))))))))))))))))))) (by kernel_rfl) _ (List.Sublist.refl _) ?_
                  | simp -dsimp -implicitDefEqProofs (disch := first | assumption | (simp only [zzm]; done) | omega | (try with_reducible refine Row.adr (by assumption) ?_); simp only [zzl, Nat.reduceAdd]; first | done | omega) only [go_sem, ↓reduceIte, seval, -List.reduceReplicate, List.toList_toArray, hCl, hCw, hCn, hCx, hw, Row.obj hrow2, Row.obj hrn, e1, f1, Row.obj e2, Row.obj f2, List.getElem_map, hy, hy', Int.toNat_natCast]
                all_goals try (exfalso; omega)
                all_goals first
                  | (rename_i hs
                     exact Upd.now ⟨q2 - 1, by omega, k + 1, by omega, fun j h hj => by
                        by_cases e : j = k
                        · subst e; rw [g1, g2]; exact hs
                        · exact hno2 j h (by omega), rfl, rfl, rfl⟩)
                  | (rename_i hs
                     have hcontra : ¬ StableP d m := fun h => by
                        obtain ⟨_, _, h3⟩ := h
                        obtain ⟨hl, hh⟩ := (h3 s t hsl hsL htL hsn htn hpt).2
                        have := hh k (by rw [← hrowe]; exact hkl)
                        simp only [← hrowe, ← hrowe'] at this
                        rw [atL_iff (by omega) (by omega), g1, g2] at this
                        exact hs this
                     unfold UpdR
                     refine Upd.leave (H' := H) (by intro fsum; first | exact Nat.le_refl _ | (simp only [zzq]; omega)) ?_
                     rw [boolOf_no hcontra] at hR
                     exact fun _ hs => hR _ hle2 hs)
              · obtain rfl : k = row.length := by omega
                repeat' first
                  | (with_reducible first | refine Nx.go ?_ | refine Bk.go (fun _ => ?_) fun _ => ?_)
                  | (with_reducible refine NewB.mk2 fun nb hnb hnb1 hnb2 => ?_; try simp only [zzn] at hnb2)
                  | simp -dsimp -implicitDefEqProofs (disch := first | assumption | (simp only [zzm]; done) | omega | (try with_reducible refine Row.adr (by assumption) ?_); simp only [zzl, Nat.reduceAdd]; first | done | omega) only [go_sem, ↓reduceIte, seval, -List.reduceReplicate, List.toList_toArray, hCl, hCw, hCn, hCx, hw]
                all_goals try (exfalso; omega)
                exact Upd.now ⟨q - 1, by omega, s + 1, by omega, fun j t' hj hs h1 h2 h3 h4 hp => by
                  by_cases e : j = s
                  · subst e
                    rw [hpt, Option.some.injEq] at hp
                    subst hp
                    refine ⟨hlab, ?_⟩
                    rw [← hrowe, ← hrowe']
                    exact ⟨hrr, fun k hk => by
                      have h1 := hr1 _ (List.getElem_mem hk)
                      have h2 := hr2 _ (List.getElem_mem (show k < row'.length by omega))
                      rw [atL_iff (by omega) (by omega)]
                      exact hno2 k hk hk⟩
                  · exact hno j t' (by omega) hs h1 h2 h3 h4 hp, rfl, rfl, rfl⟩
          · rename_i hlab
            have hcontra : ¬ StableP d m := fun h => hlab (h.2.2 s t hsl hsL htL hsn htn hpt).1
            unfold UpdR
            refine Upd.leave (H' := H) (by intro fsum; first | exact Nat.le_refl _ | (simp only [zzq]; omega)) ?_
            rw [boolOf_no hcontra] at hR
            exact fun _ hs => hR _ hle2 hs
        · obtain rfl : s = m.length := by omega
          repeat' first
            | (with_reducible first | refine Nx.go ?_ | refine Bk.go (fun _ => ?_) fun _ => ?_)
            | (with_reducible refine NewB.mk2 fun nb hnb hnb1 hnb2 => ?_; try simp only [zzn] at hnb2)
            | simp -dsimp -implicitDefEqProofs (disch := first | assumption | (simp only [zzm]; done) | omega | (try with_reducible refine Row.adr (by assumption) ?_); simp only [zzl, Nat.reduceAdd]; first | done | omega) only [go_sem, ↓reduceIte, seval, -List.reduceReplicate]
          unfold UpdR
          refine Upd.leave (H' := H) (by intro fsum; first | exact Nat.le_refl _ | (simp only [zzq]; omega)) ?_
          rw [boolOf_yes (p := StableP d m) ⟨hok, hm, fun s t hs h1 h2 h3 h4 hp => hno s t hs hs h1 h2 h3 h4 hp⟩] at hR
          exact fun _ hs => hR _ hle2 hs
    · rename_i hne
      unfold UpdR
      refine Upd.leave (H' := H) (by intro fsum; first | exact Nat.le_refl _ | (simp only [zzq]; omega)) ?_
      rw [boolOf_no (p := StableP d m) fun h => by have := h.2.1; omega] at hR
      exact fun _ hs => hR _ hle2 hs
  · rw [boolOf_no hok]
    repeat' first
      | (with_reducible first | refine Nx.go ?_ | refine Bk.go (fun _ => ?_) fun _ => ?_)
      | (with_reducible refine NewB.mk2 fun nb hnb hnb1 hnb2 => ?_; try simp only [zzn] at hnb2)
      | simp -dsimp -implicitDefEqProofs (disch := first | assumption | (simp only [zzm]; done) | omega | (try with_reducible refine Row.adr (by assumption) ?_); simp only [zzl, Nat.reduceAdd]; first | done | omega) only [go_sem, ↓reduceIte, seval, -List.reduceReplicate]
    unfold UpdR
    refine Upd.leave (H' := H) (by intro fsum; first | exact Nat.le_refl _ | (simp only [zzq]; omega)) ?_
    rw [boolOf_no (p := StableP d m) fun h => hok h.1] at hR
    exact fun _ hs => hR _ hle2 hs
end Go.Proofs.Ytdeableflgakdaa
namespace Go.Proofs.Ytdeableflgakdaa
open Go Go.V Go.Proofs
theorem texts_t (xs ys : List (List UInt8)) (hlen : xs.length ≤ 9000000) {G : PHeap} {H : Heap} {R : Value → PHeap → Heap → Prop} {v w : Value} (hv : Sl G str v xs) (hw : Sl G str w ys) (hR : R (.bool (decide (xs = ys))) G H) : FnT Try.prog 38 [v, w] G H R := by
 obtain ⟨a, cap, rfl, hrow, hcap⟩ := hv
 obtain ⟨a', cap', rfl, hrow', hcap'⟩ := hw
 refine FnT.body tok [0, 1, 4, 5, 10, 14, 25] Try.func38 rfl (by kernel_rfl) (by kernel_rfl) (by show _ ≤ 26; simp) fun hsep => ?_
 rw [Try.results38]
 have hsE := hsep
 try simp only [zzs] at hsE
 repeat (obtain ⟨hsx, hsE⟩ := hsE)
 repeat' first
  | (with_reducible first | refine Nx.go ?_ | refine Bk.go (fun _ => ?_) fun _ => ?_)
  | (with_reducible refine NewB.mk2 fun nb hnb hnb1 hnb2 => ?_; try simp only [zzn] at hnb2)
  | simp -dsimp -implicitDefEqProofs (disch := first | assumption | (simp only [zzm]; done) | omega | (try with_reducible refine Row.adr (by assumption) ?_); simp only [zzl, Nat.reduceAdd]; first | done | omega) only [go_sem, ↓reduceIte, seval]
 ·rename_i hne
  have hxy : xs.length = ys.length := by omega
  refine Tri.loopU tok [0, 1, 4, 5, 10, 14, 25] (by kernel_rfl) [0, 1, 4, 5] (fun n G' l H' => ∃ i : Nat, i + n = xs.length ∧ (∀ j (h : j < xs.length), j < i → xs[j] = ys[j]) ∧ G' = G ∧ H' = H ∧ l = [(0, .slice a xs.length cap), (1, .slice a' ys.length cap'), (4, .bool false), (5, .int .i64 i)]) (xs.length) (Upd.now ?_) ?_
  ·exact ⟨0, by omega, fun j _ h => by omega, rfl, rfl, rfl⟩
  ·rintro n G' l H' hle hs ⟨i, hi, hno, rfl, rfl, rfl⟩
   by_cases hil : i < xs.length
   ·have hil' : i < ys.length := by omega
    repeat' first
     | (with_reducible first | refine Nx.go ?_ | refine Bk.go (fun _ => ?_) fun _ => ?_)
     | (with_reducible refine NewB.mk2 fun nb hnb hnb1 hnb2 => ?_; try simp only [zzn] at hnb2)
     | with_reducible refine Tri.drawH tok mixed [0, 1, 4, 5, 10, 14, 25] 6 [3, 7] (.op 0 .plain (.op 1 .plain (.op 2 .plain (.op 3 .held (.op 4 .plain (.op 5 .plain (.op 6 .plain (.op 7 .held (.op 8 .plain .nil))))))))) (by kernel_rfl) [0, 1] ?_
     | simp -dsimp -implicitDefEqProofs (disch := first | assumption | (simp only [zzm]; done) | omega | (try with_reducible refine Row.adr (by assumption) ?_); simp only [zzl, Nat.reduceAdd]; first | done | omega) only [go_sem, ↓reduceIte, seval, Row.obj hrow, Row.obj hrow', List.getElem_map]
    ·rename_i he
     exact Upd.now ⟨n - 1, by omega, i + 1, by omega, fun j h hj => by
      by_cases e : j = i
      ·subst e; exact he
      ·exact hno j h (by omega), rfl, rfl, rfl⟩
    ·rename_i he
     rw [decide_eq_false (fun e => he (by subst e; rfl))] at hR
     all_goals refine Upd.finL ?_ hR ?_
     any_goals (intro fsum; first | exact Nat.le_refl _ | (simp only [zzq]; omega))
     rfl
   ·obtain rfl : i = xs.length := by omega
    rw [decide_eq_true (List.ext_getElem hxy fun j h1 h2 => hno j h1 h1)] at hR
    repeat' first
     | (with_reducible first | refine Nx.go ?_ | refine Bk.go (fun _ => ?_) fun _ => ?_)
     | (with_reducible refine NewB.mk2 fun nb hnb hnb1 hnb2 => ?_; try simp only [zzn] at hnb2)
     | simp -dsimp -implicitDefEqProofs (disch := first | assumption | (simp only [zzm]; done) | omega | (try with_reducible refine Row.adr (by assumption) ?_); simp only [zzl, Nat.reduceAdd]; first | done | omega) only [go_sem, ↓reduceIte, seval]
    all_goals refine Upd.finL ?_ hR ?_
    any_goals (intro fsum; first | exact Nat.le_refl _ | (simp only [zzq]; omega))
    rfl
 ·rename_i hne
  rw [decide_eq_false (fun e => hne (by subst e; rfl))] at hR
  all_goals refine Upd.finL ?_ hR ?_
  any_goals (intro fsum; first | exact Nat.le_refl _ | (simp only [zzq]; omega))
  rfl
theorem DfaT.ext' {d e : DfaT} (h1 : d.of = e.of) (h2 : d.width = e.width) (h3 : d.next = e.next) (h4 : d.label = e.label) (h5 : d.names = e.names) : d = e := by
 cases d; cases e; simp only at h1 h2 h3 h4 h5; subst h1 h2 h3 h4 h5; rfl
theorem same20_t {d e : DfaT} (hsm : SmallD d) {G : PHeap} {H : Heap} {R : Value → PHeap → Heap → Prop} {v w : Value} (hv : IsD G d v) (hw : IsD G e w) (hR : R (.bool (boolOf (d = e))) G H) : FnT Try.prog 16 [v, w] G H R := by
  obtain ⟨C, an, al, ay, cn, cl, cs, rs, rfl, O⟩ := hv.opened
  obtain ⟨C', an', al', ay', cn', cl', cs', rs', rfl, O'⟩ := hw.opened
  obtain ⟨hm1, hm2, hm3, hm4, hm5⟩ := id hsm
  have hCl := O.len
  have hCw := O.w
  have hCn := O.n
  have hCx := O.l
  have hCs := O.s
  have hCo := O.of
  have hDl := O'.len
  have hDw := O'.w
  have hDn := O'.n
  have hDx := O'.l
  have hDs := O'.s
  have hDo := O'.of
  have heq : eqT T 9 22 (agg8 d.of) (agg8 e.of) = some (decide (d.of = e.of)) := eqT_ints (d := 7) (t := 22) (e := 5) (n := 256) (k := .u8) rfl rfl rfl O.ofl O'.ofl
  refine FnT.body tok [0, 1, 2, 3, 4, 5, 42, 47, 61] Try.func16 rfl (by kernel_rfl) (by kernel_rfl) (by show _ ≤ 62; simp) fun hsep => ?_
  rw [Try.results16]
  have hsE := hsep
  try simp only [zzs] at hsE
  repeat (obtain ⟨hsx, hsE⟩ := hsE)
  repeat' first
    | (with_reducible first | refine Nx.go ?_ | refine Bk.go (fun _ => ?_) fun _ => ?_)
    | (with_reducible refine NewB.mk2 fun nb hnb hnb1 hnb2 => ?_; try simp only [zzn] at hnb2)
    | simp -dsimp -implicitDefEqProofs (disch := first | assumption | (simp only [zzm]; done) | omega | (try with_reducible refine Row.adr (by assumption) ?_); simp only [zzl, Nat.reduceAdd]; first | done | omega) only [go_sem, ↓reduceIte, seval, -List.reduceReplicate, List.toList_toArray, hCl, hCw, hCn, hCx, hCs, hCo, hDl, hDw, hDn, hDx, hDs, hDo, heq]
    | with_reducible refine same17_t _ _ hm3 O.label O'.label ?_
    | with_reducible refine texts_t _ _ (by omega) O.names O'.names ?_
  · rename_i b2 hb20 hb21 hb22 q1 q2 q3 q4 q5
    revert nb
    intro b3 hb30 hb31 hb32
    have hnn : d.next.length = e.next.length := by omega
    have hrn := O.rn
    have hrn' := O'.rn
    have hrnl := O.rnl
    have hrnl' := O'.rnl
    refine Tri.loopU tok [0, 1, 2, 3, 4, 5, 42, 47, 61] (by kernel_rfl) [2, 3, 4, 5] (fun q G' fr H' => ∃ i : Nat, i + q = d.next.length ∧ (∀ j (h : j < d.next.length), j < i → d.next[j] = e.next[j]'(by omega)) ∧ G' = G ∧ H' = (b3, .cells C' [] 27) :: (b2, .cells C [] 27) :: H ∧ fr = [(2, .pointer (some ⟨b2, 0, none⟩)), (3, .pointer (some ⟨b3, 0, none⟩)), (4, .bool false), (5, .int .i64 (i : Nat))]) (d.next.length) ?_ ?_
    · exact Upd.now ⟨0, by omega, fun j _ h => by omega, rfl, rfl, rfl⟩
    · rintro q G3 fr H' hle hs ⟨i, hi, hno, rfl, rfl, rfl⟩
      have hsE := hs
      try simp only [zzs] at hsE
      repeat (obtain ⟨hsx, hsE⟩ := hsE)
      by_cases hil : i < d.next.length
      · have hil' : i < e.next.length := by omega
        have hiv : i < rs.length := by omega
        have hiv' : i < rs'.length := by omega
        obtain ⟨b, c, e1, e2, e3⟩ := O.rs i hil hiv
        obtain ⟨b', c', f1, f2, f3⟩ := O'.rs i hil' hiv'
        have hrm := hm2 _ (List.getElem_mem hil)
        have s1 : Sl G3 (Value.int .i64) (.slice b d.next[i].length c) d.next[i] := ⟨b, c, rfl, e2, e3⟩
        have s2 : Sl G3 (Value.int .i64) (.slice b' e.next[i].length c') e.next[i] := ⟨b', c', rfl, f2, f3⟩
        have had : Adr an := hrn.adr (by omega)
        have had2 : Adr an' := hrn'.adr (by omega)
        repeat' first
          | (with_reducible first | refine Nx.go ?_ | refine Bk.go (fun _ => ?_) fun _ => ?_)
          | (with_reducible refine NewB.mk2 fun nb hnb hnb1 hnb2 => ?_; try simp only [zzn] at hnb2)
          | with_reducible refine Tri.drawM tok mixed [0, 1, 2, 3, 4, 5, 42, 47, 61] 6 [1, 4, 6, 9] (.op 0 .plain (.op 1 .held (.op 2 .plain (.op 3 .plain (.op 4 .held (.op 5 .plain (.op 6 .held (.op 7 .plain (.op 8 .plain (.op 9 .held (.op 10 .keeps (.op 11 .plain .nil)))))))))))) (by kernel_rfl) _ (List.Sublist.refl _) ?_
          | simp -dsimp -implicitDefEqProofs (disch := first | assumption | (simp only [zzm]; done) | omega | (try with_reducible refine Row.adr (by assumption) ?_); simp only [zzl, Nat.reduceAdd]; first | done | omega) only [go_sem, ↓reduceIte, seval, -List.reduceReplicate, List.toList_toArray, hCl, hCw, hCn, hCx, hCs, hCo, hDl, hDw, hDn, hDx, hDs, hDo, heq, Row.obj hrn, Row.obj hrn', e1, f1]
          | with_reducible refine same17_t _ _ hrm s1 s2 ?_
        all_goals first
          | (rename_i he
             rw [boolOf_no (p := d = e) fun h => he (by subst h; rfl)] at hR
             exact Upd.finL (by intro fsum; first | exact Nat.le_refl _ | (simp only [zzq]; omega)) hR rfl)
          | (rename_i he
             exact Upd.now ⟨q - 1, by omega, i + 1, by omega, fun j h hj => by
               by_cases ee : j = i
               · subst ee; exact he
               · exact hno j h (by omega), rfl, rfl, rfl⟩)
          | trace_state
      · obtain rfl : i = d.next.length := by omega
        rw [boolOf_yes (p := d = e) (DfaT.ext' q1 q2 (List.ext_getElem hnn fun j h1 h2 => hno j h1 h1) q4 q5)] at hR
        repeat' first
          | (with_reducible first | refine Nx.go ?_ | refine Bk.go (fun _ => ?_) fun _ => ?_)
          | (with_reducible refine NewB.mk2 fun nb hnb hnb1 hnb2 => ?_; try simp only [zzn] at hnb2)
          | simp -dsimp -implicitDefEqProofs (disch := first | assumption | (simp only [zzm]; done) | omega | (try with_reducible refine Row.adr (by assumption) ?_); simp only [zzl, Nat.reduceAdd]; first | done | omega) only [go_sem, ↓reduceIte, seval, -List.reduceReplicate, List.toList_toArray, hCl, hCw, hCn, hCx, hCs, hCo, hDl, hDw, hDn, hDx, hDs, hDo, heq]
        all_goals refine Upd.finL ?_ hR ?_
        any_goals (intro fsum; first | exact Nat.le_refl _ | (simp only [zzq]; omega))
        rfl
  all_goals (
    rename_i hne
    rw [boolOf_no (p := d = e) fun h => hne (by rw [h])] at hR
    exact Upd.finL (by intro fsum; first | exact Nat.le_refl _ | (simp only [zzq]; omega)) hR rfl)
end Go.Proofs.Ytdeableflgakdaa
namespace Go.Proofs.Ytdeableflgakdaa
open Go Go.V Go.Proofs
theorem tabO_pre {α : Type} [DecidableEq α] (l : List α) (k : Nat) {i : Nat} (h : i < (tabO (l.take k)).length) (h2 : i < (tabO l).length) : (tabO l)[i] = (tabO (l.take k))[i] := by
 have key : ∀ n, ∃ s, tabO (l.take (k + n)) = tabO (l.take k) ++ s := fun n => by
  induction n with
  | zero => exact ⟨[], by simp⟩
  | succ n ih =>
   obtain ⟨s, hs⟩ := ih
   rcases Nat.lt_or_ge (k + n) l.length with h3 | h3
   ·rw [show k + (n + 1) = (k + n) + 1 by omega, List.take_succ_eq_append_getElem h3, tabO_snoc]
    split
    ·exact ⟨s, hs⟩
    ·exact ⟨s ++ [l[k + n]], by rw [hs, List.append_assoc]⟩
   ·exact ⟨s, by rw [List.take_of_length_le (by omega), ← hs, List.take_of_length_le (by omega)]⟩
 obtain ⟨s, hs⟩ := key l.length
 rw [List.take_of_length_le (by omega)] at hs
 simp only [hs]
 rw [List.getElem_append_left h]
theorem nodup_len {α : Type} [DecidableEq α] : ∀ {a b : List α}, a.Nodup → a ⊆ b → a.length ≤ b.length
 | [], _, _, _ => Nat.zero_le _
 | x :: a, b, h, hs => by
  have h' := List.nodup_cons.1 h
  have hx : x ∈ b := hs (List.mem_cons_self ..)
  have := nodup_len (a := a) (b := b.erase x) h'.2 fun y hy => by
   have hne : y ≠ x := fun e => by subst e; exact h'.1 hy
   exact (List.mem_erase_of_ne hne).2 (hs (List.mem_cons_of_mem _ hy))
  rw [List.length_erase_of_mem hx] at this
  have := List.length_pos_of_mem hx
  simp only [List.length_cons]; omega
theorem heads_new {m : List Int} {s : Nat} (hs : s < m.length) (hnew : m[s] ∉ m.take s) : ∃ h : (tabO (m.take s)).length < (headsM m).length, (headsM m)[(tabO (m.take s)).length] = (s : Int) := by
 have ht : tabO (m.take (s + 1)) = tabO (m.take s) ++ [m[s]] := by
  rw [List.take_succ_eq_append_getElem hs, tabO_snoc, if_neg fun h => hnew ((mem_tabO _).1 h)]
 have hle : (tabO (m.take (s + 1))).length ≤ (tabO m).length := by
  have hn := (tabO_nodup (m.take (s + 1)))
  have hsub : tabO (m.take (s + 1)) ⊆ tabO m := fun x hx => (mem_tabO _).2 (List.mem_of_mem_take ((mem_tabO _).1 hx))
  exact nodup_len hn hsub
 have h1 : (tabO (m.take s)).length < (tabO m).length := by rw [ht, List.length_append, List.length_singleton] at hle; omega
 refine ⟨by unfold headsM; rw [List.length_map]; exact h1, ?_⟩
 simp only [headsM, List.getElem_map]
 have hp := tabO_pre m (s + 1) (i := (tabO (m.take s)).length) (by rw [ht, List.length_append]; simp) h1
 have : (tabO (m.take (s + 1)))[(tabO (m.take s)).length]'(by rw [ht, List.length_append]; simp) = m[s] := by
  simp only [ht, List.getElem_concat_length]
 rw [hp, this]
 obtain ⟨p, hpp, _, _, hpn⟩ := place_first hs
 rw [findF_some hpp, hpn.2 hnew]
theorem rr17_t {d : DfaT} {m : List Int} {C : List Value} {an al ay : Option Addr} {cn cl cs : Nat} {rs : List Value} {G : PHeap} {H : Heap} (O : OpenD G d C an al ay cn cl cs rs) {v6 : Value} {b2 b4 b7 : Nat} {j t : Nat} (hj : j < (headsM m).length) (hjb : j < 65536) (ht : t < d.label.length) (hsj : (headsM m)[j] = (t : Int)) {vn vl vs : Value} {kl : Heap} (hout : LabO d m j vl kl) :
  Tri Try.prog Try.f35.ntmps (piece [1, 1, 1, 1, 1, 0, 1, 0, 0, 1, 0, 0, 1, 1, 1, 1] Try.f35) G [(2, .pointer (some ⟨b2, 0, none⟩)), (4, .pointer (some ⟨b4, 0, none⟩)), (5, .int .i64 0), (6, v6), (7, .pointer (some ⟨b7, 0, none⟩)), (8, .int .i64 (t : Nat))] ((b7, .cells (cellsD d vn vl vs) [] 27) :: (b2, .cells C [] 27) :: (kl ++ H)) (onlyN fun G' fr' H' =>
   ∃ vl' kl', G' = G ∧ LabO d m (j + 1) vl' kl' ∧ restrict [2, 4, 5, 6, 7, 8] fr' = [(2, .pointer (some ⟨b2, 0, none⟩)), (4, .pointer (some ⟨b4, 0, none⟩)), (5, .int .i64 0), (6, v6), (7, .pointer (some ⟨b7, 0, none⟩)), (8, .int .i64 (t : Nat))] ∧ H' = (b7, .cells (cellsD d vn vl' vs) [] 27) :: (b2, .cells C [] 27) :: (kl' ++ H)) := by
 have hCl := O.len
 have hCx := O.l
 have hl2 : ∀ a b c : Value, (cellsD d a b c).length = 260 := fun a b c => cellsD_len O.ofl _ _ _
 have hg2 : ∀ a b c : Value, (cellsD d a b c)[258]? = some b := fun a b c => cellsD_l O.ofl _ _ _
 have hputL : ∀ a b c x : Value, splice (cellsD d a b c) 258 [x] = cellsD d a x c := fun a b c x => cellsD_putL O.ofl _ _ _ _
 have hlt : d.label[t] = d.label.getD t 0 := by rw [List.getD_eq_getElem?_getD, List.getElem?_eq_getElem ht]; rfl
 have hlab : (labsM d m).take (j + 1) = (labsM d m).take j ++ [d.label.getD t 0] := by
  have hjl : j < (labsM d m).length := by unfold labsM; rw [List.length_map]; exact hj
  rw [List.take_succ_eq_append_getElem hjl]
  congr 2
  simp only [labsM, List.getElem_map, hsj, Int.toNat_natCast]
 have hlj : ((labsM d m).take j).length = j := by rw [List.length_take]; unfold labsM; rw [List.length_map]; omega
 have had2 : Adr al := O.rl.adr (by rw [List.length_map]; omega)
 refine Tri.sepT fun hs0 => ?_
 rcases hout with ⟨hj0, rfl, rfl⟩ | ⟨bl, c2, sp2, rfl, rfl, hc2⟩
 ·have hsE := hs0
  try simp only [zzs] at hsE
  repeat (obtain ⟨hsx, hsE⟩ := hsE)
  have hce : ((labsM d m).take (j + 1)).map (Value.int .i64) = [Value.int .i64 (d.label.getD t 0)] := by rw [hlab, List.map_append, List.eq_nil_of_length_eq_zero (hlj.trans hj0)]; rfl
  refine Tri.piece (f := Try.f35) rfl ?_
  refine Tri.run tok [0, 1, 2, 4, 5, 6, 7, 8, 9, 10, 13, 18, 32, 42, 47] (by kernel_rfl) ?_
  repeat' first
   | (with_reducible first | refine Nx.go ?_ | refine Bk.go (fun _ => ?_) fun _ => ?_)
   | ((with_reducible first | refine NewB.mk2 fun nb hnb hnb1 hnb2 => ?_ | refine NewRow.mk2 fun nb nsp ncap hnb hncap hnb1 hnb2 => ?_); try simp only [zzn] at hnb2)
   | simp -dsimp -implicitDefEqProofs (disch := first | assumption | (simp only [zzm]; done) | omega | (try with_reducible refine Row.adr (by assumption) ?_); simp only [zzl, Nat.reduceAdd]; first | done | omega) only [go_sem, ↓reduceIte, seval, -List.reduceReplicate, List.replicate_one, List.toList_toArray, hCl, hCx, hl2, hg2, hputL, Row.obj O.rl, List.getElem_map, hlt, Int.toNat_natCast, Nat.sub_self]
   | with_reducible refine Tri.drawH tok mixed [0, 1, 2, 4, 5, 6, 7, 8, 9, 10, 13, 18, 32, 42, 47] 17 [1, 3, 6] (.op 0 .plain (.op 1 .held (.op 2 .plain (.op 3 .held (.op 4 .plain (.op 5 .plain (.op 6 .held (.op 7 .keeps (.op 8 .keeps (.op 9 .plain (.op 10 .plain .nil))))))))))) (by kernel_rfl) [7, 2] ?_
  rw [← hce]
  exact Upd.go (H' := (b7, .cells (cellsD d vn (.slice (some ⟨nb, 0, none⟩) 1 ncap) vs) [] 27) :: (b2, .cells C [] 27) :: ([(nb, .cells (((labsM d m).take (j + 1)).map (Value.int .i64)) nsp 3)] ++ H)) (by intro fsum; first | exact Nat.le_refl _ | (simp only [zzq]; omega)) (Upd.now ⟨.slice (some ⟨nb, 0, none⟩) 1 ncap, _, rfl, .inr ⟨nb, ncap, nsp, by rw [hj0], rfl, by omega⟩, rfl, rfl⟩)
 ·have hsE := hs0
  try simp only [zzs] at hsE
  repeat (obtain ⟨hsx, hsE⟩ := hsE)
  obtain ⟨ps, hps, hpl⟩ : ∃ ps, ps = ((labsM d m).take j).map (Value.int .i64) ∧ ps.length = j := ⟨_, rfl, by rw [List.length_map, hlj]⟩
  have hce : ((labsM d m).take (j + 1)).map (Value.int .i64) = ps ++ [Value.int .i64 (d.label.getD t 0)] := by rw [hlab, List.map_append, ← hps]; rfl
  rw [← hps]
  refine Tri.piece (f := Try.f35) rfl ?_
  refine Tri.run tok [0, 1, 2, 4, 5, 6, 7, 8, 9, 10, 13, 18, 32, 42, 47] (by kernel_rfl) ?_
  repeat' first
   | (with_reducible first | refine Nx.go ?_ | refine Bk.go (fun _ => ?_) fun _ => ?_)
   | ((with_reducible first | refine NewB.mk2 fun nb hnb hnb1 hnb2 => ?_ | refine NewRow.mk2 fun nb nsp ncap hnb hncap hnb1 hnb2 => ?_); try simp only [zzn] at hnb2)
   | simp -dsimp -implicitDefEqProofs (disch := first | assumption | (simp only [zzm]; done) | omega | (try with_reducible refine Row.adr (by assumption) ?_); simp only [zzl, Nat.reduceAdd]; first | done | omega) only [go_sem, ↓reduceIte, seval, -List.reduceReplicate, List.replicate_one, List.toList_toArray, hCl, hCx, hl2, hg2, hputL, Row.obj O.rl, List.getElem_map, hlt, Int.toNat_natCast, Nat.sub_self]
   | with_reducible refine Tri.drawH tok mixed [0, 1, 2, 4, 5, 6, 7, 8, 9, 10, 13, 18, 32, 42, 47] 17 [1, 3, 6] (.op 0 .plain (.op 1 .held (.op 2 .plain (.op 3 .held (.op 4 .plain (.op 5 .plain (.op 6 .held (.op 7 .keeps (.op 8 .keeps (.op 9 .plain (.op 10 .plain .nil))))))))))) (by kernel_rfl) [7, 2] ?_
  rw [← hce]
  exact Upd.go (H' := (b7, .cells (cellsD d vn (.slice (some ⟨nb, 0, none⟩) (j + 1) ncap) vs) [] 27) :: (b2, .cells C [] 27) :: ([(nb, .cells (((labsM d m).take (j + 1)).map (Value.int .i64)) nsp 3)] ++ H)) (by intro fsum; first | exact Nat.le_refl _ | (simp only [zzq]; omega)) (Upd.now ⟨_, _, rfl, .inr ⟨nb, ncap, nsp, rfl, rfl, by omega⟩, rfl, rfl⟩)
end Go.Proofs.Ytdeableflgakdaa
namespace Go.Proofs.Ytdeableflgakdaa
open Go Go.V Go.Proofs
theorem rx_t {d : DfaT} (hsm : SmallD d) {m : List Int} (hst : StableP d m) {C : List Value} {an al ay : Option Addr} {cn cl cs : Nat} {rs : List Value} {G : PHeap} {H : Heap} (O : OpenD G d C an al ay cn cl cs rs) {b2 b4 b7 : Nat} {an3 : Option Addr} {cn3 : Nat} (hr3 : Row G an3 ((nums m).map (Value.int .i64))) {t : Nat} (htm : t < m.length) {vn vl vs : Value} {kn kl : Heap} (hout : RowO d m G (tabO (m.take t)).length vn kn) (hlab0 : LabO d m (tabO (m.take t)).length vl kl) (hvs : oneV vs = true) :
  Tri Try.prog Try.f35.ntmps (piece [1, 1, 1, 1, 1, 0, 1, 0, 0, 1, 0] Try.f35) G [(2, .pointer (some ⟨b2, 0, none⟩)), (4, .pointer (some ⟨b4, 0, none⟩)), (5, .int .i64 0), (6, .slice an3 (nums m).length cn3), (7, .pointer (some ⟨b7, 0, none⟩)), (8, .int .i64 (t : Nat))] ((b7, .cells (cellsD d vn vl vs) [] 27) :: (b2, .cells C [] 27) :: (kn ++ (kl ++ H))) (onlyN fun G' fr' H' =>
   ∃ vn' vl' kn' kl', PLe G G' ∧ RowO d m G' (tabO (m.take (t + 1))).length vn' kn' ∧ LabO d m (tabO (m.take (t + 1))).length vl' kl' ∧ restrict [2, 4, 5, 6, 7, 8] fr' = [(2, .pointer (some ⟨b2, 0, none⟩)), (4, .pointer (some ⟨b4, 0, none⟩)), (5, .int .i64 0), (6, .slice an3 (nums m).length cn3), (7, .pointer (some ⟨b7, 0, none⟩)), (8, .int .i64 (t : Nat))] ∧ H' = (b7, .cells (cellsD d vn' vl' vs) [] 27) :: (b2, .cells C [] 27) :: (kn' ++ (kl' ++ H))) := by
 obtain ⟨hm1, hm2, hm3, hm4, hm5⟩ := id hsm
 have hok := hst.1
 have hml : m.length = d.label.length := hst.2.1
 obtain ⟨hk1, hk2, hk3, hk4, hk5, hk6, hk7⟩ := id hok
 have hCl := O.len
 have hCw := O.w
 have hCn := O.n
 have hCx := O.l
 have hnl := nums_len m
 have hrn := O.rn
 have hrl := O.rl
 have hrnl := O.rnl
 have hr1' : ∀ x : Value, List.replicate 1 x = [x] := fun _ => rfl
 have hl2 : ∀ a b c : Value, (cellsD d a b c).length = 260 := fun a b c => cellsD_len O.ofl _ _ _
 have hg1 : ∀ a b c : Value, (cellsD d a b c)[257]? = some a := fun a b c => cellsD_n O.ofl _ _ _
 have hg2 : ∀ a b c : Value, (cellsD d a b c)[258]? = some b := fun a b c => cellsD_l O.ofl _ _ _
 have hputN : ∀ a b c x : Value, splice (cellsD d a b c) 257 [x] = cellsD d x b c := fun a b c x => cellsD_putN O.ofl _ _ _ _
 have hputL : ∀ a b c x : Value, splice (cellsD d a b c) 258 [x] = cellsD d a x c := fun a b c x => cellsD_putL O.ofl _ _ _ _
 have htn : t < d.next.length := by omega
 have htL : t < d.label.length := by omega
 have htv : t < rs.length := by omega
 have htnm : t < (nums m).length := by omega
 obtain ⟨b, c, e1, e2, e3⟩ := O.rs t htn htv
 obtain ⟨hw0, hlt0, hlt1, hrng⟩ := hk7 t htn htL
 obtain ⟨row, hrow⟩ : ∃ row, row = d.next[t] := ⟨_, rfl⟩
 have hrm := hm2 _ (List.getElem_mem htn)
 rw [← hrow] at e1 e2 e3 hw0 hrng hrm
 have hw : d.width = (row.length : Int) := hw0.symm
 obtain ⟨r, hr⟩ : ∃ r, r = rowB d m t := ⟨_, rfl⟩
 have hr' : r = row.map (atL (nums m)) := by rw [hr]; unfold rowB; rw [List.getD_eq_getElem?_getD, List.getElem?_eq_getElem htn, hrow]; rfl
 have hrlen : r.length = row.length := by rw [hr', List.length_map]
 have had : Adr an := hrn.adr (by omega)
 have had2 : Adr al := hrl.adr (by rw [List.length_map]; omega)
 have had4 : Adr an3 := hr3.adr (by rw [List.length_map]; omega)
 obtain ⟨j, hjd⟩ : ∃ j, j = (tabO (m.take t)).length := ⟨_, rfl⟩
 rw [← hjd] at hout hlab0
 have hjt := tabO_len (m.take t)
 rw [List.length_take] at hjt
 have hjb : j < 65536 := by omega
 have hni := new_iff htm
 rw [← hjd] at hni
 have hvl : ∃ avl cvl, vl = .slice avl j cvl := by
  rcases hlab0 with ⟨h0, rfl, _⟩ | ⟨bl, c2, sp2, rfl, _, _⟩
  ·exact ⟨none, 0, by rw [h0]⟩
  ·exact ⟨_, _, rfl⟩
 obtain ⟨avl, cvl, rfl⟩ := hvl
 refine Tri.sepT fun hs0 => ?_
 have hsE := hs0
 try simp only [zzs] at hsE
 repeat (obtain ⟨hsx, hsE⟩ := hsE)
 refine Tri.piece (f := Try.f35) rfl ?_
 refine Tri.runS tok [0, 1, 2, 4, 5, 6, 7, 8, 9, 10, 13, 18, 32, 42, 47] (.block (.seq .run (.seq .run (.seq .run (.seq .run .cut))))) (by kernel_rfl) ?_
 by_cases hnew : m[t] ∉ m.take t
 ·have hyes := hni.2 hnew
  obtain ⟨hj, hsj⟩ := heads_new htm hnew
  simp only [← hjd] at hj hsj
  have htab : (tabO (m.take (t + 1))).length = j + 1 := by
   rw [List.take_succ_eq_append_getElem htm, tabO_snoc, if_neg fun h => hnew ((mem_tabO _).1 h), List.length_append, ← hjd]; rfl
  have hrj : rowB d m (headsM m)[j].toNat = r := by rw [hsj, Int.toNat_natCast, hr]
  repeat' first
   | (with_reducible first | refine Nx.go ?_ | refine Bk.go (fun _ => ?_) fun _ => ?_)
   | ((with_reducible first | refine NewB.mk2 fun nb hnb hnb1 hnb2 => ?_ | refine NewRow.mk2 fun nb nsp ncap hnb hncap hnb1 hnb2 => ?_); try simp only [zzn] at hnb2)
   | with_reducible refine Tri.drawH tok mixed [0, 1, 2, 4, 5, 6, 7, 8, 9, 10, 13, 18, 32, 42, 47] 10 [3, 5] (.op 0 .plain (.op 1 .plain (.op 2 .plain (.op 3 .held (.op 4 .plain (.op 5 .held (.op 6 .plain (.op 7 .plain .nil)))))))) (by kernel_rfl) [6, 7] ?_
   | simp -dsimp -implicitDefEqProofs (disch := first | assumption | (simp only [zzm]; done) | omega | (try with_reducible refine Row.adr (by assumption) ?_); simp only [zzl, Nat.reduceAdd]; first | done | omega) only [go_sem, ↓reduceIte, seval, -List.reduceReplicate, List.length_map, hr1', List.toList_toArray, hCl, hCw, hCn, hCx, hw, hl2, hg1, hg2, hputN, hputL, Row.obj hrn, e1, Row.obj e2, Row.obj hrl, Row.obj hr3, List.getElem_map, Int.toNat_natCast, Nat.sub_self, List.replicate_zero, hyes]
  refine Tri.loopU tok [0, 1, 2, 4, 5, 6, 7, 8, 9, 10, 13, 18, 32, 42, 47] (by kernel_rfl) [2, 4, 5, 6, 7, 8, 9, 10] (fun q G' fr H' => ∃ (k br cc : Nat) (spr : List Value), k + q = row.length ∧ k + spr.length = cc ∧ G' = G ∧ H' = (br, .cells ((r.take k).map (Value.int .i64)) spr 3) :: (b7, .cells (cellsD d vn (.slice avl j cvl) vs) [] 27) :: (b2, .cells C [] 27) :: (kn ++ (kl ++ H)) ∧ fr = [(2, .pointer (some ⟨b2, 0, none⟩)), (4, .pointer (some ⟨b4, 0, none⟩)), (5, .int .i64 0), (6, .slice an3 (nums m).length cn3), (7, .pointer (some ⟨b7, 0, none⟩)), (8, .int .i64 (t : Nat)), (9, .slice (some ⟨br, 0, none⟩) k cc), (10, .int .i64 (k : Nat))]) (row.length) ?_ ?_
  ·exact Upd.now ⟨0, nb, 0, [], by omega, rfl, rfl, rfl, rfl⟩
  ·rintro q G1 fr H' hle hs ⟨k, br, cc, spr, hk, hcc, rfl, rfl, rfl⟩
   have hsE := hs
   try simp only [zzs] at hsE
   repeat (obtain ⟨hsx, hsE⟩ := hsE)
   by_cases hkl : k < row.length
   ·have hkr : k < r.length := by omega
    obtain ⟨ps, hps, hpl⟩ : ∃ ps, ps = (r.take k).map (Value.int .i64) ∧ ps.length = k := ⟨_, rfl, by rw [List.length_map, List.length_take]; omega⟩
    have hce : (r.take (k + 1)).map (Value.int .i64) = ps ++ [Value.int .i64 r[k]] := by rw [List.take_succ_eq_append_getElem hkr, List.map_append, ← hps]; rfl
    rw [← hps]
    have had5 : Adr b := e2.adr (by rw [List.length_map]; omega)
    have hx := hrng _ (List.getElem_mem hkl)
    obtain ⟨y, hxy⟩ := Int.eq_ofNat_of_zero_le hx.1
    have hym : y < (nums m).length := by omega
    have hval : (nums m)[y] = r[k] := by
     simp only [hr', List.getElem_map]
     rw [hxy, atL_get (by simpa using hym)]
     simp only [Int.toNat_natCast]
    repeat' first
     | (with_reducible first | refine Nx.go ?_ | refine Bk.go (fun _ => ?_) fun _ => ?_)
     | ((with_reducible first | refine NewB.mk2 fun nb hnb hnb1 hnb2 => ?_ | refine NewRow.mk2 fun nb nsp ncap hnb hncap hnb1 hnb2 => ?_); try simp only [zzn] at hnb2)
     | simp -dsimp -implicitDefEqProofs (disch := first | assumption | (simp only [zzm]; done) | omega | (try with_reducible refine Row.adr (by assumption) ?_); simp only [zzl, Nat.reduceAdd]; first | done | omega) only [go_sem, ↓reduceIte, seval, -List.reduceReplicate, List.length_map, hr1', List.toList_toArray, hCl, hCw, hCn, hCx, hw, hl2, hg1, hg2, hputN, hputL, Row.obj hrn, e1, Row.obj e2, Row.obj hrl, Row.obj hr3, List.getElem_map, Int.toNat_natCast, Nat.sub_self, List.replicate_zero, hxy, hval]
    all_goals try (exfalso; omega)
    rw [← hce]
    exact Upd.go (H' := _) (by intro fsum; first | exact Nat.le_refl _ | (simp only [zzq]; omega)) (Upd.now ⟨q - 1, by omega, k + 1, nb, ncap, nsp, by omega, by simp at hncap ⊢; omega, rfl, rfl, rfl⟩)
   ·obtain rfl : k = row.length := by omega
    have hpa : r.take row.length = r := by rw [← hrlen, List.take_length]
    rw [hpa] at hs ⊢
    have hrl5 : (r.map (Value.int .i64)).length = row.length := by rw [List.length_map, hrlen]
    rcases hout with ⟨hj0, rfl, rfl⟩ | ⟨bn, c1, rv, sp1, rfl, rfl, hrv, hc1, hrws⟩
    ·have hsE := hs
     try simp only [zzs] at hsE
     repeat (obtain ⟨hsx, hsE⟩ := hsE)
     repeat' first
      | (with_reducible first | refine Nx.go ?_ | refine Bk.go (fun _ => ?_) fun _ => ?_)
      | ((with_reducible first | refine NewB.mk2 fun nb hnb hnb1 hnb2 => ?_ | refine NewRow.mk2 fun nb nsp ncap hnb hncap hnb1 hnb2 => ?_); try simp only [zzn] at hnb2)
      | simp -dsimp -implicitDefEqProofs (disch := first | assumption | (simp only [zzm]; done) | omega | (try with_reducible refine Row.adr (by assumption) ?_); simp only [zzl, Nat.reduceAdd]; first | done | omega) only [go_sem, ↓reduceIte, seval, -List.reduceReplicate, List.length_map, hr1', List.toList_toArray, hCl, hCw, hCn, hCx, hw, hl2, hg1, hg2, hputN, hputL, Row.obj hrn, e1, Row.obj e2, Row.obj hrl, Row.obj hr3, List.getElem_map, Int.toNat_natCast, Nat.sub_self, List.replicate_zero]
     all_goals try (exfalso; omega)
     refine Tri.upd (Upd.go (H' := (b7, .cells (cellsD d (.slice (some ⟨nb, 0, none⟩) 1 ncap) (.slice avl j cvl) vs) [] 27) :: (b2, .cells C [] 27) :: (kl ++ ((br, .cells (r.map (Value.int .i64)) spr 3) :: (nb, .cells [.slice (some ⟨br, 0, none⟩) row.length cc] nsp 24) :: H))) (by intro fsum; first | exact Nat.le_refl _ | (simp only [zzq]; omega)) (Upd.now ?_))
     refine Tri.live [2, 4, 5, 6, 7, 8] ?_
     refine Tri.isPiece [1, 1, 1, 1, 1, 0, 1, 0, 0, 1, 0, 0, 1, 1, 1, 1] Try.f35 (by kernel_rfl) ?_
     refine Tri.onlyN (rr17_t O hj hjb htL hsj hlab0) fun G5 l5 H5 hle5 hs5 hM => ?_
     obtain ⟨vl', kl', rfl, hlab1, hfr, rfl⟩ := hM
     simp only [go_sem]
     have hsE := hs5
     try simp only [zzs] at hsE
     repeat (obtain ⟨hsx, hsE⟩ := hsE)
     refine Upd.go (H' := (br, .cells (r.map (Value.int .i64)) spr 3) :: (b7, .cells (cellsD d (.slice (some ⟨nb, 0, none⟩) 1 ncap) vl' vs) [] 27) :: (b2, .cells C [] 27) :: ([(nb, .cells [.slice (some ⟨br, 0, none⟩) row.length cc] nsp 24)] ++ (kl' ++ H))) (by intro fsum; first | exact Nat.le_refl _ | (simp only [zzq]; omega)) (Upd.shareRow (by assumption) fun G6 hle6 hs6 hr6 => ?_)
     refine ⟨_, vl', _, kl', hle6, ?_, by rw [htab]; exact hlab1, hfr, rfl⟩
     rw [htab]
     refine .inr ⟨nb, ncap, _, nsp, by rw [hj0], rfl, by rw [hj0]; rfl, by omega, fun i h h2 h3 => ?_⟩
     obtain rfl : i = 0 := by omega
     obtain rfl : j = 0 := hj0
     refine ⟨some ⟨br, 0, none⟩, cc, ?_, ?_, ?_⟩
     ·rw [hrj, hrlen]; rfl
     ·rw [hrj]; exact hr6
     ·rw [hrj, hrlen]; omega
    ·have hsE := hs
     try simp only [zzs] at hsE
     repeat (obtain ⟨hsx, hsE⟩ := hsE)
     repeat' first
      | (with_reducible first | refine Nx.go ?_ | refine Bk.go (fun _ => ?_) fun _ => ?_)
      | ((with_reducible first | refine NewB.mk2 fun nb hnb hnb1 hnb2 => ?_ | refine NewRow.mk2 fun nb nsp ncap hnb hncap hnb1 hnb2 => ?_); try simp only [zzn] at hnb2)
      | simp -dsimp -implicitDefEqProofs (disch := first | assumption | (simp only [zzm]; done) | omega | (try with_reducible refine Row.adr (by assumption) ?_); simp only [zzl, Nat.reduceAdd]; first | done | omega) only [go_sem, ↓reduceIte, seval, -List.reduceReplicate, List.length_map, hr1', List.toList_toArray, hCl, hCw, hCn, hCx, hw, hl2, hg1, hg2, hputN, hputL, Row.obj hrn, e1, Row.obj e2, Row.obj hrl, Row.obj hr3, List.getElem_map, Int.toNat_natCast, Nat.sub_self, List.replicate_zero]
     all_goals try (exfalso; omega)
     refine Tri.upd (Upd.go (H' := (b7, .cells (cellsD d (.slice (some ⟨nb, 0, none⟩) (j + 1) ncap) (.slice avl j cvl) vs) [] 27) :: (b2, .cells C [] 27) :: (kl ++ ((br, .cells (r.map (Value.int .i64)) spr 3) :: (nb, .cells (rv ++ [.slice (some ⟨br, 0, none⟩) row.length cc]) nsp 24) :: H))) (by intro fsum; first | exact Nat.le_refl _ | (simp only [zzq]; omega)) (Upd.now ?_))
     refine Tri.live [2, 4, 5, 6, 7, 8] ?_
     refine Tri.isPiece [1, 1, 1, 1, 1, 0, 1, 0, 0, 1, 0, 0, 1, 1, 1, 1] Try.f35 (by kernel_rfl) ?_
     refine Tri.onlyN (rr17_t O hj hjb htL hsj hlab0) fun G5 l5 H5 hle5 hs5 hM => ?_
     obtain ⟨vl', kl', rfl, hlab1, hfr, rfl⟩ := hM
     simp only [go_sem]
     have hsE := hs5
     try simp only [zzs] at hsE
     repeat (obtain ⟨hsx, hsE⟩ := hsE)
     refine Upd.go (H' := (br, .cells (r.map (Value.int .i64)) spr 3) :: (b7, .cells (cellsD d (.slice (some ⟨nb, 0, none⟩) (j + 1) ncap) vl' vs) [] 27) :: (b2, .cells C [] 27) :: ([(nb, .cells (rv ++ [.slice (some ⟨br, 0, none⟩) row.length cc]) nsp 24)] ++ (kl' ++ H))) (by intro fsum; first | exact Nat.le_refl _ | (simp only [zzq]; omega)) (Upd.shareRow (by assumption) fun G6 hle6 hs6 hr6 => ?_)
     refine ⟨_, vl', _, kl', hle6, ?_, by rw [htab]; exact hlab1, hfr, rfl⟩
     rw [htab]
     refine .inr ⟨nb, ncap, _, nsp, rfl, rfl, by rw [List.length_append, hrv]; rfl, by omega, fun i h h2 h3 => ?_⟩
     rcases Nat.lt_or_ge i j with hij | hij
     ·obtain ⟨b', c', f1, f2, f3⟩ := hrws i hij (by omega) h3
      exact ⟨b', c', by rw [List.getElem_append_left (by omega)]; exact f1, f2.mono hle6, f3⟩
     ·obtain rfl : i = j := by omega
      refine ⟨some ⟨br, 0, none⟩, cc, ?_, ?_, ?_⟩
      ·rw [hrj, hrlen, List.getElem_append_right (by omega)]; simp [hrv]
      ·rw [hrj]; exact hr6
      ·rw [hrj, hrlen]; omega
 ·have hno : (nums m)[t] ≠ (j : Int) := fun e => hnew (hni.1 e)
  have htab : (tabO (m.take (t + 1))).length = j := by
   rw [List.take_succ_eq_append_getElem htm, tabO_snoc, if_pos ((mem_tabO _).2 (Classical.not_not.1 hnew)), ← hjd]
  repeat' first
   | (with_reducible first | refine Nx.go ?_ | refine Bk.go (fun _ => ?_) fun _ => ?_)
   | ((with_reducible first | refine NewB.mk2 fun nb hnb hnb1 hnb2 => ?_ | refine NewRow.mk2 fun nb nsp ncap hnb hncap hnb1 hnb2 => ?_); try simp only [zzn] at hnb2)
   | with_reducible refine Tri.drawH tok mixed [0, 1, 2, 4, 5, 6, 7, 8, 9, 10, 13, 18, 32, 42, 47] 10 [3, 5] (.op 0 .plain (.op 1 .plain (.op 2 .plain (.op 3 .held (.op 4 .plain (.op 5 .held (.op 6 .plain (.op 7 .plain .nil)))))))) (by kernel_rfl) [6, 7] ?_
   | simp -dsimp -implicitDefEqProofs (disch := first | assumption | (simp only [zzm]; done) | omega | (try with_reducible refine Row.adr (by assumption) ?_); simp only [zzl, Nat.reduceAdd]; first | done | omega) only [go_sem, ↓reduceIte, seval, -List.reduceReplicate, List.length_map, hr1', List.toList_toArray, hCl, hCw, hCn, hCx, hw, hl2, hg1, hg2, hputN, hputL, Row.obj hrn, e1, Row.obj e2, Row.obj hrl, Row.obj hr3, List.getElem_map, Int.toNat_natCast, Nat.sub_self, List.replicate_zero]
  all_goals try (exfalso; omega)
  exact Upd.now ⟨_, _, kn, kl, PLe.refl _, by rw [htab]; exact hout, by rw [htab]; exact hlab0, rfl, rfl⟩
end Go.Proofs.Ytdeableflgakdaa
namespace Go.Proofs.Ytdeableflgakdaa
open Go Go.V Go.Proofs
theorem rof_t {d : DfaT} (hsm : SmallD d) {m : List Int} (hst : StableP d m) {G : PHeap} {H : Heap} {R : Value → PHeap → Heap → Prop} {v w : Value} (hv : IsD G d v) (hwl : Sl G (Value.int .i64) w m)
  (hR : ∀ G' v', PLe G G' → Sep G' (keys H) → IsD G' (ofD d m) v' → R (.tuple #[v', .int .i64 0]) G' H) : FnT Try.prog 35 [v, w] G H R := by
 obtain ⟨C, an, al, ay, cn, cl, cs, rs, rfl, O⟩ := hv.opened
 obtain ⟨hm1, hm2, hm3, hm4, hm5⟩ := id hsm
 have hw0 := hwl
 obtain ⟨aw, cw, rfl, hroww, hcw⟩ := hwl
 have hok := hst.1
 have hml : m.length = d.label.length := hst.2.1
 obtain ⟨hk1, hk2, hk3, hk4, hk5, hk6, hk7⟩ := id hok
 have hb := boolOf_yes hok
 have hb2 := boolOf_yes hst
 have hCl := O.len
 have hCw := O.w
 have hCs := O.s
 have hCo := O.of
 have hCa := O.all
 have hofl : (u8L d.of).length = 256 := by rw [List.length_map, O.ofl]
 have hbd1 := build_of O.ofl
 have hbd2 := build_w O.ofl
 have hbd3 := build_s O.ofl (.slice none 0 0) (.slice none 0 0) (.slice none 0 0)
 have hl1 : (u8L d.of ++ [Value.int .i64 0, Value.slice none 0 0, Value.slice none 0 0, Value.slice none 0 0]).length = 260 := by rw [List.length_append, hofl]; rfl
 have hone0 := cellsD_one (d := d) (vn := .slice none 0 0) (vl := .slice none 0 0) (vs := .slice ay d.names.length cs) rfl rfl rfl
 have htl := tabO_len m
 have hhl : (headsM m).length = (tabO m).length := by unfold headsM; rw [List.length_map]
 have hjb : (headsM m).length ≤ 65536 := by omega
 have hpos : 0 < (headsM m).length := by
  have h0 : 0 < m.length := by omega
  have : m[0] ∈ tabO m := (mem_tabO m).2 (List.getElem_mem h0)
  rw [hhl]
  exact List.length_pos_of_mem this
 have hl2 : ∀ a b c : Value, (cellsD d a b c).length = 260 := fun a b c => cellsD_len O.ofl _ _ _
 have ht2 : ∀ a b c : Value, List.take 260 (cellsD d a b c) = cellsD d a b c := fun a b c => cellsD_all O.ofl _ _ _
 have hputz : ∀ a b c : Value, splice zeroC 0 (cellsD d a b c) = cellsD d a b c := fun a b c => by
  unfold splice
  rw [List.take_zero, List.nil_append, List.drop_of_length_le (by rw [zeroC_len, hl2]; omega), List.append_nil]
 refine FnT.sep ?_
 refine FnT.body tok [0, 1, 2, 4, 5, 6, 7, 8, 9, 10, 13, 18, 32, 42, 47] Try.func35 rfl (by kernel_rfl) (by kernel_rfl) (by show _ ≤ 81; simp) fun hsep => ?_
 rw [Try.results35]
 have hsE := hsep
 try simp only [zzs] at hsE
 repeat (obtain ⟨hsx, hsE⟩ := hsE)
 repeat' first
  | (with_reducible first | refine Nx.go ?_ | refine Bk.go (fun _ => ?_) fun _ => ?_)
  | ((with_reducible first | refine NewB.mk2 fun nb hnb hnb1 hnb2 => ?_ | refine NewRow.mk2 fun nb nsp ncap hnb hncap hnb1 hnb2 => ?_); try simp only [zzn] at hnb2)
  | simp -dsimp -implicitDefEqProofs (disch := first | assumption | (simp only [zzm]; done) | omega | (try with_reducible refine Row.adr (by assumption) ?_); simp only [zzl, Nat.reduceAdd]; first | done | omega) only [go_sem, ↓reduceIte, seval, -List.reduceReplicate, List.toList_toArray, hCl, hCa]
 rename_i b2 hb20 hb21 hb22
 revert nb
 intro b4 hb40 hb41 hb42
 refine rright_t hsm O.is fun G0 hle0 hs0 => ?_
 rw [hb]
 have hsE := hs0
 try simp only [zzs] at hsE
 repeat (obtain ⟨hsx, hsE⟩ := hsE)
 repeat' first
  | (with_reducible first | refine Nx.go ?_ | refine Bk.go (fun _ => ?_) fun _ => ?_)
  | ((with_reducible first | refine NewB.mk2 fun nb hnb hnb1 hnb2 => ?_ | refine NewRow.mk2 fun nb nsp ncap hnb hncap hnb1 hnb2 => ?_); try simp only [zzn] at hnb2)
  | simp -dsimp -implicitDefEqProofs (disch := first | assumption | (simp only [zzm]; done) | omega | (try with_reducible refine Row.adr (by assumption) ?_); simp only [zzl, Nat.reduceAdd]; first | done | omega) only [go_sem, ↓reduceIte, seval, -List.reduceReplicate, List.toList_toArray, hCl, hCa]
 refine rstable_t hsm (by omega) (O.is.mono hle0) (hw0.mono hle0) fun G2 hle2 hs2 => ?_
 rw [hb2]
 have hsE := hs2
 try simp only [zzs] at hsE
 repeat (obtain ⟨hsx, hsE⟩ := hsE)
 repeat' first
  | (with_reducible first | refine Nx.go ?_ | refine Bk.go (fun _ => ?_) fun _ => ?_)
  | ((with_reducible first | refine NewB.mk2 fun nb hnb hnb1 hnb2 => ?_ | refine NewRow.mk2 fun nb nsp ncap hnb hncap hnb1 hnb2 => ?_); try simp only [zzn] at hnb2)
  | simp -dsimp -implicitDefEqProofs (disch := first | assumption | (simp only [zzm]; done) | omega | (try with_reducible refine Row.adr (by assumption) ?_); simp only [zzl, Nat.reduceAdd]; first | done | omega) only [go_sem, ↓reduceIte, seval, -List.reduceReplicate, List.toList_toArray]
 refine rnorm_t (by omega) ((hw0.mono hle0).mono hle2) fun G3 v3 hle3 hs3 hsl3 => ?_
 obtain ⟨an3, cn3, rfl, hr3, hc3⟩ := hsl3
 have hsE := hs3
 try simp only [zzs] at hsE
 repeat (obtain ⟨hsx, hsE⟩ := hsE)
 have O3 : OpenD G3 d C an al ay cn cl cs rs := OpenD.mono ((hle0.trans hle2).trans hle3) O
 repeat' first
  | (with_reducible first | refine Nx.go ?_ | refine Bk.go (fun _ => ?_) fun _ => ?_)
  | ((with_reducible first | refine NewB.mk2 fun nb hnb hnb1 hnb2 => ?_ | refine NewRow.mk2 fun nb nsp ncap hnb hncap hnb1 hnb2 => ?_); try simp only [zzn] at hnb2)
  | simp -dsimp -implicitDefEqProofs (disch := first | assumption | (simp only [zzm]; done) | omega | (try with_reducible refine Row.adr (by assumption) ?_); simp only [zzl, Nat.reduceAdd]; first | done | omega) only [go_sem, ↓reduceIte, seval, -List.reduceReplicate, List.toList_toArray, hCl, hCw, hCs, hCo, hofl, hbd1, hbd2, hbd3, hl1, hl2, zeroC_len, zeroC_one, hputz, hone0]
 revert nb
 intro b7 hb70 hb71 hb72
 rw [show (List.replicate 256 (Value.int .u8 0) ++ [Value.int .i64 0, Value.slice none 0 0, Value.slice none 0 0, Value.slice none 0 0]) = zeroC from rfl]
 refine Tri.loopS tok [0, 1, 2, 4, 5, 6, 7, 8, 9, 10, 13, 18, 32, 42, 47] (.seq .run (.seq .cut .cut)) (by kernel_rfl) [2, 4, 5, 6, 7, 8] (fun q G' fr H' => ∃ (s : Nat) (vn vl : Value) (kn kl : Heap), s + q = (nums m).length ∧ RowO d m G' (tabO (m.take s)).length vn kn ∧ LabO d m (tabO (m.take s)).length vl kl ∧ H' = (b7, .cells (cellsD d vn vl (.slice ay d.names.length cs)) [] 27) :: (b2, .cells C [] 27) :: (kn ++ (kl ++ ((b4, .cells zeroC [] 27) :: H))) ∧ fr = [(2, .pointer (some ⟨b2, 0, none⟩)), (4, .pointer (some ⟨b4, 0, none⟩)), (5, .int .i64 0), (6, .slice an3 (nums m).length cn3), (7, .pointer (some ⟨b7, 0, none⟩)), (8, .int .i64 (s : Nat))]) ((nums m).length) ?_ ?_
 ·exact Upd.go (H' := (b7, .cells (cellsD d (.slice none 0 0) (.slice none 0 0) (.slice ay d.names.length cs)) [] 27) :: (b2, .cells C [] 27) :: ([] ++ ([] ++ ((b4, .cells zeroC [] 27) :: H)))) (by intro fsum; first | exact Nat.le_refl _ | (simp only [zzq]; omega)) (Upd.now ⟨0, _, _, [], [], by omega, .inl ⟨rfl, rfl, rfl⟩, .inl ⟨rfl, rfl, rfl⟩, rfl, rfl⟩)
 ·rintro q G6 fr H' hle6 hs6 ⟨s, vn, vl, kn, kl, hj, hro, hlo, rfl, rfl⟩
  have hnl := nums_len m
  by_cases hsl : s < m.length
  ·repeat' first
    | (with_reducible first | refine Nx.go ?_ | refine Bk.go (fun _ => ?_) fun _ => ?_)
    | ((with_reducible first | refine NewB.mk2 fun nb hnb hnb1 hnb2 => ?_ | refine NewRow.mk2 fun nb nsp ncap hnb hncap hnb1 hnb2 => ?_); try simp only [zzn] at hnb2)
    | simp -dsimp -implicitDefEqProofs (disch := first | assumption | (simp only [zzm]; done) | omega | (try with_reducible refine Row.adr (by assumption) ?_); simp only [zzl, Nat.reduceAdd]; first | done | omega) only [go_sem, ↓reduceIte, seval, -List.reduceReplicate, List.toList_toArray]
   all_goals try (exfalso; omega)
   refine Tri.live [2, 4, 5, 6, 7, 8] ?_
   refine Tri.isPiece [1, 1, 1, 1, 1, 0, 1, 0, 0, 1, 0] Try.f35 (by kernel_rfl) ?_
   refine Tri.onlyN (rx_t hsm hst (OpenD.mono hle6 O3) (hr3.mono hle6) hsl hro hlo rfl) fun G7 l7 H7 hle7 hs7 hM => ?_
   obtain ⟨vn', vl', kn', kl', _, hro', hlo', hfr', rfl⟩ := hM
   simp only [go_sem]
   refine Tri.live [2, 4, 5, 6, 7, 8] ?_
   rw [hfr']
   refine Tri.run tok [0, 1, 2, 4, 5, 6, 7, 8, 9, 10, 13, 18, 32, 42, 47] (by kernel_rfl) ?_
   repeat' first
    | (with_reducible first | refine Nx.go ?_ | refine Bk.go (fun _ => ?_) fun _ => ?_)
    | ((with_reducible first | refine NewB.mk2 fun nb hnb hnb1 hnb2 => ?_ | refine NewRow.mk2 fun nb nsp ncap hnb hncap hnb1 hnb2 => ?_); try simp only [zzn] at hnb2)
    | simp -dsimp -implicitDefEqProofs (disch := first | assumption | (simp only [zzm]; done) | omega | (try with_reducible refine Row.adr (by assumption) ?_); simp only [zzl, Nat.reduceAdd]; first | done | omega) only [go_sem, ↓reduceIte, seval, -List.reduceReplicate, List.toList_toArray]
   exact Upd.now ⟨q - 1, by omega, s + 1, vn', vl', kn', kl', by omega, hro', hlo', rfl, rfl⟩
  ·obtain rfl : s = m.length := by omega
   rw [List.take_length, ← hhl] at hro hlo
   rcases hro with ⟨hj0, _, _⟩ | ⟨bn, c1, rv, sp1, rfl, rfl, hrv, hc1, hrws⟩
   ·exact absurd hj0 (by omega)
   rcases hlo with ⟨hj0, _, _⟩ | ⟨bl, c2, sp2, rfl, rfl, hc2⟩
   ·exact absurd hj0 (by omega)
   have hsE := hs6
   try simp only [zzs] at hsE
   repeat (obtain ⟨hsx, hsE⟩ := hsE)
   have hone := cellsD_one (d := d) (vn := .slice (some ⟨bn, 0, none⟩) (headsM m).length c1) (vl := .slice (some ⟨bl, 0, none⟩) (headsM m).length c2) (vs := .slice ay d.names.length cs) rfl rfl rfl
   have hLl : (labsM d m).length = (headsM m).length := by unfold labsM; rw [List.length_map]
   rw [show (labsM d m).take (headsM m).length = labsM d m by rw [← hLl, List.take_length]]
   repeat' first
    | (with_reducible first | refine Nx.go ?_ | refine Bk.go (fun _ => ?_) fun _ => ?_)
    | ((with_reducible first | refine NewB.mk2 fun nb hnb hnb1 hnb2 => ?_ | refine NewRow.mk2 fun nb nsp ncap hnb hncap hnb1 hnb2 => ?_); try simp only [zzn] at hnb2)
    | simp -dsimp -implicitDefEqProofs (disch := first | assumption | (simp only [zzm]; done) | omega | (try with_reducible refine Row.adr (by assumption) ?_); simp only [zzl, Nat.reduceAdd]; first | done | omega) only [go_sem, ↓reduceIte, seval, -List.reduceReplicate, List.toList_toArray, hl2, ht2, hputz, hone, zeroC_len]
   unfold UpdR
   refine Upd.go (H' := (bn, .cells rv sp1 24) :: (bl, .cells ((labsM d m).map (Value.int .i64)) sp2 3) :: H) (by intro fsum; first | exact Nat.le_refl _ | (simp only [zzq]; omega)) (Upd.trans (Upd.shareRow (by assumption) fun G7 hle7 hs7 hr7 => ?_))
   refine Upd.shareRow hs7.1.1 fun G8 hle8 hs8 hr8 => ?_
   refine fun _ hs => hR G8 _ (((hle0.trans hle2).trans hle3).trans (hle6.trans (hle7.trans hle8))) hs ?_
   refine ⟨O.ofl, O.ofb, _, _, _, rfl, ⟨some ⟨bn, 0, none⟩, c1, rv, ?_, hr7.mono hle8, ?_, ?_, fun i h h2 => ?_⟩, ⟨some ⟨bl, 0, none⟩, c2, ?_, hr8, ?_⟩, ⟨ay, cs, rfl, O.ry.mono (((hle0.trans hle2).trans hle3).trans (hle6.trans (hle7.trans hle8))), O.ryc⟩⟩
   ·simp only [ofD, List.length_map]
   ·simp only [ofD, List.length_map]; exact hrv
   ·simp only [ofD, List.length_map]; omega
   ·have hi : i < (headsM m).length := by simp only [ofD, List.length_map] at h; exact h
    obtain ⟨b', c', f1, f2, f3⟩ := hrws i hi h2 hi
    refine ⟨b', c', ?_, ?_, ?_⟩
    ·simp only [ofD, List.getElem_map]; exact f1
    ·simp only [ofD, List.getElem_map]; exact f2.mono (hle7.trans hle8)
    ·simp only [ofD, List.getElem_map]; exact f3
   ·simp only [ofD, List.length_map]
   ·simp only [ofD, List.length_map]; omega
end Go.Proofs.Ytdeableflgakdaa
namespace Go.Proofs.Ytdeableflgakdaa
open Go Go.V Go.Proofs
theorem aft_ref {d : DfaT} (hok : RightP d) : lvl d d.label.length = aftD d 65536 := by
 obtain ⟨N, hN⟩ := last_ex hok.2.2.1 hok.1
 have hle : N ≤ 65536 := by have := hN.1; have := hok.2.1; omega
 rw [last_len hN, aftD_ok hok, lvl_stop' hN.2.1 hle]
theorem rmany_t {l : List Int} (hl : l.length ≤ 2000000) (hne : 0 < l.length) {G : PHeap} {H : Heap} {R : Value → PHeap → Heap → Prop} {v : Value} (hv : Sl G (Value.int .i64) v l)
  (hR : ∀ G', PLe G G' → Sep G' (keys H) → R (.int .i64 ((tabO l).length : Nat)) G' H) : FnT Try.prog 37 [v] G H R := by
 obtain ⟨a, c, rfl, hr, hc⟩ := id hv
 have htl := tabO_len l
 have hpos : 0 < (tabO l).length := List.length_pos_of_mem ((mem_tabO l).2 (List.getElem_mem hne))
 obtain ⟨t, ht, e⟩ := nums_onto (l := l) (v := (tabO l).length - 1) (by omega)
 have hnl := nums_len l
 refine FnT.sep ?_
 refine FnT.body tok [0, 2, 3, 4, 5, 11] Try.func37 rfl (by kernel_rfl) (by kernel_rfl) (by show _ ≤ 22; simp) fun hsep => ?_
 rw [Try.results37]
 have hsE := hsep
 try simp only [zzs] at hsE
 repeat (obtain ⟨hsx, hsE⟩ := hsE)
 repeat' first
  | (with_reducible first | refine Nx.go ?_ | refine Bk.go (fun _ => ?_) fun _ => ?_)
  | (with_reducible refine NewB.mk2 fun nb hnb hnb1 hnb2 => ?_; try simp only [zzn] at hnb2)
  | simp -dsimp -implicitDefEqProofs (disch := first | assumption | (simp only [zzm]; done) | omega | (try with_reducible refine Row.adr (by assumption) ?_); simp only [zzl, Nat.reduceAdd]; first | done | omega) only [go_sem, ↓reduceIte, seval]
 refine rnorm_t hl hv fun G2 v2 hle2 hs2 hsl2 => ?_
 obtain ⟨L, hL⟩ : ∃ L, L = nums l := ⟨_, rfl⟩
 rw [← hL] at hsl2 hnl
 have hm : (((tabO l).length - 1 : Nat) : Int) ∈ L := by rw [hL]; exact e ▸ List.getElem_mem _
 have hb : ∀ x ∈ L, x ≤ (((tabO l).length - 1 : Nat) : Int) ∧ 0 ≤ x := fun x hx => by rw [hL] at hx; have := nums_bound hx; omega
 clear hL e
 obtain ⟨a2, c2, rfl, hr2, hc2⟩ := hsl2
 have hsE := hs2
 try simp only [zzs] at hsE
 repeat (obtain ⟨hsx, hsE⟩ := hsE)
 repeat' first
  | (with_reducible first | refine Nx.go ?_ | refine Bk.go (fun _ => ?_) fun _ => ?_)
  | (with_reducible refine NewB.mk2 fun nb hnb hnb1 hnb2 => ?_; try simp only [zzn] at hnb2)
  | simp -dsimp -implicitDefEqProofs (disch := first | assumption | (simp only [zzm]; done) | omega | (try with_reducible refine Row.adr (by assumption) ?_); simp only [zzl, Nat.reduceAdd]; first | done | omega) only [go_sem, ↓reduceIte, seval]
 refine Tri.loopU tok [0, 2, 3, 4, 5, 11] (by kernel_rfl) [3, 4, 5] (fun q G' f H' => ∃ (i : Nat) (x : Int), i + q = L.length ∧ -1 ≤ x ∧ x ≤ (((tabO l).length - 1 : Nat) : Int) ∧ (∀ y ∈ L.take i, y ≤ x) ∧ G' = G2 ∧ H' = H ∧ f = [(3, .slice a2 L.length c2), (4, .int .i64 x), (5, .int .i64 (i : Nat))]) (L.length) ?_ ?_
 ·exact Upd.now ⟨0, -1, by omega, by omega, by omega, (fun y hy => by rw [List.take_zero] at hy; cases hy), rfl, rfl, rfl⟩
 ·rintro q G1 f H1 hle hs1 ⟨i, x, hiq, hx1, hx2, hx, rfl, rfl, rfl⟩
  by_cases hi : i < L.length
  ·have had : Adr a2 := hr2.adr (by rw [List.length_map]; omega)
   have hbi := hb _ (List.getElem_mem hi)
   have hmx : (maxI x L[i] = x ∧ L[i] ≤ x) ∨ (maxI x L[i] = L[i] ∧ x ≤ L[i]) := by
    unfold maxI
    split <;> omega
   repeat' first
    | (with_reducible first | refine Nx.go ?_ | refine Bk.go (fun _ => ?_) fun _ => ?_)
    | (with_reducible refine NewB.mk2 fun nb hnb hnb1 hnb2 => ?_; try simp only [zzn] at hnb2)
    | simp -dsimp -implicitDefEqProofs (disch := first | assumption | (simp only [zzm]; done) | omega | (try with_reducible refine Row.adr (by assumption) ?_); simp only [zzl, Nat.reduceAdd]; first | done | omega) only [go_sem, ↓reduceIte, seval, Row.obj hr2, List.getElem_map]
   refine Upd.now ⟨q - 1, by omega, i + 1, maxI x L[i], by omega, ?_, ?_, fun y hy => ?_, rfl, rfl, rfl⟩
   ·rcases hmx with ⟨e, _⟩ | ⟨e, _⟩ <;> omega
   ·rcases hmx with ⟨e, _⟩ | ⟨e, _⟩ <;> omega
   ·rw [List.take_succ_eq_append_getElem hi, List.mem_append, List.mem_singleton] at hy
    rcases hy with hy | hy
    ·have := hx y hy
     rcases hmx with ⟨e, _⟩ | ⟨e, _⟩ <;> omega
    ·rcases hmx with ⟨e, _⟩ | ⟨e, _⟩ <;> omega
  ·obtain rfl : i = L.length := by omega
   rw [List.take_length] at hx
   have h1 := hx _ hm
   obtain rfl : x = (((tabO l).length - 1 : Nat) : Int) := by omega
   have e1 : (((tabO l).length - 1 : Nat) : Int) + 1 = ((tabO l).length : Nat) := by omega
   repeat' first
    | (with_reducible first | refine Nx.go ?_ | refine Bk.go (fun _ => ?_) fun _ => ?_)
    | (with_reducible refine NewB.mk2 fun nb hnb hnb1 hnb2 => ?_; try simp only [zzn] at hnb2)
    | simp -dsimp -implicitDefEqProofs (disch := first | assumption | (simp only [zzm]; done) | omega | (try with_reducible refine Row.adr (by assumption) ?_); simp only [zzl, Nat.reduceAdd]; first | done | omega) only [go_sem, ↓reduceIte, seval, e1]
   unfold UpdR
   refine Upd.leave (H' := H1) (by intro fsum; first | exact Nat.le_refl _ | (simp only [zzq]; omega)) ?_
   exact fun _ hs => hR G1 hle2 hs
theorem rsplits_t {d : DfaT} (hsm : SmallD d) (hok : RightP d) {G : PHeap} {H : Heap} {R : Value → PHeap → Heap → Prop} {v : Value} (hv : IsD G d v)
  (hR : ∀ G', PLe G G' → Sep G' (keys H) → R (.int .i64 (splitsR d)) G' H) : FnT Try.prog 15 [v] G H R := by
 obtain ⟨C, an, al, ay, cn, cl, cs, rs, rfl, O⟩ := hv.opened
 have hCl := O.len
 have hCa := O.all
 have hCx := O.l
 have hm3 := hsm.2.2.1
 have hal := aftD_len hok 65536
 have hk1 := hok.1
 rw [splitsR_ok hok] at hR
 have ht1 := tabO_len (aftD d 65536)
 have ht2 := tabO_len d.label
 refine FnT.sep ?_
 refine FnT.body tok [0, 1, 2] Try.func15 rfl (by kernel_rfl) (by kernel_rfl) (by show _ ≤ 10; simp) fun hsep => ?_
 rw [Try.results15]
 have hsE := hsep
 try simp only [zzs] at hsE
 repeat (obtain ⟨hsx, hsE⟩ := hsE)
 repeat' first
  | (with_reducible first | refine Nx.go ?_ | refine Bk.go (fun _ => ?_) fun _ => ?_)
  | (with_reducible refine NewB.mk2 fun nb hnb hnb1 hnb2 => ?_; try simp only [zzn] at hnb2)
  | simp -dsimp -implicitDefEqProofs (disch := first | assumption | (simp only [zzm]; done) | omega | (try with_reducible refine Row.adr (by assumption) ?_); simp only [zzl, Nat.reduceAdd]; first | done | omega) only [go_sem, ↓reduceIte, seval, -List.reduceReplicate, List.toList_toArray, hCl, hCa, hCx]
  | with_reducible refine Tri.drawH tok mixed [0, 1, 2] 1 [0, 4] (.op 0 .held (.op 3 .plain (.op 4 .held (.op 1 .keeps (.op 2 .keeps (.op 5 .keeps (.op 6 .plain (.op 7 .plain .nil)))))))) (by kernel_rfl) [1] ?_
  | ((with_reducible refine rblocks_t hsm hok O.is fun G2 v2 hle2 hs2 hsl2 => ?_); rw [aft_ref hok] at hsl2; (have hsE := hs2; try simp only [zzs] at hsE; repeat (obtain ⟨hsx, hsE⟩ := hsE)))
  | ((with_reducible refine rmany_t (by omega) (by omega) hsl2 fun G3 hle3 hs3 => ?_); (have hsE := hs3; try simp only [zzs] at hsE; repeat (obtain ⟨hsx, hsE⟩ := hsE)))
  | ((with_reducible refine rmany_t hm3 (by omega) (O.mono (hle2.trans hle3)).label fun G4 hle4 hs4 => ?_); (have hsE := hs4; try simp only [zzs] at hsE; repeat (obtain ⟨hsx, hsE⟩ := hsE)))
 unfold UpdR
 refine Upd.leave (H' := H) (by intro fsum; first | exact Nat.le_refl _ | (simp only [zzq]; omega)) ?_
 exact fun _ hs => hR G4 (hle2.trans (hle3.trans hle4)) hs
theorem rsmall_t {d : DfaT} (hsm : SmallD d) (hok : RightP d) {G : PHeap} {H : Heap} {R : Value → PHeap → Heap → Prop} {v : Value} (hv : IsD G d v)
  (hR : ∀ G' v', PLe G G' → Sep G' (keys H) → IsD G' (smallR d).1 v' → R (.tuple #[v', .int .i64 (smallR d).2]) G' H) : FnT Try.prog 12 [v] G H R := by
 obtain ⟨C, an, al, ay, cn, cl, cs, rs, rfl, O⟩ := hv.opened
 have hCl := O.len
 have hCa := O.all
 have hb := boolOf_yes hok
 have hok2 := trim_right hok
 have hsm2 := trim_small hsm hok
 have hst := stable_aft hok2
 rw [smallR_ok hok] at hR
 obtain ⟨M, hM⟩ : ∃ M, M = aftD (trimD d) 65536 := ⟨_, rfl⟩
 rw [← hM] at hst hR
 refine FnT.sep ?_
 refine FnT.body tok [0, 1, 2, 3, 4, 7] Try.func12 rfl (by kernel_rfl) (by kernel_rfl) (by show _ ≤ 17; simp) fun hsep => ?_
 rw [Try.results12]
 have hsE := hsep
 try simp only [zzs] at hsE
 repeat (obtain ⟨hsx, hsE⟩ := hsE)
 repeat' first
  | (with_reducible first | refine Nx.go ?_ | refine Bk.go (fun _ => ?_) fun _ => ?_)
  | ((with_reducible first | refine NewB.mk2 fun nb hnb hnb1 hnb2 => ?_ | refine NewRow.mk2 fun nb nsp ncap hnb hncap hnb1 hnb2 => ?_); try simp only [zzn] at hnb2)
  | simp -dsimp -implicitDefEqProofs (disch := first | assumption | (simp only [zzm]; done) | omega | (try with_reducible refine Row.adr (by assumption) ?_); simp only [zzl, Nat.reduceAdd]; first | done | omega) only [go_sem, ↓reduceIte, seval, -List.reduceReplicate, List.toList_toArray, hCl, hCa]
 obtain ⟨b2, e20⟩ : ∃ x, x = nb := ⟨_, rfl⟩
 subst e20
 refine rright_t hsm O.is fun G1 hle1 hs1 => ?_
 rw [hb]
 have hsE := hs1
 try simp only [zzs] at hsE
 repeat (obtain ⟨hsx, hsE⟩ := hsE)
 repeat' first
  | (with_reducible first | refine Nx.go ?_ | refine Bk.go (fun _ => ?_) fun _ => ?_)
  | ((with_reducible first | refine NewB.mk2 fun nb hnb hnb1 hnb2 => ?_ | refine NewRow.mk2 fun nb nsp ncap hnb hncap hnb1 hnb2 => ?_); try simp only [zzn] at hnb2)
  | simp -dsimp -implicitDefEqProofs (disch := first | assumption | (simp only [zzm]; done) | omega | (try with_reducible refine Row.adr (by assumption) ?_); simp only [zzl, Nat.reduceAdd]; first | done | omega) only [go_sem, ↓reduceIte, seval, -List.reduceReplicate, List.toList_toArray, hCl, hCa]
 refine rtrim_t hsm hok (O.is.mono hle1) fun G2 v2 hle2 hs2 hI2 => ?_
 obtain ⟨C2, an2, al2, ay2, cn2, cl2, cs2, rs2, rfl, O2⟩ := hI2.opened
 have hC2l := O2.len
 have hone2 := isD_one O2.is
 have hput2 := isD_put hC2l
 have htk2 : List.take 260 C2 = C2 := List.take_of_length_le (by omega)
 have hsE := hs2
 try simp only [zzs] at hsE
 repeat (obtain ⟨hsx, hsE⟩ := hsE)
 repeat' first
  | (with_reducible first | refine Nx.go ?_ | refine Bk.go (fun _ => ?_) fun _ => ?_)
  | ((with_reducible first | refine NewB.mk2 fun nb hnb hnb1 hnb2 => ?_ | refine NewRow.mk2 fun nb nsp ncap hnb hncap hnb1 hnb2 => ?_); try simp only [zzn] at hnb2)
  | simp -dsimp -implicitDefEqProofs (disch := first | assumption | (simp only [zzm]; done) | omega | (try with_reducible refine Row.adr (by assumption) ?_); simp only [zzl, Nat.reduceAdd]; first | done | omega) only [go_sem, ↓reduceIte, seval, -List.reduceReplicate, List.toList_toArray, hC2l, hone2, hput2, htk2, zeroC_len]
  | with_reducible refine Tri.drawS tok mixed [0, 1, 2, 3, 4, 7] 4 [0, 1] (.op 0 .held (.op 1 .held (.op 2 .keeps (.op 3 .keeps (.op 4 .plain (.op 5 .plain (.op 6 .plain (.op 7 .plain .nil)))))))) (by kernel_rfl) [(nb, .cells C2 [] 27)] (by intro fsum; first | exact Nat.le_refl _ | (simp only [zzq]; omega)) ?_
 obtain ⟨b4, e40⟩ : ∃ x, x = nb := ⟨_, rfl⟩
 subst e40
 refine rblocks_t hsm2 hok2 O2.is fun G3 v3 hle3 hs3 hsl3 => ?_
 rw [aft_ref hok2, ← hM] at hsl3
 have hsE := hs3
 try simp only [zzs] at hsE
 repeat (obtain ⟨hsx, hsE⟩ := hsE)
 repeat' first
  | (with_reducible first | refine Nx.go ?_ | refine Bk.go (fun _ => ?_) fun _ => ?_)
  | ((with_reducible first | refine NewB.mk2 fun nb hnb hnb1 hnb2 => ?_ | refine NewRow.mk2 fun nb nsp ncap hnb hncap hnb1 hnb2 => ?_); try simp only [zzn] at hnb2)
  | simp -dsimp -implicitDefEqProofs (disch := first | assumption | (simp only [zzm]; done) | omega | (try with_reducible refine Row.adr (by assumption) ?_); simp only [zzl, Nat.reduceAdd]; first | done | omega) only [go_sem, ↓reduceIte, seval, -List.reduceReplicate, List.toList_toArray, hC2l, hone2, hput2, htk2, zeroC_len]
 refine rof_t hsm2 hst (O2.is.mono hle3) hsl3 fun G4 v4 hle4 hs4 hI4 => ?_
 obtain ⟨C4, an4, al4, ay4, cn4, cl4, cs4, rs4, rfl, O4⟩ := hI4.opened
 have hC4l := O4.len
 have hone4 := isD_one O4.is
 have hput4 := isD_put hC4l
 have htk4 : List.take 260 C4 = C4 := List.take_of_length_le (by omega)
 have hsE := hs4
 try simp only [zzs] at hsE
 repeat (obtain ⟨hsx, hsE⟩ := hsE)
 repeat' first
  | (with_reducible first | refine Nx.go ?_ | refine Bk.go (fun _ => ?_) fun _ => ?_)
  | ((with_reducible first | refine NewB.mk2 fun nb hnb hnb1 hnb2 => ?_ | refine NewRow.mk2 fun nb nsp ncap hnb hncap hnb1 hnb2 => ?_); try simp only [zzn] at hnb2)
  | simp -dsimp -implicitDefEqProofs (disch := first | assumption | (simp only [zzm]; done) | omega | (try with_reducible refine Row.adr (by assumption) ?_); simp only [zzl, Nat.reduceAdd]; first | done | omega) only [go_sem, ↓reduceIte, seval, -List.reduceReplicate, List.toList_toArray, hC4l, hone4, hput4, htk4, zeroC_len]
 unfold UpdR
 refine Upd.leave (H' := H) (by intro fsum; first | exact Nat.le_refl _ | (simp only [zzq]; omega)) ?_
 exact fun _ hs => hR G4 _ (hle1.trans (hle2.trans (hle3.trans hle4))) hs O4.is
end Go.Proofs.Ytdeableflgakdaa
namespace Go.Proofs.Ytdeableflgakdaa
open Go Go.V Go.Proofs
theorem ofD_small {d : DfaT} (hsm : SmallD d) {m : List Int} (h : StableP d m) : SmallD (ofD d m) := by
 obtain ⟨hm1, hm2, hm3, hm4, hm5⟩ := hsm
 have hml : m.length = d.label.length := h.2.1
 have htl := tabO_len m
 have hhl : (headsM m).length = (tabO m).length := by unfold headsM; rw [List.length_map]
 refine ⟨?_, fun r hr => ?_, ?_, hm4, hm5⟩
 ·simp only [ofD, List.length_map]; omega
 ·simp only [ofD, List.mem_map] at hr
  obtain ⟨s, _, rfl⟩ := hr
  unfold rowB
  rw [List.length_map, List.getD_eq_getElem?_getD]
  rcases Nat.lt_or_ge s.toNat d.next.length with h1 | h1
  ·rw [List.getElem?_eq_getElem h1]; exact hm2 _ (List.getElem_mem h1)
  ·rw [List.getElem?_eq_none h1]; exact Nat.zero_le _
 ·simp only [ofD, List.length_map]; omega
theorem aft_small {d : DfaT} (hsm : SmallD d) : (aftD d 65536).length ≤ 2000000 := by
 by_cases hok : RightP d
 ·rw [aftD_len hok]; exact hsm.2.2.1
 ·rw [aftD_no hok]; simp
theorem hopBlocks_t {d : DfaT} (hsm : SmallD d) {G : PHeap} {H : Heap} {R : Value → PHeap → Heap → Prop} {v : Value} (hv : IsD G d v)
  (hR : ∀ G', PLe G G' → R (.bool true) G' H) : FnT Try.prog 3 [v] G H R := by
 obtain ⟨C, an, al, ay, cn, cl, cs, rs, rfl, O⟩ := hv.opened
 have hCl := O.len
 have hCa := O.all
 have hlen := aft_small hsm
 by_cases hok : RightP d
 ·have hb := boolOf_yes hok
  have hsr := smallR_ok hok
  obtain ⟨X, hX⟩ : ∃ X, X = ofD (trimD d) (aftD (trimD d) 65536) := ⟨_, rfl⟩
  rw [← hX] at hsr
  have hXs : SmallD X := by rw [hX]; exact ofD_small (trim_small hsm hok) (stable_aft (trim_right hok))
  by_cases h40 : right24 d 40 = true
  ·refine FnT.body tok [0, 1, 2, 3, 4, 5, 6, 14, 39] Try.func3 rfl (by kernel_rfl) (by kernel_rfl) (by show _ ≤ 71; simp) fun hsep => ?_
   rw [Try.results3]
   have hsE := hsep
   try simp only [zzs] at hsE
   repeat (obtain ⟨hsx, hsE⟩ := hsE)
   repeat' first
    | (with_reducible first | refine Nx.go ?_ | refine Bk.go (fun _ => ?_) fun _ => ?_)
    | (with_reducible refine NewB.mk2 fun nb hnb hnb1 hnb2 => ?_; try simp only [zzn] at hnb2)
    | simp -dsimp -implicitDefEqProofs (disch := first | assumption | (simp only [zzm]; done) | omega | (try with_reducible refine Row.adr (by assumption) ?_); simp only [zzl, Nat.reduceAdd]; first | done | omega) only [go_sem, ↓reduceIte, seval, -List.reduceReplicate, List.toList_toArray, hCl, hCa]
   refine small_t hsm O.is fun G1 v1 hle1 hs1 hI1 => ?_
   rw [hsr] at hI1 ⊢
   have hI1 : IsD G1 X v1 := hI1
   obtain ⟨C1, an1, al1, ay1, cn1, cl1, cs1, rs1, rfl, O1⟩ := hI1.opened
   have hC1l := O1.len
   have hone1 := isD_one O1.is
   have hput1 := isD_put hC1l
   have htk1 : List.take 260 C1 = C1 := List.take_of_length_le (by omega)
   have hsE := hs1
   try simp only [zzs] at hsE
   repeat (obtain ⟨hsx, hsE⟩ := hsE)
   repeat' first
    | (with_reducible first | refine Nx.go ?_ | refine Bk.go (fun _ => ?_) fun _ => ?_)
    | (with_reducible refine NewB.mk2 fun nb hnb hnb1 hnb2 => ?_; try simp only [zzn] at hnb2)
    | simp -dsimp -implicitDefEqProofs (disch := first | assumption | (simp only [zzm]; done) | omega | (try with_reducible refine Row.adr (by assumption) ?_); simp only [zzl, Nat.reduceAdd]; first | done | omega) only [go_sem, ↓reduceIte, seval, -List.reduceReplicate, List.toList_toArray, hCl, hCa, hC1l, hone1, hput1, zeroC_len, hb]
    | with_reducible refine right_t hsm (O.is.mono hle1) ?_
   obtain ⟨b3, e30⟩ : ∃ x, x = nb := ⟨_, rfl⟩
   subst e30
   refine right24_t hsm (O.is.mono hle1) fun G2 hle2 hs2 => ?_
   rw [h40]
   have k2 := hle1.trans hle2
   have hsE := hs2
   try simp only [zzs] at hsE
   repeat (obtain ⟨hsx, hsE⟩ := hsE)
   repeat' first
    | (with_reducible first | refine Nx.go ?_ | refine Bk.go (fun _ => ?_) fun _ => ?_)
    | (with_reducible refine NewB.mk2 fun nb hnb hnb1 hnb2 => ?_; try simp only [zzn] at hnb2)
    | simp -dsimp -implicitDefEqProofs (disch := first | assumption | (simp only [zzm]; done) | omega | (try with_reducible refine Row.adr (by assumption) ?_); simp only [zzl, Nat.reduceAdd]; first | done | omega) only [go_sem, ↓reduceIte, seval, -List.reduceReplicate, List.toList_toArray, hCl, hCa, hC1l, hone1, hput1, zeroC_len, hb]
   refine rsmall_t hsm hok (O.is.mono k2) fun G3 v3 hle3 hs3 hI3 => ?_
   rw [hsr] at hI3 ⊢
   have hI3 : IsD G3 X v3 := hI3
   obtain ⟨C3, an3, al3, ay3, cn3, cl3, cs3, rs3, rfl, O3⟩ := hI3.opened
   have hC3l := O3.len
   have hone3 := isD_one O3.is
   have hput3 := isD_put hC3l
   have htk3 : List.take 260 C3 = C3 := List.take_of_length_le (by omega)
   have k3 := k2.trans hle3
   have O1' := O1.mono (hle2.trans hle3)
   have hsE := hs3
   try simp only [zzs] at hsE
   repeat (obtain ⟨hsx, hsE⟩ := hsE)
   have htt : decide (aftD d 65536 = aftD d 65536) = true := decide_eq_true rfl
   have hxx : boolOf True = true := boolOf_yes trivial
   repeat' first
    | (with_reducible first | refine Nx.go ?_ | refine Bk.go (fun _ => ?_) fun _ => ?_)
    | (with_reducible refine NewB.mk2 fun nb hnb hnb1 hnb2 => ?_; try simp only [zzn] at hnb2)
    | simp -dsimp -implicitDefEqProofs (disch := first | assumption | (simp only [zzm]; done) | omega | (try with_reducible refine Row.adr (by assumption) ?_); simp only [zzl, Nat.reduceAdd]; first | done | omega) only [go_sem, ↓reduceIte, seval, -List.reduceReplicate, List.toList_toArray, hCl, hCa, hC1l, htk1, hC3l, hone3, hput3, htk3, zeroC_len, htt, hxx]
    | with_reducible refine Tri.drawH tok mixed [0, 1, 2, 3, 4, 5, 6, 14, 39] 7 [0, 2, 6, 8, 18, 19] (.op 0 .held (.op 2 .held (.op 1 .keeps (.op 3 .keeps (.op 4 .keeps (.op 5 .plain (.op 6 .held (.op 8 .held (.op 7 .keeps (.op 9 .keeps (.op 10 .plain (.op 11 .plain (.op 12 .plain (.op 13 .plain (.op 14 .plain (.op 15 .plain (.op 16 .plain (.op 17 .plain (.op 18 .held (.op 19 .held (.op 20 .keeps (.op 21 .plain (.op 22 .plain (.op 23 .keeps (.op 24 .plain (.op 25 .plain .nil)))))))))))))))))))))))))) (by kernel_rfl) [1, 3, 5] ?_
    | ((with_reducible refine hblocks_t hsm (O.is.mono k3) fun G4 v4 hle4 hs4 hsl4 => ?_); (have hsE := hs4; try simp only [zzs] at hsE; repeat (obtain ⟨hsx, hsE⟩ := hsE)))
    | ((with_reducible refine rblocks_t hsm hok (O.is.mono (k3.trans hle4)) fun G5 v5 hle5 hs5 hsl5 => ?_); rw [aft_ref hok] at hsl5; (have hsE := hs5; try simp only [zzs] at hsE; repeat (obtain ⟨hsx, hsE⟩ := hsE)))
    | ((with_reducible refine same17_t _ _ hlen (hsl4.mono hle5) hsl5 ?_); rw [htt])
    | ((with_reducible refine splits_t hsm (O.is.mono (k3.trans (hle4.trans hle5))) fun G6 hle6 hs6 => ?_); (have hsE := hs6; try simp only [zzs] at hsE; repeat (obtain ⟨hsx, hsE⟩ := hsE)))
    | ((with_reducible refine rsplits_t hsm hok (O.is.mono (k3.trans (hle4.trans (hle5.trans hle6)))) fun G7 hle7 hs7 => ?_); (have hsE := hs7; try simp only [zzs] at hsE; repeat (obtain ⟨hsx, hsE⟩ := hsE)))
    | with_reducible refine same20_t hXs (O1'.is.mono (hle4.trans (hle5.trans (hle6.trans hle7)))) (O3.is.mono (hle4.trans (hle5.trans (hle6.trans hle7)))) ?_
    | ((with_reducible refine knows_t fun G8 hle8 => ?_))
   all_goals refine Upd.finL ?_ (hR G8 (k3.trans (hle4.trans (hle5.trans (hle6.trans (hle7.trans hle8)))))) ?_
   any_goals (intro fsum; first | exact Nat.le_refl _ | (simp only [zzq]; omega))
   all_goals rfl
  ·have h40 : right24 d 40 = false := by cases h : right24 d 40 with | true => exact absurd h h40 | false => rfl
   refine FnT.body tok [0, 1, 2, 3, 4, 5, 6, 14, 39] Try.func3 rfl (by kernel_rfl) (by kernel_rfl) (by show _ ≤ 71; simp) fun hsep => ?_
   rw [Try.results3]
   have hsE := hsep
   try simp only [zzs] at hsE
   repeat (obtain ⟨hsx, hsE⟩ := hsE)
   repeat' first
    | (with_reducible first | refine Nx.go ?_ | refine Bk.go (fun _ => ?_) fun _ => ?_)
    | (with_reducible refine NewB.mk2 fun nb hnb hnb1 hnb2 => ?_; try simp only [zzn] at hnb2)
    | simp -dsimp -implicitDefEqProofs (disch := first | assumption | (simp only [zzm]; done) | omega | (try with_reducible refine Row.adr (by assumption) ?_); simp only [zzl, Nat.reduceAdd]; first | done | omega) only [go_sem, ↓reduceIte, seval, -List.reduceReplicate, List.toList_toArray, hCl, hCa]
   refine small_t hsm O.is fun G1 v1 hle1 hs1 hI1 => ?_
   rw [hsr] at hI1 ⊢
   have hI1 : IsD G1 X v1 := hI1
   obtain ⟨C1, an1, al1, ay1, cn1, cl1, cs1, rs1, rfl, O1⟩ := hI1.opened
   have hC1l := O1.len
   have hone1 := isD_one O1.is
   have hput1 := isD_put hC1l
   have hsE := hs1
   try simp only [zzs] at hsE
   repeat (obtain ⟨hsx, hsE⟩ := hsE)
   repeat' first
    | (with_reducible first | refine Nx.go ?_ | refine Bk.go (fun _ => ?_) fun _ => ?_)
    | (with_reducible refine NewB.mk2 fun nb hnb hnb1 hnb2 => ?_; try simp only [zzn] at hnb2)
    | simp -dsimp -implicitDefEqProofs (disch := first | assumption | (simp only [zzm]; done) | omega | (try with_reducible refine Row.adr (by assumption) ?_); simp only [zzl, Nat.reduceAdd]; first | done | omega) only [go_sem, ↓reduceIte, seval, -List.reduceReplicate, List.toList_toArray, hCl, hCa, hC1l, hone1, hput1, zeroC_len, hb]
    | with_reducible refine right_t hsm (O.is.mono hle1) ?_
    | ((with_reducible refine right24_t hsm (O.is.mono hle1) fun G2 hle2 hs2 => ?_); rw [h40]; (have hsE := hs2; try simp only [zzs] at hsE; repeat (obtain ⟨hsx, hsE⟩ := hsE)))
    | ((with_reducible refine knows_t fun G7 hle7 => ?_))
   all_goals refine Upd.finL ?_ (hR G7 (hle1.trans (hle2.trans hle7))) ?_
   any_goals (intro fsum; first | exact Nat.le_refl _ | (simp only [zzq]; omega))
   all_goals rfl
 ·have hb := boolOf_no hok
  have hsr := smallR_bad hok
  have hal := aftD_no hok 65536
  refine FnT.body tok [0, 1, 2, 3, 4, 5, 6, 14, 39] Try.func3 rfl (by kernel_rfl) (by kernel_rfl) (by show _ ≤ 71; simp) fun hsep => ?_
  rw [Try.results3]
  have hsE := hsep
  try simp only [zzs] at hsE
  repeat (obtain ⟨hsx, hsE⟩ := hsE)
  repeat' first
   | (with_reducible first | refine Nx.go ?_ | refine Bk.go (fun _ => ?_) fun _ => ?_)
   | (with_reducible refine NewB.mk2 fun nb hnb hnb1 hnb2 => ?_; try simp only [zzn] at hnb2)
   | simp -dsimp -implicitDefEqProofs (disch := first | assumption | (simp only [zzm]; done) | omega | (try with_reducible refine Row.adr (by assumption) ?_); simp only [zzl, Nat.reduceAdd]; first | done | omega) only [go_sem, ↓reduceIte, seval, -List.reduceReplicate, List.toList_toArray, hCl, hCa]
  refine small_t hsm O.is fun G1 v1 hle1 hs1 hI1 => ?_
  rw [hsr] at hI1 ⊢
  have hI1 : IsD G1 zeroD v1 := hI1
  obtain ⟨C1, an1, al1, ay1, cn1, cl1, cs1, rs1, rfl, O1⟩ := hI1.opened
  have hC1l := O1.len
  have hone1 := isD_one O1.is
  have hput1 := isD_put hC1l
  have hC1x := O1.l
  have hz : zeroD.label.length = 0 := rfl
  rw [hz] at hC1x
  have hsp := splitsR_bad hok
  have hsE := hs1
  try simp only [zzs] at hsE
  repeat (obtain ⟨hsx, hsE⟩ := hsE)
  repeat' first
   | (with_reducible first | refine Nx.go ?_ | refine Bk.go (fun _ => ?_) fun _ => ?_)
   | (with_reducible refine NewB.mk2 fun nb hnb hnb1 hnb2 => ?_; try simp only [zzn] at hnb2)
   | simp -dsimp -implicitDefEqProofs (disch := first | assumption | (simp only [zzm]; done) | omega | (try with_reducible refine Row.adr (by assumption) ?_); simp only [zzl, Nat.reduceAdd]; first | done | omega) only [go_sem, ↓reduceIte, seval, -List.reduceReplicate, List.toList_toArray, hCl, hCa, hC1l, hone1, hput1, hC1x, zeroC_len, hb]
   | with_reducible refine right_t hsm (O.is.mono hle1) ?_
   | ((with_reducible refine hblocks_t hsm (O.is.mono hle1) fun G2 v2 hle2 hs2 hsl2 => ?_); rw [hal] at hsl2; obtain ⟨a2, c2, rfl, hr2, hc2⟩ := id hsl2; rw [List.length_nil]; (have hsE := hs2; try simp only [zzs] at hsE; repeat (obtain ⟨hsx, hsE⟩ := hsE)))
   | ((with_reducible refine splits_t hsm (O.is.mono (hle1.trans hle2)) fun G3 hle3 hs3 => ?_); rw [hsp]; (have hsE := hs3; try simp only [zzs] at hsE; repeat (obtain ⟨hsx, hsE⟩ := hsE)))
   | ((with_reducible refine knows_t fun G7 hle7 => ?_))
  all_goals refine Upd.finL ?_ (hR G7 (hle1.trans (hle2.trans (hle3.trans hle7)))) ?_
  any_goals (intro fsum; first | exact Nat.le_refl _ | (simp only [zzq]; omega))
  all_goals rfl
end Go.Proofs.Ytdeableflgakdaa
namespace Go.Proofs.Ytdeableflgakdaa.lawHopcroftBlocks
open Go Go.V Go.Proofs Go.ChangeShapes Go.WideShapes Go.RowKit
theorem own : ownKnob Try.prog.godebug = none := by kernel_rfl
mutual
theorem bulk {H : Type} : ∀ d : DataW H, bulkV d ≤ Rows.uptoBulk d
 | .lit l => by cases l <;> simp [bulkV, Rows.uptoBulk]
 | .nil => by simp [bulkV, Rows.uptoBulk]
 | .ptr d => by have := bulk d; simp only [bulkV, Rows.uptoBulk]; omega
 | .slice elems spare => by have := bulks elems; have := bulks spare; simp only [bulkV, Rows.uptoBulk]; omega
 | .agg parts => by have := bulks parts; simp only [bulkV, Rows.uptoBulk]; omega
 | .iface _ d => by have := bulk d; simp only [bulkV, Rows.uptoBulk]; omega
 | .map entries => by simp [bulkV]
 | .held _ => by simp [bulkV, Rows.uptoBulk]
theorem bulks {H : Type} : ∀ l : List (DataW H), bulkVs l ≤ Rows.uptoBulkAll l
 | [] => by simp [bulkVs]
 | d :: l => by have := bulk d; have := bulks l; simp only [bulkVs, Rows.uptoBulkAll]; omega
end
set_option maxRecDepth 100000 in
theorem contract (H : Type) (enc : TypeId × Value → H) (W : World) (base : Nat) (args : Array Value) (ds gs : List (DataW H)) (before : List MemPlace)
  (hval : ∀ (j : Nat) t v, Try.f3.params[j]? = some t → args[j]? = some v → Value.okWide Try.prog W .any base t v)
  (hW : DataW.Whole enc Try.prog Try.f3.params.toList Rows.hopcroftBlocksSpec.vars false W args.toList ds gs before) (hk : Rows.uptoSmall H (ds ++ gs) = true) :
  Calls Try.prog 3 args W fun e W' => ∃ v, e = .returned v ∧ Rows.hopcroftBlocksSpec.post enc Try.prog Try.f3 false true false false W args v W' := by
 refine door (tb := 4) seatok ⟨_, _, Try.func3, rfl, by kernel_rfl⟩ rfl (by kernel_rfl) Try.underlying4 (fun t ht => ?_) (fun ds hd => ?_) hW ?_
 ·have := List.all_eq_true.1 (show (Try.f3.params.toList.all fun t => decide (t < Try.prog.types.size)) = true by kernel_rfl) t ht
  simpa using this
 ·rw [Try.params3] at hd
  rcases ds with _ | ⟨e0, _ | ⟨e9, ds⟩⟩ <;> first | rfl | (simp at hd)
 obtain ⟨p, q, hA, hV, rfl, hfz, hnd⟩ := hW
 rw [Try.params3] at hA hval
 obtain ⟨v0, vs0, d0, ds0, p0, q0, hargs0, rfl, rfl, h0, r_0⟩ := trodAll_cons hA
 obtain ⟨rfl, rfl, rfl⟩ := trodAll_nil r_0
 obtain rfl : args = #[v0] := by cases args; simp_all
 obtain ⟨rfl, rfl⟩ := trodVars_none hV
 have hb : bulkVs [d0] ≤ 1048576 := Nat.le_trans (bulks _) (of_decide_eq_true hk)
 simp only [bulkVs] at hb
 obtain ⟨a0, s0, w0⟩ := rd_dfa (hval 0 27 v0 rfl rfl) h0
 exact hopBlocks_t (w0 (by omega)) s0 fun _ _ => rfl
set_option maxRecDepth 100000 in
theorem lifted (os : Os) (started : os.Started) (H : Type) (enc : TypeId × Value → H) (F : Stop.Interp) :
  ReturnsInHanded {} Try.checked os 3 .any ((Rows.OpenSpec.upto Rows.hopcroftBlocksSpec).pre6 enc Try.prog Try.f3 Rows.hopcroftBlocksUptoRow.domain false) (((Rows.OpenSpec.upto Rows.hopcroftBlocksSpec).at F).post enc Try.prog Try.f3 false true false false) := by
 refine returnsInHanded_of_cond (C := Try.checked) (s := Rows.OpenSpec.upto Rows.hopcroftBlocksSpec) (k := Rows.uptoSmall) rfl own started (by kernel_rfl) Try.func3
  (OpenSpec.witness (enc := enc) (C := Try.checked) (s := Rows.OpenSpec.upto Rows.hopcroftBlocksSpec) (k := Rows.uptoSmall) rfl false ⟨#[], #[.agg (List.replicate 256 (Value.int .u8 0) ++ [Value.int .i64 0, Value.slice none 0 0, Value.slice none 0 0, Value.slice none 0 0]).toArray], []⟩ 8 (by kernel_rfl) (by kernel_rfl) (by kernel_rfl)
   (x := ([.agg [.agg (List.replicate 256 (.lit (.int .u8 0))), .lit (.int .i64 0), .nil, .nil, .nil]], [], [])) (by kernel_rfl) rfl (by kernel_rfl)) ?_
 intro W base args ds gs before hval hW _ hk _
 exact contract H enc W base args ds gs before hval hW hk
theorem over : Rows.hopcroftBlocksUptoRow.holds Try.pinned (Rows.OpenSpec.upto Rows.hopcroftBlocksSpec) :=
 OpenClaim.holds_of_cond 3 Try.f3 rfl rfl rfl rfl rfl rfl rfl ⟨rfl, rfl, rfl, rfl, rfl⟩ rfl rfl rfl rfl rfl (by kernel_rfl) Try.func3 (by kernel_rfl)
  (of_decide_eq_true (by kernel_rfl)) (by unfold Func.isWrapper; first | (rw [if_pos (by decide +kernel)]; kernel_rfl) | (rw [if_neg (by decide +kernel)]; exact ⟨rfl, rfl⟩))
  (fun os started H enc _ F => lifted os started H enc F)
theorem proved : Rows.HopcroftBlocksUptoSaid :=
 over
end Go.Proofs.Ytdeableflgakdaa.lawHopcroftBlocks
