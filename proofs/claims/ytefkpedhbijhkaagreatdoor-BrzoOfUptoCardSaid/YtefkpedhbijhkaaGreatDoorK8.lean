/- A part of the proof, joined of several texts: the verification layer, contracts of functions, plain law. -/
import Derived.Test.YtefkpedhbijhkaaGreatDoorK7
import Derived.Lib.Overlaps
set_option maxHeartbeats 64000000
set_option linter.unusedSimpArgs false
set_option linter.unusedVariables false
set_option linter.unusedSectionVars false
namespace Go.Proofs.YtefkpedhbijhkaaGreatDoor
open Go Go.V Go.Proofs
theorem tl_t {d : DfaT} (hsm : SmallD d) (hok : RightP d) {most : Nat} (hm1 : 1 ≤ most) (hm2 : most ≤ 65536) {G : PHeap} {H : Heap} {R : Value → PHeap → Heap → Prop} {C : List Value} {an al ay : Option Addr} {cn cl cs : Nat} {rs : List Value} (O : OpenD G d C an al ay cn cl cs rs) {b2 b4 b6 b7 b11 bt : Nat} {vs vall : Value} (hvs : Sl G str vs d.names) {tb ka : Heap} {av : List Value} (htb : Tabs tb (.pointer (some ⟨bt, 0, none⟩)) (turnB d 0)) (hka : SliceO [] 39 1 vall (turnB d 0).length av ka) (hav : RwB G av (turnB d 0))
  (hR : ∀ G' v', PLe G G' → IsD G' (turnR d most).1 v' → R (.tuple #[v', .bool (turnR d most).2]) G' H) :
  Tri Tryz.prog Tryz.f21.ntmps (piece [1, 1, 1, 1, 1, 1, 1] Tryz.f21) G [(1, .int .i64 (most : Nat)), (2, .pointer (some ⟨b2, 0, none⟩)), (4, .pointer (some ⟨b4, 0, none⟩)), (5, .bool false), (6, .pointer (some ⟨b6, 0, none⟩)), (7, .pointer (some ⟨b7, 0, none⟩)), (11, .pointer (some ⟨b11, 0, none⟩))] ((b7, .cells [.pointer (some ⟨bt, 0, none⟩), vall] [] 60) :: (b6, .cells [.int .i64 d.label.length] [] 3) :: (b2, .cells C [] 27) :: (b4, .cells zeroC [] 27) :: (b11, .cells (cellsD d (.slice none 0 0) (.slice none 0 0) vs) [] 27) :: (tb ++ (ka ++ H))) (endK T #[Go.ResultVar.cell 4 27, Go.ResultVar.tmp 5].toList (UpdR R) .mk) := by
 obtain ⟨hs1, hs2, hs3, hs4, hs5⟩ := id hsm
 obtain ⟨hk1, hk2, hk3, hk4, hk5, hk6, hk7⟩ := id hok
 have hCl := O.len
 have hCw := O.w
 have hl2 : ∀ a b c : Value, (cellsD d a b c).length = 260 := fun a b c => cellsD_len O.ofl _ _ _
 have ht2 : ∀ a b c : Value, List.take 260 (cellsD d a b c) = cellsD d a b c := fun a b c => cellsD_all O.ofl _ _ _
 have hputz : ∀ a b c : Value, splice zeroC 0 (cellsD d a b c) = cellsD d a b c := fun a b c => wdf_over zeroC_len (hl2 _ _ _)
 have hone : ∀ (a a' a'' : Option Addr) (n c n' c' n'' c'' : Nat), (cellsD d (.slice a n c) (.slice a' n' c') (.slice a'' n'' c'')).all oneV = true := fun a a' a'' n c n' c' n'' c'' => cellsD_one rfl rfl rfl
 obtain ⟨ay2, cy2, rfl, hry2, hcy2⟩ := id hvs
 obtain ⟨W, hW⟩ : ∃ W : Nat, W = d.width.toNat := ⟨_, rfl⟩
 have hw1 : 1 ≤ d.width := by
  have h0 : 0 < d.of.length := by rw [O.ofl]; omega
  have := List.length_pos_of_mem ((mem_tabO d.of).2 (List.getElem_mem h0))
  omega
 have hww : d.width ≤ 256 := by
  have h2 := tabO_len d.of
  have h3 := O.ofl
  omega
 have hWd : d.width = (W : Int) := by omega
 refine Tri.sepT fun hs0 => ?_
 have hsE := hs0
 try simp only [zzs] at hsE
 repeat (obtain ⟨hsx, hsE⟩ := hsE)
 refine Tri.piece (f := Tryz.f21) rfl ?_
 refine Tri.runS tok [0, 1, 2, 4, 5, 6, 7, 8, 9, 10, 11, 12, 13, 14, 15, 24, 25, 26, 27, 51, 59, 60, 61, 74, 96] (.seq .run .cut) (by kernel_rfl) ?_
 repeat' first
  | (with_reducible first | refine Nx.go ?_ | refine Bk.go (fun _ => ?_) fun _ => ?_)
  | ((with_reducible first | refine NewB.mk2 fun nb hnb hnb1 hnb2 => ?_ | refine NewRow.mk2 fun nb nsp ncap hnb hncap hnb1 hnb2 => ?_); try simp only [zzn] at hnb2)
  | simp -dsimp -implicitDefEqProofs (disch := first | assumption | (simp only [zzm]; done) | omega | (try with_reducible refine Row.adr (by assumption) ?_); simp only [zzl, Nat.reduceAdd]; first | done | omega) only [go_sem, ↓reduceIte, seval, -List.reduceReplicate]
 refine Tri.loopS tok [0, 1, 2, 4, 5, 6, 7, 8, 9, 10, 11, 12, 13, 14, 15, 24, 25, 26, 27, 51, 59, 60, 61, 74, 96] (.seq .run (.seq (.block (.seq .run (.seq .run (.seq .run (.seq .cut .cut))))) .cut)) (by kernel_rfl) [1, 2, 4, 5, 6, 7, 11, 12] (fun q G' fr H' => ∃ (i : Nat) (vall : Value) (av : List Value) (ka tb : Heap) (vn vl : Value) (rv : List Value) (kn kl : Heap) (b12 : Nat), i + q = most ∧ PLe G G' ∧ Tabs tb (.pointer (some ⟨bt, 0, none⟩)) (turnB d i) ∧ SliceO [] 39 1 vall (turnB d i).length av ka ∧ RwB G' av (turnB d i) ∧ i ≤ (turnB d i).length ∧ (turnB d i).length ≤ most ∧ RwI G' rv (rowsB d i) ∧ SliceO [] 24 1 vn i rv kn ∧ SliceO [] 3 1 vl i ((labsB d i).map (Value.int .i64)) kl ∧ H' = (b7, .cells [.pointer (some ⟨bt, 0, none⟩), vall] [] 60) :: (b6, .cells [.int .i64 d.label.length] [] 3) :: (b2, .cells C [] 27) :: (b4, .cells zeroC [] 27) :: (b11, .cells (cellsD d vn vl (.slice ay2 d.names.length cy2)) [] 27) :: (b12, .cells [.int .i64 (i : Nat)] [] 3) :: (tb ++ (ka ++ (kn ++ (kl ++ H)))) ∧ fr = [(1, .int .i64 (most : Nat)), (2, .pointer (some ⟨b2, 0, none⟩)), (4, .pointer (some ⟨b4, 0, none⟩)), (5, .bool false), (6, .pointer (some ⟨b6, 0, none⟩)), (7, .pointer (some ⟨b7, 0, none⟩)), (11, .pointer (some ⟨b11, 0, none⟩)), (12, .pointer (some ⟨b12, 0, none⟩))]) (most) ?_ ?_
 ·exact Upd.leave (H' := (b7, .cells [.pointer (some ⟨bt, 0, none⟩), vall] [] 60) :: (b6, .cells [.int .i64 d.label.length] [] 3) :: (b2, .cells C [] 27) :: (b4, .cells zeroC [] 27) :: (b11, .cells (cellsD d (.slice none 0 0) (.slice none 0 0) (.slice ay2 d.names.length cy2)) [] 27) :: (nb, .cells [.int .i64 0] [] 3) :: (tb ++ (ka ++ ([] ++ ([] ++ H))))) (by intro fsum; simp only [zzq]; omega) ⟨0, vall, av, ka, tb, _, _, [], [], [], nb, by omega, PLe.refl _, htb, hka, hav, Nat.zero_le _, hm1, RwI.nil _, .inl ⟨none, rfl, rfl, rfl, rfl⟩, .inl ⟨none, rfl, rfl, rfl, rfl⟩, rfl, rfl⟩
 ·rintro q G1 fr H1 hle1 hsL ⟨i, vall, av, ka, tb, vn, vl, rv, kn, kl, b12, hiq, hle01, htb, hka, hav, hil, hlm, hrv, hkn, hkl, rfl, rfl⟩
  have O1 := OpenD.mono hle01 O
  have hpos : 0 < (turnB d i).length := lsA_pos _ _ _ _
  rcases hka with ⟨_, _, h0, _, _⟩ | ⟨bl, cc, sp, rfl, rfl, hxa, hca⟩
  ·omega
  have hsE := hsL
  try simp only [zzs] at hsE
  repeat (obtain ⟨hsx, hsE⟩ := hsE)
  by_cases hi : i < (turnB d i).length
  ·repeat' first
    | (with_reducible first | refine Nx.go ?_ | refine Bk.go (fun _ => ?_) fun _ => ?_)
    | ((with_reducible first | refine NewB.mk2 fun nb hnb hnb1 hnb2 => ?_ | refine NewRow.mk2 fun nb nsp ncap hnb hncap hnb1 hnb2 => ?_); try simp only [zzn] at hnb2)
    | simp -dsimp -implicitDefEqProofs (disch := first | assumption | (simp only [zzm]; done) | omega | (try with_reducible refine Row.adr (by assumption) ?_); simp only [zzl, Nat.reduceAdd]; first | done | omega) only [go_sem, ↓reduceIte, seval, -List.reduceReplicate, List.toList_toArray, hCl, hCw, hWd]
   obtain ⟨f, hf⟩ : ∃ f, f = (turnB d i).getD i [] := ⟨_, rfl⟩
   have hfi : (turnB d i)[i] = f := by rw [hf, List.getD_eq_getElem?_getD, List.getElem?_eq_getElem hi]; rfl
   have hl0 : (labB d).length = d.next.length := by rw [labB_len]; omega
   have hfl : f.length = d.next.length := by rw [← hfi]; exact lsA_len hl0 i _ (List.getElem_mem hi)
   obtain ⟨Ri, hRi⟩ : ∃ Ri, Ri = (behsA 0 d.next d.width.toNat f).map (findF (turnB d (i + 1))) := ⟨_, rfl⟩
   have hRl : Ri.length = W := by rw [hRi, List.length_map]; unfold behsA; rw [List.length_map, List.length_range, hW]
   have hfz : List.replicate W (Value.int .i64 0) = (fillG 0 Ri 0).map (Value.int .i64) := by rw [← hRl, fillG_zero]
   rw [hfz, Nat.sub_self, List.replicate_zero]
   obtain ⟨br, e14⟩ : ∃ x, x = nb := ⟨_, rfl⟩
   subst e14
   refine Tri.loopS tok [0, 1, 2, 4, 5, 6, 7, 8, 9, 10, 11, 12, 13, 14, 15, 24, 25, 26, 27, 51, 59, 60, 61, 74, 96] (.seq .run (.seq .run (.seq (.block (.seq .run (.seq .cut .cut))) .cut))) (by kernel_rfl) [1, 2, 4, 5, 6, 7, 11, 12, 13, 14, 59, 60] (fun q2 G' fr H' => ∃ (k : Nat) (vall : Value) (av : List Value) (ka tb : Heap), k + q2 = W ∧ PLe G1 G' ∧ Tabs tb (.pointer (some ⟨bt, 0, none⟩)) (midB d i k) ∧ SliceO [] 39 1 vall (midB d i k).length av ka ∧ RwB G' av (midB d i k) ∧ (midB d i k).length ≤ most ∧ H' = (b7, .cells [.pointer (some ⟨bt, 0, none⟩), vall] [] 60) :: (b6, .cells [.int .i64 d.label.length] [] 3) :: (b2, .cells C [] 27) :: (b12, .cells [.int .i64 (i : Nat)] [] 3) :: (br, .cells ((fillG 0 Ri k).map (Value.int .i64)) [] 3) :: (b4, .cells zeroC [] 27) :: (b11, .cells (cellsD d vn vl (.slice ay2 d.names.length cy2)) [] 27) :: (tb ++ (ka ++ (kn ++ (kl ++ H)))) ∧ fr = [(1, .int .i64 (most : Nat)), (2, .pointer (some ⟨b2, 0, none⟩)), (4, .pointer (some ⟨b4, 0, none⟩)), (5, .bool false), (6, .pointer (some ⟨b6, 0, none⟩)), (7, .pointer (some ⟨b7, 0, none⟩)), (11, .pointer (some ⟨b11, 0, none⟩)), (12, .pointer (some ⟨b12, 0, none⟩)), (13, .func (.func 45) #[] #[.pointer (some ⟨b6, 0, none⟩), .pointer (some ⟨b2, 0, none⟩), .pointer (some ⟨b7, 0, none⟩), .pointer (some ⟨b12, 0, none⟩)]), (14, .slice (some ⟨br, 0, none⟩) W W), (59, .int .i64 (W : Nat)), (60, .int .i64 (k : Nat))]) (W) ?_ ?_
   ·refine Upd.leave (H' := (b7, .cells [.pointer (some ⟨bt, 0, none⟩), (.slice (some ⟨bl, 0, none⟩) (turnB d i).length cc)] [] 60) :: (b6, .cells [.int .i64 d.label.length] [] 3) :: (b2, .cells C [] 27) :: (b12, .cells [.int .i64 (i : Nat)] [] 3) :: (br, .cells ((fillG 0 Ri 0).map (Value.int .i64)) [] 3) :: (b4, .cells zeroC [] 27) :: (b11, .cells (cellsD d vn vl (.slice ay2 d.names.length cy2)) [] 27) :: (tb ++ ([(bl, .cells av sp 39)] ++ (kn ++ (kl ++ H))))) (by intro fsum; simp only [zzq]; omega) ?_
    exact ⟨0, _, av, [(bl, .cells av sp 39)], tb, by omega, PLe.refl _, by rw [midB_zero]; exact htb, by rw [midB_zero]; exact .inr ⟨bl, cc, sp, rfl, rfl, hxa, hca⟩, by rw [midB_zero]; exact hav, by rw [midB_zero]; exact hlm, rfl, rfl⟩
   ·rintro q2 G2 fr H2 hle2 hsI ⟨k, vall2, av2, ka2, tb2, hkq, hle12, htb2, hka2, hav2, hl2m, rfl, rfl⟩
    have O2 := OpenD.mono (hle01.trans hle12) O
    have hpre : turnB d i <+: midB d i k := by have := midB_pre (d := d) (i := i) (Nat.zero_le k); rw [midB_zero] at this; exact this
    have hiM : i < (midB d i k).length := by have := hpre.length_le; omega
    have hget : (midB d i k)[i] = f := by rw [← hfi]; exact (hpre.getElem hi).symm
    by_cases hkW : k < W
    ·have hms : metA (midB d i k) (behA 0 d.next f k) = midB d i (k + 1) := by rw [midB_succ (by omega), hf]
     have hpr : midB d i (k + 1) <+: turnB d (i + 1) := by
      have := midB_pre (d := d) (i := i) (show k + 1 ≤ d.width.toNat by omega)
      rw [midB_all hi] at this; exact this
     have hval : findF (midB d i (k + 1)) (behA 0 d.next f k) = Ri[k]'(by omega) := by
      obtain ⟨r, hr⟩ := hpr
      have hmem : behA 0 d.next f k ∈ midB d i (k + 1) := by rw [← hms]; exact metA_mem _ _
      simp only [hRi, behsA, List.getElem_map, List.getElem_range]
      rw [← hr, findF_app hmem]
     repeat' first
      | (with_reducible first | refine Nx.go ?_ | refine Bk.go (fun _ => ?_) fun _ => ?_)
      | ((with_reducible first | refine NewB.mk2 fun nb hnb hnb1 hnb2 => ?_ | refine NewRow.mk2 fun nb nsp ncap hnb hncap hnb1 hnb2 => ?_); try simp only [zzn] at hnb2)
      | simp -dsimp -implicitDefEqProofs (disch := first | assumption | (simp only [zzm]; done) | omega | (try with_reducible refine Row.adr (by assumption) ?_); simp only [zzl, Nat.reduceAdd]; first | done | omega) only [go_sem, ↓reduceIte, seval, -List.reduceReplicate]
     refine Tri.live [1, 2, 4, 5, 6, 7, 11, 12, 13, 14, 15, 59, 60] ?_
     refine Tri.upd (Upd.go (H' := (b7, .cells [.pointer (some ⟨bt, 0, none⟩), vall2] [] 60) :: (b6, .cells [.int .i64 d.label.length] [] 3) :: (b2, .cells C [] 27) :: (b12, .cells [.int .i64 (i : Nat)] [] 3) :: (br, .cells ((fillG 0 Ri k).map (Value.int .i64)) [] 3) :: (tb2 ++ (ka2 ++ ((b4, .cells zeroC [] 27) :: (b11, .cells (cellsD d vn vl (.slice ay2 d.names.length cy2)) [] 27) :: (kn ++ (kl ++ H)))))) (by intro fsum; simp only [zzq]; omega) (Upd.now ?_))
     refine Tri.isPiece [1, 1, 1, 1, 1, 1, 1, 0, 1, 0, 0, 1, 0, 0, 1, 1, 0, 1, 0, 0, 1, 1, 0, 0, 1, 0] Tryz.f21 (by kernel_rfl) ?_
     refine Tri.onlyN (q19_t hsm hok O2 hiM (by omega) (by rw [hget]; exact hfl) (k := k) (by omega) hRl hkW (by omega) (by rw [hget, hms]; exact hval) htb2 hka2 hav2) fun G3 l3 H3 hle3 hs3 hM => ?_
     rw [hget, hms] at hM
     obtain ⟨vall3, av3, ka3, tb3, hle23, htb3, hka3, hav3, hfr, rfl⟩ := hM
     simp only [go_sem]
     refine Tri.live [1, 2, 4, 5, 6, 7, 11, 12, 13, 14, 59, 60] ?_
     rw [hfr]
     have hp3 : 0 < (midB d i (k + 1)).length := by have := (midB_pre (d := d) (i := i) (show k ≤ k + 1 by omega)).length_le; omega
     rcases hka3 with ⟨_, _, h0, _, _⟩ | ⟨bl3, cc3, sp3, rfl, rfl, hxc3, hcc3⟩
     ·omega
     refine Tri.upd (Upd.go (H' := (b7, .cells [.pointer (some ⟨bt, 0, none⟩), (.slice (some ⟨bl3, 0, none⟩) (midB d i (k + 1)).length cc3)] [] 60) :: (b4, .cells zeroC [] 27) :: (b6, .cells [.int .i64 d.label.length] [] 3) :: (b2, .cells C [] 27) :: (b12, .cells [.int .i64 (i : Nat)] [] 3) :: (br, .cells ((fillG 0 Ri (k + 1)).map (Value.int .i64)) [] 3) :: (b11, .cells (cellsD d vn vl (.slice ay2 d.names.length cy2)) [] 27) :: (tb3 ++ ([(bl3, .cells av3 sp3 39)] ++ (kn ++ (kl ++ H))))) (by intro fsum; simp only [zzq]; omega) (Upd.now ?_))
     refine Tri.sepT fun hs4 => ?_
     have hb74 : b7 ≠ b4 := hs4.1.2.1
     have hb47 : b4 ≠ b7 := Ne.symm hb74
     have hg7 := hs4.1.1
     have hg4 := hs4.2.1.1
     clear hs4 hs3
     refine Tri.run tok [0, 1, 2, 4, 5, 6, 7, 8, 9, 10, 11, 12, 13, 14, 15, 24, 25, 26, 27, 51, 59, 60, 61, 74, 96] (by kernel_rfl) ?_
     repeat' first
      | (with_reducible first | refine Nx.go ?_ | refine Bk.go (fun _ => ?_) fun _ => ?_)
      | ((with_reducible first | refine NewB.mk2 fun nb hnb hnb1 hnb2 => ?_ | refine NewRow.mk2 fun nb nsp ncap hnb hncap hnb1 hnb2 => ?_); try simp only [zzn] at hnb2)
      | simp -dsimp -implicitDefEqProofs (disch := first | assumption | (simp only [zzm]; done) | omega | (try with_reducible refine Row.adr (by assumption) ?_); simp only [zzl, Nat.reduceAdd]; first | done | omega) only [go_sem, ↓reduceIte, seval, -List.reduceReplicate, zeroC_len, zeroC_one, zeroC_take, zeroC_put, List.toList_toArray]
     ·rename_i hbig
      have hno : ¬ (turnB d most).length ≤ most := by
       have h1 := hpr.length_le
       have h2 := (turnB_pre d (show i + 1 ≤ most by omega)).length_le
       omega
      rw [turnR_no hok hno] at hR
      unfold UpdR
      refine Upd.leave (H' := H) (by intro fsum; simp only [zzq]; omega) ?_
      exact hR G3 _ (hle01.trans (hle12.trans hle23)) (zeroD_is _)
     ·rename_i hbig
      refine Tri.run tok [0, 1, 2, 4, 5, 6, 7, 8, 9, 10, 11, 12, 13, 14, 15, 24, 25, 26, 27, 51, 59, 60, 61, 74, 96] (by kernel_rfl) ?_
      repeat' first
       | (with_reducible first | refine Nx.go ?_ | refine Bk.go (fun _ => ?_) fun _ => ?_)
       | ((with_reducible first | refine NewB.mk2 fun nb hnb hnb1 hnb2 => ?_ | refine NewRow.mk2 fun nb nsp ncap hnb hncap hnb1 hnb2 => ?_); try simp only [zzn] at hnb2)
       | simp -dsimp -implicitDefEqProofs (disch := first | assumption | (simp only [zzm]; done) | omega | (try with_reducible refine Row.adr (by assumption) ?_); simp only [zzl, Nat.reduceAdd]; first | done | omega) only [go_sem, ↓reduceIte, seval, -List.reduceReplicate]
      refine Upd.leave (H' := (b7, .cells [.pointer (some ⟨bt, 0, none⟩), (.slice (some ⟨bl3, 0, none⟩) (midB d i (k + 1)).length cc3)] [] 60) :: (b6, .cells [.int .i64 d.label.length] [] 3) :: (b2, .cells C [] 27) :: (b12, .cells [.int .i64 (i : Nat)] [] 3) :: (br, .cells ((fillG 0 Ri (k + 1)).map (Value.int .i64)) [] 3) :: (b4, .cells zeroC [] 27) :: (b11, .cells (cellsD d vn vl (.slice ay2 d.names.length cy2)) [] 27) :: (tb3 ++ ([(bl3, .cells av3 sp3 39)] ++ (kn ++ (kl ++ H))))) (by intro fsum; simp only [zzq]; omega) ?_
      exact ⟨q2 - 1, by omega, k + 1, _, av3, [(bl3, .cells av3 sp3 39)], tb3, by omega, hle12.trans hle23, htb3, .inr ⟨bl3, cc3, sp3, rfl, rfl, hxc3, hcc3⟩, hav3, by omega, rfl, rfl⟩
    ·obtain rfl : k = W := by omega
     repeat' first
      | (with_reducible first | refine Nx.go ?_ | refine Bk.go (fun _ => ?_) fun _ => ?_)
      | ((with_reducible first | refine NewB.mk2 fun nb hnb hnb1 hnb2 => ?_ | refine NewRow.mk2 fun nb nsp ncap hnb hncap hnb1 hnb2 => ?_); try simp only [zzn] at hnb2)
      | simp -dsimp -implicitDefEqProofs (disch := first | assumption | (simp only [zzm]; done) | omega | (try with_reducible refine Row.adr (by assumption) ?_); simp only [zzl, Nat.reduceAdd]; first | done | omega) only [go_sem, ↓reduceIte, seval, -List.reduceReplicate]
     have hmid : midB d i k = turnB d (i + 1) := by rw [hW]; exact midB_all hi
     have hfa : fillG 0 Ri k = Ri := by rw [← hRl]; exact fillG_all 0 Ri
     rw [hmid] at htb2 hka2 hav2 hl2m
     rw [hfa] at hsI ⊢
     have hget1 : (turnB d (i + 1))[i]'(by have := (turnB_pre d (show i ≤ i + 1 by omega)).length_le; omega) = f := by rw [← hfi]; exact ((turnB_pre d (show i ≤ i + 1 by omega)).getElem hi).symm
     have hlen1 := (turnB_pre d (show i ≤ i + 1 by omega)).length_le
     rcases hka2 with ⟨_, _, h0, _, _⟩ | ⟨bl3, cc3, sp3, rfl, rfl, hxc3, hcc3⟩
     ·omega
     -- the row is written no more
     refine Tri.upd (Upd.go (H' := (br, .cells (Ri.map (Value.int .i64)) [] 3) :: (b11, .cells (cellsD d vn vl (.slice ay2 d.names.length cy2)) [] 27) :: (kn ++ ((b7, .cells [.pointer (some ⟨bt, 0, none⟩), (.slice (some ⟨bl3, 0, none⟩) (turnB d (i + 1)).length cc3)] [] 60) :: (b12, .cells [.int .i64 (i : Nat)] [] 3) :: (bl3, .cells av2 sp3 39) :: (kl ++ ((b6, .cells [.int .i64 d.label.length] [] 3) :: (b2, .cells C [] 27) :: (b4, .cells zeroC [] 27) :: (tb2 ++ H)))))) (by intro fsum; simp only [zzq]; omega) (Upd.now ?_))
     refine Tri.sepT fun hs3 => ?_
     refine Tri.upd (Upd.shareRow hs3.1.1 fun G3 hle3 hs4 hr3 => ?_)
     have hrv3 := (hrv.mono (hle12.trans hle3)).snoc (b := some ⟨br, 0, none⟩) (c := k) hr3 (by omega)
     rw [hRl] at hrv3
     have hrs : rowsB d (i + 1) = rowsB d i ++ [Ri] := by rw [rowsB_succ hi, hfi, hRi]
     rw [← hrs] at hrv3
     refine Tri.live [1, 2, 4, 5, 6, 7, 11, 12, 14] ?_
     refine Tri.isPiece [1, 1, 1, 1, 1, 1, 1, 0, 1, 0, 0, 1, 0, 0, 1, 1, 1, 0] Tryz.f21 (by kernel_rfl) ?_
     refine Tri.onlyN (q23_t O.ofl (by omega) hrv.one hkn) fun G4 l4 H4 hle4 hs5 hM => ?_
     obtain ⟨vn', kn', rfl, hkn', hfr, rfl⟩ := hM
     simp only [go_sem]
     refine Tri.live [1, 2, 4, 5, 6, 7, 11, 12] ?_
     rw [hfr]
     refine Tri.upd (Upd.go (H' := (b11, .cells (cellsD d vn' vl (.slice ay2 d.names.length cy2)) [] 27) :: (b7, .cells [.pointer (some ⟨bt, 0, none⟩), (.slice (some ⟨bl3, 0, none⟩) (turnB d (i + 1)).length cc3)] [] 60) :: (b12, .cells [.int .i64 (i : Nat)] [] 3) :: (bl3, .cells av2 sp3 39) :: (kl ++ (kn' ++ ((b6, .cells [.int .i64 d.label.length] [] 3) :: (b2, .cells C [] 27) :: (b4, .cells zeroC [] 27) :: (tb2 ++ H))))) (by intro fsum; simp only [zzq]; omega) (Upd.now ?_))
     refine Tri.isPiece [1, 1, 1, 1, 1, 1, 1, 0, 1, 0, 0, 1, 0, 0, 1, 1, 1, 1] Tryz.f21 (by kernel_rfl) ?_
     have hll : (labsB d i).length = i := by unfold labsB; rw [List.length_map, List.length_take]; omega
     refine Tri.onlyN (q24_t O.ofl (by omega) hll (by omega) (by omega) (by rw [hget1]; omega) (hav2.mono hle3) hkl) fun G5 l5 H5 hle5 hs6 hM => ?_
     obtain ⟨vl', kl', rfl, hkl', hfr2, rfl⟩ := hM
     have hls : labsB d (i + 1) = labsB d i ++ [(((f.headD 0).toNat : Nat) : Int)] := by rw [labsB_succ hi, hfi]
     rw [hget1, ← hls] at hkl'
     simp only [go_sem]
     refine Tri.live [1, 2, 4, 5, 6, 7, 11, 12] ?_
     rw [hfr2]
     refine Tri.upd (Upd.go (H' := (b12, .cells [.int .i64 (i : Nat)] [] 3) :: (b7, .cells [.pointer (some ⟨bt, 0, none⟩), (.slice (some ⟨bl3, 0, none⟩) (turnB d (i + 1)).length cc3)] [] 60) :: (b6, .cells [.int .i64 d.label.length] [] 3) :: (b2, .cells C [] 27) :: (b4, .cells zeroC [] 27) :: (b11, .cells (cellsD d vn' vl' (.slice ay2 d.names.length cy2)) [] 27) :: (tb2 ++ ([(bl3, .cells av2 sp3 39)] ++ (kn' ++ (kl' ++ H))))) (by intro fsum; simp only [zzq]; omega) (Upd.now ?_))
     refine Tri.sepT fun hs7 => ?_
     have hg12 := hs7.1.1
     clear hs7 hs6 hs5 hs4 hs3
     refine Tri.run tok [0, 1, 2, 4, 5, 6, 7, 8, 9, 10, 11, 12, 13, 14, 15, 24, 25, 26, 27, 51, 59, 60, 61, 74, 96] (by kernel_rfl) ?_
     repeat' first
      | (with_reducible first | refine Nx.go ?_ | refine Bk.go (fun _ => ?_) fun _ => ?_)
      | ((with_reducible first | refine NewB.mk2 fun nb hnb hnb1 hnb2 => ?_ | refine NewRow.mk2 fun nb nsp ncap hnb hncap hnb1 hnb2 => ?_); try simp only [zzn] at hnb2)
      | simp -dsimp -implicitDefEqProofs (disch := first | assumption | (simp only [zzm]; done) | omega | (try with_reducible refine Row.adr (by assumption) ?_); simp only [zzl, Nat.reduceAdd]; first | done | omega) only [go_sem, ↓reduceIte, seval, -List.reduceReplicate]
     refine Upd.leave (H' := (b7, .cells [.pointer (some ⟨bt, 0, none⟩), (.slice (some ⟨bl3, 0, none⟩) (turnB d (i + 1)).length cc3)] [] 60) :: (b6, .cells [.int .i64 d.label.length] [] 3) :: (b2, .cells C [] 27) :: (b4, .cells zeroC [] 27) :: (b11, .cells (cellsD d vn' vl' (.slice ay2 d.names.length cy2)) [] 27) :: (nb, .cells [.int .i64 ((i : Int) + 1)] [] 3) :: (tb2 ++ ([(bl3, .cells av2 sp3 39)] ++ (kn' ++ (kl' ++ H))))) (by intro fsum; simp only [zzq]; omega) ?_
     exact ⟨q - 1, by omega, i + 1, _, av2, [(bl3, .cells av2 sp3 39)], tb2, vn', vl', _, kn', kl', nb, by omega, hle01.trans (hle12.trans hle3), htb2, .inr ⟨bl3, cc3, sp3, rfl, rfl, hxc3, hcc3⟩, hav2.mono hle3, by omega, hl2m, hrv3, hkn', hkl', rfl, rfl⟩
  ·have hie : (turnB d i).length = i := by omega
   have hil' : i ≤ most := by omega
   obtain ⟨e1, e2⟩ := turnB_end hie hil'
   rw [turnR_ok hok (by rw [e1]; exact hlm), e1, e2] at hR
   have hrl : (rowsB d i).length = i := by unfold rowsB; rw [List.length_map, List.length_take]; omega
   have hll : (labsB d i).length = i := by unfold labsB; rw [List.length_map, List.length_take]; omega
   rcases hkn with ⟨_, _, h0, _, _⟩ | ⟨bn, cn2, spn, rfl, rfl, hx1, hxc⟩
   ·omega
   rcases hkl with ⟨_, _, h0, _, _⟩ | ⟨bk, ck, spk, rfl, rfl, hy, hyc⟩
   ·omega
   rw [Nat.mul_one] at hxc hx1 hyc
   rw [List.length_map] at hyc
   have hsE := hsL
   try simp only [zzs] at hsE
   repeat (obtain ⟨hsx, hsE⟩ := hsE)
   repeat' first
    | (with_reducible first | refine Nx.go ?_ | refine Bk.go (fun _ => ?_) fun _ => ?_)
    | ((with_reducible first | refine NewB.mk2 fun nb hnb hnb1 hnb2 => ?_ | refine NewRow.mk2 fun nb nsp ncap hnb hncap hnb1 hnb2 => ?_); try simp only [zzn] at hnb2)
    | simp -dsimp -implicitDefEqProofs (disch := first | assumption | (simp only [zzm]; done) | omega | (try with_reducible refine Row.adr (by assumption) ?_); simp only [zzl, Nat.reduceAdd]; first | done | omega) only [go_sem, ↓reduceIte, seval, -List.reduceReplicate, List.toList_toArray, hCl]
   refine Tri.run tok [0, 1, 2, 4, 5, 6, 7, 8, 9, 10, 11, 12, 13, 14, 15, 24, 25, 26, 27, 51, 59, 60, 61, 74, 96] (by kernel_rfl) ?_
   repeat' first
    | (with_reducible first | refine Nx.go ?_ | refine Bk.go (fun _ => ?_) fun _ => ?_)
    | ((with_reducible first | refine NewB.mk2 fun nb hnb hnb1 hnb2 => ?_ | refine NewRow.mk2 fun nb nsp ncap hnb hncap hnb1 hnb2 => ?_); try simp only [zzn] at hnb2)
    | simp -dsimp -implicitDefEqProofs (disch := first | assumption | (simp only [zzm]; done) | omega | (try with_reducible refine Row.adr (by assumption) ?_); simp only [zzl, Nat.reduceAdd]; first | done | omega) only [go_sem, ↓reduceIte, seval, -List.reduceReplicate, List.toList_toArray, hCl, hl2, ht2, hputz, hone, zeroC_len]
   unfold UpdR
   refine Upd.go (H' := (bn, .cells rv spn 24) :: (bk, .cells ((labsB d i).map (Value.int .i64)) spk 3) :: H) (by intro fsum; simp only [zzq]; omega) ?_
   refine Upd.trans (Upd.shareRow (hsL.none (by simp [keys])) fun G5 hle5 hs9 hr5 => ?_)
   refine Upd.shareRow hs9.1.1 fun G6 hle6 hs10 hr6 => ?_
   have k6 := hle5.trans hle6
   have hrv6 := hrv.mono k6
   refine hR G6 _ (hle01.trans k6) ⟨O.ofl, O.ofb, _, _, _, rfl, ⟨some ⟨bn, 0, none⟩, cn2, rv, ?_, hr5.mono hle6, hrv6.1, ?_, hrv6.2⟩, ⟨some ⟨bk, 0, none⟩, ck, ?_, hr6, ?_⟩, ⟨ay2, cy2, rfl, hry2.mono (hle01.trans k6), hcy2⟩⟩
   ·show _ = Value.slice _ (rowsB d i).length _
    rw [hrl]
   ·show (rowsB d i).length ≤ _
    omega
   ·show _ = Value.slice _ (labsB d i).length _
    rw [hll]
   ·show (labsB d i).length ≤ _
    omega
theorem turned_t {d : DfaT} (hsm : SmallD d) (hok : RightP d) {most : Nat} (hm1 : 1 ≤ most) (hm2 : most ≤ 65536) {G : PHeap} {H : Heap} {R : Value → PHeap → Heap → Prop} {v : Value} (hv : IsD G d v)
  (hR : ∀ G' v', PLe G G' → Sep G' (keys H) → IsD G' (turnR d most).1 v' → R (.tuple #[v', .bool (turnR d most).2]) G' H) : FnT Tryz.prog 21 [v, .int .i64 (most : Nat)] G H R := by
 obtain ⟨C, an, al, ay, cn, cl, cs, rs, rfl, O⟩ := hv.opened
 obtain ⟨hs1, hs2, hs3, hs4, hs5⟩ := id hsm
 obtain ⟨hk1, hk2, hk3, hk4, hk5, hk6, hk7⟩ := id hok
 have hCl := O.len
 have hCa := O.all
 have hCw := O.w
 have hCn := O.n
 have hCx := O.l
 have hCs := O.s
 have hCo := O.of
 have hadl : Adr al := O.rl.adr (by rw [List.length_map]; omega)
 have hfz : List.replicate d.label.length (Value.int .u8 0) = (fillB (labB d) 0).map byteV := by rw [← labB_len, fillB_zero]
 refine FnT.sep ?_
 refine FnT.bodyS tok [0, 1, 2, 4, 5, 6, 7, 8, 9, 10, 11, 12, 13, 14, 15, 24, 25, 26, 27, 51, 59, 60, 61, 74, 96] (.seq .run (.seq .run (.seq .run (.seq .run (.seq .run (.seq .run (.seq .cut .cut))))))) Tryz.func21 rfl (by kernel_rfl) (by kernel_rfl) (by show _ ≤ 98; simp) fun hsep => ?_
 rw [Tryz.results21]
 have hsE := hsep
 try simp only [zzs] at hsE
 repeat (obtain ⟨hsx, hsE⟩ := hsE)
 repeat' first
  | (with_reducible first | refine Nx.go ?_ | refine Bk.go (fun _ => ?_) fun _ => ?_)
  | ((with_reducible first | refine NewB.mk2 fun nb hnb hnb1 hnb2 => ?_ | refine NewRow.mk2 fun nb nsp ncap hnb hncap hnb1 hnb2 => ?_); try simp only [zzn] at hnb2)
  | simp -dsimp -implicitDefEqProofs (disch := first | assumption | (simp only [zzm]; done) | omega | (try with_reducible refine Row.adr (by assumption) ?_); simp only [zzl, Nat.reduceAdd]; first | done | omega) only [go_sem, ↓reduceIte, seval, -List.reduceReplicate, List.toList_toArray, hCl, hCa, hCx]
 rename_i b2 z1 z2 z3 b4 z4 z5 z6
 obtain ⟨b6, e60⟩ : ∃ x, x = nb := ⟨_, rfl⟩
 subst e60
 refine FnT.sep (FnT.upd (news_t fun tb pt hst htb => ?_))
 obtain ⟨_, bt, bm, vk, kb, rfl, _, _⟩ := id htb
 have hz : List.replicate 256 (Value.int .u8 0) ++ [Value.int .i64 0, Value.slice none 0 0, Value.slice none 0 0, Value.slice none 0 0] = zeroC := rfl
 rw [hz]
 refine Upd.go (H' := (b6, .cells [.int .i64 d.label.length] [] 3) :: (b4, .cells zeroC [] 27) :: (b2, .cells C [] 27) :: (tb ++ H)) (by intro fsum; simp only [zzq]; omega) (Upd.now fun _ hs2 => ?_)
 have hsE := hs2
 try simp only [zzs] at hsE
 repeat (obtain ⟨hsx, hsE⟩ := hsE)
 repeat' first
  | (with_reducible first | refine Nx.go ?_ | refine Bk.go (fun _ => ?_) fun _ => ?_)
  | ((with_reducible first | refine NewB.mk2 fun nb hnb hnb1 hnb2 => ?_ | refine NewRow.mk2 fun nb nsp ncap hnb hncap hnb1 hnb2 => ?_); try simp only [zzn] at hnb2)
  | simp -dsimp -implicitDefEqProofs (disch := first | assumption | (simp only [zzm]; done) | omega | (try with_reducible refine Row.adr (by assumption) ?_); simp only [zzl, Nat.reduceAdd]; first | done | omega) only [go_sem, ↓reduceIte, seval, -List.reduceReplicate, List.toList_toArray, hCl, hCa, hCx, hfz, Nat.sub_self, List.replicate_zero]
 rename_i b7 y1 y2 y3
 obtain ⟨bf, e80⟩ : ∃ x, x = nb := ⟨_, rfl⟩
 subst e80
 refine Tri.loopU tok [0, 1, 2, 4, 5, 6, 7, 8, 9, 10, 11, 12, 13, 14, 15, 24, 25, 26, 27, 51, 59, 60, 61, 74, 96] (by kernel_rfl) [1, 2, 4, 5, 6, 7, 8, 24, 25, 26] (fun q G' fr H' => ∃ s : Nat, s + q = d.label.length ∧ G' = G ∧ H' = (bf, .cells ((fillB (labB d) s).map byteV) [] 5) :: (b7, .cells [.pointer (some ⟨bt, 0, none⟩), .slice none 0 0] [] 60) :: (b6, .cells [.int .i64 d.label.length] [] 3) :: (b4, .cells zeroC [] 27) :: (b2, .cells C [] 27) :: (tb ++ H) ∧ fr = [(1, .int .i64 (most : Nat)), (2, .pointer (some ⟨b2, 0, none⟩)), (4, .pointer (some ⟨b4, 0, none⟩)), (5, .bool false), (6, .pointer (some ⟨b6, 0, none⟩)), (7, .pointer (some ⟨b7, 0, none⟩)), (8, .slice (some ⟨bf, 0, none⟩) d.label.length d.label.length), (24, .slice al d.label.length cl), (25, .int .i64 d.label.length), (26, .int .i64 (s : Nat))]) (d.label.length) ?_ ?_
 ·exact Upd.now ⟨0, by omega, rfl, rfl, rfl⟩
 ·rintro q G1 fr H1 hle1 hs3 ⟨s, hsq, rfl, rfl, rfl⟩
  have hsE := hs3
  try simp only [zzs] at hsE
  repeat (obtain ⟨hsx, hsE⟩ := hsE)
  by_cases hsl : s < d.label.length
  ·have hlb := labB_at hok hsl
   have hsb : s < (labB d).length := by rw [labB_len]; exact hsl
   have hb256 := (labB d)[s].toNat_lt
   have hput := fillB_put (B := labB d) hsb
   have hfL : (fillB (labB d) s).length = d.label.length := by rw [fillB_len _ (by omega), labB_len]
   repeat' first
    | (with_reducible first | refine Nx.go ?_ | refine Bk.go (fun _ => ?_) fun _ => ?_)
    | ((with_reducible first | refine NewB.mk2 fun nb hnb hnb1 hnb2 => ?_ | refine NewRow.mk2 fun nb nsp ncap hnb hncap hnb1 hnb2 => ?_); try simp only [zzn] at hnb2)
    | simp -dsimp -implicitDefEqProofs (disch := first | assumption | (simp only [zzm]; done) | omega | (try with_reducible refine Row.adr (by assumption) ?_); simp only [zzl, Nat.reduceAdd]; first | done | omega) only [go_sem, ↓reduceIte, seval, -List.reduceReplicate, List.toList_toArray, hCl, hCx, Row.obj O.rl, List.getElem_map, hlb, hput, hfL, List.length_map]
   exact Upd.now ⟨q - 1, by omega, s + 1, by omega, rfl, rfl, rfl⟩
  ·obtain rfl : s = d.label.length := by omega
   have hfa : fillB (labB d) d.label.length = labB d := by rw [← labB_len, fillB_all]
   rw [hfa]
   repeat' first
    | (with_reducible first | refine Nx.go ?_ | refine Bk.go (fun _ => ?_) fun _ => ?_)
    | ((with_reducible first | refine NewB.mk2 fun nb hnb hnb1 hnb2 => ?_ | refine NewRow.mk2 fun nb nsp ncap hnb hncap hnb1 hnb2 => ?_); try simp only [zzn] at hnb2)
    | simp -dsimp -implicitDefEqProofs (disch := first | assumption | (simp only [zzm]; done) | omega | (try with_reducible refine Row.adr (by assumption) ?_); simp only [zzl, Nat.reduceAdd]; first | done | omega) only [go_sem, ↓reduceIte, seval, -List.reduceReplicate, List.toList_toArray, hCl, hCx]
   refine FnT.pre calleeNumber (Upd.go (H' := (bf, .cells ((labB d).map byteV) [] 5) :: (b7, .cells [.pointer (some ⟨bt, 0, none⟩), .slice none 0 0] [] 60) :: (tb ++ ([] ++ ((b6, .cells [.int .i64 d.label.length] [] 3) :: (b4, .cells zeroC [] 27) :: (b2, .cells C [] 27) :: H)))) (by intro fsum; simp only [zzq]; omega) (Upd.shareRow (by assumption) fun G2 hle2 hs4 hr2 => ?_))
   have hll := labB_len d
   refine lnumber_t (ks := []) (by omega) (by omega) hll.symm htb (Nat.zero_le _) hr2 (by omega) (.inl ⟨none, rfl, rfl, rfl, rfl⟩) (RwB.nil _) fun tb1 vall1 av1 ka1 hs5 htb1 hka1 hav1 => ?_
   have hmet : (putF [] (labB d)).1 = turnB d 0 := rfl
   rw [hmet] at htb1 hka1 hav1
   have hsE := hs5
   try simp only [zzs] at hsE
   repeat (obtain ⟨hsx, hsE⟩ := hsE)
   repeat' first
    | (with_reducible first | refine Nx.go ?_ | refine Bk.go (fun _ => ?_) fun _ => ?_)
    | ((with_reducible first | refine NewB.mk2 fun nb hnb hnb1 hnb2 => ?_ | refine NewRow.mk2 fun nb nsp ncap hnb hncap hnb1 hnb2 => ?_); try simp only [zzn] at hnb2)
    | simp -dsimp -implicitDefEqProofs (disch := first | assumption | (simp only [zzm]; done) | omega | (try with_reducible refine Row.adr (by assumption) ?_); simp only [zzl, Nat.reduceAdd]; first | done | omega) only [go_sem, ↓reduceIte, seval, -List.reduceReplicate, List.toList_toArray, hCl, hCx]
   refine Tri.live [1, 2, 4, 5, 6, 7] ?_
   refine Tri.upd (Upd.go (H' := (b2, .cells C [] 27) :: ((b7, .cells [.pointer (some ⟨bt, 0, none⟩), vall1] [] 60) :: (b6, .cells [.int .i64 d.label.length] [] 3) :: (b4, .cells zeroC [] 27) :: (tb1 ++ (ka1 ++ H)))) (by intro fsum; simp only [zzq]; omega) (Upd.now ?_))
   refine Tri.isPiece [1, 1, 1, 1, 1, 1, 0] Tryz.f21 (by kernel_rfl) ?_
   refine Tri.onlyN (q10_t hsm (O.mono hle2)) fun G3 l3 H3 hle3 hs6 hM => ?_
   obtain ⟨b11, vs, hle4, hvs, hfr, rfl⟩ := hM
   simp only [go_sem]
   refine Tri.live [1, 2, 4, 5, 6, 7, 11] ?_
   rw [hfr]
   refine Tri.upd (Upd.go (H' := (b7, .cells [.pointer (some ⟨bt, 0, none⟩), vall1] [] 60) :: (b6, .cells [.int .i64 d.label.length] [] 3) :: (b2, .cells C [] 27) :: (b4, .cells zeroC [] 27) :: (b11, .cells (cellsD d (.slice none 0 0) (.slice none 0 0) vs) [] 27) :: (tb1 ++ (ka1 ++ H))) (by intro fsum; simp only [zzq]; omega) (Upd.now ?_))
   refine Tri.isPiece [1, 1, 1, 1, 1, 1, 1] Tryz.f21 (by kernel_rfl) ?_
   refine tl_t hsm hok hm1 hm2 (O.mono (hle2.trans hle4)) hvs htb1 hka1 (hav1.mono hle4) ?_
   exact fun G' v' hle hI _ hs => hR G' v' ((hle2.trans hle4).trans hle) hs hI
end Go.Proofs.YtefkpedhbijhkaaGreatDoor
namespace Go.Proofs.YtefkpedhbijhkaaGreatDoor
open Go Go.V Go.Proofs
noncomputable def wrongR (d : DfaT) (most : Int) : Int := haveI := Classical.propDecidable; if RightP d then if 1 ≤ most ∧ most ≤ 65536 then 0 else 1 else 6
theorem wrongR_bad {d : DfaT} {most : Int} (h : ¬ RightP d) : wrongR d most = 6 := by unfold wrongR; rw [if_neg h]
theorem wrongR_not {d : DfaT} {most : Int} (h : RightP d) (h2 : ¬ (1 ≤ most ∧ most ≤ 65536)) : wrongR d most = 1 := by unfold wrongR; rw [if_pos h, if_neg h2]
theorem wrongR_ok {d : DfaT} {most : Int} (h : RightP d) (h2 : 1 ≤ most ∧ most ≤ 65536) : wrongR d most = 0 := by unfold wrongR; rw [if_pos h, if_pos h2]
noncomputable def revR (d : DfaT) (most : Int) : DfaT × Int := haveI := Classical.propDecidable
 if RightP d then if 1 ≤ most ∧ most ≤ 65536 then if (turnR d most.toNat).2 = true then ((turnR d most.toNat).1, 0) else (zeroD, 7) else (zeroD, 1) else (zeroD, 6)
theorem revR_bad {d : DfaT} {most : Int} (h : ¬ RightP d) : revR d most = (zeroD, 6) := by unfold revR; rw [if_neg h]
theorem revR_not {d : DfaT} {most : Int} (h : RightP d) (h2 : ¬ (1 ≤ most ∧ most ≤ 65536)) : revR d most = (zeroD, 1) := by unfold revR; rw [if_pos h, if_neg h2]
theorem revR_big {d : DfaT} {most : Int} (h : RightP d) (h2 : 1 ≤ most ∧ most ≤ 65536) (h3 : (turnR d most.toNat).2 = false) : revR d most = (zeroD, 7) := by unfold revR; rw [if_pos h, if_pos h2, if_neg (by rw [h3]; exact Bool.false_ne_true)]
theorem revR_ok {d : DfaT} {most : Int} (h : RightP d) (h2 : 1 ≤ most ∧ most ≤ 65536) (h3 : (turnR d most.toNat).2 = true) : revR d most = ((turnR d most.toNat).1, 0) := by unfold revR; rw [if_pos h, if_pos h2, if_pos h3]
theorem wrong_t {d : DfaT} (hsm : SmallD d) {most : Int} (hm : -9223372036854775808 ≤ most ∧ most < 9223372036854775808) {G : PHeap} {H : Heap} {R : Value → PHeap → Heap → Prop} {v : Value} (hv : IsD G d v)
  (hR : R (.int .i64 (wrongR d most)) G H) : FnT Tryz.prog 20 [v, .int .i64 most] G H R := by
 obtain ⟨C, an, al, ay, cn, cl, cs, rs, rfl, O⟩ := hv.opened
 have hCl := O.len
 have hCa := O.all
 by_cases hok : RightP d
 ·have hb := boolOf_yes hok
  by_cases h1 : 1 ≤ most
  ·by_cases h2 : most ≤ 65536
   ·rw [wrongR_ok hok ⟨h1, h2⟩] at hR
    refine FnT.body tok [0, 1, 2, 4, 5, 9] Tryz.func20 rfl (by kernel_rfl) (by kernel_rfl) (by show _ ≤ 16; simp) fun hsep => ?_
    rw [Tryz.results20]
    have hsE := hsep
    try simp only [zzs] at hsE
    repeat (obtain ⟨hsx, hsE⟩ := hsE)
    repeat' first
     | (with_reducible first | refine Nx.go ?_ | refine Bk.go (fun _ => ?_) fun _ => ?_)
     | (with_reducible refine NewB.mk2 fun nb hnb hnb1 hnb2 => ?_; try simp only [zzn] at hnb2)
     | simp -dsimp -implicitDefEqProofs (disch := first | assumption | (simp only [zzm]; done) | omega | (try with_reducible refine Row.adr (by assumption) ?_); simp only [zzl, Nat.reduceAdd]; first | done | omega) only [go_sem, ↓reduceIte, seval, -List.reduceReplicate, List.toList_toArray, hCl, hCa, hb]
     | with_reducible refine right_t hsm O.is ?_
    all_goals try (exfalso; omega)
    all_goals refine Upd.finL ?_ hR ?_
    any_goals (intro fsum; first | exact Nat.le_refl _ | (simp only [zzq]; omega))
    all_goals rfl
   ·rw [wrongR_not hok (fun h => h2 h.2)] at hR
    refine FnT.body tok [0, 1, 2, 4, 5, 9] Tryz.func20 rfl (by kernel_rfl) (by kernel_rfl) (by show _ ≤ 16; simp) fun hsep => ?_
    rw [Tryz.results20]
    have hsE := hsep
    try simp only [zzs] at hsE
    repeat (obtain ⟨hsx, hsE⟩ := hsE)
    repeat' first
     | (with_reducible first | refine Nx.go ?_ | refine Bk.go (fun _ => ?_) fun _ => ?_)
     | (with_reducible refine NewB.mk2 fun nb hnb hnb1 hnb2 => ?_; try simp only [zzn] at hnb2)
     | simp -dsimp -implicitDefEqProofs (disch := first | assumption | (simp only [zzm]; done) | omega | (try with_reducible refine Row.adr (by assumption) ?_); simp only [zzl, Nat.reduceAdd]; first | done | omega) only [go_sem, ↓reduceIte, seval, -List.reduceReplicate, List.toList_toArray, hCl, hCa, hb]
     | with_reducible refine right_t hsm O.is ?_
    all_goals try (exfalso; omega)
    all_goals refine Upd.finL ?_ hR ?_
    any_goals (intro fsum; first | exact Nat.le_refl _ | (simp only [zzq]; omega))
    all_goals rfl
  ·rw [wrongR_not hok (fun h => h1 h.1)] at hR
   refine FnT.body tok [0, 1, 2, 4, 5, 9] Tryz.func20 rfl (by kernel_rfl) (by kernel_rfl) (by show _ ≤ 16; simp) fun hsep => ?_
   rw [Tryz.results20]
   have hsE := hsep
   try simp only [zzs] at hsE
   repeat (obtain ⟨hsx, hsE⟩ := hsE)
   repeat' first
    | (with_reducible first | refine Nx.go ?_ | refine Bk.go (fun _ => ?_) fun _ => ?_)
    | (with_reducible refine NewB.mk2 fun nb hnb hnb1 hnb2 => ?_; try simp only [zzn] at hnb2)
    | simp -dsimp -implicitDefEqProofs (disch := first | assumption | (simp only [zzm]; done) | omega | (try with_reducible refine Row.adr (by assumption) ?_); simp only [zzl, Nat.reduceAdd]; first | done | omega) only [go_sem, ↓reduceIte, seval, -List.reduceReplicate, List.toList_toArray, hCl, hCa, hb]
    | with_reducible refine right_t hsm O.is ?_
   all_goals try (exfalso; omega)
   all_goals refine Upd.finL ?_ hR ?_
   any_goals (intro fsum; first | exact Nat.le_refl _ | (simp only [zzq]; omega))
   all_goals rfl
 ·have hb := boolOf_no hok
  rw [wrongR_bad hok] at hR
  refine FnT.body tok [0, 1, 2, 4, 5, 9] Tryz.func20 rfl (by kernel_rfl) (by kernel_rfl) (by show _ ≤ 16; simp) fun hsep => ?_
  rw [Tryz.results20]
  have hsE := hsep
  try simp only [zzs] at hsE
  repeat (obtain ⟨hsx, hsE⟩ := hsE)
  repeat' first
   | (with_reducible first | refine Nx.go ?_ | refine Bk.go (fun _ => ?_) fun _ => ?_)
   | (with_reducible refine NewB.mk2 fun nb hnb hnb1 hnb2 => ?_; try simp only [zzn] at hnb2)
   | simp -dsimp -implicitDefEqProofs (disch := first | assumption | (simp only [zzm]; done) | omega | (try with_reducible refine Row.adr (by assumption) ?_); simp only [zzl, Nat.reduceAdd]; first | done | omega) only [go_sem, ↓reduceIte, seval, -List.reduceReplicate, List.toList_toArray, hCl, hCa, hb]
   | with_reducible refine right_t hsm O.is ?_
  all_goals refine Upd.finL ?_ hR ?_
  any_goals (intro fsum; first | exact Nat.le_refl _ | (simp only [zzq]; omega))
  all_goals rfl
theorem rev_t {d : DfaT} (hsm : SmallD d) {most : Int} (hm : -9223372036854775808 ≤ most ∧ most < 9223372036854775808) {G : PHeap} {H : Heap} {R : Value → PHeap → Heap → Prop} {v : Value} (hv : IsD G d v)
  (hR : ∀ G' v', PLe G G' → Sep G' (keys H) → IsD G' (revR d most).1 v' → R (.tuple #[v', .int .i64 (revR d most).2]) G' H) : FnT Tryz.prog 8 [v, .int .i64 most] G H R := by
 obtain ⟨C, an, al, ay, cn, cl, cs, rs, rfl, O⟩ := hv.opened
 have hCl := O.len
 have hCa := O.all
 refine FnT.sep ?_
 by_cases hok : RightP d
 ·by_cases h1 : 1 ≤ most ∧ most ≤ 65536
  ·have hw := wrongR_ok hok h1
   obtain ⟨m, rfl⟩ := Int.eq_ofNat_of_zero_le (show 0 ≤ most by omega)
   refine FnT.body tok [0, 1, 2, 4, 5, 6, 7, 8, 13, 23] Tryz.func8 rfl (by kernel_rfl) (by kernel_rfl) (by show _ ≤ 26; simp) fun hsep => ?_
   rw [Tryz.results8]
   have hsE := hsep
   try simp only [zzs] at hsE
   repeat (obtain ⟨hsx, hsE⟩ := hsE)
   repeat' first
    | (with_reducible first | refine Nx.go ?_ | refine Bk.go (fun _ => ?_) fun _ => ?_)
    | ((with_reducible first | refine NewB.mk2 fun nb hnb hnb1 hnb2 => ?_ | refine NewRow.mk2 fun nb nsp ncap hnb hncap hnb1 hnb2 => ?_); try simp only [zzn] at hnb2)
    | simp -dsimp -implicitDefEqProofs (disch := first | assumption | (simp only [zzm]; done) | omega | (try with_reducible refine Row.adr (by assumption) ?_); simp only [zzl, Nat.reduceAdd]; first | done | omega) only [go_sem, ↓reduceIte, seval, -List.reduceReplicate, List.toList_toArray, hCl, hCa, hw]
    | with_reducible refine wrong_t hsm hm O.is ?_
   rename_i b2 z1 z2 z3
   obtain ⟨b4, e40⟩ : ∃ x, x = nb := ⟨_, rfl⟩
   subst e40
   refine turned_t hsm hok (by omega) (by omega) O.is fun G1 v1 hle1 hs1 hI1 => ?_
   obtain ⟨C1, an1, al1, ay1, cn1, cl1, cs1, rs1, rfl, O1⟩ := hI1.opened
   have hC1l := O1.len
   have hone1 := wdf_one O1.is
   have hput1 := wdf_put hC1l
   have htk1 : List.take 260 C1 = C1 := List.take_of_length_le (by omega)
   have hsE := hs1
   try simp only [zzs] at hsE
   repeat (obtain ⟨hsx, hsE⟩ := hsE)
   cases ht : (turnR d m).2 with
   | true =>
    rw [revR_ok hok h1 ht] at hR
    repeat' first
     | (with_reducible first | refine Nx.go ?_ | refine Bk.go (fun _ => ?_) fun _ => ?_)
     | ((with_reducible first | refine NewB.mk2 fun nb hnb hnb1 hnb2 => ?_ | refine NewRow.mk2 fun nb nsp ncap hnb hncap hnb1 hnb2 => ?_); try simp only [zzn] at hnb2)
     | simp -dsimp -implicitDefEqProofs (disch := first | assumption | (simp only [zzm]; done) | omega | (try with_reducible refine Row.adr (by assumption) ?_); simp only [zzl, Nat.reduceAdd]; first | done | omega) only [go_sem, ↓reduceIte, seval, -List.reduceReplicate, List.toList_toArray, hCl, hCa, hC1l, hone1, hput1, htk1, zeroC_len]
    unfold UpdR
    refine Upd.leave (H' := H) (by intro fsum; simp only [zzq]; omega) ?_
    exact fun _ hs => hR G1 _ hle1 hs O1.is
   | false =>
    rw [revR_big hok h1 ht] at hR
    repeat' first
     | (with_reducible first | refine Nx.go ?_ | refine Bk.go (fun _ => ?_) fun _ => ?_)
     | ((with_reducible first | refine NewB.mk2 fun nb hnb hnb1 hnb2 => ?_ | refine NewRow.mk2 fun nb nsp ncap hnb hncap hnb1 hnb2 => ?_); try simp only [zzn] at hnb2)
     | simp -dsimp -implicitDefEqProofs (disch := first | assumption | (simp only [zzm]; done) | omega | (try with_reducible refine Row.adr (by assumption) ?_); simp only [zzl, Nat.reduceAdd]; first | done | omega) only [go_sem, ↓reduceIte, seval, -List.reduceReplicate, List.toList_toArray, hCl, hCa, hC1l, hone1, hput1, htk1, zeroC_len, zeroC_one, zeroC_take, zeroC_put]
    unfold UpdR
    refine Upd.leave (H' := H) (by intro fsum; simp only [zzq]; omega) ?_
    exact fun _ hs => hR G1 _ hle1 hs (zeroD_is _)
  ·have hw := wrongR_not hok h1
   rw [revR_not hok h1] at hR
   refine FnT.body tok [0, 1, 2, 4, 5, 6, 7, 8, 13, 23] Tryz.func8 rfl (by kernel_rfl) (by kernel_rfl) (by show _ ≤ 26; simp) fun hsep => ?_
   rw [Tryz.results8]
   have hsE := hsep
   try simp only [zzs] at hsE
   repeat (obtain ⟨hsx, hsE⟩ := hsE)
   repeat' first
    | (with_reducible first | refine Nx.go ?_ | refine Bk.go (fun _ => ?_) fun _ => ?_)
    | ((with_reducible first | refine NewB.mk2 fun nb hnb hnb1 hnb2 => ?_ | refine NewRow.mk2 fun nb nsp ncap hnb hncap hnb1 hnb2 => ?_); try simp only [zzn] at hnb2)
    | simp -dsimp -implicitDefEqProofs (disch := first | assumption | (simp only [zzm]; done) | omega | (try with_reducible refine Row.adr (by assumption) ?_); simp only [zzl, Nat.reduceAdd]; first | done | omega) only [go_sem, ↓reduceIte, seval, -List.reduceReplicate, List.toList_toArray, hCl, hCa, hw, zeroC_len, zeroC_one, zeroC_take, zeroC_put]
    | with_reducible refine wrong_t hsm hm O.is ?_
   unfold UpdR
   refine Upd.leave (H' := H) (by intro fsum; simp only [zzq]; omega) ?_
   exact fun _ hs => hR G _ (PLe.refl _) hs (zeroD_is _)
 ·have hw := wrongR_bad (most := most) hok
  rw [revR_bad hok] at hR
  refine FnT.body tok [0, 1, 2, 4, 5, 6, 7, 8, 13, 23] Tryz.func8 rfl (by kernel_rfl) (by kernel_rfl) (by show _ ≤ 26; simp) fun hsep => ?_
  rw [Tryz.results8]
  have hsE := hsep
  try simp only [zzs] at hsE
  repeat (obtain ⟨hsx, hsE⟩ := hsE)
  repeat' first
   | (with_reducible first | refine Nx.go ?_ | refine Bk.go (fun _ => ?_) fun _ => ?_)
   | ((with_reducible first | refine NewB.mk2 fun nb hnb hnb1 hnb2 => ?_ | refine NewRow.mk2 fun nb nsp ncap hnb hncap hnb1 hnb2 => ?_); try simp only [zzn] at hnb2)
   | simp -dsimp -implicitDefEqProofs (disch := first | assumption | (simp only [zzm]; done) | omega | (try with_reducible refine Row.adr (by assumption) ?_); simp only [zzl, Nat.reduceAdd]; first | done | omega) only [go_sem, ↓reduceIte, seval, -List.reduceReplicate, List.toList_toArray, hCl, hCa, hw, zeroC_len, zeroC_one, zeroC_take, zeroC_put]
   | with_reducible refine wrong_t hsm hm O.is ?_
  unfold UpdR
  refine Upd.leave (H' := H) (by intro fsum; simp only [zzq]; omega) ?_
  exact fun _ hs => hR G _ (PLe.refl _) hs (zeroD_is _)
def RevI (xs L : List UInt8) (i : Nat) : Prop := ∃ h : L.length = xs.length, ∀ p (hp : p < xs.length), L[p]'(by rw [h]; exact hp) = if p < i ∨ xs.length ≤ p + i then xs[xs.length - 1 - p]'(by omega) else xs[p]
theorem RevI.zero (xs : List UInt8) : RevI xs xs 0 := ⟨rfl, fun p hp => by rw [if_neg (by omega)]⟩
theorem RevI.done {xs L : List UInt8} {i : Nat} (h : RevI xs L i) (hi : xs.length ≤ 2 * i + 1) : L = xs.reverse := by
 obtain ⟨hl, hp⟩ := h
 apply List.ext_getElem
 ·rw [hl, List.length_reverse]
 ·intro p h1 h2
  rw [hp p (by omega), List.getElem_reverse]
  by_cases hc : p < i ∨ xs.length ≤ p + i
  ·rw [if_pos hc]
  ·rw [if_neg hc]
   congr 1
   omega
theorem RevI.step {xs L : List UInt8} {i : Nat} (h : RevI xs L i) (hi : 2 * i + 1 < xs.length) : RevI xs ((L.set i (L[xs.length - 1 - i]'(by obtain ⟨hl, _⟩ := h; omega))).set (xs.length - 1 - i) (L[i]'(by obtain ⟨hl, _⟩ := h; omega))) (i + 1) := by
 obtain ⟨hl, hp⟩ := h
 refine ⟨by rw [List.length_set, List.length_set, hl], fun p hpl => ?_⟩
 rw [List.getElem_set, List.getElem_set]
 by_cases e1 : xs.length - 1 - i = p
 ·rw [if_pos e1, hp i (by omega), if_neg (by omega), if_pos (by omega)]
  congr 1
  omega
 ·rw [if_neg e1]
  by_cases e2 : i = p
  ·rw [if_pos e2, hp (xs.length - 1 - i) (by omega), if_neg (by omega), if_pos (by omega)]
   congr 1
   omega
  ·rw [if_neg e2, hp p hpl]
   by_cases hc : p < i ∨ xs.length ≤ p + i
   ·rw [if_pos hc, if_pos (by omega)]
   ·rw [if_neg hc, if_neg (by omega)]
end Go.Proofs.YtefkpedhbijhkaaGreatDoor
namespace Go.Proofs.YtefkpedhbijhkaaGreatDoor
open Go Go.V Go.Proofs
theorem names21_t {l : List Tx} (hl : l.length ≤ 2000000) (hls : ∀ s ∈ l, s.length ≤ 2000000) {G : PHeap} {H : Heap} {R : Value → PHeap → Heap → Prop} {v : Value} (hv : Sl G str v l)
  (hR : R (.bool (boolOf (namesOk l))) G H) : FnT Tryz.prog 84 [v] G H R := by
 obtain ⟨a, c, rfl, hr, hc⟩ := hv
 refine FnT.body tok [0, 2, 3, 4, 8, 16, 19, 30] Tryz.func84 rfl (by kernel_rfl) (by kernel_rfl) (by show _ ≤ 34; simp) fun hsep => ?_
 rw [Tryz.results84]
 have hsE := hsep
 try simp only [zzs] at hsE
 repeat (obtain ⟨hsx, hsE⟩ := hsE)
 repeat' first
  | (with_reducible first | refine Nx.go ?_ | refine Bk.go (fun _ => ?_) fun _ => ?_)
  | (with_reducible refine NewB.mk2 fun nb hnb hnb1 hnb2 => ?_; try simp only [zzn] at hnb2)
  | simp -dsimp -implicitDefEqProofs (disch := first | assumption | (simp only [zzm]; done) | omega | (try with_reducible refine Row.adr (by assumption) ?_); simp only [zzl, Nat.reduceAdd]; first | done | omega) only [go_sem, ↓reduceIte, seval]
 refine Tri.loopU tok [0, 2, 3, 4, 8, 16, 19, 30] (by kernel_rfl) [0, 2, 3] (fun q G' fr H' => ∃ i : Nat, i + q = l.length ∧ (∀ j (h : j < l.length), j < i → nameB l[j] = true ∧ l[j] ∉ l.take j) ∧ G' = G ∧ H' = H ∧ fr = [(0, .slice a l.length c), (2, .bool false), (3, .int .i64 (i : Nat))]) (l.length) ?_ ?_
 ·exact Upd.now ⟨0, by omega, fun j _ h => by omega, rfl, rfl, rfl⟩
 ·rintro q G1 fr H1 hle hs ⟨i, hiq, hall, rfl, rfl, rfl⟩
  by_cases hil : i < l.length
  ·have had : Adr a := hr.adr (by rw [List.length_map]; omega)
   cases hn : nameB l[i] with
   | true =>
    repeat' first
     | (with_reducible first | refine Nx.go ?_ | refine Bk.go (fun _ => ?_) fun _ => ?_)
     | (with_reducible refine NewB.mk2 fun nb hnb hnb1 hnb2 => ?_; try simp only [zzn] at hnb2)
     | simp -dsimp -implicitDefEqProofs (disch := first | assumption | (simp only [zzm]; done) | omega | (try with_reducible refine Row.adr (by assumption) ?_); simp only [zzl, Nat.reduceAdd]; first | done | omega) only [go_sem, ↓reduceIte, seval, Row.obj hr, List.getElem_map, hn]
     | with_reducible refine rname_t _ (hls _ (List.getElem_mem hil)) ?_
    refine Tri.loopU tok [0, 2, 3, 4, 8, 16, 19, 30] (by kernel_rfl) [0, 2, 3, 4] (fun q2 G' fr H' => ∃ j : Nat, j + q2 = i ∧ (∀ k (h : k < l.length), k < j → l[k] ≠ l[i]) ∧ G' = G1 ∧ H' = H1 ∧ fr = [(0, .slice a l.length c), (2, .bool false), (3, .int .i64 (i : Nat)), (4, .int .i64 (j : Nat))]) (i) ?_ ?_
    ·exact Upd.now ⟨0, by omega, fun j _ h => by omega, rfl, rfl, rfl⟩
    ·rintro q2 G2 fr H' hle2 hs2 ⟨j, hjq, hno, rfl, rfl, rfl⟩
     by_cases hji : j < i
     ·have hjl : j < l.length := by omega
      repeat' first
       | (with_reducible first | refine Nx.go ?_ | refine Bk.go (fun _ => ?_) fun _ => ?_)
       | (with_reducible refine NewB.mk2 fun nb hnb hnb1 hnb2 => ?_; try simp only [zzn] at hnb2)
       | with_reducible refine Tri.drawH tok mixed [0, 2, 3, 4, 8, 16, 19, 30] 9 [3, 7] (.op 0 .plain (.op 1 .plain (.op 2 .plain (.op 3 .held (.op 4 .plain (.op 5 .plain (.op 6 .plain (.op 7 .held (.op 8 .plain .nil))))))))) (by kernel_rfl) [0] ?_
       | simp -dsimp -implicitDefEqProofs (disch := first | assumption | (simp only [zzm]; done) | omega | (try with_reducible refine Row.adr (by assumption) ?_); simp only [zzl, Nat.reduceAdd]; first | done | omega) only [go_sem, ↓reduceIte, seval, Row.obj hr, List.getElem_map]
      ·rename_i he
       rw [boolOf_no (p := namesOk l) fun h => (h.2 i hil).2 (by rw [List.mem_take_iff_getElem]; exact ⟨j, by omega, he⟩)] at hR
       all_goals refine Upd.finL ?_ hR ?_
       any_goals (intro fsum; first | exact Nat.le_refl _ | (simp only [zzq]; omega))
       rfl
      ·rename_i he
       exact Upd.now ⟨q2 - 1, by omega, j + 1, by omega, fun k h hk => by
        by_cases e : k = j
        ·subst e; exact he
        ·exact hno k h (by omega), rfl, rfl, rfl⟩
     ·obtain rfl : j = i := by omega
      repeat' first
       | (with_reducible first | refine Nx.go ?_ | refine Bk.go (fun _ => ?_) fun _ => ?_)
       | (with_reducible refine NewB.mk2 fun nb hnb hnb1 hnb2 => ?_; try simp only [zzn] at hnb2)
       | simp -dsimp -implicitDefEqProofs (disch := first | assumption | (simp only [zzm]; done) | omega | (try with_reducible refine Row.adr (by assumption) ?_); simp only [zzl, Nat.reduceAdd]; first | done | omega) only [go_sem, ↓reduceIte, seval]
      exact Upd.now ⟨q - 1, by omega, j + 1, by omega, fun k h hk => by
       by_cases e : k = j
       ·subst e
        refine ⟨hn, fun hm => ?_⟩
        rw [List.mem_take_iff_getElem] at hm
        obtain ⟨x, hx, hx2⟩ := hm
        exact hno x (by omega) (by omega) hx2
       ·exact hall k h (by omega), rfl, rfl, rfl⟩
   | false =>
    rw [boolOf_no (p := namesOk l) fun h => by have := (h.2 i hil).1; rw [hn] at this; cases this] at hR
    repeat' first
     | (with_reducible first | refine Nx.go ?_ | refine Bk.go (fun _ => ?_) fun _ => ?_)
     | (with_reducible refine NewB.mk2 fun nb hnb hnb1 hnb2 => ?_; try simp only [zzn] at hnb2)
     | simp -dsimp -implicitDefEqProofs (disch := first | assumption | (simp only [zzm]; done) | omega | (try with_reducible refine Row.adr (by assumption) ?_); simp only [zzl, Nat.reduceAdd]; first | done | omega) only [go_sem, ↓reduceIte, seval, Row.obj hr, List.getElem_map, hn]
     | with_reducible refine rname_t _ (hls _ (List.getElem_mem hil)) ?_
    all_goals refine Upd.finL ?_ hR ?_
    any_goals (intro fsum; first | exact Nat.le_refl _ | (simp only [zzq]; omega))
    rfl
  ·obtain rfl : i = l.length := by omega
   by_cases h64 : l.length ≤ 64
   ·rw [boolOf_yes (p := namesOk l) ⟨h64, fun j h => hall j h h⟩] at hR
    repeat' first
     | (with_reducible first | refine Nx.go ?_ | refine Bk.go (fun _ => ?_) fun _ => ?_)
     | (with_reducible refine NewB.mk2 fun nb hnb hnb1 hnb2 => ?_; try simp only [zzn] at hnb2)
     | simp -dsimp -implicitDefEqProofs (disch := first | assumption | (simp only [zzm]; done) | omega | (try with_reducible refine Row.adr (by assumption) ?_); simp only [zzl, Nat.reduceAdd]; first | done | omega) only [go_sem, ↓reduceIte, seval]
    all_goals refine Upd.finL ?_ hR ?_
    any_goals (intro fsum; first | exact Nat.le_refl _ | (simp only [zzq]; omega))
    rw [decide_eq_true (by omega)]
   ·rw [boolOf_no (p := namesOk l) fun h => h64 h.1] at hR
    repeat' first
     | (with_reducible first | refine Nx.go ?_ | refine Bk.go (fun _ => ?_) fun _ => ?_)
     | (with_reducible refine NewB.mk2 fun nb hnb hnb1 hnb2 => ?_; try simp only [zzn] at hnb2)
     | simp -dsimp -implicitDefEqProofs (disch := first | assumption | (simp only [zzm]; done) | omega | (try with_reducible refine Row.adr (by assumption) ?_); simp only [zzl, Nat.reduceAdd]; first | done | omega) only [go_sem, ↓reduceIte, seval]
    all_goals refine Upd.finL ?_ hR ?_
    any_goals (intro fsum; first | exact Nat.le_refl _ | (simp only [zzq]; omega))
    rw [decide_eq_false (by omega)]
theorem r14_t {d : DfaT} (hd : d.of.length = 256) {labs : List Int} {x : Int} {i : Nat} (hi : i ≤ 70000) (hli : labs.length = i) {G : PHeap} {H : Heap} {v1 v2 v4 v5 v7 vn vl vs : Value} {b7 : Nat} {kl : Heap} (hkl : SliceO [] 3 1 vl i (labs.map (Value.int .i64)) kl) :
  Tri Tryz.prog Tryz.f54.ntmps (piece [1, 1, 1, 1, 0, 1, 0, 0, 1, 0, 0, 1, 1] Tryz.f54) G [(1, v1), (2, v2), (4, v4), (5, v5), (6, .pointer (some ⟨b7, 0, none⟩)), (7, v7), (8, .int .i64 x)] ((b7, .cells (cellsD d vn vl vs) [] 27) :: (kl ++ H)) (onlyN fun G' fr' H' =>
   ∃ vl' kl', G' = G ∧ SliceO [] 3 1 vl' (i + 1) ((labs ++ [x]).map (Value.int .i64)) kl' ∧ restrict [1, 2, 4, 5, 6, 7] fr' = [(1, v1), (2, v2), (4, v4), (5, v5), (6, .pointer (some ⟨b7, 0, none⟩)), (7, v7)] ∧ H' = (b7, .cells (cellsD d vn vl' vs) [] 27) :: (kl' ++ H)) := by
 have hr1 : ∀ x : Value, List.replicate 1 x = [x] := fun _ => rfl
 have hl2 : ∀ a b c : Value, (cellsD d a b c).length = 260 := fun a b c => cellsD_len hd _ _ _
 have hg2 : ∀ a b c : Value, (cellsD d a b c)[258]? = some b := fun a b c => cellsD_l hd _ _ _
 have hputL : ∀ a b c x : Value, splice (cellsD d a b c) 258 [x] = cellsD d a x c := fun a b c x => cellsD_putL hd _ _ _ _
 refine Tri.sepT fun hs0 => ?_
 rcases hkl with ⟨aa, rfl, hi0, hx, rfl⟩ | ⟨bl, cc, sp, rfl, rfl, hx, hcl⟩
 ·have hsE := hs0
  try simp only [zzs] at hsE
  repeat (obtain ⟨hsx, hsE⟩ := hsE)
  refine Tri.piece (f := Tryz.f54) rfl ?_
  refine Tri.run tok [0, 1, 2, 4, 5, 6, 7, 8, 11, 15, 29, 37, 52] (by kernel_rfl) ?_
  repeat' first
   | (with_reducible first | refine Nx.go ?_ | refine Bk.go (fun _ => ?_) fun _ => ?_)
   | ((with_reducible first | refine NewB.mk2 fun nb hnb hnb1 hnb2 => ?_ | refine NewRow.mk2 fun nb nsp ncap hnb hncap hnb1 hnb2 => ?_); try simp only [zzn] at hnb2)
   | simp -dsimp -implicitDefEqProofs (disch := first | assumption | (simp only [zzm]; done) | omega | (try with_reducible refine Row.adr (by assumption) ?_); simp only [zzl, Nat.reduceAdd]; first | done | omega) only [go_sem, ↓reduceIte, seval, -List.reduceReplicate, hl2, hg2, hputL, hr1]
  refine Upd.leave (H' := (b7, .cells (cellsD d vn (.slice (some ⟨nb, 0, none⟩) 1 ncap) vs) [] 27) :: ([(nb, .cells [.int .i64 x] nsp 3)] ++ H)) (by intro fsum; simp only [zzq]; omega) ?_
  exact ⟨_, _, rfl, .inr ⟨nb, ncap, nsp, by rw [hi0], by rw [List.map_append, hx]; rfl, by rw [List.map_append, hx, hi0]; rfl, by rw [List.map_append, hx]; simp at hncap ⊢; omega⟩, rfl, rfl⟩
 ·rw [List.length_map, Nat.mul_one] at hx hcl
  have hsE := hs0
  try simp only [zzs] at hsE
  repeat (obtain ⟨hsx, hsE⟩ := hsE)
  refine Tri.piece (f := Tryz.f54) rfl ?_
  refine Tri.run tok [0, 1, 2, 4, 5, 6, 7, 8, 11, 15, 29, 37, 52] (by kernel_rfl) ?_
  repeat' first
   | (with_reducible first | refine Nx.go ?_ | refine Bk.go (fun _ => ?_) fun _ => ?_)
   | ((with_reducible first | refine NewB.mk2 fun nb hnb hnb1 hnb2 => ?_ | refine NewRow.mk2 fun nb nsp ncap hnb hncap hnb1 hnb2 => ?_); try simp only [zzn] at hnb2)
   | simp -dsimp -implicitDefEqProofs (disch := first | assumption | (simp only [zzm]; done) | omega | (try with_reducible refine Row.adr (by assumption) ?_); simp only [zzl, Nat.reduceAdd]; first | done | omega) only [go_sem, ↓reduceIte, seval, -List.reduceReplicate, hl2, hg2, hputL, hr1, List.length_map, hli]
  refine Upd.leave (H' := (b7, .cells (cellsD d vn (.slice (some ⟨nb, 0, none⟩) (i + 1) ncap) vs) [] 27) :: ([(nb, .cells (labs.map (Value.int .i64) ++ [.int .i64 x]) nsp 3)] ++ H)) (by intro fsum; simp only [zzq]; omega) ?_
  exact ⟨_, _, rfl, .inr ⟨nb, ncap, nsp, rfl, by rw [List.map_append]; rfl, by simp [hli], by simp at hncap ⊢; omega⟩, rfl, rfl⟩
theorem mem_usedS {d : DfaT} (hok : RightP d) {x : Tx} : x ∈ usedS d ↔ ∃ i, ∃ h : i < d.label.length, 0 < d.label[i] ∧ x = nameD d d.label[i] := by
 rw [← used_eq hok, mem_rUsedL _ (Nat.le_refl _)]
 constructor
 ·rintro ⟨i, h, _, h1, h2⟩; exact ⟨i, h, h1, h2⟩
 ·rintro ⟨i, h, h1, h2⟩; exact ⟨i, h, h, h1, h2⟩
theorem labW_take {d : DfaT} (g : Tx → Int) {i : Nat} (h : i < d.label.length) : (labW d g).take (i + 1) = (labW d g).take i ++ [if 0 < d.label[i] then g (nameD d d.label[i]) else 0] := by
 rw [List.take_succ_eq_append_getElem (by rw [labW_len]; exact h)]
 simp only [labW, List.getElem_map]
theorem rnames_t {d : DfaT} (hsm : SmallD d) {l : List Tx} (hl : l.length ≤ 2000000) (hls : ∀ s ∈ l, s.length ≤ 2000000) {G : PHeap} {H : Heap} {R : Value → PHeap → Heap → Prop} {v w : Value} (hv : IsD G d v) (hw : Sl G str w l)
  (hR : ∀ G' v', PLe G G' → Sep G' (keys H) → IsD G' (namesR d l).1 v' → R (.tuple #[v', .int .i64 (namesR d l).2]) G' H) : FnT Tryz.prog 54 [v, w] G H R := by
 obtain ⟨C, an, al, ay, cn, cl, cs, rs, rfl, O⟩ := hv.opened
 obtain ⟨hm1, hm2, hm3, hm4, hm5⟩ := id hsm
 have hCl := O.len
 have hCa := O.all
 have hCw := O.w
 have hCn := O.n
 have hCx := O.l
 have hCs := O.s
 have hCo := O.of
 have hw0 := hw
 obtain ⟨aw, cw, rfl, hrw, hcw⟩ := hw
 have hofl : (u8L d.of).length = 256 := by rw [List.length_map, O.ofl]
 have hb1 := build_of O.ofl
 have hb2 := build_w O.ofl
 have hl1 : (u8L d.of ++ [Value.int .i64 0, Value.slice none 0 0, Value.slice none 0 0, Value.slice none 0 0]).length = 260 := by rw [List.length_append, hofl]; rfl
 have hl2 : ∀ a b c : Value, (cellsD d a b c).length = 260 := fun a b c => cellsD_len O.ofl _ _ _
 have ht2 : ∀ a b c : Value, List.take 260 (cellsD d a b c) = cellsD d a b c := fun a b c => cellsD_all O.ofl _ _ _
 have hputN : ∀ a b c x : Value, splice (cellsD d a b c) 257 [x] = cellsD d x b c := fun a b c x => cellsD_putN O.ofl _ _ _ _
 have hputS : ∀ a b c x : Value, splice (cellsD d a b c) 259 [x] = cellsD d a b x := fun a b c x => build_s O.ofl _ _ _ _
 have hputz : ∀ a b c : Value, splice zeroC 0 (cellsD d a b c) = cellsD d a b c := fun a b c => by
  unfold splice
  rw [List.take_zero, List.nil_append, List.drop_of_length_le (by rw [zeroC_len, hl2]; omega), List.append_nil]
 have hone : ∀ (a a' a'' : Option Addr) (n c n' c' n'' c'' : Nat), (cellsD d (.slice a n c) (.slice a' n' c') (.slice a'' n'' c'')).all oneV = true := fun a a' a'' n c n' c' n'' c'' => cellsD_one rfl rfl rfl
 refine FnT.sep ?_
 by_cases hok : RightP d
 ·have hb := boolOf_yes hok
  obtain ⟨hk1, hk2, hk3, hk4, hk5, hk6, hk7⟩ := id hok
  by_cases hf : namesOk l
  ·have hbf := boolOf_yes hf
   refine FnT.body tok [0, 1, 2, 4, 5, 6, 7, 8, 11, 15, 29, 37, 52] Tryz.func54 rfl (by kernel_rfl) (by kernel_rfl) (by show _ ≤ 61; simp) fun hsep => ?_
   rw [Tryz.results54]
   have hsE := hsep
   try simp only [zzs] at hsE
   repeat (obtain ⟨hsx, hsE⟩ := hsE)
   repeat' first
    | (with_reducible first | refine Nx.go ?_ | refine Bk.go (fun _ => ?_) fun _ => ?_)
    | ((with_reducible first | refine NewB.mk2 fun nb hnb hnb1 hnb2 => ?_ | refine NewRow.mk2 fun nb nsp ncap hnb hncap hnb1 hnb2 => ?_); try simp only [zzn] at hnb2)
    | simp -dsimp -implicitDefEqProofs (disch := first | assumption | (simp only [zzm]; done) | omega | (try with_reducible refine Row.adr (by assumption) ?_); simp only [zzl, Nat.reduceAdd]; first | done | omega) only [go_sem, ↓reduceIte, seval, -List.reduceReplicate, List.toList_toArray, hCl, hCa, zeroC_len, zeroC_one, zeroC_take, zeroC_put, hb, hbf, hCw, hCn, hCo, hofl, hb1, hb2, hl1, hl2, hputN, hputS, hputz, hone]
    | ((with_reducible refine rright_t hsm O.is fun G2 hle2 hs2 => ?_); (have hsE := hs2; try simp only [zzs] at hsE; repeat (obtain ⟨hsx, hsE⟩ := hsE)))
    | with_reducible refine names21_t hl hls (hw0.mono hle2) ?_
   rename_i b2 z1 z2 z3 b4 z4 z5 z6 z7 z8 z9 z10
   obtain ⟨b6, e0⟩ : ∃ x, x = nb := ⟨_, rfl⟩
   subst e0
   obtain ⟨g, hg⟩ : ∃ g : Tx → Int, g = fun s => findF l s + 1 := ⟨_, rfl⟩
   have hwn : withN d l = withD d l g := by rw [hg]; rfl
   have hok1 : (∀ j (h : j < d.label.length), 0 < d.label[j] → nameD d d.label[j] ∈ l) → namesR d l = (withN d l, 0) := fun h => namesR_ok hok hf fun s hs => by
    obtain ⟨i, hi, h1, rfl⟩ := (mem_usedS hok).1 hs
    exact h i hi h1
   have hno1 : ∀ j (h : j < d.label.length), 0 < d.label[j] → nameD d d.label[j] ∉ l → namesR d l = (zeroD, 5) := fun j h h1 h2 => namesR_none hok hf fun h3 => h2 (h3 _ ((mem_usedS hok).2 ⟨j, h, h1, rfl⟩))
   have O2 := OpenD.mono hle2 O
   refine Tri.loopS tok [0, 1, 2, 4, 5, 6, 7, 8, 11, 15, 29, 37, 52] (.seq .run (.seq (.block (.seq .run (.seq .run .cut))) .cut)) (by kernel_rfl) [1, 2, 4, 5, 6, 7] (fun q G' fr H' => ∃ (i : Nat) (vl : Value) (kl : Heap), i + q = d.label.length ∧ (∀ j (h : j < d.label.length), j < i → 0 < d.label[j] → nameD d d.label[j] ∈ l) ∧ G' = G2 ∧ SliceO [] 3 1 vl i (((labW d g).take i).map (Value.int .i64)) kl ∧ H' = (b6, .cells (cellsD d (.slice an d.next.length cn) vl (.slice aw l.length cw)) [] 27) :: (b2, .cells C [] 27) :: (b4, .cells zeroC [] 27) :: (kl ++ H) ∧ fr = [(1, .slice aw l.length cw), (2, .pointer (some ⟨b2, 0, none⟩)), (4, .pointer (some ⟨b4, 0, none⟩)), (5, .int .i64 0), (6, .pointer (some ⟨b6, 0, none⟩)), (7, .int .i64 (i : Nat))]) (d.label.length) ?_ ?_
   ·exact Upd.go (H' := (b6, .cells (cellsD d (.slice an d.next.length cn) (.slice none 0 0) (.slice aw l.length cw)) [] 27) :: (b2, .cells C [] 27) :: (b4, .cells (List.replicate 256 (Value.int .u8 0) ++ [Value.int .i64 0, Value.slice none 0 0, Value.slice none 0 0, Value.slice none 0 0]) [] 27) :: ([] ++ H)) (by intro fsum; simp only [zzq]; omega) (Upd.now ⟨0, _, [], by omega, fun j _ h => by omega, rfl, .inl ⟨none, rfl, rfl, rfl, rfl⟩, rfl, rfl⟩)
   ·rintro q G3 fr H3 hle3 hs3 ⟨i, vl, kl, hiq, hall, rfl, hkl, rfl, rfl⟩
    have hsE := hs3
    try simp only [zzs] at hsE
    repeat (obtain ⟨hsx, hsE⟩ := hsE)
    by_cases hil : i < d.label.length
    ·have hadl : Adr al := O2.rl.adr (by rw [List.length_map]; omega)
     obtain ⟨_, w2, w3, _⟩ := hk7 i (by omega) hil
     have hlx := labW_take g hil
     by_cases h0 : 0 < d.label[i]
     ·rw [if_pos h0] at hlx
      obtain ⟨n, hn⟩ : ∃ n : Nat, d.label[i] = (n : Int) + 1 := ⟨(d.label[i] - 1).toNat, by omega⟩
      have hnl2 : n < d.names.length := by omega
      have hnn := nameD_at hnl2
      have hmn := hno1 i hil h0
      rw [hn, hnn] at hlx hmn
      have hady : Adr ay := O2.ry.adr (by rw [List.length_map]; omega)
      have hsub : ((n : Int) + 1) - 1 = (n : Nat) := by omega
      by_cases hm : d.names[n] ∈ l
      ·have hgn : g d.names[n] = findF l d.names[n] + 1 := by rw [hg]
       have hp := findF_mem.2 hm
       have hpl : findF l d.names[n] ≤ 2000000 := by
        obtain ⟨k, hk⟩ := place_mem hm
        have := (place_some hk).1
        rw [findF_some hk]; omega
       rw [hgn] at hlx
       repeat' first
        | (with_reducible first | refine Nx.go ?_ | refine Bk.go (fun _ => ?_) fun _ => ?_)
        | ((with_reducible first | refine NewB.mk2 fun nb hnb hnb1 hnb2 => ?_ | refine NewRow.mk2 fun nb nsp ncap hnb hncap hnb1 hnb2 => ?_); try simp only [zzn] at hnb2)
        | simp -dsimp -implicitDefEqProofs (disch := first | assumption | (simp only [zzm]; done) | omega | (try with_reducible refine Row.adr (by assumption) ?_); simp only [zzl, Nat.reduceAdd]; first | done | omega) only [go_sem, ↓reduceIte, seval, -List.reduceReplicate, List.toList_toArray, hCl, hCx, hCs, Row.obj O2.rl, Row.obj O2.ry, List.getElem_map, hn, hsub]
        | with_reducible refine Tri.drawS tok mixed [0, 1, 2, 4, 5, 6, 7, 8, 11, 15, 29, 37, 52] 11 [2, 4, 7, 10] (.op 0 .plain (.op 1 .plain (.op 2 .held (.op 3 .plain (.op 4 .held (.op 5 .plain (.op 6 .plain (.op 7 .held (.op 8 .plain (.op 9 .plain (.op 10 .held (.op 11 .keeps (.op 12 .plain (.op 13 .plain .nil)))))))))))))) (by kernel_rfl) [(b2, .cells C [] 27)] (by intro fsum; first | exact Nat.le_refl _ | (simp only [zzq]; omega)) ?_
        | with_reducible refine place22_t l _ (by omega) (hw0.mono hle2) ?_
       all_goals try (exfalso; omega)
       refine Tri.upd (Upd.go (H' := (b6, .cells (cellsD d (.slice an d.next.length cn) vl (.slice aw l.length cw)) [] 27) :: (kl ++ ((b2, .cells C [] 27) :: (b4, .cells zeroC [] 27) :: H))) (by intro fsum; simp only [zzq]; omega) (Upd.now ?_))
       refine Tri.live [1, 2, 4, 5, 6, 7, 8] ?_
       refine Tri.isPiece [1, 1, 1, 1, 0, 1, 0, 0, 1, 0, 0, 1, 1] Tryz.f54 (by kernel_rfl) ?_
       refine Tri.onlyN (r14_t (labs := (labW d g).take i) (x := findF l d.names[n] + 1) O.ofl (i := i) (by omega) (by rw [List.length_take, labW_len]; omega) hkl) fun G5 l5 H5 hle5 hs5 hM5 => ?_
       obtain ⟨vl', kl', rfl, hkl', hfr5, rfl⟩ := hM5
       simp only [go_sem]
       refine Tri.live [1, 2, 4, 5, 6, 7] ?_
       rw [hfr5]
       refine Tri.run tok [0, 1, 2, 4, 5, 6, 7, 8, 11, 15, 29, 37, 52] (by kernel_rfl) ?_
       repeat' first
        | (with_reducible first | refine Nx.go ?_ | refine Bk.go (fun _ => ?_) fun _ => ?_)
        | ((with_reducible first | refine NewB.mk2 fun nb hnb hnb1 hnb2 => ?_ | refine NewRow.mk2 fun nb nsp ncap hnb hncap hnb1 hnb2 => ?_); try simp only [zzn] at hnb2)
        | simp -dsimp -implicitDefEqProofs (disch := first | assumption | (simp only [zzm]; done) | omega | (try with_reducible refine Row.adr (by assumption) ?_); simp only [zzl, Nat.reduceAdd]; first | done | omega) only [go_sem, ↓reduceIte, seval, -List.reduceReplicate]
       rw [← hlx] at hkl'
       refine Upd.leave (H' := (b6, .cells (cellsD d (.slice an d.next.length cn) vl' (.slice aw l.length cw)) [] 27) :: (b2, .cells C [] 27) :: (b4, .cells zeroC [] 27) :: (kl' ++ H)) (by intro fsum; simp only [zzq]; omega) ?_
       exact ⟨q - 1, by omega, i + 1, vl', kl', by omega, (fun j h hj h1 => if e : j = i then (by subst e; rw [hn, hnn]; exact hm) else hall j h (by omega) h1), rfl, hkl', rfl, rfl⟩
      ·have hp : ¬ 0 ≤ findF l d.names[n] := fun h => hm (findF_mem.1 h)
       have hp1 : findF l d.names[n] = -1 := by
        cases hk : place l d.names[n] with
        | none => exact findF_none hk
        | some k => rw [findF_some hk] at hp; omega
       rw [hmn hm] at hR
       repeat' first
        | (with_reducible first | refine Nx.go ?_ | refine Bk.go (fun _ => ?_) fun _ => ?_)
        | ((with_reducible first | refine NewB.mk2 fun nb hnb hnb1 hnb2 => ?_ | refine NewRow.mk2 fun nb nsp ncap hnb hncap hnb1 hnb2 => ?_); try simp only [zzn] at hnb2)
        | simp -dsimp -implicitDefEqProofs (disch := first | assumption | (simp only [zzm]; done) | omega | (try with_reducible refine Row.adr (by assumption) ?_); simp only [zzl, Nat.reduceAdd]; first | done | omega) only [go_sem, ↓reduceIte, seval, -List.reduceReplicate, List.toList_toArray, hCl, hCx, hCs, Row.obj O2.rl, Row.obj O2.ry, List.getElem_map, hn, hsub, hp1, zeroC_len, zeroC_one, zeroC_take, zeroC_put]
        | with_reducible refine Tri.drawS tok mixed [0, 1, 2, 4, 5, 6, 7, 8, 11, 15, 29, 37, 52] 11 [2, 4, 7, 10] (.op 0 .plain (.op 1 .plain (.op 2 .held (.op 3 .plain (.op 4 .held (.op 5 .plain (.op 6 .plain (.op 7 .held (.op 8 .plain (.op 9 .plain (.op 10 .held (.op 11 .keeps (.op 12 .plain (.op 13 .plain .nil)))))))))))))) (by kernel_rfl) [(b2, .cells C [] 27)] (by intro fsum; first | exact Nat.le_refl _ | (simp only [zzq]; omega)) ?_
        | with_reducible refine place22_t l _ (by omega) (hw0.mono hle2) ?_
       unfold UpdR
       refine Upd.leave (H' := H) (by intro fsum; simp only [zzq]; omega) ?_
       exact fun _ hs => hR G3 _ hle2 hs (zeroD_is _)
     ·rw [if_neg h0] at hlx
      repeat' first
       | (with_reducible first | refine Nx.go ?_ | refine Bk.go (fun _ => ?_) fun _ => ?_)
       | ((with_reducible first | refine NewB.mk2 fun nb hnb hnb1 hnb2 => ?_ | refine NewRow.mk2 fun nb nsp ncap hnb hncap hnb1 hnb2 => ?_); try simp only [zzn] at hnb2)
       | simp -dsimp -implicitDefEqProofs (disch := first | assumption | (simp only [zzm]; done) | omega | (try with_reducible refine Row.adr (by assumption) ?_); simp only [zzl, Nat.reduceAdd]; first | done | omega) only [go_sem, ↓reduceIte, seval, -List.reduceReplicate, List.toList_toArray, hCl, hCx, Row.obj O2.rl, List.getElem_map]
      refine Tri.upd (Upd.go (H' := (b6, .cells (cellsD d (.slice an d.next.length cn) vl (.slice aw l.length cw)) [] 27) :: (kl ++ ((b2, .cells C [] 27) :: (b4, .cells zeroC [] 27) :: H))) (by intro fsum; simp only [zzq]; omega) (Upd.now ?_))
      refine Tri.live [1, 2, 4, 5, 6, 7, 8] ?_
      refine Tri.isPiece [1, 1, 1, 1, 0, 1, 0, 0, 1, 0, 0, 1, 1] Tryz.f54 (by kernel_rfl) ?_
      refine Tri.onlyN (r14_t (labs := (labW d g).take i) (x := 0) O.ofl (i := i) (by omega) (by rw [List.length_take, labW_len]; omega) hkl) fun G5 l5 H5 hle5 hs5 hM5 => ?_
      obtain ⟨vl', kl', rfl, hkl', hfr5, rfl⟩ := hM5
      simp only [go_sem]
      refine Tri.live [1, 2, 4, 5, 6, 7] ?_
      rw [hfr5]
      refine Tri.run tok [0, 1, 2, 4, 5, 6, 7, 8, 11, 15, 29, 37, 52] (by kernel_rfl) ?_
      repeat' first
       | (with_reducible first | refine Nx.go ?_ | refine Bk.go (fun _ => ?_) fun _ => ?_)
       | ((with_reducible first | refine NewB.mk2 fun nb hnb hnb1 hnb2 => ?_ | refine NewRow.mk2 fun nb nsp ncap hnb hncap hnb1 hnb2 => ?_); try simp only [zzn] at hnb2)
       | simp -dsimp -implicitDefEqProofs (disch := first | assumption | (simp only [zzm]; done) | omega | (try with_reducible refine Row.adr (by assumption) ?_); simp only [zzl, Nat.reduceAdd]; first | done | omega) only [go_sem, ↓reduceIte, seval, -List.reduceReplicate]
      rw [← hlx] at hkl'
      refine Upd.leave (H' := (b6, .cells (cellsD d (.slice an d.next.length cn) vl' (.slice aw l.length cw)) [] 27) :: (b2, .cells C [] 27) :: (b4, .cells zeroC [] 27) :: (kl' ++ H)) (by intro fsum; simp only [zzq]; omega) ?_
      exact ⟨q - 1, by omega, i + 1, vl', kl', by omega, (fun j h hj h1 => if e : j = i then absurd (by subst e; exact h1) h0 else hall j h (by omega) h1), rfl, hkl', rfl, rfl⟩
    ·obtain rfl : i = d.label.length := by omega
     rcases hkl with ⟨_, _, h0, _, _⟩ | ⟨bl, cl2, spl, rfl, rfl, hy, hyc⟩
     ·omega
     rw [List.take_of_length_le (by rw [labW_len]; exact Nat.le_refl _)] at hs3 hy hyc ⊢
     rw [List.length_map, Nat.mul_one, labW_len] at hyc
     rw [hok1 fun j h => hall j h h, hwn] at hR
     have hsE := hs3
     try simp only [zzs] at hsE
     repeat (obtain ⟨hsx, hsE⟩ := hsE)
     repeat' first
      | (with_reducible first | refine Nx.go ?_ | refine Bk.go (fun _ => ?_) fun _ => ?_)
      | ((with_reducible first | refine NewB.mk2 fun nb hnb hnb1 hnb2 => ?_ | refine NewRow.mk2 fun nb nsp ncap hnb hncap hnb1 hnb2 => ?_); try simp only [zzn] at hnb2)
      | simp -dsimp -implicitDefEqProofs (disch := first | assumption | (simp only [zzm]; done) | omega | (try with_reducible refine Row.adr (by assumption) ?_); simp only [zzl, Nat.reduceAdd]; first | done | omega) only [go_sem, ↓reduceIte, seval, -List.reduceReplicate, List.toList_toArray, hCl, hCx, hl2, ht2, hputz, hone, zeroC_len]
     unfold UpdR
     refine Upd.go (H' := (bl, .cells ((labW d g).map (Value.int .i64)) spl 3) :: H) (by intro fsum; simp only [zzq]; omega) (Upd.shareRow (by assumption) fun G9 hle9 hs9 hr9 => ?_)
     exact fun _ hs => hR G9 _ (hle2.trans hle9) hs ⟨O.ofl, O.ofb, _, _, _, rfl, ⟨an, cn, rs, rfl, O2.rn.mono hle9, O2.rnl, O2.rnc, fun i h h2 => (by
      obtain ⟨b, c, e1, e2, e3⟩ := O2.rs i h h2
      exact ⟨b, c, e1, e2.mono hle9, e3⟩)⟩, ⟨_, cl2, by show Value.slice _ _ _ = Value.slice _ (labW d g).length _; rw [labW_len], hr9, by show (labW d g).length ≤ _; rw [labW_len]; omega⟩, hw0.mono (hle2.trans hle9)⟩
  ·have hbf := boolOf_no hf
   rw [namesR_not hok hf] at hR
   refine FnT.body tok [0, 1, 2, 4, 5, 6, 7, 8, 11, 15, 29, 37, 52] Tryz.func54 rfl (by kernel_rfl) (by kernel_rfl) (by show _ ≤ 61; simp) fun hsep => ?_
   rw [Tryz.results54]
   have hsE := hsep
   try simp only [zzs] at hsE
   repeat (obtain ⟨hsx, hsE⟩ := hsE)
   repeat' first
    | (with_reducible first | refine Nx.go ?_ | refine Bk.go (fun _ => ?_) fun _ => ?_)
    | ((with_reducible first | refine NewB.mk2 fun nb hnb hnb1 hnb2 => ?_ | refine NewRow.mk2 fun nb nsp ncap hnb hncap hnb1 hnb2 => ?_); try simp only [zzn] at hnb2)
    | simp -dsimp -implicitDefEqProofs (disch := first | assumption | (simp only [zzm]; done) | omega | (try with_reducible refine Row.adr (by assumption) ?_); simp only [zzl, Nat.reduceAdd]; first | done | omega) only [go_sem, ↓reduceIte, seval, -List.reduceReplicate, List.toList_toArray, hCl, hCa, zeroC_len, zeroC_one, zeroC_take, zeroC_put, hb, hbf]
    | ((with_reducible refine rright_t hsm O.is fun G2 hle2 hs2 => ?_); (have hsE := hs2; try simp only [zzs] at hsE; repeat (obtain ⟨hsx, hsE⟩ := hsE)))
    | with_reducible refine names21_t hl hls (hw0.mono hle2) ?_
   unfold UpdR
   refine Upd.leave (H' := H) (by intro fsum; first | exact Nat.le_refl _ | (simp only [zzq]; omega)) ?_
   exact fun _ hs => hR G2 _ hle2 hs (zeroD_is _)
 ·have hb := boolOf_no hok
  rw [namesR_bad hok] at hR
  refine FnT.body tok [0, 1, 2, 4, 5, 6, 7, 8, 11, 15, 29, 37, 52] Tryz.func54 rfl (by kernel_rfl) (by kernel_rfl) (by show _ ≤ 61; simp) fun hsep => ?_
  rw [Tryz.results54]
  have hsE := hsep
  try simp only [zzs] at hsE
  repeat (obtain ⟨hsx, hsE⟩ := hsE)
  repeat' first
   | (with_reducible first | refine Nx.go ?_ | refine Bk.go (fun _ => ?_) fun _ => ?_)
   | ((with_reducible first | refine NewB.mk2 fun nb hnb hnb1 hnb2 => ?_ | refine NewRow.mk2 fun nb nsp ncap hnb hncap hnb1 hnb2 => ?_); try simp only [zzn] at hnb2)
   | simp -dsimp -implicitDefEqProofs (disch := first | assumption | (simp only [zzm]; done) | omega | (try with_reducible refine Row.adr (by assumption) ?_); simp only [zzl, Nat.reduceAdd]; first | done | omega) only [go_sem, ↓reduceIte, seval, -List.reduceReplicate, List.toList_toArray, hCl, hCa, zeroC_len, zeroC_one, zeroC_take, zeroC_put, hb]
   | ((with_reducible refine rright_t hsm O.is fun G2 hle2 hs2 => ?_); (have hsE := hs2; try simp only [zzs] at hsE; repeat (obtain ⟨hsx, hsE⟩ := hsE)))
  unfold UpdR
  refine Upd.leave (H' := H) (by intro fsum; first | exact Nat.le_refl _ | (simp only [zzq]; omega)) ?_
  exact fun _ hs => hR G2 _ hle2 hs (zeroD_is _)
theorem rnorm22_t {d : DfaT} (hsm : SmallD d) {G : PHeap} {H : Heap} {R : Value → PHeap → Heap → Prop} {v : Value} (hv : IsD G d v)
  (hR : ∀ G' v', PLe G G' → Sep G' (keys H) → IsD G' (normR d).1 v' → R (.tuple #[v', .int .i64 (normR d).2]) G' H) : FnT Tryz.prog 29 [v] G H R := by
 obtain ⟨C, an, al, ay, cn, cl, cs, rs, rfl, O⟩ := hv.opened
 have hCl := O.len
 have hCa := O.all
 obtain ⟨hu1, hu2⟩ := usedR_small hsm
 refine FnT.sep ?_
 refine FnT.body tok [0, 1, 2, 3] Tryz.func29 rfl (by kernel_rfl) (by kernel_rfl) (by show _ ≤ 10; simp) fun hsep => ?_
 rw [Tryz.results29]
 have hsE := hsep
 try simp only [zzs] at hsE
 repeat (obtain ⟨hsx, hsE⟩ := hsE)
 repeat' first
  | (with_reducible first | refine Nx.go ?_ | refine Bk.go (fun _ => ?_) fun _ => ?_)
  | (with_reducible refine NewB.mk2 fun nb hnb hnb1 hnb2 => ?_; try simp only [zzn] at hnb2)
  | simp -dsimp -implicitDefEqProofs (disch := first | assumption | (simp only [zzm]; done) | omega | (try with_reducible refine Row.adr (by assumption) ?_); simp only [zzl, Nat.reduceAdd]; first | done | omega) only [go_sem, ↓reduceIte, seval, -List.reduceReplicate, List.toList_toArray, hCl, hCa]
  | with_reducible refine Tri.drawH tok mixed [0, 1, 2, 3] 1 [0, 1] (.op 0 .held (.op 1 .held (.op 2 .keeps (.op 3 .keeps (.op 4 .plain (.op 5 .plain (.op 6 .plain (.op 7 .plain .nil)))))))) (by kernel_rfl) [1] ?_
 rename_i b1 h10 h11 h12
 obtain ⟨b2, e0⟩ : ∃ x, x = nb := ⟨_, rfl⟩
 subst e0
 refine rused_t hsm O.is fun G3 v3 hle3 hs3 hsl3 => ?_
 have hsE := hs3
 try simp only [zzs] at hsE
 repeat (obtain ⟨hsx, hsE⟩ := hsE)
 repeat' first
  | (with_reducible first | refine Nx.go ?_ | refine Bk.go (fun _ => ?_) fun _ => ?_)
  | (with_reducible refine NewB.mk2 fun nb hnb hnb1 hnb2 => ?_; try simp only [zzn] at hnb2)
  | simp -dsimp -implicitDefEqProofs (disch := first | assumption | (simp only [zzm]; done) | omega | (try with_reducible refine Row.adr (by assumption) ?_); simp only [zzl, Nat.reduceAdd]; first | done | omega) only [go_sem, ↓reduceIte, seval, -List.reduceReplicate, List.toList_toArray, hCl, hCa]
 refine rnames_t hsm hu1 hu2 (O.is.mono hle3) hsl3 fun G5 v5 hle5 hs5 hI5 => ?_
 obtain ⟨C5, an5, al5, ay5, cn5, cl5, cs5, rs5, rfl, O5⟩ := hI5.opened
 have hC5l := O5.len
 have hone5 := wdf_one O5.is
 have hput5 := wdf_put hC5l
 have htk5 : List.take 260 C5 = C5 := List.take_of_length_le (by omega)
 have hsE := hs5
 try simp only [zzs] at hsE
 repeat (obtain ⟨hsx, hsE⟩ := hsE)
 repeat' first
  | (with_reducible first | refine Nx.go ?_ | refine Bk.go (fun _ => ?_) fun _ => ?_)
  | (with_reducible refine NewB.mk2 fun nb hnb hnb1 hnb2 => ?_; try simp only [zzn] at hnb2)
  | simp -dsimp -implicitDefEqProofs (disch := first | assumption | (simp only [zzm]; done) | omega | (try with_reducible refine Row.adr (by assumption) ?_); simp only [zzl, Nat.reduceAdd]; first | done | omega) only [go_sem, ↓reduceIte, seval, -List.reduceReplicate, List.toList_toArray, hC5l, hone5, hput5, htk5, zeroC_len]
 unfold UpdR
 refine Upd.leave (H' := H) (by intro fsum; first | exact Nat.le_refl _ | (simp only [zzq]; omega)) ?_
 exact fun _ hs => hR G5 _ (hle3.trans hle5) hs O5.is
end Go.Proofs.YtefkpedhbijhkaaGreatDoor
namespace Go.Proofs.YtefkpedhbijhkaaGreatDoor
open Go Go.V Go.Proofs
theorem FnT.apart {f : FuncId} {fn : Func} {tS tR e e1 : TypeId} (hf : (Tryz.prog).funcs[f]? = some fn) (hname : (fn.name == "runtime.NumGoroutine") = false) (hb : fn.body.isNone = true) (hn : Extern.findNext fn = none) (he : Extern.find fn = some (Extern.SlicesOverlaps.overlaps #[tS, tS] #[tR])) (hk : (T tS).k = .slice e) (hk2 : (T e).k ≠ .none)
  {a b la ca lb cb o : Nat} {xs sp ys sp' : List Value} {e2 : TypeId} {G : PHeap} {H : Heap} {R : Value → PHeap → Heap → Prop} (ha : findH H a = some (.cells xs sp e1)) (h5 : e1 ≠ 5) (hbb : findH H b = some (.cells ys sp' e2)) (hne : a ≠ b) (hl : ys.length + sp'.length ≠ 0) (hR : R (.bool false) G H) :
  FnT Tryz.prog f [.slice (some ⟨a, 0, none⟩) la ca, .slice (some ⟨b, o, none⟩) lb cb] G H R := by
 refine FnT.ext (v := .bool false) (fun E w hw => ?_) hR
 obtain ⟨d, hd, hfit⟩ := tok.und hk (by simp)
 simp only [TK.fits] at hfit
 subst hfit
 obtain ⟨i, z, hi, hs, _⟩ := tok.info hk2
 obtain ⟨o1, ho1, fr1, rfl, hm1⟩ := hw.find ha
 obtain ⟨o2, ho2, fr2, rfl, hm2⟩ := hw.find hbb
 have hfr : fr1 = (0, 0) := by
  rcases hm1 with h | ⟨_, h⟩
  ·exact h
  ·exact absurd h h5
 subst hfr
 have key := Lib.run_overlaps_apart (P := Tryz.prog) w tS tR e hd ((Tryz.prog).cellsOf e) (fun w => run_sizeOf w hi) ⟨a, 0, none⟩ ⟨b, o, none⟩ la ca lb cb hne e1 e2 (xs ++ sp).length (ys ++ sp').length (by simp [World.shape?, ho1]) (by simp [World.shape?, ho2]) (by simpa using hl) (by simp [World.frozen?, ho1]) (by simp [World.frozen?, ho1])
 have h1 := run_callFunc_extern hf hname hb hn he #[.slice (some ⟨a, 0, none⟩) la ca, .slice (some ⟨b, o, none⟩) lb cb] w
 exact h1.trans (by rw [key]; rfl)
end Go.Proofs.YtefkpedhbijhkaaGreatDoor
namespace Go.Proofs.YtefkpedhbijhkaaGreatDoor
open Go Go.V Go.Proofs
theorem labW_same {d : DfaT} (hok : RightP d) : labW d (fun s => findF d.names s + 1) = d.label := by
 obtain ⟨hk1, hk2, hk3, hk4, hk5, hk6, hk7⟩ := id hok
 unfold labW
 conv => rhs; rw [← List.map_id d.label]
 refine List.map_congr_left fun k hk => ?_
 obtain ⟨i, hi, rfl⟩ := List.getElem_of_mem hk
 obtain ⟨_, w2, w3, _⟩ := hk7 i (by omega) hi
 by_cases h0 : 0 < d.label[i]
 ·rw [if_pos h0]
  obtain ⟨n, hn⟩ : ∃ n : Nat, d.label[i] = (n : Int) + 1 := ⟨(d.label[i] - 1).toNat, by omega⟩
  have hnl2 : n < d.names.length := by omega
  rw [hn, nameD_at hnl2]
  show findF d.names d.names[n] + 1 = (n : Int) + 1
  rw [findF_some (place_get (names_nodup hok) hnl2)]
 ·rw [if_neg h0]
  show 0 = d.label[i]
  omega
theorem withD_same {d : DfaT} (hok : RightP d) : withD d d.names (fun s => findF d.names s + 1) = d := by
 unfold withD
 rw [labW_same hok]
end Go.Proofs.YtefkpedhbijhkaaGreatDoor
namespace Go.Proofs.YtefkpedhbijhkaaGreatDoor
open Go Go.V Go.Proofs
end Go.Proofs.YtefkpedhbijhkaaGreatDoor
namespace Go.Proofs.YtefkpedhbijhkaaGreatDoor
open Go Go.V Go.Proofs
theorem zeroD_small : SmallD zeroD := by
 refine ⟨Nat.zero_le _, ?_, Nat.zero_le _, Nat.zero_le _, ?_⟩
 ·intro r hr; cases hr
 ·intro r hr; cases hr
theorem namesR_small {d : DfaT} (hsm : SmallD d) {l : List Tx} (h1 : l.length ≤ 2000000) (h2 : ∀ s ∈ l, s.length ≤ 2000000) : SmallD (namesR d l).1 := by
 unfold namesR
 split
 ·split
  ·split
   ·exact withD_small hsm h1 h2 _
   ·exact zeroD_small
  ·exact zeroD_small
 ·exact zeroD_small
theorem normR_small {d : DfaT} (hsm : SmallD d) : SmallD (normR d).1 := namesR_small hsm (usedR_small hsm).1 (usedR_small hsm).2
theorem names_of {l : List Tx} (h1 : l.length ≤ 64) (h2 : l.Nodup) (h3 : ∀ s ∈ l, nameB s = true) : namesOk l := by
 refine ⟨h1, fun i hi => ⟨h3 _ (List.getElem_mem hi), fun hm => ?_⟩⟩
 rw [List.mem_take_iff_getElem] at hm
 obtain ⟨j, hj, e⟩ := hm
 have := (List.getElem_inj h2).1 e
 omega
theorem names_name {l : List Tx} (h : namesOk l) {s : Tx} (hs : s ∈ l) : nameB s = true := by
 obtain ⟨i, hi, rfl⟩ := List.getElem_of_mem hs
 exact (h.2 i hi).1
theorem mem_usedS' {d : DfaT} (hok : RightP d) {s : Tx} (h : s ∈ usedS d) : s ∈ d.names := mem_usedR (by rw [usedR_ok hok]; exact h)
theorem usedS_rising {d : DfaT} (hok : RightP d) : Rising (usedS d) := by
 rw [← used_eq hok]
 exact rUsedL_rising d _ (Nat.le_refl _)
theorem usedS_names {d : DfaT} (hok : RightP d) : namesOk (usedS d) := by
 have h6 := hok.2.2.2.2.2.1
 have := usedS_len d
 exact names_of (by have := h6.1; omega) (usedS_rising hok).nodup fun s hs => names_name h6 (mem_usedS' hok hs)
def other : Tx := [111, 116, 104, 101, 114]
theorem nameD_mem {d : DfaT} (hok : RightP d) {i : Nat} (hi : i < d.label.length) (h0 : 0 < d.label[i]) : nameD d d.label[i] ∈ d.names := by
 obtain ⟨hk1, hk2, hk3, hk4, hk5, hk6, hk7⟩ := hok
 obtain ⟨_, w2, w3, _⟩ := hk7 i (by omega) hi
 obtain ⟨n, hn⟩ : ∃ n : Nat, d.label[i] = (n : Int) + 1 := ⟨(d.label[i] - 1).toNat, by omega⟩
 have hnl2 : n < d.names.length := by omega
 rw [hn, nameD_at hnl2]
 exact List.getElem_mem hnl2
theorem withD_right {d : DfaT} (hok : RightP d) {l : List Tx} (hl : namesOk l) {g : Tx → Int} (hg : ∀ s ∈ d.names, 0 ≤ g s ∧ g s ≤ l.length) : RightP (withD d l g) := by
 obtain ⟨hk1, hk2, hk3, hk4, hk5, hk6, hk7⟩ := id hok
 have hll : (withD d l g).label.length = d.label.length := labW_len d g
 refine ⟨by rw [hll]; exact hk1, by rw [hll]; exact hk2, by rw [hll]; exact hk3, hk4, hk5, hl, fun s h1 h2 => ?_⟩
 have h1 : s < d.next.length := h1
 have h2' : s < d.label.length := by rw [hll] at h2; exact h2
 obtain ⟨w1, w2, w3, w4⟩ := hk7 s h1 h2'
 have hlab : (withD d l g).label[s]'h2 = if 0 < d.label[s] then g (nameD d d.label[s]) else 0 := by
  show (labW d g)[s]'_ = _
  simp only [labW, List.getElem_map]
 refine ⟨w1, ?_, ?_, fun t ht => ?_⟩
 ·rw [hlab]
  split
  ·rename_i h0; exact (hg _ (nameD_mem hok h2' h0)).1
  ·exact Int.le_refl 0
 ·rw [hlab]
  show _ ≤ ((l.length : Nat) : Int)
  split
  ·rename_i h0; exact (hg _ (nameD_mem hok h2' h0)).2
  ·omega
 ·have := w4 t ht
  rw [hll]; exact this
theorem findF_range (l : List Tx) (s : Tx) : 0 ≤ findF l s + 1 ∧ findF l s + 1 ≤ l.length := by
 cases hp : place l s with
 | none => rw [findF_none hp]; omega
 | some n =>
  have := (place_some hp).1
  rw [findF_some hp]; omega
theorem withN_right {d : DfaT} (hok : RightP d) {l : List Tx} (hl : namesOk l) : RightP (withN d l) := withD_right hok hl fun s _ => findF_range l s
theorem norm_tells {d : DfaT} (hok : RightP d) : normR d = (withN d (usedS d), 0) := by
 unfold normR
 rw [usedR_ok hok, namesR_ok hok (usedS_names hok) fun s h => h]
end Go.Proofs.YtefkpedhbijhkaaGreatDoor
namespace Go.Proofs.YtefkpedhbijhkaaGreatDoor
open Go Go.V Go.Proofs
theorem calleeWalk1 : V.Callee Tryz.prog 90 := ⟨_, _, Tryz.func90, rfl, by kernel_rfl⟩
def metR (n : Nat) (W : List Int) : List Value := rowV n fun t => decide ((t : Int) ∈ W)
theorem metR_len (n : Nat) (W : List Int) : (metR n W).length = n := rowV_len _ _
theorem metR_put {n : Nat} {W : List Int} {t : Nat} (h : t < n) : splice (metR n W) t [.bool true] = metR n (add1 W t) := by
 unfold metR
 rw [rowV_put _ h]
 refine rowV_congr fun j hj => ?_
 rw [Bool.eq_iff_iff]
 split
 ·rename_i e; subst e; simp [mem_add1]
 ·rename_i e
  rw [decide_eq_true_eq, decide_eq_true_eq, mem_add1]
  constructor
  ·exact .inl
  ·rintro (h1 | h1)
   ·exact h1
   ·omega
theorem metR_get {n : Nat} {W : List Int} {t : Nat} (h : t < n) : (metR n W)[t]? = some (.bool (decide ((t : Int) ∈ W))) := by unfold metR; rw [rowV_get? _ h]
theorem metR_zero (n : Nat) : metR n [] = List.replicate n (.bool false) := by
 unfold metR rowV
 apply List.ext_getElem
 ·simp
 ·intro i h1 h2; simp
theorem metR_addN (n : Nat) {V W : List Int} (h : ∀ x, x ∈ V ↔ x ∈ W) : metR n V = metR n W := rowV_congr fun t _ => by simp [h]
theorem sep_app {G : PHeap} {A B : Heap} {b : Nat} (h : Sep G (keys (A ++ B))) (hb : b ∈ keys B) : NotIn b (keys A) := by
 have h1 := (sep_iff.1 h).2
 rw [keys_app, List.nodup_append] at h1
 exact notIn_iff.2 fun ha => h1.2.2 b ha b hb rfl
theorem sep_find {G : PHeap} {H : Heap} {b : Nat} {r : Res} (h : Sep G (keys H)) (hf : findH H b = some r) : G b = none :=
 (sep_iff.1 h).1 b (List.mem_map.2 ⟨_, findH_mem hf, rfl⟩)
theorem find_sep {G : PHeap} {x : Nat × Res} {H : Heap} {b : Nat} {r : Res} (hs : Sep G (keys (x :: H))) (h : findH H b = some r) : findH (x :: H) b = some r := by
 have h1 : NotIn x.1 (keys H) := hs.1.2
 have h2 := NotIn.neFind h1 h
 obtain ⟨k, q⟩ := x
 exact (findH_ne h2 q H).trans h
theorem sep_turn {G : PHeap} {x1 x2 x3 x4 x5 : Nat × Res} {H : Heap} (h : Sep G (keys (x1 :: x2 :: x3 :: x4 :: x5 :: H))) : Sep G (keys (H ++ [x1, x2, x3, x4, x5])) := by
 rw [sep_iff] at h ⊢
 have hp : List.Perm (keys (H ++ [x1, x2, x3, x4, x5])) (keys (x1 :: x2 :: x3 :: x4 :: x5 :: H)) := by
  unfold keys
  exact (List.perm_append_comm (l₁ := H) (l₂ := [x1, x2, x3, x4, x5])).map _
 exact ⟨fun b hb => h.1 b (hp.mem_iff.1 hb), hp.nodup_iff.2 h.2⟩
theorem sep_turn' {G : PHeap} {x1 x2 x3 x4 x5 : Nat × Res} {H : Heap} (h : Sep G (keys (H ++ [x1, x2, x3, x4, x5]))) : Sep G (keys (x1 :: x2 :: x3 :: x4 :: x5 :: H)) := by
 rw [sep_iff] at h ⊢
 have hp : List.Perm (keys (H ++ [x1, x2, x3, x4, x5])) (keys (x1 :: x2 :: x3 :: x4 :: x5 :: H)) := by
  unfold keys
  exact (List.perm_append_comm (l₁ := H) (l₂ := [x1, x2, x3, x4, x5])).map _
 exact ⟨fun b hb => h.1 b (hp.mem_iff.2 hb), hp.nodup_iff.1 h.2⟩
set_option maxRecDepth 4000 in
theorem walk1_t (lr b1 b2 b3 bx : Nat) {n : Nat} (hn : n ≤ 65536) {W0 : List Int} (hW : OnceN n W0) {on : Int → List Int} (hon : ∀ s : Int, 0 ≤ s → s < n → ∀ t ∈ on s, 0 ≤ t ∧ t < n) (hol : ∀ s : Int, 0 ≤ s → s < n → (on s).length ≤ 20000000)
  {fid : FuncId} {XC : List Value} {tyX : TypeId} {G : PHeap}
  (hOn : ∀ (s : Int) (G1 : PHeap) (H1 : Heap) (R1 : Value → PHeap → Heap → Prop), PLe G G1 → 0 ≤ s → s < n → G1 bx = none → findH H1 bx = some (.cells XC [] tyX) → (∀ v, Sl G1 (Value.int .i64) v (on s) → R1 v G1 H1) → FnT Tryz.prog fid [.int .i64 s, .pointer (some ⟨bx, 0, none⟩)] G1 H1 R1)
  {v0 : Value} (hv0 : Sl G (Value.int .i64) v0 W0) {HC : Heap} {R : Value → PHeap → Heap → Prop}
  (J Jx : Nat → PHeap → Heap → Prop) (hJ : ∀ i G1 G2 H1, PLe G1 G2 → J i G1 H1 → J i G2 H1) (hX : ∀ i G1 H1, Sep G1 (keys H1) → J i G1 H1 → findH H1 bx = some (.cells XC [] tyX))
  (hY : ∀ i G1 H1 HW (hi : i < (bw on W0 i).length), PLe G G1 → Sep G1 (keys (H1 ++ HW)) → J i G1 H1 → YldT Tryz.prog lr [.int .i64 (bw on W0 i)[i]] G1 (H1 ++ HW) fun w G2 H2 => ∃ H3, H2 = H3 ++ HW ∧ ((w = .bool true ∧ J (i + 1) G2 H3) ∨ (w = .bool false ∧ Jx i G2 H3)))
  (h0 : J 0 G HC)
  (hR : ∀ G' H', PLe G G' → Sep G' (keys H') → ((∃ i, i = (bw on W0 i).length ∧ J i G' H') ∨ ∃ i, Jx i G' H') → R (.tuple #[]) G' H') :
  FnT Tryz.prog 90 [.func (.yield lr) #[] #[], .pointer (some ⟨b1, 0, none⟩), .pointer (some ⟨b2, 0, none⟩), .pointer (some ⟨b3, 0, none⟩)] G
   ((b3, .cells [.func (.func fid) #[] #[.pointer (some ⟨bx, 0, none⟩)]] [] 75) :: (b2, .cells [v0] [] 24) :: (b1, .cells [.int .i64 (n : Nat)] [] 3) :: HC) R := by
 obtain ⟨a0, c0, rfl, hrow0, hcap0⟩ := id hv0
 have hW0 := hW.len
 refine FnT.body tok [0, 1, 2, 3, 5, 6, 8, 9, 11, 16, 17, 18, 19, 29, 38, 44, 45, 46, 47, 53] Tryz.func90 rfl (by kernel_rfl) (by kernel_rfl) (by show _ ≤ 62; simp) fun hsep => ?_
 rw [Tryz.results90]
 have hsE := hsep
 try simp only [zzs] at hsE
 repeat (obtain ⟨hsx, hsE⟩ := hsE)
 repeat' first
  | (with_reducible first | refine Nx.go ?_ | refine Bk.go (fun _ => ?_) fun _ => ?_)
  | ((with_reducible first | refine NewB.mk2 fun nb hnb hnb1 hnb2 => ?_ | refine NewRow.mk2 fun nb nsp ncap hnb hncap hnb1 hnb2 => ?_); try simp only [zzn] at hnb2)
  | simp -dsimp -implicitDefEqProofs (disch := first | assumption | (simp only [zzm]; done) | omega | (try with_reducible refine Row.adr (by assumption) ?_); simp only [zzl, Nat.reduceAdd]; first | done | omega) only [go_sem, ↓reduceIte, seval, -List.reduceReplicate, Nat.sub_self, List.replicate_zero]
 obtain ⟨bt, e0⟩ : ∃ x, x = nb := ⟨_, rfl⟩
 subst e0
 refine clonei_t W0 (by omega) hv0 fun v kb hsk hkb => ?_
 have hn1 : NotIn bt (keys kb) := sep_app hsk (by simp [keys])
 have hn2 : NotIn b3 (keys kb) := sep_app hsk (by simp [keys])
 have hn3 : NotIn b2 (keys kb) := sep_app hsk (by simp [keys])
 have hn4 : NotIn b1 (keys kb) := sep_app hsk (by simp [keys])
 repeat' first
  | (with_reducible first | refine Nx.go ?_ | refine Bk.go (fun _ => ?_) fun _ => ?_)
  | ((with_reducible first | refine NewB.mk2 fun nb hnb hnb1 hnb2 => ?_ | refine NewRow.mk2 fun nb nsp ncap hnb hncap hnb1 hnb2 => ?_); try simp only [zzn] at hnb2)
  | simp -dsimp -implicitDefEqProofs (disch := first | assumption | (simp only [zzm]; done) | omega | (try with_reducible refine Row.adr (by assumption) ?_); simp only [zzl, Nat.reduceAdd]; first | done | omega) only [go_sem, ↓reduceIte, seval]
 refine Tri.loopU tok [0, 1, 2, 3, 5, 6, 8, 9, 11, 16, 17, 18, 19, 29, 38, 44, 45, 46, 47, 53] (by kernel_rfl) [0, 1, 2, 3, 5, 6, 16, 17, 18] (fun q G' fr H' => ∃ i : Nat, i + q = W0.length ∧ G' = G ∧ H' = (bt, .cells (metR n (W0.take i)) [] 4) :: (b3, .cells [.func (.func fid) #[] #[.pointer (some ⟨bx, 0, none⟩)]] [] 75) :: (b2, .cells [.slice a0 W0.length c0] [] 24) :: (b1, .cells [.int .i64 (n : Nat)] [] 3) :: (kb ++ HC) ∧ fr = [(0, .func (.yield lr) #[] #[]), (1, .pointer (some ⟨b1, 0, none⟩)), (2, .pointer (some ⟨b2, 0, none⟩)), (3, .pointer (some ⟨b3, 0, none⟩)), (5, .slice (some ⟨bt, 0, none⟩) n n), (6, v), (16, .slice a0 W0.length c0), (17, .int .i64 W0.length), (18, .int .i64 (i : Nat))]) (W0.length) ?_ ?_
 ·rw [← metR_zero]
  exact Upd.go (H' := (bt, .cells (metR n []) [] 4) :: (b3, .cells [.func (.func fid) #[] #[.pointer (some ⟨bx, 0, none⟩)]] [] 75) :: (b2, .cells [.slice a0 W0.length c0] [] 24) :: (b1, .cells [.int .i64 (n : Nat)] [] 3) :: (kb ++ HC)) (by intro fsum; first | exact Nat.le_refl _ | (simp only [zzq]; omega)) (Upd.now ⟨0, by omega, rfl, by rw [List.take_zero], rfl⟩)
 ·rintro q G1 fr H' hle hs1 ⟨i, hiq, rfl, rfl, rfl⟩
  by_cases hil : i < W0.length
  ·have had : Adr a0 := hrow0.adr (by rw [List.length_map]; omega)
   have hx := hW.2 _ (List.getElem_mem hil)
   obtain ⟨t, ht⟩ := Int.eq_ofNat_of_zero_le hx.1
   have htn : t < n := by omega
   have hml := metR_len n (W0.take i)
   have hput : splice (metR n (W0.take i)) t [.bool true] = metR n (W0.take (i + 1)) := by
    rw [metR_put htn, ← ht]
    exact metR_addN n fun x => by rw [mem_add1, List.take_succ_eq_append_getElem hil, List.mem_append, List.mem_singleton]
   repeat' first
    | (with_reducible first | refine Nx.go ?_ | refine Bk.go (fun _ => ?_) fun _ => ?_)
    | ((with_reducible first | refine NewB.mk2 fun nb hnb hnb1 hnb2 => ?_ | refine NewRow.mk2 fun nb nsp ncap hnb hncap hnb1 hnb2 => ?_); try simp only [zzn] at hnb2)
    | simp -dsimp -implicitDefEqProofs (disch := first | assumption | (simp only [zzm]; done) | omega | (try with_reducible refine Row.adr (by assumption) ?_); simp only [zzl, Nat.reduceAdd]; first | done | omega) only [go_sem, ↓reduceIte, seval, Row.obj hrow0, List.getElem_map, ht, hput]
   exact Upd.now ⟨q - 1, by omega, i + 1, by omega, rfl, rfl, rfl⟩
  ·obtain rfl : i = W0.length := by omega
   rw [List.take_length] at hs1 ⊢
   repeat' first
    | (with_reducible first | refine Nx.go ?_ | refine Bk.go (fun _ => ?_) fun _ => ?_)
    | ((with_reducible first | refine NewB.mk2 fun nb hnb hnb1 hnb2 => ?_ | refine NewRow.mk2 fun nb nsp ncap hnb hncap hnb1 hnb2 => ?_); try simp only [zzn] at hnb2)
    | simp -dsimp -implicitDefEqProofs (disch := first | assumption | (simp only [zzm]; done) | omega | (try with_reducible refine Row.adr (by assumption) ?_); simp only [zzl, Nat.reduceAdd]; first | done | omega) only [go_sem, ↓reduceIte, seval]
   refine Tri.loopU tok [0, 1, 2, 3, 5, 6, 8, 9, 11, 16, 17, 18, 19, 29, 38, 44, 45, 46, 47, 53] (by kernel_rfl) [0, 1, 2, 3, 5, 6, 9] (fun q G' fr H' => ∃ (i : Nat) (v : Value) (kb H1 : Heap), i + q = n ∧ i ≤ (bw on W0 i).length ∧ PLe G1 G' ∧ SliceO [] 3 1 v (bw on W0 i).length ((bw on W0 i).map (Value.int .i64)) kb ∧ J i G' H1 ∧ H' = (bt, .cells (metR n (bw on W0 i)) [] 4) :: (b3, .cells [.func (.func fid) #[] #[.pointer (some ⟨bx, 0, none⟩)]] [] 75) :: (b2, .cells [.slice a0 W0.length c0] [] 24) :: (b1, .cells [.int .i64 (n : Nat)] [] 3) :: (kb ++ H1) ∧ fr = [(0, .func (.yield lr) #[] #[]), (1, .pointer (some ⟨b1, 0, none⟩)), (2, .pointer (some ⟨b2, 0, none⟩)), (3, .pointer (some ⟨b3, 0, none⟩)), (5, .slice (some ⟨bt, 0, none⟩) n n), (6, v), (9, .int .i64 (i : Nat))]) (n) ?_ ?_
   ·exact Upd.now ⟨0, v, kb, HC, by omega, Nat.zero_le _, PLe.refl _, hkb, h0, rfl, rfl⟩
   ·rintro q G2 fr H' hle2 hs2 ⟨i, v, kb, H1, hiq, hil, hleG, hkb, hJi, rfl, rfl⟩
    have hO := bw_once hW hon i
    have hOl := hO.len
    rcases hkb with ⟨a, rfl, hz, hz2, rfl⟩ | ⟨bk, ck, sk, rfl, rfl, hkl, hkc⟩
    ·repeat' first
      | (with_reducible first | refine Nx.go ?_ | refine Bk.go (fun _ => ?_) fun _ => ?_)
      | ((with_reducible first | refine NewB.mk2 fun nb hnb hnb1 hnb2 => ?_ | refine NewRow.mk2 fun nb nsp ncap hnb hncap hnb1 hnb2 => ?_); try simp only [zzn] at hnb2)
      | simp -dsimp -implicitDefEqProofs (disch := first | assumption | (simp only [zzm]; done) | omega | (try with_reducible refine Row.adr (by assumption) ?_); simp only [zzl, Nat.reduceAdd]; first | done | omega) only [go_sem, ↓reduceIte, seval]
     all_goals try (exfalso; omega)
     unfold UpdR
     exact Upd.go (H' := H1) (by intro fsum; first | exact Nat.le_refl _ | (simp only [zzq]; omega)) (Upd.now (hR G2 H1 hleG (Sep.suf (H := [(bt, .cells (metR n (bw on W0 i)) [] 4), (b3, .cells [.func (.func fid) #[] #[.pointer (some ⟨bx, 0, none⟩)]] [] 75), (b2, .cells [.slice a0 W0.length c0] [] 24), (b1, .cells [.int .i64 (n : Nat)] [] 3)]) hs2) (.inl ⟨i, by omega, hJi⟩)))
    ·rw [List.length_map] at hkl hkc
     have hsE := hs2
     try simp only [zzs] at hsE
     repeat (obtain ⟨hsx, hsE⟩ := hsE)
     by_cases hi : i < (bw on W0 i).length
     ·have hx := hO.2 _ (List.getElem_mem hi)
      have hsucc := bw_succ hi
      repeat' first
       | (with_reducible first | refine Nx.go ?_ | refine Bk.go (fun _ => ?_) fun _ => ?_)
       | ((with_reducible first | refine NewB.mk2 fun nb hnb hnb1 hnb2 => ?_ | refine NewRow.mk2 fun nb nsp ncap hnb hncap hnb1 hnb2 => ?_); try simp only [zzn] at hnb2)
       | simp -dsimp -implicitDefEqProofs (disch := first | assumption | (simp only [zzm]; done) | omega | (try with_reducible refine Row.adr (by assumption) ?_); simp only [zzl, Nat.reduceAdd]; first | done | omega) only [go_sem, ↓reduceIte, seval, List.getElem_append_left, List.getElem_map]
      refine YldT.upd (YldT.leave (H' := H1 ++ [(bt, .cells (metR n (bw on W0 i)) [] 4), (b3, .cells [.func (.func fid) #[] #[.pointer (some ⟨bx, 0, none⟩)]] [] 75), (b2, .cells [.slice a0 W0.length c0] [] 24), (b1, .cells [.int .i64 (n : Nat)] [] 3), (bk, .cells ((bw on W0 i).map (Value.int .i64)) sk 3)]) ?_ (by intro fsum; first | exact Nat.le_refl _ | (simp only [zzq]; omega)))
      have hs3 := sep_turn hs2
      refine YldT.mono (hY i G2 H1 _ hi hleG hs3 hJi) ?_
      rintro w G3 _ hle3 hs4 ⟨H3, rfl, hw⟩
      refine Upd.go (H' := (bt, .cells (metR n (bw on W0 i)) [] 4) :: (b3, .cells [.func (.func fid) #[] #[.pointer (some ⟨bx, 0, none⟩)]] [] 75) :: (b2, .cells [.slice a0 W0.length c0] [] 24) :: (b1, .cells [.int .i64 (n : Nat)] [] 3) :: (bk, .cells ((bw on W0 i).map (Value.int .i64)) sk 3) :: H3) (by intro fsum; first | exact Nat.le_refl _ | (simp only [zzq]; omega)) (Upd.now ?_)
      have hs5 := sep_turn' hs4
      have hsE := hs5
      try simp only [zzs] at hsE
      repeat (obtain ⟨hsx, hsE⟩ := hsE)
      rcases hw with ⟨rfl, hJ3⟩ | ⟨rfl, hJ3⟩
      ·have hfx3 := hX _ G3 H3 hs5.2.2.2.2.2 hJ3
       repeat' first
        | (with_reducible first | refine Nx.go ?_ | refine Bk.go (fun _ => ?_) fun _ => ?_)
        | ((with_reducible first | refine NewB.mk2 fun nb hnb hnb1 hnb2 => ?_ | refine NewRow.mk2 fun nb nsp ncap hnb hncap hnb1 hnb2 => ?_); try simp only [zzn] at hnb2)
        | simp -dsimp -implicitDefEqProofs (disch := first | assumption | (simp only [zzm]; done) | omega | (try with_reducible refine Row.adr (by assumption) ?_); simp only [zzl, Nat.reduceAdd]; first | done | omega) only [go_sem, ↓reduceIte, seval, List.getElem_append_left, List.getElem_map]
        | with_reducible refine Tri.drawS tok mixed [0, 1, 2, 3, 5, 6, 8, 9, 11, 16, 17, 18, 19, 29, 38, 44, 45, 46, 47, 53] 11 [0, 4] (.op 0 .held (.op 1 .plain (.op 2 .plain (.op 3 .plain (.op 4 .held (.op 7 .plain (.op 5 .plain (.op 6 .plain .nil)))))))) (by kernel_rfl) [(b3, .cells [.func (.func fid) #[] #[.pointer (some ⟨bx, 0, none⟩)]] [] 75), (bk, .cells ((bw on W0 i).map (Value.int .i64)) sk 3)] (by intro fsum; first | exact Nat.le_refl _ | (simp only [zzq]; omega)) ?_
       have hfx5 := find_sep hs5 (find_sep hs5.2 (find_sep hs5.2.2 (find_sep hs5.2.2.2 (find_sep hs5.2.2.2.2 hfx3))))
       have hxb := sep_find hs5 hfx5
       refine hOn _ G3 _ _ (hleG.trans hle3) hx.1 hx.2 hxb hfx5 fun v' hv' => ?_
       obtain ⟨ao, co, rfl, hro, hco⟩ := hv'
       have honl := hol _ hx.1 hx.2
       have honr := hon _ hx.1 hx.2
       repeat' first
        | (with_reducible first | refine Nx.go ?_ | refine Bk.go (fun _ => ?_) fun _ => ?_)
        | ((with_reducible first | refine NewB.mk2 fun nb hnb hnb1 hnb2 => ?_ | refine NewRow.mk2 fun nb nsp ncap hnb hncap hnb1 hnb2 => ?_); try simp only [zzn] at hnb2)
        | simp -dsimp -implicitDefEqProofs (disch := first | assumption | (simp only [zzm]; done) | omega | (try with_reducible refine Row.adr (by assumption) ?_); simp only [zzl, Nat.reduceAdd]; first | done | omega) only [go_sem, ↓reduceIte, seval]
       generalize hos : on (bw on W0 i)[i] = os at *
       refine Tri.loopU tok [0, 1, 2, 3, 5, 6, 8, 9, 11, 16, 17, 18, 19, 29, 38, 44, 45, 46, 47, 53] (by kernel_rfl) [0, 1, 2, 3, 5, 6, 9, 44, 45, 46] (fun q' G' fr H' => ∃ (k : Nat) (v : Value) (kb : Heap), k + q' = os.length ∧ G' = G3 ∧ SliceO [] 3 1 v (addN (bw on W0 i) (os.take k)).length ((addN (bw on W0 i) (os.take k)).map (Value.int .i64)) kb ∧ H' = (bt, .cells (metR n (addN (bw on W0 i) (os.take k))) [] 4) :: (b3, .cells [.func (.func fid) #[] #[.pointer (some ⟨bx, 0, none⟩)]] [] 75) :: (b2, .cells [.slice a0 W0.length c0] [] 24) :: (b1, .cells [.int .i64 (n : Nat)] [] 3) :: (kb ++ H3) ∧ fr = [(0, .func (.yield lr) #[] #[]), (1, .pointer (some ⟨b1, 0, none⟩)), (2, .pointer (some ⟨b2, 0, none⟩)), (3, .pointer (some ⟨b3, 0, none⟩)), (5, .slice (some ⟨bt, 0, none⟩) n n), (6, v), (9, .int .i64 (i : Nat)), (44, .slice ao os.length co), (45, .int .i64 os.length), (46, .int .i64 (k : Nat))]) (os.length) ?_ ?_
       ·exact Upd.now ⟨0, _, [(bk, .cells ((bw on W0 i).map (Value.int .i64)) sk 3)], by omega, rfl, .inr ⟨bk, ck, sk, rfl, rfl, by rw [List.length_map]; simp, by rw [List.length_map, List.take_zero, addN_nil]; omega⟩, rfl, rfl⟩
       ·rintro q' G4 fr H' hle4 hs6 ⟨k, v, kb, hkq, rfl, hkb, rfl, rfl⟩
        have hOk : OnceN n (addN (bw on W0 i) (os.take k)) := hO.addN fun x hx => honr x (List.mem_of_mem_take hx)
        have hOkl := hOk.len
        obtain ⟨X, hX1⟩ := addN_pre (os.take k) (bw on W0 i)
        have hXl := congrArg List.length hX1
        rw [List.length_append] at hXl
        rcases hkb with ⟨a, rfl, hz, hz2, rfl⟩ | ⟨bm, cm, sm, rfl, rfl, hml, hmc⟩
        ·omega
        ·rw [List.length_map] at hml hmc
         have hmt := metR_len n (addN (bw on W0 i) (os.take k))
         have hsE := hs6
         try simp only [zzs] at hsE
         repeat (obtain ⟨hsx, hsE⟩ := hsE)
         by_cases hk : k < os.length
         ·have had : Adr ao := hro.adr (by rw [List.length_map]; omega)
          have hy := honr _ (List.getElem_mem hk)
          obtain ⟨t, ht⟩ := Int.eq_ofNat_of_zero_le hy.1
          have htn : t < n := by omega
          have hg := metR_get (W := addN (bw on W0 i) (os.take k)) htn
          have hnext := addN_take (bw on W0 i) os hk
          have hput := metR_put (W := addN (bw on W0 i) (os.take k)) htn
          by_cases hin : (t : Int) ∈ addN (bw on W0 i) (os.take k)
          ·rw [decide_eq_true hin] at hg
           have hn2 : addN (bw on W0 i) (os.take (k + 1)) = addN (bw on W0 i) (os.take k) := by rw [hnext, ht]; unfold add1; rw [if_pos hin]
           repeat' first
            | (with_reducible first | refine Nx.go ?_ | refine Bk.go (fun _ => ?_) fun _ => ?_)
            | ((with_reducible first | refine NewB.mk2 fun nb hnb hnb1 hnb2 => ?_ | refine NewRow.mk2 fun nb nsp ncap hnb hncap hnb1 hnb2 => ?_); try simp only [zzn] at hnb2)
            | simp -dsimp -implicitDefEqProofs (disch := first | assumption | (simp only [zzm]; done) | omega | (try with_reducible refine Row.adr (by assumption) ?_); simp only [zzl, Nat.reduceAdd]; first | done | omega) only [go_sem, ↓reduceIte, seval, Row.obj hro, List.getElem_map, ht, hg]
           exact Upd.now ⟨q' - 1, by omega, k + 1, .slice (some ⟨bm, 0, none⟩) (addN (bw on W0 i) (os.take k)).length cm, [(bm, .cells ((addN (bw on W0 i) (os.take k)).map (Value.int .i64)) sm 3)], by omega, rfl, .inr ⟨bm, cm, sm, by rw [hn2], by rw [hn2], by rw [hn2, List.length_map]; omega, by rw [hn2, List.length_map]; omega⟩, by rw [hn2]; rfl, rfl⟩
          ·rw [decide_eq_false hin] at hg
           have hn2 : addN (bw on W0 i) (os.take (k + 1)) = addN (bw on W0 i) (os.take k) ++ [(t : Int)] := by rw [hnext, ht]; unfold add1; rw [if_neg hin]
           have hn3 : add1 (addN (bw on W0 i) (os.take k)) (t : Int) = addN (bw on W0 i) (os.take (k + 1)) := by rw [hnext, ht]
           rw [hn3] at hput
           repeat' first
            | (with_reducible first | refine Nx.go ?_ | refine Bk.go (fun _ => ?_) fun _ => ?_)
            | ((with_reducible first | refine NewB.mk2 fun nb hnb hnb1 hnb2 => ?_ | refine NewRow.mk2 fun nb nsp ncap hnb hncap hnb1 hnb2 => ?_); try simp only [zzn] at hnb2)
            | simp -dsimp -implicitDefEqProofs (disch := first | assumption | (simp only [zzm]; done) | omega | (try with_reducible refine Row.adr (by assumption) ?_); simp only [zzl, Nat.reduceAdd]; first | done | omega) only [go_sem, ↓reduceIte, seval, Row.obj hro, List.getElem_map, ht, hg, hput, List.replicate_one]
           have hl2 := congrArg List.length hn2
           rw [List.length_append, List.length_singleton] at hl2
           have hm2 : (addN (bw on W0 i) (os.take k)).map (Value.int .i64) ++ [Value.int .i64 (t : Nat)] = (addN (bw on W0 i) (os.take (k + 1))).map (Value.int .i64) := by rw [hn2, List.map_append]; rfl
           rw [hm2, ← hl2]
           exact Upd.go (H' := (bt, .cells (metR n (addN (bw on W0 i) (os.take (k + 1)))) [] 4) :: (b3, .cells [.func (.func fid) #[] #[.pointer (some ⟨bx, 0, none⟩)]] [] 75) :: (b2, .cells [.slice a0 W0.length c0] [] 24) :: (b1, .cells [.int .i64 (n : Nat)] [] 3) :: ([(nb, .cells ((addN (bw on W0 i) (os.take (k + 1))).map (Value.int .i64)) nsp 3)] ++ H3)) (by intro fsum; first | exact Nat.le_refl _ | (simp only [zzq]; omega)) (Upd.now ⟨q' - 1, by omega, k + 1, _, [(nb, .cells ((addN (bw on W0 i) (os.take (k + 1))).map (Value.int .i64)) nsp 3)], by omega, rfl, .inr ⟨nb, ncap, nsp, rfl, rfl, by rw [List.length_map]; omega, by rw [List.length_map]; omega⟩, rfl, rfl⟩)
         ·obtain rfl : k = os.length := by omega
          rw [List.take_length] at *
          repeat' first
           | (with_reducible first | refine Nx.go ?_ | refine Bk.go (fun _ => ?_) fun _ => ?_)
           | ((with_reducible first | refine NewB.mk2 fun nb hnb hnb1 hnb2 => ?_ | refine NewRow.mk2 fun nb nsp ncap hnb hncap hnb1 hnb2 => ?_); try simp only [zzn] at hnb2)
           | simp -dsimp -implicitDefEqProofs (disch := first | assumption | (simp only [zzm]; done) | omega | (try with_reducible refine Row.adr (by assumption) ?_); simp only [zzl, Nat.reduceAdd]; first | done | omega) only [go_sem, ↓reduceIte, seval]
          rw [← hsucc] at *
          exact Upd.now ⟨q - 1, by omega, i + 1, .slice (some ⟨bm, 0, none⟩) (bw on W0 (i + 1)).length cm, [(bm, .cells ((bw on W0 (i + 1)).map (Value.int .i64)) sm 3)], H3, by omega, by omega, hleG.trans hle3, .inr ⟨bm, cm, sm, rfl, rfl, by rw [List.length_map]; omega, by rw [List.length_map]; omega⟩, hJ3, rfl, rfl⟩
      ·repeat' first
        | (with_reducible first | refine Nx.go ?_ | refine Bk.go (fun _ => ?_) fun _ => ?_)
        | ((with_reducible first | refine NewB.mk2 fun nb hnb hnb1 hnb2 => ?_ | refine NewRow.mk2 fun nb nsp ncap hnb hncap hnb1 hnb2 => ?_); try simp only [zzn] at hnb2)
        | simp -dsimp -implicitDefEqProofs (disch := first | assumption | (simp only [zzm]; done) | omega | (try with_reducible refine Row.adr (by assumption) ?_); simp only [zzl, Nat.reduceAdd]; first | done | omega) only [go_sem, ↓reduceIte, seval]
       unfold UpdR
       exact Upd.go (H' := H3) (by intro fsum; first | exact Nat.le_refl _ | (simp only [zzq]; omega)) (Upd.now (hR G3 H3 (hleG.trans hle3) (by assumption) (.inr ⟨i, hJ3⟩)))
     ·repeat' first
       | (with_reducible first | refine Nx.go ?_ | refine Bk.go (fun _ => ?_) fun _ => ?_)
       | ((with_reducible first | refine NewB.mk2 fun nb hnb hnb1 hnb2 => ?_ | refine NewRow.mk2 fun nb nsp ncap hnb hncap hnb1 hnb2 => ?_); try simp only [zzn] at hnb2)
       | simp -dsimp -implicitDefEqProofs (disch := first | assumption | (simp only [zzm]; done) | omega | (try with_reducible refine Row.adr (by assumption) ?_); simp only [zzl, Nat.reduceAdd]; first | done | omega) only [go_sem, ↓reduceIte, seval]
      all_goals try (exfalso; omega)
      unfold UpdR
      exact Upd.go (H' := H1) (by intro fsum; first | exact Nat.le_refl _ | (simp only [zzq]; omega)) (Upd.now (hR G2 H1 hleG (by assumption) (.inl ⟨i, by omega, hJi⟩)))
end Go.Proofs.YtefkpedhbijhkaaGreatDoor
namespace Go.Proofs.YtefkpedhbijhkaaGreatDoor
open Go Go.V Go.Proofs
theorem sep_app2 {G : PHeap} {A B : Heap} (h : Sep G (keys (A ++ B))) : Sep G (keys A) := by
 rw [sep_iff, keys_app] at *
 exact ⟨fun b hb => h.1 b (List.mem_append.2 (.inl hb)), (List.nodup_append.1 h.2).1⟩
def nextF (d : DfaT) (s : Int) : List Int := d.next.getD s.toNat []
theorem nextF_get {d : DfaT} {s : Nat} (h : s < d.next.length) : nextF d (s : Int) = d.next[s] := by
 unfold nextF
 rw [Int.toNat_natCast, List.getD_eq_getElem?_getD, List.getElem?_eq_getElem h, Option.getD_some]
theorem nextF_ok {d : DfaT} (hok : RightP d) : ∀ s : Int, 0 ≤ s → s < d.label.length → ∀ t ∈ nextF d s, 0 ≤ t ∧ t < d.label.length := fun s h1 h2 t ht => by
 obtain ⟨i, rfl⟩ := Int.eq_ofNat_of_zero_le h1
 obtain ⟨hk1, hk2, hk3, hk4, hk5, hk6, hk7⟩ := hok
 have hi : i < d.next.length := by omega
 rw [nextF_get hi] at ht
 exact (hk7 i hi (by omega)).2.2.2 t ht
theorem reachf_t {d : DfaT} (hsm : SmallD d) (hok : RightP d) {C : List Value} {an al ay : Option Addr} {cn cl cs : Nat} {rs : List Value} {G : PHeap} (O : OpenD G d C an al ay cn cl cs rs) {bx : Nat} {s : Int} (h0 : 0 ≤ s) (h1 : s < d.label.length)
  {H : Heap} {R : Value → PHeap → Heap → Prop} (hg : G bx = none) (hf : findH H bx = some (.cells C [] 27)) (hR : ∀ v, Sl G (Value.int .i64) v (nextF d s) → R v G H) : FnT Tryz.prog 60 [.int .i64 s, .pointer (some ⟨bx, 0, none⟩)] G H R := by
 obtain ⟨i, rfl⟩ := Int.eq_ofNat_of_zero_le h0
 have hCl := O.len
 have hCn := O.n
 have hl := hok.2.2.1
 have hi : i < d.next.length := by omega
 have hrnl := O.rnl
 obtain ⟨b, c, e1, e2, e3⟩ := O.rs i hi (by omega)
 have had : Adr an := O.rn.adr (by omega)
 rw [nextF_get hi] at hR
 refine FnT.body tok [0, 1, 3] Tryz.func60 rfl (by kernel_rfl) (by kernel_rfl) (by show _ ≤ 9; simp) fun hsep => ?_
 rw [Tryz.results60]
 have hsE := hsep
 try simp only [zzs] at hsE
 repeat (obtain ⟨hsx, hsE⟩ := hsE)
 repeat' first
  | (with_reducible first | refine Nx.go ?_ | refine Bk.go (fun _ => ?_) fun _ => ?_)
  | simp -dsimp -implicitDefEqProofs (disch := first | assumption | (simp only [zzm]; done) | omega | (try with_reducible refine Row.adr (by assumption) ?_); simp only [zzl, Nat.reduceAdd]; first | done | omega) only [go_sem, ↓reduceIte, seval, -List.reduceReplicate, hf, hCl, hCn, Row.obj O.rn, e1]
 all_goals refine Upd.finL ?_ (hR _ ⟨b, c, rfl, e2, e3⟩) ?_
 any_goals (intro fsum; first | exact Nat.le_refl _ | (simp only [zzq]; omega))
 all_goals rfl
theorem walk_t {n : Nat} {a cap : Option Addr} {k c : Nat} {fid : FuncId} {v fv : Value} (hv : v = .slice a k c) (hf : fv = .func (.func fid) #[] #[.pointer cap]) {G : PHeap} {H : Heap} {R : Value → PHeap → Heap → Prop}
  (hR : ∀ b1 b2 b3, Sep G (b3 :: b2 :: b1 :: keys H) → R (.func (.func 90) #[] #[.pointer (some ⟨b1, 0, none⟩), .pointer (some ⟨b2, 0, none⟩), .pointer (some ⟨b3, 0, none⟩)]) G ((b3, .cells [fv] [] 75) :: (b2, .cells [v] [] 24) :: (b1, .cells [.int .i64 (n : Nat)] [] 3) :: H)) :
  FnT Tryz.prog 59 [.int .i64 (n : Nat), v, fv] G H R := by
 subst hv hf
 refine FnT.body tok [0, 1, 2, 3, 4, 5, 6] Tryz.func59 rfl (by kernel_rfl) (by kernel_rfl) (by show _ ≤ 8; simp) fun hsep => ?_
 rw [Tryz.results59]
 have hsE := hsep
 try simp only [zzs] at hsE
 repeat (obtain ⟨hsx, hsE⟩ := hsE)
 repeat' first
  | (with_reducible first | refine Nx.go ?_ | refine Bk.go (fun _ => ?_) fun _ => ?_)
  | (with_reducible refine NewB.mk2 fun nb hnb hnb1 hnb2 => ?_; try simp only [zzn] at hnb2)
  | simp -dsimp -implicitDefEqProofs (disch := first | assumption | (simp only [zzm]; done) | omega | (try with_reducible refine Row.adr (by assumption) ?_); simp only [zzl, Nat.reduceAdd]; first | done | omega) only [go_sem, ↓reduceIte, seval]
 exact Upd.fin (hR _ _ _ hnb) rfl
theorem calleeWalk : V.Callee Tryz.prog 59 := ⟨_, _, Tryz.func59, rfl, by kernel_rfl⟩
def reachL (d : DfaT) : List Int := walkL (nextF d) d.label.length [0]
noncomputable def reachD (d : DfaT) : List Int := if boolOf (RightP d) = true then reachL d else []
theorem reach_t {d : DfaT} (hsm : SmallD d) {G : PHeap} {H : Heap} {R : Value → PHeap → Heap → Prop} {v : Value} (hv : IsD G d v)
  (hR : ∀ G' v', PLe G G' → Sep G' (keys H) → Sl G' (Value.int .i64) v' (reachD d) → R v' G' H) : FnT Tryz.prog 32 [v] G H R := by
 obtain ⟨C, an, al, ay, cn, cl, cs, rs, rfl, O⟩ := hv.opened
 have hCl := O.len
 have hCa := O.all
 have hCx := O.l
 refine FnT.sep ?_
 by_cases hok : RightP d
 ·have hb := boolOf_yes hok
  refine FnT.body tok [0, 1, 2, 3, 4, 7, 13, 14] Tryz.func32 rfl (by kernel_rfl) (by kernel_rfl) (by show _ ≤ 20; simp) fun hsep => ?_
  rw [Tryz.results32]
  have hsE := hsep
  try simp only [zzs] at hsE
  repeat (obtain ⟨hsx, hsE⟩ := hsE)
  repeat' first
   | (with_reducible first | refine Nx.go ?_ | refine Bk.go (fun _ => ?_) fun _ => ?_)
   | ((with_reducible first | refine NewB.mk2 fun nb hnb hnb1 hnb2 => ?_ | refine NewRow.mk2 fun nb nsp ncap hnb hncap hnb1 hnb2 => ?_); try simp only [zzn] at hnb2)
   | simp -dsimp -implicitDefEqProofs (disch := first | assumption | (simp only [zzm]; done) | omega | (try with_reducible refine Row.adr (by assumption) ?_); simp only [zzl, Nat.reduceAdd]; first | done | omega) only [go_sem, ↓reduceIte, seval, -List.reduceReplicate, List.toList_toArray, hCl, hCa, hb, hCx, List.replicate_one]
   | with_reducible refine right_t hsm O.is ?_
  rename_i b2 hx1 hx2 hx3 bl hx4 hx5 hx6
  have hz : reachD d = reachL d := by unfold reachD; rw [if_pos hb]
  rw [hz] at hR
  have hon := nextF_ok hok
  have hk1 := hok.1
  have hk2 := hok.2.1
  have hO : OnceN d.label.length [0] := ⟨by simp, fun x hx => by rw [List.mem_singleton] at hx; omega⟩
  refine FnT.pre calleeWalk (Upd.go (H' := (nb, .cells [.int .i64 0] [] 3) :: (bl, .cells [.slice none 0 0] [] 24) :: (b2, .cells C [] 27) :: H) (by intro fsum; first | exact Nat.le_refl _ | (simp only [zzq]; omega)) (Upd.shareRow (by assumption) fun G2 hle2 hs2 hr2 => ?_))
  refine walk_t rfl rfl fun c1 c2 c3 hs3 => ?_
  have hsE := hs3
  try simp only [zzs] at hsE
  repeat (obtain ⟨hsx, hsE⟩ := hsE)
  repeat' first
   | (with_reducible first | refine Nx.go ?_ | refine Bk.go (fun _ => ?_) fun _ => ?_)
   | ((with_reducible first | refine NewB.mk2 fun nb hnb hnb1 hnb2 => ?_ | refine NewRow.mk2 fun nb nsp ncap hnb hncap hnb1 hnb2 => ?_); try simp only [zzn] at hnb2)
   | simp -dsimp -implicitDefEqProofs (disch := first | assumption | (simp only [zzm]; done) | omega | (try with_reducible refine Row.adr (by assumption) ?_); simp only [zzl, Nat.reduceAdd]; first | done | omega) only [go_sem, ↓reduceIte, seval]
  refine Tri.rangeF2 tok [0, 1, 2, 3, 4, 7, 13, 14] rfl calleeWalk1 (by kernel_rfl) fun lr Rr Rb hlr yl => ?_
  have hsE := hlr
  try simp only [zzs] at hsE
  repeat (obtain ⟨hsx, hsE⟩ := hsE)
  refine FnT.leave (H' := (c3, .cells [.func (.func 60) #[] #[.pointer (some ⟨b2, 0, none⟩)]] [] 75) :: (c2, .cells [.slice (some ⟨nb, 0, none⟩) 1 1] [] 24) :: (c1, .cells [.int .i64 (d.label.length : Nat)] [] 3) :: ((lr, Rr .normal) :: (bl, .cells [.slice none 0 0] [] 24) :: (b2, .cells C [] 27) :: H)) ?_ (by intro fsum; first | exact Nat.le_refl _ | (simp only [zzq]; omega))
  refine walk1_t lr c1 c2 c3 b2 (by omega) hO hon (fun s h0 h1 => ?_) (fun s G1 H1 R1 hle h0 h1 hg hf hR1 => reachf_t hsm hok (O.mono (hle2.trans hle)) h0 h1 hg hf hR1)
   (v0 := .slice (some ⟨nb, 0, none⟩) 1 1) ⟨some ⟨nb, 0, none⟩, 1, rfl, hr2, Nat.le_refl _⟩
   (fun i G' H' => ∃ v kb, SliceO [] 3 1 v i (((bw (nextF d) [0] i).take i).map (Value.int .i64)) kb ∧ i ≤ (bw (nextF d) [0] i).length ∧ H' = (lr, Rr .normal) :: (bl, .cells [v] [] 24) :: (b2, .cells C [] 27) :: (kb ++ H))
   (fun _ _ _ => False) ?_ ?_ ?_ ⟨_, [], .inl ⟨none, rfl, rfl, rfl, rfl⟩, Nat.zero_le _, rfl⟩ ?_
  ·obtain ⟨j, rfl⟩ := Int.eq_ofNat_of_zero_le h0
   have hj : j < d.next.length := by have := hok.2.2.1; omega
   rw [nextF_get hj]
   exact Nat.le_trans (hsm.2.1 _ (List.getElem_mem hj)) (by omega)
  ·exact fun _ _ _ _ _ h => h
  ·rintro i G1 _ _ ⟨v, kb, _, _, rfl⟩
   simp -dsimp -implicitDefEqProofs (disch := first | assumption | (simp only [zzm]; done) | omega | (try with_reducible refine Row.adr (by assumption) ?_); simp only [zzl, Nat.reduceAdd]; first | done | omega) only [go_sem, ↓reduceIte, seval]
  ·rintro i G1 _ HW hi hle1 hs4 ⟨v, kb, hkb, hil, rfl⟩
   have hs5 := sep_app2 hs4
   obtain ⟨X, hX⟩ := bw_pre (nextF d) [0] i
   have hti : (bw (nextF d) [0] (i + 1)).take (i + 1) = (bw (nextF d) [0] i).take i ++ [(bw (nextF d) [0] i)[i]] := by
    rw [hX, List.take_append_of_le_length (by omega), List.take_succ_eq_append_getElem hi]
   have htl : ((bw (nextF d) [0] i).take i).length = i := by rw [List.length_take]; omega
   have hml : (((bw (nextF d) [0] i).take i).map (Value.int .i64)).length = i := by rw [List.length_map, htl]
   have hbl := (bw_once hO hon i).len
   have hil2 : i + 1 ≤ (bw (nextF d) [0] (i + 1)).length := by rw [hX, List.length_append]; omega
   rcases hkb with ⟨a, rfl, hz, hz2, rfl⟩ | ⟨bk, ck, sk, rfl, rfl, hkl, hkc⟩
   ·have hsE := hs4
    try simp only [zzs] at hsE
    repeat (obtain ⟨hsx, hsE⟩ := hsE)
    have hsE := hs5
    try simp only [zzs] at hsE
    repeat (obtain ⟨hsx, hsE⟩ := hsE)
    refine YldT.upd (yl rfl ?_ ?_)
    ·simp -dsimp -implicitDefEqProofs (disch := first | assumption | (simp only [zzm]; done) | omega | (try with_reducible refine Row.adr (by assumption) ?_); simp only [zzl, Nat.reduceAdd]; first | done | omega) only [go_sem, ↓reduceIte, seval]
    ·repeat' first
      | (with_reducible first | refine Nx.go ?_ | refine Bk.go (fun _ => ?_) fun _ => ?_)
      | ((with_reducible first | refine NewB.mk2 fun nb hnb hnb1 hnb2 => ?_ | refine NewRow.mk2 fun nb nsp ncap hnb hncap hnb1 hnb2 => ?_); try simp only [zzn] at hnb2)
      | simp -dsimp -implicitDefEqProofs (disch := first | assumption | (simp only [zzm]; done) | omega | (try with_reducible refine Row.adr (by assumption) ?_); simp only [zzl, Nat.reduceAdd]; first | done | omega) only [go_sem, ↓reduceIte, seval, List.replicate_one]
     have hi0 : i = 0 := hz
     refine Upd.go (H' := ((lr, Rr .normal) :: (bl, .cells [.slice (some ⟨nb, 0, none⟩) 1 ncap] [] 24) :: (b2, .cells C [] 27) :: ([(nb, .cells [.int .i64 (bw (nextF d) [0] i)[i]] nsp 3)] ++ H)) ++ HW) (by intro fsum; first | exact Nat.le_refl _ | (simp only [zzq]; omega)) (Upd.now ⟨_, rfl, .inl ⟨rfl, _, [(nb, .cells [.int .i64 (bw (nextF d) [0] i)[i]] nsp 3)], .inr ⟨nb, ncap, nsp, ?_, ?_, ?_, ?_⟩, hil2, rfl⟩⟩)
     ·rw [hi0]
     ·rw [hti, List.map_append, hz2]; rfl
     ·rw [hti, List.map_append, hz2]; show 1 = (i + 1) * 1; omega
     ·rw [hti, List.map_append, hz2]; show 1 + nsp.length = ncap * 1; omega
   ·have hsE := hs4
    try simp only [zzs] at hsE
    repeat (obtain ⟨hsx, hsE⟩ := hsE)
    have hsE := hs5
    try simp only [zzs] at hsE
    repeat (obtain ⟨hsx, hsE⟩ := hsE)
    refine YldT.upd (yl rfl ?_ ?_)
    ·simp -dsimp -implicitDefEqProofs (disch := first | assumption | (simp only [zzm]; done) | omega | (try with_reducible refine Row.adr (by assumption) ?_); simp only [zzl, Nat.reduceAdd]; first | done | omega) only [go_sem, ↓reduceIte, seval]
    ·repeat' first
      | (with_reducible first | refine Nx.go ?_ | refine Bk.go (fun _ => ?_) fun _ => ?_)
      | ((with_reducible first | refine NewB.mk2 fun nb hnb hnb1 hnb2 => ?_ | refine NewRow.mk2 fun nb nsp ncap hnb hncap hnb1 hnb2 => ?_); try simp only [zzn] at hnb2)
      | simp -dsimp -implicitDefEqProofs (disch := first | assumption | (simp only [zzm]; done) | omega | (try with_reducible refine Row.adr (by assumption) ?_); simp only [zzl, Nat.reduceAdd]; first | done | omega) only [go_sem, ↓reduceIte, seval, List.replicate_one]
     have hm2 : ((bw (nextF d) [0] i).take i).map (Value.int .i64) ++ [.int .i64 (bw (nextF d) [0] i)[i]] = ((bw (nextF d) [0] (i + 1)).take (i + 1)).map (Value.int .i64) := by rw [hti, List.map_append]; rfl
     rw [hm2]
     refine Upd.go (H' := ((lr, Rr .normal) :: (bl, .cells [.slice (some ⟨nb, 0, none⟩) (i + 1) ncap] [] 24) :: (b2, .cells C [] 27) :: ([(nb, .cells (((bw (nextF d) [0] (i + 1)).take (i + 1)).map (Value.int .i64)) nsp 3)] ++ H)) ++ HW) (by intro fsum; first | exact Nat.le_refl _ | (simp only [zzq]; omega)) (Upd.now ⟨_, rfl, .inl ⟨rfl, _, [(nb, .cells (((bw (nextF d) [0] (i + 1)).take (i + 1)).map (Value.int .i64)) nsp 3)], .inr ⟨nb, ncap, nsp, rfl, rfl, ?_, ?_⟩, hil2, rfl⟩⟩)
     ·rw [List.length_map, List.length_take]; omega
     ·rw [List.length_map, List.length_take]; omega
  ·rintro G1 _ hle1 hs4 (⟨i, hi, v, kb, hkb, hil, rfl⟩ | ⟨_, h⟩)
   ·have he : bw (nextF d) [0] i = reachL d := bw_end hO hon (by omega)
    have htk : (bw (nextF d) [0] i).take i = reachL d := by rw [← he]; exact List.take_of_length_le (by omega)
    rw [htk] at hkb
    rw [he] at hi
    rcases hkb with ⟨a, rfl, hz, hz2, rfl⟩ | ⟨bk, ck, sk, rfl, rfl, hkl, hkc⟩
    ·have hsE := hs4
     try simp only [zzs] at hsE
     repeat (obtain ⟨hsx, hsE⟩ := hsE)
     refine ⟨.normal, ?_, ?_⟩
     ·simp -dsimp -implicitDefEqProofs (disch := first | assumption | (simp only [zzm]; done) | omega | (try with_reducible refine Row.adr (by assumption) ?_); simp only [zzl, Nat.reduceAdd]; first | done | omega) only [go_sem, ↓reduceIte, seval]
     ·repeat' first
       | (with_reducible first | refine Nx.go ?_ | refine Bk.go (fun _ => ?_) fun _ => ?_)
       | ((with_reducible first | refine NewB.mk2 fun nb hnb hnb1 hnb2 => ?_ | refine NewRow.mk2 fun nb nsp ncap hnb hncap hnb1 hnb2 => ?_); try simp only [zzn] at hnb2)
       | simp -dsimp -implicitDefEqProofs (disch := first | assumption | (simp only [zzm]; done) | omega | (try with_reducible refine Row.adr (by assumption) ?_); simp only [zzl, Nat.reduceAdd]; first | done | omega) only [go_sem, ↓reduceIte, seval]
      unfold UpdR
      refine Upd.leave (H' := H) (by intro fsum; first | exact Nat.le_refl _ | (simp only [zzq]; omega)) ?_
      have h0 : reachL d = [] := List.eq_nil_of_length_eq_zero (by omega)
      exact fun hle hs => hR G1 _ (hle2.trans hle1) hs ⟨a, 0, by rw [h0]; rfl, by rw [h0]; exact Row.nil _ _, by rw [h0]; exact Nat.le_refl _⟩
    ·have hsE := hs4
     try simp only [zzs] at hsE
     repeat (obtain ⟨hsx, hsE⟩ := hsE)
     refine ⟨.normal, ?_, ?_⟩
     ·simp -dsimp -implicitDefEqProofs (disch := first | assumption | (simp only [zzm]; done) | omega | (try with_reducible refine Row.adr (by assumption) ?_); simp only [zzl, Nat.reduceAdd]; first | done | omega) only [go_sem, ↓reduceIte, seval]
     ·repeat' first
       | (with_reducible first | refine Nx.go ?_ | refine Bk.go (fun _ => ?_) fun _ => ?_)
       | ((with_reducible first | refine NewB.mk2 fun nb hnb hnb1 hnb2 => ?_ | refine NewRow.mk2 fun nb nsp ncap hnb hncap hnb1 hnb2 => ?_); try simp only [zzn] at hnb2)
       | simp -dsimp -implicitDefEqProofs (disch := first | assumption | (simp only [zzm]; done) | omega | (try with_reducible refine Row.adr (by assumption) ?_); simp only [zzl, Nat.reduceAdd]; first | done | omega) only [go_sem, ↓reduceIte, seval]
      unfold UpdR
      refine Upd.go (H' := (bk, .cells ((reachL d).map (Value.int .i64)) sk 3) :: H) (by intro fsum; first | exact Nat.le_refl _ | (simp only [zzq]; omega)) (Upd.shareRow (by assumption) fun G3 hle3 hs6 hr3 => ?_)
      rw [List.length_map] at hkl hkc
      exact fun hle hs => hR G3 _ ((hle2.trans hle1).trans hle3) hs ⟨some ⟨bk, 0, none⟩, ck, by rw [hi], hr3, by omega⟩
   ·exact h.elim
 ·have hb := boolOf_no hok
  have hz : reachD d = [] := by unfold reachD; rw [if_neg (by rw [hb]; exact Bool.false_ne_true)]
  rw [hz] at hR
  refine FnT.body tok [0, 1, 2, 3, 4, 7, 13, 14] Tryz.func32 rfl (by kernel_rfl) (by kernel_rfl) (by show _ ≤ 20; simp) fun hsep => ?_
  rw [Tryz.results32]
  have hsE := hsep
  try simp only [zzs] at hsE
  repeat (obtain ⟨hsx, hsE⟩ := hsE)
  repeat' first
   | (with_reducible first | refine Nx.go ?_ | refine Bk.go (fun _ => ?_) fun _ => ?_)
   | ((with_reducible first | refine NewB.mk2 fun nb hnb hnb1 hnb2 => ?_ | refine NewRow.mk2 fun nb nsp ncap hnb hncap hnb1 hnb2 => ?_); try simp only [zzn] at hnb2)
   | simp -dsimp -implicitDefEqProofs (disch := first | assumption | (simp only [zzm]; done) | omega | (try with_reducible refine Row.adr (by assumption) ?_); simp only [zzl, Nat.reduceAdd]; first | done | omega) only [go_sem, ↓reduceIte, seval, -List.reduceReplicate, List.toList_toArray, hCl, hCa, hb]
   | with_reducible refine right_t hsm O.is ?_
  unfold UpdR
  refine Upd.leave (H' := H) (by intro fsum; first | exact Nat.le_refl _ | (simp only [zzq]; omega)) ?_
  exact fun hle hs => hR G _ (PLe.refl _) hs (Sl.nil _ _)
end Go.Proofs.YtefkpedhbijhkaaGreatDoor
namespace Go.Proofs.YtefkpedhbijhkaaGreatDoor
open Go Go.V Go.Proofs
theorem and_word32 {w : Nat} (hw : w < 4294967296) : bitsOp .and .u64 (w : Int) 4294967295 = (w : Int) := by
 unfold bitsOp
 have : (BitVec.ofInt IntKind.u64.bits (w : Int) &&& BitVec.ofInt IntKind.u64.bits 4294967295).toNat = w := by
  show (BitVec.ofInt 64 (w : Int) &&& BitVec.ofInt 64 4294967295).toNat = w
  rw [BitVec.toNat_and]
  have h1 : (BitVec.ofInt 64 (w : Int)).toNat = w := by
   rw [BitVec.toNat_ofInt]; omega
  have h2 : (BitVec.ofInt 64 4294967295).toNat = 2 ^ 32 - 1 := by decide
  rw [h1, h2, Nat.and_two_pow_sub_one_eq_mod]
  exact Nat.mod_eq_of_lt hw
 show IntKind.u64.wrap ((BitVec.ofInt IntKind.u64.bits (w : Int) &&& BitVec.ofInt IntKind.u64.bits 4294967295).toNat : Int) = w
 rw [this]
 unfold IntKind.wrap
 have hb : (IntKind.u64.bits) = 64 := rfl
 simp [hb]
 omega
set_option maxRecDepth 8000 in
theorem mul64_t {n : Nat} (hn : n ≤ 65536) {G : PHeap} {H : Heap} {R : Value → PHeap → Heap → Prop} (hR : R (.tuple #[.int .u64 0, .int .u64 (n : Nat)]) G H) : FnT Tryz.prog 138 [.int .u64 1, .int .u64 (n : Nat)] G H R := by
 have b1 : bitsOp .and .u64 1 4294967295 = 1 := by decide
 have b2 : bitsOp .and .u64 (n : Int) 4294967295 = (n : Int) := and_word32 (by omega)
 have b3 : bitsOp .and .u64 0 4294967295 = 0 := by decide
 refine FnT.body tok [0, 1, 4, 5, 6, 7, 8, 9, 10, 11, 12, 13] Tryz.func138 rfl (by kernel_rfl) (by kernel_rfl) (by show _ ≤ 51; simp) fun hsep => ?_
 rw [Tryz.results138]
 have hsE := hsep
 try simp only [zzs] at hsE
 repeat (obtain ⟨hsx, hsE⟩ := hsE)
 have hq : (n : Int) / 4294967296 = 0 := by omega
 have wz : IntKind.u64.wrap 0 = 0 := by decide
 repeat' first
  | (with_reducible first | refine Nx.go ?_ | refine Bk.go (fun _ => ?_) fun _ => ?_)
  | (with_reducible refine NewB.mk2 fun nb hnb hnb1 hnb2 => ?_; try simp only [zzn] at hnb2)
  | simp -dsimp -implicitDefEqProofs (disch := first | assumption | (simp only [zzm]; done) | omega | (try with_reducible refine Row.adr (by assumption) ?_); simp only [zzl, Nat.reduceAdd]; first | done | omega) only [go_sem, ↓reduceIte, seval, b1, b2, b3, Int.zero_mul, Int.one_mul, Int.mul_zero, Int.add_zero, Int.zero_add, hq, wz]
 all_goals refine Upd.finL ?_ hR ?_
 any_goals (intro fsum; first | exact Nat.le_refl _ | (simp only [zzq]; omega))
 all_goals rfl
theorem mul_t {n : Nat} (hn : n ≤ 65536) {G : PHeap} {H : Heap} {R : Value → PHeap → Heap → Prop} (hR : R (.tuple #[.int .u64 0, .int .u64 (n : Nat)]) G H) : FnT Tryz.prog 113 [.int .u64 1, .int .u64 (n : Nat)] G H R := by
 refine FnT.body tok [0, 1, 4, 5, 6, 7, 8, 9] Tryz.func113 rfl (by kernel_rfl) (by kernel_rfl) (by show _ ≤ 30; simp) fun hsep => ?_
 rw [Tryz.results113]
 have hsE := hsep
 try simp only [zzs] at hsE
 repeat (obtain ⟨hsx, hsE⟩ := hsE)
 repeat' first
  | (with_reducible first | refine Nx.go ?_ | refine Bk.go (fun _ => ?_) fun _ => ?_)
  | ((with_reducible first | refine NewB.mk2 fun nb hnb hnb1 hnb2 => ?_ | refine NewRow.mk2 fun nb nsp ncap hnb hncap hnb1 hnb2 => ?_); try simp only [zzn] at hnb2)
  | simp -dsimp -implicitDefEqProofs (disch := first | assumption | (simp only [zzm]; done) | omega | (try with_reducible refine Row.adr (by assumption) ?_); simp only [zzl, Nat.reduceAdd]; first | done | omega) only [go_sem, ↓reduceIte, seval]
  | with_reducible refine mul64_t hn ?_
 all_goals refine Upd.finL ?_ hR ?_
 any_goals (intro fsum; first | exact Nat.le_refl _ | (simp only [zzq]; omega))
 all_goals rfl
def repQ (n k : Nat) (x : Int) : List Value := List.replicate k (.int .i64 x) ++ List.replicate (n - k) (.int .i64 0)
theorem repQ_len {n k : Nat} (h : k ≤ n) (x : Int) : (repQ n k x).length = n := by simp [repQ]; omega
theorem repQ_zero (n : Nat) (x : Int) : List.replicate n (Value.int .i64 0) = repQ n 0 x := by simp [repQ]
theorem repQ_all (n : Nat) (x : Int) : repQ n n x = List.replicate n (.int .i64 x) := by simp [repQ]
theorem repQ_first {n : Nat} (h : 1 ≤ n) (x : Int) : splice (repQ n 0 x) 0 [.int .i64 x] = repQ n 1 x := by
 obtain ⟨m, rfl⟩ := Nat.exists_eq_add_of_le h
 unfold splice repQ
 rw [show 1 + m - 0 = m + 1 by omega, List.replicate_succ, show 1 + m - 1 = m by omega]
 simp
theorem repQ_more {n k m : Nat} (hk : k ≤ n) (hm : m ≤ k) (hmn : m ≤ n - k) (x : Int) : splice (repQ n k x) k ((repQ n k x).take m) = repQ n (k + m) x := by
 have h1 : (repQ n k x).take m = List.replicate m (.int .i64 x) := by
  unfold repQ
  rw [List.take_append_of_le_length (by simp; exact hm), List.take_replicate, Nat.min_eq_left hm]
 rw [h1]
 unfold splice repQ
 have e1 : (List.replicate k (Value.int .i64 x) ++ List.replicate (n - k) (Value.int .i64 0)).take k = List.replicate k (.int .i64 x) := by
  rw [List.take_append_of_le_length (by simp), List.take_of_length_le (by simp)]
 have e2 : (List.replicate k (Value.int .i64 x) ++ List.replicate (n - k) (Value.int .i64 0)).drop (k + (List.replicate m (Value.int .i64 x)).length) = List.replicate (n - (k + m)) (.int .i64 0) := by
  rw [List.length_replicate, List.drop_append, List.length_replicate, List.drop_of_length_le (by simp), List.nil_append, List.drop_replicate]
  congr 1; omega
 rw [e1, e2, List.replicate_append_replicate]
set_option maxRecDepth 4000 in
theorem repeat_t {x : Int} {n : Nat} (h1 : 1 ≤ n) (hn : n ≤ 65536) {G : PHeap} {H : Heap} {R : Value → PHeap → Heap → Prop} {v : Value} (hv : Sl G (Value.int .i64) v [x])
  (hR : ∀ b, Sep G (b :: keys H) → R (.slice (some ⟨b, 0, none⟩) n n) G ((b, .cells (List.replicate n (.int .i64 x)) [] 3) :: H)) : FnT Tryz.prog 89 [v, .int .i64 (n : Nat)] G H R := by
 obtain ⟨a, cap, rfl, hrow, hcap⟩ := hv
 have hw : IntKind.u64.wrap (n : Int) = n := by
  unfold IntKind.wrap
  have hb : (IntKind.u64.bits) = 64 := rfl
  simp [hb]
  omega
 refine FnT.body tok [0, 1, 4, 5, 6, 7, 8, 10, 26, 37] Tryz.func89 rfl (by kernel_rfl) (by kernel_rfl) (by show _ ≤ 48; simp) fun hsep => ?_
 rw [Tryz.results89]
 have hsE := hsep
 try simp only [zzs] at hsE
 repeat (obtain ⟨hsx, hsE⟩ := hsE)
 repeat' first
  | (with_reducible first | refine Nx.go ?_ | refine Bk.go (fun _ => ?_) fun _ => ?_)
  | ((with_reducible first | refine NewB.mk2 fun nb hnb hnb1 hnb2 => ?_ | refine NewRow.mk2 fun nb nsp ncap hnb hncap hnb1 hnb2 => ?_); try simp only [zzn] at hnb2)
  | simp -dsimp -implicitDefEqProofs (disch := first | assumption | (simp only [zzm]; done) | omega | (try with_reducible refine Row.adr (by assumption) ?_); simp only [zzl, Nat.reduceAdd]; first | done | omega) only [go_sem, ↓reduceIte, seval, hw]
 all_goals try (exfalso; omega)
 refine mul_t hn ?_
 repeat' first
  | (with_reducible first | refine Nx.go ?_ | refine Bk.go (fun _ => ?_) fun _ => ?_)
  | ((with_reducible first | refine NewB.mk2 fun nb hnb hnb1 hnb2 => ?_ | refine NewRow.mk2 fun nb nsp ncap hnb hncap hnb1 hnb2 => ?_); try simp only [zzn] at hnb2)
  | simp -dsimp -implicitDefEqProofs (disch := first | assumption | (simp only [zzm]; done) | omega | (try with_reducible refine Row.adr (by assumption) ?_); simp only [zzl, Nat.reduceAdd]; first | done | omega) only [go_sem, ↓reduceIte, seval, hw, Nat.sub_self, List.replicate_zero, Row.rdSlAll hrow]
 rw [repQ_zero n x, repQ_first h1, show min 1 n = 1 by omega]
 refine Tri.loopU tok [0, 1, 4, 5, 6, 7, 8, 10, 26, 37] (by kernel_rfl) [4, 7, 8] (fun q G' fr H' => ∃ k : Nat, k + q = n + 1 ∧ 1 ≤ k ∧ k ≤ n ∧ G' = G ∧ H' = (nb, .cells (repQ n k x) [] 3) :: H ∧ fr = [(4, .slice none 0 0), (7, .slice (some ⟨nb, 0, none⟩) n n), (8, .int .i64 (k : Nat))]) (n) ?_ ?_
 ·exact Upd.now ⟨1, by omega, Nat.le_refl 1, h1, rfl, rfl, rfl⟩
 ·rintro q G1 fr H' hle hs1 ⟨k, hkq, hk1, hkn, rfl, rfl, rfl⟩
  have hsE := hs1
  try simp only [zzs] at hsE
  repeat (obtain ⟨hsx, hsE⟩ := hsE)
  have hql := repQ_len (n := n) (k := k) (by omega) x
  by_cases hk : k < n
  ·have hsa : subAddr nb 0 k n k = ⟨nb, k, none⟩ := by unfold subAddr; rw [if_neg (by omega), Nat.zero_add]
   have hmore := repQ_more (n := n) (k := k) (m := min k (n - k)) (by omega) (by omega) (by omega) x
   have htl : (List.take (min k (n - k)) (repQ n k x)).length = min k (n - k) := by rw [List.length_take, hql]; omega
   have hone : (List.take (min k (n - k)) (repQ n k x)).all oneV = true := by
    rw [List.all_eq_true]
    intro y hy
    have := List.mem_of_mem_take hy
    unfold repQ at this
    rw [List.mem_append, List.mem_replicate, List.mem_replicate] at this
    rcases this with ⟨_, rfl⟩ | ⟨_, rfl⟩ <;> rfl
   repeat' first
    | (with_reducible first | refine Nx.go ?_ | refine Bk.go (fun _ => ?_) fun _ => ?_)
    | ((with_reducible first | refine NewB.mk2 fun nb hnb hnb1 hnb2 => ?_ | refine NewRow.mk2 fun nb nsp ncap hnb hncap hnb1 hnb2 => ?_); try simp only [zzn] at hnb2)
    | with_reducible refine Tri.drawM tok mixed [0, 1, 4, 5, 6, 7, 8, 10, 26, 37] 9 [] (.op 0 .plain (.op 1 .plain (.op 2 .plain (.op 3 .plain (.op 4 .plain (.op 5 .plain (.op 6 .plain (.op 7 .keeps (.op 8 .plain (.op 9 .plain .nil)))))))))) (by kernel_rfl) [] (List.nil_sublist _) ?_
    | simp -dsimp -implicitDefEqProofs (disch := first | assumption | (simp only [zzm]; done) | omega | (try with_reducible refine Row.adr (by assumption) ?_); simp only [zzl, Nat.reduceAdd]; first | done | omega) only [go_sem, ↓reduceIte, seval, hsa, Nat.sub_zero, htl, hone, hmore]
   exact Upd.now ⟨q - min k (n - k), by omega, k + min k (n - k), by omega, by omega, by omega, rfl, rfl, rfl⟩
  ·obtain rfl : k = n := by omega
   repeat' first
    | (with_reducible first | refine Nx.go ?_ | refine Bk.go (fun _ => ?_) fun _ => ?_)
    | ((with_reducible first | refine NewB.mk2 fun nb hnb hnb1 hnb2 => ?_ | refine NewRow.mk2 fun nb nsp ncap hnb hncap hnb1 hnb2 => ?_); try simp only [zzn] at hnb2)
    | simp -dsimp -implicitDefEqProofs (disch := first | assumption | (simp only [zzm]; done) | omega | (try with_reducible refine Row.adr (by assumption) ?_); simp only [zzl, Nat.reduceAdd]; first | done | omega) only [go_sem, ↓reduceIte, seval]
   rw [repQ_all]
   unfold UpdR
   exact Upd.now (hR nb hs1)
def atR (n : Nat) (l : List Int) : List Value := (List.range n).map fun t : Nat => .int .i64 (findF l (t : Int))
theorem atR_len (n : Nat) (l : List Int) : (atR n l).length = n := by simp [atR]
theorem atR_get {n : Nat} (l : List Int) {t : Nat} (h : t < n) : (atR n l)[t]? = some (.int .i64 (findF l (t : Int))) := by
 unfold atR; rw [List.getElem?_map, List.getElem?_range h]; rfl
theorem atR_get' {n : Nat} (l : List Int) {t : Nat} (h : t < n) : (atR n l)[t]'(by rw [atR_len]; exact h) = .int .i64 (findF l (t : Int)) := by simp [atR]
theorem findF_nil (x : Int) : findF [] x = -1 := rfl
theorem atR_nil (n : Nat) : List.replicate n (Value.int .i64 (-1)) = atR n [] := by
 apply List.ext_getElem
 ·simp [atR]
 ·intro i h1 h2; simp [atR, findF_nil]
theorem findF_snoc {l : List Int} {s t : Int} (h : s ∉ l) : findF (l ++ [s]) t = if t = s then (l.length : Int) else findF l t := by
 by_cases e : t = s
 ·subst e
  rw [if_pos rfl]
  unfold findF
  rw [place_end h]
 ·rw [if_neg e]
  by_cases ht : t ∈ l
  ·unfold findF; rw [place_app ht]
  ·have h2 : t ∉ l ++ [s] := by
    rw [List.mem_append, List.mem_singleton]
    rintro (h3 | h3)
    ·exact ht h3
    ·exact e h3
   unfold findF; rw [place_no ht, place_no h2]
theorem atR_put {n : Nat} {l : List Int} {s : Nat} (hs : s < n) (h : (s : Int) ∉ l) : splice (atR n l) s [.int .i64 (l.length : Nat)] = atR n (l ++ [(s : Int)]) := by
 unfold splice
 apply List.ext_getElem
 ·simp [atR_len]; omega
 ·intro j h1 h2
  rw [atR_len] at h2
  rw [atR_get' _ h2, findF_snoc h]
  have hl : ((atR n l).take s).length = s := by rw [List.length_take, atR_len]; omega
  rcases Nat.lt_trichotomy j s with hj | hj | hj
  ·rw [List.getElem_append_left (by rw [List.length_append, hl]; omega), List.getElem_append_left (by omega), List.getElem_take, atR_get' l h2, if_neg (by omega)]
  ·subst hj
   rw [List.getElem_append_left (by rw [List.length_append, hl]; simp), List.getElem_append_right (by omega)]
   simp [hl]
  ·rw [List.getElem_append_right (by rw [List.length_append, hl]; simp; omega), List.getElem_drop, if_neg (by omega)]
   simp only [List.length_append, hl, List.length_singleton]
   have : (atR n l)[s + 1 + (j - (s + 1))]'(by rw [atR_len]; omega) = (atR n l)[j]'(by rw [atR_len]; exact h2) := by congr 1; omega
   rw [this, atR_get' l h2]
theorem findF_memW {l : List Int} {t : Int} : 0 ≤ findF l t ↔ t ∈ l := by
 constructor
 ·intro h
  exact Classical.byContradiction fun hn => by
   unfold findF at h
   rw [place_no hn] at h
   simp at h
 ·intro h
  obtain ⟨n, hn⟩ := place_mem h
  unfold findF; rw [hn]; exact Int.natCast_nonneg n
theorem calleeRepeat : V.Callee Tryz.prog 89 := ⟨_, _, Tryz.func89, rfl, by kernel_rfl⟩
theorem places_t {n : Nat} (h1 : 1 ≤ n) (hn : n ≤ 65536) {l : List Int} (hl : l.length ≤ 2000000) {G : PHeap} {H : Heap} {R : Value → PHeap → Heap → Prop} {v : Value} (hv : Sl G (Value.int .i64) v l)
  (hR : ∀ G' b, PLe G G' → Sep G' (b :: keys H) → OnceN n l → R (.tuple #[.slice (some ⟨b, 0, none⟩) n n, .bool (decide (l.head? = some 0))]) G' ((b, .cells (atR n l) [] 3) :: H))
  (hR2 : ∀ G', PLe G G' → Sep G' (keys H) → ¬ OnceN n l → R (.tuple #[.slice none 0 0, .bool false]) G' H) : FnT Tryz.prog 58 [.int .i64 (n : Nat), v] G H R := by
 obtain ⟨a, cap, rfl, hrow, hcap⟩ := hv
 refine FnT.body tok [0, 1, 4, 5, 6, 7, 8, 12, 13, 14, 15, 32] Tryz.func58 rfl (by kernel_rfl) (by kernel_rfl) (by show _ ≤ 48; simp) fun hsep => ?_
 rw [Tryz.results58]
 have hsE := hsep
 try simp only [zzs] at hsE
 repeat (obtain ⟨hsx, hsE⟩ := hsE)
 repeat' first
  | (with_reducible first | refine Nx.go ?_ | refine Bk.go (fun _ => ?_) fun _ => ?_)
  | ((with_reducible first | refine NewB.mk2 fun nb hnb hnb1 hnb2 => ?_ | refine NewRow.mk2 fun nb nsp ncap hnb hncap hnb1 hnb2 => ?_); try simp only [zzn] at hnb2)
  | simp -dsimp -implicitDefEqProofs (disch := first | assumption | (simp only [zzm]; done) | omega | (try with_reducible refine Row.adr (by assumption) ?_); simp only [zzl, Nat.reduceAdd]; first | done | omega) only [go_sem, ↓reduceIte, seval, List.replicate_one]
 refine FnT.pre calleeRepeat (Upd.shareRow (by assumption) fun G2 hle2 hs2 hr2 => ?_)
 refine repeat_t (x := -1) h1 hn ⟨some ⟨nb, 0, none⟩, 1, rfl, hr2, Nat.le_refl 1⟩ fun b hb => ?_
 rw [atR_nil]
 have hsE := hb
 try simp only [zzs] at hsE
 repeat (obtain ⟨hsx, hsE⟩ := hsE)
 have hrow2 := hrow.mono hle2
 repeat' first
  | (with_reducible first | refine Nx.go ?_ | refine Bk.go (fun _ => ?_) fun _ => ?_)
  | ((with_reducible first | refine NewB.mk2 fun nb hnb hnb1 hnb2 => ?_ | refine NewRow.mk2 fun nb nsp ncap hnb hncap hnb1 hnb2 => ?_); try simp only [zzn] at hnb2)
  | simp -dsimp -implicitDefEqProofs (disch := first | assumption | (simp only [zzm]; done) | omega | (try with_reducible refine Row.adr (by assumption) ?_); simp only [zzl, Nat.reduceAdd]; first | done | omega) only [go_sem, ↓reduceIte, seval]
 refine Tri.loopU tok [0, 1, 4, 5, 6, 7, 8, 12, 13, 14, 15, 32] (by kernel_rfl) [0, 1, 4, 5, 6, 12, 13, 14] (fun q G' fr H' => ∃ i : Nat, i + q = l.length ∧ OnceN n (l.take i) ∧ G' = G2 ∧ H' = (b, .cells (atR n (l.take i)) [] 3) :: H ∧ fr = [(0, .int .i64 (n : Nat)), (1, .slice a l.length cap), (4, .slice none 0 0), (5, .bool false), (6, .slice (some ⟨b, 0, none⟩) n n), (12, .slice a l.length cap), (13, .int .i64 l.length), (14, .int .i64 (i : Nat))]) (l.length) ?_ ?_
 ·refine Upd.now ?_
  exact ⟨0, by omega, ⟨by rw [List.take_zero]; exact List.nodup_nil, fun x hx => by rw [List.take_zero] at hx; cases hx⟩, rfl, by rw [List.take_zero], rfl⟩
 ·rintro q G1 fr H' hle hs1 ⟨i, hiq, hO, rfl, rfl, rfl⟩
  have hsE := hs1
  try simp only [zzs] at hsE
  repeat (obtain ⟨hsx, hsE⟩ := hsE)
  by_cases hil : i < l.length
  ·have had : Adr a := hrow.adr (by rw [List.length_map]; omega)
   have htk := List.take_succ_eq_append_getElem hil
   have htl : (l.take i).length = i := by rw [List.length_take]; omega
   by_cases hbad : l[i] < 0 ∨ (n : Int) ≤ l[i] ∨ l[i] ∈ l.take i
   ·have hno : ¬ OnceN n l := fun h => by
     rcases hbad with hb1 | hb1 | hb1
     ·have := (h.2 _ (List.getElem_mem hil)).1; omega
     ·have := (h.2 _ (List.getElem_mem hil)).2; omega
     ·have h2 := h.1.sublist (List.take_sublist (i + 1) l)
      rw [htk, List.nodup_append] at h2
      exact h2.2.2 _ hb1 _ (List.mem_singleton.2 rfl) rfl
    by_cases hr : 0 ≤ l[i] ∧ l[i] < n
    ·obtain ⟨s, hs⟩ := Int.eq_ofNat_of_zero_le hr.1
     have hsn : s < n := by omega
     have hmem : l[i] ∈ l.take i := by rcases hbad with hb1 | hb1 | hb1 <;> first | omega | exact hb1
     rw [hs] at hmem
     have hg := atR_get (l.take i) hsn
     have hf := findF_memW.2 hmem
     generalize hfv : findF (l.take i) (s : Int) = fv at *
     repeat' first
      | (with_reducible first | refine Nx.go ?_ | refine Bk.go (fun _ => ?_) fun _ => ?_)
      | ((with_reducible first | refine NewB.mk2 fun nb hnb hnb1 hnb2 => ?_ | refine NewRow.mk2 fun nb nsp ncap hnb hncap hnb1 hnb2 => ?_); try simp only [zzn] at hnb2)
      | simp -dsimp -implicitDefEqProofs (disch := first | assumption | (simp only [zzm]; done) | omega | (try with_reducible refine Row.adr (by assumption) ?_); simp only [zzl, Nat.reduceAdd]; first | done | omega) only [go_sem, ↓reduceIte, seval, Row.obj hrow2, List.getElem_map, hs, hg]
     all_goals try (exfalso; omega)
     unfold UpdR
     exact Upd.go (H' := H) (by intro fsum; first | exact Nat.le_refl _ | (simp only [zzq]; omega)) (Upd.now (hR2 G1 hle2 (by assumption) hno))
    ·repeat' first
      | (with_reducible first | refine Nx.go ?_ | refine Bk.go (fun _ => ?_) fun _ => ?_)
      | ((with_reducible first | refine NewB.mk2 fun nb hnb hnb1 hnb2 => ?_ | refine NewRow.mk2 fun nb nsp ncap hnb hncap hnb1 hnb2 => ?_); try simp only [zzn] at hnb2)
      | simp -dsimp -implicitDefEqProofs (disch := first | assumption | (simp only [zzm]; done) | omega | (try with_reducible refine Row.adr (by assumption) ?_); simp only [zzl, Nat.reduceAdd]; first | done | omega) only [go_sem, ↓reduceIte, seval, Row.obj hrow2, List.getElem_map]
     all_goals try (exfalso; omega)
     all_goals unfold UpdR
     all_goals exact Upd.go (H' := H) (by intro fsum; first | exact Nat.le_refl _ | (simp only [zzq]; omega)) (Upd.now (hR2 G1 hle2 (by assumption) hno))
   ·have hb1 : 0 ≤ l[i] ∧ l[i] < n := by omega
    have hb2 : l[i] ∉ l.take i := fun h => hbad (.inr (.inr h))
    obtain ⟨s, hs⟩ := Int.eq_ofNat_of_zero_le hb1.1
    have hsn : s < n := by omega
    have hO2 : OnceN n (l.take (i + 1)) := by
     have h3 := hO.add1 hb1
     unfold add1 at h3
     rw [if_neg hb2, ← htk] at h3
     exact h3
    rw [hs] at hb2
    have hg := atR_get (l.take i) hsn
    have hf : findF (l.take i) (s : Int) < 0 := by
     rcases Int.lt_or_le (findF (l.take i) (s : Int)) 0 with h | h
     ·exact h
     ·exact absurd (findF_memW.1 h) hb2
    have hput := atR_put hsn hb2
    rw [htl, ← hs, ← htk] at hput
    have hal := atR_len n (l.take i)
    generalize hfv : findF (l.take i) (s : Int) = fv at *
    repeat' first
     | (with_reducible first | refine Nx.go ?_ | refine Bk.go (fun _ => ?_) fun _ => ?_)
     | ((with_reducible first | refine NewB.mk2 fun nb hnb hnb1 hnb2 => ?_ | refine NewRow.mk2 fun nb nsp ncap hnb hncap hnb1 hnb2 => ?_); try simp only [zzn] at hnb2)
     | simp -dsimp -implicitDefEqProofs (disch := first | assumption | (simp only [zzm]; done) | omega | (try with_reducible refine Row.adr (by assumption) ?_); simp only [zzl, Nat.reduceAdd]; first | done | omega) only [go_sem, ↓reduceIte, seval, Row.obj hrow2, List.getElem_map, hs, hg, hput]
    all_goals try (exfalso; omega)
    exact Upd.now ⟨q - 1, by omega, i + 1, by omega, hO2, rfl, rfl, rfl⟩
  ·obtain rfl : i = l.length := by omega
   rw [List.take_length] at hO hs1 ⊢
   by_cases hl0 : l.length = 0
   ·have hl1 : l = [] := List.eq_nil_of_length_eq_zero hl0
    have hh : decide (l.head? = some 0) = false := by rw [hl1]; rfl
    rw [hh] at hR
    repeat' first
     | (with_reducible first | refine Nx.go ?_ | refine Bk.go (fun _ => ?_) fun _ => ?_)
     | ((with_reducible first | refine NewB.mk2 fun nb hnb hnb1 hnb2 => ?_ | refine NewRow.mk2 fun nb nsp ncap hnb hncap hnb1 hnb2 => ?_); try simp only [zzn] at hnb2)
     | with_reducible refine Tri.drawH tok mixed [0, 1, 4, 5, 6, 7, 8, 12, 13, 14, 15, 32] 9 [7] (.op 0 .plain (.op 1 .plain (.op 2 .plain (.op 3 .plain (.op 4 .plain (.op 5 .plain (.op 6 .plain (.op 7 .held (.op 8 .plain (.op 9 .plain (.op 10 .plain (.op 11 .plain .nil)))))))))))) (by kernel_rfl) [1] ?_
     | simp -dsimp -implicitDefEqProofs (disch := first | assumption | (simp only [zzm]; done) | omega | (try with_reducible refine Row.adr (by assumption) ?_); simp only [zzl, Nat.reduceAdd]; first | done | omega) only [go_sem, ↓reduceIte, seval]
    all_goals try (exfalso; omega)
    unfold UpdR
    exact Upd.now (hR G1 b hle2 hs1 hO)
   ·have h0l : 0 < l.length := by omega
    have had : Adr a := hrow.adr (by rw [List.length_map]; omega)
    have hhd : l.head? = some l[0] := by rw [List.head?_eq_getElem?, List.getElem?_eq_getElem h0l]
    have hh : decide (l.head? = some 0) = decide (l[0] = 0) := by rw [hhd]; simp
    rw [hh] at hR
    have hob : ∀ (H : Heap) (k : Value → Prop), objK G1 H (blk a) (G1 (blk a)) (ofs a) k = k (.int .i64 l[0]) := fun H k => by
     have := Row.obj hrow2 (i := 0) (by rw [List.length_map]; omega) H k
     rw [Nat.add_zero, List.getElem_map] at this
     exact this
    repeat' first
     | (with_reducible first | refine Nx.go ?_ | refine Bk.go (fun _ => ?_) fun _ => ?_)
     | ((with_reducible first | refine NewB.mk2 fun nb hnb hnb1 hnb2 => ?_ | refine NewRow.mk2 fun nb nsp ncap hnb hncap hnb1 hnb2 => ?_); try simp only [zzn] at hnb2)
     | with_reducible refine Tri.drawH tok mixed [0, 1, 4, 5, 6, 7, 8, 12, 13, 14, 15, 32] 9 [7] (.op 0 .plain (.op 1 .plain (.op 2 .plain (.op 3 .plain (.op 4 .plain (.op 5 .plain (.op 6 .plain (.op 7 .held (.op 8 .plain (.op 9 .plain (.op 10 .plain (.op 11 .plain .nil)))))))))))) (by kernel_rfl) [1] ?_
     | simp -dsimp -implicitDefEqProofs (disch := first | assumption | (simp only [zzm]; done) | omega | (try with_reducible refine Row.adr (by assumption) ?_); simp only [zzl, Nat.reduceAdd]; first | done | omega) only [go_sem, ↓reduceIte, seval, hob]
    all_goals try (exfalso; omega)
    unfold UpdR
    exact Upd.now (hR G1 b hle2 hs1 hO)
end Go.Proofs.YtefkpedhbijhkaaGreatDoor
namespace Go.Proofs.YtefkpedhbijhkaaGreatDoor
open Go Go.V Go.Proofs
theorem atR_ints (n : Nat) (l : List Int) : atR n l = ((List.range n).map fun t : Nat => findF l (t : Int)).map (Value.int .i64) := by
 unfold atR; rw [List.map_map]; rfl
def rowK (d : DfaT) (l : List Int) (s : Int) : List Int := (nextF d s).map (findF l)
def labF (d : DfaT) (l : List Int) : List Int := l.map fun s => d.label.getD s.toNat 0
def keepD (d : DfaT) (l : List Int) : DfaT := ⟨d.of, d.width, l.map (rowK d l), labF d l, d.names⟩
def fineK (d : DfaT) (l : List Int) (s : Int) : Prop := ∀ t ∈ nextF d s, t ∈ l
def KeepOk (d : DfaT) (l : List Int) : Prop := (OnceN d.label.length l ∧ l.head? = some 0) ∧ ∀ s ∈ l, fineK d l s
noncomputable def keepR (d : DfaT) (l : List Int) : DfaT × Int :=
 haveI := Classical.propDecidable; if RightP d then if KeepOk d l then (keepD d l, 0) else (zeroD, 1) else (zeroD, 6)
theorem keepR_bad {d : DfaT} {l : List Int} (h : ¬ RightP d) : keepR d l = (zeroD, 6) := by unfold keepR; rw [if_neg h]
theorem keepR_not {d : DfaT} {l : List Int} (h : RightP d) (h2 : ¬ KeepOk d l) : keepR d l = (zeroD, 1) := by unfold keepR; rw [if_pos h, if_neg h2]
theorem keepR_ok {d : DfaT} {l : List Int} (h : RightP d) (h2 : KeepOk d l) : keepR d l = (keepD d l, 0) := by unfold keepR; rw [if_pos h, if_pos h2]
def LabK (d : DfaT) (l : List Int) (j : Nat) (vl : Value) (kl : Heap) : Prop :=
 (j = 0 ∧ vl = .slice none 0 0 ∧ kl = []) ∨ ∃ bl c2 sp2, vl = .slice (some ⟨bl, 0, none⟩) j c2 ∧ kl = [(bl, .cells (((labF d l).take j).map (Value.int .i64)) sp2 3)] ∧ j + sp2.length = c2
theorem kp6_t {d : DfaT} (hsm : SmallD d) {C : List Value} {an al ay : Option Addr} {cn cl cs : Nat} {rs : List Value} {G : PHeap} {H : Heap} (O : OpenD G d C an al ay cn cl cs rs) {v0 v1 v6 v7 : Value} {b2 b4 : Nat} :
  Tri Tryz.prog Tryz.f31.ntmps (piece [1, 1, 1, 1, 0] Tryz.f31) G [(0, v0), (1, v1), (2, .pointer (some ⟨b2, 0, none⟩)), (4, .pointer (some ⟨b4, 0, none⟩)), (5, .int .i64 0), (6, v6), (7, v7)] ((b4, .cells zeroC [] 27) :: (b2, .cells C [] 27) :: H) (onlyN fun G' fr' H' =>
   ∃ b7 vs, PLe G G' ∧ Sl G' str vs d.names ∧ restrict [0, 1, 2, 4, 5, 6, 7, 8] fr' = [(0, v0), (1, v1), (2, .pointer (some ⟨b2, 0, none⟩)), (4, .pointer (some ⟨b4, 0, none⟩)), (5, .int .i64 0), (6, v6), (7, v7), (8, .pointer (some ⟨b7, 0, none⟩))] ∧ H' = (b7, .cells (cellsD d (.slice none 0 0) (.slice none 0 0) vs) [] 27) :: (b4, .cells zeroC [] 27) :: (b2, .cells C [] 27) :: H) := by
 obtain ⟨hm1, hm2, hm3, hm4, hm5⟩ := id hsm
 have hCl := O.len
 have hCw := O.w
 have hCs := O.s
 have hCo := O.of
 have hofl : (u8L d.of).length = 256 := by rw [List.length_map, O.ofl]
 have hb1 := build_of O.ofl
 have hb2 := build_w O.ofl
 have hl1 : (u8L d.of ++ [Value.int .i64 0, Value.slice none 0 0, Value.slice none 0 0, Value.slice none 0 0]).length = 260 := by rw [List.length_append, hofl]; rfl
 have hl2 : ∀ v : Value, (cellsD d (.slice none 0 0) (.slice none 0 0) v).length = 260 := fun v => cellsD_len O.ofl _ _ _
 have hb3 := build_s O.ofl (.slice none 0 0) (.slice none 0 0) (.slice none 0 0)
 have hputz : ∀ v : Value, splice zeroC 0 (cellsD d (.slice none 0 0) (.slice none 0 0) v) = cellsD d (.slice none 0 0) (.slice none 0 0) v := fun v => by
  unfold splice
  rw [List.take_zero, List.nil_append, List.drop_of_length_le (by rw [zeroC_len, hl2]; omega), List.append_nil]
 refine Tri.sepT fun hs0 => ?_
 have hsE := hs0
 try simp only [zzs] at hsE
 repeat (obtain ⟨hsx, hsE⟩ := hsE)
 refine Tri.piece (f := Tryz.f31) rfl ?_
 refine Tri.run tok [0, 1, 2, 4, 5, 6, 7, 8, 10, 11, 12, 13, 16, 27, 37, 38, 39, 40, 50, 51, 52, 53, 61] (by kernel_rfl) ?_
 repeat' first
  | (with_reducible first | refine Nx.go ?_ | refine Bk.go (fun _ => ?_) fun _ => ?_)
  | ((with_reducible first | refine NewB.mk2 fun nb hnb hnb1 hnb2 => ?_ | refine NewRow.mk2 fun nb nsp ncap hnb hncap hnb1 hnb2 => ?_); try simp only [zzn] at hnb2)
  | with_reducible refine Tri.drawH tok mixed [0, 1, 2, 4, 5, 6, 7, 8, 10, 11, 12, 13, 16, 27, 37, 38, 39, 40, 50, 51, 52, 53, 61] 6 [1, 3, 5] (.op 0 .plain (.op 1 .held (.op 2 .plain (.op 3 .held (.op 4 .plain (.op 5 .held (.both (.op 6 .keeps (.op 7 .plain (.op 8 .keeps (.op 9 .plain .nil)))) (.op 8 .keeps (.op 6 .keeps (.op 7 .plain (.op 9 .plain .nil))))))))))) (by kernel_rfl) [2] ?_
  | with_reducible refine Tri.drawM tok mixed [0, 1, 2, 4, 5, 6, 7, 8, 10, 11, 12, 13, 16, 27, 37, 38, 39, 40, 50, 51, 52, 53, 61] 19 [1, 3, 6] (.op 0 .plain (.op 1 .held (.op 2 .plain (.op 3 .held (.op 4 .plain (.op 5 .plain (.op 6 .held (.op 7 .keeps (.op 8 .keeps (.op 9 .plain (.op 10 .plain .nil))))))))))) (by kernel_rfl) _ (List.Sublist.refl _) ?_
  | simp -dsimp -implicitDefEqProofs (disch := first | assumption | (simp only [zzm]; done) | omega | (try with_reducible refine Row.adr (by assumption) ?_); simp only [zzl, Nat.reduceAdd]; first | done | omega) only [go_sem, ↓reduceIte, seval, -List.reduceReplicate, List.toList_toArray, hCl, hCw, hCs, hCo, hofl, hb1, hb2, hb3, hl1, hl2, zeroC_len, zeroC_one, hputz]
  | ((with_reducible refine clones_t d.names hm4 O.names fun G4 v4 hle4 hs4 hsl4 => ?_); obtain ⟨ay4, cy4, rfl, hr4, hc4⟩ := hsl4; have hone := cellsD_one (d := d) (vn := .slice none 0 0) (vl := .slice none 0 0) (vs := .slice ay4 d.names.length cy4) rfl rfl rfl; (have hsE := hs4; try simp only [zzs] at hsE; repeat (obtain ⟨hsx, hsE⟩ := hsE)))
  | (with_reducible refine And.intro ?_ ?_)
 all_goals exact Upd.now ⟨nb, _, hle4, ⟨ay4, cy4, rfl, hr4, hc4⟩, rfl, rfl⟩
theorem kr19_t {d : DfaT} {l : List Int} {C : List Value} {an al ay : Option Addr} {cn cl cs : Nat} {rs : List Value} {G : PHeap} {H : Heap} (O : OpenD G d C an al ay cn cl cs rs) {v0 v1 v6 v7 v35 v36 v37 : Value} {b2 b4 b7 : Nat} {j t : Nat} (hj : j < l.length) (hjb : j < 65536) (ht : t < d.label.length) (hsj : l[j] = (t : Int)) {vn vl vs : Value} {kl : Heap} (hout : LabK d l j vl kl) :
  Tri Tryz.prog Tryz.f31.ntmps (piece [1, 1, 1, 1, 1, 0, 1, 0, 0, 1, 1, 0, 0, 1, 1, 1, 1] Tryz.f31) G [(0, v0), (1, v1), (2, .pointer (some ⟨b2, 0, none⟩)), (4, .pointer (some ⟨b4, 0, none⟩)), (5, .int .i64 0), (6, v6), (7, v7), (8, .pointer (some ⟨b7, 0, none⟩)), (10, .int .i64 (t : Nat)), (37, v35), (38, v36), (39, v37)] ((b7, .cells (cellsD d vn vl vs) [] 27) :: (b2, .cells C [] 27) :: (kl ++ H)) (onlyN fun G' fr' H' =>
   ∃ vl' kl', G' = G ∧ LabK d l (j + 1) vl' kl' ∧ restrict [0, 1, 2, 4, 5, 6, 7, 8, 37, 38, 39] fr' = [(0, v0), (1, v1), (2, .pointer (some ⟨b2, 0, none⟩)), (4, .pointer (some ⟨b4, 0, none⟩)), (5, .int .i64 0), (6, v6), (7, v7), (8, .pointer (some ⟨b7, 0, none⟩)), (37, v35), (38, v36), (39, v37)] ∧ H' = (b7, .cells (cellsD d vn vl' vs) [] 27) :: (b2, .cells C [] 27) :: (kl' ++ H)) := by
 have hCl := O.len
 have hCx := O.l
 have hl2 : ∀ a b c : Value, (cellsD d a b c).length = 260 := fun a b c => cellsD_len O.ofl _ _ _
 have hg2 : ∀ a b c : Value, (cellsD d a b c)[258]? = some b := fun a b c => cellsD_l O.ofl _ _ _
 have hputL : ∀ a b c x : Value, splice (cellsD d a b c) 258 [x] = cellsD d a x c := fun a b c x => cellsD_putL O.ofl _ _ _ _
 have hlt : d.label[t] = d.label.getD t 0 := by rw [List.getD_eq_getElem?_getD, List.getElem?_eq_getElem ht]; rfl
 have hlab : (labF d l).take (j + 1) = (labF d l).take j ++ [d.label.getD t 0] := by
  have hjl : j < (labF d l).length := by unfold labF; rw [List.length_map]; exact hj
  rw [List.take_succ_eq_append_getElem hjl]
  congr 2
  simp only [labF, List.getElem_map, hsj, Int.toNat_natCast]
 have hlj : ((labF d l).take j).length = j := by rw [List.length_take]; unfold labF; rw [List.length_map]; omega
 have had2 : Adr al := O.rl.adr (by rw [List.length_map]; omega)
 refine Tri.sepT fun hs0 => ?_
 rcases hout with ⟨hj0, rfl, rfl⟩ | ⟨bl, c2, sp2, rfl, rfl, hc2⟩
 ·have hsE := hs0
  try simp only [zzs] at hsE
  repeat (obtain ⟨hsx, hsE⟩ := hsE)
  have hce : ((labF d l).take (j + 1)).map (Value.int .i64) = [Value.int .i64 (d.label.getD t 0)] := by rw [hlab, List.map_append, List.eq_nil_of_length_eq_zero (hlj.trans hj0)]; rfl
  refine Tri.piece (f := Tryz.f31) rfl ?_
  refine Tri.run tok [0, 1, 2, 4, 5, 6, 7, 8, 10, 11, 12, 13, 16, 27, 37, 38, 39, 40, 50, 51, 52, 53, 61] (by kernel_rfl) ?_
  repeat' first
   | (with_reducible first | refine Nx.go ?_ | refine Bk.go (fun _ => ?_) fun _ => ?_)
   | ((with_reducible first | refine NewB.mk2 fun nb hnb hnb1 hnb2 => ?_ | refine NewRow.mk2 fun nb nsp ncap hnb hncap hnb1 hnb2 => ?_); try simp only [zzn] at hnb2)
   | simp -dsimp -implicitDefEqProofs (disch := first | assumption | (simp only [zzm]; done) | omega | (try with_reducible refine Row.adr (by assumption) ?_); simp only [zzl, Nat.reduceAdd]; first | done | omega) only [go_sem, ↓reduceIte, seval, -List.reduceReplicate, List.replicate_one, List.toList_toArray, hCl, hCx, hl2, hg2, hputL, Row.obj O.rl, List.getElem_map, hlt, Int.toNat_natCast, Nat.sub_self]
   | with_reducible refine Tri.drawH tok mixed [0, 1, 2, 4, 5, 6, 7, 8, 10, 11, 12, 13, 16, 27, 37, 38, 39, 40, 50, 51, 52, 53, 61] 19 [1, 3, 6] (.op 0 .plain (.op 1 .held (.op 2 .plain (.op 3 .held (.op 4 .plain (.op 5 .plain (.op 6 .held (.op 7 .keeps (.op 8 .keeps (.op 9 .plain (.op 10 .plain .nil))))))))))) (by kernel_rfl) [8, 2] ?_
  rw [← hce]
  exact Upd.go (H' := (b7, .cells (cellsD d vn (.slice (some ⟨nb, 0, none⟩) 1 ncap) vs) [] 27) :: (b2, .cells C [] 27) :: ([(nb, .cells (((labF d l).take (j + 1)).map (Value.int .i64)) nsp 3)] ++ H)) (by intro fsum; first | exact Nat.le_refl _ | (simp only [zzq]; omega)) (Upd.now ⟨.slice (some ⟨nb, 0, none⟩) 1 ncap, _, rfl, .inr ⟨nb, ncap, nsp, by rw [hj0], rfl, by omega⟩, rfl, rfl⟩)
 ·have hsE := hs0
  try simp only [zzs] at hsE
  repeat (obtain ⟨hsx, hsE⟩ := hsE)
  obtain ⟨ps, hps, hpl⟩ : ∃ ps, ps = ((labF d l).take j).map (Value.int .i64) ∧ ps.length = j := ⟨_, rfl, by rw [List.length_map, hlj]⟩
  have hce : ((labF d l).take (j + 1)).map (Value.int .i64) = ps ++ [Value.int .i64 (d.label.getD t 0)] := by rw [hlab, List.map_append, ← hps]; rfl
  rw [← hps]
  refine Tri.piece (f := Tryz.f31) rfl ?_
  refine Tri.run tok [0, 1, 2, 4, 5, 6, 7, 8, 10, 11, 12, 13, 16, 27, 37, 38, 39, 40, 50, 51, 52, 53, 61] (by kernel_rfl) ?_
  repeat' first
   | (with_reducible first | refine Nx.go ?_ | refine Bk.go (fun _ => ?_) fun _ => ?_)
   | ((with_reducible first | refine NewB.mk2 fun nb hnb hnb1 hnb2 => ?_ | refine NewRow.mk2 fun nb nsp ncap hnb hncap hnb1 hnb2 => ?_); try simp only [zzn] at hnb2)
   | simp -dsimp -implicitDefEqProofs (disch := first | assumption | (simp only [zzm]; done) | omega | (try with_reducible refine Row.adr (by assumption) ?_); simp only [zzl, Nat.reduceAdd]; first | done | omega) only [go_sem, ↓reduceIte, seval, -List.reduceReplicate, List.replicate_one, List.toList_toArray, hCl, hCx, hl2, hg2, hputL, Row.obj O.rl, List.getElem_map, hlt, Int.toNat_natCast, Nat.sub_self]
   | with_reducible refine Tri.drawH tok mixed [0, 1, 2, 4, 5, 6, 7, 8, 10, 11, 12, 13, 16, 27, 37, 38, 39, 40, 50, 51, 52, 53, 61] 19 [1, 3, 6] (.op 0 .plain (.op 1 .held (.op 2 .plain (.op 3 .held (.op 4 .plain (.op 5 .plain (.op 6 .held (.op 7 .keeps (.op 8 .keeps (.op 9 .plain (.op 10 .plain .nil))))))))))) (by kernel_rfl) [8, 2] ?_
  rw [← hce]
  exact Upd.go (H' := (b7, .cells (cellsD d vn (.slice (some ⟨nb, 0, none⟩) (j + 1) ncap) vs) [] 27) :: (b2, .cells C [] 27) :: ([(nb, .cells (((labF d l).take (j + 1)).map (Value.int .i64)) nsp 3)] ++ H)) (by intro fsum; first | exact Nat.le_refl _ | (simp only [zzq]; omega)) (Upd.now ⟨_, _, rfl, .inr ⟨nb, ncap, nsp, rfl, rfl, by omega⟩, rfl, rfl⟩)
end Go.Proofs.YtefkpedhbijhkaaGreatDoor
namespace Go.Proofs.YtefkpedhbijhkaaGreatDoor
open Go Go.V Go.Proofs
def RowK (d : DfaT) (l : List Int) (G' : PHeap) (j : Nat) (vn : Value) (kn : Heap) : Prop :=
 (j = 0 ∧ vn = .slice none 0 0 ∧ kn = []) ∨ ∃ bn c1 rv sp1, vn = .slice (some ⟨bn, 0, none⟩) j c1 ∧ kn = [(bn, .cells rv sp1 24)] ∧ rv.length = j ∧ j + sp1.length = c1 ∧
  ∀ i (h : i < j) (h2 : i < rv.length) (h3 : i < l.length), ∃ b c, rv[i] = .slice b (rowK d l l[i]).length c ∧ Row G' b ((rowK d l l[i]).map (Value.int .i64)) ∧ (rowK d l l[i]).length ≤ c
theorem kx_t {d : DfaT} (hsm : SmallD d) (hok : RightP d) {l : List Int} (hO : OnceN d.label.length l) {C : List Value} {an al ay : Option Addr} {cn cl cs : Nat} {rs : List Value} {G : PHeap} {H : Heap} (O : OpenD G d C an al ay cn cl cs rs) {v0 v1 v7 : Value} {b2 b4 b7 : Nat} {an3 ah : Option Addr} {cn3 ch : Nat} (hr3 : Row G an3 (((List.range d.label.length).map fun t : Nat => findF l (t : Int)).map (Value.int .i64))) (hrh : Row G ah ((l).map (Value.int .i64))) {j : Nat} (hj : j < l.length) {vn vl vs : Value} {kn kl : Heap} (hout : RowK d l G j vn kn) (hlab0 : LabK d l j vl kl) (hvs : oneV vs = true) (hfine : fineK d l (l[j]'hj)) :
  Tri Tryz.prog Tryz.f31.ntmps (piece [1, 1, 1, 1, 1, 0, 1, 0, 0, 1, 1, 0, 0] Tryz.f31) G [(0, v0), (1, v1), (2, .pointer (some ⟨b2, 0, none⟩)), (4, .pointer (some ⟨b4, 0, none⟩)), (5, .int .i64 0), (6, .slice an3 d.label.length cn3), (7, v7), (8, .pointer (some ⟨b7, 0, none⟩)), (37, .slice ah l.length ch), (38, .int .i64 l.length), (39, .int .i64 (j : Nat))] ((b7, .cells (cellsD d vn vl vs) [] 27) :: (b2, .cells C [] 27) :: (kn ++ (kl ++ H))) (onlyN fun G' fr' H' =>
   ∃ vn' vl' kn' kl', PLe G G' ∧ RowK d l G' (j + 1) vn' kn' ∧ LabK d l (j + 1) vl' kl' ∧ restrict [0, 1, 2, 4, 5, 6, 7, 8, 37, 38, 39] fr' = [(0, v0), (1, v1), (2, .pointer (some ⟨b2, 0, none⟩)), (4, .pointer (some ⟨b4, 0, none⟩)), (5, .int .i64 0), (6, .slice an3 d.label.length cn3), (7, v7), (8, .pointer (some ⟨b7, 0, none⟩)), (37, .slice ah l.length ch), (38, .int .i64 l.length), (39, .int .i64 (j : Nat))] ∧ H' = (b7, .cells (cellsD d vn' vl' vs) [] 27) :: (b2, .cells C [] 27) :: (kn' ++ (kl' ++ H))) := by
 obtain ⟨hm1, hm2, hm3, hm4, hm5⟩ := id hsm
 obtain ⟨hk1, hk2, hk3, hk4, hk5, hk6, hk7⟩ := id hok
 have hal : (((List.range d.label.length).map fun t : Nat => findF l (t : Int)).map (Value.int .i64)).length = d.label.length := by rw [List.length_map, List.length_map, List.length_range]
 have hCl := O.len
 have hCw := O.w
 have hCn := O.n
 have hCx := O.l
 have hl2 : ∀ a b c : Value, (cellsD d a b c).length = 260 := fun a b c => cellsD_len O.ofl _ _ _
 have hg1 : ∀ a b c : Value, (cellsD d a b c)[257]? = some a := fun a b c => cellsD_n O.ofl _ _ _
 have hg2 : ∀ a b c : Value, (cellsD d a b c)[258]? = some b := fun a b c => cellsD_l O.ofl _ _ _
 have hputN : ∀ a b c x : Value, splice (cellsD d a b c) 257 [x] = cellsD d x b c := fun a b c x => cellsD_putN O.ofl _ _ _ _
 have hputL : ∀ a b c x : Value, splice (cellsD d a b c) 258 [x] = cellsD d a x c := fun a b c x => cellsD_putL O.ofl _ _ _ _
 have hjm := hO.2 _ (List.getElem_mem hj)
 obtain ⟨t, hsj⟩ := Int.eq_ofNat_of_zero_le hjm.1
 have htl : t < d.label.length := by omega
 have htn : t < d.next.length := by omega
 have htl2 : t < d.label.length := by omega
 have htv : t < rs.length := by have := O.rnl; omega
 obtain ⟨b, c, e1, e2, e3⟩ := O.rs t htn htv
 obtain ⟨hw0, hlt0, hlt1, hrng⟩ := hk7 t htn htl2
 obtain ⟨row, hrow⟩ : ∃ row, row = d.next[t] := ⟨_, rfl⟩
 have hrl := hm2 _ (List.getElem_mem htn)
 rw [← hrow] at e1 e2 e3 hw0 hrng hrl
 have hw : d.width = (row.length : Int) := hw0.symm
 obtain ⟨r, hr⟩ : ∃ r, r = rowK d l (t : Nat) := ⟨_, rfl⟩
 have hr' : r = row.map (findF l) := by rw [hr]; unfold rowK; rw [nextF_get htn, hrow]
 have hfr : ∀ x ∈ row, x ∈ l := fun x hx => by
  have h1 := hfine x
  rw [hsj, nextF_get htn, ← hrow] at h1
  exact h1 hx
 have hrlen : r.length = row.length := by rw [hr', List.length_map]
 have hlt : d.label[t] = d.label.getD t 0 := by rw [List.getD_eq_getElem?_getD, List.getElem?_eq_getElem htl2]; rfl
 have hlab : (labF d l).take (j + 1) = (labF d l).take j ++ [d.label.getD t 0] := by
  have hjl : j < (labF d l).length := by unfold labF; rw [List.length_map]; exact hj
  rw [List.take_succ_eq_append_getElem hjl]
  congr 2
  simp only [labF, List.getElem_map, hsj, Int.toNat_natCast]
 have hlj : ((labF d l).take j).length = j := by rw [List.length_take]; unfold labF; rw [List.length_map]; omega
 have hrj : rowK d l l[j] = r := by rw [hsj, hr]
 have had : Adr an := O.rn.adr (by omega)
 have had2 : Adr al := O.rl.adr (by rw [List.length_map]; omega)
 have had3 : Adr ah := hrh.adr (by rw [List.length_map]; omega)
 have had4 : Adr an3 := hr3.adr (by rw [List.length_map, List.length_map, List.length_range]; omega)
 have hjb : j < 65536 := by
  have h1 := hO.len
  omega
 refine Tri.sepT fun hs0 => ?_
 have hsE := hs0
 try simp only [zzs] at hsE
 repeat (obtain ⟨hsx, hsE⟩ := hsE)
 refine Tri.piece (f := Tryz.f31) rfl ?_
 refine Tri.runS tok [0, 1, 2, 4, 5, 6, 7, 8, 10, 11, 12, 13, 16, 27, 37, 38, 39, 40, 50, 51, 52, 53, 61] (.seq .run (.seq .run (.seq .run (.seq .run .cut)))) (by kernel_rfl) ?_
 repeat' first
  | (with_reducible first | refine Nx.go ?_ | refine Bk.go (fun _ => ?_) fun _ => ?_)
  | ((with_reducible first | refine NewB.mk2 fun nb hnb hnb1 hnb2 => ?_ | refine NewRow.mk2 fun nb nsp ncap hnb hncap hnb1 hnb2 => ?_); try simp only [zzn] at hnb2)
  | simp -dsimp -implicitDefEqProofs (disch := first | assumption | (simp only [zzm]; done) | omega | (try with_reducible refine Row.adr (by assumption) ?_); simp only [zzl, Nat.reduceAdd]; first | done | omega) only [go_sem, ↓reduceIte, seval, -List.reduceReplicate, List.toList_toArray, hCl, hCw, hCn, hCx, hw, hl2, hg1, hg2, hputN, hputL, Row.obj hrh, Row.obj O.rn, e1, Row.obj O.rl, Row.obj hr3, List.getElem_map, hsj, hlt, Int.toNat_natCast, Nat.sub_self, List.replicate_zero]
 revert nb
 intro br hbr hbr1 hbr2
 rw [show List.replicate row.length (Value.int .i64 0) = (partR r 0).map (Value.int .i64) by rw [← hrlen, partR_zero]]
 refine Tri.loopU tok [0, 1, 2, 4, 5, 6, 7, 8, 10, 11, 12, 13, 16, 27, 37, 38, 39, 40, 50, 51, 52, 53, 61] (by kernel_rfl) [0, 1, 2, 4, 5, 6, 7, 8, 10, 11, 37, 38, 39, 50, 51, 52] (fun q G' fr H' => ∃ k : Nat, k + q = row.length ∧ G' = G ∧ H' = (br, .cells ((partR r k).map (Value.int .i64)) [] 3) :: (b7, .cells (cellsD d vn vl vs) [] 27) :: (b2, .cells C [] 27) :: (kn ++ (kl ++ H)) ∧ fr = [(0, v0), (1, v1), (2, .pointer (some ⟨b2, 0, none⟩)), (4, .pointer (some ⟨b4, 0, none⟩)), (5, .int .i64 0), (6, .slice an3 d.label.length cn3), (7, v7), (8, .pointer (some ⟨b7, 0, none⟩)), (10, .int .i64 (t : Nat)), (11, .slice (some ⟨br, 0, none⟩) row.length row.length), (37, .slice ah l.length ch), (38, .int .i64 l.length), (39, .int .i64 (j : Nat)), (50, .slice b row.length c), (51, .int .i64 row.length), (52, .int .i64 (k : Nat))]) (row.length) ?_ ?_
 ·refine Upd.now ?_
  exact ⟨0, by omega, rfl, rfl, rfl⟩
 ·rintro q G1 fr H' hle hs ⟨k, hk, rfl, rfl, rfl⟩
  have hpl : (partR r k).length = row.length := by rw [partR_len r (by omega), hrlen]
  by_cases hkl : k < row.length
  ·have hsE := hs
   try simp only [zzs] at hsE
   repeat (obtain ⟨hsx, hsE⟩ := hsE)
   have hkr : k < r.length := by omega
   have had5 : Adr b := e2.adr (by rw [List.length_map]; omega)
   have hx := hrng _ (List.getElem_mem hkl)
   obtain ⟨y, hxy⟩ := Int.eq_ofNat_of_zero_le hx.1
   have hym : y < d.label.length := by omega
   have hval : findF l (y : Nat) = r[k] := by
    simp only [hr', List.getElem_map]
    rw [hxy]
   have hpos : 0 ≤ r[k] := by
    rw [← hval]
    refine findF_memW.2 ?_
    rw [← hxy]
    exact hfr _ (List.getElem_mem hkl)
   have hput := partR_put hkr
   repeat' first
    | (with_reducible first | refine Nx.go ?_ | refine Bk.go (fun _ => ?_) fun _ => ?_)
    | ((with_reducible first | refine NewB.mk2 fun nb hnb hnb1 hnb2 => ?_ | refine NewRow.mk2 fun nb nsp ncap hnb hncap hnb1 hnb2 => ?_); try simp only [zzn] at hnb2)
    | simp -dsimp -implicitDefEqProofs (disch := first | assumption | (simp only [zzm]; done) | omega | (try with_reducible refine Row.adr (by assumption) ?_); simp only [zzl, Nat.reduceAdd]; first | done | omega) only [go_sem, ↓reduceIte, seval, -List.reduceReplicate, Row.obj e2, Row.obj hr3, List.getElem_map, List.getElem_range, hxy, hval, hput, hpl, Int.toNat_natCast]
   all_goals try (exfalso; omega)
   refine Upd.now ?_
   exact ⟨q - 1, by omega, k + 1, by omega, rfl, rfl, rfl⟩
  ·obtain rfl : k = row.length := by omega
   have hpa : partR r row.length = r := by rw [← hrlen]; exact partR_all r
   rw [hpa] at hs ⊢
   rcases hout with ⟨hj0, rfl, rfl⟩ | ⟨bn, c1, rv, sp1, rfl, rfl, hrv, hc1, hrws⟩
   ·have hsE := hs
    try simp only [zzs] at hsE
    repeat (obtain ⟨hsx, hsE⟩ := hsE)
    repeat' first
     | (with_reducible first | refine Nx.go ?_ | refine Bk.go (fun _ => ?_) fun _ => ?_)
     | ((with_reducible first | refine NewB.mk2 fun nb hnb hnb1 hnb2 => ?_ | refine NewRow.mk2 fun nb nsp ncap hnb hncap hnb1 hnb2 => ?_); try simp only [zzn] at hnb2)
     | simp -dsimp -implicitDefEqProofs (disch := first | assumption | (simp only [zzm]; done) | omega | (try with_reducible refine Row.adr (by assumption) ?_); simp only [zzl, Nat.reduceAdd]; first | done | omega) only [go_sem, ↓reduceIte, seval, -List.reduceReplicate, List.length_map, hlj, List.replicate_one, List.toList_toArray, hCl, hCw, hCn, hCx, hw, hl2, hg1, hg2, hputN, hputL, Row.obj hrh, Row.obj O.rn, e1, Row.obj O.rl, Row.obj hr3, List.getElem_map, hsj, hlt, Int.toNat_natCast, Nat.sub_self, List.replicate_zero]
    refine Tri.upd (Upd.go (H' := (b7, .cells (cellsD d (.slice (some ⟨nb, 0, none⟩) 1 ncap) vl vs) [] 27) :: (b2, .cells C [] 27) :: (kl ++ ((br, .cells (r.map (Value.int .i64)) [] 3) :: (nb, .cells [.slice (some ⟨br, 0, none⟩) row.length row.length] nsp 24) :: H))) (by intro fsum; first | exact Nat.le_refl _ | (simp only [zzq]; omega)) (Upd.now ?_))
    refine Tri.live [0, 1, 2, 4, 5, 6, 7, 8, 10, 37, 38, 39] ?_
    refine Tri.isPiece [1, 1, 1, 1, 1, 0, 1, 0, 0, 1, 1, 0, 0, 1, 1, 1, 1] Tryz.f31 (by kernel_rfl) ?_
    refine Tri.onlyN (kr19_t O hj hjb htl2 hsj hlab0) fun G5 l5 H5 hle5 hs5 hM => ?_
    obtain ⟨vl', kl', rfl, hlab1, hfr, rfl⟩ := hM
    rw [onlyN_normal]
    have hsE := hs5
    try simp only [zzs] at hsE
    repeat (obtain ⟨hsx, hsE⟩ := hsE)
    refine Upd.go (H' := (br, .cells (r.map (Value.int .i64)) [] 3) :: (b7, .cells (cellsD d (.slice (some ⟨nb, 0, none⟩) 1 ncap) vl' vs) [] 27) :: (b2, .cells C [] 27) :: ([(nb, .cells [.slice (some ⟨br, 0, none⟩) row.length row.length] nsp 24)] ++ (kl' ++ H))) (by intro fsum; first | exact Nat.le_refl _ | (simp only [zzq]; omega)) (Upd.shareRow (by assumption) fun G6 hle6 hs6 hr6 => ?_)
    refine ⟨_, vl', _, kl', hle6, .inr ⟨nb, ncap, _, nsp, by rw [hj0], rfl, by rw [hj0]; rfl, by omega, fun i h h2 h3 => ?_⟩, hlab1, hfr, rfl⟩
    obtain rfl : i = 0 := by omega
    obtain rfl : j = 0 := hj0
    refine ⟨some ⟨br, 0, none⟩, row.length, ?_, ?_, ?_⟩
    ·rw [hrj, hrlen]; rfl
    ·rw [hrj]; exact hr6
    ·rw [hrj, hrlen]; exact Nat.le_refl _
   ·have hsE := hs
    try simp only [zzs] at hsE
    repeat (obtain ⟨hsx, hsE⟩ := hsE)
    repeat' first
     | (with_reducible first | refine Nx.go ?_ | refine Bk.go (fun _ => ?_) fun _ => ?_)
     | ((with_reducible first | refine NewB.mk2 fun nb hnb hnb1 hnb2 => ?_ | refine NewRow.mk2 fun nb nsp ncap hnb hncap hnb1 hnb2 => ?_); try simp only [zzn] at hnb2)
     | simp -dsimp -implicitDefEqProofs (disch := first | assumption | (simp only [zzm]; done) | omega | (try with_reducible refine Row.adr (by assumption) ?_); simp only [zzl, Nat.reduceAdd]; first | done | omega) only [go_sem, ↓reduceIte, seval, -List.reduceReplicate, List.length_map, hlj, List.replicate_one, List.toList_toArray, hCl, hCw, hCn, hCx, hw, hl2, hg1, hg2, hputN, hputL, Row.obj hrh, Row.obj O.rn, e1, Row.obj O.rl, Row.obj hr3, List.getElem_map, hsj, hlt, Int.toNat_natCast, Nat.sub_self, List.replicate_zero]
    refine Tri.upd (Upd.go (H' := (b7, .cells (cellsD d (.slice (some ⟨nb, 0, none⟩) (j + 1) ncap) vl vs) [] 27) :: (b2, .cells C [] 27) :: (kl ++ ((br, .cells (r.map (Value.int .i64)) [] 3) :: (nb, .cells (rv ++ [.slice (some ⟨br, 0, none⟩) row.length row.length]) nsp 24) :: H))) (by intro fsum; first | exact Nat.le_refl _ | (simp only [zzq]; omega)) (Upd.now ?_))
    refine Tri.live [0, 1, 2, 4, 5, 6, 7, 8, 10, 37, 38, 39] ?_
    refine Tri.isPiece [1, 1, 1, 1, 1, 0, 1, 0, 0, 1, 1, 0, 0, 1, 1, 1, 1] Tryz.f31 (by kernel_rfl) ?_
    refine Tri.onlyN (kr19_t O hj hjb htl2 hsj hlab0) fun G5 l5 H5 hle5 hs5 hM => ?_
    obtain ⟨vl', kl', rfl, hlab1, hfr, rfl⟩ := hM
    rw [onlyN_normal]
    have hsE := hs5
    try simp only [zzs] at hsE
    repeat (obtain ⟨hsx, hsE⟩ := hsE)
    refine Upd.go (H' := (br, .cells (r.map (Value.int .i64)) [] 3) :: (b7, .cells (cellsD d (.slice (some ⟨nb, 0, none⟩) (j + 1) ncap) vl' vs) [] 27) :: (b2, .cells C [] 27) :: ([(nb, .cells (rv ++ [.slice (some ⟨br, 0, none⟩) row.length row.length]) nsp 24)] ++ (kl' ++ H))) (by intro fsum; first | exact Nat.le_refl _ | (simp only [zzq]; omega)) (Upd.shareRow (by assumption) fun G6 hle6 hs6 hr6 => ?_)
    refine ⟨_, vl', _, kl', hle6, .inr ⟨nb, ncap, _, nsp, rfl, rfl, by rw [List.length_append, hrv]; rfl, by omega, fun i h h2 h3 => ?_⟩, hlab1, hfr, rfl⟩
    rcases Nat.lt_or_ge i j with hij | hij
    ·obtain ⟨b', c', f1, f2, f3⟩ := hrws i hij (by omega) h3
     exact ⟨b', c', by rw [List.getElem_append_left (by omega)]; exact f1, f2.mono hle6, f3⟩
    ·obtain rfl : i = j := by omega
     refine ⟨some ⟨br, 0, none⟩, row.length, ?_, ?_, ?_⟩
     ·rw [hrj, hrlen, List.getElem_append_right (by omega)]; simp [hrv]
     ·rw [hrj]; exact hr6
     ·rw [hrj, hrlen]; exact Nat.le_refl _
theorem kxb_t {d : DfaT} (hsm : SmallD d) (hok : RightP d) {l : List Int} (hO : OnceN d.label.length l) {C : List Value} {an al ay : Option Addr} {cn cl cs : Nat} {rs : List Value} {G : PHeap} {H : Heap} (O : OpenD G d C an al ay cn cl cs rs) {v0 v1 v7 : Value} {b2 b4 b7 : Nat} {an3 ah : Option Addr} {cn3 ch : Nat} (hr3 : Row G an3 (((List.range d.label.length).map fun t : Nat => findF l (t : Int)).map (Value.int .i64))) (hrh : Row G ah ((l).map (Value.int .i64))) {j : Nat} (hj : j < l.length) {B7 : List Value} (hbad : ¬ fineK d l (l[j]'hj)) :
  Tri Tryz.prog Tryz.f31.ntmps (piece [1, 1, 1, 1, 1, 0, 1, 0, 0, 1, 1, 0, 0] Tryz.f31) G [(0, v0), (1, v1), (2, .pointer (some ⟨b2, 0, none⟩)), (4, .pointer (some ⟨b4, 0, none⟩)), (5, .int .i64 0), (6, .slice an3 d.label.length cn3), (7, v7), (8, .pointer (some ⟨b7, 0, none⟩)), (37, .slice ah l.length ch), (38, .int .i64 l.length), (39, .int .i64 (j : Nat))] ((b4, .cells zeroC [] 27) :: (b7, .cells B7 [] 27) :: (b2, .cells C [] 27) :: H) (onlyR fun G' fr' H' => PLe G G' ∧ restrict [4, 5] fr' = [(4, .pointer (some ⟨b4, 0, none⟩)), (5, .int .i64 1)] ∧ H' = (b4, .cells zeroC [] 27) :: H) := by
 obtain ⟨hm1, hm2, hm3, hm4, hm5⟩ := id hsm
 obtain ⟨hk1, hk2, hk3, hk4, hk5, hk6, hk7⟩ := id hok
 have hal : (((List.range d.label.length).map fun t : Nat => findF l (t : Int)).map (Value.int .i64)).length = d.label.length := by rw [List.length_map, List.length_map, List.length_range]
 have hCl := O.len
 have hCw := O.w
 have hCn := O.n
 have hCx := O.l
 have hjm := hO.2 _ (List.getElem_mem hj)
 obtain ⟨t, hsj⟩ := Int.eq_ofNat_of_zero_le hjm.1
 have htl : t < d.label.length := by omega
 have htn : t < d.next.length := by omega
 have htl2 : t < d.label.length := by omega
 have htv : t < rs.length := by have := O.rnl; omega
 obtain ⟨b, c, e1, e2, e3⟩ := O.rs t htn htv
 obtain ⟨hw0, hlt0, hlt1, hrng⟩ := hk7 t htn htl2
 obtain ⟨row, hrow⟩ : ∃ row, row = d.next[t] := ⟨_, rfl⟩
 have hrl := hm2 _ (List.getElem_mem htn)
 rw [← hrow] at e1 e2 e3 hw0 hrng hrl
 have hw : d.width = (row.length : Int) := hw0.symm
 obtain ⟨r, hr⟩ : ∃ r, r = rowK d l (t : Nat) := ⟨_, rfl⟩
 have hr' : r = row.map (findF l) := by rw [hr]; unfold rowK; rw [nextF_get htn, hrow]
 have hfr : ¬ ∀ x ∈ row, x ∈ l := fun h => hbad fun y hy => by
  rw [hsj, nextF_get htn, ← hrow] at hy
  exact h y hy
 have hrlen : r.length = row.length := by rw [hr', List.length_map]
 have had : Adr an := O.rn.adr (by omega)
 have had3 : Adr ah := hrh.adr (by rw [List.length_map]; omega)
 have had4 : Adr an3 := hr3.adr (by rw [List.length_map, List.length_map, List.length_range]; omega)
 have hjb : j < 65536 := by
  have h1 := hO.len
  omega
 refine Tri.sepT fun hs0 => ?_
 have hsE := hs0
 try simp only [zzs] at hsE
 repeat (obtain ⟨hsx, hsE⟩ := hsE)
 refine Tri.piece (f := Tryz.f31) rfl ?_
 refine Tri.run tok [0, 1, 2, 4, 5, 6, 7, 8, 10, 11, 12, 13, 16, 27, 37, 38, 39, 40, 50, 51, 52, 53, 61] (by kernel_rfl) ?_
 repeat' first
  | (with_reducible first | refine Nx.go ?_ | refine Bk.go (fun _ => ?_) fun _ => ?_)
  | ((with_reducible first | refine NewB.mk2 fun nb hnb hnb1 hnb2 => ?_ | refine NewRow.mk2 fun nb nsp ncap hnb hncap hnb1 hnb2 => ?_); try simp only [zzn] at hnb2)
  | simp -dsimp -implicitDefEqProofs (disch := first | assumption | (simp only [zzm]; done) | omega | (try with_reducible refine Row.adr (by assumption) ?_); simp only [zzl, Nat.reduceAdd]; first | done | omega) only [go_sem, ↓reduceIte, seval, -List.reduceReplicate, List.toList_toArray, hCl, hCw, hCn, hCx, hw, Row.obj hrh, Row.obj O.rn, e1, Row.obj hr3, List.getElem_map, hsj, Int.toNat_natCast, Nat.sub_self, List.replicate_zero]
 revert nb
 intro br hbr hbr1 hbr2
 rw [show List.replicate row.length (Value.int .i64 0) = (partR r 0).map (Value.int .i64) by rw [← hrlen, partR_zero]]
 refine Tri.loopU tok [0, 1, 2, 4, 5, 6, 7, 8, 10, 11, 12, 13, 16, 27, 37, 38, 39, 40, 50, 51, 52, 53, 61] (by kernel_rfl) [0, 1, 2, 4, 5, 6, 7, 8, 10, 11, 37, 38, 39, 50, 51, 52] (fun q G' fr H' => ∃ k : Nat, k + q = row.length ∧ (∀ i (h : i < row.length), i < k → row[i] ∈ l) ∧ G' = G ∧ H' = (br, .cells ((partR r k).map (Value.int .i64)) [] 3) :: (b4, .cells zeroC [] 27) :: (b7, .cells B7 [] 27) :: (b2, .cells C [] 27) :: H ∧ fr = [(0, v0), (1, v1), (2, .pointer (some ⟨b2, 0, none⟩)), (4, .pointer (some ⟨b4, 0, none⟩)), (5, .int .i64 0), (6, .slice an3 d.label.length cn3), (7, v7), (8, .pointer (some ⟨b7, 0, none⟩)), (10, .int .i64 (t : Nat)), (11, .slice (some ⟨br, 0, none⟩) row.length row.length), (37, .slice ah l.length ch), (38, .int .i64 l.length), (39, .int .i64 (j : Nat)), (50, .slice b row.length c), (51, .int .i64 row.length), (52, .int .i64 (k : Nat))]) (row.length) ?_ ?_
 ·refine Upd.now ?_
  exact ⟨0, by omega, fun i h h2 => by omega, rfl, rfl, rfl⟩
 ·rintro q G1 fr H' hle hs ⟨k, hk, hall, rfl, rfl, rfl⟩
  have hpl : (partR r k).length = row.length := by rw [partR_len r (by omega), hrlen]
  by_cases hkl : k < row.length
  ·have hsE := hs
   try simp only [zzs] at hsE
   repeat (obtain ⟨hsx, hsE⟩ := hsE)
   have hkr : k < r.length := by omega
   have had5 : Adr b := e2.adr (by rw [List.length_map]; omega)
   have hx := hrng _ (List.getElem_mem hkl)
   obtain ⟨y, hxy⟩ := Int.eq_ofNat_of_zero_le hx.1
   have hym : y < d.label.length := by omega
   have hval : findF l (y : Nat) = r[k] := by
    simp only [hr', List.getElem_map]
    rw [hxy]
   have hput := partR_put hkr
   by_cases hin : row[k] ∈ l
   ·have hpos : 0 ≤ r[k] := by
     rw [← hval]
     refine findF_memW.2 ?_
     rw [← hxy]
     exact hin
    repeat' first
     | (with_reducible first | refine Nx.go ?_ | refine Bk.go (fun _ => ?_) fun _ => ?_)
     | ((with_reducible first | refine NewB.mk2 fun nb hnb hnb1 hnb2 => ?_ | refine NewRow.mk2 fun nb nsp ncap hnb hncap hnb1 hnb2 => ?_); try simp only [zzn] at hnb2)
     | simp -dsimp -implicitDefEqProofs (disch := first | assumption | (simp only [zzm]; done) | omega | (try with_reducible refine Row.adr (by assumption) ?_); simp only [zzl, Nat.reduceAdd]; first | done | omega) only [go_sem, ↓reduceIte, seval, -List.reduceReplicate, Row.obj e2, Row.obj hr3, List.getElem_map, List.getElem_range, hxy, hval, hput, hpl, Int.toNat_natCast]
    all_goals try (exfalso; omega)
    refine Upd.now ?_
    exact ⟨q - 1, by omega, k + 1, by omega, fun i h h2 => by
     by_cases e : i = k
     ·subst e; exact hin
     ·exact hall i h (by omega), rfl, rfl, rfl⟩
   ·have hneg : r[k] < 0 := by
     rw [← hval]
     rcases Int.lt_or_le (findF l (y : Int)) 0 with h | h
     ·exact h
     ·exact absurd (hxy ▸ findF_memW.1 h) hin
    repeat' first
     | (with_reducible first | refine Nx.go ?_ | refine Bk.go (fun _ => ?_) fun _ => ?_)
     | ((with_reducible first | refine NewB.mk2 fun nb hnb hnb1 hnb2 => ?_ | refine NewRow.mk2 fun nb nsp ncap hnb hncap hnb1 hnb2 => ?_); try simp only [zzn] at hnb2)
     | simp -dsimp -implicitDefEqProofs (disch := first | assumption | (simp only [zzm]; done) | omega | (try with_reducible refine Row.adr (by assumption) ?_); simp only [zzl, Nat.reduceAdd]; first | done | omega) only [go_sem, ↓reduceIte, seval, -List.reduceReplicate, Row.obj e2, Row.obj hr3, List.getElem_map, List.getElem_range, hxy, hval, hpl, Int.toNat_natCast, zeroC_len, zeroC_one, zeroC_take, zeroC_put]
    all_goals try (exfalso; omega)
    exact Upd.go (H' := (b4, .cells zeroC [] 27) :: H) (by intro fsum; first | exact Nat.le_refl _ | (simp only [zzq]; omega)) (Upd.now ⟨hle, rfl, rfl⟩)
  ·exact absurd (fun x hx => by
    obtain ⟨i, hi, rfl⟩ := List.getElem_of_mem hx
    exact hall i hi (by omega)) hfr
end Go.Proofs.YtefkpedhbijhkaaGreatDoor
namespace Go.Proofs.YtefkpedhbijhkaaGreatDoor
open Go Go.V Go.Proofs
theorem keep_t {d : DfaT} (hsm : SmallD d) {l : List Int} (hl : l.length ≤ 2000000) {G : PHeap} {H : Heap} {R : Value → PHeap → Heap → Prop} {v w : Value} (hv : IsD G d v) (hwl : Sl G (Value.int .i64) w l)
  (hR : ∀ G' v', PLe G G' → Sep G' (keys H) → IsD G' (keepR d l).1 v' → R (.tuple #[v', .int .i64 (keepR d l).2]) G' H) : FnT Tryz.prog 31 [v, w] G H R := by
 obtain ⟨C, an, al, ay, cn, cl, cs, rs, rfl, O⟩ := hv.opened
 obtain ⟨hm1, hm2, hm3, hm4, hm5⟩ := id hsm
 have hw0 := hwl
 obtain ⟨aw, cw, rfl, hroww, hcw⟩ := hwl
 have hCl := O.len
 have hCa := O.all
 have hCx := O.l
 refine FnT.sep ?_
 by_cases hok : RightP d
 ·obtain ⟨hk1, hk2, hk3, hk4, hk5, hk6, hk7⟩ := id hok
  have hb := boolOf_yes hok
  have hl2 : ∀ a b c : Value, (cellsD d a b c).length = 260 := fun a b c => cellsD_len O.ofl _ _ _
  have ht2 : ∀ a b c : Value, List.take 260 (cellsD d a b c) = cellsD d a b c := fun a b c => cellsD_all O.ofl _ _ _
  have hputz : ∀ a b c : Value, splice zeroC 0 (cellsD d a b c) = cellsD d a b c := fun a b c => by
   unfold splice
   rw [List.take_zero, List.nil_append, List.drop_of_length_le (by rw [zeroC_len, hl2]; omega), List.append_nil]
  refine FnT.bodyS tok [0, 1, 2, 4, 5, 6, 7, 8, 10, 11, 12, 13, 16, 27, 37, 38, 39, 40, 50, 51, 52, 53, 61] (.seq .run (.seq .run (.seq .run (.seq .run (.seq .cut .cut))))) Tryz.func31 rfl (by kernel_rfl) (by kernel_rfl) (by show _ ≤ 89; simp) fun hsep => ?_
  rw [Tryz.results31]
  have hsE := hsep
  try simp only [zzs] at hsE
  repeat (obtain ⟨hsx, hsE⟩ := hsE)
  repeat' first
   | (with_reducible first | refine Nx.go ?_ | refine Bk.go (fun _ => ?_) fun _ => ?_)
   | ((with_reducible first | refine NewB.mk2 fun nb hnb hnb1 hnb2 => ?_ | refine NewRow.mk2 fun nb nsp ncap hnb hncap hnb1 hnb2 => ?_); try simp only [zzn] at hnb2)
   | simp -dsimp -implicitDefEqProofs (disch := first | assumption | (simp only [zzm]; done) | omega | (try with_reducible refine Row.adr (by assumption) ?_); simp only [zzl, Nat.reduceAdd]; first | done | omega) only [go_sem, ↓reduceIte, seval, -List.reduceReplicate, List.toList_toArray, hCl, hCa, hCx, hb]
   | with_reducible refine right_t hsm O.is ?_
  rename_i b2 hb20 hb21 hb22
  obtain ⟨b4, e0⟩ : ∃ x, x = nb := ⟨_, rfl⟩
  subst e0
  refine FnT.upd (places_t hk1 hk2 hl hw0 (fun G2 b hle2 hs2 hO => ?_) (fun G2 hle2 hs2 hno => ?_))
  ·refine Upd.shareRow hs2.1.1 fun G3 hle3 hs3 hr3 => ?_
   rw [atR_ints] at hr3
   have hsE := hs3
   try simp only [zzs] at hsE
   repeat (obtain ⟨hsx, hsE⟩ := hsE)
   have k3 := hle2.trans hle3
   have O3 := O.mono k3
   by_cases hh : l.head? = some 0
   ·rw [decide_eq_true hh]
    repeat' first
     | (with_reducible first | refine Nx.go ?_ | refine Bk.go (fun _ => ?_) fun _ => ?_)
     | ((with_reducible first | refine NewB.mk2 fun nb hnb hnb1 hnb2 => ?_ | refine NewRow.mk2 fun nb nsp ncap hnb hncap hnb1 hnb2 => ?_); try simp only [zzn] at hnb2)
     | simp -dsimp -implicitDefEqProofs (disch := first | assumption | (simp only [zzm]; done) | omega | (try with_reducible refine Row.adr (by assumption) ?_); simp only [zzl, Nat.reduceAdd]; first | done | omega) only [go_sem, ↓reduceIte, seval, -List.reduceReplicate, List.toList_toArray]
    refine Tri.isPiece [1, 1, 1, 1, 0] Tryz.f31 (by kernel_rfl) ?_
    refine Tri.live [0, 1, 2, 4, 5, 6, 7] ?_
    refine Tri.onlyN (kp6_t hsm O3) fun G4 l4 H4 hle4 hs4 hM => ?_
    obtain ⟨b7, vs, _, hvs, hfr, rfl⟩ := hM
    simp only [go_sem]
    refine Tri.live [0, 1, 2, 4, 5, 6, 7, 8] ?_
    rw [hfr]
    have hsE := hs4
    try simp only [zzs] at hsE
    repeat (obtain ⟨hsx, hsE⟩ := hsE)
    have O4 := O3.mono hle4
    obtain ⟨ay4, cy4, rfl, hr4y, hcy4⟩ := id hvs
    refine Tri.run tok [0, 1, 2, 4, 5, 6, 7, 8, 10, 11, 12, 13, 16, 27, 37, 38, 39, 40, 50, 51, 52, 53, 61] (by kernel_rfl) ?_
    repeat' first
     | (with_reducible first | refine Nx.go ?_ | refine Bk.go (fun _ => ?_) fun _ => ?_)
     | ((with_reducible first | refine NewB.mk2 fun nb hnb hnb1 hnb2 => ?_ | refine NewRow.mk2 fun nb nsp ncap hnb hncap hnb1 hnb2 => ?_); try simp only [zzn] at hnb2)
     | simp -dsimp -implicitDefEqProofs (disch := first | assumption | (simp only [zzm]; done) | omega | (try with_reducible refine Row.adr (by assumption) ?_); simp only [zzl, Nat.reduceAdd]; first | done | omega) only [go_sem, ↓reduceIte, seval, -List.reduceReplicate, List.toList_toArray]
    have hln : l.length ≤ d.label.length := hO.len
    have hpos : 0 < l.length := by
     rcases l with _ | ⟨x, l⟩
     ·cases hh
     ·simp
    refine Tri.loopS tok [0, 1, 2, 4, 5, 6, 7, 8, 10, 11, 12, 13, 16, 27, 37, 38, 39, 40, 50, 51, 52, 53, 61] (.seq .run (.seq .run (.seq (.block .cut) .cut))) (by kernel_rfl) [0, 1, 2, 4, 5, 6, 7, 8, 37, 38, 39] (fun q G' fr H' => ∃ (j : Nat) (vn vl : Value) (kn kl : Heap), j + q = l.length ∧ PLe G4 G' ∧ (∀ i (h : i < l.length), i < j → fineK d l l[i]) ∧ RowK d l G' j vn kn ∧ LabK d l j vl kl ∧ H' = (b7, .cells (cellsD d vn vl (.slice ay4 d.names.length cy4)) [] 27) :: (b2, .cells C [] 27) :: (kn ++ (kl ++ ((b4, .cells zeroC [] 27) :: H))) ∧ fr = [(0, .agg (List.toArray C)), (1, .slice aw l.length cw), (2, .pointer (some ⟨b2, 0, none⟩)), (4, .pointer (some ⟨b4, 0, none⟩)), (5, .int .i64 0), (6, .slice (some ⟨b, 0, none⟩) d.label.length d.label.length), (7, .bool true), (8, .pointer (some ⟨b7, 0, none⟩)), (37, .slice aw l.length cw), (38, .int .i64 l.length), (39, .int .i64 (j : Nat))]) (l.length) ?_ ?_
    ·exact Upd.go (H' := (b7, .cells (cellsD d (.slice none 0 0) (.slice none 0 0) (.slice ay4 d.names.length cy4)) [] 27) :: (b2, .cells C [] 27) :: ([] ++ ([] ++ ((b4, .cells zeroC [] 27) :: H)))) (by intro fsum; first | exact Nat.le_refl _ | (simp only [zzq]; omega)) (Upd.now ⟨0, _, _, [], [], by omega, PLe.refl _, fun i h h2 => by omega, .inl ⟨rfl, rfl, rfl⟩, .inl ⟨rfl, rfl, rfl⟩, rfl, rfl⟩)
    ·rintro q G6 fr H' hle6 hs6 ⟨j, vn, vl, kn, kl, hj, hleG6, hfine, hro, hlo, rfl, rfl⟩
     have O6 := O4.mono hleG6
     have k6 := (k3.trans hle4).trans hleG6
     by_cases hjl : j < l.length
     ·by_cases hfj : fineK d l l[j]
      ·repeat' first
        | (with_reducible first | refine Nx.go ?_ | refine Bk.go (fun _ => ?_) fun _ => ?_)
        | ((with_reducible first | refine NewB.mk2 fun nb hnb hnb1 hnb2 => ?_ | refine NewRow.mk2 fun nb nsp ncap hnb hncap hnb1 hnb2 => ?_); try simp only [zzn] at hnb2)
        | simp -dsimp -implicitDefEqProofs (disch := first | assumption | (simp only [zzm]; done) | omega | (try with_reducible refine Row.adr (by assumption) ?_); simp only [zzl, Nat.reduceAdd]; first | done | omega) only [go_sem, ↓reduceIte, seval, -List.reduceReplicate, List.toList_toArray]
       refine Tri.live [0, 1, 2, 4, 5, 6, 7, 8, 37, 38, 39] ?_
       refine Tri.isPiece [1, 1, 1, 1, 1, 0, 1, 0, 0, 1, 1, 0, 0] Tryz.f31 (by kernel_rfl) ?_
       refine Tri.onlyN (kx_t hsm hok hO O6 ((hr3.mono hle4).mono hleG6) (hroww.mono k6) hjl hro hlo rfl hfj) fun G7 l7 H7 hle7 hs7 hM => ?_
       obtain ⟨vn', vl', kn', kl', _, hro', hlo', hfr', rfl⟩ := hM
       simp only [go_sem]
       refine Tri.live [0, 1, 2, 4, 5, 6, 7, 8, 37, 38, 39] ?_
       rw [hfr']
       refine Tri.run tok [0, 1, 2, 4, 5, 6, 7, 8, 10, 11, 12, 13, 16, 27, 37, 38, 39, 40, 50, 51, 52, 53, 61] (by kernel_rfl) ?_
       repeat' first
        | (with_reducible first | refine Nx.go ?_ | refine Bk.go (fun _ => ?_) fun _ => ?_)
        | ((with_reducible first | refine NewB.mk2 fun nb hnb hnb1 hnb2 => ?_ | refine NewRow.mk2 fun nb nsp ncap hnb hncap hnb1 hnb2 => ?_); try simp only [zzn] at hnb2)
        | simp -dsimp -implicitDefEqProofs (disch := first | assumption | (simp only [zzm]; done) | omega | (try with_reducible refine Row.adr (by assumption) ?_); simp only [zzl, Nat.reduceAdd]; first | done | omega) only [go_sem, ↓reduceIte, seval, -List.reduceReplicate, List.toList_toArray]
       refine Upd.now ?_
       exact ⟨q - 1, by omega, j + 1, vn', vl', kn', kl', by omega, hleG6.trans hle7, fun i h h2 => by
        by_cases e : i = j
        ·subst e; exact hfj
        ·exact hfine i h (by omega), hro', hlo', rfl, rfl⟩
      ·have hno : ¬ KeepOk d l := fun h => hfj (h.2 _ (List.getElem_mem hjl))
       rw [keepR_not hok hno] at hR
       repeat' first
        | (with_reducible first | refine Nx.go ?_ | refine Bk.go (fun _ => ?_) fun _ => ?_)
        | ((with_reducible first | refine NewB.mk2 fun nb hnb hnb1 hnb2 => ?_ | refine NewRow.mk2 fun nb nsp ncap hnb hncap hnb1 hnb2 => ?_); try simp only [zzn] at hnb2)
        | simp -dsimp -implicitDefEqProofs (disch := first | assumption | (simp only [zzm]; done) | omega | (try with_reducible refine Row.adr (by assumption) ?_); simp only [zzl, Nat.reduceAdd]; first | done | omega) only [go_sem, ↓reduceIte, seval, -List.reduceReplicate, List.toList_toArray]
       refine Tri.live [0, 1, 2, 4, 5, 6, 7, 8, 37, 38, 39] ?_
       refine Tri.upd (Upd.go (H' := (b4, .cells zeroC [] 27) :: (b7, .cells (cellsD d vn vl (.slice ay4 d.names.length cy4)) [] 27) :: (b2, .cells C [] 27) :: (kn ++ (kl ++ H))) (by intro fsum; first | exact Nat.le_refl _ | (simp only [zzq]; omega)) (Upd.now ?_))
       refine Tri.isPiece [1, 1, 1, 1, 1, 0, 1, 0, 0, 1, 1, 0, 0] Tryz.f31 (by kernel_rfl) ?_
       refine Tri.onlyR (kxb_t hsm hok hO O6 ((hr3.mono hle4).mono hleG6) (hroww.mono k6) hjl hfj) fun G7 l7 H7 hle7 hs7 hM => ?_
       obtain ⟨_, hfr', rfl⟩ := hM
       have hsE := hs7
       try simp only [zzs] at hsE
       repeat (obtain ⟨hsx, hsE⟩ := hsE)
       have h4 : V.look l7 4 = some (.pointer (some ⟨b4, 0, none⟩)) := look_restrict [4, 5] l7 4 _ (by rw [hfr']; rfl)
       have h5 : V.look l7 5 = some (.int .i64 1) := look_restrict [4, 5] l7 5 _ (by rw [hfr']; rfl)
       repeat' first
        | (with_reducible first | refine Nx.go ?_ | refine Bk.go (fun _ => ?_) fun _ => ?_)
        | ((with_reducible first | refine NewB.mk2 fun nb hnb hnb1 hnb2 => ?_ | refine NewRow.mk2 fun nb nsp ncap hnb hncap hnb1 hnb2 => ?_); try simp only [zzn] at hnb2)
        | simp -dsimp -implicitDefEqProofs (disch := first | assumption | (simp only [zzm]; done) | omega | (try with_reducible refine Row.adr (by assumption) ?_); simp only [zzl, Nat.reduceAdd]; first | done | omega) only [go_sem, ↓reduceIte, seval, -List.reduceReplicate, List.toList_toArray, h4, h5, zeroC_len, zeroC_one, zeroC_take, zeroC_put]
       unfold UpdR
       refine Upd.leave (H' := H) (by intro fsum; first | exact Nat.le_refl _ | (simp only [zzq]; omega)) ?_
       exact fun _ hs => hR G7 _ (k6.trans hle7) hs (zeroD_is _)
     ·obtain rfl : j = l.length := by omega
      have hko : KeepOk d l := ⟨⟨hO, hh⟩, fun x hx => by
       obtain ⟨i, hi, rfl⟩ := List.getElem_of_mem hx
       exact hfine i hi hi⟩
      rw [keepR_ok hok hko] at hR
      rcases hro with ⟨hj0, _, _⟩ | ⟨bn, c1, rv, sp1, rfl, rfl, hrv, hc1, hrws⟩
      ·exact absurd hj0 (by omega)
      rcases hlo with ⟨hj0, _, _⟩ | ⟨bl, c2, sp2, rfl, rfl, hc2⟩
      ·exact absurd hj0 (by omega)
      have hsE := hs6
      try simp only [zzs] at hsE
      repeat (obtain ⟨hsx, hsE⟩ := hsE)
      have hone := cellsD_one (d := d) (vn := .slice (some ⟨bn, 0, none⟩) l.length c1) (vl := .slice (some ⟨bl, 0, none⟩) l.length c2) (vs := .slice ay4 d.names.length cy4) rfl rfl rfl
      have hLl : (labF d l).length = l.length := by unfold labF; rw [List.length_map]
      rw [show (labF d l).take l.length = labF d l by rw [← hLl, List.take_length]]
      repeat' first
       | (with_reducible first | refine Nx.go ?_ | refine Bk.go (fun _ => ?_) fun _ => ?_)
       | ((with_reducible first | refine NewB.mk2 fun nb hnb hnb1 hnb2 => ?_ | refine NewRow.mk2 fun nb nsp ncap hnb hncap hnb1 hnb2 => ?_); try simp only [zzn] at hnb2)
       | simp -dsimp -implicitDefEqProofs (disch := first | assumption | (simp only [zzm]; done) | omega | (try with_reducible refine Row.adr (by assumption) ?_); simp only [zzl, Nat.reduceAdd]; first | done | omega) only [go_sem, ↓reduceIte, seval, -List.reduceReplicate, List.toList_toArray, hl2, ht2, hputz, hone, zeroC_len]
      unfold UpdR
      refine Upd.go (H' := (bn, .cells rv sp1 24) :: (bl, .cells ((labF d l).map (Value.int .i64)) sp2 3) :: H) (by intro fsum; first | exact Nat.le_refl _ | (simp only [zzq]; omega)) (Upd.trans (Upd.shareRow (by assumption) fun G7 hle7 hs7 hr7 => ?_))
      refine Upd.shareRow hs7.1.1 fun G8 hle8 hs8 hr8 => ?_
      have k8 := hle7.trans hle8
      refine fun _ hs => hR G8 _ (k6.trans k8) hs ?_
      refine ⟨O.ofl, O.ofb, _, _, _, rfl, ⟨some ⟨bn, 0, none⟩, c1, rv, ?_, hr7.mono hle8, ?_, ?_, fun i h h2 => ?_⟩, ⟨some ⟨bl, 0, none⟩, c2, ?_, hr8, ?_⟩, ⟨ay4, cy4, rfl, hr4y.mono (hleG6.trans k8), hcy4⟩⟩
      ·simp only [keepD, List.length_map]
      ·simp only [keepD, List.length_map]; exact hrv
      ·simp only [keepD, List.length_map]; omega
      ·have hi : i < l.length := by simp only [keepD, List.length_map] at h; exact h
       obtain ⟨b', c', f1, f2, f3⟩ := hrws i hi h2 hi
       refine ⟨b', c', ?_, ?_, ?_⟩
       ·simp only [keepD, List.getElem_map]; exact f1
       ·simp only [keepD, List.getElem_map]; exact f2.mono k8
       ·simp only [keepD, List.getElem_map]; exact f3
      ·simp only [keepD, hLl]
      ·simp only [keepD, hLl]; omega
   ·rw [decide_eq_false hh]
    have hno : ¬ KeepOk d l := fun h => hh h.1.2
    rw [keepR_not hok hno] at hR
    repeat' first
     | (with_reducible first | refine Nx.go ?_ | refine Bk.go (fun _ => ?_) fun _ => ?_)
     | ((with_reducible first | refine NewB.mk2 fun nb hnb hnb1 hnb2 => ?_ | refine NewRow.mk2 fun nb nsp ncap hnb hncap hnb1 hnb2 => ?_); try simp only [zzn] at hnb2)
     | simp -dsimp -implicitDefEqProofs (disch := first | assumption | (simp only [zzm]; done) | omega | (try with_reducible refine Row.adr (by assumption) ?_); simp only [zzl, Nat.reduceAdd]; first | done | omega) only [go_sem, ↓reduceIte, seval, -List.reduceReplicate, List.toList_toArray, zeroC_len, zeroC_one, zeroC_take, zeroC_put]
    unfold UpdR
    refine Upd.leave (H' := H) (by intro fsum; first | exact Nat.le_refl _ | (simp only [zzq]; omega)) ?_
    exact fun _ hs => hR G3 _ k3 hs (zeroD_is _)
  ·have hno : ¬ KeepOk d l := fun h => hno h.1.1
   rw [keepR_not hok hno] at hR
   refine Upd.now ?_
   have hsE := hs2
   try simp only [zzs] at hsE
   repeat (obtain ⟨hsx, hsE⟩ := hsE)
   repeat' first
    | (with_reducible first | refine Nx.go ?_ | refine Bk.go (fun _ => ?_) fun _ => ?_)
    | ((with_reducible first | refine NewB.mk2 fun nb hnb hnb1 hnb2 => ?_ | refine NewRow.mk2 fun nb nsp ncap hnb hncap hnb1 hnb2 => ?_); try simp only [zzn] at hnb2)
    | simp -dsimp -implicitDefEqProofs (disch := first | assumption | (simp only [zzm]; done) | omega | (try with_reducible refine Row.adr (by assumption) ?_); simp only [zzl, Nat.reduceAdd]; first | done | omega) only [go_sem, ↓reduceIte, seval, -List.reduceReplicate, List.toList_toArray, zeroC_len, zeroC_one, zeroC_take, zeroC_put]
   unfold UpdR
   refine Upd.leave (H' := H) (by intro fsum; first | exact Nat.le_refl _ | (simp only [zzq]; omega)) ?_
   exact fun _ hs => hR G2 _ hle2 hs (zeroD_is _)
 ·have hb := boolOf_no hok
  rw [keepR_bad hok] at hR
  refine FnT.body tok [0, 1, 2, 4, 5, 6, 7, 8, 10, 11, 12, 13, 16, 27, 37, 38, 39, 40, 50, 51, 52, 53, 61] Tryz.func31 rfl (by kernel_rfl) (by kernel_rfl) (by show _ ≤ 89; simp) fun hsep => ?_
  rw [Tryz.results31]
  have hsE := hsep
  try simp only [zzs] at hsE
  repeat (obtain ⟨hsx, hsE⟩ := hsE)
  repeat' first
   | (with_reducible first | refine Nx.go ?_ | refine Bk.go (fun _ => ?_) fun _ => ?_)
   | ((with_reducible first | refine NewB.mk2 fun nb hnb hnb1 hnb2 => ?_ | refine NewRow.mk2 fun nb nsp ncap hnb hncap hnb1 hnb2 => ?_); try simp only [zzn] at hnb2)
   | simp -dsimp -implicitDefEqProofs (disch := first | assumption | (simp only [zzm]; done) | omega | (try with_reducible refine Row.adr (by assumption) ?_); simp only [zzl, Nat.reduceAdd]; first | done | omega) only [go_sem, ↓reduceIte, seval, -List.reduceReplicate, List.toList_toArray, hCl, hCa, zeroC_len, zeroC_one, zeroC_take, zeroC_put, hb]
   | with_reducible refine right_t hsm O.is ?_
  unfold UpdR
  refine Upd.leave (H' := H) (by intro fsum; first | exact Nat.le_refl _ | (simp only [zzq]; omega)) ?_
  exact fun _ hs => hR G _ (PLe.refl _) hs (zeroD_is _)
end Go.Proofs.YtefkpedhbijhkaaGreatDoor
namespace Go.Proofs.YtefkpedhbijhkaaGreatDoor
open Go Go.V Go.Proofs
theorem reach_once {d : DfaT} (hok : RightP d) : OnceN d.label.length [0] := ⟨by simp, fun x hx => by rw [List.mem_singleton] at hx; have := hok.1; omega⟩
theorem reachL_once {d : DfaT} (hok : RightP d) : OnceN d.label.length (reachL d) := bw_once (reach_once hok) (nextF_ok hok) _
theorem reachL_pre (d : DfaT) : ∃ X, reachL d = 0 :: X := by
 obtain ⟨X, h⟩ := bw_pre' (nextF d) [0] 0 d.label.length
 rw [Nat.zero_add] at h
 exact ⟨X, h⟩
theorem reachL_head (d : DfaT) : (reachL d).head? = some 0 := by
 obtain ⟨X, h⟩ := reachL_pre d
 rw [h]; rfl
theorem reachL_keep {d : DfaT} (hok : RightP d) : KeepOk d (reachL d) := ⟨⟨reachL_once hok, reachL_head d⟩, fun s hs => bw_closed (reach_once hok) (nextF_ok hok) hs⟩
def trimD (d : DfaT) : DfaT := keepD d (reachL d)
noncomputable def trimR (d : DfaT) : DfaT × Int := keepR d (reachD d)
theorem trimR_ok {d : DfaT} (h : RightP d) : trimR d = (trimD d, 0) := by
 unfold trimR
 have : reachD d = reachL d := by unfold reachD; rw [if_pos (boolOf_yes h)]
 rw [this, keepR_ok h (reachL_keep h)]; rfl
theorem keepD_next {d : DfaT} {l : List Int} {i : Nat} (h : i < l.length) : (keepD d l).next[i]'(by unfold keepD; simpa using h) = rowK d l l[i] := by simp [keepD]
theorem keepD_label {d : DfaT} {l : List Int} {i : Nat} (h : i < l.length) : (keepD d l).label[i]'(by unfold keepD labF; simpa using h) = d.label.getD l[i].toNat 0 := by simp [keepD, labF]
theorem keepD_len (d : DfaT) (l : List Int) : (keepD d l).next.length = l.length ∧ (keepD d l).label.length = l.length := by simp [keepD, labF]
theorem findF_at {l : List Int} {x : Int} (h : x ∈ l) : ∃ (i : Nat) (hi : i < l.length), findF l x = i ∧ l[i] = x := by
 obtain ⟨n, hn⟩ := place_mem h
 obtain ⟨h1, h2⟩ := place_some hn
 rw [List.getElem?_eq_getElem h1] at h2
 exact ⟨n, h1, findF_some hn, Option.some.inj h2⟩
theorem keep_right {d : DfaT} {l : List Int} (hok : RightP d) (hk : KeepOk d l) : RightP (keepD d l) := by
 obtain ⟨hk1, hk2, hk3, hk4, hk5, hk6, hk7⟩ := id hok
 obtain ⟨⟨hO, hh⟩, hf⟩ := hk
 have hl := hO.len
 have hpos : 0 < l.length := by
  rcases l with _ | ⟨x, l⟩
  ·cases hh
  ·simp
 obtain ⟨e1, e2⟩ := keepD_len d l
 refine ⟨by omega, by omega, by omega, hk4, hk5, hk6, fun s h1 h2 => ?_⟩
 have hs : s < l.length := by omega
 have hx := hO.2 _ (List.getElem_mem hs)
 obtain ⟨t, ht⟩ := Int.eq_ofNat_of_zero_le hx.1
 have htn : t < d.next.length := by omega
 obtain ⟨g1, g2, g3, g4⟩ := hk7 t htn (by omega)
 rw [keepD_next hs, keepD_label hs]
 unfold rowK
 rw [ht, nextF_get htn]
 refine ⟨by rw [List.length_map]; exact g1, ?_, ?_, fun y hy => ?_⟩
 ·rw [Int.toNat_natCast, List.getD_eq_getElem?_getD, List.getElem?_eq_getElem (by omega), Option.getD_some]; exact g2
 ·rw [Int.toNat_natCast, List.getD_eq_getElem?_getD, List.getElem?_eq_getElem (by omega), Option.getD_some]; exact g3
 ·rw [List.mem_map] at hy
  obtain ⟨z, hz, rfl⟩ := hy
  have hzl := hf _ (List.getElem_mem hs) z (by rw [ht, nextF_get htn]; exact hz)
  obtain ⟨i, hi, h3, _⟩ := findF_at hzl
  rw [h3, e2]
  omega
theorem trim_small {d : DfaT} (hsm : SmallD d) (hok : RightP d) : SmallD (trimD d) := by
 obtain ⟨hm1, hm2, hm3, hm4, hm5⟩ := id hsm
 obtain ⟨e1, e2⟩ := keepD_len d (reachL d)
 have hO := reachL_once hok
 have hl := hO.len
 have hk3 := hok.2.2.1
 refine ⟨by show (keepD d (reachL d)).next.length ≤ _; omega, fun r hr => ?_, by show (keepD d (reachL d)).label.length ≤ _; omega, hm4, hm5⟩
 obtain ⟨x, hx, rfl⟩ := List.mem_map.1 (show r ∈ (reachL d).map (rowK d (reachL d)) from hr)
 have hb := hO.2 x hx
 obtain ⟨t, rfl⟩ := Int.eq_ofNat_of_zero_le hb.1
 unfold rowK
 rw [nextF_get (by omega), List.length_map]
 exact hm2 _ (List.getElem_mem _)
theorem isD_one {G : PHeap} {d : DfaT} {C : List Value} (h : IsD G d (.agg C.toArray)) : C.all oneV = true := by
 obtain ⟨_, _, vn, vl, vs, e, ⟨an, cn, rs, rfl, _⟩, ⟨al, cl, rfl, _⟩, ⟨ay, cy, rfl, _⟩⟩ := h
 have e2 := congrArg (fun v => match v with | Value.agg a => a.toList | _ => []) e
 simp only [List.toList_toArray] at e2
 rw [e2]; exact cellsD_one rfl rfl rfl
theorem isD_put {C : List Value} (h : C.length = 260) : splice zeroC 0 C = C := by
 unfold splice
 rw [List.take_zero, List.nil_append, List.drop_of_length_le (by rw [zeroC_len]; omega), List.append_nil]
theorem trim_t {d : DfaT} (hsm : SmallD d) {G : PHeap} {H : Heap} {R : Value → PHeap → Heap → Prop} {v : Value} (hv : IsD G d v)
  (hR : ∀ G' v', PLe G G' → Sep G' (keys H) → IsD G' (trimR d).1 v' → R (.tuple #[v', .int .i64 (trimR d).2]) G' H) : FnT Tryz.prog 14 [v] G H R := by
 obtain ⟨C, an, al, ay, cn, cl, cs, rs, rfl, O⟩ := hv.opened
 have hCl := O.len
 have hCa := O.all
 have hrl : (reachD d).length ≤ 2000000 := by
  by_cases hok : RightP d
  ·have h1 : reachD d = reachL d := by unfold reachD; rw [if_pos (boolOf_yes hok)]
   have h2 := (reachL_once hok).len
   have h3 := hok.2.1
   rw [h1]; omega
  ·have h1 : reachD d = [] := by unfold reachD; rw [if_neg (by rw [boolOf_no hok]; exact Bool.false_ne_true)]
   rw [h1]; simp
 refine FnT.sep ?_
 refine FnT.body tok [0, 1, 2, 3] Tryz.func14 rfl (by kernel_rfl) (by kernel_rfl) (by show _ ≤ 10; simp) fun hsep => ?_
 rw [Tryz.results14]
 have hsE := hsep
 try simp only [zzs] at hsE
 repeat (obtain ⟨hsx, hsE⟩ := hsE)
 repeat' first
  | (with_reducible first | refine Nx.go ?_ | refine Bk.go (fun _ => ?_) fun _ => ?_)
  | (with_reducible refine NewB.mk2 fun nb hnb hnb1 hnb2 => ?_; try simp only [zzn] at hnb2)
  | simp -dsimp -implicitDefEqProofs (disch := first | assumption | (simp only [zzm]; done) | omega | (try with_reducible refine Row.adr (by assumption) ?_); simp only [zzl, Nat.reduceAdd]; first | done | omega) only [go_sem, ↓reduceIte, seval, -List.reduceReplicate, List.toList_toArray, hCl, hCa]
  | with_reducible refine Tri.drawH tok mixed [0, 1, 2, 3] 1 [0, 1] (.op 0 .held (.op 1 .held (.op 2 .keeps (.op 3 .keeps (.op 4 .plain (.op 5 .plain (.op 6 .plain (.op 7 .plain .nil)))))))) (by kernel_rfl) [1] ?_
 obtain ⟨b2, e0⟩ : ∃ x, x = nb := ⟨_, rfl⟩
 subst e0
 refine reach_t hsm O.is fun G2 v2 hle2 hs2 hsl2 => ?_
 have hsE := hs2
 try simp only [zzs] at hsE
 repeat (obtain ⟨hsx, hsE⟩ := hsE)
 repeat' first
  | (with_reducible first | refine Nx.go ?_ | refine Bk.go (fun _ => ?_) fun _ => ?_)
  | (with_reducible refine NewB.mk2 fun nb hnb hnb1 hnb2 => ?_; try simp only [zzn] at hnb2)
  | simp -dsimp -implicitDefEqProofs (disch := first | assumption | (simp only [zzm]; done) | omega | (try with_reducible refine Row.adr (by assumption) ?_); simp only [zzl, Nat.reduceAdd]; first | done | omega) only [go_sem, ↓reduceIte, seval, -List.reduceReplicate, List.toList_toArray, hCl, hCa]
 refine keep_t hsm hrl (O.is.mono hle2) hsl2 fun G3 v3 hle3 hs3 hI => ?_
 have hI3 : IsD G3 (trimR d).1 v3 := hI
 obtain ⟨C', an', al', ay', cn', cl', cs', rs', rfl, O'⟩ := hI3.opened
 have hDl := O'.len
 have hone := isD_one O'.is
 have hput := isD_put hDl
 have htk : List.take 260 C' = C' := List.take_of_length_le (by omega)
 have hsE := hs3
 try simp only [zzs] at hsE
 repeat (obtain ⟨hsx, hsE⟩ := hsE)
 repeat' first
  | (with_reducible first | refine Nx.go ?_ | refine Bk.go (fun _ => ?_) fun _ => ?_)
  | (with_reducible refine NewB.mk2 fun nb hnb hnb1 hnb2 => ?_; try simp only [zzn] at hnb2)
  | simp -dsimp -implicitDefEqProofs (disch := first | assumption | (simp only [zzm]; done) | omega | (try with_reducible refine Row.adr (by assumption) ?_); simp only [zzl, Nat.reduceAdd]; first | done | omega) only [go_sem, ↓reduceIte, seval, -List.reduceReplicate, List.toList_toArray, hDl, hone, hput, htk, zeroC_len]
 unfold UpdR
 refine Upd.leave (H' := H) (by intro fsum; first | exact Nat.le_refl _ | (simp only [zzq]; omega)) ?_
 exact fun _ hs => hR G3 _ (hle2.trans hle3) hs O'.is
end Go.Proofs.YtefkpedhbijhkaaGreatDoor
namespace Go.Proofs.YtefkpedhbijhkaaGreatDoor
open Go Go.V Go.Proofs
theorem and63 {i : Nat} (hi : i < 256) : bitsOp .and .u8 (i : Int) 63 = ((i % 64 : Nat) : Int) := by
 have h := bits_and (k := .u8) (x := (i : Int)) (y := 63) rfl (by omega) (by show (i : Int) < 256; omega) (by decide) (by decide)
 rw [h, Int.toNat_natCast, show (63 : Int).toNat = 2 ^ 6 - 1 from rfl, Nat.and_two_pow_sub_one_eq_mod]
theorem numsU_over4 (f g : Nat → Nat) : splice (numsU 4 f) 0 (numsU 4 g) = numsU 4 g := by
 unfold splice
 rw [List.take_zero, List.nil_append, List.drop_of_length_le (by rw [numsU_len, numsU_len]; omega), List.append_nil]
def oneW (i : Nat) : Nat → Nat := upd (fun _ => 0) (i / 64) (2 ^ (i % 64))
def twoW (f g : Nat → Nat) : Nat → Nat := fun k => f k ||| g k
theorem oneW_lt (i k : Nat) : oneW i k < 18446744073709551616 := by
 have := pow_lt (show i % 64 < 64 by omega)
 simp only [oneW, upd]
 split
 ·exact this
 ·decide
theorem oneW_mem (i x : Nat) : mem (oneW i) x = decide (x = i) := by
 have := put_mem (fun _ => 0) i x
 rw [mem_none, Bool.false_or, Nat.zero_or] at this
 exact this
theorem twoW_mem (f g : Nat → Nat) (x : Nat) : mem (twoW f g) x = (mem f x || mem g x) := by
 unfold mem twoW; rw [Nat.testBit_or]
theorem sof_t {i : Nat} (hi : i < 256) {b : Nat} {e : TypeId} {G : PHeap} {H : Heap} {R : Value → PHeap → Heap → Prop} (hg : G b = none) (hf : findH H b = some (.cells [.int .u8 (i : Nat)] [] e))
  (hR : R (.agg (numsU 4 (oneW i)).toArray) G H) : FnT Tryz.prog 110 [.slice (some ⟨b, 0, none⟩) 1 1] G H R := by
 have hq : i / 64 < 4 := by omega
 have hjj : i % 64 < 64 := by omega
 have hor : bitsOp .or .u64 ((0 : Nat) : Int) ((2 ^ (i % 64) : Nat) : Int) = ((2 ^ (i % 64) : Nat) : Int) := by
  have := or_word (w := 0) (by decide) (pow_lt hjj)
  rw [Nat.zero_or] at this; exact this
 have hput : splice (numsU 4 (fun _ => 0)) (i / 64) [.int .u64 ((2 ^ (i % 64) : Nat) : Int)] = numsU 4 (oneW i) := numsU_putS hq _
 have hl4 := numsU_len 4 (fun _ => 0)
 have hl5 := numsU_len 4 (oneW i)
 have h63 := and63 hi
 refine FnT.sep ?_
 refine FnT.body tok [0, 2, 3, 5, 6, 7, 8, 9] Tryz.func110 rfl (by kernel_rfl) (by kernel_rfl) (by show _ ≤ 23; simp) fun hsep => ?_
 rw [Tryz.results110]
 have hsE := hsep
 try simp only [zzs] at hsE
 repeat (obtain ⟨hsx, hsE⟩ := hsE)
 repeat' first
  | (with_reducible first | refine Nx.go ?_ | refine Bk.go (fun _ => ?_) fun _ => ?_)
  | (with_reducible refine NewB.mk2 fun nb hnb hnb1 hnb2 => ?_; try simp only [zzn] at hnb2)
  | simp -dsimp -implicitDefEqProofs (disch := first | assumption | (simp only [zzm]; done) | omega | (try with_reducible refine Row.adr (by assumption) ?_); simp only [zzl, Nat.reduceAdd]; first | done | omega) only [go_sem, ↓reduceIte, Nat.reduceEqDiff, Nat.reduceAdd, Nat.reduceSub, Nat.reduceMul, Nat.reduceBEq, Nat.reduceLT, Nat.reduceLeDiff, Nat.reduceMod, Nat.reducePow, List.reduceReplicate, UInt8.reduceOfNat, Int.reducePow, Int.reduceDiv, Int.reduceMod, Nat.reduceDiv, Int.reduceNeg, Int.reduceAdd, Int.reduceSub, Int.reduceMul, Int.reduceLE, Int.reduceLT, Int.reduceEq, Int.reduceToNat, reduceCtorEq, -List.reduceReplicate, hf]
 rename_i b1 hb1 hb11 hb12
 have hn1 := NotIn.neFind hb12 hf
 have hn2 := NotIn.neFind hnb2.2 hf
 rw [zero4]
 refine Tri.loopU tok [0, 2, 3, 5, 6, 7, 8, 9] (by kernel_rfl) [2, 3, 6, 7, 8] (fun q G' fr H' => ∃ (j : Nat), j + q = 1 ∧ G' = G ∧ H' = (nb, .cells (numsU 4 (if j = 0 then fun _ => 0 else oneW i)) [] 97) :: (b1, .cells (numsU 4 (fun _ => 0)) [] 97) :: H ∧ fr = [(2, .pointer (some ⟨b1, 0, none⟩)), (3, .pointer (some ⟨nb, 0, none⟩)), (6, .slice (some ⟨b, 0, none⟩) 1 1), (7, .int .i64 1), (8, .int .i64 (j : Nat))]) (1) ?_ ?_
 ·exact Upd.now ⟨0, rfl, rfl, rfl, rfl⟩
 ·rintro q G1 fr H' hle hs1 ⟨j, hj, rfl, rfl, rfl⟩
  have hsE := hs1
  try simp only [zzs] at hsE
  repeat (obtain ⟨hsx, hsE⟩ := hsE)
  by_cases h0 : j = 0
  ·subst h0
   repeat' first
    | (with_reducible first | refine Nx.go ?_ | refine Bk.go (fun _ => ?_) fun _ => ?_)
    | (with_reducible refine NewB.mk2 fun nb hnb hnb1 hnb2 => ?_; try simp only [zzn] at hnb2)
    | simp -dsimp -implicitDefEqProofs (disch := first | assumption | (simp only [zzm]; done) | omega | (try with_reducible refine Row.adr (by assumption) ?_); simp only [zzl, Nat.reduceAdd]; first | done | omega) only [go_sem, ↓reduceIte, Nat.reduceEqDiff, Nat.reduceAdd, Nat.reduceSub, Nat.reduceMul, Nat.reduceBEq, Nat.reduceLT, Nat.reduceLeDiff, Nat.reduceMod, Nat.reducePow, List.reduceReplicate, UInt8.reduceOfNat, Int.reducePow, Int.reduceDiv, Int.reduceMod, Nat.reduceDiv, Int.reduceNeg, Int.reduceAdd, Int.reduceSub, Int.reduceMul, Int.reduceLE, Int.reduceLT, Int.reduceEq, Int.reduceToNat, reduceCtorEq, -List.reduceReplicate, hf, hl4, hq, toNat_div64, mod64, shl_one hjj, h63, hor, numsU_at, hput, Int.toNat_natCast]
   exact Upd.now ⟨0, by omega, 1, by omega, rfl, rfl, rfl⟩
  ·obtain rfl : j = 1 := by omega
   repeat' first
    | (with_reducible first | refine Nx.go ?_ | refine Bk.go (fun _ => ?_) fun _ => ?_)
    | (with_reducible refine NewB.mk2 fun nb hnb hnb1 hnb2 => ?_; try simp only [zzn] at hnb2)
    | simp -dsimp -implicitDefEqProofs (disch := first | assumption | (simp only [zzm]; done) | omega | (try with_reducible refine Row.adr (by assumption) ?_); simp only [zzl, Nat.reduceAdd]; first | done | omega) only [go_sem, ↓reduceIte, Nat.reduceEqDiff, Nat.reduceAdd, Nat.reduceSub, Nat.reduceMul, Nat.reduceBEq, Nat.reduceLT, Nat.reduceLeDiff, Nat.reduceMod, Nat.reducePow, List.reduceReplicate, UInt8.reduceOfNat, Int.reducePow, Int.reduceDiv, Int.reduceMod, Nat.reduceDiv, Int.reduceNeg, Int.reduceAdd, Int.reduceSub, Int.reduceMul, Int.reduceLE, Int.reduceLT, Int.reduceEq, Int.reduceToNat, reduceCtorEq, -List.reduceReplicate, hf, hl4, hl5, numsU_all, numsU_one, numsU_over4, List.toList_toArray]
   all_goals refine Upd.finL ?_ (fun _ _ => hR) ?_
   any_goals (intro fsum; first | exact Nat.le_refl _ | (simp only [zzq]; omega))
   rfl
def uacc (l : List (Nat → Nat)) : Nat → Nat := fun k => l.foldl (fun a f => a ||| f k) 0
def umix (l : List (Nat → Nat)) (j p : Nat) : Nat → Nat := fun k => if k < p then uacc (l.take (j + 1)) k else uacc (l.take j) k
theorem uacc_lt {l : List (Nat → Nat)} (hl : ∀ f ∈ l, ∀ k, f k < 18446744073709551616) (k : Nat) : uacc l k < 18446744073709551616 := by
 unfold uacc
 suffices h : ∀ (l : List (Nat → Nat)) (a : Nat), (∀ f ∈ l, f k < 18446744073709551616) → a < 18446744073709551616 → l.foldl (fun a f => a ||| f k) a < 18446744073709551616 from h l 0 (fun f hf => hl f hf k) (by decide)
 intro l
 induction l with
 | nil => exact fun a _ h => h
 | cons f l ih => exact fun a h1 h2 => ih _ (fun g hg => h1 g (List.mem_cons_of_mem _ hg)) (Nat.or_lt_two_pow (n := 64) h2 (h1 f (List.mem_cons_self ..)))
theorem uacc_snoc (l : List (Nat → Nat)) (f : Nat → Nat) (k : Nat) : uacc (l ++ [f]) k = uacc l k ||| f k := by unfold uacc; rw [List.foldl_append]; rfl
theorem sunion_t {l : List (Nat → Nat)} (hlen : l.length ≤ 1000) (hl : ∀ f ∈ l, ∀ k, f k < 18446744073709551616) {b : Nat} {sp : List Value} {cap : Nat} {e : TypeId} {G : PHeap} {H : Heap} {R : Value → PHeap → Heap → Prop} (hg : G b = none) (hf : findH H b = some (.cells (l.flatMap numsOf) sp e))
  (hR : R (.agg (numsU 4 (uacc l)).toArray) G H) : FnT Tryz.prog 109 [.slice (some ⟨b, 0, none⟩) l.length cap] G H R := by
 have hfl := flatMap_len (enc := numsOf) (m := 4) numsOf_len l
 refine FnT.sep ?_
 refine FnT.body tok [0, 2, 3, 5, 6, 7, 8, 9, 10, 11, 14, 15, 16] Tryz.func109 rfl (by kernel_rfl) (by kernel_rfl) (by show _ ≤ 28; simp) fun hsep => ?_
 rw [Tryz.results109]
 have hsE := hsep
 try simp only [zzs] at hsE
 repeat (obtain ⟨hsx, hsE⟩ := hsE)
 repeat' first
  | (with_reducible first | refine Nx.go ?_ | refine Bk.go (fun _ => ?_) fun _ => ?_)
  | (with_reducible refine NewB.mk2 fun nb hnb hnb1 hnb2 => ?_; try simp only [zzn] at hnb2)
  | simp -dsimp -implicitDefEqProofs (disch := first | assumption | (simp only [zzm]; done) | omega | (try with_reducible refine Row.adr (by assumption) ?_); simp only [zzl, Nat.reduceAdd]; first | done | omega) only [go_sem, ↓reduceIte, Nat.reduceEqDiff, Nat.reduceAdd, Nat.reduceSub, Nat.reduceMul, Nat.reduceBEq, Nat.reduceLT, Nat.reduceLeDiff, Nat.reduceMod, Nat.reducePow, List.reduceReplicate, UInt8.reduceOfNat, Int.reducePow, Int.reduceDiv, Int.reduceMod, Nat.reduceDiv, Int.reduceNeg, Int.reduceAdd, Int.reduceSub, Int.reduceMul, Int.reduceLE, Int.reduceLT, Int.reduceEq, Int.reduceToNat, reduceCtorEq, -List.reduceReplicate, hf]
 rename_i b1 hb1 hb11 hb12
 have hn1 := NotIn.neFind hb12 hf
 revert nb
 intro b3 hb3 hb31 hb32
 have hn2 := NotIn.neFind hb32.2 hf
 rw [zero4]
 refine Tri.loopU tok [0, 2, 3, 5, 6, 7, 8, 9, 10, 11, 14, 15, 16] (by kernel_rfl) [2, 3, 8, 9, 10] (fun q G' fr H' => ∃ (j : Nat), j + q = l.length ∧ G' = G ∧ H' = (b3, .cells (numsU 4 (uacc (l.take j))) [] 97) :: (b1, .cells (numsU 4 (fun _ => 0)) [] 97) :: H ∧ fr = [(2, .pointer (some ⟨b1, 0, none⟩)), (3, .pointer (some ⟨b3, 0, none⟩)), (8, .slice (some ⟨b, 0, none⟩) l.length cap), (9, .int .i64 l.length), (10, .int .i64 (j : Nat))]) (l.length) ?_ ?_
 ·exact Upd.now ⟨0, by omega, rfl, rfl, rfl⟩
 ·rintro q G1 fr H' hle hs1 ⟨j, hj, rfl, rfl, rfl⟩
  have hsE := hs1
  try simp only [zzs] at hsE
  repeat (obtain ⟨hsx, hsE⟩ := hsE)
  by_cases hjl : j < l.length
  ·have hget := flatMap_get (enc := numsOf) (m := 4) numsOf_len l j hjl
   have hjf := hl _ (List.getElem_mem hjl)
   have htk := List.take_succ_eq_append_getElem hjl
   have hmul : (j + 1) * 4 ≤ l.length * 4 := Nat.mul_le_mul_right _ hjl
   have hget' : List.take 4 (List.drop (j * 4) (l.flatMap numsOf ++ sp)) = numsU 4 l[j] := by
    rw [List.drop_append_of_le_length (by omega), List.take_append_of_le_length (by rw [List.length_drop]; omega)]; exact hget
   have hu1 := uacc_lt (l := l.take j) fun f hf2 => hl f (List.mem_of_mem_take hf2)
   have hl4 := numsU_len 4
   repeat' first
    | (with_reducible first | refine Nx.go ?_ | refine Bk.go (fun _ => ?_) fun _ => ?_)
    | (with_reducible refine NewB.mk2 fun nb hnb hnb1 hnb2 => ?_; try simp only [zzn] at hnb2)
    | simp -dsimp -implicitDefEqProofs (disch := first | assumption | (simp only [zzm]; done) | omega | (try with_reducible refine Row.adr (by assumption) ?_); simp only [zzl, Nat.reduceAdd]; first | done | omega) only [go_sem, ↓reduceIte, Nat.reduceEqDiff, Nat.reduceAdd, Nat.reduceSub, Nat.reduceMul, Nat.reduceBEq, Nat.reduceLT, Nat.reduceLeDiff, Nat.reduceMod, Nat.reducePow, List.reduceReplicate, UInt8.reduceOfNat, Int.reducePow, Int.reduceDiv, Int.reduceMod, Nat.reduceDiv, Int.reduceNeg, Int.reduceAdd, Int.reduceSub, Int.reduceMul, Int.reduceLE, Int.reduceLT, Int.reduceEq, Int.reduceToNat, reduceCtorEq, -List.reduceReplicate, hf, hfl, hget', hl4, numsU_one, numsU_over, numsU_all, List.toList_toArray]
   revert nb
   intro nc hnc hnc1 hnc2
   refine Tri.loopU tok [0, 2, 3, 5, 6, 7, 8, 9, 10, 11, 14, 15, 16] (by kernel_rfl) [2, 3, 8, 9, 10, 14, 15] (fun q2 G' fr H' => ∃ (p : Nat), p + q2 = 4 ∧ G' = G1 ∧ H' = (nc, .cells (numsU 4 l[j]) [] 97) :: (b3, .cells (numsU 4 (umix l j p)) [] 97) :: (b1, .cells (numsU 4 (fun _ => 0)) [] 97) :: H ∧ fr = [(2, .pointer (some ⟨b1, 0, none⟩)), (3, .pointer (some ⟨b3, 0, none⟩)), (8, .slice (some ⟨b, 0, none⟩) l.length cap), (9, .int .i64 l.length), (10, .int .i64 (j : Nat)), (14, .agg (numsU 4 l[j]).toArray), (15, .int .i64 (p : Nat))]) (4) ?_ ?_
   ·exact Upd.now ⟨0, by omega, rfl, by rw [show umix l j 0 = uacc (l.take j) from funext fun k => if_neg (by omega)], rfl⟩
   ·rintro q2 G2 fr H' hle2 hs2 ⟨p, hp, rfl, rfl, rfl⟩
    have hsE := hs2
    try simp only [zzs] at hsE
    repeat (obtain ⟨hsx, hsE⟩ := hsE)
    by_cases hp4 : p < 4
    ·have hul : ∀ k, umix l j p k < 18446744073709551616 := fun k => by
      unfold umix; split
      ·exact uacc_lt (l := l.take (j + 1)) (fun f hf2 => hl f (List.mem_of_mem_take hf2)) k
      ·exact hu1 k
     have hor := or_word (hul p) (hjf p)
     have hget2 : (numsU 4 l[j])[p]? = some (.int .u64 (l[j] p)) := by rw [List.getElem?_eq_getElem (by rw [hl4]; exact hp4), numsU_at]
     have hget3 : (numsU 4 (umix l j p))[p]? = some (.int .u64 (umix l j p p : Nat)) := by rw [List.getElem?_eq_getElem (by rw [hl4]; exact hp4), numsU_at]
     have hput : splice (numsU 4 (umix l j p)) p [.int .u64 ((umix l j p p ||| l[j] p : Nat) : Int)] = numsU 4 (umix l j (p + 1)) := by
      rw [numsU_putS hp4]
      congr 1
      funext k
      unfold upd
      by_cases e : k = p
      ·subst e
       rw [if_pos rfl]
       unfold umix
       rw [if_neg (Nat.lt_irrefl _), if_pos (Nat.lt_succ_self _), htk, uacc_snoc]
      ·rw [if_neg e]
       unfold umix
       by_cases h : k < p
       ·rw [if_pos h, if_pos (by omega)]
       ·rw [if_neg h, if_neg (by omega)]
     repeat' first
      | (with_reducible first | refine Nx.go ?_ | refine Bk.go (fun _ => ?_) fun _ => ?_)
      | (with_reducible refine NewB.mk2 fun nb hnb hnb1 hnb2 => ?_; try simp only [zzn] at hnb2)
      | simp -dsimp -implicitDefEqProofs (disch := first | assumption | (simp only [zzm]; done) | omega | (try with_reducible refine Row.adr (by assumption) ?_); simp only [zzl, Nat.reduceAdd]; first | done | omega) only [go_sem, ↓reduceIte, Nat.reduceEqDiff, Nat.reduceAdd, Nat.reduceSub, Nat.reduceMul, Nat.reduceBEq, Nat.reduceLT, Nat.reduceLeDiff, Nat.reduceMod, Nat.reducePow, List.reduceReplicate, UInt8.reduceOfNat, Int.reducePow, Int.reduceDiv, Int.reduceMod, Nat.reduceDiv, Int.reduceNeg, Int.reduceAdd, Int.reduceSub, Int.reduceMul, Int.reduceLE, Int.reduceLT, Int.reduceEq, Int.reduceToNat, reduceCtorEq, -List.reduceReplicate, hf, hl4, hor, hget2, hget3, hput, numsU_at, numsU_one, numsU_over, numsU_all, List.toList_toArray, partL]
     exact Upd.now ⟨q2 - 1, by omega, p + 1, by omega, rfl, rfl, rfl⟩
    ·obtain rfl : p = 4 := by omega
     rw [show numsU 4 (umix l j 4) = numsU 4 (uacc (l.take (j + 1))) from List.map_congr_left fun k hk => by rw [List.mem_range] at hk; unfold umix; rw [if_pos hk]]
     repeat' first
      | (with_reducible first | refine Nx.go ?_ | refine Bk.go (fun _ => ?_) fun _ => ?_)
      | (with_reducible refine NewB.mk2 fun nb hnb hnb1 hnb2 => ?_; try simp only [zzn] at hnb2)
      | simp -dsimp -implicitDefEqProofs (disch := first | assumption | (simp only [zzm]; done) | omega | (try with_reducible refine Row.adr (by assumption) ?_); simp only [zzl, Nat.reduceAdd]; first | done | omega) only [go_sem, ↓reduceIte, Nat.reduceEqDiff, Nat.reduceAdd, Nat.reduceSub, Nat.reduceMul, Nat.reduceBEq, Nat.reduceLT, Nat.reduceLeDiff, Nat.reduceMod, Nat.reducePow, List.reduceReplicate, UInt8.reduceOfNat, Int.reducePow, Int.reduceDiv, Int.reduceMod, Nat.reduceDiv, Int.reduceNeg, Int.reduceAdd, Int.reduceSub, Int.reduceMul, Int.reduceLE, Int.reduceLT, Int.reduceEq, Int.reduceToNat, reduceCtorEq, -List.reduceReplicate]
     refine Upd.go (H' := (b3, .cells (numsU 4 (uacc (l.take (j + 1)))) [] 97) :: (b1, .cells (numsU 4 (fun _ => 0)) [] 97) :: H) (by intro fsum; first | exact Nat.le_refl _ | (simp only [zzq]; omega)) (Upd.now ⟨q - 1, by omega, j + 1, by omega, rfl, rfl, rfl⟩)
  ·obtain rfl : j = l.length := by omega
   repeat' first
    | (with_reducible first | refine Nx.go ?_ | refine Bk.go (fun _ => ?_) fun _ => ?_)
    | (with_reducible refine NewB.mk2 fun nb hnb hnb1 hnb2 => ?_; try simp only [zzn] at hnb2)
    | simp -dsimp -implicitDefEqProofs (disch := first | assumption | (simp only [zzm]; done) | omega | (try with_reducible refine Row.adr (by assumption) ?_); simp only [zzl, Nat.reduceAdd]; first | done | omega) only [go_sem, ↓reduceIte, Nat.reduceEqDiff, Nat.reduceAdd, Nat.reduceSub, Nat.reduceMul, Nat.reduceBEq, Nat.reduceLT, Nat.reduceLeDiff, Nat.reduceMod, Nat.reducePow, List.reduceReplicate, UInt8.reduceOfNat, Int.reducePow, Int.reduceDiv, Int.reduceMod, Nat.reduceDiv, Int.reduceNeg, Int.reduceAdd, Int.reduceSub, Int.reduceMul, Int.reduceLE, Int.reduceLT, Int.reduceEq, Int.reduceToNat, reduceCtorEq, -List.reduceReplicate, hf, numsU_all, numsU_one, numsU_len, numsU_over4, List.toList_toArray, List.take_length]
   all_goals refine Upd.finL ?_ (fun _ _ => hR) ?_
   any_goals (intro fsum; first | exact Nat.le_refl _ | (simp only [zzq]; omega))
   rfl
end Go.Proofs.YtefkpedhbijhkaaGreatDoor
