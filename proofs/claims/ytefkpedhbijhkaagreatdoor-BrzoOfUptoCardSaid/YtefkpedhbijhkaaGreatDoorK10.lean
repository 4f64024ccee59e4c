/- Law 27, BrzoOf: any machine turned round twice, or that there are too many lists: the law answers true. -/
import Derived.Test.YtefkpedhbijhkaaGreatDoorK9
import Derived.OpenShut
import Derived.Deep.DeepHandedRow
import Derived.Lib.LaidTab
import Derived.Test.YtefkpedhbijhkaaGreatDoorProg
import Derived.Test.YtefkpedhbijhkaaGreatDoorCards
import Derived.Test.YtefkpedhbijhkaaGreatDoorTie
set_option maxHeartbeats 64000000
set_option linter.unusedSimpArgs false
set_option linter.unusedVariables false
set_option linter.unusedSectionVars false
namespace Go.Proofs.YtefkpedhbijhkaaGreatDoor
open Go Go.V Go.Proofs
theorem rtl_t {d : DfaT} (hsm : SmallD d) (hok : RightP d) {most : Nat} (hm1 : 1 ≤ most) (hm2 : most ≤ 65536) {G : PHeap} {H : Heap} {R : Value → PHeap → Heap → Prop} {C : List Value} {an al ay : Option Addr} {cn cl cs : Nat} {rs : List Value} (O : OpenD G d C an al ay cn cl cs rs) {b2 b4 b7 : Nat} {vs vl : Value} (hvs : Sl G str vs d.names) {ka : Heap} {av : List Value} (hka : SliceO [] 24 1 vl (turnL d 0).length av ka) (hav : RwI G av (turnL d 0))
  (hR : ∀ G' v', PLe G G' → IsD G' (turnR d most).1 v' → R (.tuple #[v', .bool (turnR d most).2]) G' H) :
  Tri Tryz.prog Tryz.f23.ntmps (piece [1, 1, 1] Tryz.f23) G [(1, .int .i64 (most : Nat)), (2, .pointer (some ⟨b2, 0, none⟩)), (4, .pointer (some ⟨b4, 0, none⟩)), (5, .bool false), (6, vl), (7, .pointer (some ⟨b7, 0, none⟩))] ((b2, .cells C [] 27) :: (b4, .cells zeroC [] 27) :: (b7, .cells (cellsD d (.slice none 0 0) (.slice none 0 0) vs) [] 27) :: (ka ++ H)) (endK T #[Go.ResultVar.cell 4 27, Go.ResultVar.tmp 5].toList (UpdR R) .mk) := by
 obtain ⟨hs1, hs2, hs3, hs4, hs5⟩ := id hsm
 obtain ⟨hk1, hk2, hk3, hk4, hk5, hk6, hk7⟩ := id hok
 have hCl := O.len
 have hCw := O.w
 have hl2 : ∀ a b c : Value, (cellsD d a b c).length = 260 := fun a b c => cellsD_len O.ofl _ _ _
 have ht2 : ∀ a b c : Value, List.take 260 (cellsD d a b c) = cellsD d a b c := fun a b c => cellsD_all O.ofl _ _ _
 have hputz : ∀ a b c : Value, splice zeroC 0 (cellsD d a b c) = cellsD d a b c := fun a b c => wdf_over zeroC_len (hl2 _ _ _)
 have hone : ∀ (a a' a'' : Option Addr) (n c n' c' n'' c'' : Nat), (cellsD d (.slice a n c) (.slice a' n' c') (.slice a'' n'' c'')).all oneV = true := fun a a' a'' n c n' c' n'' c'' => cellsD_one rfl rfl rfl
 obtain ⟨ay2, cy2, rfl, hry2, hcy2⟩ := id hvs
 obtain ⟨W, hW⟩ : ∃ W : Nat, W = d.width.toNat := ⟨_, rfl⟩
 have hw1 : 1 ≤ d.width := by
  have h0 : 0 < d.of.length := by rw [O.ofl]; omega
  have := List.length_pos_of_mem ((mem_tabO d.of).2 (List.getElem_mem h0))
  omega
 have hww : d.width ≤ 256 := by
  have h2 := tabO_len d.of
  have h3 := O.ofl
  omega
 have hWd : d.width = (W : Int) := by omega
 refine Tri.sepT fun hs0 => ?_
 have hsE := hs0
 try simp only [zzs] at hsE
 repeat (obtain ⟨hsx, hsE⟩ := hsE)
 refine Tri.piece (f := Tryz.f23) rfl ?_
 refine Tri.runS tok [0, 1, 2, 4, 5, 6, 7, 8, 9, 10, 11, 12, 13, 27, 34, 42, 66, 80] (.seq .run .cut) (by kernel_rfl) ?_
 repeat' first
  | (with_reducible first | refine Nx.go ?_ | refine Bk.go (fun _ => ?_) fun _ => ?_)
  | ((with_reducible first | refine NewB.mk2 fun nb hnb hnb1 hnb2 => ?_ | refine NewRow.mk2 fun nb nsp ncap hnb hncap hnb1 hnb2 => ?_); try simp only [zzn] at hnb2)
  | simp -dsimp -implicitDefEqProofs (disch := first | assumption | (simp only [zzm]; done) | omega | (try with_reducible refine Row.adr (by assumption) ?_); simp only [zzl, Nat.reduceAdd]; first | done | omega) only [go_sem, ↓reduceIte, seval, -List.reduceReplicate]
 refine Tri.loopS tok [0, 1, 2, 4, 5, 6, 7, 8, 9, 10, 11, 12, 13, 27, 34, 42, 66, 80] (.seq .run (.seq (.block (.seq .run (.seq .run (.seq .run (.seq .cut .cut))))) .cut)) (by kernel_rfl) [1, 2, 4, 5, 6, 7, 8] (fun q G' fr H' => ∃ (i : Nat) (vl : Value) (av : List Value) (ka : Heap) (vn vb : Value) (rv : List Value) (kn kl : Heap), i + q = most ∧ PLe G G' ∧ SliceO [] 24 1 vl (turnL d i).length av ka ∧ RwI G' av (turnL d i) ∧ i ≤ (turnL d i).length ∧ (turnL d i).length ≤ most ∧ RwI G' rv (rowsI d i) ∧ SliceO [] 24 1 vn i rv kn ∧ SliceO [] 3 1 vb i ((labsI d i).map (Value.int .i64)) kl ∧ H' = (b2, .cells C [] 27) :: (b4, .cells zeroC [] 27) :: (b7, .cells (cellsD d vn vb (.slice ay2 d.names.length cy2)) [] 27) :: (ka ++ (kn ++ (kl ++ H))) ∧ fr = [(1, .int .i64 (most : Nat)), (2, .pointer (some ⟨b2, 0, none⟩)), (4, .pointer (some ⟨b4, 0, none⟩)), (5, .bool false), (6, vl), (7, .pointer (some ⟨b7, 0, none⟩)), (8, .int .i64 (i : Nat))]) (most) ?_ ?_
 ·exact Upd.leave (H' := (b2, .cells C [] 27) :: (b4, .cells zeroC [] 27) :: (b7, .cells (cellsD d (.slice none 0 0) (.slice none 0 0) (.slice ay2 d.names.length cy2)) [] 27) :: (ka ++ ([] ++ ([] ++ H)))) (by intro fsum; simp only [zzq]; omega) ⟨0, vl, av, ka, _, _, [], [], [], by omega, PLe.refl _, hka, hav, Nat.zero_le _, hm1, RwI.nil _, .inl ⟨none, rfl, rfl, rfl, rfl⟩, .inl ⟨none, rfl, rfl, rfl, rfl⟩, rfl, rfl⟩
 ·rintro q G1 fr H1 hle1 hsL ⟨i, vl, av, ka, vn, vb, rv, kn, kl, hiq, hle01, hka, hav, hil, hlm, hrv, hkn, hkl, rfl, rfl⟩
  have O1 := OpenD.mono hle01 O
  have hpos := turnL_pos d i
  rcases hka with ⟨_, _, h0, _, _⟩ | ⟨bl, cc, sp, rfl, rfl, hxa, hca⟩
  ·omega
  have hsE := hsL
  try simp only [zzs] at hsE
  repeat (obtain ⟨hsx, hsE⟩ := hsE)
  by_cases hi : i < (turnL d i).length
  ·repeat' first
    | (with_reducible first | refine Nx.go ?_ | refine Bk.go (fun _ => ?_) fun _ => ?_)
    | ((with_reducible first | refine NewB.mk2 fun nb hnb hnb1 hnb2 => ?_ | refine NewRow.mk2 fun nb nsp ncap hnb hncap hnb1 hnb2 => ?_); try simp only [zzn] at hnb2)
    | simp -dsimp -implicitDefEqProofs (disch := first | assumption | (simp only [zzm]; done) | omega | (try with_reducible refine Row.adr (by assumption) ?_); simp only [zzl, Nat.reduceAdd]; first | done | omega) only [go_sem, ↓reduceIte, seval, -List.reduceReplicate, List.replicate_zero, hCl, hCw, hWd]
   obtain ⟨f, hf⟩ : ∃ f, f = (turnL d i)[i] := ⟨_, rfl⟩
   have hfl : f.length = d.next.length := by rw [hf]; exact turnL_len hok i _ (List.getElem_mem hi)
   have hsucc := turnL_succ hi
   have hrsucc := rowsI_succ hi
   have hlsucc := labsI_succ hi
   rw [← hf] at hsucc hrsucc hlsucc
   obtain ⟨Ri, hRi⟩ : ∃ Ri, Ri = (behsA 0 d.next d.width.toNat f).map (findF (turnL d (i + 1))) := ⟨_, rfl⟩
   rw [← hRi] at hrsucc
   have hRl : Ri.length = W := by rw [hRi, List.length_map, behsA_len, hW]
   obtain ⟨br, e14⟩ : ∃ x, x = nb := ⟨_, rfl⟩
   subst e14
   refine Tri.loopS tok [0, 1, 2, 4, 5, 6, 7, 8, 9, 10, 11, 12, 13, 27, 34, 42, 66, 80] (.seq .run (.seq (.block .cut) .cut)) (by kernel_rfl) [1, 2, 4, 5, 6, 7, 8, 9, 10] (fun q2 G' fr H' => ∃ (k : Nat) (vl : Value) (av : List Value) (ka : Heap) (br cr : Nat) (spr : List Value), k + q2 = W ∧ PLe G1 G' ∧ SliceO [] 24 1 vl (midA 0 d.next d.width.toNat f (turnL d i) k).length av ka ∧ RwI G' av (midA 0 d.next d.width.toNat f (turnL d i) k) ∧ k + spr.length = cr ∧ H' = (b2, .cells C [] 27) :: (br, .cells ((Ri.take k).map (Value.int .i64)) spr 3) :: (b4, .cells zeroC [] 27) :: (b7, .cells (cellsD d vn vb (.slice ay2 d.names.length cy2)) [] 27) :: (ka ++ (kn ++ (kl ++ H))) ∧ fr = [(1, .int .i64 (most : Nat)), (2, .pointer (some ⟨b2, 0, none⟩)), (4, .pointer (some ⟨b4, 0, none⟩)), (5, .bool false), (6, vl), (7, .pointer (some ⟨b7, 0, none⟩)), (8, .int .i64 (i : Nat)), (9, .slice (some ⟨br, 0, none⟩) k cr), (10, .int .i64 (k : Nat))]) (W) ?_ ?_
   ·refine Upd.leave (H' := (b2, .cells C [] 27) :: (br, .cells [] [] 3) :: (b4, .cells zeroC [] 27) :: (b7, .cells (cellsD d vn vb (.slice ay2 d.names.length cy2)) [] 27) :: ([(bl, .cells av sp 24)] ++ (kn ++ (kl ++ H)))) (by intro fsum; simp only [zzq]; omega) ?_
    exact ⟨0, _, av, [(bl, .cells av sp 24)], br, 0, [], by omega, PLe.refl _, by rw [midA_zero]; exact .inr ⟨bl, cc, sp, rfl, rfl, hxa, hca⟩, by rw [midA_zero]; exact hav, rfl, rfl, rfl⟩
   ·rintro q2 G2 fr H2 hle2 hsI ⟨k, vl2, av2, ka2, br, cr, spr, hkq, hle12, hka2, hav2, hcr, rfl, rfl⟩
    have O2 := OpenD.mono (hle01.trans hle12) O
    have hpre : turnL d i <+: midA 0 d.next d.width.toNat f (turnL d i) k := midA_ls k
    have hiM : i < (midA 0 d.next d.width.toNat f (turnL d i) k).length := by have := hpre.length_le; omega
    have hget : (midA 0 d.next d.width.toNat f (turnL d i) k)[i] = f := by have h := (hpre.getElem hi).symm; rw [← hf] at h; exact h
    have hlenk := midA_lenle (z := (0 : Int)) (next := d.next) (f := f) (ls := turnL d i) k (show k ≤ d.width.toNat by omega)
    have hml := midA_len (z := (0 : Int)) (f := f) (turnL_len hok i) (show k ≤ d.width.toNat by omega)
    by_cases hkW : k < W
    ·have hms : metA (midA 0 d.next d.width.toNat f (turnL d i) k) (behA 0 d.next f k) = midA 0 d.next d.width.toNat f (turnL d i) (k + 1) := by rw [midA_succ (by omega)]
     have hpr : midA 0 d.next d.width.toNat f (turnL d i) (k + 1) <+: turnL d (i + 1) := by
      rw [hsucc]
      exact midA_pre (by omega)
     have hval : findF (midA 0 d.next d.width.toNat f (turnL d i) (k + 1)) (behA 0 d.next f k) = Ri[k]'(by omega) := by
      obtain ⟨r, hr⟩ := hpr
      have hmem : behA 0 d.next f k ∈ midA 0 d.next d.width.toNat f (turnL d i) (k + 1) := by rw [← hms]; exact metA_mem _ _
      simp only [hRi, behsA, List.getElem_map, List.getElem_range]
      rw [← hr, findF_app hmem]
     have hsE := hsI
     try simp only [zzs] at hsE
     repeat (obtain ⟨hsx, hsE⟩ := hsE)
     repeat' first
      | (with_reducible first | refine Nx.go ?_ | refine Bk.go (fun _ => ?_) fun _ => ?_)
      | ((with_reducible first | refine NewB.mk2 fun nb hnb hnb1 hnb2 => ?_ | refine NewRow.mk2 fun nb nsp ncap hnb hncap hnb1 hnb2 => ?_); try simp only [zzn] at hnb2)
      | simp -dsimp -implicitDefEqProofs (disch := first | assumption | (simp only [zzm]; done) | omega | (try with_reducible refine Row.adr (by assumption) ?_); simp only [zzl, Nat.reduceAdd]; first | done | omega) only [go_sem, ↓reduceIte, seval, -List.reduceReplicate, hCl, hCw, hWd]
     refine Tri.live [1, 2, 4, 5, 6, 7, 8, 9, 10] ?_
     refine Tri.upd (Upd.go (H' := (b2, .cells C [] 27) :: (br, .cells ((Ri.take k).map (Value.int .i64)) spr 3) :: (ka2 ++ ((b4, .cells zeroC [] 27) :: (b7, .cells (cellsD d vn vb (.slice ay2 d.names.length cy2)) [] 27) :: (kn ++ (kl ++ H))))) (by intro fsum; simp only [zzq]; omega) (Upd.now ?_))
     refine Tri.isPiece [1, 1, 1, 0, 1, 0, 0, 1, 0, 0, 1, 0, 1, 0, 0, 1, 0, 0] Tryz.f23 (by kernel_rfl) ?_
     refine Tri.onlyN (rq_t hsm hok O2 hiM (by omega) hml (k := k) (by omega) (by rw [List.length_take]; omega) hcr (by omega) hka2 hav2) fun G3 l3 H3 hle3 hs3 hM => ?_
     rw [hget, hms, hval] at hM
     obtain ⟨vl3, av3, ka3, br3, cr3, spr3, hle23, hka3, hav3, hcr3, hfr, rfl⟩ := hM
     have htk : Ri.take k ++ [Ri[k]'(by omega)] = Ri.take (k + 1) := (List.take_succ_eq_append_getElem (by omega)).symm
     rw [htk] at hs3 ⊢
     simp only [go_sem]
     refine Tri.live [1, 2, 4, 5, 6, 7, 8, 9, 10] ?_
     rw [hfr]
     refine Tri.run tok [0, 1, 2, 4, 5, 6, 7, 8, 9, 10, 11, 12, 13, 27, 34, 42, 66, 80] (by kernel_rfl) ?_
     repeat' first
      | (with_reducible first | refine Nx.go ?_ | refine Bk.go (fun _ => ?_) fun _ => ?_)
      | ((with_reducible first | refine NewB.mk2 fun nb hnb hnb1 hnb2 => ?_ | refine NewRow.mk2 fun nb nsp ncap hnb hncap hnb1 hnb2 => ?_); try simp only [zzn] at hnb2)
      | simp -dsimp -implicitDefEqProofs (disch := first | assumption | (simp only [zzm]; done) | omega | (try with_reducible refine Row.adr (by assumption) ?_); simp only [zzl, Nat.reduceAdd]; first | done | omega) only [go_sem, ↓reduceIte, seval, -List.reduceReplicate]
     refine Upd.leave (H' := (b2, .cells C [] 27) :: (br3, .cells ((Ri.take (k + 1)).map (Value.int .i64)) spr3 3) :: (b4, .cells zeroC [] 27) :: (b7, .cells (cellsD d vn vb (.slice ay2 d.names.length cy2)) [] 27) :: (ka3 ++ (kn ++ (kl ++ H)))) (by intro fsum; simp only [zzq]; omega) ?_
     exact ⟨q2 - 1, by omega, k + 1, _, av3, ka3, br3, cr3, spr3, by omega, hle12.trans hle23, hka3, hav3, hcr3, rfl, rfl⟩
    ·obtain rfl : k = W := by omega
     have hmid : midA 0 d.next d.width.toNat f (turnL d i) k = turnL d (i + 1) := by rw [hsucc, hW]
     have hfa : Ri.take k = Ri := by rw [← hRl]; exact List.take_length
     rw [hmid] at hka2 hav2 hlenk
     rw [hfa] at hsI ⊢
     have hpre1 := turnL_pre d (show i ≤ i + 1 by omega)
     have hlen1 := hpre1.length_le
     have hget1 : (turnL d (i + 1))[i]'(by omega) = f := by have h := (hpre1.getElem hi).symm; rw [← hf] at h; exact h
     rcases hka2 with ⟨_, _, h0, _, _⟩ | ⟨bl3, cc3, sp3, rfl, rfl, hxc3, hcc3⟩
     ·omega
     have hsE := hsI
     try simp only [zzs] at hsE
     repeat (obtain ⟨hsx, hsE⟩ := hsE)
     by_cases hbig : (turnL d (i + 1)).length ≤ most
     ·repeat' first
       | (with_reducible first | refine Nx.go ?_ | refine Bk.go (fun _ => ?_) fun _ => ?_)
       | ((with_reducible first | refine NewB.mk2 fun nb hnb hnb1 hnb2 => ?_ | refine NewRow.mk2 fun nb nsp ncap hnb hncap hnb1 hnb2 => ?_); try simp only [zzn] at hnb2)
       | simp -dsimp -implicitDefEqProofs (disch := first | assumption | (simp only [zzm]; done) | omega | (try with_reducible refine Row.adr (by assumption) ?_); simp only [zzl, Nat.reduceAdd]; first | done | omega) only [go_sem, ↓reduceIte, seval, -List.reduceReplicate, hCl, hCw, hWd]
      -- the row is written no more
      refine Tri.upd (Upd.go (H' := (br, .cells (Ri.map (Value.int .i64)) spr 3) :: (b7, .cells (cellsD d vn vb (.slice ay2 d.names.length cy2)) [] 27) :: (kn ++ ((bl3, .cells av2 sp3 24) :: (kl ++ ((b2, .cells C [] 27) :: (b4, .cells zeroC [] 27) :: H))))) (by intro fsum; simp only [zzq]; omega) (Upd.now ?_))
      refine Tri.sepT fun hs3 => ?_
      refine Tri.upd (Upd.shareRow hs3.1.1 fun G3 hle3 hs4 hr3 => ?_)
      have hrv3 := (hrv.mono (hle12.trans hle3)).snoc (b := some ⟨br, 0, none⟩) (c := cr) hr3 (by omega)
      rw [hRl, ← hrsucc] at hrv3
      refine Tri.live [1, 2, 4, 5, 6, 7, 8, 9] ?_
      refine Tri.isPiece [1, 1, 1, 0, 1, 0, 0, 1, 0, 0, 1, 1, 1, 0] Tryz.f23 (by kernel_rfl) ?_
      refine Tri.onlyN (rq22_t O.ofl (by omega) hrv.one hkn) fun G4 l4 H4 hle4 hs5 hM => ?_
      obtain ⟨vn', kn', rfl, hkn', hfr, rfl⟩ := hM
      simp only [go_sem]
      refine Tri.live [1, 2, 4, 5, 6, 7, 8] ?_
      rw [hfr]
      refine Tri.upd (Upd.go (H' := (b7, .cells (cellsD d vn' vb (.slice ay2 d.names.length cy2)) [] 27) :: (bl3, .cells av2 sp3 24) :: (kl ++ (kn' ++ ((b2, .cells C [] 27) :: (b4, .cells zeroC [] 27) :: H)))) (by intro fsum; simp only [zzq]; omega) (Upd.now ?_))
      refine Tri.isPiece [1, 1, 1, 0, 1, 0, 0, 1, 0, 0, 1, 1, 1, 1] Tryz.f23 (by kernel_rfl) ?_
      have hll : (labsI d i).length = i := by unfold labsI; rw [List.length_map, List.length_take]; omega
      refine Tri.onlyN (rq23_t O.ofl (by omega) hll (by omega) (by omega) (by rw [hget1]; omega) (hav2.mono hle3) hkl) fun G5 l5 H5 hle5 hs6 hM => ?_
      obtain ⟨vl', kl', rfl, hkl', hfr2, rfl⟩ := hM
      rw [hget1, ← hlsucc] at hkl'
      simp only [go_sem]
      refine Tri.live [1, 2, 4, 5, 6, 7, 8] ?_
      rw [hfr2]
      refine Tri.run tok [0, 1, 2, 4, 5, 6, 7, 8, 9, 10, 11, 12, 13, 27, 34, 42, 66, 80] (by kernel_rfl) ?_
      repeat' first
       | (with_reducible first | refine Nx.go ?_ | refine Bk.go (fun _ => ?_) fun _ => ?_)
       | ((with_reducible first | refine NewB.mk2 fun nb hnb hnb1 hnb2 => ?_ | refine NewRow.mk2 fun nb nsp ncap hnb hncap hnb1 hnb2 => ?_); try simp only [zzn] at hnb2)
       | simp -dsimp -implicitDefEqProofs (disch := first | assumption | (simp only [zzm]; done) | omega | (try with_reducible refine Row.adr (by assumption) ?_); simp only [zzl, Nat.reduceAdd]; first | done | omega) only [go_sem, ↓reduceIte, seval, -List.reduceReplicate]
      refine Upd.leave (H' := (b2, .cells C [] 27) :: (b4, .cells zeroC [] 27) :: (b7, .cells (cellsD d vn' vl' (.slice ay2 d.names.length cy2)) [] 27) :: ([(bl3, .cells av2 sp3 24)] ++ (kn' ++ (kl' ++ H)))) (by intro fsum; simp only [zzq]; omega) ?_
      exact ⟨q - 1, by omega, i + 1, _, av2, [(bl3, .cells av2 sp3 24)], vn', vl', _, kn', kl', by omega, hle01.trans (hle12.trans hle3), .inr ⟨bl3, cc3, sp3, rfl, rfl, hxc3, hcc3⟩, hav2.mono hle3, by omega, hbig, hrv3, hkn', hkl', rfl, rfl⟩
     ·have hno : ¬ (turnL d most).length ≤ most := by
       have h2 := (turnL_pre d (show i + 1 ≤ most by omega)).length_le
       omega
      have htr : turnR d most = (zeroD, false) := by unfold turnR; rw [if_neg hno]
      rw [htr] at hR
      repeat' first
       | (with_reducible first | refine Nx.go ?_ | refine Bk.go (fun _ => ?_) fun _ => ?_)
       | ((with_reducible first | refine NewB.mk2 fun nb hnb hnb1 hnb2 => ?_ | refine NewRow.mk2 fun nb nsp ncap hnb hncap hnb1 hnb2 => ?_); try simp only [zzn] at hnb2)
       | simp -dsimp -implicitDefEqProofs (disch := first | assumption | (simp only [zzm]; done) | omega | (try with_reducible refine Row.adr (by assumption) ?_); simp only [zzl, Nat.reduceAdd]; first | done | omega) only [go_sem, ↓reduceIte, seval, -List.reduceReplicate, hCl, hCw, hWd, zeroC_len, zeroC_one, zeroC_take, zeroC_put, List.toList_toArray]
      unfold UpdR
      refine Upd.leave (H' := H) (by intro fsum; simp only [zzq]; omega) ?_
      exact hR G2 _ (hle01.trans hle12) (zeroD_is _)
  ·have hie : (turnL d i).length = i := by omega
   have hil' : i ≤ most := by omega
   obtain ⟨e1, e2⟩ := turnL_end hie hil'
   have htr : turnR d most = (⟨d.of, d.width, rowsI d i, labsI d i, d.names⟩, true) := by unfold turnR; rw [e1, if_pos (by omega), e2]
   rw [htr] at hR
   have hrl : (rowsI d i).length = i := by unfold rowsI; rw [List.length_map, List.length_take]; omega
   have hll : (labsI d i).length = i := by unfold labsI; rw [List.length_map, List.length_take]; omega
   rcases hkn with ⟨_, _, h0, _, _⟩ | ⟨bn, cn2, spn, rfl, rfl, hx1, hxc⟩
   ·omega
   rcases hkl with ⟨_, _, h0, _, _⟩ | ⟨bk, ck, spk, rfl, rfl, hy, hyc⟩
   ·omega
   rw [Nat.mul_one] at hxc hx1 hyc
   rw [List.length_map] at hyc
   repeat' first
    | (with_reducible first | refine Nx.go ?_ | refine Bk.go (fun _ => ?_) fun _ => ?_)
    | ((with_reducible first | refine NewB.mk2 fun nb hnb hnb1 hnb2 => ?_ | refine NewRow.mk2 fun nb nsp ncap hnb hncap hnb1 hnb2 => ?_); try simp only [zzn] at hnb2)
    | simp -dsimp -implicitDefEqProofs (disch := first | assumption | (simp only [zzm]; done) | omega | (try with_reducible refine Row.adr (by assumption) ?_); simp only [zzl, Nat.reduceAdd]; first | done | omega) only [go_sem, ↓reduceIte, seval, -List.reduceReplicate, List.toList_toArray, hCl]
   refine Tri.run tok [0, 1, 2, 4, 5, 6, 7, 8, 9, 10, 11, 12, 13, 27, 34, 42, 66, 80] (by kernel_rfl) ?_
   repeat' first
    | (with_reducible first | refine Nx.go ?_ | refine Bk.go (fun _ => ?_) fun _ => ?_)
    | ((with_reducible first | refine NewB.mk2 fun nb hnb hnb1 hnb2 => ?_ | refine NewRow.mk2 fun nb nsp ncap hnb hncap hnb1 hnb2 => ?_); try simp only [zzn] at hnb2)
    | simp -dsimp -implicitDefEqProofs (disch := first | assumption | (simp only [zzm]; done) | omega | (try with_reducible refine Row.adr (by assumption) ?_); simp only [zzl, Nat.reduceAdd]; first | done | omega) only [go_sem, ↓reduceIte, seval, -List.reduceReplicate, List.toList_toArray, hCl, hl2, ht2, hputz, hone, zeroC_len]
   unfold UpdR
   refine Upd.go (H' := (bn, .cells rv spn 24) :: (bk, .cells ((labsI d i).map (Value.int .i64)) spk 3) :: H) (by intro fsum; simp only [zzq]; omega) ?_
   refine Upd.trans (Upd.shareRow (hsL.none (by simp [keys])) fun G5 hle5 hs9 hr5 => ?_)
   refine Upd.shareRow hs9.1.1 fun G6 hle6 hs10 hr6 => ?_
   have k6 := hle5.trans hle6
   have hrv6 := hrv.mono k6
   refine hR G6 _ (hle01.trans k6) ⟨O.ofl, O.ofb, _, _, _, rfl, ⟨some ⟨bn, 0, none⟩, cn2, rv, ?_, hr5.mono hle6, hrv6.1, ?_, hrv6.2⟩, ⟨some ⟨bk, 0, none⟩, ck, ?_, hr6, ?_⟩, ⟨ay2, cy2, rfl, hry2.mono (hle01.trans k6), hcy2⟩⟩
   ·show _ = Value.slice _ (rowsI d i).length _
    rw [hrl]
   ·show (rowsI d i).length ≤ _
    omega
   ·show _ = Value.slice _ (labsI d i).length _
    rw [hll]
   ·show (labsI d i).length ≤ _
    omega
theorem rturned_t {d : DfaT} (hsm : SmallD d) (hok : RightP d) {most : Nat} (hm1 : 1 ≤ most) (hm2 : most ≤ 65536) {G : PHeap} {H : Heap} {R : Value → PHeap → Heap → Prop} {v : Value} (hv : IsD G d v)
  (hR : ∀ G' v', PLe G G' → Sep G' (keys H) → IsD G' (turnR d most).1 v' → R (.tuple #[v', .bool (turnR d most).2]) G' H) : FnT Tryz.prog 23 [v, .int .i64 (most : Nat)] G H R := by
 obtain ⟨C, an, al, ay, cn, cl, cs, rs, rfl, O⟩ := hv.opened
 obtain ⟨hs1, hs2, hs3, hs4, hs5⟩ := id hsm
 have hCl := O.len
 have hCa := O.all
 have hCw := O.w
 have hCx := O.l
 have hCs := O.s
 have hCo := O.of
 have hofl : (u8L d.of).length = 256 := by rw [List.length_map, O.ofl]
 have hb1 := build_of O.ofl
 have hb2 := build_w O.ofl
 have hl1 : (u8L d.of ++ [Value.int .i64 0, Value.slice none 0 0, Value.slice none 0 0, Value.slice none 0 0]).length = 260 := by rw [List.length_append, hofl]; rfl
 have hl2 : ∀ v : Value, (cellsD d (.slice none 0 0) (.slice none 0 0) v).length = 260 := fun v => cellsD_len O.ofl _ _ _
 have hb3 := build_s O.ofl (.slice none 0 0) (.slice none 0 0) (.slice none 0 0)
 have hputz : ∀ v : Value, splice zeroC 0 (cellsD d (.slice none 0 0) (.slice none 0 0) v) = cellsD d (.slice none 0 0) (.slice none 0 0) v := fun v => by
  unfold splice
  rw [List.take_zero, List.nil_append, List.drop_of_length_le (by rw [zeroC_len, hl2]; omega), List.append_nil]
 have hone := cellsD_one (d := d) (vn := .slice none 0 0) (vl := .slice none 0 0) (vs := .slice ay d.names.length cs) rfl rfl rfl
 have hz : List.replicate 256 (Value.int .u8 0) ++ [Value.int .i64 0, Value.slice none 0 0, Value.slice none 0 0, Value.slice none 0 0] = zeroC := rfl
 have hr1 : ∀ v : Value, List.replicate 1 v = [v] := fun _ => rfl
 refine FnT.sep ?_
 refine FnT.bodyS tok [0, 1, 2, 4, 5, 6, 7, 8, 9, 10, 11, 12, 13, 27, 34, 42, 66, 80] (.seq .run (.seq .run (.seq .run .cut))) Tryz.func23 rfl (by kernel_rfl) (by kernel_rfl) (by show _ ≤ 100; simp) fun hsep => ?_
 rw [Tryz.results23]
 have hsE := hsep
 try simp only [zzs] at hsE
 repeat (obtain ⟨hsx, hsE⟩ := hsE)
 repeat' first
  | (with_reducible first | refine Nx.go ?_ | refine Bk.go (fun _ => ?_) fun _ => ?_)
  | ((with_reducible first | refine NewB.mk2 fun nb hnb hnb1 hnb2 => ?_ | refine NewRow.mk2 fun nb nsp ncap hnb hncap hnb1 hnb2 => ?_); try simp only [zzn] at hnb2)
  | simp -dsimp -implicitDefEqProofs (disch := first | assumption | (simp only [zzm]; done) | omega | (try with_reducible refine Row.adr (by assumption) ?_); simp only [zzl, Nat.reduceAdd]; first | done | omega) only [go_sem, ↓reduceIte, seval, -List.reduceReplicate, List.toList_toArray, hCl, hCa, hCx, hCw, hCo, hCs, hofl, hb1, hb2, hb3, hl1, hl2, hputz, hone, hz, hr1, zeroC_len]
 rename_i b2 x1 x2 x3 b4 x4 x5 x6 bl x7 x8 x9
 refine Tri.live [1, 2, 4, 5, 6, 7] ?_
 refine Tri.upd (Upd.go (H' := (b2, .cells C [] 27) :: (b4, .cells zeroC [] 27) :: (nb, .cells (cellsD d (.slice none 0 0) (.slice none 0 0) (.slice ay d.names.length cs)) [] 27) :: ([(bl, .cells [.slice al d.label.length cl] [] 24)] ++ H)) (by intro fsum; simp only [zzq]; omega) (Upd.now ?_))
 refine Tri.isPiece [1, 1, 1] Tryz.f23 (by kernel_rfl) ?_
 exact rtl_t hsm hok hm1 hm2 O O.names (.inr ⟨bl, 1, [], rfl, rfl, rfl, rfl⟩) ((RwI.nil G).snoc O.rl O.rlc) fun G' v' hle hI _ hs => hR G' v' hle hs hI
end Go.Proofs.YtefkpedhbijhkaaGreatDoor
namespace Go.Proofs.YtefkpedhbijhkaaGreatDoor
open Go Go.V Go.Proofs
theorem rplace_t {l : List Int} (hl : l.length ≤ 2000000) {x : Int} {G : PHeap} {H : Heap} {R : Value → PHeap → Heap → Prop} {v : Value} (hv : Sl G (Value.int .i64) v l)
  (hR : R (.int .i64 (findF l x)) G H) : FnT Tryz.prog 82 [v, .int .i64 x] G H R := by
 obtain ⟨a, cap, rfl, hrow, hcap⟩ := hv
 refine FnT.body tok [0, 1, 4, 5, 9, 17] Tryz.func82 rfl (by kernel_rfl) (by kernel_rfl) (by show _ ≤ 19; simp) fun hsep => ?_
 rw [Tryz.results82]
 have hsE := hsep
 try simp only [zzs] at hsE
 repeat (obtain ⟨hsx, hsE⟩ := hsE)
 repeat' first
  | (with_reducible first | refine Nx.go ?_ | refine Bk.go (fun _ => ?_) fun _ => ?_)
  | (with_reducible refine NewB.mk2 fun nb hnb hnb1 hnb2 => ?_; try simp only [zzn] at hnb2)
  | simp -dsimp -implicitDefEqProofs (disch := first | assumption | (simp only [zzm]; done) | omega | (try with_reducible refine Row.adr (by assumption) ?_); simp only [zzl, Nat.reduceAdd]; first | done | omega) only [go_sem, ↓reduceIte, seval]
 refine Tri.loopU tok [0, 1, 4, 5, 9, 17] (by kernel_rfl) [0, 1, 4, 5] (fun q G' fr H' => ∃ i : Nat, i + q = l.length ∧ (∀ j (h : j < l.length), j < i → l[j] ≠ x) ∧ G' = G ∧ H' = H ∧ fr = [(0, .slice a l.length cap), (1, .int .i64 x), (4, .int .i64 0), (5, .int .i64 (i : Nat))]) (l.length) (Upd.now ?_) ?_
 ·exact ⟨0, by omega, fun j _ h => by omega, rfl, rfl, rfl⟩
 ·rintro q G' fr H' hle hs ⟨i, hi, hno, rfl, rfl, rfl⟩
  by_cases hil : i < l.length
  ·have had : Adr a := hrow.adr (by rw [List.length_map]; omega)
   by_cases hx : l[i] = x
   ·have hf : findF l x = (i : Int) := findF_some (place_at hil ⟨hil, rfl⟩ (fun j h hj => by rw [hx]; exact hno j h hj) |> fun h => by rw [hx] at h; exact h)
    rw [hf] at hR
    repeat' first
     | (with_reducible first | refine Nx.go ?_ | refine Bk.go (fun _ => ?_) fun _ => ?_)
     | (with_reducible refine NewB.mk2 fun nb hnb hnb1 hnb2 => ?_; try simp only [zzn] at hnb2)
     | simp -dsimp -implicitDefEqProofs (disch := first | assumption | (simp only [zzm]; done) | omega | (try with_reducible refine Row.adr (by assumption) ?_); simp only [zzl, Nat.reduceAdd]; first | done | omega) only [go_sem, ↓reduceIte, seval, Row.obj hrow, List.getElem_map, hx]
    all_goals refine Upd.finL ?_ hR ?_
    any_goals (intro fsum; first | exact Nat.le_refl _ | (simp only [zzq]; omega))
    all_goals rfl
   ·repeat' first
     | (with_reducible first | refine Nx.go ?_ | refine Bk.go (fun _ => ?_) fun _ => ?_)
     | (with_reducible refine NewB.mk2 fun nb hnb hnb1 hnb2 => ?_; try simp only [zzn] at hnb2)
     | simp -dsimp -implicitDefEqProofs (disch := first | assumption | (simp only [zzm]; done) | omega | (try with_reducible refine Row.adr (by assumption) ?_); simp only [zzl, Nat.reduceAdd]; first | done | omega) only [go_sem, ↓reduceIte, seval, Row.obj hrow, List.getElem_map, hx]
    exact Upd.now ⟨q - 1, by omega, i + 1, by omega, fun j h hj => by
     by_cases e : j = i
     ·subst e; exact hx
     ·exact hno j h (by omega), rfl, rfl, rfl⟩
  ·obtain rfl : i = l.length := by omega
   have hf : findF l x = -1 := findF_none (place_no fun h => by obtain ⟨j, hj, e⟩ := List.getElem_of_mem h; exact hno j hj hj e)
   rw [hf] at hR
   repeat' first
    | (with_reducible first | refine Nx.go ?_ | refine Bk.go (fun _ => ?_) fun _ => ?_)
    | (with_reducible refine NewB.mk2 fun nb hnb hnb1 hnb2 => ?_; try simp only [zzn] at hnb2)
    | simp -dsimp -implicitDefEqProofs (disch := first | assumption | (simp only [zzm]; done) | omega | (try with_reducible refine Row.adr (by assumption) ?_); simp only [zzl, Nat.reduceAdd]; first | done | omega) only [go_sem, ↓reduceIte, seval]
   all_goals refine Upd.finL ?_ hR ?_
   any_goals (intro fsum; first | exact Nat.le_refl _ | (simp only [zzq]; omega))
   all_goals rfl
theorem rkp3_t {d : DfaT} (hsm : SmallD d) {C : List Value} {an al ay : Option Addr} {cn cl cs : Nat} {rs : List Value} {G : PHeap} {H : Heap} (O : OpenD G d C an al ay cn cl cs rs) {v0 v1 : Value} {b2 b4 : Nat} :
  Tri Tryz.prog Tryz.f52.ntmps (piece [1, 1, 0] Tryz.f52) G [(0, v0), (1, v1), (2, .pointer (some ⟨b2, 0, none⟩)), (4, .pointer (some ⟨b4, 0, none⟩)), (5, .int .i64 0)] ((b4, .cells zeroC [] 27) :: (b2, .cells C [] 27) :: H) (onlyN fun G' fr' H' =>
   ∃ b7 vs, PLe G G' ∧ Sl G' str vs d.names ∧ restrict [0, 1, 2, 4, 5, 6] fr' = [(0, v0), (1, v1), (2, .pointer (some ⟨b2, 0, none⟩)), (4, .pointer (some ⟨b4, 0, none⟩)), (5, .int .i64 0), (6, .pointer (some ⟨b7, 0, none⟩))] ∧ H' = (b7, .cells (cellsD d (.slice none 0 0) (.slice none 0 0) vs) [] 27) :: (b4, .cells zeroC [] 27) :: (b2, .cells C [] 27) :: H) := by
 obtain ⟨hm1, hm2, hm3, hm4, hm5⟩ := id hsm
 have hCl := O.len
 have hCw := O.w
 have hCs := O.s
 have hCo := O.of
 have hofl : (u8L d.of).length = 256 := by rw [List.length_map, O.ofl]
 have hb1 := build_of O.ofl
 have hb2 := build_w O.ofl
 have hl1 : (u8L d.of ++ [Value.int .i64 0, Value.slice none 0 0, Value.slice none 0 0, Value.slice none 0 0]).length = 260 := by rw [List.length_append, hofl]; rfl
 have hl2 : ∀ v : Value, (cellsD d (.slice none 0 0) (.slice none 0 0) v).length = 260 := fun v => cellsD_len O.ofl _ _ _
 have hb3 := build_s O.ofl (.slice none 0 0) (.slice none 0 0) (.slice none 0 0)
 have hputz : ∀ v : Value, splice zeroC 0 (cellsD d (.slice none 0 0) (.slice none 0 0) v) = cellsD d (.slice none 0 0) (.slice none 0 0) v := fun v => by
  unfold splice
  rw [List.take_zero, List.nil_append, List.drop_of_length_le (by rw [zeroC_len, hl2]; omega), List.append_nil]
 have hone := cellsD_one (d := d) (vn := .slice none 0 0) (vl := .slice none 0 0) (vs := .slice ay d.names.length cs) rfl rfl rfl
 refine Tri.sepT fun hs0 => ?_
 have hsE := hs0
 try simp only [zzs] at hsE
 repeat (obtain ⟨hsx, hsE⟩ := hsE)
 refine Tri.piece (f := Tryz.f52) rfl ?_
 refine Tri.run tok [0, 1, 2, 4, 5, 6, 7, 8, 9, 10, 11, 20, 32, 59, 64, 71, 88] (by kernel_rfl) ?_
 repeat' first
  | (with_reducible first | refine Nx.go ?_ | refine Bk.go (fun _ => ?_) fun _ => ?_)
  | ((with_reducible first | refine NewB.mk2 fun nb hnb hnb1 hnb2 => ?_ | refine NewRow.mk2 fun nb nsp ncap hnb hncap hnb1 hnb2 => ?_); try simp only [zzn] at hnb2)
  | with_reducible refine Tri.drawH tok mixed [0, 1, 2, 4, 5, 6, 7, 8, 9, 10, 11, 20, 32, 59, 64, 71, 88] 7 [3, 9, 11, 20] (.op 0 .plain (.op 1 .plain (.op 2 .plain (.op 3 .held (.op 4 .plain (.op 5 .plain (.op 6 .plain (.op 7 .plain (.op 8 .plain (.op 9 .held (.op 10 .plain (.op 11 .held (.op 12 .plain (.op 13 .plain (.op 14 .plain (.op 15 .plain (.op 16 .plain (.op 17 .plain (.op 18 .plain (.op 19 .plain (.op 20 .held (.op 22 .plain (.op 21 .keeps (.op 23 .plain (.op 24 .plain .nil))))))))))))))))))))))))) (by kernel_rfl) [1, 2] ?_
  | with_reducible refine Tri.drawM tok mixed [0, 1, 2, 4, 5, 6, 7, 8, 9, 10, 11, 20, 32, 59, 64, 71, 88] 16 [2, 6, 8, 11] (.op 0 .plain (.op 1 .plain (.op 2 .held (.op 3 .plain (.op 4 .plain (.op 5 .plain (.op 6 .held (.op 7 .plain (.op 8 .held (.op 9 .plain (.op 10 .plain (.op 11 .held (.op 12 .keeps (.op 13 .plain .nil)))))))))))))) (by kernel_rfl) _ (List.Sublist.refl _) ?_
  | with_reducible refine Tri.drawM tok mixed [0, 1, 2, 4, 5, 6, 7, 8, 9, 10, 11, 20, 32, 59, 64, 71, 88] 21 [1, 3, 7, 9] (.op 0 .plain (.op 1 .held (.op 2 .plain (.op 3 .held (.op 4 .plain (.op 5 .plain (.op 6 .plain (.op 7 .held (.op 8 .plain (.op 9 .held (.op 10 .keeps (.op 11 .keeps (.op 12 .plain (.op 13 .plain .nil)))))))))))))) (by kernel_rfl) _ (List.Sublist.refl _) ?_
  | simp -dsimp -implicitDefEqProofs (disch := first | assumption | (simp only [zzm]; done) | omega | (try with_reducible refine Row.adr (by assumption) ?_); simp only [zzl, Nat.reduceAdd]; first | done | omega) only [go_sem, ↓reduceIte, seval, -List.reduceReplicate, List.toList_toArray, hCl, hCw, hCs, hCo, hofl, hb1, hb2, hb3, hl1, hl2, zeroC_len, zeroC_one, hputz, hone]
  | (with_reducible refine And.intro ?_ ?_)
 all_goals exact Upd.now ⟨nb, _, PLe.refl _, O.names, rfl, rfl⟩
theorem rkr21_t {d : DfaT} {l : List Int} {C : List Value} {an al ay : Option Addr} {cn cl cs : Nat} {rs : List Value} {G : PHeap} {H : Heap} (O : OpenD G d C an al ay cn cl cs rs) {v0 : Value} {aw : Option Addr} {cw : Nat} (hrw : Row G aw (l.map (Value.int .i64))) {b2 b4 b7 : Nat} {j t : Nat} (hj : j < l.length) (hjb : j < 65536) (ht : t < d.label.length) (hsj : l[j] = (t : Int)) {vn vl vs : Value} {kl : Heap} (hout : LabK d l j vl kl) :
  Tri Tryz.prog Tryz.f52.ntmps (piece [1, 1, 1, 1, 0, 1, 0, 0, 1, 0, 0, 1, 1, 1] Tryz.f52) G [(0, v0), (1, .slice aw l.length cw), (2, .pointer (some ⟨b2, 0, none⟩)), (4, .pointer (some ⟨b4, 0, none⟩)), (5, .int .i64 0), (6, .pointer (some ⟨b7, 0, none⟩)), (8, .int .i64 (j : Nat))] ((b7, .cells (cellsD d vn vl vs) [] 27) :: (b2, .cells C [] 27) :: (kl ++ H)) (onlyN fun G' fr' H' =>
   ∃ vl' kl', G' = G ∧ LabK d l (j + 1) vl' kl' ∧ restrict [0, 1, 2, 4, 5, 6, 8] fr' = [(0, v0), (1, .slice aw l.length cw), (2, .pointer (some ⟨b2, 0, none⟩)), (4, .pointer (some ⟨b4, 0, none⟩)), (5, .int .i64 0), (6, .pointer (some ⟨b7, 0, none⟩)), (8, .int .i64 (j : Nat))] ∧ H' = (b7, .cells (cellsD d vn vl' vs) [] 27) :: (b2, .cells C [] 27) :: (kl' ++ H)) := by
 have hCl := O.len
 have hCx := O.l
 have hl2 : ∀ a b c : Value, (cellsD d a b c).length = 260 := fun a b c => cellsD_len O.ofl _ _ _
 have hg2 : ∀ a b c : Value, (cellsD d a b c)[258]? = some b := fun a b c => cellsD_l O.ofl _ _ _
 have hputL : ∀ a b c x : Value, splice (cellsD d a b c) 258 [x] = cellsD d a x c := fun a b c x => cellsD_putL O.ofl _ _ _ _
 have hlt : d.label[t] = d.label.getD t 0 := by rw [List.getD_eq_getElem?_getD, List.getElem?_eq_getElem ht]; rfl
 have hlab : (labF d l).take (j + 1) = (labF d l).take j ++ [d.label.getD t 0] := by
  have hjl : j < (labF d l).length := by unfold labF; rw [List.length_map]; exact hj
  rw [List.take_succ_eq_append_getElem hjl]
  congr 2
  simp only [labF, List.getElem_map, hsj, Int.toNat_natCast]
 have hlj : ((labF d l).take j).length = j := by rw [List.length_take]; unfold labF; rw [List.length_map]; omega
 have hadw : Adr aw := hrw.adr (by rw [List.length_map]; omega)
 have had2 : Adr al := O.rl.adr (by rw [List.length_map]; omega)
 refine Tri.sepT fun hs0 => ?_
 rcases hout with ⟨hj0, rfl, rfl⟩ | ⟨bl, c2, sp2, rfl, rfl, hc2⟩
 ·have hsE := hs0
  try simp only [zzs] at hsE
  repeat (obtain ⟨hsx, hsE⟩ := hsE)
  have hce : ((labF d l).take (j + 1)).map (Value.int .i64) = [Value.int .i64 (d.label.getD t 0)] := by rw [hlab, List.map_append, List.eq_nil_of_length_eq_zero (hlj.trans hj0)]; rfl
  refine Tri.piece (f := Tryz.f52) rfl ?_
  refine Tri.run tok [0, 1, 2, 4, 5, 6, 7, 8, 9, 10, 11, 20, 32, 59, 64, 71, 88] (by kernel_rfl) ?_
  repeat' first
   | (with_reducible first | refine Nx.go ?_ | refine Bk.go (fun _ => ?_) fun _ => ?_)
   | ((with_reducible first | refine NewB.mk2 fun nb hnb hnb1 hnb2 => ?_ | refine NewRow.mk2 fun nb nsp ncap hnb hncap hnb1 hnb2 => ?_); try simp only [zzn] at hnb2)
   | simp -dsimp -implicitDefEqProofs (disch := first | assumption | (simp only [zzm]; done) | omega | (try with_reducible refine Row.adr (by assumption) ?_); simp only [zzl, Nat.reduceAdd]; first | done | omega) only [go_sem, ↓reduceIte, seval, -List.reduceReplicate, List.replicate_one, List.toList_toArray, hCl, hCx, hl2, hg2, hputL, Row.obj hrw, Row.obj O.rl, List.getElem_map, hsj, hlt, Int.toNat_natCast, Nat.sub_self]
   | with_reducible refine Tri.drawH tok mixed [0, 1, 2, 4, 5, 6, 7, 8, 9, 10, 11, 20, 32, 59, 64, 71, 88] 21 [1, 3, 7, 9] (.op 0 .plain (.op 1 .held (.op 2 .plain (.op 3 .held (.op 4 .plain (.op 5 .plain (.op 6 .plain (.op 7 .held (.op 8 .plain (.op 9 .held (.op 10 .keeps (.op 11 .keeps (.op 12 .plain (.op 13 .plain .nil)))))))))))))) (by kernel_rfl) [6, 2, 1] ?_
  rw [← hce]
  exact Upd.go (H' := (b7, .cells (cellsD d vn (.slice (some ⟨nb, 0, none⟩) 1 ncap) vs) [] 27) :: (b2, .cells C [] 27) :: ([(nb, .cells (((labF d l).take (j + 1)).map (Value.int .i64)) nsp 3)] ++ H)) (by intro fsum; first | exact Nat.le_refl _ | (simp only [zzq]; omega)) (Upd.now ⟨.slice (some ⟨nb, 0, none⟩) 1 ncap, _, rfl, .inr ⟨nb, ncap, nsp, by rw [hj0], rfl, by omega⟩, rfl, rfl⟩)
 ·have hsE := hs0
  try simp only [zzs] at hsE
  repeat (obtain ⟨hsx, hsE⟩ := hsE)
  obtain ⟨ps, hps, hpl⟩ : ∃ ps, ps = ((labF d l).take j).map (Value.int .i64) ∧ ps.length = j := ⟨_, rfl, by rw [List.length_map, hlj]⟩
  have hce : ((labF d l).take (j + 1)).map (Value.int .i64) = ps ++ [Value.int .i64 (d.label.getD t 0)] := by rw [hlab, List.map_append, ← hps]; rfl
  rw [← hps]
  refine Tri.piece (f := Tryz.f52) rfl ?_
  refine Tri.run tok [0, 1, 2, 4, 5, 6, 7, 8, 9, 10, 11, 20, 32, 59, 64, 71, 88] (by kernel_rfl) ?_
  repeat' first
   | (with_reducible first | refine Nx.go ?_ | refine Bk.go (fun _ => ?_) fun _ => ?_)
   | ((with_reducible first | refine NewB.mk2 fun nb hnb hnb1 hnb2 => ?_ | refine NewRow.mk2 fun nb nsp ncap hnb hncap hnb1 hnb2 => ?_); try simp only [zzn] at hnb2)
   | simp -dsimp -implicitDefEqProofs (disch := first | assumption | (simp only [zzm]; done) | omega | (try with_reducible refine Row.adr (by assumption) ?_); simp only [zzl, Nat.reduceAdd]; first | done | omega) only [go_sem, ↓reduceIte, seval, -List.reduceReplicate, List.replicate_one, List.toList_toArray, hCl, hCx, hl2, hg2, hputL, Row.obj hrw, Row.obj O.rl, List.getElem_map, hsj, hlt, Int.toNat_natCast, Nat.sub_self]
   | with_reducible refine Tri.drawH tok mixed [0, 1, 2, 4, 5, 6, 7, 8, 9, 10, 11, 20, 32, 59, 64, 71, 88] 21 [1, 3, 7, 9] (.op 0 .plain (.op 1 .held (.op 2 .plain (.op 3 .held (.op 4 .plain (.op 5 .plain (.op 6 .plain (.op 7 .held (.op 8 .plain (.op 9 .held (.op 10 .keeps (.op 11 .keeps (.op 12 .plain (.op 13 .plain .nil)))))))))))))) (by kernel_rfl) [6, 2, 1] ?_
  rw [← hce]
  exact Upd.go (H' := (b7, .cells (cellsD d vn (.slice (some ⟨nb, 0, none⟩) (j + 1) ncap) vs) [] 27) :: (b2, .cells C [] 27) :: ([(nb, .cells (((labF d l).take (j + 1)).map (Value.int .i64)) nsp 3)] ++ H)) (by intro fsum; first | exact Nat.le_refl _ | (simp only [zzq]; omega)) (Upd.now ⟨_, _, rfl, .inr ⟨nb, ncap, nsp, rfl, rfl, by omega⟩, rfl, rfl⟩)
end Go.Proofs.YtefkpedhbijhkaaGreatDoor
namespace Go.Proofs.YtefkpedhbijhkaaGreatDoor
open Go Go.V Go.Proofs
theorem rkx_t {d : DfaT} (hsm : SmallD d) (hok : RightP d) {l : List Int} (hO : OnceN d.label.length l) {C : List Value} {an al ay : Option Addr} {cn cl cs : Nat} {rs : List Value} {G : PHeap} {H : Heap} (O : OpenD G d C an al ay cn cl cs rs) {v0 : Value} {b2 b4 b7 : Nat} {ah : Option Addr} {ch : Nat} (hch : l.length ≤ ch) (hrh : Row G ah ((l).map (Value.int .i64))) {j : Nat} (hj : j < l.length) {vn vl vs : Value} {kn kl : Heap} (hout : RowK d l G j vn kn) (hlab0 : LabK d l j vl kl) (hvs : oneV vs = true) (hfine : fineK d l (l[j]'hj)) :
  Tri Tryz.prog Tryz.f52.ntmps (piece [1, 1, 1, 1, 0, 1, 0, 0, 1, 0, 0] Tryz.f52) G [(0, v0), (1, .slice ah l.length ch), (2, .pointer (some ⟨b2, 0, none⟩)), (4, .pointer (some ⟨b4, 0, none⟩)), (5, .int .i64 0), (6, .pointer (some ⟨b7, 0, none⟩)), (8, .int .i64 (j : Nat))] ((b7, .cells (cellsD d vn vl vs) [] 27) :: (b2, .cells C [] 27) :: (kn ++ (kl ++ H))) (onlyN fun G' fr' H' =>
   ∃ vn' vl' kn' kl', PLe G G' ∧ RowK d l G' (j + 1) vn' kn' ∧ LabK d l (j + 1) vl' kl' ∧ restrict [0, 1, 2, 4, 5, 6, 8] fr' = [(0, v0), (1, .slice ah l.length ch), (2, .pointer (some ⟨b2, 0, none⟩)), (4, .pointer (some ⟨b4, 0, none⟩)), (5, .int .i64 0), (6, .pointer (some ⟨b7, 0, none⟩)), (8, .int .i64 (j : Nat))] ∧ H' = (b7, .cells (cellsD d vn' vl' vs) [] 27) :: (b2, .cells C [] 27) :: (kn' ++ (kl' ++ H))) := by
 obtain ⟨hm1, hm2, hm3, hm4, hm5⟩ := id hsm
 obtain ⟨hk1, hk2, hk3, hk4, hk5, hk6, hk7⟩ := id hok
 have hCl := O.len
 have hCw := O.w
 have hCn := O.n
 have hCx := O.l
 have hl2 : ∀ a b c : Value, (cellsD d a b c).length = 260 := fun a b c => cellsD_len O.ofl _ _ _
 have hg1 : ∀ a b c : Value, (cellsD d a b c)[257]? = some a := fun a b c => cellsD_n O.ofl _ _ _
 have hg2 : ∀ a b c : Value, (cellsD d a b c)[258]? = some b := fun a b c => cellsD_l O.ofl _ _ _
 have hputN : ∀ a b c x : Value, splice (cellsD d a b c) 257 [x] = cellsD d x b c := fun a b c x => cellsD_putN O.ofl _ _ _ _
 have hputL : ∀ a b c x : Value, splice (cellsD d a b c) 258 [x] = cellsD d a x c := fun a b c x => cellsD_putL O.ofl _ _ _ _
 have hjm := hO.2 _ (List.getElem_mem hj)
 obtain ⟨t, hsj⟩ := Int.eq_ofNat_of_zero_le hjm.1
 have htl : t < d.label.length := by omega
 have htn : t < d.next.length := by omega
 have htl2 : t < d.label.length := by omega
 have htv : t < rs.length := by have := O.rnl; omega
 obtain ⟨b, c, e1, e2, e3⟩ := O.rs t htn htv
 obtain ⟨hw0, hlt0, hlt1, hrng⟩ := hk7 t htn htl2
 obtain ⟨row, hrow⟩ : ∃ row, row = d.next[t] := ⟨_, rfl⟩
 have hrl := hm2 _ (List.getElem_mem htn)
 rw [← hrow] at e1 e2 e3 hw0 hrng hrl
 have hw : d.width = (row.length : Int) := hw0.symm
 obtain ⟨r, hr⟩ : ∃ r, r = rowK d l (t : Nat) := ⟨_, rfl⟩
 have hr' : r = row.map (findF l) := by rw [hr]; unfold rowK; rw [nextF_get htn, hrow]
 have hfr : ∀ x ∈ row, x ∈ l := fun x hx => by
  have h1 := hfine x
  rw [hsj, nextF_get htn, ← hrow] at h1
  exact h1 hx
 have hrlen : r.length = row.length := by rw [hr', List.length_map]
 have hlt : d.label[t] = d.label.getD t 0 := by rw [List.getD_eq_getElem?_getD, List.getElem?_eq_getElem htl2]; rfl
 have hlab : (labF d l).take (j + 1) = (labF d l).take j ++ [d.label.getD t 0] := by
  have hjl : j < (labF d l).length := by unfold labF; rw [List.length_map]; exact hj
  rw [List.take_succ_eq_append_getElem hjl]
  congr 2
  simp only [labF, List.getElem_map, hsj, Int.toNat_natCast]
 have hlj : ((labF d l).take j).length = j := by rw [List.length_take]; unfold labF; rw [List.length_map]; omega
 have hrj : rowK d l l[j] = r := by rw [hsj, hr]
 have had : Adr an := O.rn.adr (by omega)
 have had2 : Adr al := O.rl.adr (by rw [List.length_map]; omega)
 have had3 : Adr ah := hrh.adr (by rw [List.length_map]; omega)
 have hll := hO.len
 have hslh : Sl G (Value.int .i64) (.slice ah l.length ch) l := ⟨ah, ch, rfl, hrh, hch⟩
 have hjb : j < 65536 := by
  have h1 := hO.len
  omega
 refine Tri.sepT fun hs0 => ?_
 have hsE := hs0
 try simp only [zzs] at hsE
 repeat (obtain ⟨hsx, hsE⟩ := hsE)
 refine Tri.piece (f := Tryz.f52) rfl ?_
 refine Tri.runS tok [0, 1, 2, 4, 5, 6, 7, 8, 9, 10, 11, 20, 32, 59, 64, 71, 88] (.seq .run (.seq .run (.seq .run .cut))) (by kernel_rfl) ?_
 repeat' first
  | (with_reducible first | refine Nx.go ?_ | refine Bk.go (fun _ => ?_) fun _ => ?_)
  | ((with_reducible first | refine NewB.mk2 fun nb hnb hnb1 hnb2 => ?_ | refine NewRow.mk2 fun nb nsp ncap hnb hncap hnb1 hnb2 => ?_); try simp only [zzn] at hnb2)
  | simp -dsimp -implicitDefEqProofs (disch := first | assumption | (simp only [zzm]; done) | omega | (try with_reducible refine Row.adr (by assumption) ?_); simp only [zzl, Nat.reduceAdd]; first | done | omega) only [go_sem, ↓reduceIte, seval, -List.reduceReplicate, List.toList_toArray, hCl, hCw, hCn, hCx, hw, hl2, hg1, hg2, hputN, hputL, Row.obj hrh, Row.obj O.rn, e1, Row.obj O.rl, List.getElem_map, hsj, hlt, Int.toNat_natCast, Nat.sub_self, List.replicate_zero]
 refine Tri.loopU tok [0, 1, 2, 4, 5, 6, 7, 8, 9, 10, 11, 20, 32, 59, 64, 71, 88] (by kernel_rfl) [0, 1, 2, 4, 5, 6, 8, 9, 10] (fun q G' fr H' => ∃ (k br cR : Nat) (spR : List Value), k + q = row.length ∧ k + spR.length = cR ∧ G' = G ∧ H' = (br, .cells ((r.take k).map (Value.int .i64)) spR 3) :: (b7, .cells (cellsD d vn vl vs) [] 27) :: (b2, .cells C [] 27) :: (kn ++ (kl ++ H)) ∧ fr = [(0, v0), (1, .slice ah l.length ch), (2, .pointer (some ⟨b2, 0, none⟩)), (4, .pointer (some ⟨b4, 0, none⟩)), (5, .int .i64 0), (6, .pointer (some ⟨b7, 0, none⟩)), (8, .int .i64 (j : Nat)), (9, .slice (some ⟨br, 0, none⟩) k cR), (10, .int .i64 (k : Nat))]) (row.length) ?_ ?_
 ·refine Upd.now ?_
  exact ⟨0, nb, 0, [], by omega, rfl, rfl, rfl, rfl⟩
 ·rintro q G1 fr H' hle hs ⟨k, br, cR, spR, hk, hcR, rfl, rfl, rfl⟩
  have hml : ((r.take k).map (Value.int .i64)).length = k := by rw [List.length_map, List.length_take]; omega
  have hml2 : (r.take k).length = k := by rw [List.length_take]; omega
  by_cases hkl : k < row.length
  ·have hsE := hs
   try simp only [zzs] at hsE
   repeat (obtain ⟨hsx, hsE⟩ := hsE)
   have hkr : k < r.length := by omega
   have had5 : Adr b := e2.adr (by rw [List.length_map]; omega)
   have hx := hrng _ (List.getElem_mem hkl)
   obtain ⟨y, hxy⟩ := Int.eq_ofNat_of_zero_le hx.1
   have hym : y < d.label.length := by omega
   have hval : findF l (row[k]) = r[k] := by
    simp only [hr', List.getElem_map]
   have hpos : 0 ≤ r[k] := by
    rw [← hval]
    refine findF_memW.2 ?_
    exact hfr _ (List.getElem_mem hkl)
   have htk := List.take_succ_eq_append_getElem hkr
   have hm2 : (r.take k).map (Value.int .i64) ++ [.int .i64 r[k]] = (r.take (k + 1)).map (Value.int .i64) := by rw [htk, List.map_append]; rfl
   repeat' first
    | (with_reducible first | refine Nx.go ?_ | refine Bk.go (fun _ => ?_) fun _ => ?_)
    | ((with_reducible first | refine NewB.mk2 fun nb hnb hnb1 hnb2 => ?_ | refine NewRow.mk2 fun nb nsp ncap hnb hncap hnb1 hnb2 => ?_); try simp only [zzn] at hnb2)
    | simp -dsimp -implicitDefEqProofs (disch := first | assumption | (simp only [zzm]; done) | omega | (try with_reducible refine Row.adr (by assumption) ?_); simp only [zzl, Nat.reduceAdd]; first | done | omega) only [go_sem, ↓reduceIte, seval, -List.reduceReplicate, hCl, hCw, hCn, hw, Row.obj O.rn, Row.obj hrh, e1, Row.obj e2, List.getElem_map, hsj, hml2, List.replicate_one]
    | with_reducible refine Tri.drawS tok mixed [0, 1, 2, 4, 5, 6, 7, 8, 9, 10, 11, 20, 32, 59, 64, 71, 88] 16 [2, 6, 8, 11] (.op 0 .plain (.op 1 .plain (.op 2 .held (.op 3 .plain (.op 4 .plain (.op 5 .plain (.op 6 .held (.op 7 .plain (.op 8 .held (.op 9 .plain (.op 10 .plain (.op 11 .held (.op 12 .keeps (.op 13 .plain .nil)))))))))))))) (by kernel_rfl) [(b2, .cells C [] 27)] (by intro fsum; first | exact Nat.le_refl _ | (simp only [zzq]; omega)) ?_
   refine rplace_t (by omega) hslh ?_
   rw [hval]
   repeat' first
    | (with_reducible first | refine Nx.go ?_ | refine Bk.go (fun _ => ?_) fun _ => ?_)
    | ((with_reducible first | refine NewB.mk2 fun nb hnb hnb1 hnb2 => ?_ | refine NewRow.mk2 fun nb nsp ncap hnb hncap hnb1 hnb2 => ?_); try simp only [zzn] at hnb2)
    | simp -dsimp -implicitDefEqProofs (disch := first | assumption | (simp only [zzm]; done) | omega | (try with_reducible refine Row.adr (by assumption) ?_); simp only [zzl, Nat.reduceAdd]; first | done | omega) only [go_sem, ↓reduceIte, seval, -List.reduceReplicate, hCl, hCw, hCn, hw, Row.obj O.rn, Row.obj hrh, e1, Row.obj e2, List.getElem_map, hsj, hml2, List.replicate_one]
   all_goals try (exfalso; omega)
   rw [hm2]
   exact Upd.go (H' := (nb, .cells ((r.take (k + 1)).map (Value.int .i64)) nsp 3) :: (b7, .cells (cellsD d vn vl vs) [] 27) :: (b2, .cells C [] 27) :: (kn ++ (kl ++ H))) (by intro fsum; first | exact Nat.le_refl _ | (simp only [zzq]; omega)) (Upd.now ⟨q - 1, by omega, k + 1, nb, ncap, nsp, by omega, by omega, rfl, rfl, rfl⟩)
  ·obtain rfl : k = row.length := by omega
   have hpa : r.take row.length = r := by rw [← hrlen, List.take_length]
   rw [hpa] at hs ⊢
   rcases hout with ⟨hj0, rfl, rfl⟩ | ⟨bn, c1, rv, sp1, rfl, rfl, hrv, hc1, hrws⟩
   ·have hsE := hs
    try simp only [zzs] at hsE
    repeat (obtain ⟨hsx, hsE⟩ := hsE)
    repeat' first
     | (with_reducible first | refine Nx.go ?_ | refine Bk.go (fun _ => ?_) fun _ => ?_)
     | ((with_reducible first | refine NewB.mk2 fun nb hnb hnb1 hnb2 => ?_ | refine NewRow.mk2 fun nb nsp ncap hnb hncap hnb1 hnb2 => ?_); try simp only [zzn] at hnb2)
     | simp -dsimp -implicitDefEqProofs (disch := first | assumption | (simp only [zzm]; done) | omega | (try with_reducible refine Row.adr (by assumption) ?_); simp only [zzl, Nat.reduceAdd]; first | done | omega) only [go_sem, ↓reduceIte, seval, -List.reduceReplicate, List.length_map, hlj, List.replicate_one, List.toList_toArray, hCl, hCw, hCn, hCx, hw, hl2, hg1, hg2, hputN, hputL, Row.obj hrh, Row.obj O.rn, e1, Row.obj O.rl, List.getElem_map, hsj, hlt, Int.toNat_natCast, Nat.sub_self, List.replicate_zero]
    refine Tri.upd (Upd.go (H' := (b7, .cells (cellsD d (.slice (some ⟨nb, 0, none⟩) 1 ncap) vl vs) [] 27) :: (b2, .cells C [] 27) :: (kl ++ ((br, .cells (r.map (Value.int .i64)) spR 3) :: (nb, .cells [.slice (some ⟨br, 0, none⟩) row.length cR] nsp 24) :: H))) (by intro fsum; first | exact Nat.le_refl _ | (simp only [zzq]; omega)) (Upd.now ?_))
    refine Tri.live [0, 1, 2, 4, 5, 6, 8] ?_
    refine Tri.isPiece [1, 1, 1, 1, 0, 1, 0, 0, 1, 0, 0, 1, 1, 1] Tryz.f52 (by kernel_rfl) ?_
    refine Tri.onlyN (rkr21_t O hrh hj hjb htl2 hsj hlab0) fun G5 l5 H5 hle5 hs5 hM => ?_
    obtain ⟨vl', kl', rfl, hlab1, hfr, rfl⟩ := hM
    rw [onlyN_normal]
    have hsE := hs5
    try simp only [zzs] at hsE
    repeat (obtain ⟨hsx, hsE⟩ := hsE)
    refine Upd.go (H' := (br, .cells (r.map (Value.int .i64)) spR 3) :: (b7, .cells (cellsD d (.slice (some ⟨nb, 0, none⟩) 1 ncap) vl' vs) [] 27) :: (b2, .cells C [] 27) :: ([(nb, .cells [.slice (some ⟨br, 0, none⟩) row.length cR] nsp 24)] ++ (kl' ++ H))) (by intro fsum; first | exact Nat.le_refl _ | (simp only [zzq]; omega)) (Upd.shareRow (by assumption) fun G6 hle6 hs6 hr6 => ?_)
    refine ⟨_, vl', _, kl', hle6, .inr ⟨nb, ncap, _, nsp, by rw [hj0], rfl, by rw [hj0]; rfl, by omega, fun i h h2 h3 => ?_⟩, hlab1, hfr, rfl⟩
    obtain rfl : i = 0 := by omega
    obtain rfl : j = 0 := hj0
    refine ⟨some ⟨br, 0, none⟩, cR, ?_, ?_, ?_⟩
    ·rw [hrj, hrlen]; rfl
    ·rw [hrj]; exact hr6
    ·rw [hrj, hrlen]; omega
   ·have hsE := hs
    try simp only [zzs] at hsE
    repeat (obtain ⟨hsx, hsE⟩ := hsE)
    repeat' first
     | (with_reducible first | refine Nx.go ?_ | refine Bk.go (fun _ => ?_) fun _ => ?_)
     | ((with_reducible first | refine NewB.mk2 fun nb hnb hnb1 hnb2 => ?_ | refine NewRow.mk2 fun nb nsp ncap hnb hncap hnb1 hnb2 => ?_); try simp only [zzn] at hnb2)
     | simp -dsimp -implicitDefEqProofs (disch := first | assumption | (simp only [zzm]; done) | omega | (try with_reducible refine Row.adr (by assumption) ?_); simp only [zzl, Nat.reduceAdd]; first | done | omega) only [go_sem, ↓reduceIte, seval, -List.reduceReplicate, List.length_map, hlj, List.replicate_one, List.toList_toArray, hCl, hCw, hCn, hCx, hw, hl2, hg1, hg2, hputN, hputL, Row.obj hrh, Row.obj O.rn, e1, Row.obj O.rl, List.getElem_map, hsj, hlt, Int.toNat_natCast, Nat.sub_self, List.replicate_zero]
    refine Tri.upd (Upd.go (H' := (b7, .cells (cellsD d (.slice (some ⟨nb, 0, none⟩) (j + 1) ncap) vl vs) [] 27) :: (b2, .cells C [] 27) :: (kl ++ ((br, .cells (r.map (Value.int .i64)) spR 3) :: (nb, .cells (rv ++ [.slice (some ⟨br, 0, none⟩) row.length cR]) nsp 24) :: H))) (by intro fsum; first | exact Nat.le_refl _ | (simp only [zzq]; omega)) (Upd.now ?_))
    refine Tri.live [0, 1, 2, 4, 5, 6, 8] ?_
    refine Tri.isPiece [1, 1, 1, 1, 0, 1, 0, 0, 1, 0, 0, 1, 1, 1] Tryz.f52 (by kernel_rfl) ?_
    refine Tri.onlyN (rkr21_t O hrh hj hjb htl2 hsj hlab0) fun G5 l5 H5 hle5 hs5 hM => ?_
    obtain ⟨vl', kl', rfl, hlab1, hfr, rfl⟩ := hM
    rw [onlyN_normal]
    have hsE := hs5
    try simp only [zzs] at hsE
    repeat (obtain ⟨hsx, hsE⟩ := hsE)
    refine Upd.go (H' := (br, .cells (r.map (Value.int .i64)) spR 3) :: (b7, .cells (cellsD d (.slice (some ⟨nb, 0, none⟩) (j + 1) ncap) vl' vs) [] 27) :: (b2, .cells C [] 27) :: ([(nb, .cells (rv ++ [.slice (some ⟨br, 0, none⟩) row.length cR]) nsp 24)] ++ (kl' ++ H))) (by intro fsum; first | exact Nat.le_refl _ | (simp only [zzq]; omega)) (Upd.shareRow (by assumption) fun G6 hle6 hs6 hr6 => ?_)
    refine ⟨_, vl', _, kl', hle6, .inr ⟨nb, ncap, _, nsp, rfl, rfl, by rw [List.length_append, hrv]; rfl, by omega, fun i h h2 h3 => ?_⟩, hlab1, hfr, rfl⟩
    rcases Nat.lt_or_ge i j with hij | hij
    ·obtain ⟨b', c', f1, f2, f3⟩ := hrws i hij (by omega) h3
     exact ⟨b', c', by rw [List.getElem_append_left (by omega)]; exact f1, f2.mono hle6, f3⟩
    ·obtain rfl : i = j := by omega
     refine ⟨some ⟨br, 0, none⟩, cR, ?_, ?_, ?_⟩
     ·rw [hrj, hrlen, List.getElem_append_right (by omega)]; simp [hrv]
     ·rw [hrj]; exact hr6
     ·rw [hrj, hrlen]; omega
theorem rkxb_t {d : DfaT} (hsm : SmallD d) (hok : RightP d) {l : List Int} (hO : OnceN d.label.length l) {C : List Value} {an al ay : Option Addr} {cn cl cs : Nat} {rs : List Value} {G : PHeap} {H : Heap} (O : OpenD G d C an al ay cn cl cs rs) {v0 : Value} {b2 b4 b7 : Nat} {ah : Option Addr} {ch : Nat} (hch : l.length ≤ ch) (hrh : Row G ah ((l).map (Value.int .i64))) {j : Nat} (hj : j < l.length) {B7 : List Value} (hbad : ¬ fineK d l (l[j]'hj)) :
  Tri Tryz.prog Tryz.f52.ntmps (piece [1, 1, 1, 1, 0, 1, 0, 0, 1, 0, 0] Tryz.f52) G [(0, v0), (1, .slice ah l.length ch), (2, .pointer (some ⟨b2, 0, none⟩)), (4, .pointer (some ⟨b4, 0, none⟩)), (5, .int .i64 0), (6, .pointer (some ⟨b7, 0, none⟩)), (8, .int .i64 (j : Nat))] ((b4, .cells zeroC [] 27) :: (b7, .cells B7 [] 27) :: (b2, .cells C [] 27) :: H) (onlyR fun G' fr' H' => PLe G G' ∧ restrict [4, 5] fr' = [(4, .pointer (some ⟨b4, 0, none⟩)), (5, .int .i64 1)] ∧ H' = (b4, .cells zeroC [] 27) :: H) := by
 obtain ⟨hm1, hm2, hm3, hm4, hm5⟩ := id hsm
 obtain ⟨hk1, hk2, hk3, hk4, hk5, hk6, hk7⟩ := id hok
 have hCl := O.len
 have hCw := O.w
 have hCn := O.n
 have hCx := O.l
 have hjm := hO.2 _ (List.getElem_mem hj)
 obtain ⟨t, hsj⟩ := Int.eq_ofNat_of_zero_le hjm.1
 have htl : t < d.label.length := by omega
 have htn : t < d.next.length := by omega
 have htl2 : t < d.label.length := by omega
 have htv : t < rs.length := by have := O.rnl; omega
 obtain ⟨b, c, e1, e2, e3⟩ := O.rs t htn htv
 obtain ⟨hw0, hlt0, hlt1, hrng⟩ := hk7 t htn htl2
 obtain ⟨row, hrow⟩ : ∃ row, row = d.next[t] := ⟨_, rfl⟩
 have hrl := hm2 _ (List.getElem_mem htn)
 rw [← hrow] at e1 e2 e3 hw0 hrng hrl
 have hw : d.width = (row.length : Int) := hw0.symm
 obtain ⟨r, hr⟩ : ∃ r, r = rowK d l (t : Nat) := ⟨_, rfl⟩
 have hr' : r = row.map (findF l) := by rw [hr]; unfold rowK; rw [nextF_get htn, hrow]
 have hfr : ¬ ∀ x ∈ row, x ∈ l := fun h => hbad fun y hy => by
  rw [hsj, nextF_get htn, ← hrow] at hy
  exact h y hy
 have hrlen : r.length = row.length := by rw [hr', List.length_map]
 have had : Adr an := O.rn.adr (by omega)
 have had3 : Adr ah := hrh.adr (by rw [List.length_map]; omega)
 have hll := hO.len
 have hslh : Sl G (Value.int .i64) (.slice ah l.length ch) l := ⟨ah, ch, rfl, hrh, hch⟩
 have hjb : j < 65536 := by
  have h1 := hO.len
  omega
 refine Tri.sepT fun hs0 => ?_
 have hsE := hs0
 try simp only [zzs] at hsE
 repeat (obtain ⟨hsx, hsE⟩ := hsE)
 refine Tri.piece (f := Tryz.f52) rfl ?_
 refine Tri.run tok [0, 1, 2, 4, 5, 6, 7, 8, 9, 10, 11, 20, 32, 59, 64, 71, 88] (by kernel_rfl) ?_
 repeat' first
  | (with_reducible first | refine Nx.go ?_ | refine Bk.go (fun _ => ?_) fun _ => ?_)
  | ((with_reducible first | refine NewB.mk2 fun nb hnb hnb1 hnb2 => ?_ | refine NewRow.mk2 fun nb nsp ncap hnb hncap hnb1 hnb2 => ?_); try simp only [zzn] at hnb2)
  | simp -dsimp -implicitDefEqProofs (disch := first | assumption | (simp only [zzm]; done) | omega | (try with_reducible refine Row.adr (by assumption) ?_); simp only [zzl, Nat.reduceAdd]; first | done | omega) only [go_sem, ↓reduceIte, seval, -List.reduceReplicate, List.toList_toArray, hCl, hCw, hCn, hCx, hw, Row.obj hrh, Row.obj O.rn, e1, List.getElem_map, hsj, Int.toNat_natCast, Nat.sub_self, List.replicate_zero]
 refine Tri.loopU tok [0, 1, 2, 4, 5, 6, 7, 8, 9, 10, 11, 20, 32, 59, 64, 71, 88] (by kernel_rfl) [0, 1, 2, 4, 5, 6, 8, 9, 10] (fun q G' fr H' => ∃ (k br cR : Nat) (spR : List Value), k + q = row.length ∧ (∀ i (h : i < row.length), i < k → row[i] ∈ l) ∧ k + spR.length = cR ∧ G' = G ∧ H' = (br, .cells ((r.take k).map (Value.int .i64)) spR 3) :: (b4, .cells zeroC [] 27) :: (b7, .cells B7 [] 27) :: (b2, .cells C [] 27) :: H ∧ fr = [(0, v0), (1, .slice ah l.length ch), (2, .pointer (some ⟨b2, 0, none⟩)), (4, .pointer (some ⟨b4, 0, none⟩)), (5, .int .i64 0), (6, .pointer (some ⟨b7, 0, none⟩)), (8, .int .i64 (j : Nat)), (9, .slice (some ⟨br, 0, none⟩) k cR), (10, .int .i64 (k : Nat))]) (row.length) ?_ ?_
 ·refine Upd.now ?_
  exact ⟨0, nb, 0, [], by omega, fun i h h2 => by omega, rfl, rfl, rfl, rfl⟩
 ·rintro q G1 fr H' hle hs ⟨k, br, cR, spR, hk, hall, hcR, rfl, rfl, rfl⟩
  have hml : ((r.take k).map (Value.int .i64)).length = k := by rw [List.length_map, List.length_take]; omega
  have hml2 : (r.take k).length = k := by rw [List.length_take]; omega
  by_cases hkl : k < row.length
  ·have hsE := hs
   try simp only [zzs] at hsE
   repeat (obtain ⟨hsx, hsE⟩ := hsE)
   have hkr : k < r.length := by omega
   have had5 : Adr b := e2.adr (by rw [List.length_map]; omega)
   have hx := hrng _ (List.getElem_mem hkl)
   obtain ⟨y, hxy⟩ := Int.eq_ofNat_of_zero_le hx.1
   have hym : y < d.label.length := by omega
   have hval : findF l (row[k]) = r[k] := by
    simp only [hr', List.getElem_map]
   have htk := List.take_succ_eq_append_getElem hkr
   have hm2 : (r.take k).map (Value.int .i64) ++ [.int .i64 r[k]] = (r.take (k + 1)).map (Value.int .i64) := by rw [htk, List.map_append]; rfl
   by_cases hin : row[k] ∈ l
   ·have hpos : 0 ≤ r[k] := by
     rw [← hval]
     exact findF_memW.2 hin
    repeat' first
     | (with_reducible first | refine Nx.go ?_ | refine Bk.go (fun _ => ?_) fun _ => ?_)
     | ((with_reducible first | refine NewB.mk2 fun nb hnb hnb1 hnb2 => ?_ | refine NewRow.mk2 fun nb nsp ncap hnb hncap hnb1 hnb2 => ?_); try simp only [zzn] at hnb2)
     | simp -dsimp -implicitDefEqProofs (disch := first | assumption | (simp only [zzm]; done) | omega | (try with_reducible refine Row.adr (by assumption) ?_); simp only [zzl, Nat.reduceAdd]; first | done | omega) only [go_sem, ↓reduceIte, seval, -List.reduceReplicate, hCl, hCw, hCn, hw, Row.obj O.rn, Row.obj hrh, e1, Row.obj e2, List.getElem_map, hsj, hml2, List.replicate_one]
     | with_reducible refine Tri.drawS tok mixed [0, 1, 2, 4, 5, 6, 7, 8, 9, 10, 11, 20, 32, 59, 64, 71, 88] 16 [2, 6, 8, 11] (.op 0 .plain (.op 1 .plain (.op 2 .held (.op 3 .plain (.op 4 .plain (.op 5 .plain (.op 6 .held (.op 7 .plain (.op 8 .held (.op 9 .plain (.op 10 .plain (.op 11 .held (.op 12 .keeps (.op 13 .plain .nil)))))))))))))) (by kernel_rfl) [(b2, .cells C [] 27)] (by intro fsum; first | exact Nat.le_refl _ | (simp only [zzq]; omega)) ?_
    refine rplace_t (by omega) hslh ?_
    rw [hval]
    repeat' first
     | (with_reducible first | refine Nx.go ?_ | refine Bk.go (fun _ => ?_) fun _ => ?_)
     | ((with_reducible first | refine NewB.mk2 fun nb hnb hnb1 hnb2 => ?_ | refine NewRow.mk2 fun nb nsp ncap hnb hncap hnb1 hnb2 => ?_); try simp only [zzn] at hnb2)
     | simp -dsimp -implicitDefEqProofs (disch := first | assumption | (simp only [zzm]; done) | omega | (try with_reducible refine Row.adr (by assumption) ?_); simp only [zzl, Nat.reduceAdd]; first | done | omega) only [go_sem, ↓reduceIte, seval, -List.reduceReplicate, hCl, hCw, hCn, hw, Row.obj O.rn, Row.obj hrh, e1, Row.obj e2, List.getElem_map, hsj, hml2, List.replicate_one]
    all_goals try (exfalso; omega)
    rw [hm2]
    exact Upd.go (H' := (nb, .cells ((r.take (k + 1)).map (Value.int .i64)) nsp 3) :: (b4, .cells zeroC [] 27) :: (b7, .cells B7 [] 27) :: (b2, .cells C [] 27) :: H) (by intro fsum; first | exact Nat.le_refl _ | (simp only [zzq]; omega)) (Upd.now ⟨q - 1, by omega, k + 1, nb, ncap, nsp, by omega, fun i h h2 => by
     by_cases e : i = k
     ·subst e; exact hin
     ·exact hall i h (by omega), by omega, rfl, rfl, rfl⟩)
   ·have hneg : r[k] < 0 := by
     rw [← hval]
     rcases Int.lt_or_le (findF l (row[k])) 0 with h | h
     ·exact h
     ·exact absurd (findF_memW.1 h) hin
    repeat' first
     | (with_reducible first | refine Nx.go ?_ | refine Bk.go (fun _ => ?_) fun _ => ?_)
     | ((with_reducible first | refine NewB.mk2 fun nb hnb hnb1 hnb2 => ?_ | refine NewRow.mk2 fun nb nsp ncap hnb hncap hnb1 hnb2 => ?_); try simp only [zzn] at hnb2)
     | simp -dsimp -implicitDefEqProofs (disch := first | assumption | (simp only [zzm]; done) | omega | (try with_reducible refine Row.adr (by assumption) ?_); simp only [zzl, Nat.reduceAdd]; first | done | omega) only [go_sem, ↓reduceIte, seval, -List.reduceReplicate, hCl, hCw, hCn, hw, Row.obj O.rn, Row.obj hrh, e1, Row.obj e2, List.getElem_map, hsj, hml2, List.replicate_one]
     | with_reducible refine Tri.drawS tok mixed [0, 1, 2, 4, 5, 6, 7, 8, 9, 10, 11, 20, 32, 59, 64, 71, 88] 16 [2, 6, 8, 11] (.op 0 .plain (.op 1 .plain (.op 2 .held (.op 3 .plain (.op 4 .plain (.op 5 .plain (.op 6 .held (.op 7 .plain (.op 8 .held (.op 9 .plain (.op 10 .plain (.op 11 .held (.op 12 .keeps (.op 13 .plain .nil)))))))))))))) (by kernel_rfl) [(b2, .cells C [] 27)] (by intro fsum; first | exact Nat.le_refl _ | (simp only [zzq]; omega)) ?_
    refine rplace_t (by omega) hslh ?_
    rw [hval]
    repeat' first
     | (with_reducible first | refine Nx.go ?_ | refine Bk.go (fun _ => ?_) fun _ => ?_)
     | ((with_reducible first | refine NewB.mk2 fun nb hnb hnb1 hnb2 => ?_ | refine NewRow.mk2 fun nb nsp ncap hnb hncap hnb1 hnb2 => ?_); try simp only [zzn] at hnb2)
     | simp -dsimp -implicitDefEqProofs (disch := first | assumption | (simp only [zzm]; done) | omega | (try with_reducible refine Row.adr (by assumption) ?_); simp only [zzl, Nat.reduceAdd]; first | done | omega) only [go_sem, ↓reduceIte, seval, -List.reduceReplicate, hCl, hCw, hCn, hw, Row.obj O.rn, Row.obj hrh, e1, Row.obj e2, List.getElem_map, hsj, hml2, zeroC_len, zeroC_one, zeroC_take, zeroC_put]
    all_goals try (exfalso; omega)
    exact Upd.go (H' := (b4, .cells zeroC [] 27) :: H) (by intro fsum; first | exact Nat.le_refl _ | (simp only [zzq]; omega)) (Upd.now ⟨hle, rfl, rfl⟩)
  ·exact absurd (fun x hx => by
    obtain ⟨i, hi, rfl⟩ := List.getElem_of_mem hx
    exact hall i hi (by omega)) hfr
end Go.Proofs.YtefkpedhbijhkaaGreatDoor
namespace Go.Proofs.YtefkpedhbijhkaaGreatDoor
open Go Go.V Go.Proofs
theorem hasO_t {l : List Int} (hl : l.length ≤ 2000000) {x : Int} {b cap : Nat} {sp : List Value} {e : TypeId} {G : PHeap} {H : Heap} {R : Value → PHeap → Heap → Prop} (hg : G b = none) (hf : findH H b = some (.cells (l.map (Value.int .i64)) sp e))
  (hR : R (.bool (decide (x ∈ l))) G H) : FnT Tryz.prog 83 [.slice (some ⟨b, 0, none⟩) l.length cap, .int .i64 x] G H R := by
 refine FnT.body tok [0, 1, 4, 5, 9, 17] Tryz.func83 rfl (by kernel_rfl) (by kernel_rfl) (by show _ ≤ 18; simp) fun hsep => ?_
 rw [Tryz.results83]
 have hsE := hsep
 try simp only [zzs] at hsE
 repeat (obtain ⟨hsx, hsE⟩ := hsE)
 repeat' first
  | (with_reducible first | refine Nx.go ?_ | refine Bk.go (fun _ => ?_) fun _ => ?_)
  | (with_reducible refine NewB.mk2 fun nb hnb hnb1 hnb2 => ?_; try simp only [zzn] at hnb2)
  | simp -dsimp -implicitDefEqProofs (disch := first | assumption | (simp only [zzm]; done) | omega | (try with_reducible refine Row.adr (by assumption) ?_); simp only [zzl, Nat.reduceAdd]; first | done | omega) only [go_sem, ↓reduceIte, seval]
 refine Tri.loopU tok [0, 1, 4, 5, 9, 17] (by kernel_rfl) [0, 1, 4, 5] (fun q G' fr H' => ∃ i : Nat, i + q = l.length ∧ (∀ j (h : j < l.length), j < i → l[j] ≠ x) ∧ G' = G ∧ H' = H ∧ fr = [(0, .slice (some ⟨b, 0, none⟩) l.length cap), (1, .int .i64 x), (4, .bool false), (5, .int .i64 (i : Nat))]) (l.length) (Upd.now ?_) ?_
 ·exact ⟨0, by omega, fun j _ h => by omega, rfl, rfl, rfl⟩
 ·rintro q G' fr H' hle hs ⟨i, hi, hno, rfl, rfl, rfl⟩
  by_cases hil : i < l.length
  ·by_cases hx : l[i] = x
   ·rw [decide_eq_true (show x ∈ l from hx ▸ List.getElem_mem hil)] at hR
    repeat' first
     | (with_reducible first | refine Nx.go ?_ | refine Bk.go (fun _ => ?_) fun _ => ?_)
     | (with_reducible refine NewB.mk2 fun nb hnb hnb1 hnb2 => ?_; try simp only [zzn] at hnb2)
     | simp -dsimp -implicitDefEqProofs (disch := first | assumption | (simp only [zzm]; done) | omega | (try with_reducible refine Row.adr (by assumption) ?_); simp only [zzl, Nat.reduceAdd]; first | done | omega) only [go_sem, ↓reduceIte, seval, hf, List.getElem_append_left, List.getElem_map, hx]
    all_goals refine Upd.finL ?_ hR ?_
    any_goals (intro fsum; first | exact Nat.le_refl _ | (simp only [zzq]; omega))
    all_goals rfl
   ·repeat' first
     | (with_reducible first | refine Nx.go ?_ | refine Bk.go (fun _ => ?_) fun _ => ?_)
     | (with_reducible refine NewB.mk2 fun nb hnb hnb1 hnb2 => ?_; try simp only [zzn] at hnb2)
     | simp -dsimp -implicitDefEqProofs (disch := first | assumption | (simp only [zzm]; done) | omega | (try with_reducible refine Row.adr (by assumption) ?_); simp only [zzl, Nat.reduceAdd]; first | done | omega) only [go_sem, ↓reduceIte, seval, hf, List.getElem_append_left, List.getElem_map, hx]
    exact Upd.now ⟨q - 1, by omega, i + 1, by omega, fun j h hj => by
     by_cases e : j = i
     ·subst e; exact hx
     ·exact hno j h (by omega), rfl, rfl, rfl⟩
  ·obtain rfl : i = l.length := by omega
   rw [decide_eq_false (fun h => by obtain ⟨j, hj, e⟩ := List.getElem_of_mem h; exact hno j hj hj e)] at hR
   repeat' first
    | (with_reducible first | refine Nx.go ?_ | refine Bk.go (fun _ => ?_) fun _ => ?_)
    | (with_reducible refine NewB.mk2 fun nb hnb hnb1 hnb2 => ?_; try simp only [zzn] at hnb2)
    | simp -dsimp -implicitDefEqProofs (disch := first | assumption | (simp only [zzm]; done) | omega | (try with_reducible refine Row.adr (by assumption) ?_); simp only [zzl, Nat.reduceAdd]; first | done | omega) only [go_sem, ↓reduceIte, seval]
   all_goals refine Upd.finL ?_ hR ?_
   any_goals (intro fsum; first | exact Nat.le_refl _ | (simp only [zzq]; omega))
   all_goals rfl
theorem rreach_t {d : DfaT} (hsm : SmallD d) (hok : RightP d) {G : PHeap} {H : Heap} {R : Value → PHeap → Heap → Prop} {v : Value} (hv : IsD G d v)
  (hR : ∀ G' v', PLe G G' → Sep G' (keys H) → Sl G' (Value.int .i64) v' (reachL d) → R v' G' H) : FnT Tryz.prog 53 [v] G H R := by
 obtain ⟨C, an, al, ay, cn, cl, cs, rs, rfl, O⟩ := hv.opened
 have hCl := O.len
 have hCa := O.all
 have hCw := O.w
 have hCn := O.n
 obtain ⟨hk1, hk2, hk3, hk4, hk5, hk6, hk7⟩ := id hok
 have hrnl := O.rnl
 have hon := nextF_ok hok
 have hO : OnceN d.label.length [0] := ⟨by simp, fun x hx => by rw [List.mem_singleton] at hx; omega⟩
 have had : Adr an := O.rn.adr (by omega)
 have htw := tabO_len d.of
 have hofl := O.ofl
 obtain ⟨W, hWd⟩ := Int.eq_ofNat_of_zero_le (show 0 ≤ d.width by omega)
 refine FnT.sep ?_
 refine FnT.body tok [0, 1, 2, 3, 4, 5, 6, 11, 17, 34] Tryz.func53 rfl (by kernel_rfl) (by kernel_rfl) (by show _ ≤ 40; simp) fun hsep => ?_
 rw [Tryz.results53]
 have hsE := hsep
 try simp only [zzs] at hsE
 repeat (obtain ⟨hsx, hsE⟩ := hsE)
 repeat' first
  | (with_reducible first | refine Nx.go ?_ | refine Bk.go (fun _ => ?_) fun _ => ?_)
  | ((with_reducible first | refine NewB.mk2 fun nb hnb hnb1 hnb2 => ?_ | refine NewRow.mk2 fun nb nsp ncap hnb hncap hnb1 hnb2 => ?_); try simp only [zzn] at hnb2)
  | simp -dsimp -implicitDefEqProofs (disch := first | assumption | (simp only [zzm]; done) | omega | (try with_reducible refine Row.adr (by assumption) ?_); simp only [zzl, Nat.reduceAdd]; first | done | omega) only [go_sem, ↓reduceIte, seval, -List.reduceReplicate, List.toList_toArray, hCl, hCa, List.replicate_one]
 rename_i b1 x1 x2 x3
 refine Tri.loopU tok [0, 1, 2, 3, 4, 5, 6, 11, 17, 34] (by kernel_rfl) [1, 2, 3, 4] (fun q G' fr H' => ∃ (i b c : Nat) (sp : List Value), i + q = d.label.length ∧ i ≤ (bw (nextF d) [0] i).length ∧ (bw (nextF d) [0] i).length + sp.length = c ∧ G' = G ∧ H' = (b, .cells ((bw (nextF d) [0] i).map (Value.int .i64)) sp 3) :: (b1, .cells C [] 27) :: H ∧ fr = [(1, .pointer (some ⟨b1, 0, none⟩)), (2, .slice none 0 0), (3, .slice (some ⟨b, 0, none⟩) (bw (nextF d) [0] i).length c), (4, .int .i64 (i : Nat))]) (d.label.length) ?_ ?_
 ·refine Upd.now ?_
  exact ⟨0, nb, 1, [], by omega, Nat.zero_le _, rfl, rfl, rfl, rfl⟩
 ·rintro q G1 fr H' hle hs1 ⟨i, b, c, sp, hiq, hil, hc, rfl, rfl, rfl⟩
  have hOi := bw_once hO hon i
  have hOl := hOi.len
  have hsE := hs1
  try simp only [zzs] at hsE
  repeat (obtain ⟨hsx, hsE⟩ := hsE)
  by_cases hi : i < (bw (nextF d) [0] i).length
  ·have hsucc := bw_succ hi
   have hx := hOi.2 _ (List.getElem_mem hi)
   generalize hBi : bw (nextF d) [0] i = B at *
   obtain ⟨s, hss⟩ := Int.eq_ofNat_of_zero_le hx.1
   have hsn : s < d.next.length := by omega
   obtain ⟨br, cr, e1, e2, e3⟩ := O.rs s hsn (by omega)
   obtain ⟨hw1, hw2, hw3, hw4⟩ := hk7 s hsn (by omega)
   have hrl := hsm.2.1 _ (List.getElem_mem hsn)
   rw [hss, nextF_get hsn] at hsucc
   generalize hr : d.next[s] = r at *
   repeat' first
    | (with_reducible first | refine Nx.go ?_ | refine Bk.go (fun _ => ?_) fun _ => ?_)
    | ((with_reducible first | refine NewB.mk2 fun nb hnb hnb1 hnb2 => ?_ | refine NewRow.mk2 fun nb nsp ncap hnb hncap hnb1 hnb2 => ?_); try simp only [zzn] at hnb2)
    | simp -dsimp -implicitDefEqProofs (disch := first | assumption | (simp only [zzm]; done) | omega | (try with_reducible refine Row.adr (by assumption) ?_); simp only [zzl, Nat.reduceAdd]; first | done | omega) only [go_sem, ↓reduceIte, seval]
   refine Tri.loopU tok [0, 1, 2, 3, 4, 5, 6, 11, 17, 34] (by kernel_rfl) [1, 2, 3, 4, 5] (fun q' G' fr H' => ∃ (k b c : Nat) (sp : List Value), k + q' = W ∧ (addN B (r.take k)).length + sp.length = c ∧ G' = G1 ∧ H' = (b, .cells ((addN B (r.take k)).map (Value.int .i64)) sp 3) :: (b1, .cells C [] 27) :: H ∧ fr = [(1, .pointer (some ⟨b1, 0, none⟩)), (2, .slice none 0 0), (3, .slice (some ⟨b, 0, none⟩) (addN B (r.take k)).length c), (4, .int .i64 (i : Nat)), (5, .int .i64 (k : Nat))]) (W) ?_ ?_
   ·refine Upd.now ?_
    exact ⟨0, b, c, sp, by omega, by rw [List.take_zero, addN_nil]; exact hc, rfl, rfl, rfl⟩
   ·rintro q' G9 fr H' hle' hs2 ⟨k, b', c', sp', hkq, hc', rfl, rfl, rfl⟩
    have hOk : OnceN d.label.length (addN B (r.take k)) := hOi.addN fun x hx => hw4 x (List.mem_of_mem_take hx)
    have hOkl := hOk.len
    obtain ⟨X, hX⟩ := addN_pre (r.take k) B
    have hXl := congrArg List.length hX
    rw [List.length_append] at hXl
    have hsE := hs2
    try simp only [zzs] at hsE
    repeat (obtain ⟨hsx, hsE⟩ := hsE)
    by_cases hk : k < W
    ·have hkr : k < r.length := by omega
     have had2 : Adr br := e2.adr (by rw [List.length_map]; omega)
     have hnext := addN_take B r hkr
     have hgi : (addN B (r.take k))[i]'(by omega) = (s : Nat) := by
      rw [← hss]
      simp only [hX]
      rw [List.getElem_append_left hi]
     have hga : ((addN B (r.take k)).map (Value.int .i64) ++ sp')[i]'(by rw [List.length_append, List.length_map]; omega) = .int .i64 (s : Nat) := by
      rw [List.getElem_append_left (by rw [List.length_map]; omega), List.getElem_map, hgi]
     have hb1 : G9 b' = none := by assumption
     have hy := hw4 _ (List.getElem_mem hkr)
     obtain ⟨t, ht⟩ := Int.eq_ofNat_of_zero_le hy.1
     rw [ht] at hnext
     have hfb : findH ((b', .cells ((addN B (r.take k)).map (Value.int .i64)) sp' 3) :: (b1, .cells C [] 27) :: H) b' = some (.cells ((addN B (r.take k)).map (Value.int .i64)) sp' 3) := findH_same _ _ _
     repeat' first
      | (with_reducible first | refine Nx.go ?_ | refine Bk.go (fun _ => ?_) fun _ => ?_)
      | ((with_reducible first | refine NewB.mk2 fun nb hnb hnb1 hnb2 => ?_ | refine NewRow.mk2 fun nb nsp ncap hnb hncap hnb1 hnb2 => ?_); try simp only [zzn] at hnb2)
      | simp -dsimp -implicitDefEqProofs (disch := first | assumption | (simp only [zzm]; done) | omega | (try with_reducible refine Row.adr (by assumption) ?_); simp only [zzl, Nat.reduceAdd]; first | done | omega) only [go_sem, ↓reduceIte, seval, -List.reduceReplicate, hCl, hCw, hWd, hCn, Row.obj O.rn, e1, Row.obj e2, List.getElem_map, ht, hga]
      | with_reducible refine Tri.drawS tok mixed [0, 1, 2, 3, 4, 5, 6, 11, 17, 34] 8 [1, 5, 7, 10] (.op 0 .plain (.op 1 .held (.op 2 .plain (.op 3 .plain (.op 4 .plain (.op 5 .held (.op 6 .plain (.op 7 .held (.op 8 .plain (.op 9 .plain (.op 10 .held (.op 11 .plain .nil)))))))))))) (by kernel_rfl) [(b1, .cells C [] 27), (b', .cells ((addN B (r.take k)).map (Value.int .i64)) sp' 3)] (by intro fsum; first | exact Nat.le_refl _ | (simp only [zzq]; omega)) ?_
     refine hasO_t (by omega) hb1 hfb ?_
     by_cases hin : (t : Int) ∈ addN B (r.take k)
     ·have hn2 : addN B (r.take (k + 1)) = addN B (r.take k) := by rw [hnext]; unfold add1; rw [if_pos hin]
      rw [decide_eq_true hin]
      repeat' first
       | (with_reducible first | refine Nx.go ?_ | refine Bk.go (fun _ => ?_) fun _ => ?_)
       | ((with_reducible first | refine NewB.mk2 fun nb hnb hnb1 hnb2 => ?_ | refine NewRow.mk2 fun nb nsp ncap hnb hncap hnb1 hnb2 => ?_); try simp only [zzn] at hnb2)
       | simp -dsimp -implicitDefEqProofs (disch := first | assumption | (simp only [zzm]; done) | omega | (try with_reducible refine Row.adr (by assumption) ?_); simp only [zzl, Nat.reduceAdd]; first | done | omega) only [go_sem, ↓reduceIte, seval]
      refine Upd.now ?_
      exact ⟨q' - 1, by omega, k + 1, b', c', sp', by omega, by rw [hn2]; exact hc', rfl, by rw [hn2], by rw [hn2]; rfl⟩
     ·have hn2 : addN B (r.take (k + 1)) = addN B (r.take k) ++ [(t : Int)] := by rw [hnext]; unfold add1; rw [if_neg hin]
      have hm2 : (addN B (r.take k)).map (Value.int .i64) ++ [.int .i64 (t : Nat)] = (addN B (r.take (k + 1))).map (Value.int .i64) := by rw [hn2, List.map_append]; rfl
      have hl2 := congrArg List.length hn2
      rw [List.length_append, List.length_singleton] at hl2
      rw [decide_eq_false hin]
      repeat' first
       | (with_reducible first | refine Nx.go ?_ | refine Bk.go (fun _ => ?_) fun _ => ?_)
       | ((with_reducible first | refine NewB.mk2 fun nb hnb hnb1 hnb2 => ?_ | refine NewRow.mk2 fun nb nsp ncap hnb hncap hnb1 hnb2 => ?_); try simp only [zzn] at hnb2)
       | simp -dsimp -implicitDefEqProofs (disch := first | assumption | (simp only [zzm]; done) | omega | (try with_reducible refine Row.adr (by assumption) ?_); simp only [zzl, Nat.reduceAdd]; first | done | omega) only [go_sem, ↓reduceIte, seval, List.replicate_one]
      rw [hm2, ← hl2]
      exact Upd.go (H' := (nb, .cells ((addN B (r.take (k + 1))).map (Value.int .i64)) nsp 3) :: (b1, .cells C [] 27) :: H) (by intro fsum; first | exact Nat.le_refl _ | (simp only [zzq]; omega)) (Upd.now ⟨q' - 1, by omega, k + 1, nb, ncap, nsp, by omega, by omega, rfl, rfl, rfl⟩)
    ·obtain rfl : k = W := by omega
     have hbr : addN B (r.take k) = bw (nextF d) [0] (i + 1) := by rw [List.take_of_length_le (by omega), hsucc]
     rw [hbr] at hc' hXl ⊢
     repeat' first
      | (with_reducible first | refine Nx.go ?_ | refine Bk.go (fun _ => ?_) fun _ => ?_)
      | ((with_reducible first | refine NewB.mk2 fun nb hnb hnb1 hnb2 => ?_ | refine NewRow.mk2 fun nb nsp ncap hnb hncap hnb1 hnb2 => ?_); try simp only [zzn] at hnb2)
      | simp -dsimp -implicitDefEqProofs (disch := first | assumption | (simp only [zzm]; done) | omega | (try with_reducible refine Row.adr (by assumption) ?_); simp only [zzl, Nat.reduceAdd]; first | done | omega) only [go_sem, ↓reduceIte, seval, -List.reduceReplicate, hCl, hCw, hWd]
     all_goals try (exfalso; omega)
     refine Upd.now ?_
     exact ⟨q - 1, by omega, i + 1, b', c', sp', by omega, by omega, hc', rfl, rfl, rfl⟩
  ·have he : bw (nextF d) [0] i = reachL d := bw_end hO hon (by omega)
   rw [he] at hil hc hi hOl ⊢
   repeat' first
    | (with_reducible first | refine Nx.go ?_ | refine Bk.go (fun _ => ?_) fun _ => ?_)
    | ((with_reducible first | refine NewB.mk2 fun nb hnb hnb1 hnb2 => ?_ | refine NewRow.mk2 fun nb nsp ncap hnb hncap hnb1 hnb2 => ?_); try simp only [zzn] at hnb2)
    | simp -dsimp -implicitDefEqProofs (disch := first | assumption | (simp only [zzm]; done) | omega | (try with_reducible refine Row.adr (by assumption) ?_); simp only [zzl, Nat.reduceAdd]; first | done | omega) only [go_sem, ↓reduceIte, seval]
   all_goals try (exfalso; omega)
   unfold UpdR
   refine Upd.go (H' := (b, .cells ((reachL d).map (Value.int .i64)) sp 3) :: H) (by intro fsum; first | exact Nat.le_refl _ | (simp only [zzq]; omega)) (Upd.shareRow (by assumption) fun G3 hle3 hs6 hr3 => ?_)
   exact fun hle hs => hR G3 _ hle3 hs ⟨some ⟨b, 0, none⟩, c, rfl, hr3, by omega⟩
end Go.Proofs.YtefkpedhbijhkaaGreatDoor
namespace Go.Proofs.YtefkpedhbijhkaaGreatDoor
open Go Go.V Go.Proofs
theorem take260 {C : List Value} (h : C.length = 260) : List.take 260 C = C := List.take_of_length_le (by omega)
theorem rkeep_t {d : DfaT} (hsm : SmallD d) (hok : RightP d) {l : List Int} (hl : l.length ≤ 2000000) {G : PHeap} {H : Heap} {R : Value → PHeap → Heap → Prop} {v w : Value} (hv : IsD G d v) (hwl : Sl G (Value.int .i64) w l)
  (hR : ∀ G' v', PLe G G' → Sep G' (keys H) → IsD G' (keepR d l).1 v' → R (.tuple #[v', .int .i64 (keepR d l).2]) G' H) : FnT Tryz.prog 52 [v, w] G H R := by
 obtain ⟨C, an, al, ay, cn, cl, cs, rs, rfl, O⟩ := hv.opened
 obtain ⟨hm1, hm2, hm3, hm4, hm5⟩ := id hsm
 have hw0 := hwl
 obtain ⟨aw, cw, rfl, hroww, hcw⟩ := hwl
 have hCl := O.len
 have hCa := O.all
 have hCx := O.l
 obtain ⟨hk1, hk2, hk3, hk4, hk5, hk6, hk7⟩ := id hok
 have hl2 : ∀ a b c : Value, (cellsD d a b c).length = 260 := fun a b c => cellsD_len O.ofl _ _ _
 have ht2 : ∀ a b c : Value, List.take 260 (cellsD d a b c) = cellsD d a b c := fun a b c => cellsD_all O.ofl _ _ _
 have hputz : ∀ a b c : Value, splice zeroC 0 (cellsD d a b c) = cellsD d a b c := fun a b c => by
  unfold splice
  rw [List.take_zero, List.nil_append, List.drop_of_length_le (by rw [zeroC_len, hl2]; omega), List.append_nil]
 refine FnT.sep ?_
 by_cases hh : l.head? = some 0
 ·have hpos : 0 < l.length := by
   rcases l with _ | ⟨x, l⟩
   ·cases hh
   ·simp
  have hl0 : l[0] = 0 := by
   rw [List.head?_eq_getElem?, List.getElem?_eq_getElem hpos] at hh
   exact Option.some.inj hh
  have hadw : Adr aw := hroww.adr (by rw [List.length_map]; omega)
  have hob : ∀ (H : Heap) (k : Value → Prop), objK G H (blk aw) (G (blk aw)) (ofs aw) k = k (.int .i64 0) := fun H k => by
   have := Row.obj hroww (i := 0) (by rw [List.length_map]; omega) H k
   rw [Nat.add_zero, List.getElem_map, hl0] at this
   exact this
  refine FnT.bodyS tok [0, 1, 2, 4, 5, 6, 7, 8, 9, 10, 11, 20, 32, 59, 64, 71, 88] (.seq .run (.seq .run (.seq .cut .cut))) Tryz.func52 rfl (by kernel_rfl) (by kernel_rfl) (by show _ ≤ 114; simp) fun hsep => ?_
  rw [Tryz.results52]
  have hsE := hsep
  try simp only [zzs] at hsE
  repeat (obtain ⟨hsx, hsE⟩ := hsE)
  repeat' first
   | (with_reducible first | refine Nx.go ?_ | refine Bk.go (fun _ => ?_) fun _ => ?_)
   | ((with_reducible first | refine NewB.mk2 fun nb hnb hnb1 hnb2 => ?_ | refine NewRow.mk2 fun nb nsp ncap hnb hncap hnb1 hnb2 => ?_); try simp only [zzn] at hnb2)
   | simp -dsimp -implicitDefEqProofs (disch := first | assumption | (simp only [zzm]; done) | omega | (try with_reducible refine Row.adr (by assumption) ?_); simp only [zzl, Nat.reduceAdd]; first | done | omega) only [go_sem, ↓reduceIte, seval, -List.reduceReplicate, List.toList_toArray, hCl, hCa, hCx, hob]
  all_goals try (exfalso; omega)
  rename_i b2 hb20 hb21 hb22
  obtain ⟨b4, e0⟩ : ∃ x, x = nb := ⟨_, rfl⟩
  subst e0
  refine Tri.live [0, 1, 2, 4, 5] ?_
  refine Tri.isPiece [1, 1, 0] Tryz.f52 (by kernel_rfl) ?_
  refine Tri.onlyN (rkp3_t hsm O) fun G4 l4 H4 hle4 hs4 hM => ?_
  obtain ⟨b7, vs, _, hvs, hfr, rfl⟩ := hM
  simp only [go_sem]
  refine Tri.live [0, 1, 2, 4, 5, 6] ?_
  rw [hfr]
  have hsE := hs4
  try simp only [zzs] at hsE
  repeat (obtain ⟨hsx, hsE⟩ := hsE)
  have O4 := O.mono hle4
  obtain ⟨ay4, cy4, rfl, hr4y, hcy4⟩ := id hvs
  have hrow4 := hroww.mono hle4
  have hsl4 := hw0.mono hle4
  refine Tri.run tok [0, 1, 2, 4, 5, 6, 7, 8, 9, 10, 11, 20, 32, 59, 64, 71, 88] (by kernel_rfl) ?_
  repeat' first
   | (with_reducible first | refine Nx.go ?_ | refine Bk.go (fun _ => ?_) fun _ => ?_)
   | ((with_reducible first | refine NewB.mk2 fun nb hnb hnb1 hnb2 => ?_ | refine NewRow.mk2 fun nb nsp ncap hnb hncap hnb1 hnb2 => ?_); try simp only [zzn] at hnb2)
   | simp -dsimp -implicitDefEqProofs (disch := first | assumption | (simp only [zzm]; done) | omega | (try with_reducible refine Row.adr (by assumption) ?_); simp only [zzl, Nat.reduceAdd]; first | done | omega) only [go_sem, ↓reduceIte, seval, -List.reduceReplicate, List.toList_toArray]
  refine Tri.loopU tok [0, 1, 2, 4, 5, 6, 7, 8, 9, 10, 11, 20, 32, 59, 64, 71, 88] (by kernel_rfl) [0, 1, 2, 4, 5, 6, 7] (fun q G' fr H' => ∃ i : Nat, i + q = l.length ∧ OnceN d.label.length (l.take i) ∧ G' = G4 ∧ H' = (b7, .cells (cellsD d (.slice none 0 0) (.slice none 0 0) (.slice ay4 d.names.length cy4)) [] 27) :: (b4, .cells zeroC [] 27) :: (b2, .cells C [] 27) :: H ∧ fr = [(0, .agg (List.toArray C)), (1, .slice aw l.length cw), (2, .pointer (some ⟨b2, 0, none⟩)), (4, .pointer (some ⟨b4, 0, none⟩)), (5, .int .i64 0), (6, .pointer (some ⟨b7, 0, none⟩)), (7, .int .i64 (i : Nat))]) (l.length) ?_ ?_
  ·refine Upd.now ?_
   exact ⟨0, by omega, ⟨by rw [List.take_zero]; exact List.nodup_nil, fun x hx => by rw [List.take_zero] at hx; cases hx⟩, rfl, rfl, rfl⟩
  ·rintro q0 G5 fr H' hle5 hs5 ⟨i, hiq, hOi, rfl, rfl, rfl⟩
   have hsE := hs5
   try simp only [zzs] at hsE
   repeat (obtain ⟨hsx, hsE⟩ := hsE)
   by_cases hil : i < l.length
   ·have htk := List.take_succ_eq_append_getElem hil
    obtain ⟨p, hp, hpi, _, hpn⟩ := place_first hil
    have hfp := findF_some hp
    by_cases hr : 0 ≤ l[i] ∧ l[i] < d.label.length
    ·by_cases hin : l[i] ∈ l.take i
     ·have hno : ¬ KeepOk d l := fun h => by
       have h2 := h.1.1.1.sublist (List.take_sublist (i + 1) l)
       rw [htk, List.nodup_append] at h2
       exact h2.2.2 _ hin _ (List.mem_singleton.2 rfl) rfl
      have hpi2 : p ≠ i := fun e => (hpn.1 e) hin
      rw [keepR_not hok hno] at hR
      repeat' first
       | (with_reducible first | refine Nx.go ?_ | refine Bk.go (fun _ => ?_) fun _ => ?_)
       | ((with_reducible first | refine NewB.mk2 fun nb hnb hnb1 hnb2 => ?_ | refine NewRow.mk2 fun nb nsp ncap hnb hncap hnb1 hnb2 => ?_); try simp only [zzn] at hnb2)
       | simp -dsimp -implicitDefEqProofs (disch := first | assumption | (simp only [zzm]; done) | omega | (try with_reducible refine Row.adr (by assumption) ?_); simp only [zzl, Nat.reduceAdd]; first | done | omega) only [go_sem, ↓reduceIte, seval, -List.reduceReplicate, hCl, hCx, Row.obj hrow4, List.getElem_map]
       | with_reducible refine Tri.drawS tok mixed [0, 1, 2, 4, 5, 6, 7, 8, 9, 10, 11, 20, 32, 59, 64, 71, 88] 7 [3, 9, 11, 20] (.op 0 .plain (.op 1 .plain (.op 2 .plain (.op 3 .held (.op 4 .plain (.op 5 .plain (.op 6 .plain (.op 7 .plain (.op 8 .plain (.op 9 .held (.op 10 .plain (.op 11 .held (.op 12 .plain (.op 13 .plain (.op 14 .plain (.op 15 .plain (.op 16 .plain (.op 17 .plain (.op 18 .plain (.op 19 .plain (.op 20 .held (.op 22 .plain (.op 21 .keeps (.op 23 .plain (.op 24 .plain .nil))))))))))))))))))))))))) (by kernel_rfl) [(b2, .cells C [] 27)] (by intro fsum; first | exact Nat.le_refl _ | (simp only [zzq]; omega)) ?_
      all_goals try (exfalso; omega)
      refine rplace_t hl hsl4 ?_
      rw [hfp]
      repeat' first
       | (with_reducible first | refine Nx.go ?_ | refine Bk.go (fun _ => ?_) fun _ => ?_)
       | ((with_reducible first | refine NewB.mk2 fun nb hnb hnb1 hnb2 => ?_ | refine NewRow.mk2 fun nb nsp ncap hnb hncap hnb1 hnb2 => ?_); try simp only [zzn] at hnb2)
       | simp -dsimp -implicitDefEqProofs (disch := first | assumption | (simp only [zzm]; done) | omega | (try with_reducible refine Row.adr (by assumption) ?_); simp only [zzl, Nat.reduceAdd]; first | done | omega) only [go_sem, ↓reduceIte, seval, -List.reduceReplicate, hCl, hCx, zeroC_len, zeroC_one, zeroC_take, zeroC_put]
      all_goals try (exfalso; omega)
      unfold UpdR
      refine Upd.leave (H' := H) (by intro fsum; first | exact Nat.le_refl _ | (simp only [zzq]; omega)) ?_
      exact fun _ hs => hR _ _ hle4 hs (zeroD_is _)
     ·have hpi2 : p = i := hpn.2 hin
      have hO2 : OnceN d.label.length (l.take (i + 1)) := by
       have h3 := hOi.add1 hr
       unfold add1 at h3
       rw [if_neg hin, ← htk] at h3
       exact h3
      repeat' first
       | (with_reducible first | refine Nx.go ?_ | refine Bk.go (fun _ => ?_) fun _ => ?_)
       | ((with_reducible first | refine NewB.mk2 fun nb hnb hnb1 hnb2 => ?_ | refine NewRow.mk2 fun nb nsp ncap hnb hncap hnb1 hnb2 => ?_); try simp only [zzn] at hnb2)
       | simp -dsimp -implicitDefEqProofs (disch := first | assumption | (simp only [zzm]; done) | omega | (try with_reducible refine Row.adr (by assumption) ?_); simp only [zzl, Nat.reduceAdd]; first | done | omega) only [go_sem, ↓reduceIte, seval, -List.reduceReplicate, hCl, hCx, Row.obj hrow4, List.getElem_map]
       | with_reducible refine Tri.drawS tok mixed [0, 1, 2, 4, 5, 6, 7, 8, 9, 10, 11, 20, 32, 59, 64, 71, 88] 7 [3, 9, 11, 20] (.op 0 .plain (.op 1 .plain (.op 2 .plain (.op 3 .held (.op 4 .plain (.op 5 .plain (.op 6 .plain (.op 7 .plain (.op 8 .plain (.op 9 .held (.op 10 .plain (.op 11 .held (.op 12 .plain (.op 13 .plain (.op 14 .plain (.op 15 .plain (.op 16 .plain (.op 17 .plain (.op 18 .plain (.op 19 .plain (.op 20 .held (.op 22 .plain (.op 21 .keeps (.op 23 .plain (.op 24 .plain .nil))))))))))))))))))))))))) (by kernel_rfl) [(b2, .cells C [] 27)] (by intro fsum; first | exact Nat.le_refl _ | (simp only [zzq]; omega)) ?_
      all_goals try (exfalso; omega)
      refine rplace_t hl hsl4 ?_
      rw [hfp, hpi2]
      repeat' first
       | (with_reducible first | refine Nx.go ?_ | refine Bk.go (fun _ => ?_) fun _ => ?_)
       | ((with_reducible first | refine NewB.mk2 fun nb hnb hnb1 hnb2 => ?_ | refine NewRow.mk2 fun nb nsp ncap hnb hncap hnb1 hnb2 => ?_); try simp only [zzn] at hnb2)
       | simp -dsimp -implicitDefEqProofs (disch := first | assumption | (simp only [zzm]; done) | omega | (try with_reducible refine Row.adr (by assumption) ?_); simp only [zzl, Nat.reduceAdd]; first | done | omega) only [go_sem, ↓reduceIte, seval, -List.reduceReplicate, hCl, hCx]
      all_goals try (exfalso; omega)
      refine Upd.now ?_
      exact ⟨q0 - 1, by omega, i + 1, by omega, hO2, rfl, rfl, rfl⟩
    ·have hno : ¬ KeepOk d l := fun h => hr (h.1.1.2 _ (List.getElem_mem hil))
     rw [keepR_not hok hno] at hR
     repeat' first
      | (with_reducible first | refine Nx.go ?_ | refine Bk.go (fun _ => ?_) fun _ => ?_)
      | ((with_reducible first | refine NewB.mk2 fun nb hnb hnb1 hnb2 => ?_ | refine NewRow.mk2 fun nb nsp ncap hnb hncap hnb1 hnb2 => ?_); try simp only [zzn] at hnb2)
      | simp -dsimp -implicitDefEqProofs (disch := first | assumption | (simp only [zzm]; done) | omega | (try with_reducible refine Row.adr (by assumption) ?_); simp only [zzl, Nat.reduceAdd]; first | done | omega) only [go_sem, ↓reduceIte, seval, -List.reduceReplicate, hCl, hCx, Row.obj hrow4, List.getElem_map, zeroC_len, zeroC_one, zeroC_take, zeroC_put]
      | with_reducible refine Tri.drawS tok mixed [0, 1, 2, 4, 5, 6, 7, 8, 9, 10, 11, 20, 32, 59, 64, 71, 88] 7 [3, 9, 11, 20] (.op 0 .plain (.op 1 .plain (.op 2 .plain (.op 3 .held (.op 4 .plain (.op 5 .plain (.op 6 .plain (.op 7 .plain (.op 8 .plain (.op 9 .held (.op 10 .plain (.op 11 .held (.op 12 .plain (.op 13 .plain (.op 14 .plain (.op 15 .plain (.op 16 .plain (.op 17 .plain (.op 18 .plain (.op 19 .plain (.op 20 .held (.op 22 .plain (.op 21 .keeps (.op 23 .plain (.op 24 .plain .nil))))))))))))))))))))))))) (by kernel_rfl) [(b2, .cells C [] 27)] (by intro fsum; first | exact Nat.le_refl _ | (simp only [zzq]; omega)) ?_
     all_goals try (exfalso; omega)
     all_goals unfold UpdR
     all_goals refine Upd.leave (H' := H) (by intro fsum; first | exact Nat.le_refl _ | (simp only [zzq]; omega)) ?_
     all_goals exact fun _ hs => hR _ _ hle4 hs (zeroD_is _)
   ·obtain rfl : i = l.length := by omega
    rw [List.take_length] at hOi
    have hO := hOi
    have hln : l.length ≤ d.label.length := hO.len
    repeat' first
     | (with_reducible first | refine Nx.go ?_ | refine Bk.go (fun _ => ?_) fun _ => ?_)
     | ((with_reducible first | refine NewB.mk2 fun nb hnb hnb1 hnb2 => ?_ | refine NewRow.mk2 fun nb nsp ncap hnb hncap hnb1 hnb2 => ?_); try simp only [zzn] at hnb2)
     | simp -dsimp -implicitDefEqProofs (disch := first | assumption | (simp only [zzm]; done) | omega | (try with_reducible refine Row.adr (by assumption) ?_); simp only [zzl, Nat.reduceAdd]; first | done | omega) only [go_sem, ↓reduceIte, seval, -List.reduceReplicate]
    all_goals try (exfalso; omega)
    refine Tri.loopS tok [0, 1, 2, 4, 5, 6, 7, 8, 9, 10, 11, 20, 32, 59, 64, 71, 88] (.seq .run (.seq (.block .cut) .cut)) (by kernel_rfl) [0, 1, 2, 4, 5, 6, 8] (fun q G' fr H' => ∃ (j : Nat) (vn vl : Value) (kn kl : Heap), j + q = l.length ∧ PLe G5 G' ∧ (∀ i (h : i < l.length), i < j → fineK d l l[i]) ∧ RowK d l G' j vn kn ∧ LabK d l j vl kl ∧ H' = (b7, .cells (cellsD d vn vl (.slice ay4 d.names.length cy4)) [] 27) :: (b2, .cells C [] 27) :: (kn ++ (kl ++ ((b4, .cells zeroC [] 27) :: H))) ∧ fr = [(0, .agg (List.toArray C)), (1, .slice aw l.length cw), (2, .pointer (some ⟨b2, 0, none⟩)), (4, .pointer (some ⟨b4, 0, none⟩)), (5, .int .i64 0), (6, .pointer (some ⟨b7, 0, none⟩)), (8, .int .i64 (j : Nat))]) (l.length) ?_ ?_
    ·exact Upd.go (H' := (b7, .cells (cellsD d (.slice none 0 0) (.slice none 0 0) (.slice ay4 d.names.length cy4)) [] 27) :: (b2, .cells C [] 27) :: ([] ++ ([] ++ ((b4, .cells zeroC [] 27) :: H)))) (by intro fsum; first | exact Nat.le_refl _ | (simp only [zzq]; omega)) (Upd.now ⟨0, _, _, [], [], by omega, PLe.refl _, fun i h h2 => by omega, .inl ⟨rfl, rfl, rfl⟩, .inl ⟨rfl, rfl, rfl⟩, rfl, rfl⟩)
    ·rintro q G6 fr H' hle6 hs6 ⟨j, vn, vl, kn, kl, hj, hleG6, hfine, hro, hlo, rfl, rfl⟩
     have O6 := O4.mono hleG6
     have k6 := hle4.trans hleG6
     by_cases hjl : j < l.length
     ·by_cases hfj : fineK d l l[j]
      ·repeat' first
        | (with_reducible first | refine Nx.go ?_ | refine Bk.go (fun _ => ?_) fun _ => ?_)
        | ((with_reducible first | refine NewB.mk2 fun nb hnb hnb1 hnb2 => ?_ | refine NewRow.mk2 fun nb nsp ncap hnb hncap hnb1 hnb2 => ?_); try simp only [zzn] at hnb2)
        | simp -dsimp -implicitDefEqProofs (disch := first | assumption | (simp only [zzm]; done) | omega | (try with_reducible refine Row.adr (by assumption) ?_); simp only [zzl, Nat.reduceAdd]; first | done | omega) only [go_sem, ↓reduceIte, seval, -List.reduceReplicate, List.toList_toArray]
       refine Tri.live [0, 1, 2, 4, 5, 6, 8] ?_
       refine Tri.isPiece [1, 1, 1, 1, 0, 1, 0, 0, 1, 0, 0] Tryz.f52 (by kernel_rfl) ?_
       refine Tri.onlyN (rkx_t hsm hok hO O6 hcw (hroww.mono k6) hjl hro hlo rfl hfj) fun G7 l7 H7 hle7 hs7 hM => ?_
       obtain ⟨vn', vl', kn', kl', _, hro', hlo', hfr', rfl⟩ := hM
       simp only [go_sem]
       refine Tri.live [0, 1, 2, 4, 5, 6, 8] ?_
       rw [hfr']
       refine Tri.run tok [0, 1, 2, 4, 5, 6, 7, 8, 9, 10, 11, 20, 32, 59, 64, 71, 88] (by kernel_rfl) ?_
       repeat' first
        | (with_reducible first | refine Nx.go ?_ | refine Bk.go (fun _ => ?_) fun _ => ?_)
        | ((with_reducible first | refine NewB.mk2 fun nb hnb hnb1 hnb2 => ?_ | refine NewRow.mk2 fun nb nsp ncap hnb hncap hnb1 hnb2 => ?_); try simp only [zzn] at hnb2)
        | simp -dsimp -implicitDefEqProofs (disch := first | assumption | (simp only [zzm]; done) | omega | (try with_reducible refine Row.adr (by assumption) ?_); simp only [zzl, Nat.reduceAdd]; first | done | omega) only [go_sem, ↓reduceIte, seval, -List.reduceReplicate, List.toList_toArray]
       refine Upd.now ?_
       exact ⟨q - 1, by omega, j + 1, vn', vl', kn', kl', by omega, hleG6.trans hle7, fun i h h2 => by
        by_cases e : i = j
        ·subst e; exact hfj
        ·exact hfine i h (by omega), hro', hlo', rfl, rfl⟩
      ·have hno : ¬ KeepOk d l := fun h => hfj (h.2 _ (List.getElem_mem hjl))
       rw [keepR_not hok hno] at hR
       repeat' first
        | (with_reducible first | refine Nx.go ?_ | refine Bk.go (fun _ => ?_) fun _ => ?_)
        | ((with_reducible first | refine NewB.mk2 fun nb hnb hnb1 hnb2 => ?_ | refine NewRow.mk2 fun nb nsp ncap hnb hncap hnb1 hnb2 => ?_); try simp only [zzn] at hnb2)
        | simp -dsimp -implicitDefEqProofs (disch := first | assumption | (simp only [zzm]; done) | omega | (try with_reducible refine Row.adr (by assumption) ?_); simp only [zzl, Nat.reduceAdd]; first | done | omega) only [go_sem, ↓reduceIte, seval, -List.reduceReplicate, List.toList_toArray]
       refine Tri.live [0, 1, 2, 4, 5, 6, 8] ?_
       refine Tri.upd (Upd.go (H' := (b4, .cells zeroC [] 27) :: (b7, .cells (cellsD d vn vl (.slice ay4 d.names.length cy4)) [] 27) :: (b2, .cells C [] 27) :: (kn ++ (kl ++ H))) (by intro fsum; first | exact Nat.le_refl _ | (simp only [zzq]; omega)) (Upd.now ?_))
       refine Tri.isPiece [1, 1, 1, 1, 0, 1, 0, 0, 1, 0, 0] Tryz.f52 (by kernel_rfl) ?_
       refine Tri.onlyR (rkxb_t hsm hok hO O6 hcw (hroww.mono k6) hjl hfj) fun G7 l7 H7 hle7 hs7 hM => ?_
       obtain ⟨_, hfr', rfl⟩ := hM
       have hsE := hs7
       try simp only [zzs] at hsE
       repeat (obtain ⟨hsx, hsE⟩ := hsE)
       have h4 : V.look l7 4 = some (.pointer (some ⟨b4, 0, none⟩)) := look_restrict [4, 5] l7 4 _ (by rw [hfr']; rfl)
       have h5 : V.look l7 5 = some (.int .i64 1) := look_restrict [4, 5] l7 5 _ (by rw [hfr']; rfl)
       repeat' first
        | (with_reducible first | refine Nx.go ?_ | refine Bk.go (fun _ => ?_) fun _ => ?_)
        | ((with_reducible first | refine NewB.mk2 fun nb hnb hnb1 hnb2 => ?_ | refine NewRow.mk2 fun nb nsp ncap hnb hncap hnb1 hnb2 => ?_); try simp only [zzn] at hnb2)
        | simp -dsimp -implicitDefEqProofs (disch := first | assumption | (simp only [zzm]; done) | omega | (try with_reducible refine Row.adr (by assumption) ?_); simp only [zzl, Nat.reduceAdd]; first | done | omega) only [go_sem, ↓reduceIte, seval, -List.reduceReplicate, List.toList_toArray, h4, h5, zeroC_len, zeroC_one, zeroC_take, zeroC_put]
       unfold UpdR
       refine Upd.leave (H' := H) (by intro fsum; first | exact Nat.le_refl _ | (simp only [zzq]; omega)) ?_
       exact fun _ hs => hR G7 _ (k6.trans hle7) hs (zeroD_is _)
     ·obtain rfl : j = l.length := by omega
      have hko : KeepOk d l := ⟨⟨hO, hh⟩, fun x hx => by
       obtain ⟨i, hi, rfl⟩ := List.getElem_of_mem hx
       exact hfine i hi hi⟩
      rw [keepR_ok hok hko] at hR
      rcases hro with ⟨hj0, _, _⟩ | ⟨bn, c1, rv, sp1, rfl, rfl, hrv, hc1, hrws⟩
      ·exact absurd hj0 (by omega)
      rcases hlo with ⟨hj0, _, _⟩ | ⟨bl, c2, sp2, rfl, rfl, hc2⟩
      ·exact absurd hj0 (by omega)
      have hsE := hs6
      try simp only [zzs] at hsE
      repeat (obtain ⟨hsx, hsE⟩ := hsE)
      have hone := cellsD_one (d := d) (vn := .slice (some ⟨bn, 0, none⟩) l.length c1) (vl := .slice (some ⟨bl, 0, none⟩) l.length c2) (vs := .slice ay4 d.names.length cy4) rfl rfl rfl
      have hLl : (labF d l).length = l.length := by unfold labF; rw [List.length_map]
      rw [show (labF d l).take l.length = labF d l by rw [← hLl, List.take_length]]
      repeat' first
       | (with_reducible first | refine Nx.go ?_ | refine Bk.go (fun _ => ?_) fun _ => ?_)
       | ((with_reducible first | refine NewB.mk2 fun nb hnb hnb1 hnb2 => ?_ | refine NewRow.mk2 fun nb nsp ncap hnb hncap hnb1 hnb2 => ?_); try simp only [zzn] at hnb2)
       | simp -dsimp -implicitDefEqProofs (disch := first | assumption | (simp only [zzm]; done) | omega | (try with_reducible refine Row.adr (by assumption) ?_); simp only [zzl, Nat.reduceAdd]; first | done | omega) only [go_sem, ↓reduceIte, seval, -List.reduceReplicate, List.toList_toArray, hl2, ht2, hputz, hone, zeroC_len]
      unfold UpdR
      refine Upd.go (H' := (bn, .cells rv sp1 24) :: (bl, .cells ((labF d l).map (Value.int .i64)) sp2 3) :: H) (by intro fsum; first | exact Nat.le_refl _ | (simp only [zzq]; omega)) (Upd.trans (Upd.shareRow (by assumption) fun G7 hle7 hs7 hr7 => ?_))
      refine Upd.shareRow hs7.1.1 fun G8 hle8 hs8 hr8 => ?_
      have k8 := hle7.trans hle8
      refine fun _ hs => hR G8 _ (k6.trans k8) hs ?_
      refine ⟨O.ofl, O.ofb, _, _, _, rfl, ⟨some ⟨bn, 0, none⟩, c1, rv, ?_, hr7.mono hle8, ?_, ?_, fun i h h2 => ?_⟩, ⟨some ⟨bl, 0, none⟩, c2, ?_, hr8, ?_⟩, ⟨ay4, cy4, rfl, hr4y.mono (hleG6.trans k8), hcy4⟩⟩
      ·simp only [keepD, List.length_map]
      ·simp only [keepD, List.length_map]; exact hrv
      ·simp only [keepD, List.length_map]; omega
      ·have hi : i < l.length := by simp only [keepD, List.length_map] at h; exact h
       obtain ⟨b', c', f1, f2, f3⟩ := hrws i hi h2 hi
       refine ⟨b', c', ?_, ?_, ?_⟩
       ·simp only [keepD, List.getElem_map]; exact f1
       ·simp only [keepD, List.getElem_map]; exact f2.mono k8
       ·simp only [keepD, List.getElem_map]; exact f3
      ·simp only [keepD, hLl]
      ·simp only [keepD, hLl]; omega
 ·have hno : ¬ KeepOk d l := fun h => hh h.1.2
  rw [keepR_not hok hno] at hR
  by_cases h0 : l.length = 0
  ·refine FnT.body tok [0, 1, 2, 4, 5, 6, 7, 8, 9, 10, 11, 20, 32, 59, 64, 71, 88] Tryz.func52 rfl (by kernel_rfl) (by kernel_rfl) (by show _ ≤ 114; simp) fun hsep => ?_
   rw [Tryz.results52]
   have hsE := hsep
   try simp only [zzs] at hsE
   repeat (obtain ⟨hsx, hsE⟩ := hsE)
   repeat' first
    | (with_reducible first | refine Nx.go ?_ | refine Bk.go (fun _ => ?_) fun _ => ?_)
    | ((with_reducible first | refine NewB.mk2 fun nb hnb hnb1 hnb2 => ?_ | refine NewRow.mk2 fun nb nsp ncap hnb hncap hnb1 hnb2 => ?_); try simp only [zzn] at hnb2)
    | simp -dsimp -implicitDefEqProofs (disch := first | assumption | (simp only [zzm]; done) | omega | (try with_reducible refine Row.adr (by assumption) ?_); simp only [zzl, Nat.reduceAdd]; first | done | omega) only [go_sem, ↓reduceIte, seval, -List.reduceReplicate, List.toList_toArray, hCl, hCa, zeroC_len, zeroC_one, zeroC_take, zeroC_put]
   all_goals try (exfalso; omega)
   unfold UpdR
   refine Upd.leave (H' := H) (by intro fsum; first | exact Nat.le_refl _ | (simp only [zzq]; omega)) ?_
   exact fun _ hs => hR G _ (PLe.refl _) hs (zeroD_is _)
  ·have hpos : 0 < l.length := by omega
   have hl0 : l[0] ≠ 0 := fun e => hh (by rw [List.head?_eq_getElem?, List.getElem?_eq_getElem hpos, e])
   have hadw : Adr aw := hroww.adr (by rw [List.length_map]; omega)
   have hob : ∀ (H : Heap) (k : Value → Prop), objK G H (blk aw) (G (blk aw)) (ofs aw) k = k (.int .i64 l[0]) := fun H k => by
    have := Row.obj hroww (i := 0) (by rw [List.length_map]; omega) H k
    rw [Nat.add_zero, List.getElem_map] at this
    exact this
   refine FnT.body tok [0, 1, 2, 4, 5, 6, 7, 8, 9, 10, 11, 20, 32, 59, 64, 71, 88] Tryz.func52 rfl (by kernel_rfl) (by kernel_rfl) (by show _ ≤ 114; simp) fun hsep => ?_
   rw [Tryz.results52]
   have hsE := hsep
   try simp only [zzs] at hsE
   repeat (obtain ⟨hsx, hsE⟩ := hsE)
   repeat' first
    | (with_reducible first | refine Nx.go ?_ | refine Bk.go (fun _ => ?_) fun _ => ?_)
    | ((with_reducible first | refine NewB.mk2 fun nb hnb hnb1 hnb2 => ?_ | refine NewRow.mk2 fun nb nsp ncap hnb hncap hnb1 hnb2 => ?_); try simp only [zzn] at hnb2)
    | simp -dsimp -implicitDefEqProofs (disch := first | assumption | (simp only [zzm]; done) | omega | (try with_reducible refine Row.adr (by assumption) ?_); simp only [zzl, Nat.reduceAdd]; first | done | omega) only [go_sem, ↓reduceIte, seval, -List.reduceReplicate, List.toList_toArray, hCl, hCa, hob, zeroC_len, zeroC_one, zeroC_take, zeroC_put]
   all_goals try (exfalso; omega)
   unfold UpdR
   refine Upd.leave (H' := H) (by intro fsum; first | exact Nat.le_refl _ | (simp only [zzq]; omega)) ?_
   exact fun _ hs => hR G _ (PLe.refl _) hs (zeroD_is _)
theorem rtrim_t {d : DfaT} (hsm : SmallD d) (hok : RightP d) {G : PHeap} {H : Heap} {R : Value → PHeap → Heap → Prop} {v : Value} (hv : IsD G d v)
  (hR : ∀ G' v', PLe G G' → Sep G' (keys H) → IsD G' (trimD d) v' → R v' G' H) : FnT Tryz.prog 28 [v] G H R := by
 obtain ⟨C, an, al, ay, cn, cl, cs, rs, rfl, O⟩ := hv.opened
 have hCl := O.len
 have hCa := O.all
 have hk2 := hok.2.1
 have hrl := (reachL_once hok).len
 have hkr := keepR_ok hok (reachL_keep hok)
 have hrl2 : (reachL d).length ≤ 2000000 := by omega
 refine FnT.sep ?_
 refine FnT.body tok [0, 1, 2, 3] Tryz.func28 rfl (by kernel_rfl) (by kernel_rfl) (by show _ ≤ 13; simp) fun hsep => ?_
 rw [Tryz.results28]
 have hsE := hsep
 try simp only [zzs] at hsE
 repeat (obtain ⟨hsx, hsE⟩ := hsE)
 repeat' first
  | (with_reducible first | refine Nx.go ?_ | refine Bk.go (fun _ => ?_) fun _ => ?_)
  | (with_reducible refine NewB.mk2 fun nb hnb hnb1 hnb2 => ?_; try simp only [zzn] at hnb2)
  | simp -dsimp -implicitDefEqProofs (disch := first | assumption | (simp only [zzm]; done) | omega | (try with_reducible refine Row.adr (by assumption) ?_); simp only [zzl, Nat.reduceAdd]; first | done | omega) only [go_sem, ↓reduceIte, seval, -List.reduceReplicate, List.toList_toArray, hCl, hCa, isD_put, take260, zeroC_len, zeroC_one]
  | with_reducible refine Tri.drawH tok mixed [0, 1, 2, 3] 1 [0, 1] (.op 0 .held (.op 1 .held (.both (.op 2 .keeps (.both (.op 3 .keeps (.op 4 .plain (.op 5 .plain (.op 6 .plain (.op 7 .keeps (.op 8 .plain (.op 9 .plain .nil))))))) (.op 7 .keeps (.op 3 .keeps (.op 4 .plain (.op 5 .plain (.op 6 .plain (.op 8 .plain (.op 9 .plain .nil))))))))) (.op 7 .keeps (.op 2 .keeps (.op 3 .keeps (.op 4 .plain (.op 5 .plain (.op 6 .plain (.op 8 .plain (.op 9 .plain .nil))))))))))) (by kernel_rfl) [1] ?_
  | (with_reducible refine And.intro ?_ ?_)
  | ((with_reducible refine rreach_t hsm hok O.is fun G2 v2 hle2 hs2 hsl2 => ?_); (have hsE := hs2; try simp only [zzs] at hsE; repeat (obtain ⟨hsx, hsE⟩ := hsE)))
  | ((with_reducible refine rkeep_t hsm hok hrl2 (O.is.mono hle2) hsl2 fun G3 v3 hle3 hs3 hI => ?_); rw [hkr] at hI ⊢; obtain ⟨C', an', al', ay', cn', cl', cs', rs', rfl, O'⟩ := IsD.opened (d := trimD d) hI; have hDl := O'.len; have hone := isD_one O'.is; have hob : C'.length ≤ 260 ∧ C'.all oneV = true := ⟨Nat.le_of_eq hDl, hone⟩; (have hsE := hs3; try simp only [zzs] at hsE; repeat (obtain ⟨hsx, hsE⟩ := hsE)))
 all_goals unfold UpdR
 all_goals refine Upd.leave (H' := H) (by intro fsum; first | exact Nat.le_refl _ | (simp only [zzq]; omega)) ?_
 all_goals exact fun _ hs => hR G3 _ (hle2.trans hle3) hs O'.is
end Go.Proofs.YtefkpedhbijhkaaGreatDoor
namespace Go.Proofs.YtefkpedhbijhkaaGreatDoor
open Go Go.V Go.Proofs
theorem rmerge_t {d : DfaT} (hsm : SmallD d) {G : PHeap} {H : Heap} {R : Value → PHeap → Heap → Prop} {v : Value} (hv : IsD G d v)
  (hR : ∀ G' v', PLe G G' → Sep G' (keys H) → IsD G' (mergeR d).1 v' → R (.tuple #[v', .int .i64 (mergeR d).2]) G' H) : FnT Tryz.prog 30 [v] G H R := by
 obtain ⟨C, an, al, ay, cn, cl, cs, rs, rfl, O⟩ := hv.opened
 obtain ⟨hm1, hm2, hm3, hm4, hm5⟩ := id hsm
 have hCl := O.len
 have hCa := O.all
 have hCn := O.n
 have hCx := O.l
 have hCs := O.s
 refine FnT.sep ?_
 by_cases hok : RightP d
 ·have hb := boolOf_yes hok
  rw [mergeR_ok hok] at hR
  have hol : (nums (clL d)).length = 256 := by rw [nums_len, clL_len O.ofl]
  have hob : ∀ x ∈ nums (clL d), 0 ≤ x ∧ x ≤ 255 := fun x hx => by
   have h1 := nums_bound (l := clL d) hx
   have h2 := tabO_len (clL d)
   have h3 := clL_len O.ofl
   omega
  have hu8 : (u8L (nums (clL d))).length = 256 := by rw [List.length_map, hol]
  have hno1 : (u8L (nums (clL d))).all oneV = true := by rw [List.all_map]; exact List.all_eq_true.2 fun _ _ => rfl
  have hns : splice (List.replicate 256 (Value.int .u8 0)) 0 (u8L (nums (clL d))) = u8L (nums (clL d)) := by rw [u8F_zero, ← u8F_nums (clL_len O.ofl), u8F_over]
  have bu1 : splice zeroC 0 (u8L (nums (clL d))) = u8L (nums (clL d)) ++ [Value.int .i64 0, Value.slice none 0 0, Value.slice none 0 0, Value.slice none 0 0] := build_of (d := mergeD d) hol
  have bu2 : splice (u8L (nums (clL d)) ++ [Value.int .i64 0, Value.slice none 0 0, Value.slice none 0 0, Value.slice none 0 0]) 256 [Value.int .i64 ((tabO (clL d)).length : Nat)] = cellsD (mergeD d) (.slice none 0 0) (.slice none 0 0) (.slice none 0 0) := build_w (d := mergeD d) hol
  have bu3 : ∀ x, splice (cellsD (mergeD d) (.slice none 0 0) (.slice none 0 0) (.slice none 0 0)) 258 [x] = cellsD (mergeD d) (.slice none 0 0) x (.slice none 0 0) := fun x => cellsD_putL (d := mergeD d) hol _ _ _ _
  have bu4 : ∀ vl x, splice (cellsD (mergeD d) (.slice none 0 0) vl (.slice none 0 0)) 259 [x] = cellsD (mergeD d) (.slice none 0 0) vl x := fun vl x => build_s (d := mergeD d) hol _ _ _ _
  have bu5 : ∀ vn vl vs x, splice (cellsD (mergeD d) vn vl vs) 257 [x] = cellsD (mergeD d) x vl vs := fun vn vl vs x => cellsD_putN (d := mergeD d) hol _ _ _ _
  have hl1 : (u8L (nums (clL d)) ++ [Value.int .i64 0, Value.slice none 0 0, Value.slice none 0 0, Value.slice none 0 0]).length = 260 := by rw [List.length_append, hu8]; rfl
  have hl2 : ∀ a b c : Value, (cellsD (mergeD d) a b c).length = 260 := fun a b c => cellsD_len (d := mergeD d) hol _ _ _
  have hg2 : ∀ a b c : Value, (cellsD (mergeD d) a b c)[257]? = some a := fun a b c => cellsD_n (d := mergeD d) hol _ _ _
  have hputz : ∀ vn vl vs, splice zeroC 0 (cellsD (mergeD d) vn vl vs) = cellsD (mergeD d) vn vl vs := fun vn vl vs => by
   unfold splice
   rw [List.take_zero, List.nil_append, List.drop_of_length_le (by rw [zeroC_len, hl2]; omega), List.append_nil]
  have hone : ∀ (a a' a'' : Option Addr) (b c b' c' b'' c'' : Nat), (cellsD (mergeD d) (.slice a'' b'' c'') (.slice a b c) (.slice a' b' c')).all oneV = true := fun a a' a'' b c b' c' b'' c'' => cellsD_one rfl rfl rfl
  have htk2 : ∀ vn vl vs, List.take 260 (cellsD (mergeD d) vn vl vs) = cellsD (mergeD d) vn vl vs := fun vn vl vs => List.take_of_length_le (by rw [hl2]; omega)
  have hnt : List.take 256 (u8L (nums (clL d))) = u8L (nums (clL d)) := List.take_of_length_le (by omega)
  have hr1 : ∀ v : Value, List.replicate 1 v = [v] := fun _ => rfl
  refine FnT.body tok [0, 1, 2, 3, 4, 5, 6, 7, 8, 9, 10, 13, 33, 39] Tryz.func30 rfl (by kernel_rfl) (by kernel_rfl) (by show _ ≤ 66; simp) fun hsep => ?_
  rw [Tryz.results30]
  have hsE := hsep
  try simp only [zzs] at hsE
  repeat (obtain ⟨hsx, hsE⟩ := hsE)
  repeat' first
   | (with_reducible first | refine Nx.go ?_ | refine Bk.go (fun _ => ?_) fun _ => ?_)
   | ((with_reducible first | refine NewB.mk2 fun nb hnb hnb1 hnb2 => ?_ | refine NewRow.mk2 fun nb nsp ncap hnb hncap hnb1 hnb2 => ?_); try simp only [zzn] at hnb2)
   | simp -dsimp -implicitDefEqProofs (disch := first | assumption | (simp only [zzm]; done) | omega | (try with_reducible refine Row.adr (by assumption) ?_); simp only [zzl, Nat.reduceAdd]; first | done | omega) only [go_sem, ↓reduceIte, seval, -List.reduceReplicate, List.toList_toArray, hCl, hCa, hb, zeroC_len]
   | with_reducible refine rright_t hsm O.is fun G0 hle0 hs0 => ?_
  rename_i b1 hb1 hb11 hb12
  revert nb
  intro b2 hb2 hb21 hb22 hs0
  have hsE := hs0
  try simp only [zzs] at hsE
  repeat (obtain ⟨hsx, hsE⟩ := hsE)
  repeat' first
   | (with_reducible first | refine Nx.go ?_ | refine Bk.go (fun _ => ?_) fun _ => ?_)
   | ((with_reducible first | refine NewB.mk2 fun nb hnb hnb1 hnb2 => ?_ | refine NewRow.mk2 fun nb nsp ncap hnb hncap hnb1 hnb2 => ?_); try simp only [zzn] at hnb2)
   | simp -dsimp -implicitDefEqProofs (disch := first | assumption | (simp only [zzm]; done) | omega | (try with_reducible refine Row.adr (by assumption) ?_); simp only [zzl, Nat.reduceAdd]; first | done | omega) only [go_sem, ↓reduceIte, seval, -List.reduceReplicate, List.toList_toArray, hCl, hCa, zeroC_len]
  have O0 := O.mono hle0
  refine rClasses_t hsm O0.is fun G2 hle2 hs2 => ?_
  rw [if_pos hb]
  have hsE := hs2
  try simp only [zzs] at hsE
  repeat (obtain ⟨hsx, hsE⟩ := hsE)
  repeat' first
   | (with_reducible first | refine Nx.go ?_ | refine Bk.go (fun _ => ?_) fun _ => ?_)
   | ((with_reducible first | refine NewB.mk2 fun nb hnb hnb1 hnb2 => ?_ | refine NewRow.mk2 fun nb nsp ncap hnb hncap hnb1 hnb2 => ?_); try simp only [zzn] at hnb2)
   | simp -dsimp -implicitDefEqProofs (disch := first | assumption | (simp only [zzm]; done) | omega | (try with_reducible refine Row.adr (by assumption) ?_); simp only [zzl, Nat.reduceAdd]; first | done | omega) only [go_sem, ↓reduceIte, seval, -List.reduceReplicate, List.toList_toArray, hCl, hCa, hb, List.length_replicate, hns, hu8, hno1, hnt]
  revert nb
  intro b4 hb4 hb41 hb42
  refine rpleasts_t hol hob fun G3 v3 hle3 hs3 hsl3 => ?_
  obtain ⟨a3, c3, rfl, hr3, hc3⟩ := hsl3
  have hsE := hs3
  try simp only [zzs] at hsE
  repeat (obtain ⟨hsx, hsE⟩ := hsE)
  have hle03 := (hle0.trans hle2).trans hle3
  have O3 := O.mono hle03
  repeat' first
   | (with_reducible first | refine Nx.go ?_ | refine Bk.go (fun _ => ?_) fun _ => ?_)
   | ((with_reducible first | refine NewB.mk2 fun nb hnb hnb1 hnb2 => ?_ | refine NewRow.mk2 fun nb nsp ncap hnb hncap hnb1 hnb2 => ?_); try simp only [zzn] at hnb2)
   | simp -dsimp -implicitDefEqProofs (disch := first | assumption | (simp only [zzm]; done) | omega | (try with_reducible refine Row.adr (by assumption) ?_); simp only [zzl, Nat.reduceAdd]; first | done | omega) only [go_sem, ↓reduceIte, seval, -List.reduceReplicate, List.toList_toArray, hCl, hCa, hCn, hCx, hCs, hnt, hu8, bu1, bu2, bu3, bu4, hl1, hl2, hputz, hone, zeroC_len]
  revert nb
  intro b7 hb7 hb71 hb72
  refine Tri.loopU tok [0, 1, 2, 3, 4, 5, 6, 7, 8, 9, 10, 13, 33, 39] (by kernel_rfl) [1, 2, 5, 6, 7, 8] (fun q G' fr H' => ∃ (s : Nat) (vn : Value) (kn : Heap), s + q = d.next.length ∧ PLe G3 G' ∧ RowX (rowsM d) G' s vn kn ∧ H' = (b7, .cells (cellsD (mergeD d) vn (.slice al d.label.length cl) (.slice ay d.names.length cs)) [] 27) :: (b4, .cells (u8L (nums (clL d))) [] 22) :: (b2, .cells zeroC [] 27) :: (b1, .cells C [] 27) :: (kn ++ H) ∧ fr = [(1, .pointer (some ⟨b1, 0, none⟩)), (2, .pointer (some ⟨b2, 0, none⟩)), (5, .int .i64 (tabO (clL d)).length), (6, .slice a3 (leastL (nums (clL d))).length c3), (7, .pointer (some ⟨b7, 0, none⟩)), (8, .int .i64 (s : Nat))]) (d.next.length) ?_ ?_
  ·exact Upd.now ⟨0, _, [], by omega, PLe.refl _, .inl ⟨rfl, rfl, rfl⟩, rfl, rfl⟩
  ·rintro q G1 fr H' hle hs1 ⟨s, vn, kn, hsq, hle6, hX, rfl, rfl⟩
   by_cases hsn : s < d.next.length
   ·have O6 := O3.mono hle6
    have hr36 := hr3.mono hle6
    have had : Adr an := O6.rn.adr (by have := O.rnl; omega)
    obtain ⟨b, cc, e1, e2, e3⟩ := O6.rs s hsn (by have := O.rnl; omega)
    obtain ⟨hw1, hw2, hw3, hw4⟩ := hok.2.2.2.2.2.2 s hsn (by have := hok.2.2.1; omega)
    obtain ⟨row, hrow⟩ : ∃ row, row = d.next[s] := ⟨_, rfl⟩
    rw [← hrow] at e1 e2 e3 hw1 hw4
    obtain ⟨r, hr⟩ : ∃ r, r = rowM d row := ⟨_, rfl⟩
    have hrl : r.length = (tabO (clL d)).length := by rw [hr, rowM_len]
    have hll := least_len d
    have hrnl := O.rnl
    have htl := tabO_len (clL d)
    have hcl := clL_len O.ofl
    have hrs : (rowsM d)[s]'(by unfold rowsM; rw [List.length_map]; exact hsn) = r := by simp only [rowsM, List.getElem_map]; rw [hr, hrow]
    have hsE := hs1
    try simp only [zzs] at hsE
    repeat (obtain ⟨hsx, hsE⟩ := hsE)
    repeat' first
     | (with_reducible first | refine Nx.go ?_ | refine Bk.go (fun _ => ?_) fun _ => ?_)
     | ((with_reducible first | refine NewB.mk2 fun nb hnb hnb1 hnb2 => ?_ | refine NewRow.mk2 fun nb nsp ncap hnb hncap hnb1 hnb2 => ?_); try simp only [zzn] at hnb2)
     | simp -dsimp -implicitDefEqProofs (disch := first | assumption | (simp only [zzm]; done) | omega | (try with_reducible refine Row.adr (by assumption) ?_); simp only [zzl, Nat.reduceAdd]; first | done | omega) only [go_sem, ↓reduceIte, seval, -List.reduceReplicate, hCn]
    refine Tri.loopU tok [0, 1, 2, 3, 4, 5, 6, 7, 8, 9, 10, 13, 33, 39] (by kernel_rfl) [1, 2, 5, 6, 7, 8, 9, 10] (fun q2 G' fr H' => ∃ (k br c2 : Nat) (spr : List Value), k + q2 = r.length ∧ k + spr.length = c2 ∧ G' = G1 ∧ H' = (br, .cells ((r.take k).map (Value.int .i64)) spr 3) :: (b7, .cells (cellsD (mergeD d) vn (.slice al d.label.length cl) (.slice ay d.names.length cs)) [] 27) :: (b4, .cells (u8L (nums (clL d))) [] 22) :: (b2, .cells zeroC [] 27) :: (b1, .cells C [] 27) :: (kn ++ H) ∧ fr = [(1, .pointer (some ⟨b1, 0, none⟩)), (2, .pointer (some ⟨b2, 0, none⟩)), (5, .int .i64 (tabO (clL d)).length), (6, .slice a3 (leastL (nums (clL d))).length c3), (7, .pointer (some ⟨b7, 0, none⟩)), (8, .int .i64 (s : Nat)), (9, .slice (some ⟨br, 0, none⟩) k c2), (10, .int .i64 (k : Nat))]) (r.length) ?_ ?_
    ·exact Upd.now ⟨0, nb, 0, [], by omega, rfl, rfl, rfl, rfl⟩
    ·rintro q2 G2' fr H' hle2' hs2' ⟨k, br, c2, spr, hkq, hcc, rfl, rfl, rfl⟩
     by_cases hkl : k < r.length
     ·obtain ⟨ps, hps, hpl⟩ : ∃ ps, ps = (r.take k).map (Value.int .i64) ∧ ps.length = k := ⟨_, rfl, by rw [List.length_map, List.length_take]; omega⟩
      have hce : (r.take (k + 1)).map (Value.int .i64) = ps ++ [Value.int .i64 r[k]] := by rw [List.take_succ_eq_append_getElem hkl, List.map_append, ← hps]; rfl
      rw [← hps] at hs2' ⊢
      have hsE := hs2'
      try simp only [zzs] at hsE
      repeat (obtain ⟨hsx, hsE⟩ := hsE)
      obtain ⟨x, hx1, hx2⟩ := least_bound O.ofl (d := d) (k := k) (by omega)
      have hxl : x < d.of.length := by rw [O.ofl]; exact hx2
      have had3 : Adr a3 := hr36.adr (by rw [List.length_map, hll, ← hrl]; omega)
      have hoc := of_bound hok (List.getElem_mem (l := d.of) (n := x) (by rw [O.ofl]; exact hx2))
      obtain ⟨y, hy⟩ := Int.eq_ofNat_of_zero_le hoc.1
      have hyr : y < row.length := by omega
      have hadb : Adr b := e2.adr (by rw [List.length_map]; omega)
      have hgetC : C[x]? = some (.int .u8 (y : Nat)) := by
       have h1 : (C.take 256)[x]? = some (.int .u8 d.of[x]) := by rw [O.of, List.getElem?_map, List.getElem?_eq_getElem (by rw [O.ofl]; exact hx2)]; rfl
       rw [List.getElem?_take, if_pos hx2, hy] at h1
       exact h1
      have hval : row[y] = r[k] := by
       simp only [hr, rowM, List.getElem_map]
       have h1 : atL d.of ((x : Nat) : Int) = (y : Nat) := by rw [atL_get (by simp only [Int.toNat_natCast]; rw [O.ofl]; exact hx2)]; simp only [Int.toNat_natCast]; exact hy
       rw [hx1, h1, atL_get (by simpa using hyr)]; simp only [Int.toNat_natCast]
      repeat' first
       | (with_reducible first | refine Nx.go ?_ | refine Bk.go (fun _ => ?_) fun _ => ?_)
       | ((with_reducible first | refine NewB.mk2 fun nb hnb hnb1 hnb2 => ?_ | refine NewRow.mk2 fun nb nsp ncap hnb hncap hnb1 hnb2 => ?_); try simp only [zzn] at hnb2)
       | simp -dsimp -implicitDefEqProofs (disch := first | assumption | (simp only [zzm]; done) | omega | (try with_reducible refine Row.adr (by assumption) ?_); simp only [zzl, Nat.reduceAdd]; first | done | omega) only [go_sem, ↓reduceIte, seval, -List.reduceReplicate, hr1, List.length_map, hCl, hCn, Row.obj O6.rn, e1, Row.obj hr36, Row.obj e2, List.getElem_map, hx1, hgetC, hval, hpl, Int.toNat_natCast]
       | with_reducible refine Tri.drawS tok mixed [0, 1, 2, 3, 4, 5, 6, 7, 8, 9, 10, 13, 33, 39] 13 [2, 5, 9, 12, 14] (.op 0 .plain (.op 1 .plain (.op 2 .held (.op 3 .plain (.op 4 .plain (.op 5 .held (.op 6 .plain (.op 7 .plain (.op 8 .plain (.op 9 .held (.op 10 .plain (.op 11 .plain (.op 12 .held (.op 13 .plain (.op 14 .held (.op 15 .keeps (.op 16 .keeps (.op 17 .plain .nil)))))))))))))))))) (by kernel_rfl) [(b1, .cells C [] 27)] (by intro fsum; first | exact Nat.le_refl _ | (simp only [zzq]; omega)) ?_
      all_goals try (exfalso; omega)
      rw [← hce]
      exact Upd.go (H' := _) (by intro fsum; first | exact Nat.le_refl _ | (simp only [zzq]; omega)) (Upd.now ⟨q2 - 1, by omega, k + 1, nb, ncap, nsp, by omega, by simp at hncap ⊢; omega, rfl, rfl, rfl⟩)
     ·obtain rfl : k = r.length := by omega
      have hpa : r.take r.length = r := List.take_length
      rw [hpa] at hs2' ⊢
      have hrl5 : (r.map (Value.int .i64)).length = r.length := by rw [List.length_map]
      rcases hX with ⟨hj0, rfl, rfl⟩ | ⟨bn, c1, rv, sp1, rfl, rfl, hrv, hc1, hrws⟩
      ·have hsE := hs2'
       try simp only [zzs] at hsE
       repeat (obtain ⟨hsx, hsE⟩ := hsE)
       repeat' first
        | (with_reducible first | refine Nx.go ?_ | refine Bk.go (fun _ => ?_) fun _ => ?_)
        | ((with_reducible first | refine NewB.mk2 fun nb hnb hnb1 hnb2 => ?_ | refine NewRow.mk2 fun nb nsp ncap hnb hncap hnb1 hnb2 => ?_); try simp only [zzn] at hnb2)
        | simp -dsimp -implicitDefEqProofs (disch := first | assumption | (simp only [zzm]; done) | omega | (try with_reducible refine Row.adr (by assumption) ?_); simp only [zzl, Nat.reduceAdd]; first | done | omega) only [go_sem, ↓reduceIte, seval, -List.reduceReplicate, hr1, hl2, hg2, bu5]
       refine Upd.go (H' := (br, .cells (r.map (Value.int .i64)) spr 3) :: (b7, .cells (cellsD (mergeD d) (.slice (some ⟨nb, 0, none⟩) 1 ncap) (.slice al d.label.length cl) (.slice ay d.names.length cs)) [] 27) :: (b4, .cells (u8L (nums (clL d))) [] 22) :: (b2, .cells zeroC [] 27) :: (b1, .cells C [] 27) :: ([(nb, .cells [.slice (some ⟨br, 0, none⟩) r.length c2] nsp 24)] ++ H)) (by intro fsum; first | exact Nat.le_refl _ | (simp only [zzq]; omega)) (Upd.shareRow (by assumption) fun G6 hle7 hs7 hr7 => ?_)
       refine ⟨q - 1, by omega, s + 1, _, _, by omega, hle6.trans hle7, .inr ⟨nb, ncap, _, nsp, by rw [hj0], rfl, by rw [hj0]; rfl, by omega, fun i h h2 h3 => ?_⟩, rfl, rfl⟩
       obtain rfl : i = 0 := by omega
       obtain rfl : s = 0 := hj0
       refine ⟨some ⟨br, 0, none⟩, c2, ?_, ?_, ?_⟩
       ·rw [hrs]; rfl
       ·rw [hrs]; exact hr7
       ·rw [hrs]; omega
      ·have hsE := hs2'
       try simp only [zzs] at hsE
       repeat (obtain ⟨hsx, hsE⟩ := hsE)
       repeat' first
        | (with_reducible first | refine Nx.go ?_ | refine Bk.go (fun _ => ?_) fun _ => ?_)
        | ((with_reducible first | refine NewB.mk2 fun nb hnb hnb1 hnb2 => ?_ | refine NewRow.mk2 fun nb nsp ncap hnb hncap hnb1 hnb2 => ?_); try simp only [zzn] at hnb2)
        | simp -dsimp -implicitDefEqProofs (disch := first | assumption | (simp only [zzm]; done) | omega | (try with_reducible refine Row.adr (by assumption) ?_); simp only [zzl, Nat.reduceAdd]; first | done | omega) only [go_sem, ↓reduceIte, seval, -List.reduceReplicate, hr1, hl2, hg2, bu5]
       refine Upd.go (H' := (br, .cells (r.map (Value.int .i64)) spr 3) :: (b7, .cells (cellsD (mergeD d) (.slice (some ⟨nb, 0, none⟩) (s + 1) ncap) (.slice al d.label.length cl) (.slice ay d.names.length cs)) [] 27) :: (b4, .cells (u8L (nums (clL d))) [] 22) :: (b2, .cells zeroC [] 27) :: (b1, .cells C [] 27) :: ([(nb, .cells (rv ++ [.slice (some ⟨br, 0, none⟩) r.length c2]) nsp 24)] ++ H)) (by intro fsum; first | exact Nat.le_refl _ | (simp only [zzq]; omega)) (Upd.shareRow (by assumption) fun G6 hle7 hs7 hr7 => ?_)
       refine ⟨q - 1, by omega, s + 1, _, _, by omega, hle6.trans hle7, .inr ⟨nb, ncap, _, nsp, rfl, rfl, by rw [List.length_append, hrv]; rfl, by omega, fun i h h2 h3 => ?_⟩, rfl, rfl⟩
       rcases Nat.lt_or_ge i s with hij | hij
       ·obtain ⟨b', c', f1, f2, f3⟩ := hrws i hij (by omega) h3
        exact ⟨b', c', by rw [List.getElem_append_left (by omega)]; exact f1, f2.mono hle7, f3⟩
       ·obtain rfl : i = s := by omega
        refine ⟨some ⟨br, 0, none⟩, c2, ?_, ?_, ?_⟩
        ·rw [hrs, List.getElem_append_right (by omega)]; simp [hrv]
        ·rw [hrs]; exact hr7
        ·rw [hrs]; omega
   ·obtain rfl : s = d.next.length := by omega
    have hnl : (rowsM d).length = d.next.length := by unfold rowsM; rw [List.length_map]
    have O6 := O3.mono hle6
    rcases hX with ⟨hj0, rfl, rfl⟩ | ⟨bn, c1, rv, sp1, rfl, rfl, hrv, hc1, hrws⟩
    ·have := hok.1
     have := hok.2.2.1
     omega
    ·have hsE := hs1
     try simp only [zzs] at hsE
     repeat (obtain ⟨hsx, hsE⟩ := hsE)
     repeat' first
      | (with_reducible first | refine Nx.go ?_ | refine Bk.go (fun _ => ?_) fun _ => ?_)
      | ((with_reducible first | refine NewB.mk2 fun nb hnb hnb1 hnb2 => ?_ | refine NewRow.mk2 fun nb nsp ncap hnb hncap hnb1 hnb2 => ?_); try simp only [zzn] at hnb2)
      | simp -dsimp -implicitDefEqProofs (disch := first | assumption | (simp only [zzm]; done) | omega | (try with_reducible refine Row.adr (by assumption) ?_); simp only [zzl, Nat.reduceAdd]; first | done | omega) only [go_sem, ↓reduceIte, seval, -List.reduceReplicate, List.toList_toArray, hCn, hl2, hputz, hone, htk2, zeroC_len]
     unfold UpdR
     refine Upd.go (H' := (bn, .cells rv sp1 24) :: H) (by intro fsum; first | exact Nat.le_refl _ | (simp only [zzq]; omega)) (Upd.shareRow (by assumption) fun G6 hle7 hs7 hr7 => ?_)
     exact fun _ hs => hR G6 _ (hle03.trans (hle6.trans hle7)) hs ⟨hol, hob, _, _, _, rfl, ⟨some ⟨bn, 0, none⟩, c1, rv, by show _ = Value.slice _ (rowsM d).length _; rw [hnl], hr7, by show _ = (rowsM d).length; omega, by show (rowsM d).length ≤ _; omega, fun i h h2 => by
       obtain ⟨b', c', f1, f2, f3⟩ := hrws i (by have : i < (rowsM d).length := h; omega) h2 h
       exact ⟨b', c', f1, f2.mono hle7, f3⟩⟩, (O6.mono hle7).label, (O6.mono hle7).names⟩
 ·have hb := boolOf_no hok
  rw [mergeR_bad hok] at hR
  refine FnT.body tok [0, 1, 2, 3, 4, 5, 6, 7, 8, 9, 10, 13, 33, 39] Tryz.func30 rfl (by kernel_rfl) (by kernel_rfl) (by show _ ≤ 66; simp) fun hsep => ?_
  rw [Tryz.results30]
  have hsE := hsep
  try simp only [zzs] at hsE
  repeat (obtain ⟨hsx, hsE⟩ := hsE)
  repeat' first
   | (with_reducible first | refine Nx.go ?_ | refine Bk.go (fun _ => ?_) fun _ => ?_)
   | ((with_reducible first | refine NewB.mk2 fun nb hnb hnb1 hnb2 => ?_ | refine NewRow.mk2 fun nb nsp ncap hnb hncap hnb1 hnb2 => ?_); try simp only [zzn] at hnb2)
   | simp -dsimp -implicitDefEqProofs (disch := first | assumption | (simp only [zzm]; done) | omega | (try with_reducible refine Row.adr (by assumption) ?_); simp only [zzl, Nat.reduceAdd]; first | done | omega) only [go_sem, ↓reduceIte, seval, -List.reduceReplicate, List.toList_toArray, hCl, hCa, hb, zeroC_len, zeroC_one, zeroC_take, zeroC_put]
   | with_reducible refine rright_t hsm O.is fun G0 hle0 hs0 => ?_
  rename_i b1 hb1 hb11 hb12
  revert nb
  intro b2 hb2 hb21 hb22 hs0
  have hsE := hs0
  try simp only [zzs] at hsE
  repeat (obtain ⟨hsx, hsE⟩ := hsE)
  repeat' first
   | (with_reducible first | refine Nx.go ?_ | refine Bk.go (fun _ => ?_) fun _ => ?_)
   | ((with_reducible first | refine NewB.mk2 fun nb hnb hnb1 hnb2 => ?_ | refine NewRow.mk2 fun nb nsp ncap hnb hncap hnb1 hnb2 => ?_); try simp only [zzn] at hnb2)
   | simp -dsimp -implicitDefEqProofs (disch := first | assumption | (simp only [zzm]; done) | omega | (try with_reducible refine Row.adr (by assumption) ?_); simp only [zzl, Nat.reduceAdd]; first | done | omega) only [go_sem, ↓reduceIte, seval, -List.reduceReplicate, List.toList_toArray, hCl, hCa, hb, zeroC_len, zeroC_one, zeroC_take, zeroC_put]
  unfold UpdR
  refine Upd.leave (H' := H) (by intro fsum; first | exact Nat.le_refl _ | (simp only [zzq]; omega)) ?_
  exact fun _ hs => hR G0 _ hle0 hs (zeroD_is _)
end Go.Proofs.YtefkpedhbijhkaaGreatDoor
namespace Go.Proofs.YtefkpedhbijhkaaGreatDoor
open Go Go.V Go.Proofs
theorem rof_t {d : DfaT} (hsm : SmallD d) {most : Int} (hm : -9223372036854775808 ≤ most ∧ most < 9223372036854775808) {G : PHeap} {H : Heap} {R : Value → PHeap → Heap → Prop} {v : Value} (hv : IsD G d v)
  (hR : ∀ G' v', PLe G G' → Sep G' (keys H) → IsD G' (brzR d most).1 v' → R (.tuple #[v', .int .i64 (brzR d most).2]) G' H) : FnT Tryz.prog 12 [v, .int .i64 most] G H R := by
 obtain ⟨C, an, al, ay, cn, cl, cs, rs, rfl, O⟩ := hv.opened
 have hCl := O.len
 have hCa := O.all
 refine FnT.sep ?_
 refine FnT.body tok [0, 1, 2, 4, 5, 6, 7, 8, 9, 11, 13, 19, 30] Tryz.func12 rfl (by kernel_rfl) (by kernel_rfl) (by show _ ≤ 49; simp) fun hsep => ?_
 rw [Tryz.results12]
 have hsE := hsep
 try simp only [zzs] at hsE
 repeat (obtain ⟨hsx, hsE⟩ := hsE)
 repeat' first
  | (with_reducible first | refine Nx.go ?_ | refine Bk.go (fun _ => ?_) fun _ => ?_)
  | ((with_reducible first | refine NewB.mk2 fun nb hnb hnb1 hnb2 => ?_ | refine NewRow.mk2 fun nb nsp ncap hnb hncap hnb1 hnb2 => ?_); try simp only [zzn] at hnb2)
  | simp -dsimp -implicitDefEqProofs (disch := first | assumption | (simp only [zzm]; done) | omega | (try with_reducible refine Row.adr (by assumption) ?_); simp only [zzl, Nat.reduceAdd]; first | done | omega) only [go_sem, ↓reduceIte, seval, -List.reduceReplicate, List.toList_toArray, hCl, hCa]
 rename_i b2 z1 z2 z3
 obtain ⟨b4, e40⟩ : ∃ x, x = nb := ⟨_, rfl⟩
 subst e40
 refine rwrong27_t hsm hm O.is fun G0 hle0 hs0 => ?_
 have O0 := O.mono hle0
 have hsE := hs0
 try simp only [zzs] at hsE
 repeat (obtain ⟨hsx, hsE⟩ := hsE)
 by_cases hw0 : wrongR d most = 0
 ·have hok : RightP d := Classical.byContradiction fun h => by rw [wrongR_bad h] at hw0; cases hw0
  have hmo : 1 ≤ most ∧ most ≤ 65536 := Classical.byContradiction fun h => by rw [wrongR_not hok h] at hw0; cases hw0
  have htk : RightP (trimD d) := keep_right hok (reachL_keep hok)
  have hts := trim_small hsm hok
  rw [hw0]
  obtain ⟨m, rfl⟩ := Int.eq_ofNat_of_zero_le (show 0 ≤ most by omega)
  repeat' first
   | (with_reducible first | refine Nx.go ?_ | refine Bk.go (fun _ => ?_) fun _ => ?_)
   | ((with_reducible first | refine NewB.mk2 fun nb hnb hnb1 hnb2 => ?_ | refine NewRow.mk2 fun nb nsp ncap hnb hncap hnb1 hnb2 => ?_); try simp only [zzn] at hnb2)
   | simp -dsimp -implicitDefEqProofs (disch := first | assumption | (simp only [zzm]; done) | omega | (try with_reducible refine Row.adr (by assumption) ?_); simp only [zzl, Nat.reduceAdd]; first | done | omega) only [go_sem, ↓reduceIte, seval, -List.reduceReplicate, List.toList_toArray, hCl, hCa]
  refine rtrim_t hsm hok O0.is fun G1 v1 hle1 hs1 hI1 => ?_
  have hof1 : (trimD d).of.length = 256 := hI1.1
  obtain ⟨C1, an1, al1, ay1, cn1, cl1, cs1, rs1, rfl, O1⟩ := hI1.opened
  have hC1l := O1.len
  have hsE := hs1
  try simp only [zzs] at hsE
  repeat (obtain ⟨hsx, hsE⟩ := hsE)
  repeat' first
   | (with_reducible first | refine Nx.go ?_ | refine Bk.go (fun _ => ?_) fun _ => ?_)
   | ((with_reducible first | refine NewB.mk2 fun nb hnb hnb1 hnb2 => ?_ | refine NewRow.mk2 fun nb nsp ncap hnb hncap hnb1 hnb2 => ?_); try simp only [zzn] at hnb2)
   | simp -dsimp -implicitDefEqProofs (disch := first | assumption | (simp only [zzm]; done) | omega | (try with_reducible refine Row.adr (by assumption) ?_); simp only [zzl, Nat.reduceAdd]; first | done | omega) only [go_sem, ↓reduceIte, seval, -List.reduceReplicate, List.toList_toArray, hCl, hCa, hC1l]
  refine rturned_t hts htk (by omega) (by omega) O1.is fun G2 v2 hle2 hs2 hI2 => ?_
  obtain ⟨C2, an2, al2, ay2, cn2, cl2, cs2, rs2, rfl, O2⟩ := hI2.opened
  have hC2l := O2.len
  have hone2 := wdf_one O2.is
  have hput2 := wdf_put hC2l
  have htk2 : List.take 260 C2 = C2 := List.take_of_length_le (by omega)
  have hsE := hs2
  try simp only [zzs] at hsE
  repeat (obtain ⟨hsx, hsE⟩ := hsE)
  cases ht : (turnR (trimD d) m).2 with
  | false =>
   have hrv : revR (trimD d) (m : Nat) = (zeroD, 7) := revR_big htk hmo (by rw [Int.toNat_natCast]; exact ht)
   rw [brzR_one hw0 (by rw [hrv]; decide), hrv] at hR
   repeat' first
    | (with_reducible first | refine Nx.go ?_ | refine Bk.go (fun _ => ?_) fun _ => ?_)
    | ((with_reducible first | refine NewB.mk2 fun nb hnb hnb1 hnb2 => ?_ | refine NewRow.mk2 fun nb nsp ncap hnb hncap hnb1 hnb2 => ?_); try simp only [zzn] at hnb2)
    | simp -dsimp -implicitDefEqProofs (disch := first | assumption | (simp only [zzm]; done) | omega | (try with_reducible refine Row.adr (by assumption) ?_); simp only [zzl, Nat.reduceAdd]; first | done | omega) only [go_sem, ↓reduceIte, seval, -List.reduceReplicate, List.toList_toArray, hCl, hCa, hC2l, hone2, hput2, htk2, zeroC_len, zeroC_one, zeroC_take, zeroC_put]
   unfold UpdR
   refine Upd.leave (H' := H) (by intro fsum; simp only [zzq]; omega) ?_
   exact fun _ hs => hR G2 _ (hle0.trans (hle1.trans hle2)) hs (zeroD_is _)
  | true =>
   have hrv : revR (trimD d) (m : Nat) = ((turnR (trimD d) m).1, 0) := by
    have := revR_ok htk hmo (by rw [Int.toNat_natCast]; exact ht)
    rw [Int.toNat_natCast] at this
    exact this
   obtain ⟨_, _, hk1, hsm1, hof2⟩ := turnR_fine htk hof1 hts (by omega) ht
   have ht2 := twice_fine htk ht
   obtain ⟨r1, hr1⟩ : ∃ r1, r1 = (turnR (trimD d) m).1 := ⟨_, rfl⟩
   rw [← hr1] at hrv hk1 hsm1 hof2 ht2 O2
   have hrw : revR r1 65536 = ((turnR r1 65536).1, 0) := revR_ok hk1 (by decide) ht2
   obtain ⟨_, _, hkx, hsx2, hofx⟩ := turnR_fine hk1 hof2 hsm1 (by decide) ht2
   have htu := fun (G : PHeap) (H : Heap) (R : Value → PHeap → Heap → Prop) (v : Value) (hv : IsD G r1 v) => rturned_t (G := G) (H := H) (R := R) (v := v) (most := 65536) hsm1 hk1 (by decide) (by decide) hv
   obtain ⟨p2, hp2⟩ : ∃ p2, p2 = turnR r1 65536 := ⟨_, rfl⟩
   rw [← hp2] at hrw hkx hsx2 hofx ht2
   simp only [← hp2] at htu
   obtain ⟨r2, k2⟩ := p2
   have hrw : revR r1 65536 = (r2, 0) := hrw
   have hkx : RightP r2 := hkx
   have hsx2 : SmallD r2 := hsx2
   have hofx : r2.of.length = 256 := hofx
   rw [brzR_ok hw0 (by rw [hrv]) (by rw [hrv, hrw]), hrv, hrw] at hR
   repeat' first
    | (with_reducible first | refine Nx.go ?_ | refine Bk.go (fun _ => ?_) fun _ => ?_)
    | ((with_reducible first | refine NewB.mk2 fun nb hnb hnb1 hnb2 => ?_ | refine NewRow.mk2 fun nb nsp ncap hnb hncap hnb1 hnb2 => ?_); try simp only [zzn] at hnb2)
    | simp -dsimp -implicitDefEqProofs (disch := first | assumption | (simp only [zzm]; done) | omega | (try with_reducible refine Row.adr (by assumption) ?_); simp only [zzl, Nat.reduceAdd]; first | done | omega) only [go_sem, ↓reduceIte, seval, -List.reduceReplicate, List.toList_toArray, hCl, hCa, hC2l, hone2, hput2, htk2, zeroC_len]
   refine htu _ _ _ _ O2.is fun G3 v3 hle3 hs3 hI3 => ?_
   have hI3 : IsD G3 r2 v3 := hI3
   obtain ⟨C3, an3, al3, ay3, cn3, cl3, cs3, rs3, rfl, O3⟩ := hI3.opened
   have hC3l := O3.len
   have hone3 := wdf_one O3.is
   have hput3 := wdf_put hC3l
   have htk3 : List.take 260 C3 = C3 := List.take_of_length_le (by omega)
   have hun := usedS_names hkx
   have k1r := withN_right hkx hun
   have k1s : SmallD (withN r2 (usedS r2)) := by have := normR_small hsx2; rw [norm_tells hkx] at this; exact this
   have k1o : (withN r2 (usedS r2)).of.length = 256 := hofx
   have k2r := merge_right k1r k1o
   have k2s := mergeD_small k1o k1s
   have hsE := hs3
   try simp only [zzs] at hsE
   repeat (obtain ⟨hsx, hsE⟩ := hsE)
   repeat' first
    | (with_reducible first | refine Nx.go ?_ | refine Bk.go (fun _ => ?_) fun _ => ?_)
    | ((with_reducible first | refine NewB.mk2 fun nb hnb hnb1 hnb2 => ?_ | refine NewRow.mk2 fun nb nsp ncap hnb hncap hnb1 hnb2 => ?_); try simp only [zzn] at hnb2)
    | simp -dsimp -implicitDefEqProofs (disch := first | assumption | (simp only [zzm]; done) | omega | (try with_reducible refine Row.adr (by assumption) ?_); simp only [zzl, Nat.reduceAdd]; first | done | omega) only [go_sem, ↓reduceIte, seval, -List.reduceReplicate, List.toList_toArray, hC3l, hone3, hput3, htk3, zeroC_len]
   refine rnorm22_t hsx2 O3.is fun G4 v4 hle4 hs4 hI4 => ?_
   rw [norm_tells hkx] at hI4 ⊢
   have hI4 : IsD G4 (withN r2 (usedS r2)) v4 := hI4
   obtain ⟨C4, an4, al4, ay4, cn4, cl4, cs4, rs4, rfl, O4⟩ := hI4.opened
   have hC4l := O4.len
   have hone4 := wdf_one O4.is
   have hput4 := wdf_put hC4l
   have htk4 : List.take 260 C4 = C4 := List.take_of_length_le (by omega)
   have hsE := hs4
   try simp only [zzs] at hsE
   repeat (obtain ⟨hsx, hsE⟩ := hsE)
   repeat' first
    | (with_reducible first | refine Nx.go ?_ | refine Bk.go (fun _ => ?_) fun _ => ?_)
    | ((with_reducible first | refine NewB.mk2 fun nb hnb hnb1 hnb2 => ?_ | refine NewRow.mk2 fun nb nsp ncap hnb hncap hnb1 hnb2 => ?_); try simp only [zzn] at hnb2)
    | simp -dsimp -implicitDefEqProofs (disch := first | assumption | (simp only [zzm]; done) | omega | (try with_reducible refine Row.adr (by assumption) ?_); simp only [zzl, Nat.reduceAdd]; first | done | omega) only [go_sem, ↓reduceIte, seval, -List.reduceReplicate, List.toList_toArray, hC4l, hone4, hput4, htk4, zeroC_len]
   refine rmerge_t k1s O4.is fun G5 v5 hle5 hs5 hI5 => ?_
   rw [mergeR_ok k1r] at hI5 ⊢
   have hI5 : IsD G5 (mergeD (withN r2 (usedS r2))) v5 := hI5
   obtain ⟨C5, an5, al5, ay5, cn5, cl5, cs5, rs5, rfl, O5⟩ := hI5.opened
   have hC5l := O5.len
   have hone5 := wdf_one O5.is
   have hput5 := wdf_put hC5l
   have htk5 : List.take 260 C5 = C5 := List.take_of_length_le (by omega)
   have hsE := hs5
   try simp only [zzs] at hsE
   repeat (obtain ⟨hsx, hsE⟩ := hsE)
   repeat' first
    | (with_reducible first | refine Nx.go ?_ | refine Bk.go (fun _ => ?_) fun _ => ?_)
    | ((with_reducible first | refine NewB.mk2 fun nb hnb hnb1 hnb2 => ?_ | refine NewRow.mk2 fun nb nsp ncap hnb hncap hnb1 hnb2 => ?_); try simp only [zzn] at hnb2)
    | simp -dsimp -implicitDefEqProofs (disch := first | assumption | (simp only [zzm]; done) | omega | (try with_reducible refine Row.adr (by assumption) ?_); simp only [zzl, Nat.reduceAdd]; first | done | omega) only [go_sem, ↓reduceIte, seval, -List.reduceReplicate, List.toList_toArray, hC5l, hone5, hput5, htk5, zeroC_len]
   refine rtrim_t k2s k2r O5.is fun G6 v6 hle6 hs6 hI6 => ?_
   obtain ⟨C6, an6, al6, ay6, cn6, cl6, cs6, rs6, rfl, O6⟩ := hI6.opened
   have hC6l := O6.len
   have hone6 := wdf_one O6.is
   have hput6 := wdf_put hC6l
   have htk6 : List.take 260 C6 = C6 := List.take_of_length_le (by omega)
   have hsE := hs6
   try simp only [zzs] at hsE
   repeat (obtain ⟨hsx, hsE⟩ := hsE)
   repeat' first
    | (with_reducible first | refine Nx.go ?_ | refine Bk.go (fun _ => ?_) fun _ => ?_)
    | ((with_reducible first | refine NewB.mk2 fun nb hnb hnb1 hnb2 => ?_ | refine NewRow.mk2 fun nb nsp ncap hnb hncap hnb1 hnb2 => ?_); try simp only [zzn] at hnb2)
    | simp -dsimp -implicitDefEqProofs (disch := first | assumption | (simp only [zzm]; done) | omega | (try with_reducible refine Row.adr (by assumption) ?_); simp only [zzl, Nat.reduceAdd]; first | done | omega) only [go_sem, ↓reduceIte, seval, -List.reduceReplicate, List.toList_toArray, hC6l, hone6, hput6, htk6, zeroC_len]
   unfold UpdR
   refine Upd.leave (H' := H) (by intro fsum; simp only [zzq]; omega) ?_
   exact fun _ hs => hR G6 _ (hle0.trans (hle1.trans (hle2.trans (hle3.trans (hle4.trans (hle5.trans hle6)))))) hs O6.is
 ·rw [brzR_wrong hw0] at hR
  repeat' first
   | (with_reducible first | refine Nx.go ?_ | refine Bk.go (fun _ => ?_) fun _ => ?_)
   | ((with_reducible first | refine NewB.mk2 fun nb hnb hnb1 hnb2 => ?_ | refine NewRow.mk2 fun nb nsp ncap hnb hncap hnb1 hnb2 => ?_); try simp only [zzn] at hnb2)
   | simp -dsimp -implicitDefEqProofs (disch := first | assumption | (simp only [zzm]; done) | omega | (try with_reducible refine Row.adr (by assumption) ?_); simp only [zzl, Nat.reduceAdd]; first | done | omega) only [go_sem, ↓reduceIte, seval, -List.reduceReplicate, List.toList_toArray, hCl, hCa, zeroC_len, zeroC_one, zeroC_take, zeroC_put]
  unfold UpdR
  refine Upd.leave (H' := H) (by intro fsum; simp only [zzq]; omega) ?_
  exact fun _ hs => hR G0 _ hle0 hs (zeroD_is _)
end Go.Proofs.YtefkpedhbijhkaaGreatDoor
namespace Go.Proofs.YtefkpedhbijhkaaGreatDoor
open Go Go.V Go.Proofs
theorem texts_t (xs ys : List (List UInt8)) (hlen : xs.length ≤ 9000000) {G : PHeap} {H : Heap} {R : Value → PHeap → Heap → Prop} {v w : Value} (hv : Sl G str v xs) (hw : Sl G str w ys) (hR : R (.bool (decide (xs = ys))) G H) : FnT Tryz.prog 25 [v, w] G H R := by
 obtain ⟨a, cap, rfl, hrow, hcap⟩ := hv
 obtain ⟨a', cap', rfl, hrow', hcap'⟩ := hw
 refine FnT.body tok [0, 1, 4, 5, 10, 14, 25] Tryz.func25 rfl (by kernel_rfl) (by kernel_rfl) (by show _ ≤ 26; simp) fun hsep => ?_
 rw [Tryz.results25]
 have hsE := hsep
 try simp only [zzs] at hsE
 repeat (obtain ⟨hsx, hsE⟩ := hsE)
 repeat' first
  | (with_reducible first | refine Nx.go ?_ | refine Bk.go (fun _ => ?_) fun _ => ?_)
  | (with_reducible refine NewB.mk2 fun nb hnb hnb1 hnb2 => ?_; try simp only [zzn] at hnb2)
  | simp -dsimp -implicitDefEqProofs (disch := first | assumption | (simp only [zzm]; done) | omega | (try with_reducible refine Row.adr (by assumption) ?_); simp only [zzl, Nat.reduceAdd]; first | done | omega) only [go_sem, ↓reduceIte, seval]
 ·rename_i hne
  have hxy : xs.length = ys.length := by omega
  refine Tri.loopU tok [0, 1, 4, 5, 10, 14, 25] (by kernel_rfl) [0, 1, 4, 5] (fun n G' l H' => ∃ i : Nat, i + n = xs.length ∧ (∀ j (h : j < xs.length), j < i → xs[j] = ys[j]) ∧ G' = G ∧ H' = H ∧ l = [(0, .slice a xs.length cap), (1, .slice a' ys.length cap'), (4, .bool false), (5, .int .i64 i)]) (xs.length) (Upd.now ?_) ?_
  ·exact ⟨0, by omega, fun j _ h => by omega, rfl, rfl, rfl⟩
  ·rintro n G' l H' hle hs ⟨i, hi, hno, rfl, rfl, rfl⟩
   by_cases hil : i < xs.length
   ·have hil' : i < ys.length := by omega
    repeat' first
     | (with_reducible first | refine Nx.go ?_ | refine Bk.go (fun _ => ?_) fun _ => ?_)
     | (with_reducible refine NewB.mk2 fun nb hnb hnb1 hnb2 => ?_; try simp only [zzn] at hnb2)
     | with_reducible refine Tri.drawH tok mixed [0, 1, 4, 5, 10, 14, 25] 6 [3, 7] (.op 0 .plain (.op 1 .plain (.op 2 .plain (.op 3 .held (.op 4 .plain (.op 5 .plain (.op 6 .plain (.op 7 .held (.op 8 .plain .nil))))))))) (by kernel_rfl) [0, 1] ?_
     | simp -dsimp -implicitDefEqProofs (disch := first | assumption | (simp only [zzm]; done) | omega | (try with_reducible refine Row.adr (by assumption) ?_); simp only [zzl, Nat.reduceAdd]; first | done | omega) only [go_sem, ↓reduceIte, seval, Row.obj hrow, Row.obj hrow', List.getElem_map]
    ·rename_i he
     exact Upd.now ⟨n - 1, by omega, i + 1, by omega, fun j h hj => by
      by_cases e : j = i
      ·subst e; exact he
      ·exact hno j h (by omega), rfl, rfl, rfl⟩
    ·rename_i he
     rw [decide_eq_false (fun e => he (by subst e; rfl))] at hR
     all_goals refine Upd.finL ?_ hR ?_
     any_goals (intro fsum; first | exact Nat.le_refl _ | (simp only [zzq]; omega))
     rfl
   ·obtain rfl : i = xs.length := by omega
    rw [decide_eq_true (List.ext_getElem hxy fun j h1 h2 => hno j h1 h1)] at hR
    repeat' first
     | (with_reducible first | refine Nx.go ?_ | refine Bk.go (fun _ => ?_) fun _ => ?_)
     | (with_reducible refine NewB.mk2 fun nb hnb hnb1 hnb2 => ?_; try simp only [zzn] at hnb2)
     | simp -dsimp -implicitDefEqProofs (disch := first | assumption | (simp only [zzm]; done) | omega | (try with_reducible refine Row.adr (by assumption) ?_); simp only [zzl, Nat.reduceAdd]; first | done | omega) only [go_sem, ↓reduceIte, seval]
    all_goals refine Upd.finL ?_ hR ?_
    any_goals (intro fsum; first | exact Nat.le_refl _ | (simp only [zzq]; omega))
    rfl
 ·rename_i hne
  rw [decide_eq_false (fun e => hne (by subst e; rfl))] at hR
  all_goals refine Upd.finL ?_ hR ?_
  any_goals (intro fsum; first | exact Nat.le_refl _ | (simp only [zzq]; omega))
  rfl
theorem DfaT.ext' {d e : DfaT} (h1 : d.of = e.of) (h2 : d.width = e.width) (h3 : d.next = e.next) (h4 : d.label = e.label) (h5 : d.names = e.names) : d = e := by
 cases d; cases e; simp only at h1 h2 h3 h4 h5; subst h1 h2 h3 h4 h5; rfl
theorem same20_t {d e : DfaT} (hsm : SmallD d) {G : PHeap} {H : Heap} {R : Value → PHeap → Heap → Prop} {v w : Value} (hv : IsD G d v) (hw : IsD G e w) (hR : R (.bool (boolOf (d = e))) G H) : FnT Tryz.prog 10 [v, w] G H R := by
  obtain ⟨C, an, al, ay, cn, cl, cs, rs, rfl, O⟩ := hv.opened
  obtain ⟨C', an', al', ay', cn', cl', cs', rs', rfl, O'⟩ := hw.opened
  obtain ⟨hm1, hm2, hm3, hm4, hm5⟩ := id hsm
  have hCl := O.len
  have hCw := O.w
  have hCn := O.n
  have hCx := O.l
  have hCs := O.s
  have hCo := O.of
  have hDl := O'.len
  have hDw := O'.w
  have hDn := O'.n
  have hDx := O'.l
  have hDs := O'.s
  have hDo := O'.of
  have heq : eqT T 9 22 (agg8 d.of) (agg8 e.of) = some (decide (d.of = e.of)) := eqT_ints (d := 7) (t := 22) (e := 5) (n := 256) (k := .u8) rfl rfl rfl O.ofl O'.ofl
  refine FnT.body tok [0, 1, 2, 3, 4, 5, 42, 47, 61] Tryz.func10 rfl (by kernel_rfl) (by kernel_rfl) (by show _ ≤ 62; simp) fun hsep => ?_
  rw [Tryz.results10]
  have hsE := hsep
  try simp only [zzs] at hsE
  repeat (obtain ⟨hsx, hsE⟩ := hsE)
  repeat' first
    | (with_reducible first | refine Nx.go ?_ | refine Bk.go (fun _ => ?_) fun _ => ?_)
    | (with_reducible refine NewB.mk2 fun nb hnb hnb1 hnb2 => ?_; try simp only [zzn] at hnb2)
    | simp -dsimp -implicitDefEqProofs (disch := first | assumption | (simp only [zzm]; done) | omega | (try with_reducible refine Row.adr (by assumption) ?_); simp only [zzl, Nat.reduceAdd]; first | done | omega) only [go_sem, ↓reduceIte, seval, -List.reduceReplicate, List.toList_toArray, hCl, hCw, hCn, hCx, hCs, hCo, hDl, hDw, hDn, hDx, hDs, hDo, heq]
    | with_reducible refine same17_t _ _ hm3 O.label O'.label ?_
    | with_reducible refine texts_t _ _ (by omega) O.names O'.names ?_
  · rename_i b2 hb20 hb21 hb22 q1 q2 q3 q4 q5
    revert nb
    intro b3 hb30 hb31 hb32
    have hnn : d.next.length = e.next.length := by omega
    have hrn := O.rn
    have hrn' := O'.rn
    have hrnl := O.rnl
    have hrnl' := O'.rnl
    refine Tri.loopU tok [0, 1, 2, 3, 4, 5, 42, 47, 61] (by kernel_rfl) [2, 3, 4, 5] (fun q G' fr H' => ∃ i : Nat, i + q = d.next.length ∧ (∀ j (h : j < d.next.length), j < i → d.next[j] = e.next[j]'(by omega)) ∧ G' = G ∧ H' = (b3, .cells C' [] 27) :: (b2, .cells C [] 27) :: H ∧ fr = [(2, .pointer (some ⟨b2, 0, none⟩)), (3, .pointer (some ⟨b3, 0, none⟩)), (4, .bool false), (5, .int .i64 (i : Nat))]) (d.next.length) ?_ ?_
    · exact Upd.now ⟨0, by omega, fun j _ h => by omega, rfl, rfl, rfl⟩
    · rintro q G3 fr H' hle hs ⟨i, hi, hno, rfl, rfl, rfl⟩
      have hsE := hs
      try simp only [zzs] at hsE
      repeat (obtain ⟨hsx, hsE⟩ := hsE)
      by_cases hil : i < d.next.length
      · have hil' : i < e.next.length := by omega
        have hiv : i < rs.length := by omega
        have hiv' : i < rs'.length := by omega
        obtain ⟨b, c, e1, e2, e3⟩ := O.rs i hil hiv
        obtain ⟨b', c', f1, f2, f3⟩ := O'.rs i hil' hiv'
        have hrm := hm2 _ (List.getElem_mem hil)
        have s1 : Sl G3 (Value.int .i64) (.slice b d.next[i].length c) d.next[i] := ⟨b, c, rfl, e2, e3⟩
        have s2 : Sl G3 (Value.int .i64) (.slice b' e.next[i].length c') e.next[i] := ⟨b', c', rfl, f2, f3⟩
        have had : Adr an := hrn.adr (by omega)
        have had2 : Adr an' := hrn'.adr (by omega)
        repeat' first
          | (with_reducible first | refine Nx.go ?_ | refine Bk.go (fun _ => ?_) fun _ => ?_)
          | (with_reducible refine NewB.mk2 fun nb hnb hnb1 hnb2 => ?_; try simp only [zzn] at hnb2)
          | with_reducible refine Tri.drawM tok mixed [0, 1, 2, 3, 4, 5, 42, 47, 61] 6 [1, 4, 6, 9] (.op 0 .plain (.op 1 .held (.op 2 .plain (.op 3 .plain (.op 4 .held (.op 5 .plain (.op 6 .held (.op 7 .plain (.op 8 .plain (.op 9 .held (.op 10 .keeps (.op 11 .plain .nil)))))))))))) (by kernel_rfl) _ (List.Sublist.refl _) ?_
          | simp -dsimp -implicitDefEqProofs (disch := first | assumption | (simp only [zzm]; done) | omega | (try with_reducible refine Row.adr (by assumption) ?_); simp only [zzl, Nat.reduceAdd]; first | done | omega) only [go_sem, ↓reduceIte, seval, -List.reduceReplicate, List.toList_toArray, hCl, hCw, hCn, hCx, hCs, hCo, hDl, hDw, hDn, hDx, hDs, hDo, heq, Row.obj hrn, Row.obj hrn', e1, f1]
          | with_reducible refine same17_t _ _ hrm s1 s2 ?_
        all_goals first
          | (rename_i he
             rw [boolOf_no (p := d = e) fun h => he (by subst h; rfl)] at hR
             exact Upd.finL (by intro fsum; first | exact Nat.le_refl _ | (simp only [zzq]; omega)) hR rfl)
          | (rename_i he
             exact Upd.now ⟨q - 1, by omega, i + 1, by omega, fun j h hj => by
               by_cases ee : j = i
               · subst ee; exact he
               · exact hno j h (by omega), rfl, rfl, rfl⟩)
          | trace_state
      · obtain rfl : i = d.next.length := by omega
        rw [boolOf_yes (p := d = e) (DfaT.ext' q1 q2 (List.ext_getElem hnn fun j h1 h2 => hno j h1 h1) q4 q5)] at hR
        repeat' first
          | (with_reducible first | refine Nx.go ?_ | refine Bk.go (fun _ => ?_) fun _ => ?_)
          | (with_reducible refine NewB.mk2 fun nb hnb hnb1 hnb2 => ?_; try simp only [zzn] at hnb2)
          | simp -dsimp -implicitDefEqProofs (disch := first | assumption | (simp only [zzm]; done) | omega | (try with_reducible refine Row.adr (by assumption) ?_); simp only [zzl, Nat.reduceAdd]; first | done | omega) only [go_sem, ↓reduceIte, seval, -List.reduceReplicate, List.toList_toArray, hCl, hCw, hCn, hCx, hCs, hCo, hDl, hDw, hDn, hDx, hDs, hDo, heq]
        all_goals refine Upd.finL ?_ hR ?_
        any_goals (intro fsum; first | exact Nat.le_refl _ | (simp only [zzq]; omega))
        rfl
  all_goals (
    rename_i hne
    rw [boolOf_no (p := d = e) fun h => hne (by rw [h])] at hR
    exact Upd.finL (by intro fsum; first | exact Nat.le_refl _ | (simp only [zzq]; omega)) hR rfl)
end Go.Proofs.YtefkpedhbijhkaaGreatDoor
namespace Go.Proofs.YtefkpedhbijhkaaGreatDoor
open Go Go.V Go.Proofs
theorem brzR_small {d : DfaT} (hof : d.of.length = 256) (hsm : SmallD d) (most : Int) : SmallD (brzR d most).1 := by
 by_cases hw0 : wrongR d most = 0
 ·have hok : RightP d := Classical.byContradiction fun h => by rw [wrongR_bad h] at hw0; cases hw0
  have htk : RightP (trimD d) := keep_right hok (reachL_keep hok)
  have hts := trim_small hsm hok
  have hof1 : (trimD d).of.length = 256 := hof
  by_cases h1 : (revR (trimD d) most).2 = 0
  ·obtain ⟨r1, hr1⟩ : ∃ r1, r1 = (revR (trimD d) most).1 := ⟨_, rfl⟩
   have hf1 := revR_fine htk hof1 hts h1
   rw [← hr1] at hf1
   obtain ⟨_, _, _, _, hk1, hsm1, hof2⟩ := hf1
   by_cases h2 : (revR r1 65536).2 = 0
   ·obtain ⟨_, _, _, _, hkx, hsx2, hofx⟩ := revR_fine hk1 hof2 hsm1 h2
    rw [brzR_ok hw0 h1 (by rw [← hr1]; exact h2), ← hr1]
    obtain ⟨r2, hr2⟩ : ∃ r2, r2 = (revR r1 65536).1 := ⟨_, rfl⟩
    rw [← hr2] at hkx hsx2 hofx ⊢
    have hun := usedS_names hkx
    have k1r := withN_right hkx hun
    have k1s : SmallD (withN r2 (usedS r2)) := by have := normR_small hsx2; rw [norm_tells hkx] at this; exact this
    have k1o : (withN r2 (usedS r2)).of.length = 256 := hofx
    exact trim_small (mergeD_small k1o k1s) (merge_right k1r k1o)
   ·rw [brzR_two hw0 h1 (by rw [← hr1]; exact h2)]; exact zeroD_small
  ·rw [brzR_one hw0 h1]; exact zeroD_small
 ·rw [brzR_wrong hw0]; exact zeroD_small
theorem brzoOfR_t {d : DfaT} (hsm : SmallD d) {most : Int} (hm : -9223372036854775808 ≤ most ∧ most < 9223372036854775808) {G : PHeap} {H : Heap} {R : Value → PHeap → Heap → Prop} (hg : HasTab G) {C : List Value} {an al ay : Option Addr} {cn cl cs : Nat} {rs : List Value} (O : OpenD G d C an al ay cn cl cs rs) {b2 : Nat}
  (hR : ∀ G', PLe G G' → R (.bool true) G' H) : Tri Tryz.prog Tryz.f4.ntmps (piece [1, 1] Tryz.f4) G [(1, .int .i64 most), (2, .pointer (some ⟨b2, 0, none⟩))] ((b2, .cells C [] 27) :: H) (endK T #[Go.ResultVar.tmp 4].toList (UpdR R) .mk) := by
 have hCl := O.len
 have hCa := O.all
 refine Tri.sepT fun hs0 => ?_
 have hsE := hs0
 try simp only [zzs] at hsE
 repeat (obtain ⟨hsx, hsE⟩ := hsE)
 refine Tri.piece (f := Tryz.f4) rfl ?_
 refine Tri.run tok [0, 1, 2, 4, 5, 6, 7, 8, 24] (by kernel_rfl) ?_
 repeat' first
  | (with_reducible first | refine Nx.go ?_ | refine Bk.go (fun _ => ?_) fun _ => ?_)
  | (with_reducible refine NewB.mk2 fun nb hnb hnb1 hnb2 => ?_; try simp only [zzn] at hnb2)
  | simp -dsimp -implicitDefEqProofs (disch := first | assumption | (simp only [zzm]; done) | omega | (try with_reducible refine Row.adr (by assumption) ?_); simp only [zzl, Nat.reduceAdd]; first | done | omega) only [go_sem, ↓reduceIte, seval, -List.reduceReplicate, List.toList_toArray, hCl, hCa]
 refine of_t2 hsm hm hg O.is fun G2 v2 hle2 hs2 hI2 => ?_
 have O2 := O.mono hle2
 have hrr := fun (R : Value → PHeap → Heap → Prop) (H : Heap) => rof_t hsm hm (R := R) (H := H) O2.is
 obtain ⟨X, hX⟩ : ∃ X, X = (brzR d most).1 := ⟨_, rfl⟩
 obtain ⟨e, he⟩ : ∃ e, e = (brzR d most).2 := ⟨_, rfl⟩
 rw [← hX] at hI2
 rw [← he]
 simp only [← hX, ← he] at hrr
 obtain ⟨C2, an2, al2, ay2, cn2, cl2, cs2, rs2, rfl, O3⟩ := hI2.opened
 have hC2l := O3.len
 have hone2 := wdf_one O3.is
 have hput2 := wdf_put hC2l
 have htk2 : List.take 260 C2 = C2 := List.take_of_length_le (by omega)
 have hsE := hs2
 try simp only [zzs] at hsE
 repeat (obtain ⟨hsx, hsE⟩ := hsE)
 repeat' first
  | (with_reducible first | refine Nx.go ?_ | refine Bk.go (fun _ => ?_) fun _ => ?_)
  | (with_reducible refine NewB.mk2 fun nb hnb hnb1 hnb2 => ?_; try simp only [zzn] at hnb2)
  | simp -dsimp -implicitDefEqProofs (disch := first | assumption | (simp only [zzm]; done) | omega | (try with_reducible refine Row.adr (by assumption) ?_); simp only [zzl, Nat.reduceAdd]; first | done | omega) only [go_sem, ↓reduceIte, seval, -List.reduceReplicate, List.toList_toArray, hCl, hCa, hC2l, hone2, hput2, zeroC_len]
 obtain ⟨b5, e50⟩ : ∃ x, x = nb := ⟨_, rfl⟩
 subst e50
 refine hrr _ _ fun G4 v4 hle4 hs4 hI4 => ?_
 obtain ⟨C4, an4, al4, ay4, cn4, cl4, cs4, rs4, rfl, O4⟩ := hI4.opened
 have hC4l := O4.len
 have hone4 := wdf_one O4.is
 have hput4 := wdf_put hC4l
 have htk4 : List.take 260 C4 = C4 := List.take_of_length_le (by omega)
 have hsE := hs4
 try simp only [zzs] at hsE
 repeat (obtain ⟨hsx, hsE⟩ := hsE)
 have hxx : boolOf True = true := boolOf_yes trivial
 have hg4 := hg.mono (hle2.trans hle4)
 have hXs : SmallD X := by rw [hX]; exact brzR_small O.ofl hsm most
 repeat' first
  | (with_reducible first | refine Nx.go ?_ | refine Bk.go (fun _ => ?_) fun _ => ?_)
  | (with_reducible refine NewB.mk2 fun nb hnb hnb1 hnb2 => ?_; try simp only [zzn] at hnb2)
  | simp -dsimp -implicitDefEqProofs (disch := first | assumption | (simp only [zzm]; done) | omega | (try with_reducible refine Row.adr (by assumption) ?_); simp only [zzl, Nat.reduceAdd]; first | done | omega) only [go_sem, ↓reduceIte, seval, -List.reduceReplicate, List.toList_toArray, hCl, hCa, hC2l, hone2, hput2, htk2, hC4l, hone4, hput4, htk4, zeroC_len, hxx]
  | with_reducible refine same20_t hXs (O3.is.mono hle4) O4.is ?_
  | ((with_reducible refine knows_t hg4 fun G7 hle7 hs7 => ?_); (have hsE := hs7; try simp only [zzs] at hsE; repeat (obtain ⟨hsx, hsE⟩ := hsE)))
 all_goals
  unfold UpdR
  refine Upd.leave (H' := H) (by intro fsum; first | exact Nat.le_refl _ | (simp only [zzq]; omega)) ?_
  exact hR G7 (hle2.trans (hle4.trans hle7))
theorem brzoOf_t {d : DfaT} (hsm : SmallD d) {most : Int} (hm : -9223372036854775808 ≤ most ∧ most < 9223372036854775808) {G : PHeap} {H : Heap} {R : Value → PHeap → Heap → Prop} {v : Value} (hg : HasTab G) (hv : IsD G d v)
  (hR : ∀ G', PLe G G' → R (.bool true) G' H) : FnT Tryz.prog 4 [v, .int .i64 most] G H R := by
 obtain ⟨C, an, al, ay, cn, cl, cs, rs, rfl, O⟩ := hv.opened
 have hCl := O.len
 have hCa := O.all
 have hCx := O.l
 by_cases hbig : RightP d ∧ (12 < d.label.length ∨ 60 < most ∧ most ≤ 65536)
 ·obtain ⟨hok, hbg⟩ := hbig
  have hb := boolOf_yes hok
  refine FnT.body tok [0, 1, 2, 4, 5, 6, 7, 8, 24] Tryz.func4 rfl (by kernel_rfl) (by kernel_rfl) (by show _ ≤ 49; simp) fun hsep => ?_
  rw [Tryz.results4]
  have hsE := hsep
  try simp only [zzs] at hsE
  repeat (obtain ⟨hsx, hsE⟩ := hsE)
  repeat' first
   | (with_reducible first | refine Nx.go ?_ | refine Bk.go (fun _ => ?_) fun _ => ?_)
   | (with_reducible refine NewB.mk2 fun nb hnb hnb1 hnb2 => ?_; try simp only [zzn] at hnb2)
   | simp -dsimp -implicitDefEqProofs (disch := first | assumption | (simp only [zzm]; done) | omega | (try with_reducible refine Row.adr (by assumption) ?_); simp only [zzl, Nat.reduceAdd]; first | done | omega) only [go_sem, ↓reduceIte, seval, -List.reduceReplicate, List.toList_toArray, hCl, hCa]
  refine rright_t hsm O.is fun G1 hle1 hs1 => ?_
  rw [hb]
  have hsE := hs1
  try simp only [zzs] at hsE
  repeat (obtain ⟨hsx, hsE⟩ := hsE)
  have hg1 := hg.mono hle1
  repeat' first
   | (with_reducible first | refine Nx.go ?_ | refine Bk.go (fun _ => ?_) fun _ => ?_)
   | (with_reducible refine NewB.mk2 fun nb hnb hnb1 hnb2 => ?_; try simp only [zzn] at hnb2)
   | simp -dsimp -implicitDefEqProofs (disch := first | assumption | (simp only [zzm]; done) | omega | (try with_reducible refine Row.adr (by assumption) ?_); simp only [zzl, Nat.reduceAdd]; first | done | omega) only [go_sem, ↓reduceIte, seval, -List.reduceReplicate, List.toList_toArray, hCl, hCa, hCx]
   | ((with_reducible refine knows_t hg1 fun G7 hle7 hs7 => ?_); (have hsE := hs7; try simp only [zzs] at hsE; repeat (obtain ⟨hsx, hsE⟩ := hsE)))
  all_goals first | (exfalso; omega) | skip
  all_goals
   unfold UpdR
   refine Upd.leave (H' := H) (by intro fsum; first | exact Nat.le_refl _ | (simp only [zzq]; omega)) ?_
   exact hR G7 (hle1.trans hle7)
 ·have hno : boolOf (RightP d) = true → ¬ (12 < d.label.length ∨ 60 < most ∧ most ≤ 65536) := fun h h2 => hbig (And.intro (Classical.byContradiction fun hn => by rw [boolOf_no hn] at h; cases h) h2)
  refine FnT.bodyS tok [0, 1, 2, 4, 5, 6, 7, 8, 24] (.seq .run (.seq .run .cut)) Tryz.func4 rfl (by kernel_rfl) (by kernel_rfl) (by show _ ≤ 49; simp) fun hsep => ?_
  rw [Tryz.results4]
  have hsE := hsep
  try simp only [zzs] at hsE
  repeat (obtain ⟨hsx, hsE⟩ := hsE)
  repeat' first
   | (with_reducible first | refine Nx.go ?_ | refine Bk.go (fun _ => ?_) fun _ => ?_)
   | (with_reducible refine NewB.mk2 fun nb hnb hnb1 hnb2 => ?_; try simp only [zzn] at hnb2)
   | simp -dsimp -implicitDefEqProofs (disch := first | assumption | (simp only [zzm]; done) | omega | (try with_reducible refine Row.adr (by assumption) ?_); simp only [zzl, Nat.reduceAdd]; first | done | omega) only [go_sem, ↓reduceIte, seval, -List.reduceReplicate, List.toList_toArray, hCl, hCa]
  refine rright_t hsm O.is fun G1 hle1 hs1 => ?_
  have hsE := hs1
  try simp only [zzs] at hsE
  repeat (obtain ⟨hsx, hsE⟩ := hsE)
  cases hb : boolOf (RightP d)
  all_goals have hno := hno
  all_goals rw [hb] at hno
  all_goals try have hno := hno rfl
  all_goals
   repeat' first
    | (with_reducible first | refine Nx.go ?_ | refine Bk.go (fun _ => ?_) fun _ => ?_)
    | (with_reducible refine NewB.mk2 fun nb hnb hnb1 hnb2 => ?_; try simp only [zzn] at hnb2)
    | simp -dsimp -implicitDefEqProofs (disch := first | assumption | (simp only [zzm]; done) | omega | (try with_reducible refine Row.adr (by assumption) ?_); simp only [zzl, Nat.reduceAdd]; first | done | omega) only [go_sem, ↓reduceIte, seval, -List.reduceReplicate, List.toList_toArray, hCl, hCa, hCx]
  all_goals first | (exfalso; omega) | skip
  all_goals
   refine Tri.live [1, 2] ?_
   refine Tri.isPiece [1, 1] Tryz.f4 (by kernel_rfl) ?_
   exact brzoOfR_t hsm hm (hg.mono hle1) (O.mono hle1) fun G' hle => hR G' (hle1.trans hle)
end Go.Proofs.YtefkpedhbijhkaaGreatDoor
namespace Go.Proofs.YtefkpedhbijhkaaGreatDoor.lawBrzoOf
open Go Go.V Go.Proofs Go.ChangeShapes Go.WideShapes Go.RowKit
theorem own : ownKnob Tryz.prog.godebug = none := by kernel_rfl
theorem gTab : Tryz.prog.globalNamed "math/bits.deBruijn64tab" = some 0 := by kernel_rfl
theorem gTabType : (Tryz.prog.globals[0]?).map (·.type) = some 170 := by kernel_rfl
theorem cellsT : Tryz.prog.cellsOf 170 = 64 := by kernel_rfl
theorem cellsE : Tryz.prog.cellsOf 5 = 1 := by kernel_rfl
def tabZ : List Int := [0, 1, 56, 2, 57, 49, 28, 3, 61, 58, 42, 50, 38, 29, 17, 4, 62, 47, 59, 36, 45, 43, 51, 22, 53, 39, 33, 30, 24, 18, 12, 5, 63, 55, 48, 27, 60, 41, 37, 16, 46, 35, 44, 21, 52, 32, 23, 11, 54, 26, 40, 15, 34, 20, 31, 10, 25, 14, 19, 9, 13, 8, 7, 6]
theorem table {W : World} (h : laidMetH Tryz.prog Rows.brzoOfUptoRow.laid W) : Lib.TabIs Tryz.prog W "math/bits.deBruijn64tab" .u8 tabZ :=
 Lib.tabIs_of_head (rest := []) gTab gTabType Tryz.underlying170 Tryz.underlying5 cellsE cellsT h
theorem tabRow {W : World} (h : laidMetH Tryz.prog Rows.brzoOfUptoRow.laid W) : RowAt (fun b => W.heap[b]?) 0 0 (tabZ.map (Value.int .u8)) :=
 CellsAt.rowAt (W := W) (fun j hj => by
  rw [List.length_map] at hj
  have := (table h).cell gTab j hj
  rw [Nat.zero_add, List.getElem_map, this]
  simp [List.getD, hj]) (by decide)
mutual
theorem bulk {H : Type} : ∀ d : DataW H, bulkV d ≤ Rows.uptoBulk d
 | .lit l => by cases l <;> simp [bulkV, Rows.uptoBulk]
 | .nil => by simp [bulkV, Rows.uptoBulk]
 | .ptr d => by have := bulk d; simp only [bulkV, Rows.uptoBulk]; omega
 | .slice elems spare => by have := bulks elems; have := bulks spare; simp only [bulkV, Rows.uptoBulk]; omega
 | .agg parts => by have := bulks parts; simp only [bulkV, Rows.uptoBulk]; omega
 | .iface _ d => by have := bulk d; simp only [bulkV, Rows.uptoBulk]; omega
 | .map entries => by simp [bulkV]
 | .held _ => by simp [bulkV, Rows.uptoBulk]
theorem bulks {H : Type} : ∀ l : List (DataW H), bulkVs l ≤ Rows.uptoBulkAll l
 | [] => by simp [bulkVs]
 | d :: l => by have := bulk d; have := bulks l; simp only [bulkVs, Rows.uptoBulkAll]; omega
end
set_option maxRecDepth 100000 in
theorem contract (H : Type) (enc : TypeId × Value → H) (W : World) (base : Nat) (args : Array Value) (ds gs : List (DataW H)) (before : List MemPlace)
  (hval : ∀ (j : Nat) t v, Tryz.f4.params[j]? = some t → args[j]? = some v → Value.okWide Tryz.prog W .any base t v)
  (hW : DataW.Whole enc Tryz.prog Tryz.f4.params.toList Rows.brzoOfSpec.vars false W args.toList ds gs before) (hk : Rows.uptoSmall H (ds ++ gs) = true) (hL : laidMetH Tryz.prog Rows.brzoOfUptoRow.laid W) :
  Calls Tryz.prog 4 args W fun e W' => ∃ v, e = .returned v ∧ Rows.brzoOfSpec.post enc Tryz.prog Tryz.f4 false true false false W args v W' := by
 refine door (tb := 4) seatok ⟨_, _, Tryz.func4, rfl, by kernel_rfl⟩ rfl (by kernel_rfl) Tryz.underlying4 (fun t ht => ?_) (fun ds hd => ?_) hW ?_
 ·have := List.all_eq_true.1 (show (Tryz.f4.params.toList.all fun t => decide (t < Tryz.prog.types.size)) = true by kernel_rfl) t ht
  simpa using this
 ·rw [Tryz.params4] at hd
  rcases ds with _ | ⟨e0, _ | ⟨e1, _ | ⟨e9, ds⟩⟩⟩ <;> first | rfl | (simp at hd)
 obtain ⟨p, q, hA, hV, rfl, hfz, hnd⟩ := hW
 rw [Tryz.params4] at hA hval
 obtain ⟨v0, vs0, d0, ds0, p0, q0, hargs0, rfl, rfl, h0, r_0⟩ := trodAll_cons hA
 obtain ⟨v1, vs1, d1, ds1, p1, q1, hargs1, rfl, rfl, h1, r_1⟩ := trodAll_cons r_0
 obtain ⟨rfl, rfl, rfl⟩ := trodAll_nil r_1
 obtain rfl : args = #[v0, v1] := by cases args; simp_all
 obtain ⟨rfl, rfl⟩ := trodVars_none hV
 have hb : bulkVs [d0, d1] ≤ 1048576 := Nat.le_trans (bulks _) (of_decide_eq_true hk)
 simp only [bulkVs] at hb
 have htab := tabRow hL
 obtain ⟨a0, s0, w0⟩ := rd_dfa (hval 0 27 v0 rfl rfl) h0
 obtain ⟨a1, rfl, w1⟩ := rd_int tok (t := 3) rfl (hval 1 3 v1 rfl rfl) h1
 exact brzoOf_t (w0 (by omega)) (And.intro w1.1 (Int.lt_of_le_of_lt w1.2 (by decide))) htab s0 fun _ _ => rfl
noncomputable def laidWorld (os : Os) : World :=
 { World.holding Tryz.prog os ⟨#[], #[], []⟩ with heap := (World.holding Tryz.prog os ⟨#[], #[], []⟩).heap.modify 0 fun
   | .cells _ t frozen => .cells #[.int .u8 0, .int .u8 1, .int .u8 56, .int .u8 2, .int .u8 57, .int .u8 49, .int .u8 28, .int .u8 3, .int .u8 61, .int .u8 58, .int .u8 42, .int .u8 50, .int .u8 38, .int .u8 29, .int .u8 17, .int .u8 4, .int .u8 62, .int .u8 47, .int .u8 59, .int .u8 36, .int .u8 45, .int .u8 43, .int .u8 51, .int .u8 22, .int .u8 53, .int .u8 39, .int .u8 33, .int .u8 30, .int .u8 24, .int .u8 18, .int .u8 12, .int .u8 5, .int .u8 63, .int .u8 55, .int .u8 48, .int .u8 27, .int .u8 60, .int .u8 41, .int .u8 37, .int .u8 16, .int .u8 46, .int .u8 35, .int .u8 44, .int .u8 21, .int .u8 52, .int .u8 32, .int .u8 23, .int .u8 11, .int .u8 54, .int .u8 26, .int .u8 40, .int .u8 15, .int .u8 34, .int .u8 20, .int .u8 31, .int .u8 10, .int .u8 25, .int .u8 14, .int .u8 19, .int .u8 9, .int .u8 13, .int .u8 8, .int .u8 7, .int .u8 6] t frozen
   | o => o }
theorem laid_met (os : Os) : laidMet Tryz.prog Rows.brzoOfUptoRow.laid ((laidWorld os).forCall (fun _ _ => 0) ⟨#[], #[.agg (List.replicate 256 (Value.int .u8 0) ++ [Value.int .i64 0, Value.slice none 0 0, Value.slice none 0 0, Value.slice none 0 0]).toArray, .int .i64 0], []⟩).memory :=
 laidMet_of_run' 8 (by kernel_rfl) (by kernel_rfl)
theorem reads (os : Os) {H : Type} (enc : TypeId × Value → H) : ∃ places, DataW.whole enc Tryz.prog ((laidWorld os).forCall (fun _ _ => 0) ⟨#[], #[.agg (List.replicate 256 (Value.int .u8 0) ++ [Value.int .i64 0, Value.slice none 0 0, Value.slice none 0 0, Value.slice none 0 0]).toArray, .int .i64 0], []⟩).memory Tryz.f4.params.toList Rows.brzoOfSpec.vars false (#[.agg (List.replicate 256 (Value.int .u8 0) ++ [Value.int .i64 0, Value.slice none 0 0, Value.slice none 0 0, Value.slice none 0 0]).toArray, Value.int .i64 0] : Array Value).toList 8 = some ([.agg [.agg (List.replicate 256 (.lit (.int .u8 0))), .lit (.int .i64 0), .nil, .nil, .nil], .lit (.int .i64 0)], [], places) :=
 ⟨[], by kernel_rfl⟩
set_option maxRecDepth 100000 in
theorem lifted (os : Os) (started : os.Started) (H : Type) (enc : TypeId × Value → H) (F : Stop.Interp) :
  ReturnsInHanded {} Tryz.checked os 4 .any ((Rows.OpenSpec.upto Rows.brzoOfSpec).preRow enc Tryz.prog Tryz.f4 Rows.brzoOfUptoRow.domain false Rows.brzoOfUptoRow.laid) (((Rows.OpenSpec.upto Rows.brzoOfSpec).at F).post enc Tryz.prog Tryz.f4 false true false false) := by
 obtain ⟨places, hx⟩ := reads os enc
 refine returnsInHanded_of_row (C := Tryz.checked) (s := Rows.OpenSpec.upto Rows.brzoOfSpec) own started (by kernel_rfl) Tryz.func4
  (witness_row_at (enc := enc) (C := Tryz.checked) false (laidWorld os) #[.agg (List.replicate 256 (Value.int .u8 0) ++ [Value.int .i64 0, Value.slice none 0 0, Value.slice none 0 0, Value.slice none 0 0]).toArray, .int .i64 0] rfl (by kernel_rfl) (by kernel_rfl) (by kernel_rfl)
   (OpenSpec.preRow_of_cond 8 hx (by kernel_rfl) (fun k hk => by cases hk; kernel_rfl) (by kernel_rfl) (laid_met os))) ?_
 intro W base args ds gs before hval hW _ hcond _ hL _ _
 exact contract H enc W base args ds gs before hval hW (hcond _ rfl) hL
theorem over : Rows.BrzoOfUptoSaid :=
 OpenClaim.holds_of_cond 4 Tryz.f4 rfl rfl rfl rfl rfl rfl rfl ⟨rfl, rfl, rfl, rfl, rfl⟩ rfl rfl rfl rfl rfl (by kernel_rfl) Tryz.func4 (by kernel_rfl)
  (of_decide_eq_true (by kernel_rfl)) (by unfold Func.isWrapper; first | (rw [if_pos (by decide +kernel)]; kernel_rfl) | (rw [if_neg (by decide +kernel)]; exact ⟨rfl, rfl⟩))
  (fun os started H enc _ F => by rw [OpenClaim.pre_eq_preRow]; exact lifted os started H enc F)
theorem plain (f : FuncId) (fn : Func) (hf : Tryz.pinned.checked.prog.funcNamed "doublet/doubletlaw27.BrzoOf" = some f) (hfn : Tryz.pinned.checked.prog.funcs[f]? = some fn) :
  false = Tryz.pinned.checked.prog.looks [] ∧ ∀ (j : Nat) t, fn.params[j]? = some t → Tryz.pinned.checked.prog.wantsStandIn t = false := by
 obtain rfl : f = 4 := Option.some.inj ((show Tryz.prog.funcNamed "doublet/doubletlaw27.BrzoOf" = some 4 by kernel_rfl).symm.trans hf) |>.symm
 obtain rfl : fn = Tryz.f4 := (Option.some.inj (Tryz.func4.symm.trans hfn)).symm
 refine ⟨by kernel_rfl, fun j t ht => ?_⟩
 rw [Tryz.params4] at ht
 have hm := Array.mem_of_getElem? ht
 simp only [List.mem_toArray, List.mem_cons, List.not_mem_nil, or_false] at hm
 rcases hm with rfl | rfl
 ·exact (show Tryz.prog.wantsStandIn 27 = false by kernel_rfl)
 ·exact (show Tryz.prog.wantsStandIn 3 = false by kernel_rfl)
theorem proved : Rows.BrzoOfUptoCardSaid :=
 Claim7.holds_tied_plain_at .later [] _ _ _ _ over (fun _ h => by cases h) (by kernel_rfl) (fun _ h => by cases h) brzoOfUpto_row_tie rfl ⟨rfl, rfl⟩ (by kernel_rfl) rfl plain (by kernel_rfl)
end Go.Proofs.YtefkpedhbijhkaaGreatDoor.lawBrzoOf
