/- Law 27, BrzoRev: any machine turned round, or that there are too many lists: the law answers true. -/
import Derived.Test.YtefkpedhbijhkaaGreatDoorJ9
import Derived.OpenShut
import Derived.Deep.DeepHandedRow
import Derived.Lib.LaidTab
import Derived.Test.YtefkpedhbijhkaaGreatDoorProg
import Derived.Test.YtefkpedhbijhkaaGreatDoorCards
import Derived.Test.YtefkpedhbijhkaaGreatDoorTie
set_option linter.unusedSimpArgs false
set_option linter.unusedVariables false
set_option linter.unusedSectionVars false
namespace Go.Proofs.YtefkpedhbijhkaaGreatDoor
open Go Go.V Go.Proofs
set_option maxHeartbeats 64000000 in
theorem rtl_t {d : DfaT} (hsm : SmallD d) (hok : RightP d) {most : Nat} (hm1 : 1 ≤ most) (hm2 : most ≤ 65536) {G : PHeap} {H : Heap} {R : Value → PHeap → Heap → Prop} {C : List Value} {an al ay : Option Addr} {cn cl cs : Nat} {rs : List Value} (O : OpenD G d C an al ay cn cl cs rs) {b2 b4 b7 : Nat} {vs vl : Value} (hvs : Sl G str vs d.names) {ka : Heap} {av : List Value} (hka : SliceO [] 24 1 vl (turnL d 0).length av ka) (hav : RwI G av (turnL d 0))
    (hR : ∀ G' v', PLe G G' → IsD G' (turnR d most).1 v' → R (.tuple #[v', .bool (turnR d most).2]) G' H) :
    Tri Tryz.prog Tryz.f23.ntmps (piece [1, 1, 1] Tryz.f23) G [(1, .int .i64 (most : Nat)), (2, .pointer (some ⟨b2, 0, none⟩)), (4, .pointer (some ⟨b4, 0, none⟩)), (5, .bool false), (6, vl), (7, .pointer (some ⟨b7, 0, none⟩))] ((b2, .cells C [] 27) :: (b4, .cells zeroC [] 27) :: (b7, .cells (cellsD d (.slice none 0 0) (.slice none 0 0) vs) [] 27) :: (ka ++ H)) (endK T #[Go.ResultVar.cell 4 27, Go.ResultVar.tmp 5].toList (UpdR R) .mk) := by
  obtain ⟨hs1, hs2, hs3, hs4, hs5⟩ := id hsm
  obtain ⟨hk1, hk2, hk3, hk4, hk5, hk6, hk7⟩ := id hok
  have hCl := O.len
  have hCw := O.w
  have hl2 : ∀ a b c : Value, (cellsD d a b c).length = 260 := fun a b c => cellsD_len O.ofl _ _ _
  have ht2 : ∀ a b c : Value, List.take 260 (cellsD d a b c) = cellsD d a b c := fun a b c => cellsD_all O.ofl _ _ _
  have hputz : ∀ a b c : Value, splice zeroC 0 (cellsD d a b c) = cellsD d a b c := fun a b c => wdf_over zeroC_len (hl2 _ _ _)
  have hone : ∀ (a a' a'' : Option Addr) (n c n' c' n'' c'' : Nat), (cellsD d (.slice a n c) (.slice a' n' c') (.slice a'' n'' c'')).all oneV = true := fun a a' a'' n c n' c' n'' c'' => cellsD_one rfl rfl rfl
  obtain ⟨ay2, cy2, rfl, hry2, hcy2⟩ := id hvs
  obtain ⟨W, hW⟩ : ∃ W : Nat, W = d.width.toNat := ⟨_, rfl⟩
  have hw1 : 1 ≤ d.width := by
    have h0 : 0 < d.of.length := by rw [O.ofl]; omega
    have := List.length_pos_of_mem ((mem_tabO d.of).2 (List.getElem_mem h0))
    omega
  have hww : d.width ≤ 256 := by
    have h2 := tabO_len d.of
    have h3 := O.ofl
    omega
  have hWd : d.width = (W : Int) := by omega
  refine Tri.sepT fun hs0 => ?_
  have hsE := hs0
  try simp only [zzs] at hsE
  repeat (obtain ⟨hsx, hsE⟩ := hsE)
  refine Tri.piece (f := Tryz.f23) rfl ?_
  refine Tri.runS tok [0, 1, 2, 4, 5, 6, 7, 8, 9, 10, 11, 12, 13, 27, 34, 42, 66, 80] (.seq .run .cut) (by kernel_rfl) ?_
  repeat' first
    | (with_reducible first | refine Br.yes ?_ | refine Br.no ?_ | refine Br.dec (fun _ => ?_) (fun _ => ?_) | refine Br.mk (fun _ => ?_) (fun _ => ?_) | refine appV.zero ?_ | refine appV.own ?_)
    | ((with_reducible first | refine NewB.mk (fun nb hnb => ?_) | refine NewRow.mk (fun nb nsp ncap hnb hncap => ?_)); have hnb1 := hnb.1.1; have hnb2 := hnb.1.2; try simp only [zzn] at hnb2)
    | simp (dsimp := false) (implicitDefEqProofs := false) (disch := first | assumption | (simp only [zzm]; done) | omega | (with_reducible refine Row.adr (by assumption) ?_; simp only [zzk]; omega) | (simp only [zzl, Nat.reduceAdd]; first | done | omega)) only [go_sem, ↓reduceIte, seval, -List.reduceReplicate]
  refine Tri.loopS tok [0, 1, 2, 4, 5, 6, 7, 8, 9, 10, 11, 12, 13, 27, 34, 42, 66, 80] (.seq .run (.seq (.block (.seq .run (.seq .run (.seq .run (.seq .cut .cut))))) .cut)) (by kernel_rfl) [1, 2, 4, 5, 6, 7, 8] (fun q G' fr H' => ∃ (i : Nat) (vl : Value) (av : List Value) (ka : Heap) (vn vb : Value) (rv : List Value) (kn kl : Heap), i + q = most ∧ PLe G G' ∧ SliceO [] 24 1 vl (turnL d i).length av ka ∧ RwI G' av (turnL d i) ∧ i ≤ (turnL d i).length ∧ (turnL d i).length ≤ most ∧ RwI G' rv (rowsI d i) ∧ SliceO [] 24 1 vn i rv kn ∧ SliceO [] 3 1 vb i ((labsI d i).map (Value.int .i64)) kl ∧ H' = (b2, .cells C [] 27) :: (b4, .cells zeroC [] 27) :: (b7, .cells (cellsD d vn vb (.slice ay2 d.names.length cy2)) [] 27) :: (ka ++ (kn ++ (kl ++ H))) ∧ fr = [(1, .int .i64 (most : Nat)), (2, .pointer (some ⟨b2, 0, none⟩)), (4, .pointer (some ⟨b4, 0, none⟩)), (5, .bool false), (6, vl), (7, .pointer (some ⟨b7, 0, none⟩)), (8, .int .i64 (i : Nat))]) (most) ?_ ?_
  · exact Upd.leave (H' := (b2, .cells C [] 27) :: (b4, .cells zeroC [] 27) :: (b7, .cells (cellsD d (.slice none 0 0) (.slice none 0 0) (.slice ay2 d.names.length cy2)) [] 27) :: (ka ++ ([] ++ ([] ++ H)))) (by intro fsum; simp only [zzq]; omega) ⟨0, vl, av, ka, _, _, [], [], [], by omega, PLe.refl _, hka, hav, Nat.zero_le _, hm1, RwI.nil _, .inl ⟨none, rfl, rfl, rfl, rfl⟩, .inl ⟨none, rfl, rfl, rfl, rfl⟩, rfl, rfl⟩
  · rintro q G1 fr H1 hle1 hsL ⟨i, vl, av, ka, vn, vb, rv, kn, kl, hiq, hle01, hka, hav, hil, hlm, hrv, hkn, hkl, rfl, rfl⟩
    have O1 := OpenD.mono hle01 O
    have hpos := turnL_pos d i
    rcases hka with ⟨_, _, h0, _, _⟩ | ⟨bl, cc, sp, rfl, rfl, hxa, hca⟩
    · omega
    have hsE := hsL
    try simp only [zzs] at hsE
    repeat (obtain ⟨hsx, hsE⟩ := hsE)
    by_cases hi : i < (turnL d i).length
    · repeat' first
        | (with_reducible first | refine Br.yes ?_ | refine Br.no ?_ | refine Br.dec (fun _ => ?_) (fun _ => ?_) | refine Br.mk (fun _ => ?_) (fun _ => ?_) | refine appV.zero ?_ | refine appV.own ?_)
        | ((with_reducible first | refine NewB.mk (fun nb hnb => ?_) | refine NewRow.mk (fun nb nsp ncap hnb hncap => ?_)); have hnb1 := hnb.1.1; have hnb2 := hnb.1.2; try simp only [zzn] at hnb2)
        | simp (dsimp := false) (implicitDefEqProofs := false) (disch := first | assumption | (simp only [zzm]; done) | omega | (with_reducible refine Row.adr (by assumption) ?_; simp only [zzk]; omega) | (simp only [zzl, Nat.reduceAdd]; first | done | omega)) only [go_sem, ↓reduceIte, seval, -List.reduceReplicate, List.replicate_zero, hCl, hCw, hWd]
      obtain ⟨f, hf⟩ : ∃ f, f = (turnL d i)[i] := ⟨_, rfl⟩
      have hfl : f.length = d.next.length := by rw [hf]; exact turnL_len hok i _ (List.getElem_mem hi)
      have hsucc := turnL_succ hi
      have hrsucc := rowsI_succ hi
      have hlsucc := labsI_succ hi
      rw [← hf] at hsucc hrsucc hlsucc
      obtain ⟨Ri, hRi⟩ : ∃ Ri, Ri = (behsA 0 d.next d.width.toNat f).map (findF (turnL d (i + 1))) := ⟨_, rfl⟩
      rw [← hRi] at hrsucc
      have hRl : Ri.length = W := by rw [hRi, List.length_map, behsA_len, hW]
      obtain ⟨br, e14⟩ : ∃ x, x = nb := ⟨_, rfl⟩
      subst e14
      refine Tri.loopS tok [0, 1, 2, 4, 5, 6, 7, 8, 9, 10, 11, 12, 13, 27, 34, 42, 66, 80] (.seq .run (.seq (.block .cut) .cut)) (by kernel_rfl) [1, 2, 4, 5, 6, 7, 8, 9, 10] (fun q2 G' fr H' => ∃ (k : Nat) (vl : Value) (av : List Value) (ka : Heap) (br cr : Nat) (spr : List Value), k + q2 = W ∧ PLe G1 G' ∧ SliceO [] 24 1 vl (midA 0 d.next d.width.toNat f (turnL d i) k).length av ka ∧ RwI G' av (midA 0 d.next d.width.toNat f (turnL d i) k) ∧ k + spr.length = cr ∧ H' = (b2, .cells C [] 27) :: (br, .cells ((Ri.take k).map (Value.int .i64)) spr 3) :: (b4, .cells zeroC [] 27) :: (b7, .cells (cellsD d vn vb (.slice ay2 d.names.length cy2)) [] 27) :: (ka ++ (kn ++ (kl ++ H))) ∧ fr = [(1, .int .i64 (most : Nat)), (2, .pointer (some ⟨b2, 0, none⟩)), (4, .pointer (some ⟨b4, 0, none⟩)), (5, .bool false), (6, vl), (7, .pointer (some ⟨b7, 0, none⟩)), (8, .int .i64 (i : Nat)), (9, .slice (some ⟨br, 0, none⟩) k cr), (10, .int .i64 (k : Nat))]) (W) ?_ ?_
      · refine Upd.leave (H' := (b2, .cells C [] 27) :: (br, .cells [] [] 3) :: (b4, .cells zeroC [] 27) :: (b7, .cells (cellsD d vn vb (.slice ay2 d.names.length cy2)) [] 27) :: ([(bl, .cells av sp 24)] ++ (kn ++ (kl ++ H)))) (by intro fsum; simp only [zzq]; omega) ?_
        exact ⟨0, _, av, [(bl, .cells av sp 24)], br, 0, [], by omega, PLe.refl _, by rw [midA_zero]; exact .inr ⟨bl, cc, sp, rfl, rfl, hxa, hca⟩, by rw [midA_zero]; exact hav, rfl, rfl, rfl⟩
      · rintro q2 G2 fr H2 hle2 hsI ⟨k, vl2, av2, ka2, br, cr, spr, hkq, hle12, hka2, hav2, hcr, rfl, rfl⟩
        have O2 := OpenD.mono (hle01.trans hle12) O
        have hpre : turnL d i <+: midA 0 d.next d.width.toNat f (turnL d i) k := midA_ls k
        have hiM : i < (midA 0 d.next d.width.toNat f (turnL d i) k).length := by have := hpre.length_le; omega
        have hget : (midA 0 d.next d.width.toNat f (turnL d i) k)[i] = f := by have h := (hpre.getElem hi).symm; rw [← hf] at h; exact h
        have hlenk := midA_lenle (z := (0 : Int)) (next := d.next) (f := f) (ls := turnL d i) k (show k ≤ d.width.toNat by omega)
        have hml := midA_len (z := (0 : Int)) (f := f) (turnL_len hok i) (show k ≤ d.width.toNat by omega)
        by_cases hkW : k < W
        · have hms : metA (midA 0 d.next d.width.toNat f (turnL d i) k) (behA 0 d.next f k) = midA 0 d.next d.width.toNat f (turnL d i) (k + 1) := by rw [midA_succ (by omega)]
          have hpr : midA 0 d.next d.width.toNat f (turnL d i) (k + 1) <+: turnL d (i + 1) := by
            rw [hsucc]
            exact midA_pre (by omega)
          have hval : findF (midA 0 d.next d.width.toNat f (turnL d i) (k + 1)) (behA 0 d.next f k) = Ri[k]'(by omega) := by
            obtain ⟨r, hr⟩ := hpr
            have hmem : behA 0 d.next f k ∈ midA 0 d.next d.width.toNat f (turnL d i) (k + 1) := by rw [← hms]; exact metA_mem _ _
            simp only [hRi, behsA, List.getElem_map, List.getElem_range]
            rw [← hr, findF_app hmem]
          have hsE := hsI
          try simp only [zzs] at hsE
          repeat (obtain ⟨hsx, hsE⟩ := hsE)
          repeat' first
            | (with_reducible first | refine Br.yes ?_ | refine Br.no ?_ | refine Br.dec (fun _ => ?_) (fun _ => ?_) | refine Br.mk (fun _ => ?_) (fun _ => ?_) | refine appV.zero ?_ | refine appV.own ?_)
            | ((with_reducible first | refine NewB.mk (fun nb hnb => ?_) | refine NewRow.mk (fun nb nsp ncap hnb hncap => ?_)); have hnb1 := hnb.1.1; have hnb2 := hnb.1.2; try simp only [zzn] at hnb2)
            | simp (dsimp := false) (implicitDefEqProofs := false) (disch := first | assumption | (simp only [zzm]; done) | omega | (with_reducible refine Row.adr (by assumption) ?_; simp only [zzk]; omega) | (simp only [zzl, Nat.reduceAdd]; first | done | omega)) only [go_sem, ↓reduceIte, seval, -List.reduceReplicate, hCl, hCw, hWd]
          refine Tri.live [1, 2, 4, 5, 6, 7, 8, 9, 10] ?_
          refine Tri.upd (Upd.go (H' := (b2, .cells C [] 27) :: (br, .cells ((Ri.take k).map (Value.int .i64)) spr 3) :: (ka2 ++ ((b4, .cells zeroC [] 27) :: (b7, .cells (cellsD d vn vb (.slice ay2 d.names.length cy2)) [] 27) :: (kn ++ (kl ++ H))))) (by intro fsum; simp only [zzq]; omega) (Upd.now ?_))
          refine Tri.isPiece [1, 1, 1, 0, 1, 0, 0, 1, 0, 0, 1, 0, 1, 0, 0, 1, 0, 0] Tryz.f23 (by kernel_rfl) ?_
          refine Tri.onlyN (rq_t hsm hok O2 hiM (by omega) hml (k := k) (by omega) (by rw [List.length_take]; omega) hcr (by omega) hka2 hav2) fun G3 l3 H3 hle3 hs3 hM => ?_
          rw [hget, hms, hval] at hM
          obtain ⟨vl3, av3, ka3, br3, cr3, spr3, hle23, hka3, hav3, hcr3, hfr, rfl⟩ := hM
          have htk : Ri.take k ++ [Ri[k]'(by omega)] = Ri.take (k + 1) := (List.take_succ_eq_append_getElem (by omega)).symm
          rw [htk] at hs3 ⊢
          simp only [go_sem]
          refine Tri.live [1, 2, 4, 5, 6, 7, 8, 9, 10] ?_
          rw [hfr]
          refine Tri.run tok [0, 1, 2, 4, 5, 6, 7, 8, 9, 10, 11, 12, 13, 27, 34, 42, 66, 80] (by kernel_rfl) ?_
          repeat' first
            | (with_reducible first | refine Br.yes ?_ | refine Br.no ?_ | refine Br.dec (fun _ => ?_) (fun _ => ?_) | refine Br.mk (fun _ => ?_) (fun _ => ?_) | refine appV.zero ?_ | refine appV.own ?_)
            | ((with_reducible first | refine NewB.mk (fun nb hnb => ?_) | refine NewRow.mk (fun nb nsp ncap hnb hncap => ?_)); have hnb1 := hnb.1.1; have hnb2 := hnb.1.2; try simp only [zzn] at hnb2)
            | simp (dsimp := false) (implicitDefEqProofs := false) (disch := first | assumption | (simp only [zzm]; done) | omega | (with_reducible refine Row.adr (by assumption) ?_; simp only [zzk]; omega) | (simp only [zzl, Nat.reduceAdd]; first | done | omega)) only [go_sem, ↓reduceIte, seval, -List.reduceReplicate]
          refine Upd.leave (H' := (b2, .cells C [] 27) :: (br3, .cells ((Ri.take (k + 1)).map (Value.int .i64)) spr3 3) :: (b4, .cells zeroC [] 27) :: (b7, .cells (cellsD d vn vb (.slice ay2 d.names.length cy2)) [] 27) :: (ka3 ++ (kn ++ (kl ++ H)))) (by intro fsum; simp only [zzq]; omega) ?_
          exact ⟨q2 - 1, by omega, k + 1, _, av3, ka3, br3, cr3, spr3, by omega, hle12.trans hle23, hka3, hav3, hcr3, rfl, rfl⟩
        · obtain rfl : k = W := by omega
          have hmid : midA 0 d.next d.width.toNat f (turnL d i) k = turnL d (i + 1) := by rw [hsucc, hW]
          have hfa : Ri.take k = Ri := by rw [← hRl]; exact List.take_length
          rw [hmid] at hka2 hav2 hlenk
          rw [hfa] at hsI ⊢
          have hpre1 := turnL_pre d (show i ≤ i + 1 by omega)
          have hlen1 := hpre1.length_le
          have hget1 : (turnL d (i + 1))[i]'(by omega) = f := by have h := (hpre1.getElem hi).symm; rw [← hf] at h; exact h
          rcases hka2 with ⟨_, _, h0, _, _⟩ | ⟨bl3, cc3, sp3, rfl, rfl, hxc3, hcc3⟩
          · omega
          have hsE := hsI
          try simp only [zzs] at hsE
          repeat (obtain ⟨hsx, hsE⟩ := hsE)
          by_cases hbig : (turnL d (i + 1)).length ≤ most
          · repeat' first
              | (with_reducible first | refine Br.yes ?_ | refine Br.no ?_ | refine Br.dec (fun _ => ?_) (fun _ => ?_) | refine Br.mk (fun _ => ?_) (fun _ => ?_) | refine appV.zero ?_ | refine appV.own ?_)
              | ((with_reducible first | refine NewB.mk (fun nb hnb => ?_) | refine NewRow.mk (fun nb nsp ncap hnb hncap => ?_)); have hnb1 := hnb.1.1; have hnb2 := hnb.1.2; try simp only [zzn] at hnb2)
              | simp (dsimp := false) (implicitDefEqProofs := false) (disch := first | assumption | (simp only [zzm]; done) | omega | (with_reducible refine Row.adr (by assumption) ?_; simp only [zzk]; omega) | (simp only [zzl, Nat.reduceAdd]; first | done | omega)) only [go_sem, ↓reduceIte, seval, -List.reduceReplicate, hCl, hCw, hWd]
            -- the row is written no more
            refine Tri.upd (Upd.go (H' := (br, .cells (Ri.map (Value.int .i64)) spr 3) :: (b7, .cells (cellsD d vn vb (.slice ay2 d.names.length cy2)) [] 27) :: (kn ++ ((bl3, .cells av2 sp3 24) :: (kl ++ ((b2, .cells C [] 27) :: (b4, .cells zeroC [] 27) :: H))))) (by intro fsum; simp only [zzq]; omega) (Upd.now ?_))
            refine Tri.sepT fun hs3 => ?_
            refine Tri.upd (Upd.shareRow hs3.1.1 fun G3 hle3 hs4 hr3 => ?_)
            have hrv3 := (hrv.mono (hle12.trans hle3)).snoc (b := some ⟨br, 0, none⟩) (c := cr) hr3 (by omega)
            rw [hRl, ← hrsucc] at hrv3
            refine Tri.live [1, 2, 4, 5, 6, 7, 8, 9] ?_
            refine Tri.isPiece [1, 1, 1, 0, 1, 0, 0, 1, 0, 0, 1, 1, 1, 0] Tryz.f23 (by kernel_rfl) ?_
            refine Tri.onlyN (rq22_t O.ofl (by omega) hrv.one hkn) fun G4 l4 H4 hle4 hs5 hM => ?_
            obtain ⟨vn', kn', rfl, hkn', hfr, rfl⟩ := hM
            simp only [go_sem]
            refine Tri.live [1, 2, 4, 5, 6, 7, 8] ?_
            rw [hfr]
            refine Tri.upd (Upd.go (H' := (b7, .cells (cellsD d vn' vb (.slice ay2 d.names.length cy2)) [] 27) :: (bl3, .cells av2 sp3 24) :: (kl ++ (kn' ++ ((b2, .cells C [] 27) :: (b4, .cells zeroC [] 27) :: H)))) (by intro fsum; simp only [zzq]; omega) (Upd.now ?_))
            refine Tri.isPiece [1, 1, 1, 0, 1, 0, 0, 1, 0, 0, 1, 1, 1, 1] Tryz.f23 (by kernel_rfl) ?_
            have hll : (labsI d i).length = i := by unfold labsI; rw [List.length_map, List.length_take]; omega
            refine Tri.onlyN (rq23_t O.ofl (by omega) hll (by omega) (by omega) (by rw [hget1]; omega) (hav2.mono hle3) hkl) fun G5 l5 H5 hle5 hs6 hM => ?_
            obtain ⟨vl', kl', rfl, hkl', hfr2, rfl⟩ := hM
            rw [hget1, ← hlsucc] at hkl'
            simp only [go_sem]
            refine Tri.live [1, 2, 4, 5, 6, 7, 8] ?_
            rw [hfr2]
            refine Tri.run tok [0, 1, 2, 4, 5, 6, 7, 8, 9, 10, 11, 12, 13, 27, 34, 42, 66, 80] (by kernel_rfl) ?_
            repeat' first
              | (with_reducible first | refine Br.yes ?_ | refine Br.no ?_ | refine Br.dec (fun _ => ?_) (fun _ => ?_) | refine Br.mk (fun _ => ?_) (fun _ => ?_) | refine appV.zero ?_ | refine appV.own ?_)
              | ((with_reducible first | refine NewB.mk (fun nb hnb => ?_) | refine NewRow.mk (fun nb nsp ncap hnb hncap => ?_)); have hnb1 := hnb.1.1; have hnb2 := hnb.1.2; try simp only [zzn] at hnb2)
              | simp (dsimp := false) (implicitDefEqProofs := false) (disch := first | assumption | (simp only [zzm]; done) | omega | (with_reducible refine Row.adr (by assumption) ?_; simp only [zzk]; omega) | (simp only [zzl, Nat.reduceAdd]; first | done | omega)) only [go_sem, ↓reduceIte, seval, -List.reduceReplicate]
            refine Upd.leave (H' := (b2, .cells C [] 27) :: (b4, .cells zeroC [] 27) :: (b7, .cells (cellsD d vn' vl' (.slice ay2 d.names.length cy2)) [] 27) :: ([(bl3, .cells av2 sp3 24)] ++ (kn' ++ (kl' ++ H)))) (by intro fsum; simp only [zzq]; omega) ?_
            exact ⟨q - 1, by omega, i + 1, _, av2, [(bl3, .cells av2 sp3 24)], vn', vl', _, kn', kl', by omega, hle01.trans (hle12.trans hle3), .inr ⟨bl3, cc3, sp3, rfl, rfl, hxc3, hcc3⟩, hav2.mono hle3, by omega, hbig, hrv3, hkn', hkl', rfl, rfl⟩
          · have hno : ¬ (turnL d most).length ≤ most := by
              have h2 := (turnL_pre d (show i + 1 ≤ most by omega)).length_le
              omega
            have htr : turnR d most = (zeroD, false) := by unfold turnR; rw [if_neg hno]
            rw [htr] at hR
            repeat' first
              | (with_reducible first | refine Br.yes ?_ | refine Br.no ?_ | refine Br.dec (fun _ => ?_) (fun _ => ?_) | refine Br.mk (fun _ => ?_) (fun _ => ?_) | refine appV.zero ?_ | refine appV.own ?_)
              | ((with_reducible first | refine NewB.mk (fun nb hnb => ?_) | refine NewRow.mk (fun nb nsp ncap hnb hncap => ?_)); have hnb1 := hnb.1.1; have hnb2 := hnb.1.2; try simp only [zzn] at hnb2)
              | simp (dsimp := false) (implicitDefEqProofs := false) (disch := first | assumption | (simp only [zzm]; done) | omega | (with_reducible refine Row.adr (by assumption) ?_; simp only [zzk]; omega) | (simp only [zzl, Nat.reduceAdd]; first | done | omega)) only [go_sem, ↓reduceIte, seval, -List.reduceReplicate, hCl, hCw, hWd, zeroC_len, zeroC_one, zeroC_take, zeroC_put, List.toList_toArray]
            unfold UpdR
            refine Upd.leave (H' := H) (by intro fsum; simp only [zzq]; omega) ?_
            exact hR G2 _ (hle01.trans hle12) (zeroD_is _)
    · have hie : (turnL d i).length = i := by omega
      have hil' : i ≤ most := by omega
      obtain ⟨e1, e2⟩ := turnL_end hie hil'
      have htr : turnR d most = (⟨d.of, d.width, rowsI d i, labsI d i, d.names⟩, true) := by unfold turnR; rw [e1, if_pos (by omega), e2]
      rw [htr] at hR
      have hrl : (rowsI d i).length = i := by unfold rowsI; rw [List.length_map, List.length_take]; omega
      have hll : (labsI d i).length = i := by unfold labsI; rw [List.length_map, List.length_take]; omega
      rcases hkn with ⟨_, _, h0, _, _⟩ | ⟨bn, cn2, spn, rfl, rfl, hx1, hxc⟩
      · omega
      rcases hkl with ⟨_, _, h0, _, _⟩ | ⟨bk, ck, spk, rfl, rfl, hy, hyc⟩
      · omega
      rw [Nat.mul_one] at hxc hx1 hyc
      rw [List.length_map] at hyc
      repeat' first
        | (with_reducible first | refine Br.yes ?_ | refine Br.no ?_ | refine Br.dec (fun _ => ?_) (fun _ => ?_) | refine Br.mk (fun _ => ?_) (fun _ => ?_) | refine appV.zero ?_ | refine appV.own ?_)
        | ((with_reducible first | refine NewB.mk (fun nb hnb => ?_) | refine NewRow.mk (fun nb nsp ncap hnb hncap => ?_)); have hnb1 := hnb.1.1; have hnb2 := hnb.1.2; try simp only [zzn] at hnb2)
        | simp (dsimp := false) (implicitDefEqProofs := false) (disch := first | assumption | (simp only [zzm]; done) | omega | (with_reducible refine Row.adr (by assumption) ?_; simp only [zzk]; omega) | (simp only [zzl, Nat.reduceAdd]; first | done | omega)) only [go_sem, ↓reduceIte, seval, -List.reduceReplicate, List.toList_toArray, hCl]
      refine Tri.run tok [0, 1, 2, 4, 5, 6, 7, 8, 9, 10, 11, 12, 13, 27, 34, 42, 66, 80] (by kernel_rfl) ?_
      repeat' first
        | (with_reducible first | refine Br.yes ?_ | refine Br.no ?_ | refine Br.dec (fun _ => ?_) (fun _ => ?_) | refine Br.mk (fun _ => ?_) (fun _ => ?_) | refine appV.zero ?_ | refine appV.own ?_)
        | ((with_reducible first | refine NewB.mk (fun nb hnb => ?_) | refine NewRow.mk (fun nb nsp ncap hnb hncap => ?_)); have hnb1 := hnb.1.1; have hnb2 := hnb.1.2; try simp only [zzn] at hnb2)
        | simp (dsimp := false) (implicitDefEqProofs := false) (disch := first | assumption | (simp only [zzm]; done) | omega | (with_reducible refine Row.adr (by assumption) ?_; simp only [zzk]; omega) | (simp only [zzl, Nat.reduceAdd]; first | done | omega)) only [go_sem, ↓reduceIte, seval, -List.reduceReplicate, List.toList_toArray, hCl, hl2, ht2, hputz, hone, zeroC_len]
      unfold UpdR
      refine Upd.go (H' := (bn, .cells rv spn 24) :: (bk, .cells ((labsI d i).map (Value.int .i64)) spk 3) :: H) (by intro fsum; simp only [zzq]; omega) ?_
      refine Upd.trans (Upd.shareRow (hsL.none (by simp [keys])) fun G5 hle5 hs9 hr5 => ?_)
      refine Upd.shareRow hs9.1.1 fun G6 hle6 hs10 hr6 => ?_
      have k6 := hle5.trans hle6
      have hrv6 := hrv.mono k6
      refine hR G6 _ (hle01.trans k6) ⟨O.ofl, O.ofb, _, _, _, rfl, ⟨some ⟨bn, 0, none⟩, cn2, rv, ?_, hr5.mono hle6, hrv6.1, ?_, hrv6.2⟩, ⟨some ⟨bk, 0, none⟩, ck, ?_, hr6, ?_⟩, ⟨ay2, cy2, rfl, hry2.mono (hle01.trans k6), hcy2⟩⟩
      · show _ = Value.slice _ (rowsI d i).length _
        rw [hrl]
      · show (rowsI d i).length ≤ _
        omega
      · show _ = Value.slice _ (labsI d i).length _
        rw [hll]
      · show (labsI d i).length ≤ _
        omega
set_option maxHeartbeats 32000000 in
theorem rturned_t {d : DfaT} (hsm : SmallD d) (hok : RightP d) {most : Nat} (hm1 : 1 ≤ most) (hm2 : most ≤ 65536) {G : PHeap} {H : Heap} {R : Value → PHeap → Heap → Prop} {v : Value} (hv : IsD G d v)
    (hR : ∀ G' v', PLe G G' → Sep G' (keys H) → IsD G' (turnR d most).1 v' → R (.tuple #[v', .bool (turnR d most).2]) G' H) : FnT Tryz.prog 23 [v, .int .i64 (most : Nat)] G H R := by
  obtain ⟨C, an, al, ay, cn, cl, cs, rs, rfl, O⟩ := hv.opened
  obtain ⟨hs1, hs2, hs3, hs4, hs5⟩ := id hsm
  have hCl := O.len
  have hCa := O.all
  have hCw := O.w
  have hCx := O.l
  have hCs := O.s
  have hCo := O.of
  have hofl : (u8L d.of).length = 256 := by rw [List.length_map, O.ofl]
  have hb1 := build_of O.ofl
  have hb2 := build_w O.ofl
  have hl1 : (u8L d.of ++ [Value.int .i64 0, Value.slice none 0 0, Value.slice none 0 0, Value.slice none 0 0]).length = 260 := by rw [List.length_append, hofl]; rfl
  have hl2 : ∀ v : Value, (cellsD d (.slice none 0 0) (.slice none 0 0) v).length = 260 := fun v => cellsD_len O.ofl _ _ _
  have hb3 := build_s O.ofl (.slice none 0 0) (.slice none 0 0) (.slice none 0 0)
  have hputz : ∀ v : Value, splice zeroC 0 (cellsD d (.slice none 0 0) (.slice none 0 0) v) = cellsD d (.slice none 0 0) (.slice none 0 0) v := fun v => by
    unfold splice
    rw [List.take_zero, List.nil_append, List.drop_of_length_le (by rw [zeroC_len, hl2]; omega), List.append_nil]
  have hone := cellsD_one (d := d) (vn := .slice none 0 0) (vl := .slice none 0 0) (vs := .slice ay d.names.length cs) rfl rfl rfl
  have hz : List.replicate 256 (Value.int .u8 0) ++ [Value.int .i64 0, Value.slice none 0 0, Value.slice none 0 0, Value.slice none 0 0] = zeroC := rfl
  have hr1 : ∀ v : Value, List.replicate 1 v = [v] := fun _ => rfl
  refine FnT.sep ?_
  refine FnT.bodyS tok [0, 1, 2, 4, 5, 6, 7, 8, 9, 10, 11, 12, 13, 27, 34, 42, 66, 80] (.seq .run (.seq .run (.seq .run .cut))) Tryz.func23 rfl (by kernel_rfl) (by kernel_rfl) (by show _ ≤ 100; simp) fun hsep => ?_
  rw [Tryz.results23]
  have hsE := hsep
  try simp only [zzs] at hsE
  repeat (obtain ⟨hsx, hsE⟩ := hsE)
  repeat' first
    | (with_reducible first | refine Br.yes ?_ | refine Br.no ?_ | refine Br.dec (fun _ => ?_) (fun _ => ?_) | refine Br.mk (fun _ => ?_) (fun _ => ?_) | refine appV.zero ?_ | refine appV.own ?_)
    | ((with_reducible first | refine NewB.mk (fun nb hnb => ?_) | refine NewRow.mk (fun nb nsp ncap hnb hncap => ?_)); have hnb1 := hnb.1.1; have hnb2 := hnb.1.2; try simp only [zzn] at hnb2)
    | simp (dsimp := false) (implicitDefEqProofs := false) (disch := first | assumption | (simp only [zzm]; done) | omega | (with_reducible refine Row.adr (by assumption) ?_; simp only [zzk]; omega) | (simp only [zzl, Nat.reduceAdd]; first | done | omega)) only [go_sem, ↓reduceIte, seval, -List.reduceReplicate, List.toList_toArray, hCl, hCa, hCx, hCw, hCo, hCs, hofl, hb1, hb2, hb3, hl1, hl2, hputz, hone, hz, hr1, zeroC_len]
  rename_i b2 x1 x2 x3 b4 x4 x5 x6 bl x7 x8 x9
  refine Tri.live [1, 2, 4, 5, 6, 7] ?_
  refine Tri.upd (Upd.go (H' := (b2, .cells C [] 27) :: (b4, .cells zeroC [] 27) :: (nb, .cells (cellsD d (.slice none 0 0) (.slice none 0 0) (.slice ay d.names.length cs)) [] 27) :: ([(bl, .cells [.slice al d.label.length cl] [] 24)] ++ H)) (by intro fsum; simp only [zzq]; omega) (Upd.now ?_))
  refine Tri.isPiece [1, 1, 1] Tryz.f23 (by kernel_rfl) ?_
  exact rtl_t hsm hok hm1 hm2 O O.names (.inr ⟨bl, 1, [], rfl, rfl, rfl, rfl⟩) ((RwI.nil G).snoc O.rl O.rlc) fun G' v' hle hI _ hs => hR G' v' hle hs hI
set_option maxHeartbeats 16000000 in
theorem rrev_t {d : DfaT} (hsm : SmallD d) {most : Int} (hm : -9223372036854775808 ≤ most ∧ most < 9223372036854775808) {G : PHeap} {H : Heap} {R : Value → PHeap → Heap → Prop} {v : Value} (hv : IsD G d v)
    (hR : ∀ G' v', PLe G G' → Sep G' (keys H) → IsD G' (revR d most).1 v' → R (.tuple #[v', .int .i64 (revR d most).2]) G' H) : FnT Tryz.prog 9 [v, .int .i64 most] G H R := by
  obtain ⟨C, an, al, ay, cn, cl, cs, rs, rfl, O⟩ := hv.opened
  have hCl := O.len
  have hCa := O.all
  refine FnT.sep ?_
  refine FnT.body tok [0, 1, 2, 4, 5, 6, 7, 8, 13, 23] Tryz.func9 rfl (by kernel_rfl) (by kernel_rfl) (by show _ ≤ 26; simp) fun hsep => ?_
  rw [Tryz.results9]
  have hsE := hsep
  try simp only [zzs] at hsE
  repeat (obtain ⟨hsx, hsE⟩ := hsE)
  repeat' first
    | (with_reducible first | refine Br.yes ?_ | refine Br.no ?_ | refine Br.dec (fun _ => ?_) (fun _ => ?_) | refine Br.beqB (fun _ => ?_) (fun _ => ?_) | refine Br.beqb (fun _ => ?_) (fun _ => ?_) | refine Br.mk (fun _ => ?_) (fun _ => ?_))
    | ((with_reducible first | refine NewB.mk (fun nb hnb => ?_) | refine NewRow.mk (fun nb nsp ncap hnb hncap => ?_)); have hnb1 := hnb.1.1; have hnb2 := hnb.1.2; try simp only [zzn] at hnb2)
    | simp (dsimp := false) (implicitDefEqProofs := false) (disch := first | assumption | (simp only [zzm]; done) | omega | (with_reducible refine Row.adr (by assumption) ?_; simp only [zzk]; omega) | (simp only [zzl, Nat.reduceAdd]; first | done | omega)) only [go_sem, ↓reduceIte, seval, -List.reduceReplicate, List.toList_toArray, hCl, hCa]
  rename_i b2 z1 z2 z3
  obtain ⟨b4, e40⟩ : ∃ x, x = nb := ⟨_, rfl⟩
  subst e40
  refine rwrong27_t hsm hm O.is fun G0 hle0 hs0 => ?_
  have O0 := O.mono hle0
  have hsE := hs0
  try simp only [zzs] at hsE
  repeat (obtain ⟨hsx, hsE⟩ := hsE)
  by_cases hok : RightP d
  · by_cases h1 : 1 ≤ most ∧ most ≤ 65536
    · rw [wrongR_ok hok h1]
      obtain ⟨m, rfl⟩ := Int.eq_ofNat_of_zero_le (show 0 ≤ most by omega)
      repeat' first
        | (with_reducible first | refine Br.yes ?_ | refine Br.no ?_ | refine Br.dec (fun _ => ?_) (fun _ => ?_) | refine Br.beqB (fun _ => ?_) (fun _ => ?_) | refine Br.beqb (fun _ => ?_) (fun _ => ?_) | refine Br.mk (fun _ => ?_) (fun _ => ?_))
        | ((with_reducible first | refine NewB.mk (fun nb hnb => ?_) | refine NewRow.mk (fun nb nsp ncap hnb hncap => ?_)); have hnb1 := hnb.1.1; have hnb2 := hnb.1.2; try simp only [zzn] at hnb2)
        | simp (dsimp := false) (implicitDefEqProofs := false) (disch := first | assumption | (simp only [zzm]; done) | omega | (with_reducible refine Row.adr (by assumption) ?_; simp only [zzk]; omega) | (simp only [zzl, Nat.reduceAdd]; first | done | omega)) only [go_sem, ↓reduceIte, seval, -List.reduceReplicate, List.toList_toArray, hCl, hCa]
      refine rturned_t hsm hok (by omega) (by omega) O0.is fun G1 v1 hle1 hs1 hI1 => ?_
      obtain ⟨C1, an1, al1, ay1, cn1, cl1, cs1, rs1, rfl, O1⟩ := hI1.opened
      have hC1l := O1.len
      have hone1 := wdf_one O1.is
      have hput1 := wdf_put hC1l
      have htk1 : List.take 260 C1 = C1 := List.take_of_length_le (by omega)
      have hsE := hs1
      try simp only [zzs] at hsE
      repeat (obtain ⟨hsx, hsE⟩ := hsE)
      cases ht : (turnR d m).2 with
      | true =>
        rw [revR_ok hok h1 ht] at hR
        repeat' first
          | (with_reducible first | refine Br.yes ?_ | refine Br.no ?_ | refine Br.dec (fun _ => ?_) (fun _ => ?_) | refine Br.beqB (fun _ => ?_) (fun _ => ?_) | refine Br.beqb (fun _ => ?_) (fun _ => ?_) | refine Br.mk (fun _ => ?_) (fun _ => ?_))
          | ((with_reducible first | refine NewB.mk (fun nb hnb => ?_) | refine NewRow.mk (fun nb nsp ncap hnb hncap => ?_)); have hnb1 := hnb.1.1; have hnb2 := hnb.1.2; try simp only [zzn] at hnb2)
          | simp (dsimp := false) (implicitDefEqProofs := false) (disch := first | assumption | (simp only [zzm]; done) | omega | (with_reducible refine Row.adr (by assumption) ?_; simp only [zzk]; omega) | (simp only [zzl, Nat.reduceAdd]; first | done | omega)) only [go_sem, ↓reduceIte, seval, -List.reduceReplicate, List.toList_toArray, hCl, hCa, hC1l, hone1, hput1, htk1, zeroC_len]
        unfold UpdR
        refine Upd.leave (H' := H) (by intro fsum; simp only [zzq]; omega) ?_
        exact fun _ hs => hR G1 _ (hle0.trans hle1) hs O1.is
      | false =>
        rw [revR_big hok h1 ht] at hR
        repeat' first
          | (with_reducible first | refine Br.yes ?_ | refine Br.no ?_ | refine Br.dec (fun _ => ?_) (fun _ => ?_) | refine Br.beqB (fun _ => ?_) (fun _ => ?_) | refine Br.beqb (fun _ => ?_) (fun _ => ?_) | refine Br.mk (fun _ => ?_) (fun _ => ?_))
          | ((with_reducible first | refine NewB.mk (fun nb hnb => ?_) | refine NewRow.mk (fun nb nsp ncap hnb hncap => ?_)); have hnb1 := hnb.1.1; have hnb2 := hnb.1.2; try simp only [zzn] at hnb2)
          | simp (dsimp := false) (implicitDefEqProofs := false) (disch := first | assumption | (simp only [zzm]; done) | omega | (with_reducible refine Row.adr (by assumption) ?_; simp only [zzk]; omega) | (simp only [zzl, Nat.reduceAdd]; first | done | omega)) only [go_sem, ↓reduceIte, seval, -List.reduceReplicate, List.toList_toArray, hCl, hCa, hC1l, hone1, hput1, htk1, zeroC_len, zeroC_one, zeroC_take, zeroC_put]
        unfold UpdR
        refine Upd.leave (H' := H) (by intro fsum; simp only [zzq]; omega) ?_
        exact fun _ hs => hR G1 _ (hle0.trans hle1) hs (zeroD_is _)
    · rw [wrongR_not hok h1]
      rw [revR_not hok h1] at hR
      repeat' first
        | (with_reducible first | refine Br.yes ?_ | refine Br.no ?_ | refine Br.dec (fun _ => ?_) (fun _ => ?_) | refine Br.beqB (fun _ => ?_) (fun _ => ?_) | refine Br.beqb (fun _ => ?_) (fun _ => ?_) | refine Br.mk (fun _ => ?_) (fun _ => ?_))
        | ((with_reducible first | refine NewB.mk (fun nb hnb => ?_) | refine NewRow.mk (fun nb nsp ncap hnb hncap => ?_)); have hnb1 := hnb.1.1; have hnb2 := hnb.1.2; try simp only [zzn] at hnb2)
        | simp (dsimp := false) (implicitDefEqProofs := false) (disch := first | assumption | (simp only [zzm]; done) | omega | (with_reducible refine Row.adr (by assumption) ?_; simp only [zzk]; omega) | (simp only [zzl, Nat.reduceAdd]; first | done | omega)) only [go_sem, ↓reduceIte, seval, -List.reduceReplicate, List.toList_toArray, hCl, hCa, zeroC_len, zeroC_one, zeroC_take, zeroC_put]
      unfold UpdR
      refine Upd.leave (H' := H) (by intro fsum; simp only [zzq]; omega) ?_
      exact fun _ hs => hR G0 _ hle0 hs (zeroD_is _)
  · rw [wrongR_bad hok]
    rw [revR_bad hok] at hR
    repeat' first
      | (with_reducible first | refine Br.yes ?_ | refine Br.no ?_ | refine Br.dec (fun _ => ?_) (fun _ => ?_) | refine Br.beqB (fun _ => ?_) (fun _ => ?_) | refine Br.beqb (fun _ => ?_) (fun _ => ?_) | refine Br.mk (fun _ => ?_) (fun _ => ?_))
      | ((with_reducible first | refine NewB.mk (fun nb hnb => ?_) | refine NewRow.mk (fun nb nsp ncap hnb hncap => ?_)); have hnb1 := hnb.1.1; have hnb2 := hnb.1.2; try simp only [zzn] at hnb2)
      | simp (dsimp := false) (implicitDefEqProofs := false) (disch := first | assumption | (simp only [zzm]; done) | omega | (with_reducible refine Row.adr (by assumption) ?_; simp only [zzk]; omega) | (simp only [zzl, Nat.reduceAdd]; first | done | omega)) only [go_sem, ↓reduceIte, seval, -List.reduceReplicate, List.toList_toArray, hCl, hCa, zeroC_len, zeroC_one, zeroC_take, zeroC_put]
    unfold UpdR
    refine Upd.leave (H' := H) (by intro fsum; simp only [zzq]; omega) ?_
    exact fun _ hs => hR G0 _ hle0 hs (zeroD_is _)
end Go.Proofs.YtefkpedhbijhkaaGreatDoor
namespace Go.Proofs.YtefkpedhbijhkaaGreatDoor
open Go Go.V Go.Proofs
theorem texts_t (xs ys : List (List UInt8)) (hlen : xs.length ≤ 9000000) {G : PHeap} {H : Heap} {R : Value → PHeap → Heap → Prop} {v w : Value} (hv : Sl G str v xs) (hw : Sl G str w ys) (hR : R (.bool (decide (xs = ys))) G H) : FnT Tryz.prog 25 [v, w] G H R := by
  obtain ⟨a, cap, rfl, hrow, hcap⟩ := hv
  obtain ⟨a', cap', rfl, hrow', hcap'⟩ := hw
  refine FnT.body tok [0, 1, 4, 5, 10, 14, 25] Tryz.func25 rfl (by kernel_rfl) (by kernel_rfl) (by show _ ≤ 26; simp) fun hsep => ?_
  rw [Tryz.results25]
  have hsE := hsep
  try simp only [zzs] at hsE
  repeat (obtain ⟨hsx, hsE⟩ := hsE)
  repeat' first
    | (with_reducible first | refine Br.yes ?_ | refine Br.no ?_ | refine Br.dec (fun _ => ?_) (fun _ => ?_) | refine Br.beqB (fun _ => ?_) (fun _ => ?_) | refine Br.beqb (fun _ => ?_) (fun _ => ?_) | refine Br.mk (fun _ => ?_) (fun _ => ?_))
    | ((with_reducible first | refine NewB.mk (fun nb hnb => ?_)); have hnb1 := hnb.1.1; have hnb2 := hnb.1.2; try simp only [zzn] at hnb2)
    | simp (dsimp := false) (implicitDefEqProofs := false) (disch := first | assumption | (simp only [zzm]; done) | omega | (with_reducible refine Row.adr (by assumption) ?_; simp only [zzk]; omega) | (simp only [zzl, Nat.reduceAdd]; first | done | omega)) only [go_sem, ↓reduceIte, seval]
  · rename_i hne
    have hxy : xs.length = ys.length := by omega
    refine Tri.loopU tok [0, 1, 4, 5, 10, 14, 25] (by kernel_rfl) [0, 1, 4, 5] (fun n G' l H' => ∃ i : Nat, i + n = xs.length ∧ (∀ j (h : j < xs.length), j < i → xs[j] = ys[j]) ∧ G' = G ∧ H' = H ∧ l = [(0, .slice a xs.length cap), (1, .slice a' ys.length cap'), (4, .bool false), (5, .int .i64 i)]) (xs.length) (Upd.now ?_) ?_
    · exact ⟨0, by omega, fun j _ h => by omega, rfl, rfl, rfl⟩
    · rintro n G' l H' hle hs ⟨i, hi, hno, rfl, rfl, rfl⟩
      by_cases hil : i < xs.length
      · have hil' : i < ys.length := by omega
        repeat' first
          | (with_reducible first | refine Br.yes ?_ | refine Br.no ?_ | refine Br.dec (fun _ => ?_) (fun _ => ?_) | refine Br.beqB (fun _ => ?_) (fun _ => ?_) | refine Br.beqb (fun _ => ?_) (fun _ => ?_) | refine Br.mk (fun _ => ?_) (fun _ => ?_))
          | ((with_reducible first | refine NewB.mk (fun nb hnb => ?_)); have hnb1 := hnb.1.1; have hnb2 := hnb.1.2; try simp only [zzn] at hnb2)
          | with_reducible refine Tri.drawH tok mixed [0, 1, 4, 5, 10, 14, 25] 6 [3, 7] (.op 0 .plain (.op 1 .plain (.op 2 .plain (.op 3 .held (.op 4 .plain (.op 5 .plain (.op 6 .plain (.op 7 .held (.op 8 .plain .nil))))))))) (by kernel_rfl) [0, 1] ?_
          | simp (dsimp := false) (implicitDefEqProofs := false) (disch := first | assumption | (simp only [zzm]; done) | omega | (with_reducible refine Row.adr (by assumption) ?_; simp only [zzk]; omega) | (simp only [zzl, Nat.reduceAdd]; first | done | omega)) only [go_sem, ↓reduceIte, seval, Row.obj hrow, Row.obj hrow', List.getElem_map]
        · rename_i he
          exact Upd.now ⟨n - 1, by omega, i + 1, by omega, fun j h hj => by
            by_cases e : j = i
            · subst e; exact he
            · exact hno j h (by omega), rfl, rfl, rfl⟩
        · rename_i he
          rw [decide_eq_false (fun e => he (by subst e; rfl))] at hR
          all_goals refine Upd.finL ?_ hR ?_
          any_goals (intro fsum; first | exact Nat.le_refl _ | (simp only [zzq]; omega))
          rfl
      · obtain rfl : i = xs.length := by omega
        rw [decide_eq_true (List.ext_getElem hxy fun j h1 h2 => hno j h1 h1)] at hR
        repeat' first
          | (with_reducible first | refine Br.yes ?_ | refine Br.no ?_ | refine Br.dec (fun _ => ?_) (fun _ => ?_) | refine Br.beqB (fun _ => ?_) (fun _ => ?_) | refine Br.beqb (fun _ => ?_) (fun _ => ?_) | refine Br.mk (fun _ => ?_) (fun _ => ?_))
          | ((with_reducible first | refine NewB.mk (fun nb hnb => ?_)); have hnb1 := hnb.1.1; have hnb2 := hnb.1.2; try simp only [zzn] at hnb2)
          | simp (dsimp := false) (implicitDefEqProofs := false) (disch := first | assumption | (simp only [zzm]; done) | omega | (with_reducible refine Row.adr (by assumption) ?_; simp only [zzk]; omega) | (simp only [zzl, Nat.reduceAdd]; first | done | omega)) only [go_sem, ↓reduceIte, seval]
        all_goals refine Upd.finL ?_ hR ?_
        any_goals (intro fsum; first | exact Nat.le_refl _ | (simp only [zzq]; omega))
        rfl
  · rename_i hne
    rw [decide_eq_false (fun e => hne (by subst e; rfl))] at hR
    all_goals refine Upd.finL ?_ hR ?_
    any_goals (intro fsum; first | exact Nat.le_refl _ | (simp only [zzq]; omega))
    rfl
theorem DfaT.ext' {d e : DfaT} (h1 : d.of = e.of) (h2 : d.width = e.width) (h3 : d.next = e.next) (h4 : d.label = e.label) (h5 : d.names = e.names) : d = e := by
  cases d; cases e; simp only at h1 h2 h3 h4 h5; subst h1 h2 h3 h4 h5; rfl
set_option maxHeartbeats 32000000 in
theorem same20_t {d e : DfaT} (hsm : SmallD d) {G : PHeap} {H : Heap} {R : Value → PHeap → Heap → Prop} {v w : Value} (hv : IsD G d v) (hw : IsD G e w) (hR : R (.bool (boolOf (d = e))) G H) : FnT Tryz.prog 10 [v, w] G H R := by
  obtain ⟨C, an, al, ay, cn, cl, cs, rs, rfl, O⟩ := hv.opened
  obtain ⟨C', an', al', ay', cn', cl', cs', rs', rfl, O'⟩ := hw.opened
  obtain ⟨hm1, hm2, hm3, hm4, hm5⟩ := id hsm
  have hCl := O.len
  have hCw := O.w
  have hCn := O.n
  have hCx := O.l
  have hCs := O.s
  have hCo := O.of
  have hDl := O'.len
  have hDw := O'.w
  have hDn := O'.n
  have hDx := O'.l
  have hDs := O'.s
  have hDo := O'.of
  have heq : eqT T 9 22 (agg8 d.of) (agg8 e.of) = some (decide (d.of = e.of)) := eqT_ints (d := 7) (t := 22) (e := 5) (n := 256) (k := .u8) rfl rfl rfl O.ofl O'.ofl
  refine FnT.body tok [0, 1, 2, 3, 4, 5, 42, 47, 61] Tryz.func10 rfl (by kernel_rfl) (by kernel_rfl) (by show _ ≤ 62; simp) fun hsep => ?_
  rw [Tryz.results10]
  have hsE := hsep
  try simp only [zzs] at hsE
  repeat (obtain ⟨hsx, hsE⟩ := hsE)
  repeat' first
    | (with_reducible first | refine Br.yes ?_ | refine Br.no ?_ | refine Br.dec (fun _ => ?_) (fun _ => ?_) | refine Br.beqB (fun _ => ?_) (fun _ => ?_) | refine Br.beqb (fun _ => ?_) (fun _ => ?_) | refine Br.mk (fun _ => ?_) (fun _ => ?_))
    | ((with_reducible first | refine NewB.mk (fun nb hnb => ?_)); have hnb1 := hnb.1.1; have hnb2 := hnb.1.2; try simp only [zzn] at hnb2)
    | simp (dsimp := false) (implicitDefEqProofs := false) (disch := first | assumption | (simp only [zzm]; done) | omega | (with_reducible refine Row.adr (by assumption) ?_; simp only [zzk]; omega) | (simp only [zzl, Nat.reduceAdd]; first | done | omega)) only [go_sem, ↓reduceIte, seval, -List.reduceReplicate, List.toList_toArray, hCl, hCw, hCn, hCx, hCs, hCo, hDl, hDw, hDn, hDx, hDs, hDo, heq]
    | with_reducible refine same17_t _ _ hm3 O.label O'.label ?_
    | with_reducible refine texts_t _ _ (by omega) O.names O'.names ?_
  · rename_i b2 hb20 hb21 hb22 q1 q2 q3 q4 q5
    revert nb
    intro b3 hb30 hb31 hb32
    have hnn : d.next.length = e.next.length := by omega
    have hrn := O.rn
    have hrn' := O'.rn
    have hrnl := O.rnl
    have hrnl' := O'.rnl
    refine Tri.loopU tok [0, 1, 2, 3, 4, 5, 42, 47, 61] (by kernel_rfl) [2, 3, 4, 5] (fun q G' fr H' => ∃ i : Nat, i + q = d.next.length ∧ (∀ j (h : j < d.next.length), j < i → d.next[j] = e.next[j]'(by omega)) ∧ G' = G ∧ H' = (b3, .cells C' [] 27) :: (b2, .cells C [] 27) :: H ∧ fr = [(2, .pointer (some ⟨b2, 0, none⟩)), (3, .pointer (some ⟨b3, 0, none⟩)), (4, .bool false), (5, .int .i64 (i : Nat))]) (d.next.length) ?_ ?_
    · exact Upd.now ⟨0, by omega, fun j _ h => by omega, rfl, rfl, rfl⟩
    · rintro q G3 fr H' hle hs ⟨i, hi, hno, rfl, rfl, rfl⟩
      have hsE := hs
      try simp only [zzs] at hsE
      repeat (obtain ⟨hsx, hsE⟩ := hsE)
      by_cases hil : i < d.next.length
      · have hil' : i < e.next.length := by omega
        have hiv : i < rs.length := by omega
        have hiv' : i < rs'.length := by omega
        obtain ⟨b, c, e1, e2, e3⟩ := O.rs i hil hiv
        obtain ⟨b', c', f1, f2, f3⟩ := O'.rs i hil' hiv'
        have hrm := hm2 _ (List.getElem_mem hil)
        have s1 : Sl G3 (Value.int .i64) (.slice b d.next[i].length c) d.next[i] := ⟨b, c, rfl, e2, e3⟩
        have s2 : Sl G3 (Value.int .i64) (.slice b' e.next[i].length c') e.next[i] := ⟨b', c', rfl, f2, f3⟩
        have had : Adr an := hrn.adr (by omega)
        have had2 : Adr an' := hrn'.adr (by omega)
        repeat' first
          | (with_reducible first | refine Br.yes ?_ | refine Br.no ?_ | refine Br.dec (fun _ => ?_) (fun _ => ?_) | refine Br.beqB (fun _ => ?_) (fun _ => ?_) | refine Br.beqb (fun _ => ?_) (fun _ => ?_) | refine Br.mk (fun _ => ?_) (fun _ => ?_))
          | ((with_reducible first | refine NewB.mk (fun nb hnb => ?_)); have hnb1 := hnb.1.1; have hnb2 := hnb.1.2; try simp only [zzn] at hnb2)
          | with_reducible refine Tri.drawM tok mixed [0, 1, 2, 3, 4, 5, 42, 47, 61] 6 [1, 4, 6, 9] (.op 0 .plain (.op 1 .held (.op 2 .plain (.op 3 .plain (.op 4 .held (.op 5 .plain (.op 6 .held (.op 7 .plain (.op 8 .plain (.op 9 .held (.op 10 .keeps (.op 11 .plain .nil)))))))))))) (by kernel_rfl) _ (List.Sublist.refl _) ?_
          | simp (dsimp := false) (implicitDefEqProofs := false) (disch := first | assumption | (simp only [zzm]; done) | omega | (with_reducible refine Row.adr (by assumption) ?_; simp only [zzk]; omega) | (simp only [zzl, Nat.reduceAdd]; first | done | omega)) only [go_sem, ↓reduceIte, seval, -List.reduceReplicate, List.toList_toArray, hCl, hCw, hCn, hCx, hCs, hCo, hDl, hDw, hDn, hDx, hDs, hDo, heq, Row.obj hrn, Row.obj hrn', e1, f1]
          | with_reducible refine same17_t _ _ hrm s1 s2 ?_
        all_goals first
          | (rename_i he
             rw [boolOf_no (p := d = e) fun h => he (by subst h; rfl)] at hR
             exact Upd.finL (by intro fsum; first | exact Nat.le_refl _ | (simp only [zzq]; omega)) hR rfl)
          | (rename_i he
             exact Upd.now ⟨q - 1, by omega, i + 1, by omega, fun j h hj => by
               by_cases ee : j = i
               · subst ee; exact he
               · exact hno j h (by omega), rfl, rfl, rfl⟩)
          | trace_state
      · obtain rfl : i = d.next.length := by omega
        rw [boolOf_yes (p := d = e) (DfaT.ext' q1 q2 (List.ext_getElem hnn fun j h1 h2 => hno j h1 h1) q4 q5)] at hR
        repeat' first
          | (with_reducible first | refine Br.yes ?_ | refine Br.no ?_ | refine Br.dec (fun _ => ?_) (fun _ => ?_) | refine Br.beqB (fun _ => ?_) (fun _ => ?_) | refine Br.beqb (fun _ => ?_) (fun _ => ?_) | refine Br.mk (fun _ => ?_) (fun _ => ?_))
          | ((with_reducible first | refine NewB.mk (fun nb hnb => ?_)); have hnb1 := hnb.1.1; have hnb2 := hnb.1.2; try simp only [zzn] at hnb2)
          | simp (dsimp := false) (implicitDefEqProofs := false) (disch := first | assumption | (simp only [zzm]; done) | omega | (with_reducible refine Row.adr (by assumption) ?_; simp only [zzk]; omega) | (simp only [zzl, Nat.reduceAdd]; first | done | omega)) only [go_sem, ↓reduceIte, seval, -List.reduceReplicate, List.toList_toArray, hCl, hCw, hCn, hCx, hCs, hCo, hDl, hDw, hDn, hDx, hDs, hDo, heq]
        all_goals refine Upd.finL ?_ hR ?_
        any_goals (intro fsum; first | exact Nat.le_refl _ | (simp only [zzq]; omega))
        rfl
  all_goals (
    rename_i hne
    rw [boolOf_no (p := d = e) fun h => hne (by rw [h])] at hR
    exact Upd.finL (by intro fsum; first | exact Nat.le_refl _ | (simp only [zzq]; omega)) hR rfl)
end Go.Proofs.YtefkpedhbijhkaaGreatDoor
namespace Go.Proofs.YtefkpedhbijhkaaGreatDoor
open Go Go.V Go.Proofs
set_option maxHeartbeats 32000000 in
theorem brzoRevR_t {d : DfaT} (hsm : SmallD d) {most : Int} (hm : -9223372036854775808 ≤ most ∧ most < 9223372036854775808) {G : PHeap} {H : Heap} {R : Value → PHeap → Heap → Prop} (hg : HasTab G) {C : List Value} {an al ay : Option Addr} {cn cl cs : Nat} {rs : List Value} (O : OpenD G d C an al ay cn cl cs rs) {b2 : Nat}
    (hR : ∀ G', PLe G G' → R (.bool true) G' H) : Tri Tryz.prog Tryz.f3.ntmps (piece [1, 1] Tryz.f3) G [(1, .int .i64 most), (2, .pointer (some ⟨b2, 0, none⟩))] ((b2, .cells C [] 27) :: H) (endK T #[Go.ResultVar.tmp 4].toList (UpdR R) .mk) := by
  have hCl := O.len
  have hCa := O.all
  refine Tri.sepT fun hs0 => ?_
  have hsE := hs0
  try simp only [zzs] at hsE
  repeat (obtain ⟨hsx, hsE⟩ := hsE)
  refine Tri.piece (f := Tryz.f3) rfl ?_
  refine Tri.run tok [0, 1, 2, 4, 5, 6, 7, 8, 24] (by kernel_rfl) ?_
  repeat' first
    | (with_reducible first | refine Br.yes ?_ | refine Br.no ?_ | refine Br.dec (fun _ => ?_) (fun _ => ?_) | refine Br.beqB (fun _ => ?_) (fun _ => ?_) | refine Br.beqb (fun _ => ?_) (fun _ => ?_) | refine Br.mk (fun _ => ?_) (fun _ => ?_))
    | ((with_reducible first | refine NewB.mk (fun nb hnb => ?_)); have hnb1 := hnb.1.1; have hnb2 := hnb.1.2; try simp only [zzn] at hnb2)
    | simp (dsimp := false) (implicitDefEqProofs := false) (disch := first | assumption | (simp only [zzm]; done) | omega | (with_reducible refine Row.adr (by assumption) ?_; simp only [zzk]; omega) | (simp only [zzl, Nat.reduceAdd]; first | done | omega)) only [go_sem, ↓reduceIte, seval, -List.reduceReplicate, List.toList_toArray, hCl, hCa]
  refine rev_t hsm hm O.is fun G2 v2 hle2 hs2 hI2 => ?_
  have O2 := O.mono hle2
  have hrr := fun (R : Value → PHeap → Heap → Prop) (H : Heap) => rrev_t hsm hm (R := R) (H := H) O2.is
  obtain ⟨X, hX⟩ : ∃ X, X = (revR d most).1 := ⟨_, rfl⟩
  obtain ⟨e, he⟩ : ∃ e, e = (revR d most).2 := ⟨_, rfl⟩
  rw [← hX] at hI2
  rw [← he]
  simp only [← hX, ← he] at hrr
  obtain ⟨C2, an2, al2, ay2, cn2, cl2, cs2, rs2, rfl, O3⟩ := hI2.opened
  have hC2l := O3.len
  have hone2 := wdf_one O3.is
  have hput2 := wdf_put hC2l
  have htk2 : List.take 260 C2 = C2 := List.take_of_length_le (by omega)
  have hsE := hs2
  try simp only [zzs] at hsE
  repeat (obtain ⟨hsx, hsE⟩ := hsE)
  repeat' first
    | (with_reducible first | refine Br.yes ?_ | refine Br.no ?_ | refine Br.dec (fun _ => ?_) (fun _ => ?_) | refine Br.beqB (fun _ => ?_) (fun _ => ?_) | refine Br.beqb (fun _ => ?_) (fun _ => ?_) | refine Br.mk (fun _ => ?_) (fun _ => ?_))
    | ((with_reducible first | refine NewB.mk (fun nb hnb => ?_)); have hnb1 := hnb.1.1; have hnb2 := hnb.1.2; try simp only [zzn] at hnb2)
    | simp (dsimp := false) (implicitDefEqProofs := false) (disch := first | assumption | (simp only [zzm]; done) | omega | (with_reducible refine Row.adr (by assumption) ?_; simp only [zzk]; omega) | (simp only [zzl, Nat.reduceAdd]; first | done | omega)) only [go_sem, ↓reduceIte, seval, -List.reduceReplicate, List.toList_toArray, hCl, hCa, hC2l, hone2, hput2, zeroC_len]
  obtain ⟨b5, e50⟩ : ∃ x, x = nb := ⟨_, rfl⟩
  subst e50
  refine hrr _ _ fun G4 v4 hle4 hs4 hI4 => ?_
  obtain ⟨C4, an4, al4, ay4, cn4, cl4, cs4, rs4, rfl, O4⟩ := hI4.opened
  have hC4l := O4.len
  have hone4 := wdf_one O4.is
  have hput4 := wdf_put hC4l
  have htk4 : List.take 260 C4 = C4 := List.take_of_length_le (by omega)
  have hsE := hs4
  try simp only [zzs] at hsE
  repeat (obtain ⟨hsx, hsE⟩ := hsE)
  have hxx : boolOf True = true := boolOf_yes trivial
  have hg4 := hg.mono (hle2.trans hle4)
  have hXs : SmallD X := by rw [hX]; exact revR_small O.ofl hsm most
  repeat' first
    | (with_reducible first | refine Br.yes ?_ | refine Br.no ?_ | refine Br.dec (fun _ => ?_) (fun _ => ?_) | refine Br.beqB (fun _ => ?_) (fun _ => ?_) | refine Br.beqb (fun _ => ?_) (fun _ => ?_) | refine Br.mk (fun _ => ?_) (fun _ => ?_))
    | ((with_reducible first | refine NewB.mk (fun nb hnb => ?_)); have hnb1 := hnb.1.1; have hnb2 := hnb.1.2; try simp only [zzn] at hnb2)
    | simp (dsimp := false) (implicitDefEqProofs := false) (disch := first | assumption | (simp only [zzm]; done) | omega | (with_reducible refine Row.adr (by assumption) ?_; simp only [zzk]; omega) | (simp only [zzl, Nat.reduceAdd]; first | done | omega)) only [go_sem, ↓reduceIte, seval, -List.reduceReplicate, List.toList_toArray, hCl, hCa, hC2l, hone2, hput2, htk2, hC4l, hone4, hput4, htk4, zeroC_len, hxx]
    | with_reducible refine same20_t hXs (O3.is.mono hle4) O4.is ?_
    | ((with_reducible refine knows_t hg4 fun G7 hle7 hs7 => ?_); (have hsE := hs7; try simp only [zzs] at hsE; repeat (obtain ⟨hsx, hsE⟩ := hsE)))
  all_goals
    unfold UpdR
    refine Upd.leave (H' := H) (by intro fsum; first | exact Nat.le_refl _ | (simp only [zzq]; omega)) ?_
    exact hR G7 (hle2.trans (hle4.trans hle7))
set_option maxHeartbeats 32000000 in
theorem brzoRev_t {d : DfaT} (hsm : SmallD d) {most : Int} (hm : -9223372036854775808 ≤ most ∧ most < 9223372036854775808) {G : PHeap} {H : Heap} {R : Value → PHeap → Heap → Prop} {v : Value} (hg : HasTab G) (hv : IsD G d v)
    (hR : ∀ G', PLe G G' → R (.bool true) G' H) : FnT Tryz.prog 3 [v, .int .i64 most] G H R := by
  obtain ⟨C, an, al, ay, cn, cl, cs, rs, rfl, O⟩ := hv.opened
  have hCl := O.len
  have hCa := O.all
  have hCx := O.l
  by_cases hbig : RightP d ∧ (12 < d.label.length ∨ 60 < most ∧ most ≤ 65536)
  · obtain ⟨hok, hbg⟩ := hbig
    have hb := boolOf_yes hok
    refine FnT.body tok [0, 1, 2, 4, 5, 6, 7, 8, 24] Tryz.func3 rfl (by kernel_rfl) (by kernel_rfl) (by show _ ≤ 49; simp) fun hsep => ?_
    rw [Tryz.results3]
    have hsE := hsep
    try simp only [zzs] at hsE
    repeat (obtain ⟨hsx, hsE⟩ := hsE)
    repeat' first
      | (with_reducible first | refine Br.yes ?_ | refine Br.no ?_ | refine Br.dec (fun _ => ?_) (fun _ => ?_) | refine Br.beqB (fun _ => ?_) (fun _ => ?_) | refine Br.beqb (fun _ => ?_) (fun _ => ?_) | refine Br.mk (fun _ => ?_) (fun _ => ?_))
      | ((with_reducible first | refine NewB.mk (fun nb hnb => ?_)); have hnb1 := hnb.1.1; have hnb2 := hnb.1.2; try simp only [zzn] at hnb2)
      | simp (dsimp := false) (implicitDefEqProofs := false) (disch := first | assumption | (simp only [zzm]; done) | omega | (with_reducible refine Row.adr (by assumption) ?_; simp only [zzk]; omega) | (simp only [zzl, Nat.reduceAdd]; first | done | omega)) only [go_sem, ↓reduceIte, seval, -List.reduceReplicate, List.toList_toArray, hCl, hCa]
    refine rright_t hsm O.is fun G1 hle1 hs1 => ?_
    rw [hb]
    have hsE := hs1
    try simp only [zzs] at hsE
    repeat (obtain ⟨hsx, hsE⟩ := hsE)
    have hg1 := hg.mono hle1
    repeat' first
      | (with_reducible first | refine Br.yes ?_ | refine Br.no ?_ | refine Br.dec (fun _ => ?_) (fun _ => ?_) | refine Br.beqB (fun _ => ?_) (fun _ => ?_) | refine Br.beqb (fun _ => ?_) (fun _ => ?_) | refine Br.mk (fun _ => ?_) (fun _ => ?_))
      | ((with_reducible first | refine NewB.mk (fun nb hnb => ?_)); have hnb1 := hnb.1.1; have hnb2 := hnb.1.2; try simp only [zzn] at hnb2)
      | simp (dsimp := false) (implicitDefEqProofs := false) (disch := first | assumption | (simp only [zzm]; done) | omega | (with_reducible refine Row.adr (by assumption) ?_; simp only [zzk]; omega) | (simp only [zzl, Nat.reduceAdd]; first | done | omega)) only [go_sem, ↓reduceIte, seval, -List.reduceReplicate, List.toList_toArray, hCl, hCa, hCx]
      | ((with_reducible refine knows_t hg1 fun G7 hle7 hs7 => ?_); (have hsE := hs7; try simp only [zzs] at hsE; repeat (obtain ⟨hsx, hsE⟩ := hsE)))
    all_goals first | (exfalso; omega) | skip
    all_goals
      unfold UpdR
      refine Upd.leave (H' := H) (by intro fsum; first | exact Nat.le_refl _ | (simp only [zzq]; omega)) ?_
      exact hR G7 (hle1.trans hle7)
  · have hno : boolOf (RightP d) = true → ¬ (12 < d.label.length ∨ 60 < most ∧ most ≤ 65536) := fun h h2 => hbig (And.intro (Classical.byContradiction fun hn => by rw [boolOf_no hn] at h; cases h) h2)
    refine FnT.bodyS tok [0, 1, 2, 4, 5, 6, 7, 8, 24] (.seq .run (.seq .run .cut)) Tryz.func3 rfl (by kernel_rfl) (by kernel_rfl) (by show _ ≤ 49; simp) fun hsep => ?_
    rw [Tryz.results3]
    have hsE := hsep
    try simp only [zzs] at hsE
    repeat (obtain ⟨hsx, hsE⟩ := hsE)
    repeat' first
      | (with_reducible first | refine Br.yes ?_ | refine Br.no ?_ | refine Br.dec (fun _ => ?_) (fun _ => ?_) | refine Br.beqB (fun _ => ?_) (fun _ => ?_) | refine Br.beqb (fun _ => ?_) (fun _ => ?_) | refine Br.mk (fun _ => ?_) (fun _ => ?_))
      | ((with_reducible first | refine NewB.mk (fun nb hnb => ?_)); have hnb1 := hnb.1.1; have hnb2 := hnb.1.2; try simp only [zzn] at hnb2)
      | simp (dsimp := false) (implicitDefEqProofs := false) (disch := first | assumption | (simp only [zzm]; done) | omega | (with_reducible refine Row.adr (by assumption) ?_; simp only [zzk]; omega) | (simp only [zzl, Nat.reduceAdd]; first | done | omega)) only [go_sem, ↓reduceIte, seval, -List.reduceReplicate, List.toList_toArray, hCl, hCa]
    refine rright_t hsm O.is fun G1 hle1 hs1 => ?_
    have hsE := hs1
    try simp only [zzs] at hsE
    repeat (obtain ⟨hsx, hsE⟩ := hsE)
    cases hb : boolOf (RightP d)
    all_goals have hno := hno
    all_goals rw [hb] at hno
    all_goals try have hno := hno rfl
    all_goals
      repeat' first
        | (with_reducible first | refine Br.yes ?_ | refine Br.no ?_ | refine Br.dec (fun _ => ?_) (fun _ => ?_) | refine Br.beqB (fun _ => ?_) (fun _ => ?_) | refine Br.beqb (fun _ => ?_) (fun _ => ?_) | refine Br.mk (fun _ => ?_) (fun _ => ?_))
        | ((with_reducible first | refine NewB.mk (fun nb hnb => ?_)); have hnb1 := hnb.1.1; have hnb2 := hnb.1.2; try simp only [zzn] at hnb2)
        | simp (dsimp := false) (implicitDefEqProofs := false) (disch := first | assumption | (simp only [zzm]; done) | omega | (with_reducible refine Row.adr (by assumption) ?_; simp only [zzk]; omega) | (simp only [zzl, Nat.reduceAdd]; first | done | omega)) only [go_sem, ↓reduceIte, seval, -List.reduceReplicate, List.toList_toArray, hCl, hCa, hCx]
    all_goals first | (exfalso; omega) | skip
    all_goals
      refine Tri.live [1, 2] ?_
      refine Tri.isPiece [1, 1] Tryz.f3 (by kernel_rfl) ?_
      exact brzoRevR_t hsm hm (hg.mono hle1) (O.mono hle1) fun G' hle => hR G' (hle1.trans hle)
end Go.Proofs.YtefkpedhbijhkaaGreatDoor
namespace Go.Proofs.YtefkpedhbijhkaaGreatDoor.lawBrzoRev
open Go Go.V Go.Proofs Go.ChangeShapes Go.WideShapes Go.RowKit
theorem own : ownKnob Tryz.prog.godebug = none := by kernel_rfl
theorem gTab : Tryz.prog.globalNamed "math/bits.deBruijn64tab" = some 0 := by kernel_rfl
theorem gTabType : (Tryz.prog.globals[0]?).map (·.type) = some 170 := by kernel_rfl
theorem cellsT : Tryz.prog.cellsOf 170 = 64 := by kernel_rfl
theorem cellsE : Tryz.prog.cellsOf 5 = 1 := by kernel_rfl
def tabZ : List Int := [0, 1, 56, 2, 57, 49, 28, 3, 61, 58, 42, 50, 38, 29, 17, 4, 62, 47, 59, 36, 45, 43, 51, 22, 53, 39, 33, 30, 24, 18, 12, 5, 63, 55, 48, 27, 60, 41, 37, 16, 46, 35, 44, 21, 52, 32, 23, 11, 54, 26, 40, 15, 34, 20, 31, 10, 25, 14, 19, 9, 13, 8, 7, 6]
/-- what the row's list gives: the table's cells -/
theorem table {W : World} (h : laidMetH Tryz.prog Rows.brzoRevUptoRow.laid W) : Lib.TabIs Tryz.prog W "math/bits.deBruijn64tab" .u8 tabZ :=
  Lib.tabIs_of_head (rest := []) gTab gTabType Tryz.underlying170 Tryz.underlying5 cellsE cellsT h
theorem tabRow {W : World} (h : laidMetH Tryz.prog Rows.brzoRevUptoRow.laid W) : RowAt (fun b => W.heap[b]?) 0 0 (tabZ.map (Value.int .u8)) :=
  CellsAt.rowAt (W := W) (fun j hj => by
    rw [List.length_map] at hj
    have := (table h).cell gTab j hj
    rw [Nat.zero_add, List.getElem_map, this]
    simp [List.getD, hj]) (by decide)
mutual
theorem bulk {H : Type} : ∀ d : DataW H, bulkV d ≤ Rows.uptoBulk d
  | .lit l => by cases l <;> simp [bulkV, Rows.uptoBulk]
  | .nil => by simp [bulkV, Rows.uptoBulk]
  | .ptr d => by have := bulk d; simp only [bulkV, Rows.uptoBulk]; omega
  | .slice elems spare => by have := bulks elems; have := bulks spare; simp only [bulkV, Rows.uptoBulk]; omega
  | .agg parts => by have := bulks parts; simp only [bulkV, Rows.uptoBulk]; omega
  | .iface _ d => by have := bulk d; simp only [bulkV, Rows.uptoBulk]; omega
  | .map entries => by simp [bulkV]
  | .held _ => by simp [bulkV, Rows.uptoBulk]
theorem bulks {H : Type} : ∀ l : List (DataW H), bulkVs l ≤ Rows.uptoBulkAll l
  | [] => by simp [bulkVs]
  | d :: l => by have := bulk d; have := bulks l; simp only [bulkVs, Rows.uptoBulkAll]; omega
end
set_option maxRecDepth 100000 in
theorem contract (H : Type) (enc : TypeId × Value → H) (W : World) (base : Nat) (args : Array Value) (ds gs : List (DataW H)) (before : List MemPlace)
    (hval : ∀ (j : Nat) t v, Tryz.f3.params[j]? = some t → args[j]? = some v → Value.okWide Tryz.prog W .any base t v)
    (hW : DataW.Whole enc Tryz.prog Tryz.f3.params.toList Rows.brzoRevSpec.vars false W args.toList ds gs before) (hk : Rows.uptoSmall H (ds ++ gs) = true) (hL : laidMetH Tryz.prog Rows.brzoRevUptoRow.laid W) :
    Calls Tryz.prog 3 args W fun e W' => ∃ v, e = .returned v ∧ Rows.brzoRevSpec.post enc Tryz.prog Tryz.f3 false true false false W args v W' := by
  refine door (tb := 4) seatok ⟨_, _, Tryz.func3, rfl, by kernel_rfl⟩ rfl (by kernel_rfl) Tryz.underlying4 (fun t ht => ?_) (fun ds hd => ?_) hW ?_
  · have := List.all_eq_true.1 (show (Tryz.f3.params.toList.all fun t => decide (t < Tryz.prog.types.size)) = true by kernel_rfl) t ht
    simpa using this
  · rw [Tryz.params3] at hd
    rcases ds with _ | ⟨e0, _ | ⟨e1, _ | ⟨e9, ds⟩⟩⟩ <;> first | rfl | (simp at hd)
  obtain ⟨p, q, hA, hV, rfl, hfz, hnd⟩ := hW
  rw [Tryz.params3] at hA hval
  obtain ⟨v0, vs0, d0, ds0, p0, q0, hargs0, rfl, rfl, h0, r_0⟩ := trodAll_cons hA
  obtain ⟨v1, vs1, d1, ds1, p1, q1, hargs1, rfl, rfl, h1, r_1⟩ := trodAll_cons r_0
  obtain ⟨rfl, rfl, rfl⟩ := trodAll_nil r_1
  obtain rfl : args = #[v0, v1] := by cases args; simp_all
  obtain ⟨rfl, rfl⟩ := trodVars_none hV
  have hb : bulkVs [d0, d1] ≤ 1048576 := Nat.le_trans (bulks _) (of_decide_eq_true hk)
  simp only [bulkVs] at hb
  have htab := tabRow hL
  obtain ⟨a0, s0, w0⟩ := rd_dfa (hval 0 27 v0 rfl rfl) h0
  obtain ⟨a1, rfl, w1⟩ := rd_int tok (t := 3) rfl (hval 1 3 v1 rfl rfl) h1
  exact brzoRev_t (w0 (by omega)) (And.intro w1.1 (Int.lt_of_le_of_lt w1.2 (by decide))) htab s0 fun _ _ => rfl
/-- a world for the witness: the table holds what its initialiser lays -/
noncomputable def laidWorld (os : Os) : World :=
  { World.holding Tryz.prog os ⟨#[], #[], []⟩ with heap := (World.holding Tryz.prog os ⟨#[], #[], []⟩).heap.modify 0 fun
      | .cells _ t frozen => .cells #[.int .u8 0, .int .u8 1, .int .u8 56, .int .u8 2, .int .u8 57, .int .u8 49, .int .u8 28, .int .u8 3, .int .u8 61, .int .u8 58, .int .u8 42, .int .u8 50, .int .u8 38, .int .u8 29, .int .u8 17, .int .u8 4, .int .u8 62, .int .u8 47, .int .u8 59, .int .u8 36, .int .u8 45, .int .u8 43, .int .u8 51, .int .u8 22, .int .u8 53, .int .u8 39, .int .u8 33, .int .u8 30, .int .u8 24, .int .u8 18, .int .u8 12, .int .u8 5, .int .u8 63, .int .u8 55, .int .u8 48, .int .u8 27, .int .u8 60, .int .u8 41, .int .u8 37, .int .u8 16, .int .u8 46, .int .u8 35, .int .u8 44, .int .u8 21, .int .u8 52, .int .u8 32, .int .u8 23, .int .u8 11, .int .u8 54, .int .u8 26, .int .u8 40, .int .u8 15, .int .u8 34, .int .u8 20, .int .u8 31, .int .u8 10, .int .u8 25, .int .u8 14, .int .u8 19, .int .u8 9, .int .u8 13, .int .u8 8, .int .u8 7, .int .u8 6] t frozen
      | o => o }
theorem laid_met (os : Os) : laidMet Tryz.prog Rows.brzoRevUptoRow.laid ((laidWorld os).forCall (fun _ _ => 0) ⟨#[], #[.agg (List.replicate 256 (Value.int .u8 0) ++ [Value.int .i64 0, Value.slice none 0 0, Value.slice none 0 0, Value.slice none 0 0]).toArray, .int .i64 0], []⟩).memory :=
  laidMet_of_run' 8 (by kernel_rfl) (by kernel_rfl)
theorem reads (os : Os) {H : Type} (enc : TypeId × Value → H) : ∃ places, DataW.whole enc Tryz.prog ((laidWorld os).forCall (fun _ _ => 0) ⟨#[], #[.agg (List.replicate 256 (Value.int .u8 0) ++ [Value.int .i64 0, Value.slice none 0 0, Value.slice none 0 0, Value.slice none 0 0]).toArray, .int .i64 0], []⟩).memory Tryz.f3.params.toList Rows.brzoRevSpec.vars false (#[.agg (List.replicate 256 (Value.int .u8 0) ++ [Value.int .i64 0, Value.slice none 0 0, Value.slice none 0 0, Value.slice none 0 0]).toArray, Value.int .i64 0] : Array Value).toList 8 = some ([.agg [.agg (List.replicate 256 (.lit (.int .u8 0))), .lit (.int .i64 0), .nil, .nil, .nil], .lit (.int .i64 0)], [], places) :=
  ⟨[], by kernel_rfl⟩
set_option maxRecDepth 100000 in
theorem lifted (os : Os) (started : os.Started) (H : Type) (enc : TypeId × Value → H) (F : Stop.Interp) :
    ReturnsInHanded {} Tryz.checked os 3 .any ((Rows.OpenSpec.upto Rows.brzoRevSpec).preRow enc Tryz.prog Tryz.f3 Rows.brzoRevUptoRow.domain false Rows.brzoRevUptoRow.laid) (((Rows.OpenSpec.upto Rows.brzoRevSpec).at F).post enc Tryz.prog Tryz.f3 false true false false) := by
  obtain ⟨places, hx⟩ := reads os enc
  refine returnsInHanded_of_row (C := Tryz.checked) (s := Rows.OpenSpec.upto Rows.brzoRevSpec) own started (by kernel_rfl) Tryz.func3
    (witness_row_at (enc := enc) (C := Tryz.checked) false (laidWorld os) #[.agg (List.replicate 256 (Value.int .u8 0) ++ [Value.int .i64 0, Value.slice none 0 0, Value.slice none 0 0, Value.slice none 0 0]).toArray, .int .i64 0] rfl (by kernel_rfl) (by kernel_rfl) (by kernel_rfl)
      (OpenSpec.preRow_of_cond 8 hx (by kernel_rfl) (fun k hk => by cases hk; kernel_rfl) (by kernel_rfl) (laid_met os))) ?_
  intro W base args ds gs before hval hW _ hcond _ hL _ _
  exact contract H enc W base args ds gs before hval hW (hcond _ rfl) hL
theorem over : Rows.BrzoRevUptoSaid :=
  OpenClaim.holds_of_cond 3 Tryz.f3 rfl rfl rfl rfl rfl rfl rfl ⟨rfl, rfl, rfl, rfl, rfl⟩ rfl rfl rfl rfl rfl (by kernel_rfl) Tryz.func3 (by kernel_rfl)
    (of_decide_eq_true (by kernel_rfl)) (by unfold Func.isWrapper; first | (rw [if_pos (by decide +kernel)]; kernel_rfl) | (rw [if_neg (by decide +kernel)]; exact ⟨rfl, rfl⟩))
    (fun os started H enc _ F => by rw [OpenClaim.pre_eq_preRow]; exact lifted os started H enc F)
/-- no parameter wants a stand-in; the program's own looks are off -/
theorem plain (f : FuncId) (fn : Func) (hf : Tryz.pinned.checked.prog.funcNamed "doublet/doubletlaw27.BrzoRev" = some f) (hfn : Tryz.pinned.checked.prog.funcs[f]? = some fn) :
    false = Tryz.pinned.checked.prog.looks [] ∧ ∀ (j : Nat) t, fn.params[j]? = some t → Tryz.pinned.checked.prog.wantsStandIn t = false := by
  obtain rfl : f = 3 := Option.some.inj ((show Tryz.prog.funcNamed "doublet/doubletlaw27.BrzoRev" = some 3 by kernel_rfl).symm.trans hf) |>.symm
  obtain rfl : fn = Tryz.f3 := (Option.some.inj (Tryz.func3.symm.trans hfn)).symm
  refine ⟨by kernel_rfl, fun j t ht => ?_⟩
  rw [Tryz.params3] at ht
  have hm := Array.mem_of_getElem? ht
  simp only [List.mem_toArray, List.mem_cons, List.not_mem_nil, or_false] at hm
  rcases hm with rfl | rfl
  · exact (show Tryz.prog.wantsStandIn 27 = false by kernel_rfl)
  · exact (show Tryz.prog.wantsStandIn 3 = false by kernel_rfl)
theorem proved : Rows.BrzoRevUptoCardSaid :=
  Claim7.holds_tied_plain_at .later [] _ _ _ _ over (fun _ h => by cases h) (by kernel_rfl) (fun _ h => by cases h) brzoRevUpto_row_tie rfl ⟨rfl, rfl⟩ (by kernel_rfl) rfl plain (by kernel_rfl)
end Go.Proofs.YtefkpedhbijhkaaGreatDoor.lawBrzoRev
