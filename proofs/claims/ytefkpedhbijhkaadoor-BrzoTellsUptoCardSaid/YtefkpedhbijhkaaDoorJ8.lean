/- A part of the proof, joined of several texts: the verification layer, contracts of functions, plain law. -/
import Derived.Test.YtefkpedhbijhkaaDoorJ7
import Derived.Lib.Overlaps
set_option linter.unusedSimpArgs false
set_option linter.unusedVariables false
set_option linter.unusedSectionVars false
namespace Go.Proofs.YtefkpedhbijhkaaDoor
open Go Go.V Go.Proofs
def withD (d : DfaT) (names : List Tx) (g : Tx → Int) : DfaT := ⟨d.of, d.width, d.next, labW d g, names⟩
theorem labW_len (d : DfaT) (g : Tx → Int) : (labW d g).length = d.label.length := by unfold labW; rw [List.length_map]
theorem withD_small {d : DfaT} (hsm : SmallD d) {names : List Tx} (h1 : names.length ≤ 2000000) (h2 : ∀ s ∈ names, s.length ≤ 2000000) (g : Tx → Int) : SmallD (withD d names g) :=
  ⟨hsm.1, hsm.2.1, by show (labW d g).length ≤ _; rw [labW_len]; exact hsm.2.2.1, h1, h2⟩
theorem matN_slS {rows : List (List Int)} {G : PHeap} {bn cn n : Nat} {rv : List Value} (hn : rows.length = n) (hr : Row G (some ⟨bn, 0, none⟩) rv) (hrv : rv.length = n) (hc : n ≤ cn) (h : ∀ i (hi : i < (matN rows).length) (h1 : i < rv.length), ∃ a c, rv[i] = .slice a (matN rows)[i].length c ∧ Row G a (matN rows)[i] ∧ (matN rows)[i].length ≤ c) : SlS G (.slice (some ⟨bn, 0, none⟩) n cn) rows := by
  refine ⟨_, cn, rv, by rw [hn], hr, by omega, by omega, fun i hi h2 => ?_⟩
  have hml : (matN rows).length = rows.length := by unfold matN; rw [List.length_map]
  obtain ⟨a, c, e1, e2, e3⟩ := h i (by omega) h2
  have hg : (matN rows)[i]'(by omega) = rows[i].map (Value.int .i64) := by simp only [matN, List.getElem_map]
  rw [hg] at e1 e2 e3
  rw [List.length_map] at e1 e3
  exact ⟨a, c, e1, e2, e3⟩
set_option maxHeartbeats 8000000 in
theorem withS_t {d : DfaT} (hsm : SmallD d) (hok : RightP d) {names : List Tx} (hnl : names.length ≤ 2000000) {g : Tx → Int} {fid : FuncId} {bx : Nat} {XC : List Value} {tyX : TypeId} {G : PHeap} {H : Heap} {R : Value → PHeap → Heap → Prop} {v v1 : Value} (hv : IsD G d v) (h1 : Sl G str v1 names)
    (hBy : ∀ (s : Tx) (G1 : PHeap) (H1 : Heap) (R1 : Value → PHeap → Heap → Prop), PLe G G1 → s ∈ d.names → R1 (.int .i64 (g s)) G1 ((bx, .cells XC [] tyX) :: H1) → FnT Tryd.prog fid [str s, .pointer (some ⟨bx, 0, none⟩)] G1 ((bx, .cells XC [] tyX) :: H1) R1)
    (hR : ∀ G' v', PLe G G' → Sep G' (keys ((bx, Res.cells XC [] tyX) :: H)) → IsD G' (withD d names g) v' → R v' G' ((bx, .cells XC [] tyX) :: H)) :
    FnT Tryd.prog 58 [v, v1, .func (.func fid) #[] #[.pointer (some ⟨bx, 0, none⟩)]] G ((bx, .cells XC [] tyX) :: H) R := by
  obtain ⟨hof, hofb, _⟩ := id hv
  refine FnT.upd (with_t hsm hok hnl hv h1 hBy fun G1 vs bn cn spn rv bl cl spl F hle hs hvs hF hcn hcl => ?_)
  have hk3 := hok.2.2.1
  have hml : (matN d.next).length = d.next.length := by unfold matN; rw [List.length_map]
  have hrv := hF.lenv
  refine Upd.trans (Upd.shareRow hs.1.1 fun G2 hle2 hs2 hr2 => ?_)
  refine Upd.trans (Upd.shareRow hs2.1.1 fun G3 hle3 hs3 hr3 => ?_)
  refine hF.share hs3 fun G4 hle4 hs4 hall => ?_
  refine hR G4 _ (hle.trans (hle2.trans (hle3.trans hle4))) hs4 ⟨hof, hofb, _, _, _, rfl, ?_, ?_, hvs.mono (hle2.trans (hle3.trans hle4))⟩
  · exact matN_slS (rows := d.next) (by omega) (hr2.mono (hle3.trans hle4)) (by omega) (by omega) hall
  · exact ⟨_, cl, by show Value.slice _ _ _ = Value.slice _ (labW d g).length _; rw [labW_len], hr3.mono hle4, by show (labW d g).length ≤ _; rw [labW_len]; omega⟩
theorem wdf_one {G : PHeap} {d : DfaT} {C : List Value} (h : IsD G d (.agg C.toArray)) : C.all oneV = true := by
  obtain ⟨_, _, vn, vl, vs, e, ⟨an, cn, rs, rfl, _⟩, ⟨al, cl, rfl, _⟩, ⟨ay, cy, rfl, _⟩⟩ := h
  have e2 := congrArg (fun v => match v with | Value.agg a => a.toList | _ => []) e
  simp only [List.toList_toArray] at e2
  rw [e2]; exact cellsD_one rfl rfl rfl
theorem wdf_over {C D : List Value} (h : C.length = 260) (h2 : D.length = 260) : splice C 0 D = D := by
  unfold splice
  rw [List.take_zero, List.nil_append, List.drop_of_length_le (by omega), List.append_nil]
theorem wdf_put {C : List Value} (h : C.length = 260) : splice zeroC 0 C = C := wdf_over zeroC_len h
def fitD (l : List Tx) : DfaT := ⟨List.replicate 256 0, 1, [[0]], [0], l⟩
theorem fitD_iff {l : List Tx} : RightP (fitD l) ↔ namesOk l := by
  constructor
  · exact fun h => h.2.2.2.2.2.1
  · intro h
    refine ⟨Nat.le_refl 1, (by show 1 ≤ 65536; omega), rfl, (by show nums (List.replicate 256 (0 : Int)) = List.replicate 256 0; decide +kernel), by show ((tabO (List.replicate 256 (0 : Int))).length : Int) = 1; decide +kernel, h, fun s h1 h2 => ?_⟩
    have h3 : s < 1 := h1
    obtain rfl : s = 0 := by omega
    refine ⟨rfl, Int.le_refl _, by show (0 : Int) ≤ (l.length : Nat); omega, fun t ht => ?_⟩
    have : t ∈ [(0 : Int)] := ht
    rw [List.mem_singleton] at this
    subst this
    exact ⟨Int.le_refl _, (by show (0 : Int) < 1; omega)⟩
theorem fitD_small {l : List Tx} (h1 : l.length ≤ 2000000) (h2 : ∀ s ∈ l, s.length ≤ 2000000) : SmallD (fitD l) := by
  refine ⟨by show 1 ≤ _; omega, fun r hr => ?_, by show 1 ≤ _; omega, h1, h2⟩
  have : r ∈ [[(0 : Int)]] := hr
  rw [List.mem_singleton] at this
  subst this
  show 1 ≤ _; omega
theorem fitD_w : splice zeroC 256 [Value.int .i64 1] = cellsD (fitD []) (.slice none 0 0) (.slice none 0 0) (.slice none 0 0) := by
  have h0 : zeroC = u8L (fitD []).of ++ [Value.int .i64 0, Value.slice none 0 0, Value.slice none 0 0, Value.slice none 0 0] := by
    unfold fitD u8L
    rw [List.map_replicate]
  rw [h0]
  exact build_w (d := fitD []) List.length_replicate
theorem calleeRightN : V.Callee Tryd.prog 7 := ⟨_, _, Tryd.func7, rfl, by kernel_rfl⟩
set_option maxHeartbeats 8000000 in
theorem fits_t {l : List Tx} (hl : l.length ≤ 2000000) (hls : ∀ s ∈ l, s.length ≤ 2000000) {G : PHeap} {H : Heap} {R : Value → PHeap → Heap → Prop} {v : Value} (hv : Sl G str v l)
    (hR : ∀ G', PLe G G' → Sep G' (keys H) → R (.bool (boolOf (namesOk l))) G' H) : FnT Tryd.prog 57 [v] G H R := by
  have hd : (fitD []).of.length = 256 := List.length_replicate
  have hr1 : ∀ x : Value, List.replicate 1 x = [x] := fun _ => rfl
  have hl2 : ∀ a b c : Value, (cellsD (fitD []) a b c).length = 260 := fun a b c => cellsD_len hd _ _ _
  have ht2 : ∀ a b c : Value, List.take 260 (cellsD (fitD []) a b c) = cellsD (fitD []) a b c := fun a b c => cellsD_all hd _ _ _
  have hputN : ∀ a b c x : Value, splice (cellsD (fitD []) a b c) 257 [x] = cellsD (fitD []) x b c := fun a b c x => cellsD_putN hd _ _ _ _
  have hputL : ∀ a b c x : Value, splice (cellsD (fitD []) a b c) 258 [x] = cellsD (fitD []) a x c := fun a b c x => cellsD_putL hd _ _ _ _
  have hputS : ∀ a b c x : Value, splice (cellsD (fitD []) a b c) 259 [x] = cellsD (fitD []) a b x := fun a b c x => build_s hd _ _ _ _
  obtain ⟨ay, cy, rfl, hry, hcy⟩ := hv
  refine FnT.sep ?_
  refine FnT.body tok [0, 2] Tryd.func57 rfl (by kernel_rfl) (by kernel_rfl) (by show _ ≤ 9; simp) fun hsep => ?_
  rw [Tryd.results57]
  have hsE := hsep
  try simp only [zzs] at hsE
  repeat (obtain ⟨hsx, hsE⟩ := hsE)
  repeat' first
    | (with_reducible first | refine Br.yes ?_ | refine Br.no ?_ | refine Br.dec (fun _ => ?_) (fun _ => ?_) | refine Br.mk (fun _ => ?_) (fun _ => ?_))
    | ((with_reducible first | refine NewB.mk (fun nb hnb => ?_) | refine NewRow.mk (fun nb nsp ncap hnb hncap => ?_)); have hnb1 := hnb.1.1; have hnb2 := hnb.1.2; try simp only [zzn] at hnb2)
    | simp (dsimp := false) (implicitDefEqProofs := false) (disch := first | assumption | (simp only [zzm]; done) | omega | (with_reducible refine Row.adr (by assumption) ?_; simp only [zzk]; omega) | (simp only [zzl, Nat.reduceAdd]; first | done | omega)) only [go_sem, ↓reduceIte, Nat.reduceEqDiff, Nat.reduceAdd, Nat.reduceSub, Nat.reduceMul, Nat.reduceBEq, Nat.reduceLT, Nat.reduceLeDiff, Nat.reduceMod, Nat.reducePow, List.reduceReplicate, UInt8.reduceOfNat, Int.reducePow, Int.reduceDiv, Int.reduceMod, Nat.reduceDiv, Int.reduceNeg, Int.reduceAdd, Int.reduceSub, Int.reduceMul, Int.reduceLE, Int.reduceLT, Int.reduceEq, Int.reduceToNat, reduceCtorEq, -List.reduceReplicate, List.toList_toArray, hr1, zeroC_len, fitD_w, hl2, ht2, hputN, hputL, hputS]
  rename_i c1 y11 y12 y13 c2 y21 y22 y23
  obtain ⟨c3, e0⟩ : ∃ x, x = nb := ⟨_, rfl⟩
  subst e0
  refine FnT.pre calleeRightN (Upd.go (H' := (c3, .cells [.int .i64 0] [] 3) :: (c2, .cells [.slice (some ⟨c1, 0, none⟩) 1 1] [] 24) :: (c1, .cells [.int .i64 0] [] 3) :: H) (by intro fsum; first | exact Nat.le_refl _ | (simp only [zzq]; omega)) ?_)
  refine Upd.trans (Upd.shareRow (by assumption) fun G1 hle1 hs1 r3 => ?_)
  refine Upd.trans (Upd.shareRow hs1.1.1 fun G2 hle2 hs2 r2 => ?_)
  refine Upd.shareRow hs2.1.1 fun G3 hle3 hs3 r1 => ?_
  have k2 := hle3
  have k1 := hle2.trans k2
  have k0 := hle1.trans k1
  have hI : IsD G3 (fitD l) (.agg (cellsD (fitD []) (.slice (some ⟨c2, 0, none⟩) 1 1) (.slice (some ⟨c3, 0, none⟩) 1 1) (.slice ay l.length cy)).toArray) := by
    refine ⟨hd, fun x hx => ?_, _, _, _, rfl, ⟨some ⟨c2, 0, none⟩, 1, _, rfl, r2.mono k2, rfl, Nat.le_refl 1, fun i h h2 => ?_⟩, ⟨some ⟨c3, 0, none⟩, 1, rfl, r3.mono k1, Nat.le_refl 1⟩, ⟨ay, cy, rfl, hry.mono k0, hcy⟩⟩
    · have : x = 0 := List.eq_of_mem_replicate hx
      omega
    · have h3 : i < 1 := h
      match i, h3 with
      | 0, _ => exact ⟨_, _, rfl, r1, Nat.le_refl 1⟩
  have hb : boolOf (RightP (fitD l)) = boolOf (namesOk l) := by
    by_cases h : namesOk l
    · rw [boolOf_yes h, boolOf_yes (fitD_iff.2 h)]
    · rw [boolOf_no h, boolOf_no fun h2 => h (fitD_iff.1 h2)]
  refine right_t (fitD_small hl hls) hI ?_
  rw [hb]
  repeat' first
    | (with_reducible first | refine Br.yes ?_ | refine Br.no ?_ | refine Br.dec (fun _ => ?_) (fun _ => ?_) | refine Br.mk (fun _ => ?_) (fun _ => ?_))
    | ((with_reducible first | refine NewB.mk (fun nb hnb => ?_) | refine NewRow.mk (fun nb nsp ncap hnb hncap => ?_)); have hnb1 := hnb.1.1; have hnb2 := hnb.1.2; try simp only [zzn] at hnb2)
    | simp (dsimp := false) (implicitDefEqProofs := false) (disch := first | assumption | (simp only [zzm]; done) | omega | (with_reducible refine Row.adr (by assumption) ?_; simp only [zzk]; omega) | (simp only [zzl, Nat.reduceAdd]; first | done | omega)) only [go_sem, ↓reduceIte, Nat.reduceEqDiff, Nat.reduceAdd, Nat.reduceSub, Nat.reduceMul, Nat.reduceBEq, Nat.reduceLT, Nat.reduceLeDiff, Nat.reduceMod, Nat.reducePow, List.reduceReplicate, UInt8.reduceOfNat, Int.reducePow, Int.reduceDiv, Int.reduceMod, Nat.reduceDiv, Int.reduceNeg, Int.reduceAdd, Int.reduceSub, Int.reduceMul, Int.reduceLE, Int.reduceLT, Int.reduceEq, Int.reduceToNat, reduceCtorEq, -List.reduceReplicate]
  unfold UpdR
  exact Upd.now fun _ hs => hR G3 k0 hs
def withN (d : DfaT) (l : List Tx) : DfaT := withD d l fun s => findF l s + 1
/-- a machine with other names, or why not -/
noncomputable def namesR (d : DfaT) (l : List Tx) : DfaT × Int :=
  haveI := Classical.propDecidable
  if RightP d then if namesOk l then if ∀ s ∈ usedS d, s ∈ l then (withN d l, 0) else (zeroD, 5) else (zeroD, 1) else (zeroD, 6)
theorem namesR_bad {d : DfaT} {l : List Tx} (h : ¬ RightP d) : namesR d l = (zeroD, 6) := by unfold namesR; rw [if_neg h]
theorem namesR_not {d : DfaT} {l : List Tx} (h : RightP d) (h2 : ¬ namesOk l) : namesR d l = (zeroD, 1) := by unfold namesR; rw [if_pos h, if_neg h2]
theorem namesR_none {d : DfaT} {l : List Tx} (h : RightP d) (h2 : namesOk l) (h3 : ¬ ∀ s ∈ usedS d, s ∈ l) : namesR d l = (zeroD, 5) := by unfold namesR; rw [if_pos h, if_pos h2, if_neg h3]
theorem namesR_ok {d : DfaT} {l : List Tx} (h : RightP d) (h2 : namesOk l) (h3 : ∀ s ∈ usedS d, s ∈ l) : namesR d l = (withN d l, 0) := by unfold namesR; rw [if_pos h, if_pos h2, if_pos h3]
theorem names1_t {l : List Tx} (hl : l.length ≤ 2000000) {bx : Nat} {s : Tx} {G : PHeap} {H : Heap} {R : Value → PHeap → Heap → Prop} {v : Value} (hv : Sl G str v l) (hR : R (.int .i64 (findF l s + 1)) G ((bx, .cells [v] [] 25) :: H)) :
    FnT Tryd.prog 59 [str s, .pointer (some ⟨bx, 0, none⟩)] G ((bx, .cells [v] [] 25) :: H) R := by
  refine FnT.upd ?_
  have hb : -1 ≤ findF l s ∧ findF l s ≤ 2000000 := by
    cases hp : place l s with
    | none => rw [findF_none hp]; omega
    | some n =>
      have := (place_some hp).1
      rw [findF_some hp]; omega
  refine FnT.body tok [0, 1, 3] Tryd.func59 rfl (by kernel_rfl) (by kernel_rfl) (by show _ ≤ 8; simp) fun hsep => ?_
  rw [Tryd.results59]
  have hsE := hsep
  try simp only [zzs] at hsE
  repeat (obtain ⟨hsx, hsE⟩ := hsE)
  repeat' first
    | (with_reducible first | refine Br.yes ?_ | refine Br.no ?_ | refine Br.dec (fun _ => ?_) (fun _ => ?_) | refine Br.mk (fun _ => ?_) (fun _ => ?_))
    | ((with_reducible first | refine NewB.mk (fun nb hnb => ?_)); have hnb1 := hnb.1.1; have hnb2 := hnb.1.2; try simp only [zzn] at hnb2)
    | simp (dsimp := false) (implicitDefEqProofs := false) (disch := first | assumption | (simp only [zzm]; done) | omega | (with_reducible refine Row.adr (by assumption) ?_; simp only [zzk]; omega) | (simp only [zzl, Nat.reduceAdd]; first | done | omega)) only [go_sem, ↓reduceIte, Nat.reduceEqDiff, Nat.reduceAdd, Nat.reduceSub, Nat.reduceMul, Nat.reduceBEq, Nat.reduceLT, Nat.reduceLeDiff, Nat.reduceMod, Nat.reducePow, List.reduceReplicate, UInt8.reduceOfNat, Int.reducePow, Int.reduceDiv, Int.reduceMod, Nat.reduceDiv, Int.reduceNeg, Int.reduceAdd, Int.reduceSub, Int.reduceMul, Int.reduceLE, Int.reduceLT, Int.reduceEq, Int.reduceToNat, reduceCtorEq]
    | with_reducible refine index_t l s hl hv ?_
  all_goals refine Upd.finL ?_ (Upd.now hR) ?_
  any_goals (intro fsum; first | exact Nat.le_refl _ | (simp only [zzq]; omega))
  all_goals rfl
set_option maxHeartbeats 16000000 in
theorem lnames_t {d : DfaT} (hsm : SmallD d) {l : List Tx} (hl : l.length ≤ 2000000) (hls : ∀ s ∈ l, s.length ≤ 2000000) {G : PHeap} {H : Heap} {R : Value → PHeap → Heap → Prop} {v w : Value} (hv : IsD G d v) (hw : Sl G str w l)
    (hR : ∀ G' v', PLe G G' → Sep G' (keys H) → IsD G' (namesR d l).1 v' → R (.tuple #[v', .int .i64 (namesR d l).2]) G' H) : FnT Tryd.prog 42 [v, w] G H R := by
  obtain ⟨C, an, al, ay, cn, cl, cs, rs, rfl, O⟩ := hv.opened
  have hCl := O.len
  have hCa := O.all
  have hw0 := hw
  obtain ⟨aw, cw, rfl, hrw, hcw⟩ := hw
  refine FnT.sep ?_
  by_cases hok : RightP d
  · have hb := boolOf_yes hok
    by_cases hf : namesOk l
    · have hb2 := boolOf_yes hf
      refine FnT.body tok [0, 1, 2, 3, 4, 5, 7, 8, 13, 19, 20, 21, 22, 28] Tryd.func42 rfl (by kernel_rfl) (by kernel_rfl) (by show _ ≤ 35; simp) fun hsep => ?_
      rw [Tryd.results42]
      have hsE := hsep
      try simp only [zzs] at hsE
      repeat (obtain ⟨hsx, hsE⟩ := hsE)
      repeat' first
        | (with_reducible first | refine Br.yes ?_ | refine Br.no ?_ | refine Br.dec (fun _ => ?_) (fun _ => ?_) | refine Br.mk (fun _ => ?_) (fun _ => ?_))
        | ((with_reducible first | refine NewB.mk (fun nb hnb => ?_) | refine NewRow.mk (fun nb nsp ncap hnb hncap => ?_)); have hnb1 := hnb.1.1; have hnb2 := hnb.1.2; try simp only [zzn] at hnb2)
        | simp (dsimp := false) (implicitDefEqProofs := false) (disch := first | assumption | (simp only [zzm]; done) | omega | (with_reducible refine Row.adr (by assumption) ?_; simp only [zzk]; omega) | (simp only [zzl, Nat.reduceAdd]; first | done | omega)) only [go_sem, ↓reduceIte, Nat.reduceEqDiff, Nat.reduceAdd, Nat.reduceSub, Nat.reduceMul, Nat.reduceBEq, Nat.reduceLT, Nat.reduceLeDiff, Nat.reduceMod, Nat.reducePow, List.reduceReplicate, UInt8.reduceOfNat, Int.reducePow, Int.reduceDiv, Int.reduceMod, Nat.reduceDiv, Int.reduceNeg, Int.reduceAdd, Int.reduceSub, Int.reduceMul, Int.reduceLE, Int.reduceLT, Int.reduceEq, Int.reduceToNat, reduceCtorEq, -List.reduceReplicate, List.toList_toArray, hCl, hCa, zeroC_len, zeroC_one, zeroC_take, zeroC_put, hb, hb2]
        | with_reducible refine right_t hsm O.is ?_
        | ((with_reducible refine fits_t hl hls hw0 fun G2 hle2 hs2 => ?_); (have hsE := hs2; try simp only [zzs] at hsE; repeat (obtain ⟨hsx, hsE⟩ := hsE)))
      rename_i b2 h20 h21 h22 b3 h30 h31 h32 q1 q2 q3 q4 q5 q6 q7 q8
      obtain ⟨b4, e0⟩ : ∃ x, x = nb := ⟨_, rfl⟩
      subst e0
      refine used_t hsm (O.is.mono hle2) fun G3 v3 hle3 hs3 hsl3 => ?_
      rw [usedR_ok hok] at hsl3
      obtain ⟨u, hu⟩ : ∃ u, u = usedS d := ⟨_, rfl⟩
      have hul : u.length ≤ 64 := by
        have := usedS_len d
        have := hf
        have := hok.2.2.2.2.2.1.1
        rw [hu]; omega
      have hcase : (∀ s ∈ u, s ∈ l) → namesR d l = (withN d l, 0) := fun h => namesR_ok hok hf (by rw [← hu]; exact h)
      have hcase2 : (¬ ∀ s ∈ u, s ∈ l) → namesR d l = (zeroD, 5) := fun h => namesR_none hok hf (by rw [← hu]; exact h)
      rw [← hu] at hsl3
      clear hu
      obtain ⟨au, cu, rfl, hru, hcu⟩ := hsl3
      have k3 := hle2.trans hle3
      have hw3 := hw0.mono k3
      have hsE := hs3
      try simp only [zzs] at hsE
      repeat (obtain ⟨hsx, hsE⟩ := hsE)
      repeat' first
        | (with_reducible first | refine Br.yes ?_ | refine Br.no ?_ | refine Br.dec (fun _ => ?_) (fun _ => ?_) | refine Br.mk (fun _ => ?_) (fun _ => ?_))
        | ((with_reducible first | refine NewB.mk (fun nb hnb => ?_) | refine NewRow.mk (fun nb nsp ncap hnb hncap => ?_)); have hnb1 := hnb.1.1; have hnb2 := hnb.1.2; try simp only [zzn] at hnb2)
        | simp (dsimp := false) (implicitDefEqProofs := false) (disch := first | assumption | (simp only [zzm]; done) | omega | (with_reducible refine Row.adr (by assumption) ?_; simp only [zzk]; omega) | (simp only [zzl, Nat.reduceAdd]; first | done | omega)) only [go_sem, ↓reduceIte, Nat.reduceEqDiff, Nat.reduceAdd, Nat.reduceSub, Nat.reduceMul, Nat.reduceBEq, Nat.reduceLT, Nat.reduceLeDiff, Nat.reduceMod, Nat.reducePow, List.reduceReplicate, UInt8.reduceOfNat, Int.reducePow, Int.reduceDiv, Int.reduceMod, Nat.reduceDiv, Int.reduceNeg, Int.reduceAdd, Int.reduceSub, Int.reduceMul, Int.reduceLE, Int.reduceLT, Int.reduceEq, Int.reduceToNat, reduceCtorEq, -List.reduceReplicate, List.toList_toArray, hCl, hCa]
      refine Tri.loopU tok [0, 1, 2, 3, 4, 5, 7, 8, 13, 19, 20, 21, 22, 28] (by kernel_rfl) [2, 3, 4, 5, 19, 20, 21] (fun q G' fr H' => ∃ i : Nat, i + q = u.length ∧ (∀ j (h : j < u.length), j < i → u[j] ∈ l) ∧ G' = G3 ∧ H' = (b4, .cells zeroC [] 27) :: (b3, .cells [.slice aw l.length cw] [] 25) :: (b2, .cells C [] 27) :: H ∧ fr = [(2, .pointer (some ⟨b2, 0, none⟩)), (3, .pointer (some ⟨b3, 0, none⟩)), (4, .pointer (some ⟨b4, 0, none⟩)), (5, .int .i64 0), (19, .slice au u.length cu), (20, .int .i64 u.length), (21, .int .i64 (i : Nat))]) (u.length) ?_ ?_
      · exact Upd.now ⟨0, by omega, fun j _ h => by omega, rfl, rfl, rfl⟩
      · rintro q G4 fr H' hle4 hs4 ⟨i, hiq, hall, rfl, rfl, rfl⟩
        have hsE := hs4
        try simp only [zzs] at hsE
        repeat (obtain ⟨hsx, hsE⟩ := hsE)
        by_cases hil : i < u.length
        · have had : Adr au := hru.adr (by rw [List.length_map]; omega)
          by_cases hm : u[i] ∈ l
          · have hdm := decide_eq_true hm
            repeat' first
              | (with_reducible first | refine Br.yes ?_ | refine Br.no ?_ | refine Br.dec (fun _ => ?_) (fun _ => ?_) | refine Br.mk (fun _ => ?_) (fun _ => ?_))
              | ((with_reducible first | refine NewB.mk (fun nb hnb => ?_) | refine NewRow.mk (fun nb nsp ncap hnb hncap => ?_)); have hnb1 := hnb.1.1; have hnb2 := hnb.1.2; try simp only [zzn] at hnb2)
              | simp (dsimp := false) (implicitDefEqProofs := false) (disch := first | assumption | (simp only [zzm]; done) | omega | (with_reducible refine Row.adr (by assumption) ?_; simp only [zzk]; omega) | (simp only [zzl, Nat.reduceAdd]; first | done | omega)) only [go_sem, ↓reduceIte, Nat.reduceEqDiff, Nat.reduceAdd, Nat.reduceSub, Nat.reduceMul, Nat.reduceBEq, Nat.reduceLT, Nat.reduceLeDiff, Nat.reduceMod, Nat.reducePow, List.reduceReplicate, UInt8.reduceOfNat, Int.reducePow, Int.reduceDiv, Int.reduceMod, Nat.reduceDiv, Int.reduceNeg, Int.reduceAdd, Int.reduceSub, Int.reduceMul, Int.reduceLE, Int.reduceLT, Int.reduceEq, Int.reduceToNat, reduceCtorEq, -List.reduceReplicate, Row.obj hru, List.getElem_map, hdm]
              | with_reducible refine contains_t l _ hl hw3 ?_
            exact Upd.now ⟨q - 1, by omega, i + 1, by omega, fun j h hj => by
              by_cases e : j = i
              · subst e; exact hm
              · exact hall j h (by omega), rfl, rfl, rfl⟩
          · have hdm := decide_eq_false hm
            rw [hcase2 fun h => hm (h _ (List.getElem_mem hil))] at hR
            repeat' first
              | (with_reducible first | refine Br.yes ?_ | refine Br.no ?_ | refine Br.dec (fun _ => ?_) (fun _ => ?_) | refine Br.mk (fun _ => ?_) (fun _ => ?_))
              | ((with_reducible first | refine NewB.mk (fun nb hnb => ?_) | refine NewRow.mk (fun nb nsp ncap hnb hncap => ?_)); have hnb1 := hnb.1.1; have hnb2 := hnb.1.2; try simp only [zzn] at hnb2)
              | simp (dsimp := false) (implicitDefEqProofs := false) (disch := first | assumption | (simp only [zzm]; done) | omega | (with_reducible refine Row.adr (by assumption) ?_; simp only [zzk]; omega) | (simp only [zzl, Nat.reduceAdd]; first | done | omega)) only [go_sem, ↓reduceIte, Nat.reduceEqDiff, Nat.reduceAdd, Nat.reduceSub, Nat.reduceMul, Nat.reduceBEq, Nat.reduceLT, Nat.reduceLeDiff, Nat.reduceMod, Nat.reducePow, List.reduceReplicate, UInt8.reduceOfNat, Int.reducePow, Int.reduceDiv, Int.reduceMod, Nat.reduceDiv, Int.reduceNeg, Int.reduceAdd, Int.reduceSub, Int.reduceMul, Int.reduceLE, Int.reduceLT, Int.reduceEq, Int.reduceToNat, reduceCtorEq, -List.reduceReplicate, Row.obj hru, List.getElem_map, hdm, zeroC_len, zeroC_one, zeroC_take, zeroC_put]
              | with_reducible refine contains_t l _ hl hw3 ?_
            unfold UpdR
            refine Upd.leave (H' := H) (by intro fsum; first | exact Nat.le_refl _ | (simp only [zzq]; omega)) ?_
            exact fun _ hs => hR G4 _ k3 hs (zeroD_is _)
        · obtain rfl : i = u.length := by omega
          rw [hcase fun s hs => by
            obtain ⟨j, hj, rfl⟩ := List.getElem_of_mem hs
            exact hall j hj hj] at hR
          repeat' first
            | (with_reducible first | refine Br.yes ?_ | refine Br.no ?_ | refine Br.dec (fun _ => ?_) (fun _ => ?_) | refine Br.mk (fun _ => ?_) (fun _ => ?_))
            | ((with_reducible first | refine NewB.mk (fun nb hnb => ?_) | refine NewRow.mk (fun nb nsp ncap hnb hncap => ?_)); have hnb1 := hnb.1.1; have hnb2 := hnb.1.2; try simp only [zzn] at hnb2)
            | simp (dsimp := false) (implicitDefEqProofs := false) (disch := first | assumption | (simp only [zzm]; done) | omega | (with_reducible refine Row.adr (by assumption) ?_; simp only [zzk]; omega) | (simp only [zzl, Nat.reduceAdd]; first | done | omega)) only [go_sem, ↓reduceIte, Nat.reduceEqDiff, Nat.reduceAdd, Nat.reduceSub, Nat.reduceMul, Nat.reduceBEq, Nat.reduceLT, Nat.reduceLeDiff, Nat.reduceMod, Nat.reducePow, List.reduceReplicate, UInt8.reduceOfNat, Int.reducePow, Int.reduceDiv, Int.reduceMod, Nat.reduceDiv, Int.reduceNeg, Int.reduceAdd, Int.reduceSub, Int.reduceMul, Int.reduceLE, Int.reduceLT, Int.reduceEq, Int.reduceToNat, reduceCtorEq, -List.reduceReplicate, List.toList_toArray, hCl, hCa]
          refine FnT.leave (H' := (b3, .cells [.slice aw l.length cw] [] 25) :: (b4, .cells zeroC [] 27) :: (b2, .cells C [] 27) :: H) ?_ (by intro fsum; first | exact Nat.le_refl _ | (simp only [zzq]; omega))
          refine withS_t hsm hok hl (O.is.mono k3) hw3 (g := fun s => findF l s + 1) (fun s G1 H1 R1 hle hs hR1 => names1_t hl (hw3.mono hle) hR1) fun G5 v5 hle5 hs5 hI5 => ?_
          obtain ⟨C5, an5, al5, ay5, cn5, cl5, cs5, rs5, rfl, O5⟩ := hI5.opened
          have hC5l := O5.len
          have hone5 := wdf_one O5.is
          have hput5 := wdf_put hC5l
          have htk5 : List.take 260 C5 = C5 := List.take_of_length_le (by omega)
          have hsE := hs5
          try simp only [zzs] at hsE
          repeat (obtain ⟨hsx, hsE⟩ := hsE)
          repeat' first
            | (with_reducible first | refine Br.yes ?_ | refine Br.no ?_ | refine Br.dec (fun _ => ?_) (fun _ => ?_) | refine Br.mk (fun _ => ?_) (fun _ => ?_))
            | ((with_reducible first | refine NewB.mk (fun nb hnb => ?_) | refine NewRow.mk (fun nb nsp ncap hnb hncap => ?_)); have hnb1 := hnb.1.1; have hnb2 := hnb.1.2; try simp only [zzn] at hnb2)
            | simp (dsimp := false) (implicitDefEqProofs := false) (disch := first | assumption | (simp only [zzm]; done) | omega | (with_reducible refine Row.adr (by assumption) ?_; simp only [zzk]; omega) | (simp only [zzl, Nat.reduceAdd]; first | done | omega)) only [go_sem, ↓reduceIte, Nat.reduceEqDiff, Nat.reduceAdd, Nat.reduceSub, Nat.reduceMul, Nat.reduceBEq, Nat.reduceLT, Nat.reduceLeDiff, Nat.reduceMod, Nat.reducePow, List.reduceReplicate, UInt8.reduceOfNat, Int.reducePow, Int.reduceDiv, Int.reduceMod, Nat.reduceDiv, Int.reduceNeg, Int.reduceAdd, Int.reduceSub, Int.reduceMul, Int.reduceLE, Int.reduceLT, Int.reduceEq, Int.reduceToNat, reduceCtorEq, -List.reduceReplicate, List.toList_toArray, hC5l, hone5, hput5, htk5, zeroC_len]
          unfold UpdR
          refine Upd.leave (H' := H) (by intro fsum; first | exact Nat.le_refl _ | (simp only [zzq]; omega)) ?_
          exact fun _ hs => hR G5 _ (k3.trans hle5) hs O5.is
    · have hb2 := boolOf_no hf
      rw [namesR_not hok hf] at hR
      refine FnT.body tok [0, 1, 2, 3, 4, 5, 7, 8, 13, 19, 20, 21, 22, 28] Tryd.func42 rfl (by kernel_rfl) (by kernel_rfl) (by show _ ≤ 35; simp) fun hsep => ?_
      rw [Tryd.results42]
      have hsE := hsep
      try simp only [zzs] at hsE
      repeat (obtain ⟨hsx, hsE⟩ := hsE)
      repeat' first
        | (with_reducible first | refine Br.yes ?_ | refine Br.no ?_ | refine Br.dec (fun _ => ?_) (fun _ => ?_) | refine Br.mk (fun _ => ?_) (fun _ => ?_))
        | ((with_reducible first | refine NewB.mk (fun nb hnb => ?_) | refine NewRow.mk (fun nb nsp ncap hnb hncap => ?_)); have hnb1 := hnb.1.1; have hnb2 := hnb.1.2; try simp only [zzn] at hnb2)
        | simp (dsimp := false) (implicitDefEqProofs := false) (disch := first | assumption | (simp only [zzm]; done) | omega | (with_reducible refine Row.adr (by assumption) ?_; simp only [zzk]; omega) | (simp only [zzl, Nat.reduceAdd]; first | done | omega)) only [go_sem, ↓reduceIte, Nat.reduceEqDiff, Nat.reduceAdd, Nat.reduceSub, Nat.reduceMul, Nat.reduceBEq, Nat.reduceLT, Nat.reduceLeDiff, Nat.reduceMod, Nat.reducePow, List.reduceReplicate, UInt8.reduceOfNat, Int.reducePow, Int.reduceDiv, Int.reduceMod, Nat.reduceDiv, Int.reduceNeg, Int.reduceAdd, Int.reduceSub, Int.reduceMul, Int.reduceLE, Int.reduceLT, Int.reduceEq, Int.reduceToNat, reduceCtorEq, -List.reduceReplicate, List.toList_toArray, hCl, hCa, zeroC_len, zeroC_one, zeroC_take, zeroC_put, hb, hb2]
        | with_reducible refine right_t hsm O.is ?_
        | ((with_reducible refine fits_t hl hls hw0 fun G2 hle2 hs2 => ?_); (have hsE := hs2; try simp only [zzs] at hsE; repeat (obtain ⟨hsx, hsE⟩ := hsE)))
      unfold UpdR
      refine Upd.leave (H' := H) (by intro fsum; first | exact Nat.le_refl _ | (simp only [zzq]; omega)) ?_
      exact fun _ hs => hR G2 _ hle2 hs (zeroD_is _)
  · have hb := boolOf_no hok
    rw [namesR_bad hok] at hR
    refine FnT.body tok [0, 1, 2, 3, 4, 5, 7, 8, 13, 19, 20, 21, 22, 28] Tryd.func42 rfl (by kernel_rfl) (by kernel_rfl) (by show _ ≤ 35; simp) fun hsep => ?_
    rw [Tryd.results42]
    have hsE := hsep
    try simp only [zzs] at hsE
    repeat (obtain ⟨hsx, hsE⟩ := hsE)
    repeat' first
      | (with_reducible first | refine Br.yes ?_ | refine Br.no ?_ | refine Br.dec (fun _ => ?_) (fun _ => ?_) | refine Br.mk (fun _ => ?_) (fun _ => ?_))
      | ((with_reducible first | refine NewB.mk (fun nb hnb => ?_) | refine NewRow.mk (fun nb nsp ncap hnb hncap => ?_)); have hnb1 := hnb.1.1; have hnb2 := hnb.1.2; try simp only [zzn] at hnb2)
      | simp (dsimp := false) (implicitDefEqProofs := false) (disch := first | assumption | (simp only [zzm]; done) | omega | (with_reducible refine Row.adr (by assumption) ?_; simp only [zzk]; omega) | (simp only [zzl, Nat.reduceAdd]; first | done | omega)) only [go_sem, ↓reduceIte, Nat.reduceEqDiff, Nat.reduceAdd, Nat.reduceSub, Nat.reduceMul, Nat.reduceBEq, Nat.reduceLT, Nat.reduceLeDiff, Nat.reduceMod, Nat.reducePow, List.reduceReplicate, UInt8.reduceOfNat, Int.reducePow, Int.reduceDiv, Int.reduceMod, Nat.reduceDiv, Int.reduceNeg, Int.reduceAdd, Int.reduceSub, Int.reduceMul, Int.reduceLE, Int.reduceLT, Int.reduceEq, Int.reduceToNat, reduceCtorEq, -List.reduceReplicate, List.toList_toArray, hCl, hCa, zeroC_len, zeroC_one, zeroC_take, zeroC_put, hb]
      | with_reducible refine right_t hsm O.is ?_
    unfold UpdR
    refine Upd.leave (H' := H) (by intro fsum; first | exact Nat.le_refl _ | (simp only [zzq]; omega)) ?_
    exact fun _ hs => hR G _ (PLe.refl _) hs (zeroD_is _)
theorem usedR_small {d : DfaT} (hsm : SmallD d) : (usedR d).length ≤ 2000000 ∧ ∀ s ∈ usedR d, s.length ≤ 2000000 := by
  have := usedR_len d
  obtain ⟨hm1, hm2, hm3, hm4, hm5⟩ := hsm
  exact ⟨by omega, fun s hs => hm5 s (mem_usedR hs)⟩
/-- a machine with the names that it tells -/
noncomputable def normR (d : DfaT) : DfaT × Int := namesR d (usedR d)
set_option maxHeartbeats 16000000 in
theorem lnorm_t {d : DfaT} (hsm : SmallD d) {G : PHeap} {H : Heap} {R : Value → PHeap → Heap → Prop} {v : Value} (hv : IsD G d v)
    (hR : ∀ G' v', PLe G G' → Sep G' (keys H) → IsD G' (normR d).1 v' → R (.tuple #[v', .int .i64 (normR d).2]) G' H) : FnT Tryd.prog 23 [v] G H R := by
  obtain ⟨C, an, al, ay, cn, cl, cs, rs, rfl, O⟩ := hv.opened
  have hCl := O.len
  have hCa := O.all
  obtain ⟨hu1, hu2⟩ := usedR_small hsm
  refine FnT.sep ?_
  refine FnT.body tok [0, 1, 2, 3] Tryd.func23 rfl (by kernel_rfl) (by kernel_rfl) (by show _ ≤ 10; simp) fun hsep => ?_
  rw [Tryd.results23]
  have hsE := hsep
  try simp only [zzs] at hsE
  repeat (obtain ⟨hsx, hsE⟩ := hsE)
  repeat' first
    | (with_reducible first | refine Br.yes ?_ | refine Br.no ?_ | refine Br.dec (fun _ => ?_) (fun _ => ?_) | refine Br.mk (fun _ => ?_) (fun _ => ?_))
    | ((with_reducible first | refine NewB.mk (fun nb hnb => ?_)); have hnb1 := hnb.1.1; have hnb2 := hnb.1.2; try simp only [zzn] at hnb2)
    | simp (dsimp := false) (implicitDefEqProofs := false) (disch := first | assumption | (simp only [zzm]; done) | omega | (with_reducible refine Row.adr (by assumption) ?_; simp only [zzk]; omega) | (simp only [zzl, Nat.reduceAdd]; first | done | omega)) only [go_sem, ↓reduceIte, Nat.reduceEqDiff, Nat.reduceAdd, Nat.reduceSub, Nat.reduceMul, Nat.reduceBEq, Nat.reduceLT, Nat.reduceLeDiff, Nat.reduceMod, Nat.reducePow, List.reduceReplicate, UInt8.reduceOfNat, Int.reducePow, Int.reduceDiv, Int.reduceMod, Nat.reduceDiv, Int.reduceNeg, Int.reduceAdd, Int.reduceSub, Int.reduceMul, Int.reduceLE, Int.reduceLT, Int.reduceEq, Int.reduceToNat, reduceCtorEq, -List.reduceReplicate, List.toList_toArray, hCl, hCa]
    | with_reducible refine Tri.drawH tok mixed [0, 1, 2, 3] 1 [0, 1] (.op 0 .held (.op 1 .held (.op 2 .keeps (.op 3 .keeps (.op 4 .plain (.op 5 .plain (.op 6 .plain (.op 7 .plain .nil)))))))) (by kernel_rfl) [1] ?_
  rename_i b1 h10 h11 h12
  obtain ⟨b2, e0⟩ : ∃ x, x = nb := ⟨_, rfl⟩
  subst e0
  refine used_t hsm O.is fun G3 v3 hle3 hs3 hsl3 => ?_
  have hsE := hs3
  try simp only [zzs] at hsE
  repeat (obtain ⟨hsx, hsE⟩ := hsE)
  repeat' first
    | (with_reducible first | refine Br.yes ?_ | refine Br.no ?_ | refine Br.dec (fun _ => ?_) (fun _ => ?_) | refine Br.mk (fun _ => ?_) (fun _ => ?_))
    | ((with_reducible first | refine NewB.mk (fun nb hnb => ?_)); have hnb1 := hnb.1.1; have hnb2 := hnb.1.2; try simp only [zzn] at hnb2)
    | simp (dsimp := false) (implicitDefEqProofs := false) (disch := first | assumption | (simp only [zzm]; done) | omega | (with_reducible refine Row.adr (by assumption) ?_; simp only [zzk]; omega) | (simp only [zzl, Nat.reduceAdd]; first | done | omega)) only [go_sem, ↓reduceIte, Nat.reduceEqDiff, Nat.reduceAdd, Nat.reduceSub, Nat.reduceMul, Nat.reduceBEq, Nat.reduceLT, Nat.reduceLeDiff, Nat.reduceMod, Nat.reducePow, List.reduceReplicate, UInt8.reduceOfNat, Int.reducePow, Int.reduceDiv, Int.reduceMod, Nat.reduceDiv, Int.reduceNeg, Int.reduceAdd, Int.reduceSub, Int.reduceMul, Int.reduceLE, Int.reduceLT, Int.reduceEq, Int.reduceToNat, reduceCtorEq, -List.reduceReplicate, List.toList_toArray, hCl, hCa]
  refine lnames_t hsm hu1 hu2 (O.is.mono hle3) hsl3 fun G5 v5 hle5 hs5 hI5 => ?_
  obtain ⟨C5, an5, al5, ay5, cn5, cl5, cs5, rs5, rfl, O5⟩ := hI5.opened
  have hC5l := O5.len
  have hone5 := wdf_one O5.is
  have hput5 := wdf_put hC5l
  have htk5 : List.take 260 C5 = C5 := List.take_of_length_le (by omega)
  have hsE := hs5
  try simp only [zzs] at hsE
  repeat (obtain ⟨hsx, hsE⟩ := hsE)
  repeat' first
    | (with_reducible first | refine Br.yes ?_ | refine Br.no ?_ | refine Br.dec (fun _ => ?_) (fun _ => ?_) | refine Br.mk (fun _ => ?_) (fun _ => ?_))
    | ((with_reducible first | refine NewB.mk (fun nb hnb => ?_)); have hnb1 := hnb.1.1; have hnb2 := hnb.1.2; try simp only [zzn] at hnb2)
    | simp (dsimp := false) (implicitDefEqProofs := false) (disch := first | assumption | (simp only [zzm]; done) | omega | (with_reducible refine Row.adr (by assumption) ?_; simp only [zzk]; omega) | (simp only [zzl, Nat.reduceAdd]; first | done | omega)) only [go_sem, ↓reduceIte, Nat.reduceEqDiff, Nat.reduceAdd, Nat.reduceSub, Nat.reduceMul, Nat.reduceBEq, Nat.reduceLT, Nat.reduceLeDiff, Nat.reduceMod, Nat.reducePow, List.reduceReplicate, UInt8.reduceOfNat, Int.reducePow, Int.reduceDiv, Int.reduceMod, Nat.reduceDiv, Int.reduceNeg, Int.reduceAdd, Int.reduceSub, Int.reduceMul, Int.reduceLE, Int.reduceLT, Int.reduceEq, Int.reduceToNat, reduceCtorEq, -List.reduceReplicate, List.toList_toArray, hC5l, hone5, hput5, htk5, zeroC_len]
  unfold UpdR
  refine Upd.leave (H' := H) (by intro fsum; first | exact Nat.le_refl _ | (simp only [zzq]; omega)) ?_
  exact fun _ hs => hR G5 _ (hle3.trans hle5) hs O5.is
end Go.Proofs.YtefkpedhbijhkaaDoor
namespace Go.Proofs.YtefkpedhbijhkaaDoor
open Go Go.V Go.Proofs
section fill
variable {α : Type} (z : α) (enc : α → Value)
/-- a list filled so far -/
def fillG (B : List α) (s : Nat) : List α := B.take s ++ List.replicate (B.length - s) z
theorem fillG_len (B : List α) {s : Nat} (h : s ≤ B.length) : (fillG z B s).length = B.length := by unfold fillG; simp; omega
theorem fillG_zero (B : List α) : List.replicate B.length (enc z) = (fillG z B 0).map enc := by
  unfold fillG
  rw [List.take_zero, List.nil_append, List.map_replicate, Nat.sub_zero]
theorem fillG_all (B : List α) : fillG z B B.length = B := by unfold fillG; simp
theorem fillG_put {B : List α} {s : Nat} (h : s < B.length) : splice ((fillG z B s).map enc) s [enc B[s]] = (fillG z B (s + 1)).map enc := by
  have hr : List.replicate (B.length - s) z = z :: List.replicate (B.length - (s + 1)) z := by
    rw [show B.length - s = (B.length - (s + 1)) + 1 by omega, List.replicate_succ]
  have hl : (B.take s).length = s := by rw [List.length_take]; omega
  unfold splice fillG
  rw [List.take_succ_eq_append_getElem h, hr, List.map_append, List.take_left' (by rw [List.length_map]; exact hl), List.drop_append, List.length_map, hl]
  rw [List.drop_of_length_le (by rw [List.length_map, hl]; simp), List.nil_append]
  simp only [List.length_singleton, Nat.add_sub_cancel_left, List.map_append, List.map_cons, List.map_nil, List.drop_succ_cons, List.drop_zero, List.append_assoc, List.cons_append, List.nil_append]
end fill
/-- rows of numbers that are written no more -/
def RwI (G : PHeap) (rv : List Value) (M : List (List Int)) : Prop := rv.length = M.length ∧ ∀ i (h : i < M.length) (h2 : i < rv.length), ∃ b c, rv[i] = .slice b M[i].length c ∧ Row G b (M[i].map (Value.int .i64)) ∧ M[i].length ≤ c
theorem RwI.nil (G : PHeap) : RwI G [] [] := ⟨rfl, fun i h => by cases h⟩
theorem RwI.mono {G G' : PHeap} (hle : PLe G G') {rv : List Value} {M : List (List Int)} (h : RwI G rv M) : RwI G' rv M := by
  refine ⟨h.1, fun i h1 h2 => ?_⟩
  obtain ⟨b, c, e1, e2, e3⟩ := h.2 i h1 h2
  exact ⟨b, c, e1, e2.mono hle, e3⟩
theorem RwI.snoc {G : PHeap} {rv : List Value} {M : List (List Int)} (h : RwI G rv M) {b : Option Addr} {c : Nat} {r : List Int} (hr : Row G b (r.map (Value.int .i64))) (hc : r.length ≤ c) : RwI G (rv ++ [.slice b r.length c]) (M ++ [r]) := by
  have h1 := h.1
  refine ⟨by simp [h1], fun i hi hi2 => ?_⟩
  rcases Nat.lt_or_ge i M.length with g | g
  · obtain ⟨b', c', e1, e2, e3⟩ := h.2 i g (by omega)
    refine ⟨b', c', ?_, ?_, ?_⟩
    · rw [List.getElem_append_left (by omega), List.getElem_append_left g]; exact e1
    · rw [List.getElem_append_left g]; exact e2
    · rw [List.getElem_append_left g]; exact e3
  · rw [List.length_append, List.length_singleton] at hi
    obtain rfl : i = M.length := by omega
    refine ⟨b, c, ?_, ?_, ?_⟩
    · rw [List.getElem_append_right (by omega), List.getElem_append_right (by omega)]; simp [h1]
    · rw [List.getElem_append_right (by omega)]; simp; exact hr
    · rw [List.getElem_append_right (by omega)]; simp; exact hc
theorem RwI.one {G : PHeap} {rv : List Value} {M : List (List Int)} (h : RwI G rv M) : rv.all oneV = true := by
  refine List.all_eq_true.2 fun v hv => ?_
  obtain ⟨i, hi, rfl⟩ := List.getElem_of_mem hv
  obtain ⟨a, c, e, _⟩ := h.2 i (by have := h.1; omega) hi
  rw [e]; rfl
def decB (b : UInt8) : Int := (b.toNat : Int)
theorem decB_inj (a b : UInt8) (h : decB a = decB b) : a = b := by
  unfold decB at h
  exact UInt8.toNat_inj.1 (by omega)
def labB (d : DfaT) : List UInt8 := d.label.map fun k => UInt8.ofNat k.toNat
theorem labB_len (d : DfaT) : (labB d).length = d.label.length := by unfold labB; rw [List.length_map]
theorem labB_dec {d : DfaT} (hok : RightP d) : (labB d).map decB = d.label := by
  obtain ⟨hk1, hk2, hk3, hk4, hk5, hk6, hk7⟩ := hok
  unfold labB
  rw [List.map_map]
  conv => rhs; rw [← List.map_id d.label]
  refine List.map_congr_left fun k hk => ?_
  obtain ⟨i, hi, rfl⟩ := List.getElem_of_mem hk
  obtain ⟨_, w2, w3, _⟩ := hk7 i (by omega) hi
  have h64 := hk6.1
  show ((UInt8.ofNat (d.label[i]).toNat).toNat : Int) = d.label[i]
  rw [UInt8.toNat_ofNat']
  omega
theorem labB_at {d : DfaT} (hok : RightP d) {i : Nat} (hi : i < d.label.length) : d.label[i] = ((((labB d)[i]'(by rw [labB_len]; exact hi)).toNat : Nat) : Int) := by
  have h := labB_dec hok
  have h2 : ((labB d).map decB)[i]'(by rw [List.length_map, labB_len]; exact hi) = d.label[i] := by simp only [h]
  rw [List.getElem_map] at h2
  exact h2.symm
/-- the lists as bytes -/
def turnB (d : DfaT) (m : Nat) : List (List UInt8) := lsA 0 d.next d.width.toNat (labB d) m
theorem turnB_eq {d : DfaT} (hok : RightP d) (m : Nat) : turnL d m = (turnB d m).map (List.map decB) := by
  unfold turnL turnB
  rw [← lsA_map decB_inj, labB_dec hok]; rfl
def turnMB (d : DfaT) (ls : List (List UInt8)) : DfaT := ⟨d.of, d.width, ls.map fun f => (behsA 0 d.next d.width.toNat f).map (findF ls), ls.map fun f => (((f.headD 0).toNat : Nat) : Int), d.names⟩
theorem turnMB_eq (d : DfaT) (ls : List (List UInt8)) : turnM d (ls.map (List.map decB)) = turnMB d ls := by
  unfold turnM turnMB
  congr 1
  · rw [List.map_map]
    refine List.map_congr_left fun f _ => ?_
    show (behsA 0 d.next d.width.toNat (f.map decB)).map _ = _
    unfold behsA
    rw [List.map_map, List.map_map]
    refine List.map_congr_left fun k _ => ?_
    show findF _ (behA (decB 0) d.next (f.map decB) k) = findF ls (behA 0 d.next f k)
    rw [behA_map, findF_map decB_inj]
  · rw [List.map_map]
    refine List.map_congr_left fun f _ => ?_
    cases f <;> rfl
theorem turnR_ok {d : DfaT} (hok : RightP d) {m : Nat} (h : (turnB d m).length ≤ m) : turnR d m = (turnMB d (turnB d m), true) := by
  unfold turnR
  rw [turnB_eq hok, List.length_map, if_pos h, turnMB_eq]
theorem turnR_no {d : DfaT} (hok : RightP d) {m : Nat} (h : ¬ (turnB d m).length ≤ m) : turnR d m = (zeroD, false) := by
  unfold turnR
  rw [turnB_eq hok, List.length_map, if_neg h]
theorem turnB_succ {d : DfaT} {i : Nat} (h : i < (turnB d i).length) : turnB d (i + 1) = (behsA 0 d.next d.width.toNat (turnB d i)[i]).foldl metA (turnB d i) := lsA_succ h
theorem turnB_pre (d : DfaT) {i j : Nat} (h : i ≤ j) : turnB d i <+: turnB d j := lsA_prefix _ _ _ h
def rowsB (d : DfaT) (i : Nat) : List (List Int) := ((turnB d i).take i).map fun f => (behsA 0 d.next d.width.toNat f).map (findF (turnB d i))
def labsB (d : DfaT) (i : Nat) : List Int := ((turnB d i).take i).map fun f => (((f.headD 0).toNat : Nat) : Int)
theorem take_pre {α : Type} {a b : List α} (h : a <+: b) {n : Nat} (hn : n ≤ a.length) : b.take n = a.take n := by
  obtain ⟨r, rfl⟩ := h
  rw [List.take_append_of_le_length hn]
theorem rowsB_succ {d : DfaT} {i : Nat} (h : i < (turnB d i).length) : rowsB d (i + 1) = rowsB d i ++ [(behsA 0 d.next d.width.toNat (turnB d i)[i]).map (findF (turnB d (i + 1)))] := by
  unfold rowsB
  rw [take_pre (turnB_pre d (Nat.le_succ i)) (by omega), List.take_succ_eq_append_getElem h, List.map_append]
  congr 1
  refine List.map_congr_left fun f hf => ?_
  refine List.map_congr_left fun x hx => ?_
  obtain ⟨j, hj, rfl⟩ := List.getElem_of_mem hf
  rw [List.getElem_take] at hx
  obtain ⟨k, hk, rfl⟩ := List.mem_map.1 hx
  have hji : j < i := by rw [List.length_take] at hj; omega
  have hm : behA 0 d.next ((turnB d i)[j]'(by omega)) k ∈ turnB d i := lsA_closed hji (by show j < (turnB d i).length; omega) (List.mem_range.1 hk)
  obtain ⟨r, hr⟩ := turnB_pre d (Nat.le_succ i)
  rw [← hr, findF_app hm]
theorem labsB_succ {d : DfaT} {i : Nat} (h : i < (turnB d i).length) : labsB d (i + 1) = labsB d i ++ [((((turnB d i)[i].headD 0).toNat : Nat) : Int)] := by
  unfold labsB
  rw [take_pre (turnB_pre d (Nat.le_succ i)) (by omega), List.take_succ_eq_append_getElem h, List.map_append]; rfl
theorem turnB_end {d : DfaT} {i m : Nat} (h : (turnB d i).length = i) (hm : i ≤ m) : turnB d m = turnB d i ∧ turnMB d (turnB d i) = ⟨d.of, d.width, rowsB d i, labsB d i, d.names⟩ := by
  refine ⟨lsA_stop (by show (turnB d i).length ≤ i; omega) m hm, ?_⟩
  unfold turnMB rowsB labsB
  rw [List.take_of_length_le (by omega)]
/-- the lists when so many classes of a row were gone through -/
def midB (d : DfaT) (i k : Nat) : List (List UInt8) := ((behsA 0 d.next d.width.toNat ((turnB d i).getD i [])).take k).foldl metA (turnB d i)
theorem midB_zero (d : DfaT) (i : Nat) : midB d i 0 = turnB d i := by unfold midB; rw [List.take_zero]; rfl
theorem midB_succ {d : DfaT} {i k : Nat} (hk : k < d.width.toNat) : midB d i (k + 1) = metA (midB d i k) (behA 0 d.next ((turnB d i).getD i []) k) := by
  have hl : k < (behsA 0 d.next d.width.toNat ((turnB d i).getD i [])).length := by unfold behsA; rw [List.length_map, List.length_range]; exact hk
  unfold midB
  rw [List.take_succ_eq_append_getElem hl, List.foldl_append, List.foldl_cons, List.foldl_nil]
  congr 1
  simp only [behsA, List.getElem_map, List.getElem_range]
theorem midB_all {d : DfaT} {i : Nat} (h : i < (turnB d i).length) : midB d i d.width.toNat = turnB d (i + 1) := by
  rw [turnB_succ h]
  unfold midB
  rw [List.take_of_length_le (by unfold behsA; rw [List.length_map, List.length_range]; exact Nat.le_refl _), List.getD_eq_getElem?_getD, List.getElem?_eq_getElem h]; rfl
theorem midB_pre {d : DfaT} {i j k : Nat} (h : j ≤ k) : midB d i j <+: midB d i k := by
  unfold midB
  obtain ⟨m, rfl⟩ := Nat.exists_eq_add_of_le h
  rw [List.take_add, List.foldl_append]
  exact foldA_prefix _ _
set_option maxHeartbeats 8000000 in
theorem q23_t {d : DfaT} (hd : d.of.length = 256) {i : Nat} (hi : i ≤ 70000) {G : PHeap} {H : Heap} {v1 v2 v4 v5 v6 v7 v12 vn vl vs : Value} {a7 : Option Addr} {n7 c7 : Nat} {b4 : Nat} {rv : List Value} {kn : Heap} (hone : rv.all oneV = true) (hkn : SliceO [] 24 1 vn i rv kn) :
    Tri Tryd.prog Tryd.f14.ntmps (piece [1, 1, 1, 1, 1, 1, 1, 0, 1, 0, 0, 1, 0, 0, 1, 1, 1, 0] Tryd.f14) G [(1, v1), (2, v2), (4, v4), (5, v5), (6, v6), (7, v7), (11, .pointer (some ⟨b4, 0, none⟩)), (12, v12), (14, .slice a7 n7 c7)] ((b4, .cells (cellsD d vn vl vs) [] 27) :: (kn ++ H)) (onlyN fun G' fr' H' =>
      ∃ vn' kn', G' = G ∧ SliceO [] 24 1 vn' (i + 1) (rv ++ [.slice a7 n7 c7]) kn' ∧ restrict [1, 2, 4, 5, 6, 7, 11, 12] fr' = [(1, v1), (2, v2), (4, v4), (5, v5), (6, v6), (7, v7), (11, .pointer (some ⟨b4, 0, none⟩)), (12, v12)] ∧ H' = (b4, .cells (cellsD d vn' vl vs) [] 27) :: (kn' ++ H)) := by
  have hr1 : ∀ x : Value, List.replicate 1 x = [x] := fun _ => rfl
  have hl2 : ∀ a b c : Value, (cellsD d a b c).length = 260 := fun a b c => cellsD_len hd _ _ _
  have hg1 : ∀ a b c : Value, (cellsD d a b c)[257]? = some a := fun a b c => cellsD_n hd _ _ _
  have hputN : ∀ a b c x : Value, splice (cellsD d a b c) 257 [x] = cellsD d x b c := fun a b c x => cellsD_putN hd _ _ _ _
  refine Tri.sepT fun hs0 => ?_
  rcases hkn with ⟨aa, rfl, hi0, hx, rfl⟩ | ⟨bl, cc, sp, rfl, rfl, hx, hcl⟩
  · have hsE := hs0
    try simp only [zzs] at hsE
    repeat (obtain ⟨hsx, hsE⟩ := hsE)
    refine Tri.piece (f := Tryd.f14) rfl ?_
    refine Tri.run tok [0, 1, 2, 4, 5, 6, 7, 8, 9, 10, 11, 12, 13, 14, 15, 24, 25, 26, 27, 51, 59, 60, 61, 74, 96] (by kernel_rfl) ?_
    repeat' first
      | (with_reducible first | refine Br.yes ?_ | refine Br.no ?_ | refine Br.dec (fun _ => ?_) (fun _ => ?_) | refine Br.mk (fun _ => ?_) (fun _ => ?_) | refine appV.zero ?_ | refine appV.own ?_)
      | ((with_reducible first | refine NewB.mk (fun nb hnb => ?_) | refine NewRow.mk (fun nb nsp ncap hnb hncap => ?_)); have hnb1 := hnb.1.1; have hnb2 := hnb.1.2; try simp only [zzn] at hnb2)
      | simp (dsimp := false) (implicitDefEqProofs := false) (disch := first | assumption | (simp only [zzm]; done) | omega | (with_reducible refine Row.adr (by assumption) ?_; simp only [zzk]; omega) | (simp only [zzl, Nat.reduceAdd]; first | done | omega)) only [go_sem, ↓reduceIte, Nat.reduceEqDiff, Nat.reduceAdd, Nat.reduceSub, Nat.reduceMul, Nat.reduceBEq, Nat.reduceLT, Nat.reduceLeDiff, Nat.reduceMod, Nat.reducePow, List.reduceReplicate, UInt8.reduceOfNat, Int.reducePow, Int.reduceDiv, Int.reduceMod, Nat.reduceDiv, Int.reduceNeg, Int.reduceAdd, Int.reduceSub, Int.reduceMul, Int.reduceLE, Int.reduceLT, Int.reduceEq, Int.reduceToNat, reduceCtorEq, -List.reduceReplicate, hl2, hg1, hputN, hr1, hone]
    refine Upd.leave (H' := (b4, .cells (cellsD d (.slice (some ⟨nb, 0, none⟩) 1 ncap) vl vs) [] 27) :: ([(nb, .cells [.slice a7 n7 c7] nsp 24)] ++ H)) (by intro fsum; simp only [zzq]; omega) ?_
    exact ⟨_, _, rfl, .inr ⟨nb, ncap, nsp, by rw [hi0], by rw [hx]; rfl, by rw [hx, hi0]; rfl, by rw [hx]; simp at hncap ⊢; omega⟩, rfl, rfl⟩
  · rw [Nat.mul_one] at hx hcl
    have hsE := hs0
    try simp only [zzs] at hsE
    repeat (obtain ⟨hsx, hsE⟩ := hsE)
    refine Tri.piece (f := Tryd.f14) rfl ?_
    refine Tri.run tok [0, 1, 2, 4, 5, 6, 7, 8, 9, 10, 11, 12, 13, 14, 15, 24, 25, 26, 27, 51, 59, 60, 61, 74, 96] (by kernel_rfl) ?_
    repeat' first
      | (with_reducible first | refine Br.yes ?_ | refine Br.no ?_ | refine Br.dec (fun _ => ?_) (fun _ => ?_) | refine Br.mk (fun _ => ?_) (fun _ => ?_) | refine appV.zero ?_ | refine appV.own ?_)
      | ((with_reducible first | refine NewB.mk (fun nb hnb => ?_) | refine NewRow.mk (fun nb nsp ncap hnb hncap => ?_)); have hnb1 := hnb.1.1; have hnb2 := hnb.1.2; try simp only [zzn] at hnb2)
      | simp (dsimp := false) (implicitDefEqProofs := false) (disch := first | assumption | (simp only [zzm]; done) | omega | (with_reducible refine Row.adr (by assumption) ?_; simp only [zzk]; omega) | (simp only [zzl, Nat.reduceAdd]; first | done | omega)) only [go_sem, ↓reduceIte, Nat.reduceEqDiff, Nat.reduceAdd, Nat.reduceSub, Nat.reduceMul, Nat.reduceBEq, Nat.reduceLT, Nat.reduceLeDiff, Nat.reduceMod, Nat.reducePow, List.reduceReplicate, UInt8.reduceOfNat, Int.reducePow, Int.reduceDiv, Int.reduceMod, Nat.reduceDiv, Int.reduceNeg, Int.reduceAdd, Int.reduceSub, Int.reduceMul, Int.reduceLE, Int.reduceLT, Int.reduceEq, Int.reduceToNat, reduceCtorEq, -List.reduceReplicate, hl2, hg1, hputN, hr1, hone]
    refine Upd.leave (H' := (b4, .cells (cellsD d (.slice (some ⟨nb, 0, none⟩) (i + 1) ncap) vl vs) [] 27) :: ([(nb, .cells (rv ++ [.slice a7 n7 c7]) nsp 24)] ++ H)) (by intro fsum; simp only [zzq]; omega) ?_
    exact ⟨_, _, rfl, .inr ⟨nb, ncap, nsp, rfl, rfl, by rw [List.length_append, hx]; simp, by rw [List.length_append, hx]; simp at hncap ⊢; omega⟩, rfl, rfl⟩
set_option maxHeartbeats 8000000 in
theorem q24_t {d : DfaT} (hd : d.of.length = 256) {labs : List Int} {i : Nat} (hi : i ≤ 70000) (hli : labs.length = i) {ks : List (List UInt8)} (hik : i < ks.length) (hkl : ks.length ≤ 70000) (h0 : 0 < ks[i].length) {av sp : List Value} {G : PHeap} (hav : RwB G av ks) {H : Heap} {v1 v2 v4 v5 v6 pt vn vl vs : Value} {b7 b11 b12 bl cc : Nat} {kl : Heap} (hkll : SliceO [] 3 1 vl i (labs.map (Value.int .i64)) kl) :
    Tri Tryd.prog Tryd.f14.ntmps (piece [1, 1, 1, 1, 1, 1, 1, 0, 1, 0, 0, 1, 0, 0, 1, 1, 1, 1] Tryd.f14) G [(1, v1), (2, v2), (4, v4), (5, v5), (6, v6), (7, .pointer (some ⟨b7, 0, none⟩)), (11, .pointer (some ⟨b11, 0, none⟩)), (12, .pointer (some ⟨b12, 0, none⟩))] ((b11, .cells (cellsD d vn vl vs) [] 27) :: (b7, .cells [pt, .slice (some ⟨bl, 0, none⟩) ks.length cc] [] 55) :: (b12, .cells [.int .i64 (i : Nat)] [] 3) :: (bl, .cells av sp 28) :: (kl ++ H)) (onlyN fun G' fr' H' =>
      ∃ vl' kl', G' = G ∧ SliceO [] 3 1 vl' (i + 1) ((labs ++ [(((ks[i].headD 0).toNat : Nat) : Int)]).map (Value.int .i64)) kl' ∧ restrict [1, 2, 4, 5, 6, 7, 11, 12] fr' = [(1, v1), (2, v2), (4, v4), (5, v5), (6, v6), (7, .pointer (some ⟨b7, 0, none⟩)), (11, .pointer (some ⟨b11, 0, none⟩)), (12, .pointer (some ⟨b12, 0, none⟩))] ∧ H' = (b11, .cells (cellsD d vn vl' vs) [] 27) :: (b7, .cells [pt, .slice (some ⟨bl, 0, none⟩) ks.length cc] [] 55) :: (b12, .cells [.int .i64 (i : Nat)] [] 3) :: (bl, .cells av sp 28) :: (kl' ++ H)) := by
  have hr1 : ∀ x : Value, List.replicate 1 x = [x] := fun _ => rfl
  have hl2 : ∀ a b c : Value, (cellsD d a b c).length = 260 := fun a b c => cellsD_len hd _ _ _
  have hg2 : ∀ a b c : Value, (cellsD d a b c)[258]? = some b := fun a b c => cellsD_l hd _ _ _
  have hputL : ∀ a b c x : Value, splice (cellsD d a b c) 258 [x] = cellsD d a x c := fun a b c x => cellsD_putL hd _ _ _ _
  obtain ⟨ba, ca, a1, a2, a3⟩ := hav.2 i hik (by have := hav.1; omega)
  have hgv : (av ++ sp)[i]? = some (.slice ba ks[i].length ca) := by
    rw [List.getElem?_append_left (by have := hav.1; omega), List.getElem?_eq_getElem (by have := hav.1; omega), a1]
  have hada : Adr ba := a2.adr (by rw [List.length_map]; omega)
  have hhd : ks[i].headD 0 = ks[i][0] := by
    have hh : ∀ (l : List UInt8) (h : 0 < l.length), l.headD 0 = l[0] := fun l h => by
      cases l with
      | nil => cases h
      | cons a l => rfl
    exact hh _ h0
  rw [hhd]
  have hb256 := ks[i][0].toNat_lt
  refine Tri.sepT fun hs0 => ?_
  rcases hkll with ⟨aa, rfl, hi0, hx, rfl⟩ | ⟨bk, ck, sk, rfl, rfl, hx, hcl⟩
  · have hsE := hs0
    try simp only [zzs] at hsE
    repeat (obtain ⟨hsx, hsE⟩ := hsE)
    refine Tri.piece (f := Tryd.f14) rfl ?_
    refine Tri.run tok [0, 1, 2, 4, 5, 6, 7, 8, 9, 10, 11, 12, 13, 14, 15, 24, 25, 26, 27, 51, 59, 60, 61, 74, 96] (by kernel_rfl) ?_
    repeat' first
      | (with_reducible first | refine Br.yes ?_ | refine Br.no ?_ | refine Br.dec (fun _ => ?_) (fun _ => ?_) | refine Br.mk (fun _ => ?_) (fun _ => ?_) | refine appV.zero ?_ | refine appV.own ?_)
      | ((with_reducible first | refine NewB.mk (fun nb hnb => ?_) | refine NewRow.mk (fun nb nsp ncap hnb hncap => ?_)); have hnb1 := hnb.1.1; have hnb2 := hnb.1.2; try simp only [zzn] at hnb2)
      | simp (dsimp := false) (implicitDefEqProofs := false) (disch := first | assumption | (simp only [zzm]; done) | omega | (with_reducible refine Row.adr (by assumption) ?_; simp only [zzk]; omega) | (simp only [zzl, Nat.reduceAdd]; first | done | omega)) only [go_sem, ↓reduceIte, Nat.reduceEqDiff, Nat.reduceAdd, Nat.reduceSub, Nat.reduceMul, Nat.reduceBEq, Nat.reduceLT, Nat.reduceLeDiff, Nat.reduceMod, Nat.reducePow, List.reduceReplicate, UInt8.reduceOfNat, Int.reducePow, Int.reduceDiv, Int.reduceMod, Nat.reduceDiv, Int.reduceNeg, Int.reduceAdd, Int.reduceSub, Int.reduceMul, Int.reduceLE, Int.reduceLT, Int.reduceEq, Int.reduceToNat, reduceCtorEq, -List.reduceReplicate, hl2, hg2, hputL, hr1, hgv, Row.obj0 a2, List.getElem_map, byteV]
      | with_reducible refine Tri.drawS tok mixed [0, 1, 2, 4, 5, 6, 7, 8, 9, 10, 11, 12, 13, 14, 15, 24, 25, 26, 27, 51, 59, 60, 61, 74, 96] 24 [1, 3, 4, 6, 8] (.op 0 .plain (.op 1 .held (.op 2 .plain (.op 3 .held (.op 4 .held (.op 5 .plain (.op 6 .held (.op 7 .plain (.op 8 .held (.op 9 .plain (.op 10 .keeps (.op 11 .keeps (.op 12 .plain (.op 13 .plain .nil)))))))))))))) (by kernel_rfl) [(b11, .cells (cellsD d vn (.slice aa 0 0) vs) [] 27), (b7, .cells [pt, .slice (some ⟨bl, 0, none⟩) ks.length cc] [] 55), (b12, .cells [.int .i64 (i : Nat)] [] 3), (bl, .cells av sp 28)] (by intro fsum; first | exact Nat.le_refl _ | (simp only [zzq]; omega)) ?_
    refine Upd.leave (H' := (b11, .cells (cellsD d vn (.slice (some ⟨nb, 0, none⟩) 1 ncap) vs) [] 27) :: (b7, .cells [pt, .slice (some ⟨bl, 0, none⟩) ks.length cc] [] 55) :: (b12, .cells [.int .i64 (i : Nat)] [] 3) :: (bl, .cells av sp 28) :: ([(nb, .cells [.int .i64 (ks[i][0].toNat : Nat)] nsp 3)] ++ H)) (by intro fsum; simp only [zzq]; omega) ?_
    exact ⟨_, _, rfl, .inr ⟨nb, ncap, nsp, by rw [hi0], by rw [List.map_append, hx]; rfl, by rw [List.map_append, hx]; simp; omega, by rw [List.map_append, hx]; simp at hncap ⊢; omega⟩, rfl, rfl⟩
  · rw [List.length_map, Nat.mul_one] at hx hcl
    have hsE := hs0
    try simp only [zzs] at hsE
    repeat (obtain ⟨hsx, hsE⟩ := hsE)
    refine Tri.piece (f := Tryd.f14) rfl ?_
    refine Tri.run tok [0, 1, 2, 4, 5, 6, 7, 8, 9, 10, 11, 12, 13, 14, 15, 24, 25, 26, 27, 51, 59, 60, 61, 74, 96] (by kernel_rfl) ?_
    repeat' first
      | (with_reducible first | refine Br.yes ?_ | refine Br.no ?_ | refine Br.dec (fun _ => ?_) (fun _ => ?_) | refine Br.mk (fun _ => ?_) (fun _ => ?_) | refine appV.zero ?_ | refine appV.own ?_)
      | ((with_reducible first | refine NewB.mk (fun nb hnb => ?_) | refine NewRow.mk (fun nb nsp ncap hnb hncap => ?_)); have hnb1 := hnb.1.1; have hnb2 := hnb.1.2; try simp only [zzn] at hnb2)
      | simp (dsimp := false) (implicitDefEqProofs := false) (disch := first | assumption | (simp only [zzm]; done) | omega | (with_reducible refine Row.adr (by assumption) ?_; simp only [zzk]; omega) | (simp only [zzl, Nat.reduceAdd]; first | done | omega)) only [go_sem, ↓reduceIte, Nat.reduceEqDiff, Nat.reduceAdd, Nat.reduceSub, Nat.reduceMul, Nat.reduceBEq, Nat.reduceLT, Nat.reduceLeDiff, Nat.reduceMod, Nat.reducePow, List.reduceReplicate, UInt8.reduceOfNat, Int.reducePow, Int.reduceDiv, Int.reduceMod, Nat.reduceDiv, Int.reduceNeg, Int.reduceAdd, Int.reduceSub, Int.reduceMul, Int.reduceLE, Int.reduceLT, Int.reduceEq, Int.reduceToNat, reduceCtorEq, -List.reduceReplicate, hl2, hg2, hputL, hr1, hgv, Row.obj0 a2, List.getElem_map, byteV, List.length_map, hli]
      | with_reducible refine Tri.drawS tok mixed [0, 1, 2, 4, 5, 6, 7, 8, 9, 10, 11, 12, 13, 14, 15, 24, 25, 26, 27, 51, 59, 60, 61, 74, 96] 24 [1, 3, 4, 6, 8] (.op 0 .plain (.op 1 .held (.op 2 .plain (.op 3 .held (.op 4 .held (.op 5 .plain (.op 6 .held (.op 7 .plain (.op 8 .held (.op 9 .plain (.op 10 .keeps (.op 11 .keeps (.op 12 .plain (.op 13 .plain .nil)))))))))))))) (by kernel_rfl) [(b11, .cells (cellsD d vn (.slice (some ⟨bk, 0, none⟩) i ck) vs) [] 27), (b7, .cells [pt, .slice (some ⟨bl, 0, none⟩) ks.length cc] [] 55), (b12, .cells [.int .i64 (i : Nat)] [] 3), (bl, .cells av sp 28)] (by intro fsum; first | exact Nat.le_refl _ | (simp only [zzq]; omega)) ?_
    refine Upd.leave (H' := (b11, .cells (cellsD d vn (.slice (some ⟨nb, 0, none⟩) (i + 1) ncap) vs) [] 27) :: (b7, .cells [pt, .slice (some ⟨bl, 0, none⟩) ks.length cc] [] 55) :: (b12, .cells [.int .i64 (i : Nat)] [] 3) :: (bl, .cells av sp 28) :: ([(nb, .cells (labs.map (Value.int .i64) ++ [.int .i64 (ks[i][0].toNat : Nat)]) nsp 3)] ++ H)) (by intro fsum; simp only [zzq]; omega) ?_
    exact ⟨_, _, rfl, .inr ⟨nb, ncap, nsp, rfl, by rw [List.map_append]; rfl, by simp [hli], by simp at hncap ⊢; omega⟩, rfl, rfl⟩
set_option maxHeartbeats 8000000 in
theorem q10_t {d : DfaT} (hsm : SmallD d) {C : List Value} {an al ay : Option Addr} {cn cl cs : Nat} {rs : List Value} {G : PHeap} {H : Heap} (O : OpenD G d C an al ay cn cl cs rs) {v1 v4 v5 v6 v7 : Value} {b2 : Nat} :
    Tri Tryd.prog Tryd.f14.ntmps (piece [1, 1, 1, 1, 1, 1, 0] Tryd.f14) G [(1, v1), (2, .pointer (some ⟨b2, 0, none⟩)), (4, v4), (5, v5), (6, v6), (7, v7)] ((b2, .cells C [] 27) :: H) (onlyN fun G' fr' H' =>
      ∃ b11 vs, PLe G G' ∧ Sl G' str vs d.names ∧ restrict [1, 2, 4, 5, 6, 7, 11] fr' = [(1, v1), (2, .pointer (some ⟨b2, 0, none⟩)), (4, v4), (5, v5), (6, v6), (7, v7), (11, .pointer (some ⟨b11, 0, none⟩))] ∧ H' = (b11, .cells (cellsD d (.slice none 0 0) (.slice none 0 0) vs) [] 27) :: (b2, .cells C [] 27) :: H) := by
  obtain ⟨hm1, hm2, hm3, hm4, hm5⟩ := id hsm
  have hCl := O.len
  have hCw := O.w
  have hCo := O.of
  have hCs := O.s
  have hofl : (u8L d.of).length = 256 := by rw [List.length_map, O.ofl]
  have hb1 := build_of O.ofl
  have hb2 := build_w O.ofl
  have hl1 : (u8L d.of ++ [Value.int .i64 0, Value.slice none 0 0, Value.slice none 0 0, Value.slice none 0 0]).length = 260 := by rw [List.length_append, hofl]; rfl
  have hl2 : ∀ v : Value, (cellsD d (.slice none 0 0) (.slice none 0 0) v).length = 260 := fun v => cellsD_len O.ofl _ _ _
  have hb3 := build_s O.ofl (.slice none 0 0) (.slice none 0 0) (.slice none 0 0)
  have hputz : ∀ v : Value, splice zeroC 0 (cellsD d (.slice none 0 0) (.slice none 0 0) v) = cellsD d (.slice none 0 0) (.slice none 0 0) v := fun v => by
    unfold splice
    rw [List.take_zero, List.nil_append, List.drop_of_length_le (by rw [zeroC_len, hl2]; omega), List.append_nil]
  have hnam : Sl G str (.slice ay d.names.length cs) d.names := ⟨ay, cs, rfl, O.ry, O.ryc⟩
  refine Tri.sepT fun hs0 => ?_
  have hsE := hs0
  try simp only [zzs] at hsE
  repeat (obtain ⟨hsx, hsE⟩ := hsE)
  refine Tri.piece (f := Tryd.f14) rfl ?_
  refine Tri.run tok [0, 1, 2, 4, 5, 6, 7, 8, 9, 10, 11, 12, 13, 14, 15, 24, 25, 26, 27, 51, 59, 60, 61, 74, 96] (by kernel_rfl) ?_
  repeat' first
    | (with_reducible first | refine Br.yes ?_ | refine Br.no ?_ | refine Br.dec (fun _ => ?_) (fun _ => ?_) | refine Br.mk (fun _ => ?_) (fun _ => ?_) | refine appV.zero ?_ | refine appV.own ?_)
    | ((with_reducible first | refine NewB.mk (fun nb hnb => ?_) | refine NewRow.mk (fun nb nsp ncap hnb hncap => ?_)); have hnb1 := hnb.1.1; have hnb2 := hnb.1.2; try simp only [zzn] at hnb2)
    | with_reducible refine Tri.drawH tok mixed [0, 1, 2, 4, 5, 6, 7, 8, 9, 10, 11, 12, 13, 14, 15, 24, 25, 26, 27, 51, 59, 60, 61, 74, 96] 10 [1, 3, 5] (.op 0 .plain (.op 1 .held (.op 2 .plain (.op 3 .held (.op 4 .plain (.op 5 .held (.both (.op 6 .keeps (.op 7 .plain (.op 8 .keeps (.op 9 .plain .nil)))) (.op 8 .keeps (.op 6 .keeps (.op 7 .plain (.op 9 .plain .nil))))))))))) (by kernel_rfl) [2] ?_
    | simp (dsimp := false) (implicitDefEqProofs := false) (disch := first | assumption | (simp only [zzm]; done) | omega | (with_reducible refine Row.adr (by assumption) ?_; simp only [zzk]; omega) | (simp only [zzl, Nat.reduceAdd]; first | done | omega)) only [go_sem, ↓reduceIte, Nat.reduceEqDiff, Nat.reduceAdd, Nat.reduceSub, Nat.reduceMul, Nat.reduceBEq, Nat.reduceLT, Nat.reduceLeDiff, Nat.reduceMod, Nat.reducePow, List.reduceReplicate, UInt8.reduceOfNat, Int.reducePow, Int.reduceDiv, Int.reduceMod, Nat.reduceDiv, Int.reduceNeg, Int.reduceAdd, Int.reduceSub, Int.reduceMul, Int.reduceLE, Int.reduceLT, Int.reduceEq, Int.reduceToNat, reduceCtorEq, -List.reduceReplicate, List.toList_toArray, hCl, hCw, hCo, hCs, hofl, hb1, hb2, hb3, hl1, hl2, zeroC_len, zeroC_one, hputz]
    | with_reducible refine And.intro ?_ ?_
    | ((with_reducible refine clones_t d.names hm4 hnam fun G4 v4 hle4 hs4 hsl4 => ?_); obtain ⟨ay4, cy4, rfl, hr4, hc4⟩ := hsl4; have hone := cellsD_one (d := d) (vn := .slice none 0 0) (vl := .slice none 0 0) (vs := .slice ay4 d.names.length cy4) rfl rfl rfl; (have hsE := hs4; try simp only [zzs] at hsE; repeat (obtain ⟨hsx, hsE⟩ := hsE)))
  all_goals exact Upd.now ⟨nb, _, hle4, ⟨ay4, cy4, rfl, hr4, hc4⟩, rfl, rfl⟩
end Go.Proofs.YtefkpedhbijhkaaDoor
namespace Go.Proofs.YtefkpedhbijhkaaDoor
open Go Go.V Go.Proofs
theorem calleeNumber : V.Callee Tryd.prog 29 := ⟨_, _, Tryd.func29, rfl, by kernel_rfl⟩
set_option maxHeartbeats 16000000 in
theorem q19_t {d : DfaT} (hsm : SmallD d) (hok : RightP d) {G : PHeap} {H : Heap} {C : List Value} {an al ay : Option Addr} {cn cl cs : Nat} {rs : List Value} (O : OpenD G d C an al ay cn cl cs rs) {b2 b6 b7 b12 br bt : Nat} {v1 v4 v5 v11 v59 v60 : Value} {ks : List (List UInt8)} {i k W : Nat} (hi : i < ks.length) (hkl : ks.length ≤ 70000) (hfl : ks[i].length = d.next.length) (hk : (k : Int) < d.width) {Ri : List Int} (hRl : Ri.length = W) (hkW : k < W) (hW : W ≤ 256) (hval : findF (metA ks (behA 0 d.next ks[i] k)) (behA 0 d.next ks[i] k) = Ri[k]'(by omega)) {vall : Value} {av : List Value} {ka tb : Heap} (htb : Tabs tb (.pointer (some ⟨bt, 0, none⟩)) ks) (hka : SliceO [] 28 1 vall ks.length av ka) (hav : RwB G av ks) :
    Tri Tryd.prog Tryd.f14.ntmps (piece [1, 1, 1, 1, 1, 1, 1, 0, 1, 0, 0, 1, 0, 0, 1, 1, 0, 1, 0, 0, 1, 1, 0, 0, 1, 0] Tryd.f14) G [(1, v1), (2, .pointer (some ⟨b2, 0, none⟩)), (4, v4), (5, v5), (6, .pointer (some ⟨b6, 0, none⟩)), (7, .pointer (some ⟨b7, 0, none⟩)), (11, v11), (12, .pointer (some ⟨b12, 0, none⟩)), (13, .func (.func 31) #[] #[.pointer (some ⟨b6, 0, none⟩), .pointer (some ⟨b2, 0, none⟩), .pointer (some ⟨b7, 0, none⟩), .pointer (some ⟨b12, 0, none⟩)]), (14, .slice (some ⟨br, 0, none⟩) W W), (15, .int .i64 (k : Nat)), (59, v59), (60, v60)] ((b7, .cells [.pointer (some ⟨bt, 0, none⟩), vall] [] 55) :: (b6, .cells [.int .i64 d.label.length] [] 3) :: (b2, .cells C [] 27) :: (b12, .cells [.int .i64 (i : Nat)] [] 3) :: (br, .cells ((fillG 0 Ri k).map (Value.int .i64)) [] 3) :: (tb ++ (ka ++ H))) (onlyN fun G' fr' H' =>
      ∃ vall' av' ka' tb', PLe G G' ∧ Tabs tb' (.pointer (some ⟨bt, 0, none⟩)) (metA ks (behA 0 d.next ks[i] k)) ∧ SliceO [] 28 1 vall' (metA ks (behA 0 d.next ks[i] k)).length av' ka' ∧ RwB G' av' (metA ks (behA 0 d.next ks[i] k)) ∧ restrict [1, 2, 4, 5, 6, 7, 11, 12, 13, 14, 59, 60] fr' = [(1, v1), (2, .pointer (some ⟨b2, 0, none⟩)), (4, v4), (5, v5), (6, .pointer (some ⟨b6, 0, none⟩)), (7, .pointer (some ⟨b7, 0, none⟩)), (11, v11), (12, .pointer (some ⟨b12, 0, none⟩)), (13, .func (.func 31) #[] #[.pointer (some ⟨b6, 0, none⟩), .pointer (some ⟨b2, 0, none⟩), .pointer (some ⟨b7, 0, none⟩), .pointer (some ⟨b12, 0, none⟩)]), (14, .slice (some ⟨br, 0, none⟩) W W), (59, v59), (60, v60)] ∧ H' = (b7, .cells [.pointer (some ⟨bt, 0, none⟩), vall'] [] 55) :: (b6, .cells [.int .i64 d.label.length] [] 3) :: (b2, .cells C [] 27) :: (b12, .cells [.int .i64 (i : Nat)] [] 3) :: (br, .cells ((fillG 0 Ri (k + 1)).map (Value.int .i64)) [] 3) :: (tb' ++ (ka' ++ H))) := by
  have hk2 := hok.2.1
  have hk1 := hok.1
  have hk3 := hok.2.2.1
  rcases hka with ⟨_, _, h0, _, _⟩ | ⟨bl2, cc2, sp2, rfl, rfl, hxb, hcb⟩
  · omega
  refine Tri.sepT fun hs0 => ?_
  have hsE := hs0
  try simp only [zzs] at hsE
  repeat (obtain ⟨hsx, hsE⟩ := hsE)
  refine Tri.piece (f := Tryd.f14) rfl ?_
  refine Tri.run tok [0, 1, 2, 4, 5, 6, 7, 8, 9, 10, 11, 12, 13, 14, 15, 24, 25, 26, 27, 51, 59, 60, 61, 74, 96] (by kernel_rfl) ?_
  repeat' first
    | (with_reducible first | refine Br.yes ?_ | refine Br.no ?_ | refine Br.dec (fun _ => ?_) (fun _ => ?_) | refine Br.mk (fun _ => ?_) (fun _ => ?_) | refine appV.zero ?_ | refine appV.own ?_)
    | ((with_reducible first | refine NewB.mk (fun nb hnb => ?_) | refine NewRow.mk (fun nb nsp ncap hnb hncap => ?_)); have hnb1 := hnb.1.1; have hnb2 := hnb.1.2; try simp only [zzn] at hnb2)
    | simp (dsimp := false) (implicitDefEqProofs := false) (disch := first | assumption | (simp only [zzm]; done) | omega | (with_reducible refine Row.adr (by assumption) ?_; simp only [zzk]; omega) | (simp only [zzl, Nat.reduceAdd]; first | done | omega)) only [go_sem, ↓reduceIte, Nat.reduceEqDiff, Nat.reduceAdd, Nat.reduceSub, Nat.reduceMul, Nat.reduceBEq, Nat.reduceLT, Nat.reduceLeDiff, Nat.reduceMod, Nat.reducePow, List.reduceReplicate, UInt8.reduceOfNat, Int.reducePow, Int.reduceDiv, Int.reduceMod, Nat.reduceDiv, Int.reduceNeg, Int.reduceAdd, Int.reduceSub, Int.reduceMul, Int.reduceLE, Int.reduceLT, Int.reduceEq, Int.reduceToNat, reduceCtorEq, -List.reduceReplicate]
  refine FnT.sep (FnT.upd (FnT.leave (H' := (b6, .cells [.int .i64 d.label.length] [] 3) :: (b2, .cells C [] 27) :: (b7, .cells [.pointer (some ⟨bt, 0, none⟩), (.slice (some ⟨bl2, 0, none⟩) ks.length cc2)] [] 55) :: (b12, .cells [.int .i64 (i : Nat)] [] 3) :: (bl2, .cells av sp2 28) :: ((br, .cells ((fillG 0 Ri k).map (Value.int .i64)) [] 3) :: (tb ++ H))) (tbeh_t hsm hok O hi hkl hfl (k := k) hk hav fun bx hsx => ?_) (by intro fsum; simp only [zzq]; omega)))
  refine Upd.go (H' := (bx, .cells ((behA 0 d.next ks[i] k).map byteV) [] 5) :: (b7, .cells [.pointer (some ⟨bt, 0, none⟩), (.slice (some ⟨bl2, 0, none⟩) ks.length cc2)] [] 55) :: (tb ++ ([(bl2, .cells av sp2 28)] ++ ((b6, .cells [.int .i64 d.label.length] [] 3) :: (b2, .cells C [] 27) :: (b12, .cells [.int .i64 (i : Nat)] [] 3) :: (br, .cells ((fillG 0 Ri k).map (Value.int .i64)) [] 3) :: H)))) (by intro fsum; simp only [zzq]; omega) (Upd.now fun _ hs3 => ?_)
  clear hsx hs0
  obtain ⟨x, hx⟩ : ∃ x, x = behA 0 d.next ks[i] k := ⟨_, rfl⟩
  have hbl : x.length = d.next.length := by rw [hx, behA_len]
  rw [← hx] at hval hs3 ⊢
  clear hx
  repeat' first
    | (with_reducible first | refine Br.yes ?_ | refine Br.no ?_ | refine Br.dec (fun _ => ?_) (fun _ => ?_) | refine Br.mk (fun _ => ?_) (fun _ => ?_) | refine appV.zero ?_ | refine appV.own ?_)
    | ((with_reducible first | refine NewB.mk (fun nb hnb => ?_) | refine NewRow.mk (fun nb nsp ncap hnb hncap => ?_)); have hnb1 := hnb.1.1; have hnb2 := hnb.1.2; try simp only [zzn] at hnb2)
    | simp (dsimp := false) (implicitDefEqProofs := false) (disch := first | assumption | (simp only [zzm]; done) | omega | (with_reducible refine Row.adr (by assumption) ?_; simp only [zzk]; omega) | (simp only [zzl, Nat.reduceAdd]; first | done | omega)) only [go_sem, ↓reduceIte, Nat.reduceEqDiff, Nat.reduceAdd, Nat.reduceSub, Nat.reduceMul, Nat.reduceBEq, Nat.reduceLT, Nat.reduceLeDiff, Nat.reduceMod, Nat.reducePow, List.reduceReplicate, UInt8.reduceOfNat, Int.reducePow, Int.reduceDiv, Int.reduceMod, Nat.reduceDiv, Int.reduceNeg, Int.reduceAdd, Int.reduceSub, Int.reduceMul, Int.reduceLE, Int.reduceLT, Int.reduceEq, Int.reduceToNat, reduceCtorEq, -List.reduceReplicate]
  refine FnT.sep (FnT.upd (FnT.pre calleeNumber (Upd.shareRow hs3.1.1 fun G3 hle3 hs4 hr3 => ?_)))
  have hmm := putF_met ks x
  refine lnumber_t (by omega) (by omega) (by omega) htb hkl hr3 (by omega) (.inr ⟨bl2, cc2, sp2, rfl, rfl, hxb, hcb⟩) (hav.mono hle3) fun tb3 vall3 av3 ka3 hs5 htb3 hka3 hav3 => ?_
  rw [hmm.1] at htb3 hka3 hav3
  rw [hmm.2, hval]
  refine Upd.go (H' := (br, .cells ((fillG 0 Ri k).map (Value.int .i64)) [] 3) :: (b7, .cells [.pointer (some ⟨bt, 0, none⟩), vall3] [] 55) :: (b6, .cells [.int .i64 d.label.length] [] 3) :: (b2, .cells C [] 27) :: (b12, .cells [.int .i64 (i : Nat)] [] 3) :: (tb3 ++ (ka3 ++ H))) (by intro fsum; simp only [zzq]; omega) (Upd.now fun _ hs6 => ?_)
  have hput := fillG_put (z := 0) (enc := Value.int .i64) (B := Ri) (s := k) (by omega)
  have hfL : (fillG 0 Ri k).length = W := by rw [fillG_len _ _ (by omega), hRl]
  repeat' first
    | (with_reducible first | refine Br.yes ?_ | refine Br.no ?_ | refine Br.dec (fun _ => ?_) (fun _ => ?_) | refine Br.mk (fun _ => ?_) (fun _ => ?_) | refine appV.zero ?_ | refine appV.own ?_)
    | ((with_reducible first | refine NewB.mk (fun nb hnb => ?_) | refine NewRow.mk (fun nb nsp ncap hnb hncap => ?_)); have hnb1 := hnb.1.1; have hnb2 := hnb.1.2; try simp only [zzn] at hnb2)
    | simp (dsimp := false) (implicitDefEqProofs := false) (disch := first | assumption | (simp only [zzm]; done) | omega | (with_reducible refine Row.adr (by assumption) ?_; simp only [zzk]; omega) | (simp only [zzl, Nat.reduceAdd]; first | done | omega)) only [go_sem, ↓reduceIte, Nat.reduceEqDiff, Nat.reduceAdd, Nat.reduceSub, Nat.reduceMul, Nat.reduceBEq, Nat.reduceLT, Nat.reduceLeDiff, Nat.reduceMod, Nat.reducePow, List.reduceReplicate, UInt8.reduceOfNat, Int.reducePow, Int.reduceDiv, Int.reduceMod, Nat.reduceDiv, Int.reduceNeg, Int.reduceAdd, Int.reduceSub, Int.reduceMul, Int.reduceLE, Int.reduceLT, Int.reduceEq, Int.reduceToNat, reduceCtorEq, -List.reduceReplicate, hput, hfL, List.length_map]
  refine Upd.leave (H' := (b7, .cells [.pointer (some ⟨bt, 0, none⟩), vall3] [] 55) :: (b6, .cells [.int .i64 d.label.length] [] 3) :: (b2, .cells C [] 27) :: (b12, .cells [.int .i64 (i : Nat)] [] 3) :: (br, .cells ((fillG 0 Ri (k + 1)).map (Value.int .i64)) [] 3) :: (tb3 ++ (ka3 ++ H))) (by intro fsum; simp only [zzq]; omega) ?_
  exact ⟨_, _, _, _, hle3, htb3, hka3, hav3, rfl, rfl⟩
end Go.Proofs.YtefkpedhbijhkaaDoor
namespace Go.Proofs.YtefkpedhbijhkaaDoor
open Go Go.V Go.Proofs
set_option maxHeartbeats 64000000 in
theorem tl_t {d : DfaT} (hsm : SmallD d) (hok : RightP d) {most : Nat} (hm1 : 1 ≤ most) (hm2 : most ≤ 65536) {G : PHeap} {H : Heap} {R : Value → PHeap → Heap → Prop} {C : List Value} {an al ay : Option Addr} {cn cl cs : Nat} {rs : List Value} (O : OpenD G d C an al ay cn cl cs rs) {b2 b4 b6 b7 b11 bt : Nat} {vs vall : Value} (hvs : Sl G str vs d.names) {tb ka : Heap} {av : List Value} (htb : Tabs tb (.pointer (some ⟨bt, 0, none⟩)) (turnB d 0)) (hka : SliceO [] 28 1 vall (turnB d 0).length av ka) (hav : RwB G av (turnB d 0))
    (hR : ∀ G' v', PLe G G' → IsD G' (turnR d most).1 v' → R (.tuple #[v', .bool (turnR d most).2]) G' H) :
    Tri Tryd.prog Tryd.f14.ntmps (piece [1, 1, 1, 1, 1, 1, 1] Tryd.f14) G [(1, .int .i64 (most : Nat)), (2, .pointer (some ⟨b2, 0, none⟩)), (4, .pointer (some ⟨b4, 0, none⟩)), (5, .bool false), (6, .pointer (some ⟨b6, 0, none⟩)), (7, .pointer (some ⟨b7, 0, none⟩)), (11, .pointer (some ⟨b11, 0, none⟩))] ((b7, .cells [.pointer (some ⟨bt, 0, none⟩), vall] [] 55) :: (b6, .cells [.int .i64 d.label.length] [] 3) :: (b2, .cells C [] 27) :: (b4, .cells zeroC [] 27) :: (b11, .cells (cellsD d (.slice none 0 0) (.slice none 0 0) vs) [] 27) :: (tb ++ (ka ++ H))) (endK T #[Go.ResultVar.cell 4 27, Go.ResultVar.tmp 5].toList (UpdR R) .mk) := by
  obtain ⟨hs1, hs2, hs3, hs4, hs5⟩ := id hsm
  obtain ⟨hk1, hk2, hk3, hk4, hk5, hk6, hk7⟩ := id hok
  have hCl := O.len
  have hCw := O.w
  have hl2 : ∀ a b c : Value, (cellsD d a b c).length = 260 := fun a b c => cellsD_len O.ofl _ _ _
  have ht2 : ∀ a b c : Value, List.take 260 (cellsD d a b c) = cellsD d a b c := fun a b c => cellsD_all O.ofl _ _ _
  have hputz : ∀ a b c : Value, splice zeroC 0 (cellsD d a b c) = cellsD d a b c := fun a b c => wdf_over zeroC_len (hl2 _ _ _)
  have hone : ∀ (a a' a'' : Option Addr) (n c n' c' n'' c'' : Nat), (cellsD d (.slice a n c) (.slice a' n' c') (.slice a'' n'' c'')).all oneV = true := fun a a' a'' n c n' c' n'' c'' => cellsD_one rfl rfl rfl
  obtain ⟨ay2, cy2, rfl, hry2, hcy2⟩ := id hvs
  obtain ⟨W, hW⟩ : ∃ W : Nat, W = d.width.toNat := ⟨_, rfl⟩
  have hw1 : 1 ≤ d.width := by
    have h0 : 0 < d.of.length := by rw [O.ofl]; omega
    have := List.length_pos_of_mem ((mem_tabO d.of).2 (List.getElem_mem h0))
    omega
  have hww : d.width ≤ 256 := by
    have h2 := tabO_len d.of
    have h3 := O.ofl
    omega
  have hWd : d.width = (W : Int) := by omega
  refine Tri.sepT fun hs0 => ?_
  have hsE := hs0
  try simp only [zzs] at hsE
  repeat (obtain ⟨hsx, hsE⟩ := hsE)
  refine Tri.piece (f := Tryd.f14) rfl ?_
  refine Tri.runS tok [0, 1, 2, 4, 5, 6, 7, 8, 9, 10, 11, 12, 13, 14, 15, 24, 25, 26, 27, 51, 59, 60, 61, 74, 96] (.seq .run .cut) (by kernel_rfl) ?_
  repeat' first
    | (with_reducible first | refine Br.yes ?_ | refine Br.no ?_ | refine Br.dec (fun _ => ?_) (fun _ => ?_) | refine Br.mk (fun _ => ?_) (fun _ => ?_) | refine appV.zero ?_ | refine appV.own ?_)
    | ((with_reducible first | refine NewB.mk (fun nb hnb => ?_) | refine NewRow.mk (fun nb nsp ncap hnb hncap => ?_)); have hnb1 := hnb.1.1; have hnb2 := hnb.1.2; try simp only [zzn] at hnb2)
    | simp (dsimp := false) (implicitDefEqProofs := false) (disch := first | assumption | (simp only [zzm]; done) | omega | (with_reducible refine Row.adr (by assumption) ?_; simp only [zzk]; omega) | (simp only [zzl, Nat.reduceAdd]; first | done | omega)) only [go_sem, ↓reduceIte, Nat.reduceEqDiff, Nat.reduceAdd, Nat.reduceSub, Nat.reduceMul, Nat.reduceBEq, Nat.reduceLT, Nat.reduceLeDiff, Nat.reduceMod, Nat.reducePow, List.reduceReplicate, UInt8.reduceOfNat, Int.reducePow, Int.reduceDiv, Int.reduceMod, Nat.reduceDiv, Int.reduceNeg, Int.reduceAdd, Int.reduceSub, Int.reduceMul, Int.reduceLE, Int.reduceLT, Int.reduceEq, Int.reduceToNat, reduceCtorEq, -List.reduceReplicate]
  refine Tri.loopS tok [0, 1, 2, 4, 5, 6, 7, 8, 9, 10, 11, 12, 13, 14, 15, 24, 25, 26, 27, 51, 59, 60, 61, 74, 96] (.seq .run (.seq (.block (.seq .run (.seq .run (.seq .run (.seq .cut .cut))))) .cut)) (by kernel_rfl) [1, 2, 4, 5, 6, 7, 11, 12] (fun q G' fr H' => ∃ (i : Nat) (vall : Value) (av : List Value) (ka tb : Heap) (vn vl : Value) (rv : List Value) (kn kl : Heap) (b12 : Nat), i + q = most ∧ PLe G G' ∧ Tabs tb (.pointer (some ⟨bt, 0, none⟩)) (turnB d i) ∧ SliceO [] 28 1 vall (turnB d i).length av ka ∧ RwB G' av (turnB d i) ∧ i ≤ (turnB d i).length ∧ (turnB d i).length ≤ most ∧ RwI G' rv (rowsB d i) ∧ SliceO [] 24 1 vn i rv kn ∧ SliceO [] 3 1 vl i ((labsB d i).map (Value.int .i64)) kl ∧ H' = (b7, .cells [.pointer (some ⟨bt, 0, none⟩), vall] [] 55) :: (b6, .cells [.int .i64 d.label.length] [] 3) :: (b2, .cells C [] 27) :: (b4, .cells zeroC [] 27) :: (b11, .cells (cellsD d vn vl (.slice ay2 d.names.length cy2)) [] 27) :: (b12, .cells [.int .i64 (i : Nat)] [] 3) :: (tb ++ (ka ++ (kn ++ (kl ++ H)))) ∧ fr = [(1, .int .i64 (most : Nat)), (2, .pointer (some ⟨b2, 0, none⟩)), (4, .pointer (some ⟨b4, 0, none⟩)), (5, .bool false), (6, .pointer (some ⟨b6, 0, none⟩)), (7, .pointer (some ⟨b7, 0, none⟩)), (11, .pointer (some ⟨b11, 0, none⟩)), (12, .pointer (some ⟨b12, 0, none⟩))]) (most) ?_ ?_
  · exact Upd.leave (H' := (b7, .cells [.pointer (some ⟨bt, 0, none⟩), vall] [] 55) :: (b6, .cells [.int .i64 d.label.length] [] 3) :: (b2, .cells C [] 27) :: (b4, .cells zeroC [] 27) :: (b11, .cells (cellsD d (.slice none 0 0) (.slice none 0 0) (.slice ay2 d.names.length cy2)) [] 27) :: (nb, .cells [.int .i64 0] [] 3) :: (tb ++ (ka ++ ([] ++ ([] ++ H))))) (by intro fsum; simp only [zzq]; omega) ⟨0, vall, av, ka, tb, _, _, [], [], [], nb, by omega, PLe.refl _, htb, hka, hav, Nat.zero_le _, hm1, RwI.nil _, .inl ⟨none, rfl, rfl, rfl, rfl⟩, .inl ⟨none, rfl, rfl, rfl, rfl⟩, rfl, rfl⟩
  · rintro q G1 fr H1 hle1 hsL ⟨i, vall, av, ka, tb, vn, vl, rv, kn, kl, b12, hiq, hle01, htb, hka, hav, hil, hlm, hrv, hkn, hkl, rfl, rfl⟩
    have O1 := OpenD.mono hle01 O
    have hpos : 0 < (turnB d i).length := lsA_pos _ _ _ _
    rcases hka with ⟨_, _, h0, _, _⟩ | ⟨bl, cc, sp, rfl, rfl, hxa, hca⟩
    · omega
    have hsE := hsL
    try simp only [zzs] at hsE
    repeat (obtain ⟨hsx, hsE⟩ := hsE)
    by_cases hi : i < (turnB d i).length
    · repeat' first
        | (with_reducible first | refine Br.yes ?_ | refine Br.no ?_ | refine Br.dec (fun _ => ?_) (fun _ => ?_) | refine Br.mk (fun _ => ?_) (fun _ => ?_) | refine appV.zero ?_ | refine appV.own ?_)
        | ((with_reducible first | refine NewB.mk (fun nb hnb => ?_) | refine NewRow.mk (fun nb nsp ncap hnb hncap => ?_)); have hnb1 := hnb.1.1; have hnb2 := hnb.1.2; try simp only [zzn] at hnb2)
        | simp (dsimp := false) (implicitDefEqProofs := false) (disch := first | assumption | (simp only [zzm]; done) | omega | (with_reducible refine Row.adr (by assumption) ?_; simp only [zzk]; omega) | (simp only [zzl, Nat.reduceAdd]; first | done | omega)) only [go_sem, ↓reduceIte, Nat.reduceEqDiff, Nat.reduceAdd, Nat.reduceSub, Nat.reduceMul, Nat.reduceBEq, Nat.reduceLT, Nat.reduceLeDiff, Nat.reduceMod, Nat.reducePow, List.reduceReplicate, UInt8.reduceOfNat, Int.reducePow, Int.reduceDiv, Int.reduceMod, Nat.reduceDiv, Int.reduceNeg, Int.reduceAdd, Int.reduceSub, Int.reduceMul, Int.reduceLE, Int.reduceLT, Int.reduceEq, Int.reduceToNat, reduceCtorEq, -List.reduceReplicate, List.toList_toArray, hCl, hCw, hWd]
      obtain ⟨f, hf⟩ : ∃ f, f = (turnB d i).getD i [] := ⟨_, rfl⟩
      have hfi : (turnB d i)[i] = f := by rw [hf, List.getD_eq_getElem?_getD, List.getElem?_eq_getElem hi]; rfl
      have hl0 : (labB d).length = d.next.length := by rw [labB_len]; omega
      have hfl : f.length = d.next.length := by rw [← hfi]; exact lsA_len hl0 i _ (List.getElem_mem hi)
      obtain ⟨Ri, hRi⟩ : ∃ Ri, Ri = (behsA 0 d.next d.width.toNat f).map (findF (turnB d (i + 1))) := ⟨_, rfl⟩
      have hRl : Ri.length = W := by rw [hRi, List.length_map]; unfold behsA; rw [List.length_map, List.length_range, hW]
      have hfz : List.replicate W (Value.int .i64 0) = (fillG 0 Ri 0).map (Value.int .i64) := by rw [← hRl, fillG_zero]
      rw [hfz, Nat.sub_self, List.replicate_zero]
      obtain ⟨br, e14⟩ : ∃ x, x = nb := ⟨_, rfl⟩
      subst e14
      refine Tri.loopS tok [0, 1, 2, 4, 5, 6, 7, 8, 9, 10, 11, 12, 13, 14, 15, 24, 25, 26, 27, 51, 59, 60, 61, 74, 96] (.seq .run (.seq .run (.seq (.block (.seq .run (.seq .cut .cut))) .cut))) (by kernel_rfl) [1, 2, 4, 5, 6, 7, 11, 12, 13, 14, 59, 60] (fun q2 G' fr H' => ∃ (k : Nat) (vall : Value) (av : List Value) (ka tb : Heap), k + q2 = W ∧ PLe G1 G' ∧ Tabs tb (.pointer (some ⟨bt, 0, none⟩)) (midB d i k) ∧ SliceO [] 28 1 vall (midB d i k).length av ka ∧ RwB G' av (midB d i k) ∧ (midB d i k).length ≤ most ∧ H' = (b7, .cells [.pointer (some ⟨bt, 0, none⟩), vall] [] 55) :: (b6, .cells [.int .i64 d.label.length] [] 3) :: (b2, .cells C [] 27) :: (b12, .cells [.int .i64 (i : Nat)] [] 3) :: (br, .cells ((fillG 0 Ri k).map (Value.int .i64)) [] 3) :: (b4, .cells zeroC [] 27) :: (b11, .cells (cellsD d vn vl (.slice ay2 d.names.length cy2)) [] 27) :: (tb ++ (ka ++ (kn ++ (kl ++ H)))) ∧ fr = [(1, .int .i64 (most : Nat)), (2, .pointer (some ⟨b2, 0, none⟩)), (4, .pointer (some ⟨b4, 0, none⟩)), (5, .bool false), (6, .pointer (some ⟨b6, 0, none⟩)), (7, .pointer (some ⟨b7, 0, none⟩)), (11, .pointer (some ⟨b11, 0, none⟩)), (12, .pointer (some ⟨b12, 0, none⟩)), (13, .func (.func 31) #[] #[.pointer (some ⟨b6, 0, none⟩), .pointer (some ⟨b2, 0, none⟩), .pointer (some ⟨b7, 0, none⟩), .pointer (some ⟨b12, 0, none⟩)]), (14, .slice (some ⟨br, 0, none⟩) W W), (59, .int .i64 (W : Nat)), (60, .int .i64 (k : Nat))]) (W) ?_ ?_
      · refine Upd.leave (H' := (b7, .cells [.pointer (some ⟨bt, 0, none⟩), (.slice (some ⟨bl, 0, none⟩) (turnB d i).length cc)] [] 55) :: (b6, .cells [.int .i64 d.label.length] [] 3) :: (b2, .cells C [] 27) :: (b12, .cells [.int .i64 (i : Nat)] [] 3) :: (br, .cells ((fillG 0 Ri 0).map (Value.int .i64)) [] 3) :: (b4, .cells zeroC [] 27) :: (b11, .cells (cellsD d vn vl (.slice ay2 d.names.length cy2)) [] 27) :: (tb ++ ([(bl, .cells av sp 28)] ++ (kn ++ (kl ++ H))))) (by intro fsum; simp only [zzq]; omega) ?_
        exact ⟨0, _, av, [(bl, .cells av sp 28)], tb, by omega, PLe.refl _, by rw [midB_zero]; exact htb, by rw [midB_zero]; exact .inr ⟨bl, cc, sp, rfl, rfl, hxa, hca⟩, by rw [midB_zero]; exact hav, by rw [midB_zero]; exact hlm, rfl, rfl⟩
      · rintro q2 G2 fr H2 hle2 hsI ⟨k, vall2, av2, ka2, tb2, hkq, hle12, htb2, hka2, hav2, hl2m, rfl, rfl⟩
        have O2 := OpenD.mono (hle01.trans hle12) O
        have hpre : turnB d i <+: midB d i k := by have := midB_pre (d := d) (i := i) (Nat.zero_le k); rw [midB_zero] at this; exact this
        have hiM : i < (midB d i k).length := by have := hpre.length_le; omega
        have hget : (midB d i k)[i] = f := by rw [← hfi]; exact (hpre.getElem hi).symm
        by_cases hkW : k < W
        · have hms : metA (midB d i k) (behA 0 d.next f k) = midB d i (k + 1) := by rw [midB_succ (by omega), hf]
          have hpr : midB d i (k + 1) <+: turnB d (i + 1) := by
            have := midB_pre (d := d) (i := i) (show k + 1 ≤ d.width.toNat by omega)
            rw [midB_all hi] at this; exact this
          have hval : findF (midB d i (k + 1)) (behA 0 d.next f k) = Ri[k]'(by omega) := by
            obtain ⟨r, hr⟩ := hpr
            have hmem : behA 0 d.next f k ∈ midB d i (k + 1) := by rw [← hms]; exact metA_mem _ _
            simp only [hRi, behsA, List.getElem_map, List.getElem_range]
            rw [← hr, findF_app hmem]
          repeat' first
            | (with_reducible first | refine Br.yes ?_ | refine Br.no ?_ | refine Br.dec (fun _ => ?_) (fun _ => ?_) | refine Br.mk (fun _ => ?_) (fun _ => ?_) | refine appV.zero ?_ | refine appV.own ?_)
            | ((with_reducible first | refine NewB.mk (fun nb hnb => ?_) | refine NewRow.mk (fun nb nsp ncap hnb hncap => ?_)); have hnb1 := hnb.1.1; have hnb2 := hnb.1.2; try simp only [zzn] at hnb2)
            | simp (dsimp := false) (implicitDefEqProofs := false) (disch := first | assumption | (simp only [zzm]; done) | omega | (with_reducible refine Row.adr (by assumption) ?_; simp only [zzk]; omega) | (simp only [zzl, Nat.reduceAdd]; first | done | omega)) only [go_sem, ↓reduceIte, Nat.reduceEqDiff, Nat.reduceAdd, Nat.reduceSub, Nat.reduceMul, Nat.reduceBEq, Nat.reduceLT, Nat.reduceLeDiff, Nat.reduceMod, Nat.reducePow, List.reduceReplicate, UInt8.reduceOfNat, Int.reducePow, Int.reduceDiv, Int.reduceMod, Nat.reduceDiv, Int.reduceNeg, Int.reduceAdd, Int.reduceSub, Int.reduceMul, Int.reduceLE, Int.reduceLT, Int.reduceEq, Int.reduceToNat, reduceCtorEq, -List.reduceReplicate]
          refine Tri.live [1, 2, 4, 5, 6, 7, 11, 12, 13, 14, 15, 59, 60] ?_
          refine Tri.upd (Upd.go (H' := (b7, .cells [.pointer (some ⟨bt, 0, none⟩), vall2] [] 55) :: (b6, .cells [.int .i64 d.label.length] [] 3) :: (b2, .cells C [] 27) :: (b12, .cells [.int .i64 (i : Nat)] [] 3) :: (br, .cells ((fillG 0 Ri k).map (Value.int .i64)) [] 3) :: (tb2 ++ (ka2 ++ ((b4, .cells zeroC [] 27) :: (b11, .cells (cellsD d vn vl (.slice ay2 d.names.length cy2)) [] 27) :: (kn ++ (kl ++ H)))))) (by intro fsum; simp only [zzq]; omega) (Upd.now ?_))
          refine Tri.isPiece [1, 1, 1, 1, 1, 1, 1, 0, 1, 0, 0, 1, 0, 0, 1, 1, 0, 1, 0, 0, 1, 1, 0, 0, 1, 0] Tryd.f14 (by kernel_rfl) ?_
          refine Tri.onlyN (q19_t hsm hok O2 hiM (by omega) (by rw [hget]; exact hfl) (k := k) (by omega) hRl hkW (by omega) (by rw [hget, hms]; exact hval) htb2 hka2 hav2) fun G3 l3 H3 hle3 hs3 hM => ?_
          rw [hget, hms] at hM
          obtain ⟨vall3, av3, ka3, tb3, hle23, htb3, hka3, hav3, hfr, rfl⟩ := hM
          simp only [go_sem]
          refine Tri.live [1, 2, 4, 5, 6, 7, 11, 12, 13, 14, 59, 60] ?_
          rw [hfr]
          have hp3 : 0 < (midB d i (k + 1)).length := by have := (midB_pre (d := d) (i := i) (show k ≤ k + 1 by omega)).length_le; omega
          rcases hka3 with ⟨_, _, h0, _, _⟩ | ⟨bl3, cc3, sp3, rfl, rfl, hxc3, hcc3⟩
          · omega
          refine Tri.upd (Upd.go (H' := (b7, .cells [.pointer (some ⟨bt, 0, none⟩), (.slice (some ⟨bl3, 0, none⟩) (midB d i (k + 1)).length cc3)] [] 55) :: (b4, .cells zeroC [] 27) :: (b6, .cells [.int .i64 d.label.length] [] 3) :: (b2, .cells C [] 27) :: (b12, .cells [.int .i64 (i : Nat)] [] 3) :: (br, .cells ((fillG 0 Ri (k + 1)).map (Value.int .i64)) [] 3) :: (b11, .cells (cellsD d vn vl (.slice ay2 d.names.length cy2)) [] 27) :: (tb3 ++ ([(bl3, .cells av3 sp3 28)] ++ (kn ++ (kl ++ H))))) (by intro fsum; simp only [zzq]; omega) (Upd.now ?_))
          refine Tri.sepT fun hs4 => ?_
          have hb74 : b7 ≠ b4 := hs4.1.2.1
          have hb47 : b4 ≠ b7 := Ne.symm hb74
          have hg7 := hs4.1.1
          have hg4 := hs4.2.1.1
          clear hs4 hs3
          refine Tri.run tok [0, 1, 2, 4, 5, 6, 7, 8, 9, 10, 11, 12, 13, 14, 15, 24, 25, 26, 27, 51, 59, 60, 61, 74, 96] (by kernel_rfl) ?_
          repeat' first
            | (with_reducible first | refine Br.yes ?_ | refine Br.no ?_ | refine Br.dec (fun _ => ?_) (fun _ => ?_) | refine Br.mk (fun _ => ?_) (fun _ => ?_) | refine appV.zero ?_ | refine appV.own ?_)
            | ((with_reducible first | refine NewB.mk (fun nb hnb => ?_) | refine NewRow.mk (fun nb nsp ncap hnb hncap => ?_)); have hnb1 := hnb.1.1; have hnb2 := hnb.1.2; try simp only [zzn] at hnb2)
            | simp (dsimp := false) (implicitDefEqProofs := false) (disch := first | assumption | (simp only [zzm]; done) | omega | (with_reducible refine Row.adr (by assumption) ?_; simp only [zzk]; omega) | (simp only [zzl, Nat.reduceAdd]; first | done | omega)) only [go_sem, ↓reduceIte, Nat.reduceEqDiff, Nat.reduceAdd, Nat.reduceSub, Nat.reduceMul, Nat.reduceBEq, Nat.reduceLT, Nat.reduceLeDiff, Nat.reduceMod, Nat.reducePow, List.reduceReplicate, UInt8.reduceOfNat, Int.reducePow, Int.reduceDiv, Int.reduceMod, Nat.reduceDiv, Int.reduceNeg, Int.reduceAdd, Int.reduceSub, Int.reduceMul, Int.reduceLE, Int.reduceLT, Int.reduceEq, Int.reduceToNat, reduceCtorEq, -List.reduceReplicate, zeroC_len, zeroC_one, zeroC_take, zeroC_put, List.toList_toArray]
          · rename_i hbig
            have hno : ¬ (turnB d most).length ≤ most := by
              have h1 := hpr.length_le
              have h2 := (turnB_pre d (show i + 1 ≤ most by omega)).length_le
              omega
            rw [turnR_no hok hno] at hR
            unfold UpdR
            refine Upd.leave (H' := H) (by intro fsum; simp only [zzq]; omega) ?_
            exact hR G3 _ (hle01.trans (hle12.trans hle23)) (zeroD_is _)
          · rename_i hbig
            refine Tri.run tok [0, 1, 2, 4, 5, 6, 7, 8, 9, 10, 11, 12, 13, 14, 15, 24, 25, 26, 27, 51, 59, 60, 61, 74, 96] (by kernel_rfl) ?_
            repeat' first
              | (with_reducible first | refine Br.yes ?_ | refine Br.no ?_ | refine Br.dec (fun _ => ?_) (fun _ => ?_) | refine Br.mk (fun _ => ?_) (fun _ => ?_) | refine appV.zero ?_ | refine appV.own ?_)
              | ((with_reducible first | refine NewB.mk (fun nb hnb => ?_) | refine NewRow.mk (fun nb nsp ncap hnb hncap => ?_)); have hnb1 := hnb.1.1; have hnb2 := hnb.1.2; try simp only [zzn] at hnb2)
              | simp (dsimp := false) (implicitDefEqProofs := false) (disch := first | assumption | (simp only [zzm]; done) | omega | (with_reducible refine Row.adr (by assumption) ?_; simp only [zzk]; omega) | (simp only [zzl, Nat.reduceAdd]; first | done | omega)) only [go_sem, ↓reduceIte, Nat.reduceEqDiff, Nat.reduceAdd, Nat.reduceSub, Nat.reduceMul, Nat.reduceBEq, Nat.reduceLT, Nat.reduceLeDiff, Nat.reduceMod, Nat.reducePow, List.reduceReplicate, UInt8.reduceOfNat, Int.reducePow, Int.reduceDiv, Int.reduceMod, Nat.reduceDiv, Int.reduceNeg, Int.reduceAdd, Int.reduceSub, Int.reduceMul, Int.reduceLE, Int.reduceLT, Int.reduceEq, Int.reduceToNat, reduceCtorEq, -List.reduceReplicate]
            refine Upd.leave (H' := (b7, .cells [.pointer (some ⟨bt, 0, none⟩), (.slice (some ⟨bl3, 0, none⟩) (midB d i (k + 1)).length cc3)] [] 55) :: (b6, .cells [.int .i64 d.label.length] [] 3) :: (b2, .cells C [] 27) :: (b12, .cells [.int .i64 (i : Nat)] [] 3) :: (br, .cells ((fillG 0 Ri (k + 1)).map (Value.int .i64)) [] 3) :: (b4, .cells zeroC [] 27) :: (b11, .cells (cellsD d vn vl (.slice ay2 d.names.length cy2)) [] 27) :: (tb3 ++ ([(bl3, .cells av3 sp3 28)] ++ (kn ++ (kl ++ H))))) (by intro fsum; simp only [zzq]; omega) ?_
            exact ⟨q2 - 1, by omega, k + 1, _, av3, [(bl3, .cells av3 sp3 28)], tb3, by omega, hle12.trans hle23, htb3, .inr ⟨bl3, cc3, sp3, rfl, rfl, hxc3, hcc3⟩, hav3, by omega, rfl, rfl⟩
        · obtain rfl : k = W := by omega
          repeat' first
            | (with_reducible first | refine Br.yes ?_ | refine Br.no ?_ | refine Br.dec (fun _ => ?_) (fun _ => ?_) | refine Br.mk (fun _ => ?_) (fun _ => ?_) | refine appV.zero ?_ | refine appV.own ?_)
            | ((with_reducible first | refine NewB.mk (fun nb hnb => ?_) | refine NewRow.mk (fun nb nsp ncap hnb hncap => ?_)); have hnb1 := hnb.1.1; have hnb2 := hnb.1.2; try simp only [zzn] at hnb2)
            | simp (dsimp := false) (implicitDefEqProofs := false) (disch := first | assumption | (simp only [zzm]; done) | omega | (with_reducible refine Row.adr (by assumption) ?_; simp only [zzk]; omega) | (simp only [zzl, Nat.reduceAdd]; first | done | omega)) only [go_sem, ↓reduceIte, Nat.reduceEqDiff, Nat.reduceAdd, Nat.reduceSub, Nat.reduceMul, Nat.reduceBEq, Nat.reduceLT, Nat.reduceLeDiff, Nat.reduceMod, Nat.reducePow, List.reduceReplicate, UInt8.reduceOfNat, Int.reducePow, Int.reduceDiv, Int.reduceMod, Nat.reduceDiv, Int.reduceNeg, Int.reduceAdd, Int.reduceSub, Int.reduceMul, Int.reduceLE, Int.reduceLT, Int.reduceEq, Int.reduceToNat, reduceCtorEq, -List.reduceReplicate]
          have hmid : midB d i k = turnB d (i + 1) := by rw [hW]; exact midB_all hi
          have hfa : fillG 0 Ri k = Ri := by rw [← hRl]; exact fillG_all 0 Ri
          rw [hmid] at htb2 hka2 hav2 hl2m
          rw [hfa] at hsI ⊢
          have hget1 : (turnB d (i + 1))[i]'(by have := (turnB_pre d (show i ≤ i + 1 by omega)).length_le; omega) = f := by rw [← hfi]; exact ((turnB_pre d (show i ≤ i + 1 by omega)).getElem hi).symm
          have hlen1 := (turnB_pre d (show i ≤ i + 1 by omega)).length_le
          rcases hka2 with ⟨_, _, h0, _, _⟩ | ⟨bl3, cc3, sp3, rfl, rfl, hxc3, hcc3⟩
          · omega
          -- the row is written no more
          refine Tri.upd (Upd.go (H' := (br, .cells (Ri.map (Value.int .i64)) [] 3) :: (b11, .cells (cellsD d vn vl (.slice ay2 d.names.length cy2)) [] 27) :: (kn ++ ((b7, .cells [.pointer (some ⟨bt, 0, none⟩), (.slice (some ⟨bl3, 0, none⟩) (turnB d (i + 1)).length cc3)] [] 55) :: (b12, .cells [.int .i64 (i : Nat)] [] 3) :: (bl3, .cells av2 sp3 28) :: (kl ++ ((b6, .cells [.int .i64 d.label.length] [] 3) :: (b2, .cells C [] 27) :: (b4, .cells zeroC [] 27) :: (tb2 ++ H)))))) (by intro fsum; simp only [zzq]; omega) (Upd.now ?_))
          refine Tri.sepT fun hs3 => ?_
          refine Tri.upd (Upd.shareRow hs3.1.1 fun G3 hle3 hs4 hr3 => ?_)
          have hrv3 := (hrv.mono (hle12.trans hle3)).snoc (b := some ⟨br, 0, none⟩) (c := k) hr3 (by omega)
          rw [hRl] at hrv3
          have hrs : rowsB d (i + 1) = rowsB d i ++ [Ri] := by rw [rowsB_succ hi, hfi, hRi]
          rw [← hrs] at hrv3
          refine Tri.live [1, 2, 4, 5, 6, 7, 11, 12, 14] ?_
          refine Tri.isPiece [1, 1, 1, 1, 1, 1, 1, 0, 1, 0, 0, 1, 0, 0, 1, 1, 1, 0] Tryd.f14 (by kernel_rfl) ?_
          refine Tri.onlyN (q23_t O.ofl (by omega) hrv.one hkn) fun G4 l4 H4 hle4 hs5 hM => ?_
          obtain ⟨vn', kn', rfl, hkn', hfr, rfl⟩ := hM
          simp only [go_sem]
          refine Tri.live [1, 2, 4, 5, 6, 7, 11, 12] ?_
          rw [hfr]
          refine Tri.upd (Upd.go (H' := (b11, .cells (cellsD d vn' vl (.slice ay2 d.names.length cy2)) [] 27) :: (b7, .cells [.pointer (some ⟨bt, 0, none⟩), (.slice (some ⟨bl3, 0, none⟩) (turnB d (i + 1)).length cc3)] [] 55) :: (b12, .cells [.int .i64 (i : Nat)] [] 3) :: (bl3, .cells av2 sp3 28) :: (kl ++ (kn' ++ ((b6, .cells [.int .i64 d.label.length] [] 3) :: (b2, .cells C [] 27) :: (b4, .cells zeroC [] 27) :: (tb2 ++ H))))) (by intro fsum; simp only [zzq]; omega) (Upd.now ?_))
          refine Tri.isPiece [1, 1, 1, 1, 1, 1, 1, 0, 1, 0, 0, 1, 0, 0, 1, 1, 1, 1] Tryd.f14 (by kernel_rfl) ?_
          have hll : (labsB d i).length = i := by unfold labsB; rw [List.length_map, List.length_take]; omega
          refine Tri.onlyN (q24_t O.ofl (by omega) hll (by omega) (by omega) (by rw [hget1]; omega) (hav2.mono hle3) hkl) fun G5 l5 H5 hle5 hs6 hM => ?_
          obtain ⟨vl', kl', rfl, hkl', hfr2, rfl⟩ := hM
          have hls : labsB d (i + 1) = labsB d i ++ [(((f.headD 0).toNat : Nat) : Int)] := by rw [labsB_succ hi, hfi]
          rw [hget1, ← hls] at hkl'
          simp only [go_sem]
          refine Tri.live [1, 2, 4, 5, 6, 7, 11, 12] ?_
          rw [hfr2]
          refine Tri.upd (Upd.go (H' := (b12, .cells [.int .i64 (i : Nat)] [] 3) :: (b7, .cells [.pointer (some ⟨bt, 0, none⟩), (.slice (some ⟨bl3, 0, none⟩) (turnB d (i + 1)).length cc3)] [] 55) :: (b6, .cells [.int .i64 d.label.length] [] 3) :: (b2, .cells C [] 27) :: (b4, .cells zeroC [] 27) :: (b11, .cells (cellsD d vn' vl' (.slice ay2 d.names.length cy2)) [] 27) :: (tb2 ++ ([(bl3, .cells av2 sp3 28)] ++ (kn' ++ (kl' ++ H))))) (by intro fsum; simp only [zzq]; omega) (Upd.now ?_))
          refine Tri.sepT fun hs7 => ?_
          have hg12 := hs7.1.1
          clear hs7 hs6 hs5 hs4 hs3
          refine Tri.run tok [0, 1, 2, 4, 5, 6, 7, 8, 9, 10, 11, 12, 13, 14, 15, 24, 25, 26, 27, 51, 59, 60, 61, 74, 96] (by kernel_rfl) ?_
          repeat' first
            | (with_reducible first | refine Br.yes ?_ | refine Br.no ?_ | refine Br.dec (fun _ => ?_) (fun _ => ?_) | refine Br.mk (fun _ => ?_) (fun _ => ?_) | refine appV.zero ?_ | refine appV.own ?_)
            | ((with_reducible first | refine NewB.mk (fun nb hnb => ?_) | refine NewRow.mk (fun nb nsp ncap hnb hncap => ?_)); have hnb1 := hnb.1.1; have hnb2 := hnb.1.2; try simp only [zzn] at hnb2)
            | simp (dsimp := false) (implicitDefEqProofs := false) (disch := first | assumption | (simp only [zzm]; done) | omega | (with_reducible refine Row.adr (by assumption) ?_; simp only [zzk]; omega) | (simp only [zzl, Nat.reduceAdd]; first | done | omega)) only [go_sem, ↓reduceIte, Nat.reduceEqDiff, Nat.reduceAdd, Nat.reduceSub, Nat.reduceMul, Nat.reduceBEq, Nat.reduceLT, Nat.reduceLeDiff, Nat.reduceMod, Nat.reducePow, List.reduceReplicate, UInt8.reduceOfNat, Int.reducePow, Int.reduceDiv, Int.reduceMod, Nat.reduceDiv, Int.reduceNeg, Int.reduceAdd, Int.reduceSub, Int.reduceMul, Int.reduceLE, Int.reduceLT, Int.reduceEq, Int.reduceToNat, reduceCtorEq, -List.reduceReplicate]
          refine Upd.leave (H' := (b7, .cells [.pointer (some ⟨bt, 0, none⟩), (.slice (some ⟨bl3, 0, none⟩) (turnB d (i + 1)).length cc3)] [] 55) :: (b6, .cells [.int .i64 d.label.length] [] 3) :: (b2, .cells C [] 27) :: (b4, .cells zeroC [] 27) :: (b11, .cells (cellsD d vn' vl' (.slice ay2 d.names.length cy2)) [] 27) :: (nb, .cells [.int .i64 ((i : Int) + 1)] [] 3) :: (tb2 ++ ([(bl3, .cells av2 sp3 28)] ++ (kn' ++ (kl' ++ H))))) (by intro fsum; simp only [zzq]; omega) ?_
          exact ⟨q - 1, by omega, i + 1, _, av2, [(bl3, .cells av2 sp3 28)], tb2, vn', vl', _, kn', kl', nb, by omega, hle01.trans (hle12.trans hle3), htb2, .inr ⟨bl3, cc3, sp3, rfl, rfl, hxc3, hcc3⟩, hav2.mono hle3, by omega, hl2m, hrv3, hkn', hkl', rfl, rfl⟩
    · have hie : (turnB d i).length = i := by omega
      have hil' : i ≤ most := by omega
      obtain ⟨e1, e2⟩ := turnB_end hie hil'
      rw [turnR_ok hok (by rw [e1]; exact hlm), e1, e2] at hR
      have hrl : (rowsB d i).length = i := by unfold rowsB; rw [List.length_map, List.length_take]; omega
      have hll : (labsB d i).length = i := by unfold labsB; rw [List.length_map, List.length_take]; omega
      rcases hkn with ⟨_, _, h0, _, _⟩ | ⟨bn, cn2, spn, rfl, rfl, hx1, hxc⟩
      · omega
      rcases hkl with ⟨_, _, h0, _, _⟩ | ⟨bk, ck, spk, rfl, rfl, hy, hyc⟩
      · omega
      rw [Nat.mul_one] at hxc hx1 hyc
      rw [List.length_map] at hyc
      have hsE := hsL
      try simp only [zzs] at hsE
      repeat (obtain ⟨hsx, hsE⟩ := hsE)
      repeat' first
        | (with_reducible first | refine Br.yes ?_ | refine Br.no ?_ | refine Br.dec (fun _ => ?_) (fun _ => ?_) | refine Br.mk (fun _ => ?_) (fun _ => ?_) | refine appV.zero ?_ | refine appV.own ?_)
        | ((with_reducible first | refine NewB.mk (fun nb hnb => ?_) | refine NewRow.mk (fun nb nsp ncap hnb hncap => ?_)); have hnb1 := hnb.1.1; have hnb2 := hnb.1.2; try simp only [zzn] at hnb2)
        | simp (dsimp := false) (implicitDefEqProofs := false) (disch := first | assumption | (simp only [zzm]; done) | omega | (with_reducible refine Row.adr (by assumption) ?_; simp only [zzk]; omega) | (simp only [zzl, Nat.reduceAdd]; first | done | omega)) only [go_sem, ↓reduceIte, Nat.reduceEqDiff, Nat.reduceAdd, Nat.reduceSub, Nat.reduceMul, Nat.reduceBEq, Nat.reduceLT, Nat.reduceLeDiff, Nat.reduceMod, Nat.reducePow, List.reduceReplicate, UInt8.reduceOfNat, Int.reducePow, Int.reduceDiv, Int.reduceMod, Nat.reduceDiv, Int.reduceNeg, Int.reduceAdd, Int.reduceSub, Int.reduceMul, Int.reduceLE, Int.reduceLT, Int.reduceEq, Int.reduceToNat, reduceCtorEq, -List.reduceReplicate, List.toList_toArray, hCl]
      refine Tri.run tok [0, 1, 2, 4, 5, 6, 7, 8, 9, 10, 11, 12, 13, 14, 15, 24, 25, 26, 27, 51, 59, 60, 61, 74, 96] (by kernel_rfl) ?_
      repeat' first
        | (with_reducible first | refine Br.yes ?_ | refine Br.no ?_ | refine Br.dec (fun _ => ?_) (fun _ => ?_) | refine Br.mk (fun _ => ?_) (fun _ => ?_) | refine appV.zero ?_ | refine appV.own ?_)
        | ((with_reducible first | refine NewB.mk (fun nb hnb => ?_) | refine NewRow.mk (fun nb nsp ncap hnb hncap => ?_)); have hnb1 := hnb.1.1; have hnb2 := hnb.1.2; try simp only [zzn] at hnb2)
        | simp (dsimp := false) (implicitDefEqProofs := false) (disch := first | assumption | (simp only [zzm]; done) | omega | (with_reducible refine Row.adr (by assumption) ?_; simp only [zzk]; omega) | (simp only [zzl, Nat.reduceAdd]; first | done | omega)) only [go_sem, ↓reduceIte, Nat.reduceEqDiff, Nat.reduceAdd, Nat.reduceSub, Nat.reduceMul, Nat.reduceBEq, Nat.reduceLT, Nat.reduceLeDiff, Nat.reduceMod, Nat.reducePow, List.reduceReplicate, UInt8.reduceOfNat, Int.reducePow, Int.reduceDiv, Int.reduceMod, Nat.reduceDiv, Int.reduceNeg, Int.reduceAdd, Int.reduceSub, Int.reduceMul, Int.reduceLE, Int.reduceLT, Int.reduceEq, Int.reduceToNat, reduceCtorEq, -List.reduceReplicate, List.toList_toArray, hCl, hl2, ht2, hputz, hone, zeroC_len]
      unfold UpdR
      refine Upd.go (H' := (bn, .cells rv spn 24) :: (bk, .cells ((labsB d i).map (Value.int .i64)) spk 3) :: H) (by intro fsum; simp only [zzq]; omega) ?_
      refine Upd.trans (Upd.shareRow (hsL.none (by simp [keys])) fun G5 hle5 hs9 hr5 => ?_)
      refine Upd.shareRow hs9.1.1 fun G6 hle6 hs10 hr6 => ?_
      have k6 := hle5.trans hle6
      have hrv6 := hrv.mono k6
      refine hR G6 _ (hle01.trans k6) ⟨O.ofl, O.ofb, _, _, _, rfl, ⟨some ⟨bn, 0, none⟩, cn2, rv, ?_, hr5.mono hle6, hrv6.1, ?_, hrv6.2⟩, ⟨some ⟨bk, 0, none⟩, ck, ?_, hr6, ?_⟩, ⟨ay2, cy2, rfl, hry2.mono (hle01.trans k6), hcy2⟩⟩
      · show _ = Value.slice _ (rowsB d i).length _
        rw [hrl]
      · show (rowsB d i).length ≤ _
        omega
      · show _ = Value.slice _ (labsB d i).length _
        rw [hll]
      · show (labsB d i).length ≤ _
        omega
set_option maxHeartbeats 32000000 in
theorem turned_t {d : DfaT} (hsm : SmallD d) (hok : RightP d) {most : Nat} (hm1 : 1 ≤ most) (hm2 : most ≤ 65536) {G : PHeap} {H : Heap} {R : Value → PHeap → Heap → Prop} {v : Value} (hv : IsD G d v)
    (hR : ∀ G' v', PLe G G' → Sep G' (keys H) → IsD G' (turnR d most).1 v' → R (.tuple #[v', .bool (turnR d most).2]) G' H) : FnT Tryd.prog 14 [v, .int .i64 (most : Nat)] G H R := by
  obtain ⟨C, an, al, ay, cn, cl, cs, rs, rfl, O⟩ := hv.opened
  obtain ⟨hs1, hs2, hs3, hs4, hs5⟩ := id hsm
  obtain ⟨hk1, hk2, hk3, hk4, hk5, hk6, hk7⟩ := id hok
  have hCl := O.len
  have hCa := O.all
  have hCw := O.w
  have hCn := O.n
  have hCx := O.l
  have hCs := O.s
  have hCo := O.of
  have hadl : Adr al := O.rl.adr (by rw [List.length_map]; omega)
  have hfz : List.replicate d.label.length (Value.int .u8 0) = (fillB (labB d) 0).map byteV := by rw [← labB_len, fillB_zero]
  refine FnT.sep ?_
  refine FnT.bodyS tok [0, 1, 2, 4, 5, 6, 7, 8, 9, 10, 11, 12, 13, 14, 15, 24, 25, 26, 27, 51, 59, 60, 61, 74, 96] (.seq .run (.seq .run (.seq .run (.seq .run (.seq .run (.seq .run (.seq .cut .cut))))))) Tryd.func14 rfl (by kernel_rfl) (by kernel_rfl) (by show _ ≤ 98; simp) fun hsep => ?_
  rw [Tryd.results14]
  have hsE := hsep
  try simp only [zzs] at hsE
  repeat (obtain ⟨hsx, hsE⟩ := hsE)
  repeat' first
    | (with_reducible first | refine Br.yes ?_ | refine Br.no ?_ | refine Br.dec (fun _ => ?_) (fun _ => ?_) | refine Br.mk (fun _ => ?_) (fun _ => ?_) | refine appV.zero ?_ | refine appV.own ?_)
    | ((with_reducible first | refine NewB.mk (fun nb hnb => ?_) | refine NewRow.mk (fun nb nsp ncap hnb hncap => ?_)); have hnb1 := hnb.1.1; have hnb2 := hnb.1.2; try simp only [zzn] at hnb2)
    | simp (dsimp := false) (implicitDefEqProofs := false) (disch := first | assumption | (simp only [zzm]; done) | omega | (with_reducible refine Row.adr (by assumption) ?_; simp only [zzk]; omega) | (simp only [zzl, Nat.reduceAdd]; first | done | omega)) only [go_sem, ↓reduceIte, Nat.reduceEqDiff, Nat.reduceAdd, Nat.reduceSub, Nat.reduceMul, Nat.reduceBEq, Nat.reduceLT, Nat.reduceLeDiff, Nat.reduceMod, Nat.reducePow, List.reduceReplicate, UInt8.reduceOfNat, Int.reducePow, Int.reduceDiv, Int.reduceMod, Nat.reduceDiv, Int.reduceNeg, Int.reduceAdd, Int.reduceSub, Int.reduceMul, Int.reduceLE, Int.reduceLT, Int.reduceEq, Int.reduceToNat, reduceCtorEq, -List.reduceReplicate, List.toList_toArray, hCl, hCa, hCx]
  rename_i b2 z1 z2 z3 b4 z4 z5 z6
  obtain ⟨b6, e60⟩ : ∃ x, x = nb := ⟨_, rfl⟩
  subst e60
  refine FnT.sep (FnT.upd (news_t fun tb pt hst htb => ?_))
  obtain ⟨_, bt, bm, vk, kb, rfl, _, _⟩ := id htb
  have hz : List.replicate 256 (Value.int .u8 0) ++ [Value.int .i64 0, Value.slice none 0 0, Value.slice none 0 0, Value.slice none 0 0] = zeroC := rfl
  rw [hz]
  refine Upd.go (H' := (b6, .cells [.int .i64 d.label.length] [] 3) :: (b4, .cells zeroC [] 27) :: (b2, .cells C [] 27) :: (tb ++ H)) (by intro fsum; simp only [zzq]; omega) (Upd.now fun _ hs2 => ?_)
  have hsE := hs2
  try simp only [zzs] at hsE
  repeat (obtain ⟨hsx, hsE⟩ := hsE)
  repeat' first
    | (with_reducible first | refine Br.yes ?_ | refine Br.no ?_ | refine Br.dec (fun _ => ?_) (fun _ => ?_) | refine Br.mk (fun _ => ?_) (fun _ => ?_) | refine appV.zero ?_ | refine appV.own ?_)
    | ((with_reducible first | refine NewB.mk (fun nb hnb => ?_) | refine NewRow.mk (fun nb nsp ncap hnb hncap => ?_)); have hnb1 := hnb.1.1; have hnb2 := hnb.1.2; try simp only [zzn] at hnb2)
    | simp (dsimp := false) (implicitDefEqProofs := false) (disch := first | assumption | (simp only [zzm]; done) | omega | (with_reducible refine Row.adr (by assumption) ?_; simp only [zzk]; omega) | (simp only [zzl, Nat.reduceAdd]; first | done | omega)) only [go_sem, ↓reduceIte, Nat.reduceEqDiff, Nat.reduceAdd, Nat.reduceSub, Nat.reduceMul, Nat.reduceBEq, Nat.reduceLT, Nat.reduceLeDiff, Nat.reduceMod, Nat.reducePow, List.reduceReplicate, UInt8.reduceOfNat, Int.reducePow, Int.reduceDiv, Int.reduceMod, Nat.reduceDiv, Int.reduceNeg, Int.reduceAdd, Int.reduceSub, Int.reduceMul, Int.reduceLE, Int.reduceLT, Int.reduceEq, Int.reduceToNat, reduceCtorEq, -List.reduceReplicate, List.toList_toArray, hCl, hCa, hCx, hfz, Nat.sub_self, List.replicate_zero]
  rename_i b7 y1 y2 y3
  obtain ⟨bf, e80⟩ : ∃ x, x = nb := ⟨_, rfl⟩
  subst e80
  refine Tri.loopU tok [0, 1, 2, 4, 5, 6, 7, 8, 9, 10, 11, 12, 13, 14, 15, 24, 25, 26, 27, 51, 59, 60, 61, 74, 96] (by kernel_rfl) [1, 2, 4, 5, 6, 7, 8, 24, 25, 26] (fun q G' fr H' => ∃ s : Nat, s + q = d.label.length ∧ G' = G ∧ H' = (bf, .cells ((fillB (labB d) s).map byteV) [] 5) :: (b7, .cells [.pointer (some ⟨bt, 0, none⟩), .slice none 0 0] [] 55) :: (b6, .cells [.int .i64 d.label.length] [] 3) :: (b4, .cells zeroC [] 27) :: (b2, .cells C [] 27) :: (tb ++ H) ∧ fr = [(1, .int .i64 (most : Nat)), (2, .pointer (some ⟨b2, 0, none⟩)), (4, .pointer (some ⟨b4, 0, none⟩)), (5, .bool false), (6, .pointer (some ⟨b6, 0, none⟩)), (7, .pointer (some ⟨b7, 0, none⟩)), (8, .slice (some ⟨bf, 0, none⟩) d.label.length d.label.length), (24, .slice al d.label.length cl), (25, .int .i64 d.label.length), (26, .int .i64 (s : Nat))]) (d.label.length) ?_ ?_
  · exact Upd.now ⟨0, by omega, rfl, rfl, rfl⟩
  · rintro q G1 fr H1 hle1 hs3 ⟨s, hsq, rfl, rfl, rfl⟩
    have hsE := hs3
    try simp only [zzs] at hsE
    repeat (obtain ⟨hsx, hsE⟩ := hsE)
    by_cases hsl : s < d.label.length
    · have hlb := labB_at hok hsl
      have hsb : s < (labB d).length := by rw [labB_len]; exact hsl
      have hb256 := (labB d)[s].toNat_lt
      have hput := fillB_put (B := labB d) hsb
      have hfL : (fillB (labB d) s).length = d.label.length := by rw [fillB_len _ (by omega), labB_len]
      repeat' first
        | (with_reducible first | refine Br.yes ?_ | refine Br.no ?_ | refine Br.dec (fun _ => ?_) (fun _ => ?_) | refine Br.mk (fun _ => ?_) (fun _ => ?_) | refine appV.zero ?_ | refine appV.own ?_)
        | ((with_reducible first | refine NewB.mk (fun nb hnb => ?_) | refine NewRow.mk (fun nb nsp ncap hnb hncap => ?_)); have hnb1 := hnb.1.1; have hnb2 := hnb.1.2; try simp only [zzn] at hnb2)
        | simp (dsimp := false) (implicitDefEqProofs := false) (disch := first | assumption | (simp only [zzm]; done) | omega | (with_reducible refine Row.adr (by assumption) ?_; simp only [zzk]; omega) | (simp only [zzl, Nat.reduceAdd]; first | done | omega)) only [go_sem, ↓reduceIte, Nat.reduceEqDiff, Nat.reduceAdd, Nat.reduceSub, Nat.reduceMul, Nat.reduceBEq, Nat.reduceLT, Nat.reduceLeDiff, Nat.reduceMod, Nat.reducePow, List.reduceReplicate, UInt8.reduceOfNat, Int.reducePow, Int.reduceDiv, Int.reduceMod, Nat.reduceDiv, Int.reduceNeg, Int.reduceAdd, Int.reduceSub, Int.reduceMul, Int.reduceLE, Int.reduceLT, Int.reduceEq, Int.reduceToNat, reduceCtorEq, -List.reduceReplicate, List.toList_toArray, hCl, hCx, Row.obj O.rl, List.getElem_map, hlb, hput, hfL, List.length_map]
      exact Upd.now ⟨q - 1, by omega, s + 1, by omega, rfl, rfl, rfl⟩
    · obtain rfl : s = d.label.length := by omega
      have hfa : fillB (labB d) d.label.length = labB d := by rw [← labB_len, fillB_all]
      rw [hfa]
      repeat' first
        | (with_reducible first | refine Br.yes ?_ | refine Br.no ?_ | refine Br.dec (fun _ => ?_) (fun _ => ?_) | refine Br.mk (fun _ => ?_) (fun _ => ?_) | refine appV.zero ?_ | refine appV.own ?_)
        | ((with_reducible first | refine NewB.mk (fun nb hnb => ?_) | refine NewRow.mk (fun nb nsp ncap hnb hncap => ?_)); have hnb1 := hnb.1.1; have hnb2 := hnb.1.2; try simp only [zzn] at hnb2)
        | simp (dsimp := false) (implicitDefEqProofs := false) (disch := first | assumption | (simp only [zzm]; done) | omega | (with_reducible refine Row.adr (by assumption) ?_; simp only [zzk]; omega) | (simp only [zzl, Nat.reduceAdd]; first | done | omega)) only [go_sem, ↓reduceIte, Nat.reduceEqDiff, Nat.reduceAdd, Nat.reduceSub, Nat.reduceMul, Nat.reduceBEq, Nat.reduceLT, Nat.reduceLeDiff, Nat.reduceMod, Nat.reducePow, List.reduceReplicate, UInt8.reduceOfNat, Int.reducePow, Int.reduceDiv, Int.reduceMod, Nat.reduceDiv, Int.reduceNeg, Int.reduceAdd, Int.reduceSub, Int.reduceMul, Int.reduceLE, Int.reduceLT, Int.reduceEq, Int.reduceToNat, reduceCtorEq, -List.reduceReplicate, List.toList_toArray, hCl, hCx]
      refine FnT.pre calleeNumber (Upd.go (H' := (bf, .cells ((labB d).map byteV) [] 5) :: (b7, .cells [.pointer (some ⟨bt, 0, none⟩), .slice none 0 0] [] 55) :: (tb ++ ([] ++ ((b6, .cells [.int .i64 d.label.length] [] 3) :: (b4, .cells zeroC [] 27) :: (b2, .cells C [] 27) :: H)))) (by intro fsum; simp only [zzq]; omega) (Upd.shareRow (by assumption) fun G2 hle2 hs4 hr2 => ?_))
      have hll := labB_len d
      refine lnumber_t (ks := []) (by omega) (by omega) hll.symm htb (Nat.zero_le _) hr2 (by omega) (.inl ⟨none, rfl, rfl, rfl, rfl⟩) (RwB.nil _) fun tb1 vall1 av1 ka1 hs5 htb1 hka1 hav1 => ?_
      have hmet : (putF [] (labB d)).1 = turnB d 0 := rfl
      rw [hmet] at htb1 hka1 hav1
      have hsE := hs5
      try simp only [zzs] at hsE
      repeat (obtain ⟨hsx, hsE⟩ := hsE)
      repeat' first
        | (with_reducible first | refine Br.yes ?_ | refine Br.no ?_ | refine Br.dec (fun _ => ?_) (fun _ => ?_) | refine Br.mk (fun _ => ?_) (fun _ => ?_) | refine appV.zero ?_ | refine appV.own ?_)
        | ((with_reducible first | refine NewB.mk (fun nb hnb => ?_) | refine NewRow.mk (fun nb nsp ncap hnb hncap => ?_)); have hnb1 := hnb.1.1; have hnb2 := hnb.1.2; try simp only [zzn] at hnb2)
        | simp (dsimp := false) (implicitDefEqProofs := false) (disch := first | assumption | (simp only [zzm]; done) | omega | (with_reducible refine Row.adr (by assumption) ?_; simp only [zzk]; omega) | (simp only [zzl, Nat.reduceAdd]; first | done | omega)) only [go_sem, ↓reduceIte, Nat.reduceEqDiff, Nat.reduceAdd, Nat.reduceSub, Nat.reduceMul, Nat.reduceBEq, Nat.reduceLT, Nat.reduceLeDiff, Nat.reduceMod, Nat.reducePow, List.reduceReplicate, UInt8.reduceOfNat, Int.reducePow, Int.reduceDiv, Int.reduceMod, Nat.reduceDiv, Int.reduceNeg, Int.reduceAdd, Int.reduceSub, Int.reduceMul, Int.reduceLE, Int.reduceLT, Int.reduceEq, Int.reduceToNat, reduceCtorEq, -List.reduceReplicate, List.toList_toArray, hCl, hCx]
      refine Tri.live [1, 2, 4, 5, 6, 7] ?_
      refine Tri.upd (Upd.go (H' := (b2, .cells C [] 27) :: ((b7, .cells [.pointer (some ⟨bt, 0, none⟩), vall1] [] 55) :: (b6, .cells [.int .i64 d.label.length] [] 3) :: (b4, .cells zeroC [] 27) :: (tb1 ++ (ka1 ++ H)))) (by intro fsum; simp only [zzq]; omega) (Upd.now ?_))
      refine Tri.isPiece [1, 1, 1, 1, 1, 1, 0] Tryd.f14 (by kernel_rfl) ?_
      refine Tri.onlyN (q10_t hsm (O.mono hle2)) fun G3 l3 H3 hle3 hs6 hM => ?_
      obtain ⟨b11, vs, hle4, hvs, hfr, rfl⟩ := hM
      simp only [go_sem]
      refine Tri.live [1, 2, 4, 5, 6, 7, 11] ?_
      rw [hfr]
      refine Tri.upd (Upd.go (H' := (b7, .cells [.pointer (some ⟨bt, 0, none⟩), vall1] [] 55) :: (b6, .cells [.int .i64 d.label.length] [] 3) :: (b2, .cells C [] 27) :: (b4, .cells zeroC [] 27) :: (b11, .cells (cellsD d (.slice none 0 0) (.slice none 0 0) vs) [] 27) :: (tb1 ++ (ka1 ++ H))) (by intro fsum; simp only [zzq]; omega) (Upd.now ?_))
      refine Tri.isPiece [1, 1, 1, 1, 1, 1, 1] Tryd.f14 (by kernel_rfl) ?_
      refine tl_t hsm hok hm1 hm2 (O.mono (hle2.trans hle4)) hvs htb1 hka1 (hav1.mono hle4) ?_
      exact fun G' v' hle hI _ hs => hR G' v' ((hle2.trans hle4).trans hle) hs hI
end Go.Proofs.YtefkpedhbijhkaaDoor
namespace Go.Proofs.YtefkpedhbijhkaaDoor
open Go Go.V Go.Proofs
noncomputable def wrongR (d : DfaT) (most : Int) : Int := haveI := Classical.propDecidable; if RightP d then if 1 ≤ most ∧ most ≤ 65536 then 0 else 1 else 6
theorem wrongR_bad {d : DfaT} {most : Int} (h : ¬ RightP d) : wrongR d most = 6 := by unfold wrongR; rw [if_neg h]
theorem wrongR_not {d : DfaT} {most : Int} (h : RightP d) (h2 : ¬ (1 ≤ most ∧ most ≤ 65536)) : wrongR d most = 1 := by unfold wrongR; rw [if_pos h, if_neg h2]
theorem wrongR_ok {d : DfaT} {most : Int} (h : RightP d) (h2 : 1 ≤ most ∧ most ≤ 65536) : wrongR d most = 0 := by unfold wrongR; rw [if_pos h, if_pos h2]
noncomputable def revR (d : DfaT) (most : Int) : DfaT × Int := haveI := Classical.propDecidable
  if RightP d then if 1 ≤ most ∧ most ≤ 65536 then if (turnR d most.toNat).2 = true then ((turnR d most.toNat).1, 0) else (zeroD, 7) else (zeroD, 1) else (zeroD, 6)
theorem revR_bad {d : DfaT} {most : Int} (h : ¬ RightP d) : revR d most = (zeroD, 6) := by unfold revR; rw [if_neg h]
theorem revR_not {d : DfaT} {most : Int} (h : RightP d) (h2 : ¬ (1 ≤ most ∧ most ≤ 65536)) : revR d most = (zeroD, 1) := by unfold revR; rw [if_pos h, if_neg h2]
theorem revR_big {d : DfaT} {most : Int} (h : RightP d) (h2 : 1 ≤ most ∧ most ≤ 65536) (h3 : (turnR d most.toNat).2 = false) : revR d most = (zeroD, 7) := by unfold revR; rw [if_pos h, if_pos h2, if_neg (by rw [h3]; exact Bool.false_ne_true)]
theorem revR_ok {d : DfaT} {most : Int} (h : RightP d) (h2 : 1 ≤ most ∧ most ≤ 65536) (h3 : (turnR d most.toNat).2 = true) : revR d most = ((turnR d most.toNat).1, 0) := by unfold revR; rw [if_pos h, if_pos h2, if_pos h3]
set_option maxHeartbeats 8000000 in
theorem wrong_t {d : DfaT} (hsm : SmallD d) {most : Int} (hm : -9223372036854775808 ≤ most ∧ most < 9223372036854775808) {G : PHeap} {H : Heap} {R : Value → PHeap → Heap → Prop} {v : Value} (hv : IsD G d v)
    (hR : R (.int .i64 (wrongR d most)) G H) : FnT Tryd.prog 13 [v, .int .i64 most] G H R := by
  obtain ⟨C, an, al, ay, cn, cl, cs, rs, rfl, O⟩ := hv.opened
  have hCl := O.len
  have hCa := O.all
  by_cases hok : RightP d
  · have hb := boolOf_yes hok
    by_cases h1 : 1 ≤ most
    · by_cases h2 : most ≤ 65536
      · rw [wrongR_ok hok ⟨h1, h2⟩] at hR
        refine FnT.body tok [0, 1, 2, 4, 5, 9] Tryd.func13 rfl (by kernel_rfl) (by kernel_rfl) (by show _ ≤ 16; simp) fun hsep => ?_
        rw [Tryd.results13]
        have hsE := hsep
        try simp only [zzs] at hsE
        repeat (obtain ⟨hsx, hsE⟩ := hsE)
        repeat' first
          | (with_reducible first | refine Br.yes ?_ | refine Br.no ?_ | refine Br.dec (fun _ => ?_) (fun _ => ?_) | refine Br.mk (fun _ => ?_) (fun _ => ?_))
          | ((with_reducible first | refine NewB.mk (fun nb hnb => ?_)); have hnb1 := hnb.1.1; have hnb2 := hnb.1.2; try simp only [zzn] at hnb2)
          | simp (dsimp := false) (implicitDefEqProofs := false) (disch := first | assumption | (simp only [zzm]; done) | omega | (with_reducible refine Row.adr (by assumption) ?_; simp only [zzk]; omega) | (simp only [zzl, Nat.reduceAdd]; first | done | omega)) only [go_sem, ↓reduceIte, Nat.reduceEqDiff, Nat.reduceAdd, Nat.reduceSub, Nat.reduceMul, Nat.reduceBEq, Nat.reduceLT, Nat.reduceLeDiff, Nat.reduceMod, Nat.reducePow, List.reduceReplicate, UInt8.reduceOfNat, Int.reducePow, Int.reduceDiv, Int.reduceMod, Nat.reduceDiv, Int.reduceNeg, Int.reduceAdd, Int.reduceSub, Int.reduceMul, Int.reduceLE, Int.reduceLT, Int.reduceEq, Int.reduceToNat, reduceCtorEq, -List.reduceReplicate, List.toList_toArray, hCl, hCa, hb]
          | with_reducible refine right_t hsm O.is ?_
        all_goals try (exfalso; omega)
        all_goals refine Upd.finL ?_ hR ?_
        any_goals (intro fsum; first | exact Nat.le_refl _ | (simp only [zzq]; omega))
        all_goals rfl
      · rw [wrongR_not hok (fun h => h2 h.2)] at hR
        refine FnT.body tok [0, 1, 2, 4, 5, 9] Tryd.func13 rfl (by kernel_rfl) (by kernel_rfl) (by show _ ≤ 16; simp) fun hsep => ?_
        rw [Tryd.results13]
        have hsE := hsep
        try simp only [zzs] at hsE
        repeat (obtain ⟨hsx, hsE⟩ := hsE)
        repeat' first
          | (with_reducible first | refine Br.yes ?_ | refine Br.no ?_ | refine Br.dec (fun _ => ?_) (fun _ => ?_) | refine Br.mk (fun _ => ?_) (fun _ => ?_))
          | ((with_reducible first | refine NewB.mk (fun nb hnb => ?_)); have hnb1 := hnb.1.1; have hnb2 := hnb.1.2; try simp only [zzn] at hnb2)
          | simp (dsimp := false) (implicitDefEqProofs := false) (disch := first | assumption | (simp only [zzm]; done) | omega | (with_reducible refine Row.adr (by assumption) ?_; simp only [zzk]; omega) | (simp only [zzl, Nat.reduceAdd]; first | done | omega)) only [go_sem, ↓reduceIte, Nat.reduceEqDiff, Nat.reduceAdd, Nat.reduceSub, Nat.reduceMul, Nat.reduceBEq, Nat.reduceLT, Nat.reduceLeDiff, Nat.reduceMod, Nat.reducePow, List.reduceReplicate, UInt8.reduceOfNat, Int.reducePow, Int.reduceDiv, Int.reduceMod, Nat.reduceDiv, Int.reduceNeg, Int.reduceAdd, Int.reduceSub, Int.reduceMul, Int.reduceLE, Int.reduceLT, Int.reduceEq, Int.reduceToNat, reduceCtorEq, -List.reduceReplicate, List.toList_toArray, hCl, hCa, hb]
          | with_reducible refine right_t hsm O.is ?_
        all_goals try (exfalso; omega)
        all_goals refine Upd.finL ?_ hR ?_
        any_goals (intro fsum; first | exact Nat.le_refl _ | (simp only [zzq]; omega))
        all_goals rfl
    · rw [wrongR_not hok (fun h => h1 h.1)] at hR
      refine FnT.body tok [0, 1, 2, 4, 5, 9] Tryd.func13 rfl (by kernel_rfl) (by kernel_rfl) (by show _ ≤ 16; simp) fun hsep => ?_
      rw [Tryd.results13]
      have hsE := hsep
      try simp only [zzs] at hsE
      repeat (obtain ⟨hsx, hsE⟩ := hsE)
      repeat' first
        | (with_reducible first | refine Br.yes ?_ | refine Br.no ?_ | refine Br.dec (fun _ => ?_) (fun _ => ?_) | refine Br.mk (fun _ => ?_) (fun _ => ?_))
        | ((with_reducible first | refine NewB.mk (fun nb hnb => ?_)); have hnb1 := hnb.1.1; have hnb2 := hnb.1.2; try simp only [zzn] at hnb2)
        | simp (dsimp := false) (implicitDefEqProofs := false) (disch := first | assumption | (simp only [zzm]; done) | omega | (with_reducible refine Row.adr (by assumption) ?_; simp only [zzk]; omega) | (simp only [zzl, Nat.reduceAdd]; first | done | omega)) only [go_sem, ↓reduceIte, Nat.reduceEqDiff, Nat.reduceAdd, Nat.reduceSub, Nat.reduceMul, Nat.reduceBEq, Nat.reduceLT, Nat.reduceLeDiff, Nat.reduceMod, Nat.reducePow, List.reduceReplicate, UInt8.reduceOfNat, Int.reducePow, Int.reduceDiv, Int.reduceMod, Nat.reduceDiv, Int.reduceNeg, Int.reduceAdd, Int.reduceSub, Int.reduceMul, Int.reduceLE, Int.reduceLT, Int.reduceEq, Int.reduceToNat, reduceCtorEq, -List.reduceReplicate, List.toList_toArray, hCl, hCa, hb]
        | with_reducible refine right_t hsm O.is ?_
      all_goals try (exfalso; omega)
      all_goals refine Upd.finL ?_ hR ?_
      any_goals (intro fsum; first | exact Nat.le_refl _ | (simp only [zzq]; omega))
      all_goals rfl
  · have hb := boolOf_no hok
    rw [wrongR_bad hok] at hR
    refine FnT.body tok [0, 1, 2, 4, 5, 9] Tryd.func13 rfl (by kernel_rfl) (by kernel_rfl) (by show _ ≤ 16; simp) fun hsep => ?_
    rw [Tryd.results13]
    have hsE := hsep
    try simp only [zzs] at hsE
    repeat (obtain ⟨hsx, hsE⟩ := hsE)
    repeat' first
      | (with_reducible first | refine Br.yes ?_ | refine Br.no ?_ | refine Br.dec (fun _ => ?_) (fun _ => ?_) | refine Br.mk (fun _ => ?_) (fun _ => ?_))
      | ((with_reducible first | refine NewB.mk (fun nb hnb => ?_)); have hnb1 := hnb.1.1; have hnb2 := hnb.1.2; try simp only [zzn] at hnb2)
      | simp (dsimp := false) (implicitDefEqProofs := false) (disch := first | assumption | (simp only [zzm]; done) | omega | (with_reducible refine Row.adr (by assumption) ?_; simp only [zzk]; omega) | (simp only [zzl, Nat.reduceAdd]; first | done | omega)) only [go_sem, ↓reduceIte, Nat.reduceEqDiff, Nat.reduceAdd, Nat.reduceSub, Nat.reduceMul, Nat.reduceBEq, Nat.reduceLT, Nat.reduceLeDiff, Nat.reduceMod, Nat.reducePow, List.reduceReplicate, UInt8.reduceOfNat, Int.reducePow, Int.reduceDiv, Int.reduceMod, Nat.reduceDiv, Int.reduceNeg, Int.reduceAdd, Int.reduceSub, Int.reduceMul, Int.reduceLE, Int.reduceLT, Int.reduceEq, Int.reduceToNat, reduceCtorEq, -List.reduceReplicate, List.toList_toArray, hCl, hCa, hb]
      | with_reducible refine right_t hsm O.is ?_
    all_goals refine Upd.finL ?_ hR ?_
    any_goals (intro fsum; first | exact Nat.le_refl _ | (simp only [zzq]; omega))
    all_goals rfl
set_option maxHeartbeats 16000000 in
theorem rev_t {d : DfaT} (hsm : SmallD d) {most : Int} (hm : -9223372036854775808 ≤ most ∧ most < 9223372036854775808) {G : PHeap} {H : Heap} {R : Value → PHeap → Heap → Prop} {v : Value} (hv : IsD G d v)
    (hR : ∀ G' v', PLe G G' → Sep G' (keys H) → IsD G' (revR d most).1 v' → R (.tuple #[v', .int .i64 (revR d most).2]) G' H) : FnT Tryd.prog 6 [v, .int .i64 most] G H R := by
  obtain ⟨C, an, al, ay, cn, cl, cs, rs, rfl, O⟩ := hv.opened
  have hCl := O.len
  have hCa := O.all
  refine FnT.sep ?_
  by_cases hok : RightP d
  · by_cases h1 : 1 ≤ most ∧ most ≤ 65536
    · have hw := wrongR_ok hok h1
      obtain ⟨m, rfl⟩ := Int.eq_ofNat_of_zero_le (show 0 ≤ most by omega)
      refine FnT.body tok [0, 1, 2, 4, 5, 6, 7, 8, 13, 23] Tryd.func6 rfl (by kernel_rfl) (by kernel_rfl) (by show _ ≤ 26; simp) fun hsep => ?_
      rw [Tryd.results6]
      have hsE := hsep
      try simp only [zzs] at hsE
      repeat (obtain ⟨hsx, hsE⟩ := hsE)
      repeat' first
        | (with_reducible first | refine Br.yes ?_ | refine Br.no ?_ | refine Br.dec (fun _ => ?_) (fun _ => ?_) | refine Br.beqB (fun _ => ?_) (fun _ => ?_) | refine Br.beqb (fun _ => ?_) (fun _ => ?_) | refine Br.mk (fun _ => ?_) (fun _ => ?_))
        | ((with_reducible first | refine NewB.mk (fun nb hnb => ?_) | refine NewRow.mk (fun nb nsp ncap hnb hncap => ?_)); have hnb1 := hnb.1.1; have hnb2 := hnb.1.2; try simp only [zzn] at hnb2)
        | simp (dsimp := false) (implicitDefEqProofs := false) (disch := first | assumption | (simp only [zzm]; done) | omega | (with_reducible refine Row.adr (by assumption) ?_; simp only [zzk]; omega) | (simp only [zzl, Nat.reduceAdd]; first | done | omega)) only [go_sem, ↓reduceIte, Nat.reduceEqDiff, Nat.reduceAdd, Nat.reduceSub, Nat.reduceMul, Nat.reduceBEq, Nat.reduceLT, Nat.reduceLeDiff, Nat.reduceMod, Nat.reducePow, List.reduceReplicate, UInt8.reduceOfNat, Int.reducePow, Int.reduceDiv, Int.reduceMod, Nat.reduceDiv, Int.reduceNeg, Int.reduceAdd, Int.reduceSub, Int.reduceMul, Int.reduceLE, Int.reduceLT, Int.reduceEq, Int.reduceToNat, reduceCtorEq, -List.reduceReplicate, List.toList_toArray, hCl, hCa, hw]
        | with_reducible refine wrong_t hsm hm O.is ?_
      rename_i b2 z1 z2 z3
      obtain ⟨b4, e40⟩ : ∃ x, x = nb := ⟨_, rfl⟩
      subst e40
      refine turned_t hsm hok (by omega) (by omega) O.is fun G1 v1 hle1 hs1 hI1 => ?_
      obtain ⟨C1, an1, al1, ay1, cn1, cl1, cs1, rs1, rfl, O1⟩ := hI1.opened
      have hC1l := O1.len
      have hone1 := wdf_one O1.is
      have hput1 := wdf_put hC1l
      have htk1 : List.take 260 C1 = C1 := List.take_of_length_le (by omega)
      have hsE := hs1
      try simp only [zzs] at hsE
      repeat (obtain ⟨hsx, hsE⟩ := hsE)
      cases ht : (turnR d m).2 with
      | true =>
        rw [revR_ok hok h1 ht] at hR
        repeat' first
          | (with_reducible first | refine Br.yes ?_ | refine Br.no ?_ | refine Br.dec (fun _ => ?_) (fun _ => ?_) | refine Br.beqB (fun _ => ?_) (fun _ => ?_) | refine Br.beqb (fun _ => ?_) (fun _ => ?_) | refine Br.mk (fun _ => ?_) (fun _ => ?_))
          | ((with_reducible first | refine NewB.mk (fun nb hnb => ?_) | refine NewRow.mk (fun nb nsp ncap hnb hncap => ?_)); have hnb1 := hnb.1.1; have hnb2 := hnb.1.2; try simp only [zzn] at hnb2)
          | simp (dsimp := false) (implicitDefEqProofs := false) (disch := first | assumption | (simp only [zzm]; done) | omega | (with_reducible refine Row.adr (by assumption) ?_; simp only [zzk]; omega) | (simp only [zzl, Nat.reduceAdd]; first | done | omega)) only [go_sem, ↓reduceIte, Nat.reduceEqDiff, Nat.reduceAdd, Nat.reduceSub, Nat.reduceMul, Nat.reduceBEq, Nat.reduceLT, Nat.reduceLeDiff, Nat.reduceMod, Nat.reducePow, List.reduceReplicate, UInt8.reduceOfNat, Int.reducePow, Int.reduceDiv, Int.reduceMod, Nat.reduceDiv, Int.reduceNeg, Int.reduceAdd, Int.reduceSub, Int.reduceMul, Int.reduceLE, Int.reduceLT, Int.reduceEq, Int.reduceToNat, reduceCtorEq, -List.reduceReplicate, List.toList_toArray, hCl, hCa, hC1l, hone1, hput1, htk1, zeroC_len]
        unfold UpdR
        refine Upd.leave (H' := H) (by intro fsum; simp only [zzq]; omega) ?_
        exact fun _ hs => hR G1 _ hle1 hs O1.is
      | false =>
        rw [revR_big hok h1 ht] at hR
        repeat' first
          | (with_reducible first | refine Br.yes ?_ | refine Br.no ?_ | refine Br.dec (fun _ => ?_) (fun _ => ?_) | refine Br.beqB (fun _ => ?_) (fun _ => ?_) | refine Br.beqb (fun _ => ?_) (fun _ => ?_) | refine Br.mk (fun _ => ?_) (fun _ => ?_))
          | ((with_reducible first | refine NewB.mk (fun nb hnb => ?_) | refine NewRow.mk (fun nb nsp ncap hnb hncap => ?_)); have hnb1 := hnb.1.1; have hnb2 := hnb.1.2; try simp only [zzn] at hnb2)
          | simp (dsimp := false) (implicitDefEqProofs := false) (disch := first | assumption | (simp only [zzm]; done) | omega | (with_reducible refine Row.adr (by assumption) ?_; simp only [zzk]; omega) | (simp only [zzl, Nat.reduceAdd]; first | done | omega)) only [go_sem, ↓reduceIte, Nat.reduceEqDiff, Nat.reduceAdd, Nat.reduceSub, Nat.reduceMul, Nat.reduceBEq, Nat.reduceLT, Nat.reduceLeDiff, Nat.reduceMod, Nat.reducePow, List.reduceReplicate, UInt8.reduceOfNat, Int.reducePow, Int.reduceDiv, Int.reduceMod, Nat.reduceDiv, Int.reduceNeg, Int.reduceAdd, Int.reduceSub, Int.reduceMul, Int.reduceLE, Int.reduceLT, Int.reduceEq, Int.reduceToNat, reduceCtorEq, -List.reduceReplicate, List.toList_toArray, hCl, hCa, hC1l, hone1, hput1, htk1, zeroC_len, zeroC_one, zeroC_take, zeroC_put]
        unfold UpdR
        refine Upd.leave (H' := H) (by intro fsum; simp only [zzq]; omega) ?_
        exact fun _ hs => hR G1 _ hle1 hs (zeroD_is _)
    · have hw := wrongR_not hok h1
      rw [revR_not hok h1] at hR
      refine FnT.body tok [0, 1, 2, 4, 5, 6, 7, 8, 13, 23] Tryd.func6 rfl (by kernel_rfl) (by kernel_rfl) (by show _ ≤ 26; simp) fun hsep => ?_
      rw [Tryd.results6]
      have hsE := hsep
      try simp only [zzs] at hsE
      repeat (obtain ⟨hsx, hsE⟩ := hsE)
      repeat' first
        | (with_reducible first | refine Br.yes ?_ | refine Br.no ?_ | refine Br.dec (fun _ => ?_) (fun _ => ?_) | refine Br.beqB (fun _ => ?_) (fun _ => ?_) | refine Br.beqb (fun _ => ?_) (fun _ => ?_) | refine Br.mk (fun _ => ?_) (fun _ => ?_))
        | ((with_reducible first | refine NewB.mk (fun nb hnb => ?_) | refine NewRow.mk (fun nb nsp ncap hnb hncap => ?_)); have hnb1 := hnb.1.1; have hnb2 := hnb.1.2; try simp only [zzn] at hnb2)
        | simp (dsimp := false) (implicitDefEqProofs := false) (disch := first | assumption | (simp only [zzm]; done) | omega | (with_reducible refine Row.adr (by assumption) ?_; simp only [zzk]; omega) | (simp only [zzl, Nat.reduceAdd]; first | done | omega)) only [go_sem, ↓reduceIte, Nat.reduceEqDiff, Nat.reduceAdd, Nat.reduceSub, Nat.reduceMul, Nat.reduceBEq, Nat.reduceLT, Nat.reduceLeDiff, Nat.reduceMod, Nat.reducePow, List.reduceReplicate, UInt8.reduceOfNat, Int.reducePow, Int.reduceDiv, Int.reduceMod, Nat.reduceDiv, Int.reduceNeg, Int.reduceAdd, Int.reduceSub, Int.reduceMul, Int.reduceLE, Int.reduceLT, Int.reduceEq, Int.reduceToNat, reduceCtorEq, -List.reduceReplicate, List.toList_toArray, hCl, hCa, hw, zeroC_len, zeroC_one, zeroC_take, zeroC_put]
        | with_reducible refine wrong_t hsm hm O.is ?_
      unfold UpdR
      refine Upd.leave (H' := H) (by intro fsum; simp only [zzq]; omega) ?_
      exact fun _ hs => hR G _ (PLe.refl _) hs (zeroD_is _)
  · have hw := wrongR_bad (most := most) hok
    rw [revR_bad hok] at hR
    refine FnT.body tok [0, 1, 2, 4, 5, 6, 7, 8, 13, 23] Tryd.func6 rfl (by kernel_rfl) (by kernel_rfl) (by show _ ≤ 26; simp) fun hsep => ?_
    rw [Tryd.results6]
    have hsE := hsep
    try simp only [zzs] at hsE
    repeat (obtain ⟨hsx, hsE⟩ := hsE)
    repeat' first
      | (with_reducible first | refine Br.yes ?_ | refine Br.no ?_ | refine Br.dec (fun _ => ?_) (fun _ => ?_) | refine Br.beqB (fun _ => ?_) (fun _ => ?_) | refine Br.beqb (fun _ => ?_) (fun _ => ?_) | refine Br.mk (fun _ => ?_) (fun _ => ?_))
      | ((with_reducible first | refine NewB.mk (fun nb hnb => ?_) | refine NewRow.mk (fun nb nsp ncap hnb hncap => ?_)); have hnb1 := hnb.1.1; have hnb2 := hnb.1.2; try simp only [zzn] at hnb2)
      | simp (dsimp := false) (implicitDefEqProofs := false) (disch := first | assumption | (simp only [zzm]; done) | omega | (with_reducible refine Row.adr (by assumption) ?_; simp only [zzk]; omega) | (simp only [zzl, Nat.reduceAdd]; first | done | omega)) only [go_sem, ↓reduceIte, Nat.reduceEqDiff, Nat.reduceAdd, Nat.reduceSub, Nat.reduceMul, Nat.reduceBEq, Nat.reduceLT, Nat.reduceLeDiff, Nat.reduceMod, Nat.reducePow, List.reduceReplicate, UInt8.reduceOfNat, Int.reducePow, Int.reduceDiv, Int.reduceMod, Nat.reduceDiv, Int.reduceNeg, Int.reduceAdd, Int.reduceSub, Int.reduceMul, Int.reduceLE, Int.reduceLT, Int.reduceEq, Int.reduceToNat, reduceCtorEq, -List.reduceReplicate, List.toList_toArray, hCl, hCa, hw, zeroC_len, zeroC_one, zeroC_take, zeroC_put]
      | with_reducible refine wrong_t hsm hm O.is ?_
    unfold UpdR
    refine Upd.leave (H' := H) (by intro fsum; simp only [zzq]; omega) ?_
    exact fun _ hs => hR G _ (PLe.refl _) hs (zeroD_is _)
theorem cloneb_t (l : List UInt8) (hlen : l.length ≤ 2000000) {G : PHeap} {H : Heap} {R : Value → PHeap → Heap → Prop} {v : Value} (hv : Sl G byteV v l)
    (hR : ∀ v' kb, Sep G (keys (kb ++ H)) → SliceO [] 5 1 v' l.length (l.map byteV) kb → R v' G (kb ++ H)) : FnT Tryd.prog 36 [v] G H R := by
  obtain ⟨a, cap, rfl, hrow, hcap⟩ := hv
  refine FnT.sep ?_
  rcases a with _ | a
  · have h0 : l = [] := List.eq_nil_of_length_eq_zero (by
      rcases Nat.eq_zero_or_pos l.length with h | h
      · exact h
      · have := hrow.adr (by rw [List.length_map]; exact h)
        cases this)
    subst h0
    refine FnT.body tok [0, 2, 4] Tryd.func36 rfl (by kernel_rfl) (by kernel_rfl) (by show _ ≤ 8; simp) fun hsep => ?_
    rw [Tryd.results36]
    have hsE := hsep
    try simp only [zzs] at hsE
    repeat (obtain ⟨hsx, hsE⟩ := hsE)
    repeat' first
      | (with_reducible first | refine Br.yes ?_ | refine Br.no ?_ | refine Br.dec (fun _ => ?_) (fun _ => ?_) | refine Br.beqB (fun _ => ?_) (fun _ => ?_) | refine Br.beqb (fun _ => ?_) (fun _ => ?_) | refine Br.mk (fun _ => ?_) (fun _ => ?_) | refine appV.zero ?_ | refine appV.own ?_)
      | ((with_reducible first | refine NewB.mk (fun nb hnb => ?_) | refine NewRow.mk (fun nb nsp ncap hnb hncap => ?_)); have hnb1 := hnb.1.1; have hnb2 := hnb.1.2; try simp only [zzn] at hnb2)
      | simp (dsimp := false) (implicitDefEqProofs := false) (disch := first | assumption | (simp only [zzm]; done) | omega | (with_reducible refine Row.adr (by assumption) ?_; simp only [zzk]; omega) | (simp only [zzl, Nat.reduceAdd]; first | done | omega)) only [go_sem, ↓reduceIte, Nat.reduceEqDiff, Nat.reduceAdd, Nat.reduceSub, Nat.reduceMul, Nat.reduceBEq, Nat.reduceLT, Nat.reduceLeDiff, Nat.reduceMod, Nat.reducePow, List.reduceReplicate, UInt8.reduceOfNat, Int.reducePow, Int.reduceDiv, Int.reduceMod, Nat.reduceDiv, Int.reduceNeg, Int.reduceAdd, Int.reduceSub, Int.reduceMul, Int.reduceLE, Int.reduceLT, Int.reduceEq, Int.reduceToNat, reduceCtorEq]
    unfold UpdR
    exact Upd.go (H' := H) (by intro fsum; first | exact Nat.le_refl _ | (simp only [zzq]; omega)) (Upd.now fun hle hs => hR _ [] hs (.inl ⟨none, rfl, rfl, rfl, rfl⟩))
  · refine FnT.body tok [0, 2, 4] Tryd.func36 rfl (by kernel_rfl) (by kernel_rfl) (by show _ ≤ 8; simp) fun hsep => ?_
    rw [Tryd.results36]
    have hsE := hsep
    try simp only [zzs] at hsE
    repeat (obtain ⟨hsx, hsE⟩ := hsE)
    repeat' first
      | (with_reducible first | refine Br.yes ?_ | refine Br.no ?_ | refine Br.dec (fun _ => ?_) (fun _ => ?_) | refine Br.beqB (fun _ => ?_) (fun _ => ?_) | refine Br.beqb (fun _ => ?_) (fun _ => ?_) | refine Br.mk (fun _ => ?_) (fun _ => ?_) | refine appV.zero ?_ | refine appV.own ?_)
      | ((with_reducible first | refine NewB.mk (fun nb hnb => ?_) | refine NewRow.mk (fun nb nsp ncap hnb hncap => ?_)); have hnb1 := hnb.1.1; have hnb2 := hnb.1.2; try simp only [zzn] at hnb2)
      | simp (dsimp := false) (implicitDefEqProofs := false) (disch := first | assumption | (simp only [zzm]; done) | omega | (with_reducible refine Row.adr (by assumption) ?_; simp only [zzk]; omega) | (simp only [zzl, Nat.reduceAdd]; first | done | omega)) only [go_sem, ↓reduceIte, Nat.reduceEqDiff, Nat.reduceAdd, Nat.reduceSub, Nat.reduceMul, Nat.reduceBEq, Nat.reduceLT, Nat.reduceLeDiff, Nat.reduceMod, Nat.reducePow, List.reduceReplicate, UInt8.reduceOfNat, Int.reducePow, Int.reduceDiv, Int.reduceMod, Nat.reduceDiv, Int.reduceNeg, Int.reduceAdd, Int.reduceSub, Int.reduceMul, Int.reduceLE, Int.reduceLT, Int.reduceEq, Int.reduceToNat, reduceCtorEq, Row.rdSlAll hrow, List.length_map]
    · rename_i h0
      have h0 : l = [] := List.eq_nil_of_length_eq_zero h0
      subst h0
      unfold UpdR
      exact Upd.go (H' := H) (by intro fsum; first | exact Nat.le_refl _ | (simp only [zzq]; omega)) (Upd.now fun hle hs => hR _ [] hs (.inl ⟨_, rfl, rfl, rfl, rfl⟩))
    · unfold UpdR
      exact Upd.go (H' := (nb, .cells (l.map byteV) nsp 5) :: H) (by intro fsum; first | exact Nat.le_refl _ | (simp only [zzq]; omega)) (Upd.now fun hle hs => hR _ [(nb, .cells (l.map byteV) nsp 5)] hs (.inr ⟨nb, ncap, nsp, rfl, rfl, by rw [List.length_map]; omega, by rw [List.length_map]; omega⟩))
/-- half turned round -/
def RevI (xs L : List UInt8) (i : Nat) : Prop := ∃ h : L.length = xs.length, ∀ p (hp : p < xs.length), L[p]'(by rw [h]; exact hp) = if p < i ∨ xs.length ≤ p + i then xs[xs.length - 1 - p]'(by omega) else xs[p]
theorem RevI.zero (xs : List UInt8) : RevI xs xs 0 := ⟨rfl, fun p hp => by rw [if_neg (by omega)]⟩
theorem RevI.done {xs L : List UInt8} {i : Nat} (h : RevI xs L i) (hi : xs.length ≤ 2 * i + 1) : L = xs.reverse := by
  obtain ⟨hl, hp⟩ := h
  apply List.ext_getElem
  · rw [hl, List.length_reverse]
  · intro p h1 h2
    rw [hp p (by omega), List.getElem_reverse]
    by_cases hc : p < i ∨ xs.length ≤ p + i
    · rw [if_pos hc]
    · rw [if_neg hc]
      congr 1
      omega
theorem RevI.step {xs L : List UInt8} {i : Nat} (h : RevI xs L i) (hi : 2 * i + 1 < xs.length) : RevI xs ((L.set i (L[xs.length - 1 - i]'(by obtain ⟨hl, _⟩ := h; omega))).set (xs.length - 1 - i) (L[i]'(by obtain ⟨hl, _⟩ := h; omega))) (i + 1) := by
  obtain ⟨hl, hp⟩ := h
  refine ⟨by rw [List.length_set, List.length_set, hl], fun p hpl => ?_⟩
  rw [List.getElem_set, List.getElem_set]
  by_cases e1 : xs.length - 1 - i = p
  · rw [if_pos e1, hp i (by omega), if_neg (by omega), if_pos (by omega)]
    congr 1
    omega
  · rw [if_neg e1]
    by_cases e2 : i = p
    · rw [if_pos e2, hp (xs.length - 1 - i) (by omega), if_neg (by omega), if_pos (by omega)]
      congr 1
      omega
    · rw [if_neg e2, hp p hpl]
      by_cases hc : p < i ∨ xs.length ≤ p + i
      · rw [if_pos hc, if_pos (by omega)]
      · rw [if_neg hc, if_neg (by omega)]
theorem splice_byte {L : List UInt8} {i : Nat} (h : i < L.length) (b : UInt8) : splice (L.map byteV) i [.int .u8 (b.toNat : Nat)] = (L.set i b).map byteV := by
  have hb : (Value.int .u8 (b.toNat : Nat)) = byteV b := rfl
  rw [hb]
  unfold splice
  apply List.ext_getElem
  · simp; omega
  · intro j h1 h2
    simp only [List.length_map, List.length_set] at h2
    have hlt : (List.take i (L.map byteV)).length = i := by simp; omega
    rw [List.getElem_map, List.getElem_set]
    rcases Nat.lt_trichotomy j i with g | g | g
    · rw [List.getElem_append_left (by simp; omega), List.getElem_append_left (by omega), List.getElem_take, List.getElem_map, if_neg (by omega)]
    · subst g
      rw [List.getElem_append_left (by simp; omega), List.getElem_append_right (by omega), if_pos rfl]
      simp [hlt]
    · rw [List.getElem_append_right (by simp; omega), List.getElem_drop, List.getElem_map, if_neg (by omega)]
      congr 2
      simp; omega
set_option maxHeartbeats 8000000 in
theorem revb_t {xs : List UInt8} (hl : xs.length ≤ 2000000) {n c : Nat} (hn : n = xs.length) {sp : List Value} {b : Nat} {G : PHeap} {H : Heap} {R : Value → PHeap → Heap → Prop}
    (hR : R (.tuple #[]) G ((b, .cells (xs.reverse.map byteV) sp 5) :: H)) : FnT Tryd.prog 37 [.slice (some ⟨b, 0, none⟩) n c] G ((b, .cells (xs.map byteV) sp 5) :: H) R := by
  subst hn
  refine FnT.body tok [0, 2, 3, 9] Tryd.func37 rfl (by kernel_rfl) (by kernel_rfl) (by show _ ≤ 28; simp) fun hsep => ?_
  rw [Tryd.results37]
  have hsE := hsep
  try simp only [zzs] at hsE
  repeat (obtain ⟨hsx, hsE⟩ := hsE)
  repeat' first
    | (with_reducible first | refine Br.yes ?_ | refine Br.no ?_ | refine Br.dec (fun _ => ?_) (fun _ => ?_) | refine Br.mk (fun _ => ?_) (fun _ => ?_))
    | ((with_reducible first | refine NewB.mk (fun nb hnb => ?_)); have hnb1 := hnb.1.1; have hnb2 := hnb.1.2; try simp only [zzn] at hnb2)
    | simp (dsimp := false) (implicitDefEqProofs := false) (disch := first | assumption | (simp only [zzm]; done) | omega | (with_reducible refine Row.adr (by assumption) ?_; simp only [zzk]; omega) | (simp only [zzl, Nat.reduceAdd]; first | done | omega)) only [go_sem, ↓reduceIte, Nat.reduceEqDiff, Nat.reduceAdd, Nat.reduceSub, Nat.reduceMul, Nat.reduceBEq, Nat.reduceLT, Nat.reduceLeDiff, Nat.reduceMod, Nat.reducePow, List.reduceReplicate, UInt8.reduceOfNat, Int.reducePow, Int.reduceDiv, Int.reduceMod, Nat.reduceDiv, Int.reduceNeg, Int.reduceAdd, Int.reduceSub, Int.reduceMul, Int.reduceLE, Int.reduceLT, Int.reduceEq, Int.reduceToNat, reduceCtorEq]
  refine Tri.loopU tok [0, 2, 3, 9] (by kernel_rfl) [0, 2, 3] (fun q G' fr H' => ∃ (i : Nat) (L : List UInt8), i + q = xs.length ∧ RevI xs L i ∧ G' = G ∧ H' = (b, .cells (L.map byteV) sp 5) :: H ∧ fr = [(0, .slice (some ⟨b, 0, none⟩) xs.length c), (2, .int .i64 (i : Nat)), (3, .int .i64 ((xs.length : Int) - 1 - (i : Nat)))]) (xs.length) ?_ ?_
  · exact Upd.now ⟨0, xs, by omega, RevI.zero xs, rfl, rfl, by rw [show ((xs.length : Int) - 1 - ((0 : Nat) : Int)) = (xs.length : Int) - 1 by omega]; rfl⟩
  · rintro q G1 fr H1 hle1 hs1 ⟨i, L, hiq, hI, rfl, rfl, rfl⟩
    obtain ⟨hLl, _⟩ := id hI
    have hsE := hs1
    try simp only [zzs] at hsE
    repeat (obtain ⟨hsx, hsE⟩ := hsE)
    by_cases hi : 2 * i + 1 < xs.length
    · have hj : ((xs.length : Int) - 1 - (i : Nat)) = ((xs.length - 1 - i : Nat) : Int) := by omega
      have hcond : (i : Int) < ((xs.length - 1 - i : Nat) : Int) := by omega
      obtain ⟨j, hje⟩ : ∃ j, j = xs.length - 1 - i := ⟨_, rfl⟩
      have hjl : j < L.length := by omega
      have hil : i < L.length := by omega
      have hg1 : ((L.map byteV) ++ sp)[j]? = some (.int .u8 (L[j].toNat : Nat)) := by
        rw [List.getElem?_append_left (by rw [List.length_map]; omega), List.getElem?_map, List.getElem?_eq_getElem hjl]; rfl
      have hg2 : ((L.map byteV) ++ sp)[i]? = some (.int .u8 (L[i].toNat : Nat)) := by
        rw [List.getElem?_append_left (by rw [List.length_map]; omega), List.getElem?_map, List.getElem?_eq_getElem hil]; rfl
      have hp1 := splice_byte hil L[j]
      have hp2 := splice_byte (L := L.set i L[j]) (i := j) (by rw [List.length_set]; exact hjl) L[i]
      have hst := hI.step hi
      simp only [← hje] at hst hj hcond
      rw [hj]
      repeat' first
        | (with_reducible first | refine Br.yes ?_ | refine Br.no ?_ | refine Br.dec (fun _ => ?_) (fun _ => ?_) | refine Br.mk (fun _ => ?_) (fun _ => ?_))
        | ((with_reducible first | refine NewB.mk (fun nb hnb => ?_)); have hnb1 := hnb.1.1; have hnb2 := hnb.1.2; try simp only [zzn] at hnb2)
        | simp (dsimp := false) (implicitDefEqProofs := false) (disch := first | assumption | (simp only [zzm]; done) | omega | (with_reducible refine Row.adr (by assumption) ?_; simp only [zzk]; omega) | (simp only [zzl, Nat.reduceAdd]; first | done | omega)) only [go_sem, ↓reduceIte, Nat.reduceEqDiff, Nat.reduceAdd, Nat.reduceSub, Nat.reduceMul, Nat.reduceBEq, Nat.reduceLT, Nat.reduceLeDiff, Nat.reduceMod, Nat.reducePow, List.reduceReplicate, UInt8.reduceOfNat, Int.reducePow, Int.reduceDiv, Int.reduceMod, Nat.reduceDiv, Int.reduceNeg, Int.reduceAdd, Int.reduceSub, Int.reduceMul, Int.reduceLE, Int.reduceLT, Int.reduceEq, Int.reduceToNat, reduceCtorEq, hg1, hg2, hp1, hp2, List.length_map, List.length_set]
        | with_reducible refine Tri.drawS tok mixed [0, 2, 3, 9] 3 [7, 11] (.op 0 .plain (.op 1 .plain (.op 2 .plain (.op 3 .plain (.op 4 .plain (.op 5 .plain (.op 6 .plain (.op 7 .held (.op 8 .plain (.op 9 .plain (.op 10 .plain (.op 11 .held (.op 12 .plain (.op 13 .plain (.op 14 .plain (.op 15 .plain .nil)))))))))))))))) (by kernel_rfl) [(b, .cells (L.map byteV) sp 5)] (by intro fsum; first | exact Nat.le_refl _ | (simp only [zzq]; omega)) ?_
      exact Upd.now ⟨q - 1, by omega, i + 1, _, by omega, hst, rfl, rfl, by rw [show ((xs.length : Int) - 1 - ((i + 1 : Nat) : Int)) = (j : Int) - 1 by omega]; rfl⟩
    · have hcond : ¬ (i : Int) < ((xs.length : Int) - 1 - (i : Nat)) := by omega
      rw [hI.done (by omega)]
      repeat' first
        | (with_reducible first | refine Br.yes ?_ | refine Br.no ?_ | refine Br.dec (fun _ => ?_) (fun _ => ?_) | refine Br.mk (fun _ => ?_) (fun _ => ?_))
        | ((with_reducible first | refine NewB.mk (fun nb hnb => ?_)); have hnb1 := hnb.1.1; have hnb2 := hnb.1.2; try simp only [zzn] at hnb2)
        | simp (dsimp := false) (implicitDefEqProofs := false) (disch := first | assumption | (simp only [zzm]; done) | omega | (with_reducible refine Row.adr (by assumption) ?_; simp only [zzk]; omega) | (simp only [zzl, Nat.reduceAdd]; first | done | omega)) only [go_sem, ↓reduceIte, Nat.reduceEqDiff, Nat.reduceAdd, Nat.reduceSub, Nat.reduceMul, Nat.reduceBEq, Nat.reduceLT, Nat.reduceLeDiff, Nat.reduceMod, Nat.reducePow, List.reduceReplicate, UInt8.reduceOfNat, Int.reducePow, Int.reduceDiv, Int.reduceMod, Nat.reduceDiv, Int.reduceNeg, Int.reduceAdd, Int.reduceSub, Int.reduceMul, Int.reduceLE, Int.reduceLT, Int.reduceEq, Int.reduceToNat, reduceCtorEq]
      unfold UpdR
      exact Upd.now hR
theorem revb0_t {a : Option Addr} {c : Nat} {G : PHeap} {H : Heap} {R : Value → PHeap → Heap → Prop} (hR : R (.tuple #[]) G H) : FnT Tryd.prog 37 [.slice a 0 c] G H R := by
  refine FnT.body tok [0, 2, 3, 9] Tryd.func37 rfl (by kernel_rfl) (by kernel_rfl) (by show _ ≤ 28; simp) fun hsep => ?_
  rw [Tryd.results37]
  have hsE := hsep
  try simp only [zzs] at hsE
  repeat (obtain ⟨hsx, hsE⟩ := hsE)
  repeat' first
    | (with_reducible first | refine Br.yes ?_ | refine Br.no ?_ | refine Br.dec (fun _ => ?_) (fun _ => ?_) | refine Br.mk (fun _ => ?_) (fun _ => ?_))
    | ((with_reducible first | refine NewB.mk (fun nb hnb => ?_)); have hnb1 := hnb.1.1; have hnb2 := hnb.1.2; try simp only [zzn] at hnb2)
    | simp (dsimp := false) (implicitDefEqProofs := false) (disch := first | assumption | (simp only [zzm]; done) | omega | (with_reducible refine Row.adr (by assumption) ?_; simp only [zzk]; omega) | (simp only [zzl, Nat.reduceAdd]; first | done | omega)) only [go_sem, ↓reduceIte, Nat.reduceEqDiff, Nat.reduceAdd, Nat.reduceSub, Nat.reduceMul, Nat.reduceBEq, Nat.reduceLT, Nat.reduceLeDiff, Nat.reduceMod, Nat.reducePow, List.reduceReplicate, UInt8.reduceOfNat, Int.reducePow, Int.reduceDiv, Int.reduceMod, Nat.reduceDiv, Int.reduceNeg, Int.reduceAdd, Int.reduceSub, Int.reduceMul, Int.reduceLE, Int.reduceLT, Int.reduceEq, Int.reduceToNat, reduceCtorEq]
  refine Tri.loopU tok [0, 2, 3, 9] (by kernel_rfl) [0, 2, 3] (fun q G' fr H' => G' = G ∧ H' = H ∧ fr = [(0, .slice a 0 c), (2, .int .i64 0), (3, .int .i64 (-1))]) (0) ?_ ?_
  · exact Upd.now ⟨rfl, rfl, rfl⟩
  · rintro q G1 fr H1 hle1 hs1 ⟨rfl, rfl, rfl⟩
    repeat' first
      | (with_reducible first | refine Br.yes ?_ | refine Br.no ?_ | refine Br.dec (fun _ => ?_) (fun _ => ?_) | refine Br.mk (fun _ => ?_) (fun _ => ?_))
      | ((with_reducible first | refine NewB.mk (fun nb hnb => ?_)); have hnb1 := hnb.1.1; have hnb2 := hnb.1.2; try simp only [zzn] at hnb2)
      | simp (dsimp := false) (implicitDefEqProofs := false) (disch := first | assumption | (simp only [zzm]; done) | omega | (with_reducible refine Row.adr (by assumption) ?_; simp only [zzk]; omega) | (simp only [zzl, Nat.reduceAdd]; first | done | omega)) only [go_sem, ↓reduceIte, Nat.reduceEqDiff, Nat.reduceAdd, Nat.reduceSub, Nat.reduceMul, Nat.reduceBEq, Nat.reduceLT, Nat.reduceLeDiff, Nat.reduceMod, Nat.reducePow, List.reduceReplicate, UInt8.reduceOfNat, Int.reducePow, Int.reduceDiv, Int.reduceMod, Nat.reduceDiv, Int.reduceNeg, Int.reduceAdd, Int.reduceSub, Int.reduceMul, Int.reduceLE, Int.reduceLT, Int.reduceEq, Int.reduceToNat, reduceCtorEq]
    unfold UpdR
    exact Upd.now hR
set_option maxHeartbeats 8000000 in
theorem mturned_t {l : List UInt8} (hlen : l.length ≤ 2000000) {G : PHeap} {H : Heap} {R : Value → PHeap → Heap → Prop} {v : Value} (hv : Sl G byteV v l)
    (hR : ∀ G' v', PLe G G' → Sep G' (keys H) → Sl G' byteV v' l.reverse → R v' G' H) : FnT Tryd.prog 19 [v] G H R := by
  refine FnT.sep ?_
  obtain ⟨a, cap, rfl, hrow, hcap⟩ := id hv
  refine FnT.body tok [0, 2, 3] Tryd.func19 rfl (by kernel_rfl) (by kernel_rfl) (by show _ ≤ 9; simp) fun hsep => ?_
  rw [Tryd.results19]
  have hsE := hsep
  try simp only [zzs] at hsE
  repeat (obtain ⟨hsx, hsE⟩ := hsE)
  repeat' first
    | (with_reducible first | refine Br.yes ?_ | refine Br.no ?_ | refine Br.dec (fun _ => ?_) (fun _ => ?_) | refine Br.mk (fun _ => ?_) (fun _ => ?_))
    | simp (dsimp := false) (implicitDefEqProofs := false) (disch := first | assumption | (simp only [zzm]; done) | omega | (with_reducible refine Row.adr (by assumption) ?_; simp only [zzk]; omega) | (simp only [zzl, Nat.reduceAdd]; first | done | omega)) only [go_sem, ↓reduceIte, Nat.reduceEqDiff, Nat.reduceAdd, Nat.reduceSub, Nat.reduceMul, Nat.reduceBEq, Nat.reduceLT, Nat.reduceLeDiff, Nat.reduceMod, Nat.reducePow, List.reduceReplicate, UInt8.reduceOfNat, Int.reducePow, Int.reduceDiv, Int.reduceMod, Nat.reduceDiv, Int.reduceNeg, Int.reduceAdd, Int.reduceSub, Int.reduceMul, Int.reduceLE, Int.reduceLT, Int.reduceEq, Int.reduceToNat, reduceCtorEq]
  refine cloneb_t l hlen hv fun v1 kb hs1 hO => ?_
  rcases hO with ⟨aa, rfl, hn, hx, rfl⟩ | ⟨b, c, sp, rfl, rfl, hx, hc⟩
  · obtain rfl : l = [] := List.eq_nil_of_length_eq_zero hn
    repeat' first
      | (with_reducible first | refine Br.yes ?_ | refine Br.no ?_ | refine Br.dec (fun _ => ?_) (fun _ => ?_) | refine Br.mk (fun _ => ?_) (fun _ => ?_))
      | simp (dsimp := false) (implicitDefEqProofs := false) (disch := first | assumption | (simp only [zzm]; done) | omega | (with_reducible refine Row.adr (by assumption) ?_; simp only [zzk]; omega) | (simp only [zzl, Nat.reduceAdd]; first | done | omega)) only [go_sem, ↓reduceIte, Nat.reduceEqDiff, Nat.reduceAdd, Nat.reduceSub, Nat.reduceMul, Nat.reduceBEq, Nat.reduceLT, Nat.reduceLeDiff, Nat.reduceMod, Nat.reducePow, List.reduceReplicate, UInt8.reduceOfNat, Int.reducePow, Int.reduceDiv, Int.reduceMod, Nat.reduceDiv, Int.reduceNeg, Int.reduceAdd, Int.reduceSub, Int.reduceMul, Int.reduceLE, Int.reduceLT, Int.reduceEq, Int.reduceToNat, reduceCtorEq]
    refine revb0_t ?_
    repeat' first
      | (with_reducible first | refine Br.yes ?_ | refine Br.no ?_ | refine Br.dec (fun _ => ?_) (fun _ => ?_) | refine Br.mk (fun _ => ?_) (fun _ => ?_))
      | simp (dsimp := false) (implicitDefEqProofs := false) (disch := first | assumption | (simp only [zzm]; done) | omega | (with_reducible refine Row.adr (by assumption) ?_; simp only [zzk]; omega) | (simp only [zzl, Nat.reduceAdd]; first | done | omega)) only [go_sem, ↓reduceIte, Nat.reduceEqDiff, Nat.reduceAdd, Nat.reduceSub, Nat.reduceMul, Nat.reduceBEq, Nat.reduceLT, Nat.reduceLeDiff, Nat.reduceMod, Nat.reducePow, List.reduceReplicate, UInt8.reduceOfNat, Int.reducePow, Int.reduceDiv, Int.reduceMod, Nat.reduceDiv, Int.reduceNeg, Int.reduceAdd, Int.reduceSub, Int.reduceMul, Int.reduceLE, Int.reduceLT, Int.reduceEq, Int.reduceToNat, reduceCtorEq]
    unfold UpdR
    exact Upd.now fun _ hs => hR G _ (PLe.refl _) hs ⟨aa, 0, rfl, Row.nil _ _, Nat.le_refl 0⟩
  · rw [Nat.mul_one, List.length_map] at hc
    have hsE := hs1
    try simp only [zzs] at hsE
    repeat (obtain ⟨hsx, hsE⟩ := hsE)
    repeat' first
      | (with_reducible first | refine Br.yes ?_ | refine Br.no ?_ | refine Br.dec (fun _ => ?_) (fun _ => ?_) | refine Br.mk (fun _ => ?_) (fun _ => ?_))
      | simp (dsimp := false) (implicitDefEqProofs := false) (disch := first | assumption | (simp only [zzm]; done) | omega | (with_reducible refine Row.adr (by assumption) ?_; simp only [zzk]; omega) | (simp only [zzl, Nat.reduceAdd]; first | done | omega)) only [go_sem, ↓reduceIte, Nat.reduceEqDiff, Nat.reduceAdd, Nat.reduceSub, Nat.reduceMul, Nat.reduceBEq, Nat.reduceLT, Nat.reduceLeDiff, Nat.reduceMod, Nat.reducePow, List.reduceReplicate, UInt8.reduceOfNat, Int.reducePow, Int.reduceDiv, Int.reduceMod, Nat.reduceDiv, Int.reduceNeg, Int.reduceAdd, Int.reduceSub, Int.reduceMul, Int.reduceLE, Int.reduceLT, Int.reduceEq, Int.reduceToNat, reduceCtorEq]
    refine revb_t hlen rfl ?_
    repeat' first
      | (with_reducible first | refine Br.yes ?_ | refine Br.no ?_ | refine Br.dec (fun _ => ?_) (fun _ => ?_) | refine Br.mk (fun _ => ?_) (fun _ => ?_))
      | simp (dsimp := false) (implicitDefEqProofs := false) (disch := first | assumption | (simp only [zzm]; done) | omega | (with_reducible refine Row.adr (by assumption) ?_; simp only [zzk]; omega) | (simp only [zzl, Nat.reduceAdd]; first | done | omega)) only [go_sem, ↓reduceIte, Nat.reduceEqDiff, Nat.reduceAdd, Nat.reduceSub, Nat.reduceMul, Nat.reduceBEq, Nat.reduceLT, Nat.reduceLeDiff, Nat.reduceMod, Nat.reducePow, List.reduceReplicate, UInt8.reduceOfNat, Int.reducePow, Int.reduceDiv, Int.reduceMod, Nat.reduceDiv, Int.reduceNeg, Int.reduceAdd, Int.reduceSub, Int.reduceMul, Int.reduceLE, Int.reduceLT, Int.reduceEq, Int.reduceToNat, reduceCtorEq]
    unfold UpdR
    refine Upd.shareRow (by assumption) fun G2 hle2 hs2 hr2 => ?_
    exact fun _ hs => hR G2 _ hle2 hs ⟨some ⟨b, 0, none⟩, c, by rw [List.length_reverse], hr2, by rw [List.length_reverse]; omega⟩
theorem word_t {l : List UInt8} (hlen : l.length ≤ 2000000) {G : PHeap} {H : Heap} {R : Value → PHeap → Heap → Prop} {v : Value} (hv : Sl G byteV v l)
    (hR : ∀ G' v', PLe G G' → Sep G' (keys H) → Sl G' byteV v' l.reverse → R v' G' H) : FnT Tryd.prog 9 [v] G H R := by
  refine FnT.sep ?_
  obtain ⟨a, cap, rfl, hrow, hcap⟩ := id hv
  refine FnT.body tok [0, 2] Tryd.func9 rfl (by kernel_rfl) (by kernel_rfl) (by show _ ≤ 5; simp) fun hsep => ?_
  rw [Tryd.results9]
  have hsE := hsep
  try simp only [zzs] at hsE
  repeat (obtain ⟨hsx, hsE⟩ := hsE)
  repeat' first
    | (with_reducible first | refine Br.yes ?_ | refine Br.no ?_ | refine Br.dec (fun _ => ?_) (fun _ => ?_) | refine Br.mk (fun _ => ?_) (fun _ => ?_))
    | simp (dsimp := false) (implicitDefEqProofs := false) (disch := first | assumption | (simp only [zzm]; done) | omega | (with_reducible refine Row.adr (by assumption) ?_; simp only [zzk]; omega) | (simp only [zzl, Nat.reduceAdd]; first | done | omega)) only [go_sem, ↓reduceIte, Nat.reduceEqDiff, Nat.reduceAdd, Nat.reduceSub, Nat.reduceMul, Nat.reduceBEq, Nat.reduceLT, Nat.reduceLeDiff, Nat.reduceMod, Nat.reducePow, List.reduceReplicate, UInt8.reduceOfNat, Int.reducePow, Int.reduceDiv, Int.reduceMod, Nat.reduceDiv, Int.reduceNeg, Int.reduceAdd, Int.reduceSub, Int.reduceMul, Int.reduceLE, Int.reduceLT, Int.reduceEq, Int.reduceToNat, reduceCtorEq]
  refine mturned_t hlen hv fun G1 v1 hle1 hs1 hs => ?_
  obtain ⟨a1, c1, rfl, hr1, hc1⟩ := id hs
  repeat' first
    | (with_reducible first | refine Br.yes ?_ | refine Br.no ?_ | refine Br.dec (fun _ => ?_) (fun _ => ?_) | refine Br.mk (fun _ => ?_) (fun _ => ?_))
    | simp (dsimp := false) (implicitDefEqProofs := false) (disch := first | assumption | (simp only [zzm]; done) | omega | (with_reducible refine Row.adr (by assumption) ?_; simp only [zzk]; omega) | (simp only [zzl, Nat.reduceAdd]; first | done | omega)) only [go_sem, ↓reduceIte, Nat.reduceEqDiff, Nat.reduceAdd, Nat.reduceSub, Nat.reduceMul, Nat.reduceBEq, Nat.reduceLT, Nat.reduceLeDiff, Nat.reduceMod, Nat.reducePow, List.reduceReplicate, UInt8.reduceOfNat, Int.reducePow, Int.reduceDiv, Int.reduceMod, Nat.reduceDiv, Int.reduceNeg, Int.reduceAdd, Int.reduceSub, Int.reduceMul, Int.reduceLE, Int.reduceLT, Int.reduceEq, Int.reduceToNat, reduceCtorEq]
  unfold UpdR
  exact Upd.now fun _ hsH => hR G1 _ hle1 hsH hs
end Go.Proofs.YtefkpedhbijhkaaDoor
namespace Go.Proofs.YtefkpedhbijhkaaDoor
open Go Go.V Go.Proofs
end Go.Proofs.YtefkpedhbijhkaaDoor
namespace Go.Proofs.YtefkpedhbijhkaaDoor
open Go Go.V Go.Proofs
/-- two blocks of one's own, the first without marks: they do not overlap -/
theorem FnT.apart {f : FuncId} {fn : Func} {tS tR e e1 : TypeId} (hf : (Tryd.prog).funcs[f]? = some fn) (hname : (fn.name == "runtime.NumGoroutine") = false) (hb : fn.body.isNone = true) (hn : Extern.findNext fn = none) (he : Extern.find fn = some (Extern.SlicesOverlaps.overlaps #[tS, tS] #[tR])) (hk : (T tS).k = .slice e) (hk2 : (T e).k ≠ .none)
    {a b la ca lb cb o : Nat} {xs sp ys sp' : List Value} {e2 : TypeId} {G : PHeap} {H : Heap} {R : Value → PHeap → Heap → Prop} (ha : findH H a = some (.cells xs sp e1)) (h5 : e1 ≠ 5) (hbb : findH H b = some (.cells ys sp' e2)) (hne : a ≠ b) (hl : ys.length + sp'.length ≠ 0) (hR : R (.bool false) G H) :
    FnT Tryd.prog f [.slice (some ⟨a, 0, none⟩) la ca, .slice (some ⟨b, o, none⟩) lb cb] G H R := by
  refine FnT.ext (v := .bool false) (fun E w hw => ?_) hR
  obtain ⟨d, hd, hfit⟩ := tok.und hk (by simp)
  simp only [TK.fits] at hfit
  subst hfit
  obtain ⟨i, z, hi, hs, _⟩ := tok.info hk2
  obtain ⟨o1, ho1, fr1, rfl, hm1⟩ := hw.find ha
  obtain ⟨o2, ho2, fr2, rfl, hm2⟩ := hw.find hbb
  have hfr : fr1 = (0, 0) := by
    rcases hm1 with h | ⟨_, h⟩
    · exact h
    · exact absurd h h5
  subst hfr
  have key := Lib.run_overlaps_apart (P := Tryd.prog) w tS tR e hd ((Tryd.prog).cellsOf e) (fun w => run_sizeOf w hi) ⟨a, 0, none⟩ ⟨b, o, none⟩ la ca lb cb hne e1 e2 (xs ++ sp).length (ys ++ sp').length (by simp [World.shape?, ho1]) (by simp [World.shape?, ho2]) (by simpa using hl) (by simp [World.frozen?, ho1]) (by simp [World.frozen?, ho1])
  have h1 := run_callFunc_extern hf hname hb hn he #[.slice (some ⟨a, 0, none⟩) la ca, .slice (some ⟨b, o, none⟩) lb cb] w
  exact h1.trans (by rw [key]; rfl)
end Go.Proofs.YtefkpedhbijhkaaDoor
namespace Go.Proofs.YtefkpedhbijhkaaDoor
open Go Go.V Go.Proofs
theorem labW_same {d : DfaT} (hok : RightP d) : labW d (fun s => findF d.names s + 1) = d.label := by
  obtain ⟨hk1, hk2, hk3, hk4, hk5, hk6, hk7⟩ := id hok
  unfold labW
  conv => rhs; rw [← List.map_id d.label]
  refine List.map_congr_left fun k hk => ?_
  obtain ⟨i, hi, rfl⟩ := List.getElem_of_mem hk
  obtain ⟨_, w2, w3, _⟩ := hk7 i (by omega) hi
  by_cases h0 : 0 < d.label[i]
  · rw [if_pos h0]
    obtain ⟨n, hn⟩ : ∃ n : Nat, d.label[i] = (n : Int) + 1 := ⟨(d.label[i] - 1).toNat, by omega⟩
    have hnl2 : n < d.names.length := by omega
    rw [hn, nameD_at hnl2]
    show findF d.names d.names[n] + 1 = (n : Int) + 1
    rw [findF_some (place_get (names_nodup hok) hnl2)]
  · rw [if_neg h0]
    show 0 = d.label[i]
    omega
theorem withD_same {d : DfaT} (hok : RightP d) : withD d d.names (fun s => findF d.names s + 1) = d := by
  unfold withD
  rw [labW_same hok]
end Go.Proofs.YtefkpedhbijhkaaDoor
namespace Go.Proofs.YtefkpedhbijhkaaDoor
open Go Go.V Go.Proofs
end Go.Proofs.YtefkpedhbijhkaaDoor
namespace Go.Proofs.YtefkpedhbijhkaaDoor
open Go Go.V Go.Proofs
theorem zeroD_small : SmallD zeroD := by
  refine ⟨Nat.zero_le _, ?_, Nat.zero_le _, Nat.zero_le _, ?_⟩
  · intro r hr; cases hr
  · intro r hr; cases hr
theorem namesR_small {d : DfaT} (hsm : SmallD d) {l : List Tx} (h1 : l.length ≤ 2000000) (h2 : ∀ s ∈ l, s.length ≤ 2000000) : SmallD (namesR d l).1 := by
  unfold namesR
  split
  · split
    · split
      · exact withD_small hsm h1 h2 _
      · exact zeroD_small
    · exact zeroD_small
  · exact zeroD_small
theorem normR_small {d : DfaT} (hsm : SmallD d) : SmallD (normR d).1 := namesR_small hsm (usedR_small hsm).1 (usedR_small hsm).2
theorem names_of {l : List Tx} (h1 : l.length ≤ 64) (h2 : l.Nodup) (h3 : ∀ s ∈ l, nameB s = true) : namesOk l := by
  refine ⟨h1, fun i hi => ⟨h3 _ (List.getElem_mem hi), fun hm => ?_⟩⟩
  rw [List.mem_take_iff_getElem] at hm
  obtain ⟨j, hj, e⟩ := hm
  have := (List.getElem_inj h2).1 e
  omega
theorem names_name {l : List Tx} (h : namesOk l) {s : Tx} (hs : s ∈ l) : nameB s = true := by
  obtain ⟨i, hi, rfl⟩ := List.getElem_of_mem hs
  exact (h.2 i hi).1
theorem mem_usedS' {d : DfaT} (hok : RightP d) {s : Tx} (h : s ∈ usedS d) : s ∈ d.names := mem_usedR (by rw [usedR_ok hok]; exact h)
theorem usedS_rising {d : DfaT} (hok : RightP d) : Rising (usedS d) := by
  rw [← used_eq hok]
  exact rUsedL_rising d _ (Nat.le_refl _)
theorem usedS_names {d : DfaT} (hok : RightP d) : namesOk (usedS d) := by
  have h6 := hok.2.2.2.2.2.1
  have := usedS_len d
  exact names_of (by have := h6.1; omega) (usedS_rising hok).nodup fun s hs => names_name h6 (mem_usedS' hok hs)
def other : Tx := [111, 116, 104, 101, 114]
theorem nameD_mem {d : DfaT} (hok : RightP d) {i : Nat} (hi : i < d.label.length) (h0 : 0 < d.label[i]) : nameD d d.label[i] ∈ d.names := by
  obtain ⟨hk1, hk2, hk3, hk4, hk5, hk6, hk7⟩ := hok
  obtain ⟨_, w2, w3, _⟩ := hk7 i (by omega) hi
  obtain ⟨n, hn⟩ : ∃ n : Nat, d.label[i] = (n : Int) + 1 := ⟨(d.label[i] - 1).toNat, by omega⟩
  have hnl2 : n < d.names.length := by omega
  rw [hn, nameD_at hnl2]
  exact List.getElem_mem hnl2
theorem withD_right {d : DfaT} (hok : RightP d) {l : List Tx} (hl : namesOk l) {g : Tx → Int} (hg : ∀ s ∈ d.names, 0 ≤ g s ∧ g s ≤ l.length) : RightP (withD d l g) := by
  obtain ⟨hk1, hk2, hk3, hk4, hk5, hk6, hk7⟩ := id hok
  have hll : (withD d l g).label.length = d.label.length := labW_len d g
  refine ⟨by rw [hll]; exact hk1, by rw [hll]; exact hk2, by rw [hll]; exact hk3, hk4, hk5, hl, fun s h1 h2 => ?_⟩
  have h1 : s < d.next.length := h1
  have h2' : s < d.label.length := by rw [hll] at h2; exact h2
  obtain ⟨w1, w2, w3, w4⟩ := hk7 s h1 h2'
  have hlab : (withD d l g).label[s]'h2 = if 0 < d.label[s] then g (nameD d d.label[s]) else 0 := by
    show (labW d g)[s]'_ = _
    simp only [labW, List.getElem_map]
  refine ⟨w1, ?_, ?_, fun t ht => ?_⟩
  · rw [hlab]
    split
    · rename_i h0; exact (hg _ (nameD_mem hok h2' h0)).1
    · exact Int.le_refl 0
  · rw [hlab]
    show _ ≤ ((l.length : Nat) : Int)
    split
    · rename_i h0; exact (hg _ (nameD_mem hok h2' h0)).2
    · omega
  · have := w4 t ht
    rw [hll]; exact this
theorem findF_range (l : List Tx) (s : Tx) : 0 ≤ findF l s + 1 ∧ findF l s + 1 ≤ l.length := by
  cases hp : place l s with
  | none => rw [findF_none hp]; omega
  | some n =>
    have := (place_some hp).1
    rw [findF_some hp]; omega
theorem withN_right {d : DfaT} (hok : RightP d) {l : List Tx} (hl : namesOk l) : RightP (withN d l) := withD_right hok hl fun s _ => findF_range l s
theorem norm_tells {d : DfaT} (hok : RightP d) : normR d = (withN d (usedS d), 0) := by
  unfold normR
  rw [usedR_ok hok, namesR_ok hok (usedS_names hok) fun s h => h]
end Go.Proofs.YtefkpedhbijhkaaDoor
namespace Go.Proofs.YtefkpedhbijhkaaDoor
open Go Go.V Go.Proofs
theorem calleeWalk1 : V.Callee Tryd.prog 69 := ⟨_, _, Tryd.func69, rfl, by kernel_rfl⟩
/-- those that were met -/
def metR (n : Nat) (W : List Int) : List Value := rowV n fun t => decide ((t : Int) ∈ W)
theorem metR_len (n : Nat) (W : List Int) : (metR n W).length = n := rowV_len _ _
theorem metR_put {n : Nat} {W : List Int} {t : Nat} (h : t < n) : splice (metR n W) t [.bool true] = metR n (add1 W t) := by
  unfold metR
  rw [rowV_put _ h]
  refine rowV_congr fun j hj => ?_
  rw [Bool.eq_iff_iff]
  split
  · rename_i e; subst e; simp [mem_add1]
  · rename_i e
    rw [decide_eq_true_eq, decide_eq_true_eq, mem_add1]
    constructor
    · exact .inl
    · rintro (h1 | h1)
      · exact h1
      · omega
theorem metR_get {n : Nat} {W : List Int} {t : Nat} (h : t < n) : (metR n W)[t]? = some (.bool (decide ((t : Int) ∈ W))) := by unfold metR; rw [rowV_get? _ h]
theorem metR_zero (n : Nat) : metR n [] = List.replicate n (.bool false) := by
  unfold metR rowV
  apply List.ext_getElem
  · simp
  · intro i h1 h2; simp
theorem metR_addN (n : Nat) {V W : List Int} (h : ∀ x, x ∈ V ↔ x ∈ W) : metR n V = metR n W := rowV_congr fun t _ => by simp [h]
theorem sep_app {G : PHeap} {A B : Heap} {b : Nat} (h : Sep G (keys (A ++ B))) (hb : b ∈ keys B) : NotIn b (keys A) := by
  have h1 := (sep_iff.1 h).2
  rw [keys_app, List.nodup_append] at h1
  exact notIn_iff.2 fun ha => h1.2.2 b ha b hb rfl
theorem sep_find {G : PHeap} {H : Heap} {b : Nat} {r : Res} (h : Sep G (keys H)) (hf : findH H b = some r) : G b = none :=
  (sep_iff.1 h).1 b (List.mem_map.2 ⟨_, findH_mem hf, rfl⟩)
theorem find_sep {G : PHeap} {x : Nat × Res} {H : Heap} {b : Nat} {r : Res} (hs : Sep G (keys (x :: H))) (h : findH H b = some r) : findH (x :: H) b = some r := by
  have h1 : NotIn x.1 (keys H) := hs.1.2
  have h2 := NotIn.neFind h1 h
  obtain ⟨k, q⟩ := x
  exact (findH_ne h2 q H).trans h
theorem sep_turn {G : PHeap} {x1 x2 x3 x4 x5 : Nat × Res} {H : Heap} (h : Sep G (keys (x1 :: x2 :: x3 :: x4 :: x5 :: H))) : Sep G (keys (H ++ [x1, x2, x3, x4, x5])) := by
  rw [sep_iff] at h ⊢
  have hp : List.Perm (keys (H ++ [x1, x2, x3, x4, x5])) (keys (x1 :: x2 :: x3 :: x4 :: x5 :: H)) := by
    unfold keys
    exact (List.perm_append_comm (l₁ := H) (l₂ := [x1, x2, x3, x4, x5])).map _
  exact ⟨fun b hb => h.1 b (hp.mem_iff.1 hb), hp.nodup_iff.2 h.2⟩
theorem sep_turn' {G : PHeap} {x1 x2 x3 x4 x5 : Nat × Res} {H : Heap} (h : Sep G (keys (H ++ [x1, x2, x3, x4, x5]))) : Sep G (keys (x1 :: x2 :: x3 :: x4 :: x5 :: H)) := by
  rw [sep_iff] at h ⊢
  have hp : List.Perm (keys (H ++ [x1, x2, x3, x4, x5])) (keys (x1 :: x2 :: x3 :: x4 :: x5 :: H)) := by
    unfold keys
    exact (List.perm_append_comm (l₁ := H) (l₂ := [x1, x2, x3, x4, x5])).map _
  exact ⟨fun b hb => h.1 b (hp.mem_iff.2 hb), hp.nodup_iff.1 h.2⟩
set_option maxHeartbeats 16000000 in
set_option maxRecDepth 4000 in
theorem walk1_t (lr b1 b2 b3 bx : Nat) {n : Nat} (hn : n ≤ 65536) {W0 : List Int} (hW : OnceN n W0) {on : Int → List Int} (hon : ∀ s : Int, 0 ≤ s → s < n → ∀ t ∈ on s, 0 ≤ t ∧ t < n) (hol : ∀ s : Int, 0 ≤ s → s < n → (on s).length ≤ 20000000)
    {fid : FuncId} {XC : List Value} {tyX : TypeId} {G : PHeap}
    (hOn : ∀ (s : Int) (G1 : PHeap) (H1 : Heap) (R1 : Value → PHeap → Heap → Prop), PLe G G1 → 0 ≤ s → s < n → G1 bx = none → findH H1 bx = some (.cells XC [] tyX) → (∀ v, Sl G1 (Value.int .i64) v (on s) → R1 v G1 H1) → FnT Tryd.prog fid [.int .i64 s, .pointer (some ⟨bx, 0, none⟩)] G1 H1 R1)
    {v0 : Value} (hv0 : Sl G (Value.int .i64) v0 W0) {HC : Heap} {R : Value → PHeap → Heap → Prop}
    (J Jx : Nat → PHeap → Heap → Prop) (hJ : ∀ i G1 G2 H1, PLe G1 G2 → J i G1 H1 → J i G2 H1) (hX : ∀ i G1 H1, Sep G1 (keys H1) → J i G1 H1 → findH H1 bx = some (.cells XC [] tyX))
    (hY : ∀ i G1 H1 HW (hi : i < (bw on W0 i).length), PLe G G1 → Sep G1 (keys (H1 ++ HW)) → J i G1 H1 → YldT Tryd.prog lr [.int .i64 (bw on W0 i)[i]] G1 (H1 ++ HW) fun w G2 H2 => ∃ H3, H2 = H3 ++ HW ∧ ((w = .bool true ∧ J (i + 1) G2 H3) ∨ (w = .bool false ∧ Jx i G2 H3)))
    (h0 : J 0 G HC)
    (hR : ∀ G' H', PLe G G' → Sep G' (keys H') → ((∃ i, i = (bw on W0 i).length ∧ J i G' H') ∨ ∃ i, Jx i G' H') → R (.tuple #[]) G' H') :
    FnT Tryd.prog 69 [.func (.yield lr) #[] #[], .pointer (some ⟨b1, 0, none⟩), .pointer (some ⟨b2, 0, none⟩), .pointer (some ⟨b3, 0, none⟩)] G
      ((b3, .cells [.func (.func fid) #[] #[.pointer (some ⟨bx, 0, none⟩)]] [] 89) :: (b2, .cells [v0] [] 24) :: (b1, .cells [.int .i64 (n : Nat)] [] 3) :: HC) R := by
  obtain ⟨a0, c0, rfl, hrow0, hcap0⟩ := id hv0
  have hW0 := hW.len
  refine FnT.body tok [0, 1, 2, 3, 5, 6, 8, 9, 11, 16, 17, 18, 19, 29, 38, 44, 45, 46, 47, 53] Tryd.func69 rfl (by kernel_rfl) (by kernel_rfl) (by show _ ≤ 62; simp) fun hsep => ?_
  rw [Tryd.results69]
  have hsE := hsep
  try simp only [zzs] at hsE
  repeat (obtain ⟨hsx, hsE⟩ := hsE)
  repeat' first
    | (with_reducible first | refine Br.yes ?_ | refine Br.no ?_ | refine Br.dec (fun _ => ?_) (fun _ => ?_) | refine Br.mk (fun _ => ?_) (fun _ => ?_) | refine appV.zero ?_ | refine appV.own ?_)
    | ((with_reducible first | refine NewB.mk (fun nb hnb => ?_) | refine NewRow.mk (fun nb nsp ncap hnb hncap => ?_)); have hnb1 := hnb.1.1; have hnb2 := hnb.1.2; try simp only [zzn] at hnb2)
    | simp (dsimp := false) (implicitDefEqProofs := false) (disch := first | assumption | (simp only [zzm]; done) | omega | (with_reducible refine Row.adr (by assumption) ?_; simp only [zzk]; omega) | (simp only [zzl, Nat.reduceAdd]; first | done | omega)) only [go_sem, ↓reduceIte, Nat.reduceEqDiff, Nat.reduceAdd, Nat.reduceSub, Nat.reduceMul, Nat.reduceBEq, Nat.reduceLT, Nat.reduceLeDiff, Nat.reduceMod, Nat.reducePow, List.reduceReplicate, UInt8.reduceOfNat, Int.reducePow, Int.reduceDiv, Int.reduceMod, Nat.reduceDiv, Int.reduceNeg, Int.reduceAdd, Int.reduceSub, Int.reduceMul, Int.reduceLE, Int.reduceLT, Int.reduceEq, Int.reduceToNat, reduceCtorEq, -List.reduceReplicate, Nat.sub_self, List.replicate_zero]
  obtain ⟨bt, e0⟩ : ∃ x, x = nb := ⟨_, rfl⟩
  subst e0
  refine clonei_t W0 (by omega) hv0 fun v kb hsk hkb => ?_
  have hn1 : NotIn bt (keys kb) := sep_app hsk (by simp [keys])
  have hn2 : NotIn b3 (keys kb) := sep_app hsk (by simp [keys])
  have hn3 : NotIn b2 (keys kb) := sep_app hsk (by simp [keys])
  have hn4 : NotIn b1 (keys kb) := sep_app hsk (by simp [keys])
  repeat' first
    | (with_reducible first | refine Br.yes ?_ | refine Br.no ?_ | refine Br.dec (fun _ => ?_) (fun _ => ?_) | refine Br.mk (fun _ => ?_) (fun _ => ?_) | refine appV.zero ?_ | refine appV.own ?_)
    | ((with_reducible first | refine NewB.mk (fun nb hnb => ?_) | refine NewRow.mk (fun nb nsp ncap hnb hncap => ?_)); have hnb1 := hnb.1.1; have hnb2 := hnb.1.2; try simp only [zzn] at hnb2)
    | simp (dsimp := false) (implicitDefEqProofs := false) (disch := first | assumption | (simp only [zzm]; done) | omega | (with_reducible refine Row.adr (by assumption) ?_; simp only [zzk]; omega) | (simp only [zzl, Nat.reduceAdd]; first | done | omega)) only [go_sem, ↓reduceIte, Nat.reduceEqDiff, Nat.reduceAdd, Nat.reduceSub, Nat.reduceMul, Nat.reduceBEq, Nat.reduceLT, Nat.reduceLeDiff, Nat.reduceMod, Nat.reducePow, List.reduceReplicate, UInt8.reduceOfNat, Int.reducePow, Int.reduceDiv, Int.reduceMod, Nat.reduceDiv, Int.reduceNeg, Int.reduceAdd, Int.reduceSub, Int.reduceMul, Int.reduceLE, Int.reduceLT, Int.reduceEq, Int.reduceToNat, reduceCtorEq]
  refine Tri.loopU tok [0, 1, 2, 3, 5, 6, 8, 9, 11, 16, 17, 18, 19, 29, 38, 44, 45, 46, 47, 53] (by kernel_rfl) [0, 1, 2, 3, 5, 6, 16, 17, 18] (fun q G' fr H' => ∃ i : Nat, i + q = W0.length ∧ G' = G ∧ H' = (bt, .cells (metR n (W0.take i)) [] 4) :: (b3, .cells [.func (.func fid) #[] #[.pointer (some ⟨bx, 0, none⟩)]] [] 89) :: (b2, .cells [.slice a0 W0.length c0] [] 24) :: (b1, .cells [.int .i64 (n : Nat)] [] 3) :: (kb ++ HC) ∧ fr = [(0, .func (.yield lr) #[] #[]), (1, .pointer (some ⟨b1, 0, none⟩)), (2, .pointer (some ⟨b2, 0, none⟩)), (3, .pointer (some ⟨b3, 0, none⟩)), (5, .slice (some ⟨bt, 0, none⟩) n n), (6, v), (16, .slice a0 W0.length c0), (17, .int .i64 W0.length), (18, .int .i64 (i : Nat))]) (W0.length) ?_ ?_
  · rw [← metR_zero]
    exact Upd.go (H' := (bt, .cells (metR n []) [] 4) :: (b3, .cells [.func (.func fid) #[] #[.pointer (some ⟨bx, 0, none⟩)]] [] 89) :: (b2, .cells [.slice a0 W0.length c0] [] 24) :: (b1, .cells [.int .i64 (n : Nat)] [] 3) :: (kb ++ HC)) (by intro fsum; first | exact Nat.le_refl _ | (simp only [zzq]; omega)) (Upd.now ⟨0, by omega, rfl, by rw [List.take_zero], rfl⟩)
  · rintro q G1 fr H' hle hs1 ⟨i, hiq, rfl, rfl, rfl⟩
    by_cases hil : i < W0.length
    · have had : Adr a0 := hrow0.adr (by rw [List.length_map]; omega)
      have hx := hW.2 _ (List.getElem_mem hil)
      obtain ⟨t, ht⟩ := Int.eq_ofNat_of_zero_le hx.1
      have htn : t < n := by omega
      have hml := metR_len n (W0.take i)
      have hput : splice (metR n (W0.take i)) t [.bool true] = metR n (W0.take (i + 1)) := by
        rw [metR_put htn, ← ht]
        exact metR_addN n fun x => by rw [mem_add1, List.take_succ_eq_append_getElem hil, List.mem_append, List.mem_singleton]
      repeat' first
        | (with_reducible first | refine Br.yes ?_ | refine Br.no ?_ | refine Br.dec (fun _ => ?_) (fun _ => ?_) | refine Br.mk (fun _ => ?_) (fun _ => ?_) | refine appV.zero ?_ | refine appV.own ?_)
        | ((with_reducible first | refine NewB.mk (fun nb hnb => ?_) | refine NewRow.mk (fun nb nsp ncap hnb hncap => ?_)); have hnb1 := hnb.1.1; have hnb2 := hnb.1.2; try simp only [zzn] at hnb2)
        | simp (dsimp := false) (implicitDefEqProofs := false) (disch := first | assumption | (simp only [zzm]; done) | omega | (with_reducible refine Row.adr (by assumption) ?_; simp only [zzk]; omega) | (simp only [zzl, Nat.reduceAdd]; first | done | omega)) only [go_sem, ↓reduceIte, Nat.reduceEqDiff, Nat.reduceAdd, Nat.reduceSub, Nat.reduceMul, Nat.reduceBEq, Nat.reduceLT, Nat.reduceLeDiff, Nat.reduceMod, Nat.reducePow, List.reduceReplicate, UInt8.reduceOfNat, Int.reducePow, Int.reduceDiv, Int.reduceMod, Nat.reduceDiv, Int.reduceNeg, Int.reduceAdd, Int.reduceSub, Int.reduceMul, Int.reduceLE, Int.reduceLT, Int.reduceEq, Int.reduceToNat, reduceCtorEq, Row.obj hrow0, List.getElem_map, ht, hput]
      exact Upd.now ⟨q - 1, by omega, i + 1, by omega, rfl, rfl, rfl⟩
    · obtain rfl : i = W0.length := by omega
      rw [List.take_length] at hs1 ⊢
      repeat' first
        | (with_reducible first | refine Br.yes ?_ | refine Br.no ?_ | refine Br.dec (fun _ => ?_) (fun _ => ?_) | refine Br.mk (fun _ => ?_) (fun _ => ?_) | refine appV.zero ?_ | refine appV.own ?_)
        | ((with_reducible first | refine NewB.mk (fun nb hnb => ?_) | refine NewRow.mk (fun nb nsp ncap hnb hncap => ?_)); have hnb1 := hnb.1.1; have hnb2 := hnb.1.2; try simp only [zzn] at hnb2)
        | simp (dsimp := false) (implicitDefEqProofs := false) (disch := first | assumption | (simp only [zzm]; done) | omega | (with_reducible refine Row.adr (by assumption) ?_; simp only [zzk]; omega) | (simp only [zzl, Nat.reduceAdd]; first | done | omega)) only [go_sem, ↓reduceIte, Nat.reduceEqDiff, Nat.reduceAdd, Nat.reduceSub, Nat.reduceMul, Nat.reduceBEq, Nat.reduceLT, Nat.reduceLeDiff, Nat.reduceMod, Nat.reducePow, List.reduceReplicate, UInt8.reduceOfNat, Int.reducePow, Int.reduceDiv, Int.reduceMod, Nat.reduceDiv, Int.reduceNeg, Int.reduceAdd, Int.reduceSub, Int.reduceMul, Int.reduceLE, Int.reduceLT, Int.reduceEq, Int.reduceToNat, reduceCtorEq]
      refine Tri.loopU tok [0, 1, 2, 3, 5, 6, 8, 9, 11, 16, 17, 18, 19, 29, 38, 44, 45, 46, 47, 53] (by kernel_rfl) [0, 1, 2, 3, 5, 6, 9] (fun q G' fr H' => ∃ (i : Nat) (v : Value) (kb H1 : Heap), i + q = n ∧ i ≤ (bw on W0 i).length ∧ PLe G1 G' ∧ SliceO [] 3 1 v (bw on W0 i).length ((bw on W0 i).map (Value.int .i64)) kb ∧ J i G' H1 ∧ H' = (bt, .cells (metR n (bw on W0 i)) [] 4) :: (b3, .cells [.func (.func fid) #[] #[.pointer (some ⟨bx, 0, none⟩)]] [] 89) :: (b2, .cells [.slice a0 W0.length c0] [] 24) :: (b1, .cells [.int .i64 (n : Nat)] [] 3) :: (kb ++ H1) ∧ fr = [(0, .func (.yield lr) #[] #[]), (1, .pointer (some ⟨b1, 0, none⟩)), (2, .pointer (some ⟨b2, 0, none⟩)), (3, .pointer (some ⟨b3, 0, none⟩)), (5, .slice (some ⟨bt, 0, none⟩) n n), (6, v), (9, .int .i64 (i : Nat))]) (n) ?_ ?_
      · exact Upd.now ⟨0, v, kb, HC, by omega, Nat.zero_le _, PLe.refl _, hkb, h0, rfl, rfl⟩
      · rintro q G2 fr H' hle2 hs2 ⟨i, v, kb, H1, hiq, hil, hleG, hkb, hJi, rfl, rfl⟩
        have hO := bw_once hW hon i
        have hOl := hO.len
        rcases hkb with ⟨a, rfl, hz, hz2, rfl⟩ | ⟨bk, ck, sk, rfl, rfl, hkl, hkc⟩
        · repeat' first
            | (with_reducible first | refine Br.yes ?_ | refine Br.no ?_ | refine Br.dec (fun _ => ?_) (fun _ => ?_) | refine Br.mk (fun _ => ?_) (fun _ => ?_) | refine appV.zero ?_ | refine appV.own ?_)
            | ((with_reducible first | refine NewB.mk (fun nb hnb => ?_) | refine NewRow.mk (fun nb nsp ncap hnb hncap => ?_)); have hnb1 := hnb.1.1; have hnb2 := hnb.1.2; try simp only [zzn] at hnb2)
            | simp (dsimp := false) (implicitDefEqProofs := false) (disch := first | assumption | (simp only [zzm]; done) | omega | (with_reducible refine Row.adr (by assumption) ?_; simp only [zzk]; omega) | (simp only [zzl, Nat.reduceAdd]; first | done | omega)) only [go_sem, ↓reduceIte, Nat.reduceEqDiff, Nat.reduceAdd, Nat.reduceSub, Nat.reduceMul, Nat.reduceBEq, Nat.reduceLT, Nat.reduceLeDiff, Nat.reduceMod, Nat.reducePow, List.reduceReplicate, UInt8.reduceOfNat, Int.reducePow, Int.reduceDiv, Int.reduceMod, Nat.reduceDiv, Int.reduceNeg, Int.reduceAdd, Int.reduceSub, Int.reduceMul, Int.reduceLE, Int.reduceLT, Int.reduceEq, Int.reduceToNat, reduceCtorEq]
          all_goals try (exfalso; omega)
          unfold UpdR
          exact Upd.go (H' := H1) (by intro fsum; first | exact Nat.le_refl _ | (simp only [zzq]; omega)) (Upd.now (hR G2 H1 hleG (Sep.suf (H := [(bt, .cells (metR n (bw on W0 i)) [] 4), (b3, .cells [.func (.func fid) #[] #[.pointer (some ⟨bx, 0, none⟩)]] [] 89), (b2, .cells [.slice a0 W0.length c0] [] 24), (b1, .cells [.int .i64 (n : Nat)] [] 3)]) hs2) (.inl ⟨i, by omega, hJi⟩)))
        · rw [List.length_map] at hkl hkc
          have hsE := hs2
          try simp only [zzs] at hsE
          repeat (obtain ⟨hsx, hsE⟩ := hsE)
          by_cases hi : i < (bw on W0 i).length
          · have hx := hO.2 _ (List.getElem_mem hi)
            have hsucc := bw_succ hi
            repeat' first
              | (with_reducible first | refine Br.yes ?_ | refine Br.no ?_ | refine Br.dec (fun _ => ?_) (fun _ => ?_) | refine Br.mk (fun _ => ?_) (fun _ => ?_) | refine appV.zero ?_ | refine appV.own ?_)
              | ((with_reducible first | refine NewB.mk (fun nb hnb => ?_) | refine NewRow.mk (fun nb nsp ncap hnb hncap => ?_)); have hnb1 := hnb.1.1; have hnb2 := hnb.1.2; try simp only [zzn] at hnb2)
              | simp (dsimp := false) (implicitDefEqProofs := false) (disch := first | assumption | (simp only [zzm]; done) | omega | (with_reducible refine Row.adr (by assumption) ?_; simp only [zzk]; omega) | (simp only [zzl, Nat.reduceAdd]; first | done | omega)) only [go_sem, ↓reduceIte, Nat.reduceEqDiff, Nat.reduceAdd, Nat.reduceSub, Nat.reduceMul, Nat.reduceBEq, Nat.reduceLT, Nat.reduceLeDiff, Nat.reduceMod, Nat.reducePow, List.reduceReplicate, UInt8.reduceOfNat, Int.reducePow, Int.reduceDiv, Int.reduceMod, Nat.reduceDiv, Int.reduceNeg, Int.reduceAdd, Int.reduceSub, Int.reduceMul, Int.reduceLE, Int.reduceLT, Int.reduceEq, Int.reduceToNat, reduceCtorEq, List.getElem_append_left, List.getElem_map]
            refine YldT.upd (YldT.leave (H' := H1 ++ [(bt, .cells (metR n (bw on W0 i)) [] 4), (b3, .cells [.func (.func fid) #[] #[.pointer (some ⟨bx, 0, none⟩)]] [] 89), (b2, .cells [.slice a0 W0.length c0] [] 24), (b1, .cells [.int .i64 (n : Nat)] [] 3), (bk, .cells ((bw on W0 i).map (Value.int .i64)) sk 3)]) ?_ (by intro fsum; first | exact Nat.le_refl _ | (simp only [zzq]; omega)))
            have hs3 := sep_turn hs2
            refine YldT.mono (hY i G2 H1 _ hi hleG hs3 hJi) ?_
            rintro w G3 _ hle3 hs4 ⟨H3, rfl, hw⟩
            refine Upd.go (H' := (bt, .cells (metR n (bw on W0 i)) [] 4) :: (b3, .cells [.func (.func fid) #[] #[.pointer (some ⟨bx, 0, none⟩)]] [] 89) :: (b2, .cells [.slice a0 W0.length c0] [] 24) :: (b1, .cells [.int .i64 (n : Nat)] [] 3) :: (bk, .cells ((bw on W0 i).map (Value.int .i64)) sk 3) :: H3) (by intro fsum; first | exact Nat.le_refl _ | (simp only [zzq]; omega)) (Upd.now ?_)
            have hs5 := sep_turn' hs4
            have hsE := hs5
            try simp only [zzs] at hsE
            repeat (obtain ⟨hsx, hsE⟩ := hsE)
            rcases hw with ⟨rfl, hJ3⟩ | ⟨rfl, hJ3⟩
            · have hfx3 := hX _ G3 H3 hs5.2.2.2.2.2 hJ3
              repeat' first
                | (with_reducible first | refine Br.yes ?_ | refine Br.no ?_ | refine Br.dec (fun _ => ?_) (fun _ => ?_) | refine Br.mk (fun _ => ?_) (fun _ => ?_) | refine appV.zero ?_ | refine appV.own ?_)
                | ((with_reducible first | refine NewB.mk (fun nb hnb => ?_) | refine NewRow.mk (fun nb nsp ncap hnb hncap => ?_)); have hnb1 := hnb.1.1; have hnb2 := hnb.1.2; try simp only [zzn] at hnb2)
                | simp (dsimp := false) (implicitDefEqProofs := false) (disch := first | assumption | (simp only [zzm]; done) | omega | (with_reducible refine Row.adr (by assumption) ?_; simp only [zzk]; omega) | (simp only [zzl, Nat.reduceAdd]; first | done | omega)) only [go_sem, ↓reduceIte, Nat.reduceEqDiff, Nat.reduceAdd, Nat.reduceSub, Nat.reduceMul, Nat.reduceBEq, Nat.reduceLT, Nat.reduceLeDiff, Nat.reduceMod, Nat.reducePow, List.reduceReplicate, UInt8.reduceOfNat, Int.reducePow, Int.reduceDiv, Int.reduceMod, Nat.reduceDiv, Int.reduceNeg, Int.reduceAdd, Int.reduceSub, Int.reduceMul, Int.reduceLE, Int.reduceLT, Int.reduceEq, Int.reduceToNat, reduceCtorEq, List.getElem_append_left, List.getElem_map]
                | with_reducible refine Tri.drawS tok mixed [0, 1, 2, 3, 5, 6, 8, 9, 11, 16, 17, 18, 19, 29, 38, 44, 45, 46, 47, 53] 11 [0, 4] (.op 0 .held (.op 1 .plain (.op 2 .plain (.op 3 .plain (.op 4 .held (.op 7 .plain (.op 5 .plain (.op 6 .plain .nil)))))))) (by kernel_rfl) [(b3, .cells [.func (.func fid) #[] #[.pointer (some ⟨bx, 0, none⟩)]] [] 89), (bk, .cells ((bw on W0 i).map (Value.int .i64)) sk 3)] (by intro fsum; first | exact Nat.le_refl _ | (simp only [zzq]; omega)) ?_
              have hfx5 := find_sep hs5 (find_sep hs5.2 (find_sep hs5.2.2 (find_sep hs5.2.2.2 (find_sep hs5.2.2.2.2 hfx3))))
              have hxb := sep_find hs5 hfx5
              refine hOn _ G3 _ _ (hleG.trans hle3) hx.1 hx.2 hxb hfx5 fun v' hv' => ?_
              obtain ⟨ao, co, rfl, hro, hco⟩ := hv'
              have honl := hol _ hx.1 hx.2
              have honr := hon _ hx.1 hx.2
              repeat' first
                | (with_reducible first | refine Br.yes ?_ | refine Br.no ?_ | refine Br.dec (fun _ => ?_) (fun _ => ?_) | refine Br.mk (fun _ => ?_) (fun _ => ?_) | refine appV.zero ?_ | refine appV.own ?_)
                | ((with_reducible first | refine NewB.mk (fun nb hnb => ?_) | refine NewRow.mk (fun nb nsp ncap hnb hncap => ?_)); have hnb1 := hnb.1.1; have hnb2 := hnb.1.2; try simp only [zzn] at hnb2)
                | simp (dsimp := false) (implicitDefEqProofs := false) (disch := first | assumption | (simp only [zzm]; done) | omega | (with_reducible refine Row.adr (by assumption) ?_; simp only [zzk]; omega) | (simp only [zzl, Nat.reduceAdd]; first | done | omega)) only [go_sem, ↓reduceIte, Nat.reduceEqDiff, Nat.reduceAdd, Nat.reduceSub, Nat.reduceMul, Nat.reduceBEq, Nat.reduceLT, Nat.reduceLeDiff, Nat.reduceMod, Nat.reducePow, List.reduceReplicate, UInt8.reduceOfNat, Int.reducePow, Int.reduceDiv, Int.reduceMod, Nat.reduceDiv, Int.reduceNeg, Int.reduceAdd, Int.reduceSub, Int.reduceMul, Int.reduceLE, Int.reduceLT, Int.reduceEq, Int.reduceToNat, reduceCtorEq]
              generalize hos : on (bw on W0 i)[i] = os at *
              refine Tri.loopU tok [0, 1, 2, 3, 5, 6, 8, 9, 11, 16, 17, 18, 19, 29, 38, 44, 45, 46, 47, 53] (by kernel_rfl) [0, 1, 2, 3, 5, 6, 9, 44, 45, 46] (fun q' G' fr H' => ∃ (k : Nat) (v : Value) (kb : Heap), k + q' = os.length ∧ G' = G3 ∧ SliceO [] 3 1 v (addN (bw on W0 i) (os.take k)).length ((addN (bw on W0 i) (os.take k)).map (Value.int .i64)) kb ∧ H' = (bt, .cells (metR n (addN (bw on W0 i) (os.take k))) [] 4) :: (b3, .cells [.func (.func fid) #[] #[.pointer (some ⟨bx, 0, none⟩)]] [] 89) :: (b2, .cells [.slice a0 W0.length c0] [] 24) :: (b1, .cells [.int .i64 (n : Nat)] [] 3) :: (kb ++ H3) ∧ fr = [(0, .func (.yield lr) #[] #[]), (1, .pointer (some ⟨b1, 0, none⟩)), (2, .pointer (some ⟨b2, 0, none⟩)), (3, .pointer (some ⟨b3, 0, none⟩)), (5, .slice (some ⟨bt, 0, none⟩) n n), (6, v), (9, .int .i64 (i : Nat)), (44, .slice ao os.length co), (45, .int .i64 os.length), (46, .int .i64 (k : Nat))]) (os.length) ?_ ?_
              · exact Upd.now ⟨0, _, [(bk, .cells ((bw on W0 i).map (Value.int .i64)) sk 3)], by omega, rfl, .inr ⟨bk, ck, sk, rfl, rfl, by rw [List.length_map]; simp, by rw [List.length_map, List.take_zero, addN_nil]; omega⟩, rfl, rfl⟩
              · rintro q' G4 fr H' hle4 hs6 ⟨k, v, kb, hkq, rfl, hkb, rfl, rfl⟩
                have hOk : OnceN n (addN (bw on W0 i) (os.take k)) := hO.addN fun x hx => honr x (List.mem_of_mem_take hx)
                have hOkl := hOk.len
                obtain ⟨X, hX1⟩ := addN_pre (os.take k) (bw on W0 i)
                have hXl := congrArg List.length hX1
                rw [List.length_append] at hXl
                rcases hkb with ⟨a, rfl, hz, hz2, rfl⟩ | ⟨bm, cm, sm, rfl, rfl, hml, hmc⟩
                · omega
                · rw [List.length_map] at hml hmc
                  have hmt := metR_len n (addN (bw on W0 i) (os.take k))
                  have hsE := hs6
                  try simp only [zzs] at hsE
                  repeat (obtain ⟨hsx, hsE⟩ := hsE)
                  by_cases hk : k < os.length
                  · have had : Adr ao := hro.adr (by rw [List.length_map]; omega)
                    have hy := honr _ (List.getElem_mem hk)
                    obtain ⟨t, ht⟩ := Int.eq_ofNat_of_zero_le hy.1
                    have htn : t < n := by omega
                    have hg := metR_get (W := addN (bw on W0 i) (os.take k)) htn
                    have hnext := addN_take (bw on W0 i) os hk
                    have hput := metR_put (W := addN (bw on W0 i) (os.take k)) htn
                    by_cases hin : (t : Int) ∈ addN (bw on W0 i) (os.take k)
                    · rw [decide_eq_true hin] at hg
                      have hn2 : addN (bw on W0 i) (os.take (k + 1)) = addN (bw on W0 i) (os.take k) := by rw [hnext, ht]; unfold add1; rw [if_pos hin]
                      repeat' first
                        | (with_reducible first | refine Br.yes ?_ | refine Br.no ?_ | refine Br.dec (fun _ => ?_) (fun _ => ?_) | refine Br.mk (fun _ => ?_) (fun _ => ?_) | refine appV.zero ?_ | refine appV.own ?_)
                        | ((with_reducible first | refine NewB.mk (fun nb hnb => ?_) | refine NewRow.mk (fun nb nsp ncap hnb hncap => ?_)); have hnb1 := hnb.1.1; have hnb2 := hnb.1.2; try simp only [zzn] at hnb2)
                        | simp (dsimp := false) (implicitDefEqProofs := false) (disch := first | assumption | (simp only [zzm]; done) | omega | (with_reducible refine Row.adr (by assumption) ?_; simp only [zzk]; omega) | (simp only [zzl, Nat.reduceAdd]; first | done | omega)) only [go_sem, ↓reduceIte, Nat.reduceEqDiff, Nat.reduceAdd, Nat.reduceSub, Nat.reduceMul, Nat.reduceBEq, Nat.reduceLT, Nat.reduceLeDiff, Nat.reduceMod, Nat.reducePow, List.reduceReplicate, UInt8.reduceOfNat, Int.reducePow, Int.reduceDiv, Int.reduceMod, Nat.reduceDiv, Int.reduceNeg, Int.reduceAdd, Int.reduceSub, Int.reduceMul, Int.reduceLE, Int.reduceLT, Int.reduceEq, Int.reduceToNat, reduceCtorEq, Row.obj hro, List.getElem_map, ht, hg]
                      exact Upd.now ⟨q' - 1, by omega, k + 1, .slice (some ⟨bm, 0, none⟩) (addN (bw on W0 i) (os.take k)).length cm, [(bm, .cells ((addN (bw on W0 i) (os.take k)).map (Value.int .i64)) sm 3)], by omega, rfl, .inr ⟨bm, cm, sm, by rw [hn2], by rw [hn2], by rw [hn2, List.length_map]; omega, by rw [hn2, List.length_map]; omega⟩, by rw [hn2]; rfl, rfl⟩
                    · rw [decide_eq_false hin] at hg
                      have hn2 : addN (bw on W0 i) (os.take (k + 1)) = addN (bw on W0 i) (os.take k) ++ [(t : Int)] := by rw [hnext, ht]; unfold add1; rw [if_neg hin]
                      have hn3 : add1 (addN (bw on W0 i) (os.take k)) (t : Int) = addN (bw on W0 i) (os.take (k + 1)) := by rw [hnext, ht]
                      rw [hn3] at hput
                      repeat' first
                        | (with_reducible first | refine Br.yes ?_ | refine Br.no ?_ | refine Br.dec (fun _ => ?_) (fun _ => ?_) | refine Br.mk (fun _ => ?_) (fun _ => ?_) | refine appV.zero ?_ | refine appV.own ?_)
                        | ((with_reducible first | refine NewB.mk (fun nb hnb => ?_) | refine NewRow.mk (fun nb nsp ncap hnb hncap => ?_)); have hnb1 := hnb.1.1; have hnb2 := hnb.1.2; try simp only [zzn] at hnb2)
                        | simp (dsimp := false) (implicitDefEqProofs := false) (disch := first | assumption | (simp only [zzm]; done) | omega | (with_reducible refine Row.adr (by assumption) ?_; simp only [zzk]; omega) | (simp only [zzl, Nat.reduceAdd]; first | done | omega)) only [go_sem, ↓reduceIte, Nat.reduceEqDiff, Nat.reduceAdd, Nat.reduceSub, Nat.reduceMul, Nat.reduceBEq, Nat.reduceLT, Nat.reduceLeDiff, Nat.reduceMod, Nat.reducePow, List.reduceReplicate, UInt8.reduceOfNat, Int.reducePow, Int.reduceDiv, Int.reduceMod, Nat.reduceDiv, Int.reduceNeg, Int.reduceAdd, Int.reduceSub, Int.reduceMul, Int.reduceLE, Int.reduceLT, Int.reduceEq, Int.reduceToNat, reduceCtorEq, Row.obj hro, List.getElem_map, ht, hg, hput, List.replicate_one]
                      have hl2 := congrArg List.length hn2
                      rw [List.length_append, List.length_singleton] at hl2
                      have hm2 : (addN (bw on W0 i) (os.take k)).map (Value.int .i64) ++ [Value.int .i64 (t : Nat)] = (addN (bw on W0 i) (os.take (k + 1))).map (Value.int .i64) := by rw [hn2, List.map_append]; rfl
                      rw [hm2, ← hl2]
                      exact Upd.go (H' := (bt, .cells (metR n (addN (bw on W0 i) (os.take (k + 1)))) [] 4) :: (b3, .cells [.func (.func fid) #[] #[.pointer (some ⟨bx, 0, none⟩)]] [] 89) :: (b2, .cells [.slice a0 W0.length c0] [] 24) :: (b1, .cells [.int .i64 (n : Nat)] [] 3) :: ([(nb, .cells ((addN (bw on W0 i) (os.take (k + 1))).map (Value.int .i64)) nsp 3)] ++ H3)) (by intro fsum; first | exact Nat.le_refl _ | (simp only [zzq]; omega)) (Upd.now ⟨q' - 1, by omega, k + 1, _, [(nb, .cells ((addN (bw on W0 i) (os.take (k + 1))).map (Value.int .i64)) nsp 3)], by omega, rfl, .inr ⟨nb, ncap, nsp, rfl, rfl, by rw [List.length_map]; omega, by rw [List.length_map]; omega⟩, rfl, rfl⟩)
                  · obtain rfl : k = os.length := by omega
                    rw [List.take_length] at *
                    repeat' first
                      | (with_reducible first | refine Br.yes ?_ | refine Br.no ?_ | refine Br.dec (fun _ => ?_) (fun _ => ?_) | refine Br.mk (fun _ => ?_) (fun _ => ?_) | refine appV.zero ?_ | refine appV.own ?_)
                      | ((with_reducible first | refine NewB.mk (fun nb hnb => ?_) | refine NewRow.mk (fun nb nsp ncap hnb hncap => ?_)); have hnb1 := hnb.1.1; have hnb2 := hnb.1.2; try simp only [zzn] at hnb2)
                      | simp (dsimp := false) (implicitDefEqProofs := false) (disch := first | assumption | (simp only [zzm]; done) | omega | (with_reducible refine Row.adr (by assumption) ?_; simp only [zzk]; omega) | (simp only [zzl, Nat.reduceAdd]; first | done | omega)) only [go_sem, ↓reduceIte, Nat.reduceEqDiff, Nat.reduceAdd, Nat.reduceSub, Nat.reduceMul, Nat.reduceBEq, Nat.reduceLT, Nat.reduceLeDiff, Nat.reduceMod, Nat.reducePow, List.reduceReplicate, UInt8.reduceOfNat, Int.reducePow, Int.reduceDiv, Int.reduceMod, Nat.reduceDiv, Int.reduceNeg, Int.reduceAdd, Int.reduceSub, Int.reduceMul, Int.reduceLE, Int.reduceLT, Int.reduceEq, Int.reduceToNat, reduceCtorEq]
                    rw [← hsucc] at *
                    exact Upd.now ⟨q - 1, by omega, i + 1, .slice (some ⟨bm, 0, none⟩) (bw on W0 (i + 1)).length cm, [(bm, .cells ((bw on W0 (i + 1)).map (Value.int .i64)) sm 3)], H3, by omega, by omega, hleG.trans hle3, .inr ⟨bm, cm, sm, rfl, rfl, by rw [List.length_map]; omega, by rw [List.length_map]; omega⟩, hJ3, rfl, rfl⟩
            · repeat' first
                | (with_reducible first | refine Br.yes ?_ | refine Br.no ?_ | refine Br.dec (fun _ => ?_) (fun _ => ?_) | refine Br.mk (fun _ => ?_) (fun _ => ?_) | refine appV.zero ?_ | refine appV.own ?_)
                | ((with_reducible first | refine NewB.mk (fun nb hnb => ?_) | refine NewRow.mk (fun nb nsp ncap hnb hncap => ?_)); have hnb1 := hnb.1.1; have hnb2 := hnb.1.2; try simp only [zzn] at hnb2)
                | simp (dsimp := false) (implicitDefEqProofs := false) (disch := first | assumption | (simp only [zzm]; done) | omega | (with_reducible refine Row.adr (by assumption) ?_; simp only [zzk]; omega) | (simp only [zzl, Nat.reduceAdd]; first | done | omega)) only [go_sem, ↓reduceIte, Nat.reduceEqDiff, Nat.reduceAdd, Nat.reduceSub, Nat.reduceMul, Nat.reduceBEq, Nat.reduceLT, Nat.reduceLeDiff, Nat.reduceMod, Nat.reducePow, List.reduceReplicate, UInt8.reduceOfNat, Int.reducePow, Int.reduceDiv, Int.reduceMod, Nat.reduceDiv, Int.reduceNeg, Int.reduceAdd, Int.reduceSub, Int.reduceMul, Int.reduceLE, Int.reduceLT, Int.reduceEq, Int.reduceToNat, reduceCtorEq]
              unfold UpdR
              exact Upd.go (H' := H3) (by intro fsum; first | exact Nat.le_refl _ | (simp only [zzq]; omega)) (Upd.now (hR G3 H3 (hleG.trans hle3) (by assumption) (.inr ⟨i, hJ3⟩)))
          · repeat' first
              | (with_reducible first | refine Br.yes ?_ | refine Br.no ?_ | refine Br.dec (fun _ => ?_) (fun _ => ?_) | refine Br.mk (fun _ => ?_) (fun _ => ?_) | refine appV.zero ?_ | refine appV.own ?_)
              | ((with_reducible first | refine NewB.mk (fun nb hnb => ?_) | refine NewRow.mk (fun nb nsp ncap hnb hncap => ?_)); have hnb1 := hnb.1.1; have hnb2 := hnb.1.2; try simp only [zzn] at hnb2)
              | simp (dsimp := false) (implicitDefEqProofs := false) (disch := first | assumption | (simp only [zzm]; done) | omega | (with_reducible refine Row.adr (by assumption) ?_; simp only [zzk]; omega) | (simp only [zzl, Nat.reduceAdd]; first | done | omega)) only [go_sem, ↓reduceIte, Nat.reduceEqDiff, Nat.reduceAdd, Nat.reduceSub, Nat.reduceMul, Nat.reduceBEq, Nat.reduceLT, Nat.reduceLeDiff, Nat.reduceMod, Nat.reducePow, List.reduceReplicate, UInt8.reduceOfNat, Int.reducePow, Int.reduceDiv, Int.reduceMod, Nat.reduceDiv, Int.reduceNeg, Int.reduceAdd, Int.reduceSub, Int.reduceMul, Int.reduceLE, Int.reduceLT, Int.reduceEq, Int.reduceToNat, reduceCtorEq]
            all_goals try (exfalso; omega)
            unfold UpdR
            exact Upd.go (H' := H1) (by intro fsum; first | exact Nat.le_refl _ | (simp only [zzq]; omega)) (Upd.now (hR G2 H1 hleG (by assumption) (.inl ⟨i, by omega, hJi⟩)))
end Go.Proofs.YtefkpedhbijhkaaDoor
namespace Go.Proofs.YtefkpedhbijhkaaDoor
open Go Go.V Go.Proofs
theorem sep_app2 {G : PHeap} {A B : Heap} (h : Sep G (keys (A ++ B))) : Sep G (keys A) := by
  rw [sep_iff, keys_app] at *
  exact ⟨fun b hb => h.1 b (List.mem_append.2 (.inl hb)), (List.nodup_append.1 h.2).1⟩
/-- where a machine goes from a state -/
def nextF (d : DfaT) (s : Int) : List Int := d.next.getD s.toNat []
theorem nextF_get {d : DfaT} {s : Nat} (h : s < d.next.length) : nextF d (s : Int) = d.next[s] := by
  unfold nextF
  rw [Int.toNat_natCast, List.getD_eq_getElem?_getD, List.getElem?_eq_getElem h, Option.getD_some]
theorem nextF_ok {d : DfaT} (hok : RightP d) : ∀ s : Int, 0 ≤ s → s < d.label.length → ∀ t ∈ nextF d s, 0 ≤ t ∧ t < d.label.length := fun s h1 h2 t ht => by
  obtain ⟨i, rfl⟩ := Int.eq_ofNat_of_zero_le h1
  obtain ⟨hk1, hk2, hk3, hk4, hk5, hk6, hk7⟩ := hok
  have hi : i < d.next.length := by omega
  rw [nextF_get hi] at ht
  exact (hk7 i hi (by omega)).2.2.2 t ht
theorem reachf_t {d : DfaT} (hsm : SmallD d) (hok : RightP d) {C : List Value} {an al ay : Option Addr} {cn cl cs : Nat} {rs : List Value} {G : PHeap} (O : OpenD G d C an al ay cn cl cs rs) {bx : Nat} {s : Int} (h0 : 0 ≤ s) (h1 : s < d.label.length)
    {H : Heap} {R : Value → PHeap → Heap → Prop} (hg : G bx = none) (hf : findH H bx = some (.cells C [] 27)) (hR : ∀ v, Sl G (Value.int .i64) v (nextF d s) → R v G H) : FnT Tryd.prog 56 [.int .i64 s, .pointer (some ⟨bx, 0, none⟩)] G H R := by
  obtain ⟨i, rfl⟩ := Int.eq_ofNat_of_zero_le h0
  have hCl := O.len
  have hCn := O.n
  have hl := hok.2.2.1
  have hi : i < d.next.length := by omega
  have hrnl := O.rnl
  obtain ⟨b, c, e1, e2, e3⟩ := O.rs i hi (by omega)
  have had : Adr an := O.rn.adr (by omega)
  rw [nextF_get hi] at hR
  refine FnT.body tok [0, 1, 3] Tryd.func56 rfl (by kernel_rfl) (by kernel_rfl) (by show _ ≤ 9; simp) fun hsep => ?_
  rw [Tryd.results56]
  have hsE := hsep
  try simp only [zzs] at hsE
  repeat (obtain ⟨hsx, hsE⟩ := hsE)
  repeat' first
    | (with_reducible first | refine Br.yes ?_ | refine Br.no ?_ | refine Br.dec (fun _ => ?_) (fun _ => ?_) | refine Br.mk (fun _ => ?_) (fun _ => ?_))
    | simp (dsimp := false) (implicitDefEqProofs := false) (disch := first | assumption | (simp only [zzm]; done) | omega | (with_reducible refine Row.adr (by assumption) ?_; simp only [zzk]; omega) | (simp only [zzl, Nat.reduceAdd]; first | done | omega)) only [go_sem, ↓reduceIte, Nat.reduceEqDiff, Nat.reduceAdd, Nat.reduceSub, Nat.reduceMul, Nat.reduceBEq, Nat.reduceLT, Nat.reduceLeDiff, Nat.reduceMod, Nat.reducePow, List.reduceReplicate, UInt8.reduceOfNat, Int.reducePow, Int.reduceDiv, Int.reduceMod, Nat.reduceDiv, Int.reduceNeg, Int.reduceAdd, Int.reduceSub, Int.reduceMul, Int.reduceLE, Int.reduceLT, Int.reduceEq, Int.reduceToNat, reduceCtorEq, -List.reduceReplicate, hf, hCl, hCn, Row.obj O.rn, e1]
  all_goals refine Upd.finL ?_ (hR _ ⟨b, c, rfl, e2, e3⟩) ?_
  any_goals (intro fsum; first | exact Nat.le_refl _ | (simp only [zzq]; omega))
  all_goals rfl
theorem walk_t {n : Nat} {a cap : Option Addr} {k c : Nat} {fid : FuncId} {v fv : Value} (hv : v = .slice a k c) (hf : fv = .func (.func fid) #[] #[.pointer cap]) {G : PHeap} {H : Heap} {R : Value → PHeap → Heap → Prop}
    (hR : ∀ b1 b2 b3, Sep G (b3 :: b2 :: b1 :: keys H) → R (.func (.func 69) #[] #[.pointer (some ⟨b1, 0, none⟩), .pointer (some ⟨b2, 0, none⟩), .pointer (some ⟨b3, 0, none⟩)]) G ((b3, .cells [fv] [] 89) :: (b2, .cells [v] [] 24) :: (b1, .cells [.int .i64 (n : Nat)] [] 3) :: H)) :
    FnT Tryd.prog 55 [.int .i64 (n : Nat), v, fv] G H R := by
  subst hv hf
  refine FnT.body tok [0, 1, 2, 3, 4, 5, 6] Tryd.func55 rfl (by kernel_rfl) (by kernel_rfl) (by show _ ≤ 8; simp) fun hsep => ?_
  rw [Tryd.results55]
  have hsE := hsep
  try simp only [zzs] at hsE
  repeat (obtain ⟨hsx, hsE⟩ := hsE)
  repeat' first
    | (with_reducible first | refine Br.yes ?_ | refine Br.no ?_ | refine Br.dec (fun _ => ?_) (fun _ => ?_) | refine Br.mk (fun _ => ?_) (fun _ => ?_))
    | ((with_reducible first | refine NewB.mk (fun nb hnb => ?_)); have hnb1 := hnb.1.1; have hnb2 := hnb.1.2; try simp only [zzn] at hnb2)
    | simp (dsimp := false) (implicitDefEqProofs := false) (disch := first | assumption | (simp only [zzm]; done) | omega | (with_reducible refine Row.adr (by assumption) ?_; simp only [zzk]; omega) | (simp only [zzl, Nat.reduceAdd]; first | done | omega)) only [go_sem, ↓reduceIte, Nat.reduceEqDiff, Nat.reduceAdd, Nat.reduceSub, Nat.reduceMul, Nat.reduceBEq, Nat.reduceLT, Nat.reduceLeDiff, Nat.reduceMod, Nat.reducePow, List.reduceReplicate, UInt8.reduceOfNat, Int.reducePow, Int.reduceDiv, Int.reduceMod, Nat.reduceDiv, Int.reduceNeg, Int.reduceAdd, Int.reduceSub, Int.reduceMul, Int.reduceLE, Int.reduceLT, Int.reduceEq, Int.reduceToNat, reduceCtorEq]
  exact Upd.fin (hR _ _ _ hnb) rfl
theorem calleeWalk : V.Callee Tryd.prog 55 := ⟨_, _, Tryd.func55, rfl, by kernel_rfl⟩
/-- the states at which a machine may be -/
def reachL (d : DfaT) : List Int := walkL (nextF d) d.label.length [0]
noncomputable def reachD (d : DfaT) : List Int := if boolOf (RightP d) = true then reachL d else []
set_option maxHeartbeats 16000000 in
theorem reach_t {d : DfaT} (hsm : SmallD d) {G : PHeap} {H : Heap} {R : Value → PHeap → Heap → Prop} {v : Value} (hv : IsD G d v)
    (hR : ∀ G' v', PLe G G' → Sep G' (keys H) → Sl G' (Value.int .i64) v' (reachD d) → R v' G' H) : FnT Tryd.prog 41 [v] G H R := by
  obtain ⟨C, an, al, ay, cn, cl, cs, rs, rfl, O⟩ := hv.opened
  have hCl := O.len
  have hCa := O.all
  have hCx := O.l
  refine FnT.sep ?_
  by_cases hok : RightP d
  · have hb := boolOf_yes hok
    refine FnT.body tok [0, 1, 2, 3, 4, 7, 13, 14] Tryd.func41 rfl (by kernel_rfl) (by kernel_rfl) (by show _ ≤ 20; simp) fun hsep => ?_
    rw [Tryd.results41]
    have hsE := hsep
    try simp only [zzs] at hsE
    repeat (obtain ⟨hsx, hsE⟩ := hsE)
    repeat' first
      | (with_reducible first | refine Br.yes ?_ | refine Br.no ?_ | refine Br.dec (fun _ => ?_) (fun _ => ?_) | refine Br.mk (fun _ => ?_) (fun _ => ?_) | refine appV.zero ?_ | refine appV.own ?_)
      | ((with_reducible first | refine NewB.mk (fun nb hnb => ?_) | refine NewRow.mk (fun nb nsp ncap hnb hncap => ?_)); have hnb1 := hnb.1.1; have hnb2 := hnb.1.2; try simp only [zzn] at hnb2)
      | simp (dsimp := false) (implicitDefEqProofs := false) (disch := first | assumption | (simp only [zzm]; done) | omega | (with_reducible refine Row.adr (by assumption) ?_; simp only [zzk]; omega) | (simp only [zzl, Nat.reduceAdd]; first | done | omega)) only [go_sem, ↓reduceIte, Nat.reduceEqDiff, Nat.reduceAdd, Nat.reduceSub, Nat.reduceMul, Nat.reduceBEq, Nat.reduceLT, Nat.reduceLeDiff, Nat.reduceMod, Nat.reducePow, List.reduceReplicate, UInt8.reduceOfNat, Int.reducePow, Int.reduceDiv, Int.reduceMod, Nat.reduceDiv, Int.reduceNeg, Int.reduceAdd, Int.reduceSub, Int.reduceMul, Int.reduceLE, Int.reduceLT, Int.reduceEq, Int.reduceToNat, reduceCtorEq, -List.reduceReplicate, List.toList_toArray, hCl, hCa, hb, hCx, List.replicate_one]
      | with_reducible refine right_t hsm O.is ?_
    rename_i b2 hx1 hx2 hx3 bl hx4 hx5 hx6
    have hz : reachD d = reachL d := by unfold reachD; rw [if_pos hb]
    rw [hz] at hR
    have hon := nextF_ok hok
    have hk1 := hok.1
    have hk2 := hok.2.1
    have hO : OnceN d.label.length [0] := ⟨by simp, fun x hx => by rw [List.mem_singleton] at hx; omega⟩
    refine FnT.pre calleeWalk (Upd.go (H' := (nb, .cells [.int .i64 0] [] 3) :: (bl, .cells [.slice none 0 0] [] 24) :: (b2, .cells C [] 27) :: H) (by intro fsum; first | exact Nat.le_refl _ | (simp only [zzq]; omega)) (Upd.shareRow (by assumption) fun G2 hle2 hs2 hr2 => ?_))
    refine walk_t rfl rfl fun c1 c2 c3 hs3 => ?_
    have hsE := hs3
    try simp only [zzs] at hsE
    repeat (obtain ⟨hsx, hsE⟩ := hsE)
    repeat' first
      | (with_reducible first | refine Br.yes ?_ | refine Br.no ?_ | refine Br.dec (fun _ => ?_) (fun _ => ?_) | refine Br.mk (fun _ => ?_) (fun _ => ?_) | refine appV.zero ?_ | refine appV.own ?_)
      | ((with_reducible first | refine NewB.mk (fun nb hnb => ?_) | refine NewRow.mk (fun nb nsp ncap hnb hncap => ?_)); have hnb1 := hnb.1.1; have hnb2 := hnb.1.2; try simp only [zzn] at hnb2)
      | simp (dsimp := false) (implicitDefEqProofs := false) (disch := first | assumption | (simp only [zzm]; done) | omega | (with_reducible refine Row.adr (by assumption) ?_; simp only [zzk]; omega) | (simp only [zzl, Nat.reduceAdd]; first | done | omega)) only [go_sem, ↓reduceIte, Nat.reduceEqDiff, Nat.reduceAdd, Nat.reduceSub, Nat.reduceMul, Nat.reduceBEq, Nat.reduceLT, Nat.reduceLeDiff, Nat.reduceMod, Nat.reducePow, List.reduceReplicate, UInt8.reduceOfNat, Int.reducePow, Int.reduceDiv, Int.reduceMod, Nat.reduceDiv, Int.reduceNeg, Int.reduceAdd, Int.reduceSub, Int.reduceMul, Int.reduceLE, Int.reduceLT, Int.reduceEq, Int.reduceToNat, reduceCtorEq]
    refine Tri.rangeF2 tok [0, 1, 2, 3, 4, 7, 13, 14] rfl calleeWalk1 (by kernel_rfl) fun lr Rr Rb hlr yl => ?_
    have hsE := hlr
    try simp only [zzs] at hsE
    repeat (obtain ⟨hsx, hsE⟩ := hsE)
    refine FnT.leave (H' := (c3, .cells [.func (.func 56) #[] #[.pointer (some ⟨b2, 0, none⟩)]] [] 89) :: (c2, .cells [.slice (some ⟨nb, 0, none⟩) 1 1] [] 24) :: (c1, .cells [.int .i64 (d.label.length : Nat)] [] 3) :: ((lr, Rr .normal) :: (bl, .cells [.slice none 0 0] [] 24) :: (b2, .cells C [] 27) :: H)) ?_ (by intro fsum; first | exact Nat.le_refl _ | (simp only [zzq]; omega))
    refine walk1_t lr c1 c2 c3 b2 (by omega) hO hon (fun s h0 h1 => ?_) (fun s G1 H1 R1 hle h0 h1 hg hf hR1 => reachf_t hsm hok (O.mono (hle2.trans hle)) h0 h1 hg hf hR1)
      (v0 := .slice (some ⟨nb, 0, none⟩) 1 1) ⟨some ⟨nb, 0, none⟩, 1, rfl, hr2, Nat.le_refl _⟩
      (fun i G' H' => ∃ v kb, SliceO [] 3 1 v i (((bw (nextF d) [0] i).take i).map (Value.int .i64)) kb ∧ i ≤ (bw (nextF d) [0] i).length ∧ H' = (lr, Rr .normal) :: (bl, .cells [v] [] 24) :: (b2, .cells C [] 27) :: (kb ++ H))
      (fun _ _ _ => False) ?_ ?_ ?_ ⟨_, [], .inl ⟨none, rfl, rfl, rfl, rfl⟩, Nat.zero_le _, rfl⟩ ?_
    · obtain ⟨j, rfl⟩ := Int.eq_ofNat_of_zero_le h0
      have hj : j < d.next.length := by have := hok.2.2.1; omega
      rw [nextF_get hj]
      exact Nat.le_trans (hsm.2.1 _ (List.getElem_mem hj)) (by omega)
    · exact fun _ _ _ _ _ h => h
    · rintro i G1 _ _ ⟨v, kb, _, _, rfl⟩
      simp (dsimp := false) (implicitDefEqProofs := false) (disch := first | assumption | (simp only [zzm]; done) | omega | (with_reducible refine Row.adr (by assumption) ?_; simp only [zzk]; omega) | (simp only [zzl, Nat.reduceAdd]; first | done | omega)) only [go_sem, ↓reduceIte, Nat.reduceEqDiff, Nat.reduceAdd, Nat.reduceSub, Nat.reduceMul, Nat.reduceBEq, Nat.reduceLT, Nat.reduceLeDiff, Nat.reduceMod, Nat.reducePow, List.reduceReplicate, UInt8.reduceOfNat, Int.reducePow, Int.reduceDiv, Int.reduceMod, Nat.reduceDiv, Int.reduceNeg, Int.reduceAdd, Int.reduceSub, Int.reduceMul, Int.reduceLE, Int.reduceLT, Int.reduceEq, Int.reduceToNat, reduceCtorEq]
    · rintro i G1 _ HW hi hle1 hs4 ⟨v, kb, hkb, hil, rfl⟩
      have hs5 := sep_app2 hs4
      obtain ⟨X, hX⟩ := bw_pre (nextF d) [0] i
      have hti : (bw (nextF d) [0] (i + 1)).take (i + 1) = (bw (nextF d) [0] i).take i ++ [(bw (nextF d) [0] i)[i]] := by
        rw [hX, List.take_append_of_le_length (by omega), List.take_succ_eq_append_getElem hi]
      have htl : ((bw (nextF d) [0] i).take i).length = i := by rw [List.length_take]; omega
      have hml : (((bw (nextF d) [0] i).take i).map (Value.int .i64)).length = i := by rw [List.length_map, htl]
      have hbl := (bw_once hO hon i).len
      have hil2 : i + 1 ≤ (bw (nextF d) [0] (i + 1)).length := by rw [hX, List.length_append]; omega
      rcases hkb with ⟨a, rfl, hz, hz2, rfl⟩ | ⟨bk, ck, sk, rfl, rfl, hkl, hkc⟩
      · have hsE := hs4
        try simp only [zzs] at hsE
        repeat (obtain ⟨hsx, hsE⟩ := hsE)
        have hsE := hs5
        try simp only [zzs] at hsE
        repeat (obtain ⟨hsx, hsE⟩ := hsE)
        refine YldT.upd (yl rfl ?_ ?_)
        · simp (dsimp := false) (implicitDefEqProofs := false) (disch := first | assumption | (simp only [zzm]; done) | omega | (with_reducible refine Row.adr (by assumption) ?_; simp only [zzk]; omega) | (simp only [zzl, Nat.reduceAdd]; first | done | omega)) only [go_sem, ↓reduceIte, Nat.reduceEqDiff, Nat.reduceAdd, Nat.reduceSub, Nat.reduceMul, Nat.reduceBEq, Nat.reduceLT, Nat.reduceLeDiff, Nat.reduceMod, Nat.reducePow, List.reduceReplicate, UInt8.reduceOfNat, Int.reducePow, Int.reduceDiv, Int.reduceMod, Nat.reduceDiv, Int.reduceNeg, Int.reduceAdd, Int.reduceSub, Int.reduceMul, Int.reduceLE, Int.reduceLT, Int.reduceEq, Int.reduceToNat, reduceCtorEq]
        · repeat' first
            | (with_reducible first | refine Br.yes ?_ | refine Br.no ?_ | refine Br.dec (fun _ => ?_) (fun _ => ?_) | refine Br.mk (fun _ => ?_) (fun _ => ?_) | refine appV.zero ?_ | refine appV.own ?_)
            | ((with_reducible first | refine NewB.mk (fun nb hnb => ?_) | refine NewRow.mk (fun nb nsp ncap hnb hncap => ?_)); have hnb1 := hnb.1.1; have hnb2 := hnb.1.2; try simp only [zzn] at hnb2)
            | simp (dsimp := false) (implicitDefEqProofs := false) (disch := first | assumption | (simp only [zzm]; done) | omega | (with_reducible refine Row.adr (by assumption) ?_; simp only [zzk]; omega) | (simp only [zzl, Nat.reduceAdd]; first | done | omega)) only [go_sem, ↓reduceIte, Nat.reduceEqDiff, Nat.reduceAdd, Nat.reduceSub, Nat.reduceMul, Nat.reduceBEq, Nat.reduceLT, Nat.reduceLeDiff, Nat.reduceMod, Nat.reducePow, List.reduceReplicate, UInt8.reduceOfNat, Int.reducePow, Int.reduceDiv, Int.reduceMod, Nat.reduceDiv, Int.reduceNeg, Int.reduceAdd, Int.reduceSub, Int.reduceMul, Int.reduceLE, Int.reduceLT, Int.reduceEq, Int.reduceToNat, reduceCtorEq, List.replicate_one]
          have hi0 : i = 0 := hz
          refine Upd.go (H' := ((lr, Rr .normal) :: (bl, .cells [.slice (some ⟨nb, 0, none⟩) 1 ncap] [] 24) :: (b2, .cells C [] 27) :: ([(nb, .cells [.int .i64 (bw (nextF d) [0] i)[i]] nsp 3)] ++ H)) ++ HW) (by intro fsum; first | exact Nat.le_refl _ | (simp only [zzq]; omega)) (Upd.now ⟨_, rfl, .inl ⟨rfl, _, [(nb, .cells [.int .i64 (bw (nextF d) [0] i)[i]] nsp 3)], .inr ⟨nb, ncap, nsp, ?_, ?_, ?_, ?_⟩, hil2, rfl⟩⟩)
          · rw [hi0]
          · rw [hti, List.map_append, hz2]; rfl
          · rw [hti, List.map_append, hz2]; show 1 = (i + 1) * 1; omega
          · rw [hti, List.map_append, hz2]; show 1 + nsp.length = ncap * 1; omega
      · have hsE := hs4
        try simp only [zzs] at hsE
        repeat (obtain ⟨hsx, hsE⟩ := hsE)
        have hsE := hs5
        try simp only [zzs] at hsE
        repeat (obtain ⟨hsx, hsE⟩ := hsE)
        refine YldT.upd (yl rfl ?_ ?_)
        · simp (dsimp := false) (implicitDefEqProofs := false) (disch := first | assumption | (simp only [zzm]; done) | omega | (with_reducible refine Row.adr (by assumption) ?_; simp only [zzk]; omega) | (simp only [zzl, Nat.reduceAdd]; first | done | omega)) only [go_sem, ↓reduceIte, Nat.reduceEqDiff, Nat.reduceAdd, Nat.reduceSub, Nat.reduceMul, Nat.reduceBEq, Nat.reduceLT, Nat.reduceLeDiff, Nat.reduceMod, Nat.reducePow, List.reduceReplicate, UInt8.reduceOfNat, Int.reducePow, Int.reduceDiv, Int.reduceMod, Nat.reduceDiv, Int.reduceNeg, Int.reduceAdd, Int.reduceSub, Int.reduceMul, Int.reduceLE, Int.reduceLT, Int.reduceEq, Int.reduceToNat, reduceCtorEq]
        · repeat' first
            | (with_reducible first | refine Br.yes ?_ | refine Br.no ?_ | refine Br.dec (fun _ => ?_) (fun _ => ?_) | refine Br.mk (fun _ => ?_) (fun _ => ?_) | refine appV.zero ?_ | refine appV.own ?_)
            | ((with_reducible first | refine NewB.mk (fun nb hnb => ?_) | refine NewRow.mk (fun nb nsp ncap hnb hncap => ?_)); have hnb1 := hnb.1.1; have hnb2 := hnb.1.2; try simp only [zzn] at hnb2)
            | simp (dsimp := false) (implicitDefEqProofs := false) (disch := first | assumption | (simp only [zzm]; done) | omega | (with_reducible refine Row.adr (by assumption) ?_; simp only [zzk]; omega) | (simp only [zzl, Nat.reduceAdd]; first | done | omega)) only [go_sem, ↓reduceIte, Nat.reduceEqDiff, Nat.reduceAdd, Nat.reduceSub, Nat.reduceMul, Nat.reduceBEq, Nat.reduceLT, Nat.reduceLeDiff, Nat.reduceMod, Nat.reducePow, List.reduceReplicate, UInt8.reduceOfNat, Int.reducePow, Int.reduceDiv, Int.reduceMod, Nat.reduceDiv, Int.reduceNeg, Int.reduceAdd, Int.reduceSub, Int.reduceMul, Int.reduceLE, Int.reduceLT, Int.reduceEq, Int.reduceToNat, reduceCtorEq, List.replicate_one]
          have hm2 : ((bw (nextF d) [0] i).take i).map (Value.int .i64) ++ [.int .i64 (bw (nextF d) [0] i)[i]] = ((bw (nextF d) [0] (i + 1)).take (i + 1)).map (Value.int .i64) := by rw [hti, List.map_append]; rfl
          rw [hm2]
          refine Upd.go (H' := ((lr, Rr .normal) :: (bl, .cells [.slice (some ⟨nb, 0, none⟩) (i + 1) ncap] [] 24) :: (b2, .cells C [] 27) :: ([(nb, .cells (((bw (nextF d) [0] (i + 1)).take (i + 1)).map (Value.int .i64)) nsp 3)] ++ H)) ++ HW) (by intro fsum; first | exact Nat.le_refl _ | (simp only [zzq]; omega)) (Upd.now ⟨_, rfl, .inl ⟨rfl, _, [(nb, .cells (((bw (nextF d) [0] (i + 1)).take (i + 1)).map (Value.int .i64)) nsp 3)], .inr ⟨nb, ncap, nsp, rfl, rfl, ?_, ?_⟩, hil2, rfl⟩⟩)
          · rw [List.length_map, List.length_take]; omega
          · rw [List.length_map, List.length_take]; omega
    · rintro G1 _ hle1 hs4 (⟨i, hi, v, kb, hkb, hil, rfl⟩ | ⟨_, h⟩)
      · have he : bw (nextF d) [0] i = reachL d := bw_end hO hon (by omega)
        have htk : (bw (nextF d) [0] i).take i = reachL d := by rw [← he]; exact List.take_of_length_le (by omega)
        rw [htk] at hkb
        rw [he] at hi
        rcases hkb with ⟨a, rfl, hz, hz2, rfl⟩ | ⟨bk, ck, sk, rfl, rfl, hkl, hkc⟩
        · have hsE := hs4
          try simp only [zzs] at hsE
          repeat (obtain ⟨hsx, hsE⟩ := hsE)
          refine ⟨.normal, ?_, ?_⟩
          · simp (dsimp := false) (implicitDefEqProofs := false) (disch := first | assumption | (simp only [zzm]; done) | omega | (with_reducible refine Row.adr (by assumption) ?_; simp only [zzk]; omega) | (simp only [zzl, Nat.reduceAdd]; first | done | omega)) only [go_sem, ↓reduceIte, Nat.reduceEqDiff, Nat.reduceAdd, Nat.reduceSub, Nat.reduceMul, Nat.reduceBEq, Nat.reduceLT, Nat.reduceLeDiff, Nat.reduceMod, Nat.reducePow, List.reduceReplicate, UInt8.reduceOfNat, Int.reducePow, Int.reduceDiv, Int.reduceMod, Nat.reduceDiv, Int.reduceNeg, Int.reduceAdd, Int.reduceSub, Int.reduceMul, Int.reduceLE, Int.reduceLT, Int.reduceEq, Int.reduceToNat, reduceCtorEq]
          · repeat' first
              | (with_reducible first | refine Br.yes ?_ | refine Br.no ?_ | refine Br.dec (fun _ => ?_) (fun _ => ?_) | refine Br.mk (fun _ => ?_) (fun _ => ?_) | refine appV.zero ?_ | refine appV.own ?_)
              | ((with_reducible first | refine NewB.mk (fun nb hnb => ?_) | refine NewRow.mk (fun nb nsp ncap hnb hncap => ?_)); have hnb1 := hnb.1.1; have hnb2 := hnb.1.2; try simp only [zzn] at hnb2)
              | simp (dsimp := false) (implicitDefEqProofs := false) (disch := first | assumption | (simp only [zzm]; done) | omega | (with_reducible refine Row.adr (by assumption) ?_; simp only [zzk]; omega) | (simp only [zzl, Nat.reduceAdd]; first | done | omega)) only [go_sem, ↓reduceIte, Nat.reduceEqDiff, Nat.reduceAdd, Nat.reduceSub, Nat.reduceMul, Nat.reduceBEq, Nat.reduceLT, Nat.reduceLeDiff, Nat.reduceMod, Nat.reducePow, List.reduceReplicate, UInt8.reduceOfNat, Int.reducePow, Int.reduceDiv, Int.reduceMod, Nat.reduceDiv, Int.reduceNeg, Int.reduceAdd, Int.reduceSub, Int.reduceMul, Int.reduceLE, Int.reduceLT, Int.reduceEq, Int.reduceToNat, reduceCtorEq]
            unfold UpdR
            refine Upd.leave (H' := H) (by intro fsum; first | exact Nat.le_refl _ | (simp only [zzq]; omega)) ?_
            have h0 : reachL d = [] := List.eq_nil_of_length_eq_zero (by omega)
            exact fun hle hs => hR G1 _ (hle2.trans hle1) hs ⟨a, 0, by rw [h0]; rfl, by rw [h0]; exact Row.nil _ _, by rw [h0]; exact Nat.le_refl _⟩
        · have hsE := hs4
          try simp only [zzs] at hsE
          repeat (obtain ⟨hsx, hsE⟩ := hsE)
          refine ⟨.normal, ?_, ?_⟩
          · simp (dsimp := false) (implicitDefEqProofs := false) (disch := first | assumption | (simp only [zzm]; done) | omega | (with_reducible refine Row.adr (by assumption) ?_; simp only [zzk]; omega) | (simp only [zzl, Nat.reduceAdd]; first | done | omega)) only [go_sem, ↓reduceIte, Nat.reduceEqDiff, Nat.reduceAdd, Nat.reduceSub, Nat.reduceMul, Nat.reduceBEq, Nat.reduceLT, Nat.reduceLeDiff, Nat.reduceMod, Nat.reducePow, List.reduceReplicate, UInt8.reduceOfNat, Int.reducePow, Int.reduceDiv, Int.reduceMod, Nat.reduceDiv, Int.reduceNeg, Int.reduceAdd, Int.reduceSub, Int.reduceMul, Int.reduceLE, Int.reduceLT, Int.reduceEq, Int.reduceToNat, reduceCtorEq]
          · repeat' first
              | (with_reducible first | refine Br.yes ?_ | refine Br.no ?_ | refine Br.dec (fun _ => ?_) (fun _ => ?_) | refine Br.mk (fun _ => ?_) (fun _ => ?_) | refine appV.zero ?_ | refine appV.own ?_)
              | ((with_reducible first | refine NewB.mk (fun nb hnb => ?_) | refine NewRow.mk (fun nb nsp ncap hnb hncap => ?_)); have hnb1 := hnb.1.1; have hnb2 := hnb.1.2; try simp only [zzn] at hnb2)
              | simp (dsimp := false) (implicitDefEqProofs := false) (disch := first | assumption | (simp only [zzm]; done) | omega | (with_reducible refine Row.adr (by assumption) ?_; simp only [zzk]; omega) | (simp only [zzl, Nat.reduceAdd]; first | done | omega)) only [go_sem, ↓reduceIte, Nat.reduceEqDiff, Nat.reduceAdd, Nat.reduceSub, Nat.reduceMul, Nat.reduceBEq, Nat.reduceLT, Nat.reduceLeDiff, Nat.reduceMod, Nat.reducePow, List.reduceReplicate, UInt8.reduceOfNat, Int.reducePow, Int.reduceDiv, Int.reduceMod, Nat.reduceDiv, Int.reduceNeg, Int.reduceAdd, Int.reduceSub, Int.reduceMul, Int.reduceLE, Int.reduceLT, Int.reduceEq, Int.reduceToNat, reduceCtorEq]
            unfold UpdR
            refine Upd.go (H' := (bk, .cells ((reachL d).map (Value.int .i64)) sk 3) :: H) (by intro fsum; first | exact Nat.le_refl _ | (simp only [zzq]; omega)) (Upd.shareRow (by assumption) fun G3 hle3 hs6 hr3 => ?_)
            rw [List.length_map] at hkl hkc
            exact fun hle hs => hR G3 _ ((hle2.trans hle1).trans hle3) hs ⟨some ⟨bk, 0, none⟩, ck, by rw [hi], hr3, by omega⟩
      · exact h.elim
  · have hb := boolOf_no hok
    have hz : reachD d = [] := by unfold reachD; rw [if_neg (by rw [hb]; exact Bool.false_ne_true)]
    rw [hz] at hR
    refine FnT.body tok [0, 1, 2, 3, 4, 7, 13, 14] Tryd.func41 rfl (by kernel_rfl) (by kernel_rfl) (by show _ ≤ 20; simp) fun hsep => ?_
    rw [Tryd.results41]
    have hsE := hsep
    try simp only [zzs] at hsE
    repeat (obtain ⟨hsx, hsE⟩ := hsE)
    repeat' first
      | (with_reducible first | refine Br.yes ?_ | refine Br.no ?_ | refine Br.dec (fun _ => ?_) (fun _ => ?_) | refine Br.mk (fun _ => ?_) (fun _ => ?_) | refine appV.zero ?_ | refine appV.own ?_)
      | ((with_reducible first | refine NewB.mk (fun nb hnb => ?_) | refine NewRow.mk (fun nb nsp ncap hnb hncap => ?_)); have hnb1 := hnb.1.1; have hnb2 := hnb.1.2; try simp only [zzn] at hnb2)
      | simp (dsimp := false) (implicitDefEqProofs := false) (disch := first | assumption | (simp only [zzm]; done) | omega | (with_reducible refine Row.adr (by assumption) ?_; simp only [zzk]; omega) | (simp only [zzl, Nat.reduceAdd]; first | done | omega)) only [go_sem, ↓reduceIte, Nat.reduceEqDiff, Nat.reduceAdd, Nat.reduceSub, Nat.reduceMul, Nat.reduceBEq, Nat.reduceLT, Nat.reduceLeDiff, Nat.reduceMod, Nat.reducePow, List.reduceReplicate, UInt8.reduceOfNat, Int.reducePow, Int.reduceDiv, Int.reduceMod, Nat.reduceDiv, Int.reduceNeg, Int.reduceAdd, Int.reduceSub, Int.reduceMul, Int.reduceLE, Int.reduceLT, Int.reduceEq, Int.reduceToNat, reduceCtorEq, -List.reduceReplicate, List.toList_toArray, hCl, hCa, hb]
      | with_reducible refine right_t hsm O.is ?_
    unfold UpdR
    refine Upd.leave (H' := H) (by intro fsum; first | exact Nat.le_refl _ | (simp only [zzq]; omega)) ?_
    exact fun hle hs => hR G _ (PLe.refl _) hs (Sl.nil _ _)
end Go.Proofs.YtefkpedhbijhkaaDoor
