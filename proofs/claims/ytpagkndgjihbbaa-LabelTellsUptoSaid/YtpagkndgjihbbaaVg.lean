/- A machine with other names, with those that it tells, with one alone: the program's. -/
import Derived.Test.YtpagkndgjihbbaaVf
set_option linter.unusedSimpArgs false
set_option linter.unusedVariables false
namespace Go.Proofs.Ytpagkndgjihbbaa
open Go Go.V Go.Proofs

def withD (d : DfaT) (names : List Tx) (g : Tx → Int) : DfaT := ⟨d.of, d.width, d.next, labW d g, names⟩
theorem labW_len (d : DfaT) (g : Tx → Int) : (labW d g).length = d.label.length := by unfold labW; rw [List.length_map]
theorem withD_small {d : DfaT} (hsm : SmallD d) {names : List Tx} (h1 : names.length ≤ 2000000) (h2 : ∀ s ∈ names, s.length ≤ 2000000) (g : Tx → Int) : SmallD (withD d names g) :=
  ⟨hsm.1, hsm.2.1, by show (labW d g).length ≤ _; rw [labW_len]; exact hsm.2.2.1, h1, h2⟩
theorem matN_slS {rows : List (List Int)} {G : PHeap} {bn cn n : Nat} {rv : List Value} (hn : rows.length = n) (hr : Row G (some ⟨bn, 0, none⟩) rv) (hrv : rv.length = n) (hc : n ≤ cn) (h : ∀ i (hi : i < (matN rows).length) (h1 : i < rv.length), ∃ a c, rv[i] = .slice a (matN rows)[i].length c ∧ Row G a (matN rows)[i] ∧ (matN rows)[i].length ≤ c) : SlS G (.slice (some ⟨bn, 0, none⟩) n cn) rows := by
  refine ⟨_, cn, rv, by rw [hn], hr, by omega, by omega, fun i hi h2 => ?_⟩
  have hml : (matN rows).length = rows.length := by unfold matN; rw [List.length_map]
  obtain ⟨a, c, e1, e2, e3⟩ := h i (by omega) h2
  have hg : (matN rows)[i]'(by omega) = rows[i].map (Value.int .i64) := by simp only [matN, List.getElem_map]
  rw [hg] at e1 e2 e3
  rw [List.length_map] at e1 e3
  exact ⟨a, c, e1, e2, e3⟩
set_option maxHeartbeats 8000000 in
theorem withS_t {d : DfaT} (hsm : SmallD d) (hok : RightP d) {names : List Tx} (hnl : names.length ≤ 2000000) {g : Tx → Int} {fid : FuncId} {bx : Nat} {XC : List Value} {tyX : TypeId} {G : PHeap} {H : Heap} {R : Value → PHeap → Heap → Prop} {v v1 : Value} (hv : IsD G d v) (h1 : Sl G str v1 names)
    (hBy : ∀ (s : Tx) (G1 : PHeap) (H1 : Heap) (R1 : Value → PHeap → Heap → Prop), PLe G G1 → s ∈ d.names → R1 (.int .i64 (g s)) G1 ((bx, .cells XC [] tyX) :: H1) → FnT Try.prog fid [str s, .pointer (some ⟨bx, 0, none⟩)] G1 ((bx, .cells XC [] tyX) :: H1) R1)
    (hR : ∀ G' v', PLe G G' → Sep G' (keys ((bx, Res.cells XC [] tyX) :: H)) → IsD G' (withD d names g) v' → R v' G' ((bx, .cells XC [] tyX) :: H)) :
    FnT Try.prog 30 [v, v1, .func (.func fid) #[] #[.pointer (some ⟨bx, 0, none⟩)]] G ((bx, .cells XC [] tyX) :: H) R := by
  obtain ⟨hof, hofb, _⟩ := id hv
  refine FnT.upd (with_t hsm hok hnl hv h1 hBy fun G1 vs bn cn spn rv bl cl spl F hle hs hvs hF hcn hcl => ?_)
  have hk3 := hok.2.2.1
  have hml : (matN d.next).length = d.next.length := by unfold matN; rw [List.length_map]
  have hrv := hF.lenv
  refine Upd.trans (Upd.shareRow hs.1.1 fun G2 hle2 hs2 hr2 => ?_)
  refine Upd.trans (Upd.shareRow hs2.1.1 fun G3 hle3 hs3 hr3 => ?_)
  refine hF.share hs3 fun G4 hle4 hs4 hall => ?_
  refine hR G4 _ (hle.trans (hle2.trans (hle3.trans hle4))) hs4 ⟨hof, hofb, _, _, _, rfl, ?_, ?_, hvs.mono (hle2.trans (hle3.trans hle4))⟩
  · exact matN_slS (rows := d.next) (by omega) (hr2.mono (hle3.trans hle4)) (by omega) (by omega) hall
  · exact ⟨_, cl, by show Value.slice _ _ _ = Value.slice _ (labW d g).length _; rw [labW_len], hr3.mono hle4, by show (labW d g).length ≤ _; rw [labW_len]; omega⟩
theorem wdf_one {G : PHeap} {d : DfaT} {C : List Value} (h : IsD G d (.agg C.toArray)) : C.all oneV = true := by
  obtain ⟨_, _, vn, vl, vs, e, ⟨an, cn, rs, rfl, _⟩, ⟨al, cl, rfl, _⟩, ⟨ay, cy, rfl, _⟩⟩ := h
  have e2 := congrArg (fun v => match v with | Value.agg a => a.toList | _ => []) e
  simp only [List.toList_toArray] at e2
  rw [e2]; exact cellsD_one rfl rfl rfl
theorem wdf_over {C D : List Value} (h : C.length = 260) (h2 : D.length = 260) : splice C 0 D = D := by
  unfold splice
  rw [List.take_zero, List.nil_append, List.drop_of_length_le (by omega), List.append_nil]
theorem wdf_put {C : List Value} (h : C.length = 260) : splice zeroC 0 C = C := wdf_over zeroC_len h
/-! names -/
def fitD (l : List Tx) : DfaT := ⟨List.replicate 256 0, 1, [[0]], [0], l⟩
theorem fitD_iff {l : List Tx} : RightP (fitD l) ↔ namesOk l := by
  constructor
  · exact fun h => h.2.2.2.2.2.1
  · intro h
    refine ⟨Nat.le_refl 1, (by show 1 ≤ 65536; omega), rfl, (by show nums (List.replicate 256 (0 : Int)) = List.replicate 256 0; decide +kernel), by show ((tabO (List.replicate 256 (0 : Int))).length : Int) = 1; decide +kernel, h, fun s h1 h2 => ?_⟩
    have h3 : s < 1 := h1
    obtain rfl : s = 0 := by omega
    refine ⟨rfl, Int.le_refl _, by show (0 : Int) ≤ (l.length : Nat); omega, fun t ht => ?_⟩
    have : t ∈ [(0 : Int)] := ht
    rw [List.mem_singleton] at this
    subst this
    exact ⟨Int.le_refl _, (by show (0 : Int) < 1; omega)⟩
theorem fitD_small {l : List Tx} (h1 : l.length ≤ 2000000) (h2 : ∀ s ∈ l, s.length ≤ 2000000) : SmallD (fitD l) := by
  refine ⟨by show 1 ≤ _; omega, fun r hr => ?_, by show 1 ≤ _; omega, h1, h2⟩
  have : r ∈ [[(0 : Int)]] := hr
  rw [List.mem_singleton] at this
  subst this
  show 1 ≤ _; omega
theorem fitD_w : splice zeroC 256 [Value.int .i64 1] = cellsD (fitD []) (.slice none 0 0) (.slice none 0 0) (.slice none 0 0) := by
  have h0 : zeroC = u8L (fitD []).of ++ [Value.int .i64 0, Value.slice none 0 0, Value.slice none 0 0, Value.slice none 0 0] := by
    unfold fitD u8L
    rw [List.map_replicate]
  rw [h0]
  exact build_w (d := fitD []) List.length_replicate
theorem calleeRightN : V.Callee Try.prog 22 := ⟨_, _, Try.func22, rfl, by kernel_rfl⟩
set_option maxHeartbeats 8000000 in
theorem fits_t {l : List Tx} (hl : l.length ≤ 2000000) (hls : ∀ s ∈ l, s.length ≤ 2000000) {G : PHeap} {H : Heap} {R : Value → PHeap → Heap → Prop} {v : Value} (hv : Sl G str v l)
    (hR : ∀ G', PLe G G' → Sep G' (keys H) → R (.bool (boolOf (namesOk l))) G' H) : FnT Try.prog 28 [v] G H R := by
  have hd : (fitD []).of.length = 256 := List.length_replicate
  have hr1 : ∀ x : Value, List.replicate 1 x = [x] := fun _ => rfl
  have hl2 : ∀ a b c : Value, (cellsD (fitD []) a b c).length = 260 := fun a b c => cellsD_len hd _ _ _
  have ht2 : ∀ a b c : Value, List.take 260 (cellsD (fitD []) a b c) = cellsD (fitD []) a b c := fun a b c => cellsD_all hd _ _ _
  have hputN : ∀ a b c x : Value, splice (cellsD (fitD []) a b c) 257 [x] = cellsD (fitD []) x b c := fun a b c x => cellsD_putN hd _ _ _ _
  have hputL : ∀ a b c x : Value, splice (cellsD (fitD []) a b c) 258 [x] = cellsD (fitD []) a x c := fun a b c x => cellsD_putL hd _ _ _ _
  have hputS : ∀ a b c x : Value, splice (cellsD (fitD []) a b c) 259 [x] = cellsD (fitD []) a b x := fun a b c x => build_s hd _ _ _ _
  obtain ⟨ay, cy, rfl, hry, hcy⟩ := hv
  refine FnT.sep ?_
  refine FnT.body tok [0, 2] Try.func28 rfl (by kernel_rfl) (by kernel_rfl) (by show _ ≤ 9; simp) fun hsep => ?_
  rw [Try.results28]
  have hsE := hsep
  try simp only [keys_cons, keys_app, keys_nil, Sep_cons, Sep_nil, NotIn_cons, NotIn_app, NotIn_nil, List.cons_append, List.nil_append, List.append_assoc, and_assoc, and_true, true_and] at hsE
  repeat (obtain ⟨hsx, hsE⟩ := hsE)
  repeat' first
    | with_reducible refine Br.yes ?_
    | with_reducible refine Br.no ?_
    | with_reducible refine Br.dec (fun _ => ?_) (fun _ => ?_)
    | with_reducible refine Br.beqB (fun _ => ?_) (fun _ => ?_)
    | with_reducible refine Br.beqb (fun _ => ?_) (fun _ => ?_)
    | with_reducible refine Br.mk (fun _ => ?_) (fun _ => ?_)
    | with_reducible refine foundO.mk (fun _ _ => ?_) (fun _ => ?_)
    | with_reducible refine appV.zero ?_
    | with_reducible refine appV.own ?_
    | ((with_reducible refine NewB.mk fun nb hnb => ?_); have hnb1 := hnb.1.1; have hnb2 := hnb.1.2; try simp only [keys_cons, keys_app, keys_nil, NotIn_cons, NotIn_app, NotIn_nil, and_true] at hnb2)
    | ((with_reducible refine NewRow.mk fun nb nsp ncap hnb hncap => ?_); have hnb1 := hnb.1.1; have hnb2 := hnb.1.2; try simp only [keys_cons, keys_app, keys_nil, NotIn_cons, NotIn_app, NotIn_nil, and_true] at hnb2)
    | simp (dsimp := false) (implicitDefEqProofs := false) (disch := first | assumption | (simp only [List.mem_cons, List.mem_append, true_or, or_true, eq_self]; done) | omega | (with_reducible refine Row.adr (by assumption) ?_; simp only [List.length_map, List.length_take, List.length_drop]; omega) | (simp only [List.length_cons, List.length_nil, List.length_map, List.length_append, List.length_replicate, Nat.reduceAdd, true_and, and_true, and_self]; first | done | omega)) only [go_sem, ↓reduceIte, Nat.reduceEqDiff, Nat.reduceAdd, Nat.reduceSub, Nat.reduceMul, Nat.reduceBEq, Nat.reduceLT, Nat.reduceLeDiff, Nat.reduceMod, Nat.reducePow, List.reduceReplicate, UInt8.reduceOfNat, Int.reducePow, Int.reduceDiv, Int.reduceMod, Nat.reduceDiv, Int.reduceNeg, Int.reduceAdd, Int.reduceSub, Int.reduceMul, Int.reduceLE, Int.reduceLT, Int.reduceEq, Int.reduceToNat, reduceCtorEq, -List.reduceReplicate, List.toList_toArray, hr1, zeroC_len, fitD_w, hl2, ht2, hputN, hputL, hputS]
  rename_i c1 y11 y12 y13 c2 y21 y22 y23
  obtain ⟨c3, e0⟩ : ∃ x, x = nb := ⟨_, rfl⟩
  subst e0
  refine FnT.pre calleeRightN (Upd.go (H' := (c3, .cells [.int .i64 0] [] 3) :: (c2, .cells [.slice (some ⟨c1, 0, none⟩) 1 1] [] 24) :: (c1, .cells [.int .i64 0] [] 3) :: H) (by intro fsum; first | exact Nat.le_refl _ | (simp only [List.map_append, List.map_cons, List.map_nil, List.sum_append, List.sum_cons, List.sum_nil, List.cons_append, List.nil_append]; omega)) ?_)
  refine Upd.trans (Upd.shareRow (by assumption) fun G1 hle1 hs1 r3 => ?_)
  refine Upd.trans (Upd.shareRow hs1.1.1 fun G2 hle2 hs2 r2 => ?_)
  refine Upd.shareRow hs2.1.1 fun G3 hle3 hs3 r1 => ?_
  have k2 := hle3
  have k1 := hle2.trans k2
  have k0 := hle1.trans k1
  have hI : IsD G3 (fitD l) (.agg (cellsD (fitD []) (.slice (some ⟨c2, 0, none⟩) 1 1) (.slice (some ⟨c3, 0, none⟩) 1 1) (.slice ay l.length cy)).toArray) := by
    refine ⟨hd, fun x hx => ?_, _, _, _, rfl, ⟨some ⟨c2, 0, none⟩, 1, _, rfl, r2.mono k2, rfl, Nat.le_refl 1, fun i h h2 => ?_⟩, ⟨some ⟨c3, 0, none⟩, 1, rfl, r3.mono k1, Nat.le_refl 1⟩, ⟨ay, cy, rfl, hry.mono k0, hcy⟩⟩
    · have : x = 0 := List.eq_of_mem_replicate hx
      omega
    · have h3 : i < 1 := h
      match i, h3 with
      | 0, _ => exact ⟨_, _, rfl, r1, Nat.le_refl 1⟩
  have hb : boolOf (RightP (fitD l)) = boolOf (namesOk l) := by
    by_cases h : namesOk l
    · rw [boolOf_yes h, boolOf_yes (fitD_iff.2 h)]
    · rw [boolOf_no h, boolOf_no fun h2 => h (fitD_iff.1 h2)]
  refine right_t (fitD_small hl hls) hI ?_
  rw [hb]
  repeat' first
    | with_reducible refine Br.yes ?_
    | with_reducible refine Br.no ?_
    | with_reducible refine Br.dec (fun _ => ?_) (fun _ => ?_)
    | with_reducible refine Br.beqB (fun _ => ?_) (fun _ => ?_)
    | with_reducible refine Br.beqb (fun _ => ?_) (fun _ => ?_)
    | with_reducible refine Br.mk (fun _ => ?_) (fun _ => ?_)
    | with_reducible refine foundO.mk (fun _ _ => ?_) (fun _ => ?_)
    | with_reducible refine appV.zero ?_
    | with_reducible refine appV.own ?_
    | ((with_reducible refine NewB.mk fun nb hnb => ?_); have hnb1 := hnb.1.1; have hnb2 := hnb.1.2; try simp only [keys_cons, keys_app, keys_nil, NotIn_cons, NotIn_app, NotIn_nil, and_true] at hnb2)
    | ((with_reducible refine NewRow.mk fun nb nsp ncap hnb hncap => ?_); have hnb1 := hnb.1.1; have hnb2 := hnb.1.2; try simp only [keys_cons, keys_app, keys_nil, NotIn_cons, NotIn_app, NotIn_nil, and_true] at hnb2)
    | simp (dsimp := false) (implicitDefEqProofs := false) (disch := first | assumption | (simp only [List.mem_cons, List.mem_append, true_or, or_true, eq_self]; done) | omega | (with_reducible refine Row.adr (by assumption) ?_; simp only [List.length_map, List.length_take, List.length_drop]; omega) | (simp only [List.length_cons, List.length_nil, List.length_map, List.length_append, List.length_replicate, Nat.reduceAdd, true_and, and_true, and_self]; first | done | omega)) only [go_sem, ↓reduceIte, Nat.reduceEqDiff, Nat.reduceAdd, Nat.reduceSub, Nat.reduceMul, Nat.reduceBEq, Nat.reduceLT, Nat.reduceLeDiff, Nat.reduceMod, Nat.reducePow, List.reduceReplicate, UInt8.reduceOfNat, Int.reducePow, Int.reduceDiv, Int.reduceMod, Nat.reduceDiv, Int.reduceNeg, Int.reduceAdd, Int.reduceSub, Int.reduceMul, Int.reduceLE, Int.reduceLT, Int.reduceEq, Int.reduceToNat, reduceCtorEq, -List.reduceReplicate]
  unfold UpdR
  exact Upd.now fun _ hs => hR G3 k0 hs
def withN (d : DfaT) (l : List Tx) : DfaT := withD d l fun s => findF l s + 1
/-- a machine with other names, or why not -/
noncomputable def namesR (d : DfaT) (l : List Tx) : DfaT × Int :=
  haveI := Classical.propDecidable
  if RightP d then if namesOk l then if ∀ s ∈ usedS d, s ∈ l then (withN d l, 0) else (zeroD, 5) else (zeroD, 1) else (zeroD, 6)
theorem namesR_bad {d : DfaT} {l : List Tx} (h : ¬ RightP d) : namesR d l = (zeroD, 6) := by unfold namesR; rw [if_neg h]
theorem namesR_not {d : DfaT} {l : List Tx} (h : RightP d) (h2 : ¬ namesOk l) : namesR d l = (zeroD, 1) := by unfold namesR; rw [if_pos h, if_neg h2]
theorem namesR_none {d : DfaT} {l : List Tx} (h : RightP d) (h2 : namesOk l) (h3 : ¬ ∀ s ∈ usedS d, s ∈ l) : namesR d l = (zeroD, 5) := by unfold namesR; rw [if_pos h, if_pos h2, if_neg h3]
theorem namesR_ok {d : DfaT} {l : List Tx} (h : RightP d) (h2 : namesOk l) (h3 : ∀ s ∈ usedS d, s ∈ l) : namesR d l = (withN d l, 0) := by unfold namesR; rw [if_pos h, if_pos h2, if_pos h3]
theorem names1_t {l : List Tx} (hl : l.length ≤ 2000000) {bx : Nat} {s : Tx} {G : PHeap} {H : Heap} {R : Value → PHeap → Heap → Prop} {v : Value} (hv : Sl G str v l) (hR : R (.int .i64 (findF l s + 1)) G ((bx, .cells [v] [] 25) :: H)) :
    FnT Try.prog 31 [str s, .pointer (some ⟨bx, 0, none⟩)] G ((bx, .cells [v] [] 25) :: H) R := by
  refine FnT.upd ?_
  have hb : -1 ≤ findF l s ∧ findF l s ≤ 2000000 := by
    cases hp : place l s with
    | none => rw [findF_none hp]; omega
    | some n =>
      have := (place_some hp).1
      rw [findF_some hp]; omega
  refine FnT.body tok [0, 1, 3] Try.func31 rfl (by kernel_rfl) (by kernel_rfl) (by show _ ≤ 8; simp) fun hsep => ?_
  rw [Try.results31]
  have hsE := hsep
  try simp only [keys_cons, keys_app, keys_nil, Sep_cons, Sep_nil, NotIn_cons, NotIn_app, NotIn_nil, List.cons_append, List.nil_append, List.append_assoc, and_assoc, and_true, true_and] at hsE
  repeat (obtain ⟨hsx, hsE⟩ := hsE)
  repeat' first
    | with_reducible refine Br.yes ?_
    | with_reducible refine Br.no ?_
    | with_reducible refine Br.dec (fun _ => ?_) (fun _ => ?_)
    | with_reducible refine Br.beqB (fun _ => ?_) (fun _ => ?_)
    | with_reducible refine Br.beqb (fun _ => ?_) (fun _ => ?_)
    | with_reducible refine Br.mk (fun _ => ?_) (fun _ => ?_)
    | with_reducible refine foundO.mk (fun _ _ => ?_) (fun _ => ?_)
    | with_reducible refine appV.zero ?_
    | with_reducible refine appV.own ?_
    | ((with_reducible refine NewB.mk fun nb hnb => ?_); have hnb1 := hnb.1.1; have hnb2 := hnb.1.2; try simp only [keys_cons, keys_app, keys_nil, NotIn_cons, NotIn_app, NotIn_nil, and_true] at hnb2)
    | ((with_reducible refine NewRow.mk fun nb nsp ncap hnb hncap => ?_); have hnb1 := hnb.1.1; have hnb2 := hnb.1.2; try simp only [keys_cons, keys_app, keys_nil, NotIn_cons, NotIn_app, NotIn_nil, and_true] at hnb2)
    | simp (dsimp := false) (implicitDefEqProofs := false) (disch := first | assumption | (simp only [List.mem_cons, List.mem_append, true_or, or_true, eq_self]; done) | omega | (with_reducible refine Row.adr (by assumption) ?_; simp only [List.length_map, List.length_take, List.length_drop]; omega) | (simp only [List.length_cons, List.length_nil, List.length_map, List.length_append, List.length_replicate, Nat.reduceAdd, true_and, and_true, and_self]; first | done | omega)) only [go_sem, ↓reduceIte, Nat.reduceEqDiff, Nat.reduceAdd, Nat.reduceSub, Nat.reduceMul, Nat.reduceBEq, Nat.reduceLT, Nat.reduceLeDiff, Nat.reduceMod, Nat.reducePow, List.reduceReplicate, UInt8.reduceOfNat, Int.reducePow, Int.reduceDiv, Int.reduceMod, Nat.reduceDiv, Int.reduceNeg, Int.reduceAdd, Int.reduceSub, Int.reduceMul, Int.reduceLE, Int.reduceLT, Int.reduceEq, Int.reduceToNat, reduceCtorEq]
    | with_reducible refine index_t l s hl hv ?_
  all_goals refine Upd.finL ?_ (Upd.now hR) ?_
  any_goals (intro fsum; first | exact Nat.le_refl _ | (simp only [List.map_append, List.map_cons, List.map_nil, List.sum_append, List.sum_cons, List.sum_nil, List.cons_append, List.nil_append]; omega))
  all_goals rfl
set_option maxHeartbeats 16000000 in
theorem lnames_t {d : DfaT} (hsm : SmallD d) {l : List Tx} (hl : l.length ≤ 2000000) (hls : ∀ s ∈ l, s.length ≤ 2000000) {G : PHeap} {H : Heap} {R : Value → PHeap → Heap → Prop} {v w : Value} (hv : IsD G d v) (hw : Sl G str w l)
    (hR : ∀ G' v', PLe G G' → Sep G' (keys H) → IsD G' (namesR d l).1 v' → R (.tuple #[v', .int .i64 (namesR d l).2]) G' H) : FnT Try.prog 13 [v, w] G H R := by
  obtain ⟨C, an, al, ay, cn, cl, cs, rs, rfl, O⟩ := hv.opened
  have hCl := O.len
  have hCa := O.all
  have hw0 := hw
  obtain ⟨aw, cw, rfl, hrw, hcw⟩ := hw
  refine FnT.sep ?_
  by_cases hok : RightP d
  · have hb := boolOf_yes hok
    by_cases hf : namesOk l
    · have hb2 := boolOf_yes hf
      refine FnT.body tok [0, 1, 2, 3, 4, 5, 7, 8, 13, 19, 20, 21, 22, 28] Try.func13 rfl (by kernel_rfl) (by kernel_rfl) (by show _ ≤ 35; simp) fun hsep => ?_
      rw [Try.results13]
      have hsE := hsep
      try simp only [keys_cons, keys_app, keys_nil, Sep_cons, Sep_nil, NotIn_cons, NotIn_app, NotIn_nil, List.cons_append, List.nil_append, List.append_assoc, and_assoc, and_true, true_and] at hsE
      repeat (obtain ⟨hsx, hsE⟩ := hsE)
      repeat' first
        | with_reducible refine Br.yes ?_
        | with_reducible refine Br.no ?_
        | with_reducible refine Br.dec (fun _ => ?_) (fun _ => ?_)
        | with_reducible refine Br.beqB (fun _ => ?_) (fun _ => ?_)
        | with_reducible refine Br.beqb (fun _ => ?_) (fun _ => ?_)
        | with_reducible refine Br.mk (fun _ => ?_) (fun _ => ?_)
        | with_reducible refine foundO.mk (fun _ _ => ?_) (fun _ => ?_)
        | with_reducible refine appV.zero ?_
        | with_reducible refine appV.own ?_
        | ((with_reducible refine NewB.mk fun nb hnb => ?_); have hnb1 := hnb.1.1; have hnb2 := hnb.1.2; try simp only [keys_cons, keys_app, keys_nil, NotIn_cons, NotIn_app, NotIn_nil, and_true] at hnb2)
        | ((with_reducible refine NewRow.mk fun nb nsp ncap hnb hncap => ?_); have hnb1 := hnb.1.1; have hnb2 := hnb.1.2; try simp only [keys_cons, keys_app, keys_nil, NotIn_cons, NotIn_app, NotIn_nil, and_true] at hnb2)
        | simp (dsimp := false) (implicitDefEqProofs := false) (disch := first | assumption | (simp only [List.mem_cons, List.mem_append, true_or, or_true, eq_self]; done) | omega | (with_reducible refine Row.adr (by assumption) ?_; simp only [List.length_map, List.length_take, List.length_drop]; omega) | (simp only [List.length_cons, List.length_nil, List.length_map, List.length_append, List.length_replicate, Nat.reduceAdd, true_and, and_true, and_self]; first | done | omega)) only [go_sem, ↓reduceIte, Nat.reduceEqDiff, Nat.reduceAdd, Nat.reduceSub, Nat.reduceMul, Nat.reduceBEq, Nat.reduceLT, Nat.reduceLeDiff, Nat.reduceMod, Nat.reducePow, List.reduceReplicate, UInt8.reduceOfNat, Int.reducePow, Int.reduceDiv, Int.reduceMod, Nat.reduceDiv, Int.reduceNeg, Int.reduceAdd, Int.reduceSub, Int.reduceMul, Int.reduceLE, Int.reduceLT, Int.reduceEq, Int.reduceToNat, reduceCtorEq, -List.reduceReplicate, List.toList_toArray, hCl, hCa, zeroC_len, zeroC_one, zeroC_take, zeroC_put, hb, hb2]
        | with_reducible refine right_t hsm O.is ?_
        | ((with_reducible refine fits_t hl hls hw0 fun G2 hle2 hs2 => ?_); (have hsE := hs2; try simp only [keys_cons, keys_app, keys_nil, Sep_cons, Sep_nil, NotIn_cons, NotIn_app, NotIn_nil, List.cons_append, List.nil_append, List.append_assoc, and_assoc, and_true, true_and] at hsE; repeat (obtain ⟨hsx, hsE⟩ := hsE)))
      rename_i b2 h20 h21 h22 b3 h30 h31 h32 q1 q2 q3 q4 q5 q6 q7 q8
      obtain ⟨b4, e0⟩ : ∃ x, x = nb := ⟨_, rfl⟩
      subst e0
      refine used_t hsm (O.is.mono hle2) fun G3 v3 hle3 hs3 hsl3 => ?_
      rw [usedR_ok hok] at hsl3
      obtain ⟨u, hu⟩ : ∃ u, u = usedS d := ⟨_, rfl⟩
      have hul : u.length ≤ 64 := by
        have := usedS_len d
        have := hf
        have := hok.2.2.2.2.2.1.1
        rw [hu]; omega
      have hcase : (∀ s ∈ u, s ∈ l) → namesR d l = (withN d l, 0) := fun h => namesR_ok hok hf (by rw [← hu]; exact h)
      have hcase2 : (¬ ∀ s ∈ u, s ∈ l) → namesR d l = (zeroD, 5) := fun h => namesR_none hok hf (by rw [← hu]; exact h)
      rw [← hu] at hsl3
      clear hu
      obtain ⟨au, cu, rfl, hru, hcu⟩ := hsl3
      have k3 := hle2.trans hle3
      have hw3 := hw0.mono k3
      have hsE := hs3
      try simp only [keys_cons, keys_app, keys_nil, Sep_cons, Sep_nil, NotIn_cons, NotIn_app, NotIn_nil, List.cons_append, List.nil_append, List.append_assoc, and_assoc, and_true, true_and] at hsE
      repeat (obtain ⟨hsx, hsE⟩ := hsE)
      repeat' first
        | with_reducible refine Br.yes ?_
        | with_reducible refine Br.no ?_
        | with_reducible refine Br.dec (fun _ => ?_) (fun _ => ?_)
        | with_reducible refine Br.beqB (fun _ => ?_) (fun _ => ?_)
        | with_reducible refine Br.beqb (fun _ => ?_) (fun _ => ?_)
        | with_reducible refine Br.mk (fun _ => ?_) (fun _ => ?_)
        | with_reducible refine foundO.mk (fun _ _ => ?_) (fun _ => ?_)
        | with_reducible refine appV.zero ?_
        | with_reducible refine appV.own ?_
        | ((with_reducible refine NewB.mk fun nb hnb => ?_); have hnb1 := hnb.1.1; have hnb2 := hnb.1.2; try simp only [keys_cons, keys_app, keys_nil, NotIn_cons, NotIn_app, NotIn_nil, and_true] at hnb2)
        | ((with_reducible refine NewRow.mk fun nb nsp ncap hnb hncap => ?_); have hnb1 := hnb.1.1; have hnb2 := hnb.1.2; try simp only [keys_cons, keys_app, keys_nil, NotIn_cons, NotIn_app, NotIn_nil, and_true] at hnb2)
        | simp (dsimp := false) (implicitDefEqProofs := false) (disch := first | assumption | (simp only [List.mem_cons, List.mem_append, true_or, or_true, eq_self]; done) | omega | (with_reducible refine Row.adr (by assumption) ?_; simp only [List.length_map, List.length_take, List.length_drop]; omega) | (simp only [List.length_cons, List.length_nil, List.length_map, List.length_append, List.length_replicate, Nat.reduceAdd, true_and, and_true, and_self]; first | done | omega)) only [go_sem, ↓reduceIte, Nat.reduceEqDiff, Nat.reduceAdd, Nat.reduceSub, Nat.reduceMul, Nat.reduceBEq, Nat.reduceLT, Nat.reduceLeDiff, Nat.reduceMod, Nat.reducePow, List.reduceReplicate, UInt8.reduceOfNat, Int.reducePow, Int.reduceDiv, Int.reduceMod, Nat.reduceDiv, Int.reduceNeg, Int.reduceAdd, Int.reduceSub, Int.reduceMul, Int.reduceLE, Int.reduceLT, Int.reduceEq, Int.reduceToNat, reduceCtorEq, -List.reduceReplicate, List.toList_toArray, hCl, hCa]
      refine Tri.loopU tok [0, 1, 2, 3, 4, 5, 7, 8, 13, 19, 20, 21, 22, 28] (by kernel_rfl) [2, 3, 4, 5, 19, 20, 21] (fun q G' fr H' => ∃ i : Nat, i + q = u.length ∧ (∀ j (h : j < u.length), j < i → u[j] ∈ l) ∧ G' = G3 ∧ H' = (b4, .cells zeroC [] 27) :: (b3, .cells [.slice aw l.length cw] [] 25) :: (b2, .cells C [] 27) :: H ∧ fr = [(2, .pointer (some ⟨b2, 0, none⟩)), (3, .pointer (some ⟨b3, 0, none⟩)), (4, .pointer (some ⟨b4, 0, none⟩)), (5, .int .i64 0), (19, .slice au u.length cu), (20, .int .i64 u.length), (21, .int .i64 (i : Nat))]) (u.length) ?_ ?_
      · exact Upd.now ⟨0, by omega, fun j _ h => by omega, rfl, rfl, rfl⟩
      · rintro q G4 fr H' hle4 hs4 ⟨i, hiq, hall, rfl, rfl, rfl⟩
        have hsE := hs4
        try simp only [keys_cons, keys_app, keys_nil, Sep_cons, Sep_nil, NotIn_cons, NotIn_app, NotIn_nil, List.cons_append, List.nil_append, List.append_assoc, and_assoc, and_true, true_and] at hsE
        repeat (obtain ⟨hsx, hsE⟩ := hsE)
        by_cases hil : i < u.length
        · have had : Adr au := hru.adr (by rw [List.length_map]; omega)
          by_cases hm : u[i] ∈ l
          · have hdm := decide_eq_true hm
            repeat' first
              | with_reducible refine Br.yes ?_
              | with_reducible refine Br.no ?_
              | with_reducible refine Br.dec (fun _ => ?_) (fun _ => ?_)
              | with_reducible refine Br.beqB (fun _ => ?_) (fun _ => ?_)
              | with_reducible refine Br.beqb (fun _ => ?_) (fun _ => ?_)
              | with_reducible refine Br.mk (fun _ => ?_) (fun _ => ?_)
              | with_reducible refine foundO.mk (fun _ _ => ?_) (fun _ => ?_)
              | with_reducible refine appV.zero ?_
              | with_reducible refine appV.own ?_
              | ((with_reducible refine NewB.mk fun nb hnb => ?_); have hnb1 := hnb.1.1; have hnb2 := hnb.1.2; try simp only [keys_cons, keys_app, keys_nil, NotIn_cons, NotIn_app, NotIn_nil, and_true] at hnb2)
              | ((with_reducible refine NewRow.mk fun nb nsp ncap hnb hncap => ?_); have hnb1 := hnb.1.1; have hnb2 := hnb.1.2; try simp only [keys_cons, keys_app, keys_nil, NotIn_cons, NotIn_app, NotIn_nil, and_true] at hnb2)
              | simp (dsimp := false) (implicitDefEqProofs := false) (disch := first | assumption | (simp only [List.mem_cons, List.mem_append, true_or, or_true, eq_self]; done) | omega | (with_reducible refine Row.adr (by assumption) ?_; simp only [List.length_map, List.length_take, List.length_drop]; omega) | (simp only [List.length_cons, List.length_nil, List.length_map, List.length_append, List.length_replicate, Nat.reduceAdd, true_and, and_true, and_self]; first | done | omega)) only [go_sem, ↓reduceIte, Nat.reduceEqDiff, Nat.reduceAdd, Nat.reduceSub, Nat.reduceMul, Nat.reduceBEq, Nat.reduceLT, Nat.reduceLeDiff, Nat.reduceMod, Nat.reducePow, List.reduceReplicate, UInt8.reduceOfNat, Int.reducePow, Int.reduceDiv, Int.reduceMod, Nat.reduceDiv, Int.reduceNeg, Int.reduceAdd, Int.reduceSub, Int.reduceMul, Int.reduceLE, Int.reduceLT, Int.reduceEq, Int.reduceToNat, reduceCtorEq, -List.reduceReplicate, Row.obj hru, List.getElem_map, hdm]
              | with_reducible refine contains_t l _ hl hw3 ?_
            exact Upd.now ⟨q - 1, by omega, i + 1, by omega, fun j h hj => by
              by_cases e : j = i
              · subst e; exact hm
              · exact hall j h (by omega), rfl, rfl, rfl⟩
          · have hdm := decide_eq_false hm
            rw [hcase2 fun h => hm (h _ (List.getElem_mem hil))] at hR
            repeat' first
              | with_reducible refine Br.yes ?_
              | with_reducible refine Br.no ?_
              | with_reducible refine Br.dec (fun _ => ?_) (fun _ => ?_)
              | with_reducible refine Br.beqB (fun _ => ?_) (fun _ => ?_)
              | with_reducible refine Br.beqb (fun _ => ?_) (fun _ => ?_)
              | with_reducible refine Br.mk (fun _ => ?_) (fun _ => ?_)
              | with_reducible refine foundO.mk (fun _ _ => ?_) (fun _ => ?_)
              | with_reducible refine appV.zero ?_
              | with_reducible refine appV.own ?_
              | ((with_reducible refine NewB.mk fun nb hnb => ?_); have hnb1 := hnb.1.1; have hnb2 := hnb.1.2; try simp only [keys_cons, keys_app, keys_nil, NotIn_cons, NotIn_app, NotIn_nil, and_true] at hnb2)
              | ((with_reducible refine NewRow.mk fun nb nsp ncap hnb hncap => ?_); have hnb1 := hnb.1.1; have hnb2 := hnb.1.2; try simp only [keys_cons, keys_app, keys_nil, NotIn_cons, NotIn_app, NotIn_nil, and_true] at hnb2)
              | simp (dsimp := false) (implicitDefEqProofs := false) (disch := first | assumption | (simp only [List.mem_cons, List.mem_append, true_or, or_true, eq_self]; done) | omega | (with_reducible refine Row.adr (by assumption) ?_; simp only [List.length_map, List.length_take, List.length_drop]; omega) | (simp only [List.length_cons, List.length_nil, List.length_map, List.length_append, List.length_replicate, Nat.reduceAdd, true_and, and_true, and_self]; first | done | omega)) only [go_sem, ↓reduceIte, Nat.reduceEqDiff, Nat.reduceAdd, Nat.reduceSub, Nat.reduceMul, Nat.reduceBEq, Nat.reduceLT, Nat.reduceLeDiff, Nat.reduceMod, Nat.reducePow, List.reduceReplicate, UInt8.reduceOfNat, Int.reducePow, Int.reduceDiv, Int.reduceMod, Nat.reduceDiv, Int.reduceNeg, Int.reduceAdd, Int.reduceSub, Int.reduceMul, Int.reduceLE, Int.reduceLT, Int.reduceEq, Int.reduceToNat, reduceCtorEq, -List.reduceReplicate, Row.obj hru, List.getElem_map, hdm, zeroC_len, zeroC_one, zeroC_take, zeroC_put]
              | with_reducible refine contains_t l _ hl hw3 ?_
            unfold UpdR
            refine Upd.leave (H' := H) (by intro fsum; first | exact Nat.le_refl _ | (simp only [List.map_append, List.map_cons, List.map_nil, List.sum_append, List.sum_cons, List.sum_nil, List.cons_append, List.nil_append]; omega)) ?_
            exact fun _ hs => hR G4 _ k3 hs (zeroD_is _)
        · obtain rfl : i = u.length := by omega
          rw [hcase fun s hs => by
            obtain ⟨j, hj, rfl⟩ := List.getElem_of_mem hs
            exact hall j hj hj] at hR
          repeat' first
            | with_reducible refine Br.yes ?_
            | with_reducible refine Br.no ?_
            | with_reducible refine Br.dec (fun _ => ?_) (fun _ => ?_)
            | with_reducible refine Br.beqB (fun _ => ?_) (fun _ => ?_)
            | with_reducible refine Br.beqb (fun _ => ?_) (fun _ => ?_)
            | with_reducible refine Br.mk (fun _ => ?_) (fun _ => ?_)
            | with_reducible refine foundO.mk (fun _ _ => ?_) (fun _ => ?_)
            | with_reducible refine appV.zero ?_
            | with_reducible refine appV.own ?_
            | ((with_reducible refine NewB.mk fun nb hnb => ?_); have hnb1 := hnb.1.1; have hnb2 := hnb.1.2; try simp only [keys_cons, keys_app, keys_nil, NotIn_cons, NotIn_app, NotIn_nil, and_true] at hnb2)
            | ((with_reducible refine NewRow.mk fun nb nsp ncap hnb hncap => ?_); have hnb1 := hnb.1.1; have hnb2 := hnb.1.2; try simp only [keys_cons, keys_app, keys_nil, NotIn_cons, NotIn_app, NotIn_nil, and_true] at hnb2)
            | simp (dsimp := false) (implicitDefEqProofs := false) (disch := first | assumption | (simp only [List.mem_cons, List.mem_append, true_or, or_true, eq_self]; done) | omega | (with_reducible refine Row.adr (by assumption) ?_; simp only [List.length_map, List.length_take, List.length_drop]; omega) | (simp only [List.length_cons, List.length_nil, List.length_map, List.length_append, List.length_replicate, Nat.reduceAdd, true_and, and_true, and_self]; first | done | omega)) only [go_sem, ↓reduceIte, Nat.reduceEqDiff, Nat.reduceAdd, Nat.reduceSub, Nat.reduceMul, Nat.reduceBEq, Nat.reduceLT, Nat.reduceLeDiff, Nat.reduceMod, Nat.reducePow, List.reduceReplicate, UInt8.reduceOfNat, Int.reducePow, Int.reduceDiv, Int.reduceMod, Nat.reduceDiv, Int.reduceNeg, Int.reduceAdd, Int.reduceSub, Int.reduceMul, Int.reduceLE, Int.reduceLT, Int.reduceEq, Int.reduceToNat, reduceCtorEq, -List.reduceReplicate, List.toList_toArray, hCl, hCa]
          refine FnT.leave (H' := (b3, .cells [.slice aw l.length cw] [] 25) :: (b4, .cells zeroC [] 27) :: (b2, .cells C [] 27) :: H) ?_ (by intro fsum; first | exact Nat.le_refl _ | (simp only [List.map_append, List.map_cons, List.map_nil, List.sum_append, List.sum_cons, List.sum_nil, List.cons_append, List.nil_append]; omega))
          refine withS_t hsm hok hl (O.is.mono k3) hw3 (g := fun s => findF l s + 1) (fun s G1 H1 R1 hle hs hR1 => names1_t hl (hw3.mono hle) hR1) fun G5 v5 hle5 hs5 hI5 => ?_
          obtain ⟨C5, an5, al5, ay5, cn5, cl5, cs5, rs5, rfl, O5⟩ := hI5.opened
          have hC5l := O5.len
          have hone5 := wdf_one O5.is
          have hput5 := wdf_put hC5l
          have htk5 : List.take 260 C5 = C5 := List.take_of_length_le (by omega)
          have hsE := hs5
          try simp only [keys_cons, keys_app, keys_nil, Sep_cons, Sep_nil, NotIn_cons, NotIn_app, NotIn_nil, List.cons_append, List.nil_append, List.append_assoc, and_assoc, and_true, true_and] at hsE
          repeat (obtain ⟨hsx, hsE⟩ := hsE)
          repeat' first
            | with_reducible refine Br.yes ?_
            | with_reducible refine Br.no ?_
            | with_reducible refine Br.dec (fun _ => ?_) (fun _ => ?_)
            | with_reducible refine Br.beqB (fun _ => ?_) (fun _ => ?_)
            | with_reducible refine Br.beqb (fun _ => ?_) (fun _ => ?_)
            | with_reducible refine Br.mk (fun _ => ?_) (fun _ => ?_)
            | with_reducible refine foundO.mk (fun _ _ => ?_) (fun _ => ?_)
            | with_reducible refine appV.zero ?_
            | with_reducible refine appV.own ?_
            | ((with_reducible refine NewB.mk fun nb hnb => ?_); have hnb1 := hnb.1.1; have hnb2 := hnb.1.2; try simp only [keys_cons, keys_app, keys_nil, NotIn_cons, NotIn_app, NotIn_nil, and_true] at hnb2)
            | ((with_reducible refine NewRow.mk fun nb nsp ncap hnb hncap => ?_); have hnb1 := hnb.1.1; have hnb2 := hnb.1.2; try simp only [keys_cons, keys_app, keys_nil, NotIn_cons, NotIn_app, NotIn_nil, and_true] at hnb2)
            | simp (dsimp := false) (implicitDefEqProofs := false) (disch := first | assumption | (simp only [List.mem_cons, List.mem_append, true_or, or_true, eq_self]; done) | omega | (with_reducible refine Row.adr (by assumption) ?_; simp only [List.length_map, List.length_take, List.length_drop]; omega) | (simp only [List.length_cons, List.length_nil, List.length_map, List.length_append, List.length_replicate, Nat.reduceAdd, true_and, and_true, and_self]; first | done | omega)) only [go_sem, ↓reduceIte, Nat.reduceEqDiff, Nat.reduceAdd, Nat.reduceSub, Nat.reduceMul, Nat.reduceBEq, Nat.reduceLT, Nat.reduceLeDiff, Nat.reduceMod, Nat.reducePow, List.reduceReplicate, UInt8.reduceOfNat, Int.reducePow, Int.reduceDiv, Int.reduceMod, Nat.reduceDiv, Int.reduceNeg, Int.reduceAdd, Int.reduceSub, Int.reduceMul, Int.reduceLE, Int.reduceLT, Int.reduceEq, Int.reduceToNat, reduceCtorEq, -List.reduceReplicate, List.toList_toArray, hC5l, hone5, hput5, htk5, zeroC_len]
          unfold UpdR
          refine Upd.leave (H' := H) (by intro fsum; first | exact Nat.le_refl _ | (simp only [List.map_append, List.map_cons, List.map_nil, List.sum_append, List.sum_cons, List.sum_nil, List.cons_append, List.nil_append]; omega)) ?_
          exact fun _ hs => hR G5 _ (k3.trans hle5) hs O5.is
    · have hb2 := boolOf_no hf
      rw [namesR_not hok hf] at hR
      refine FnT.body tok [0, 1, 2, 3, 4, 5, 7, 8, 13, 19, 20, 21, 22, 28] Try.func13 rfl (by kernel_rfl) (by kernel_rfl) (by show _ ≤ 35; simp) fun hsep => ?_
      rw [Try.results13]
      have hsE := hsep
      try simp only [keys_cons, keys_app, keys_nil, Sep_cons, Sep_nil, NotIn_cons, NotIn_app, NotIn_nil, List.cons_append, List.nil_append, List.append_assoc, and_assoc, and_true, true_and] at hsE
      repeat (obtain ⟨hsx, hsE⟩ := hsE)
      repeat' first
        | with_reducible refine Br.yes ?_
        | with_reducible refine Br.no ?_
        | with_reducible refine Br.dec (fun _ => ?_) (fun _ => ?_)
        | with_reducible refine Br.beqB (fun _ => ?_) (fun _ => ?_)
        | with_reducible refine Br.beqb (fun _ => ?_) (fun _ => ?_)
        | with_reducible refine Br.mk (fun _ => ?_) (fun _ => ?_)
        | with_reducible refine foundO.mk (fun _ _ => ?_) (fun _ => ?_)
        | with_reducible refine appV.zero ?_
        | with_reducible refine appV.own ?_
        | ((with_reducible refine NewB.mk fun nb hnb => ?_); have hnb1 := hnb.1.1; have hnb2 := hnb.1.2; try simp only [keys_cons, keys_app, keys_nil, NotIn_cons, NotIn_app, NotIn_nil, and_true] at hnb2)
        | ((with_reducible refine NewRow.mk fun nb nsp ncap hnb hncap => ?_); have hnb1 := hnb.1.1; have hnb2 := hnb.1.2; try simp only [keys_cons, keys_app, keys_nil, NotIn_cons, NotIn_app, NotIn_nil, and_true] at hnb2)
        | simp (dsimp := false) (implicitDefEqProofs := false) (disch := first | assumption | (simp only [List.mem_cons, List.mem_append, true_or, or_true, eq_self]; done) | omega | (with_reducible refine Row.adr (by assumption) ?_; simp only [List.length_map, List.length_take, List.length_drop]; omega) | (simp only [List.length_cons, List.length_nil, List.length_map, List.length_append, List.length_replicate, Nat.reduceAdd, true_and, and_true, and_self]; first | done | omega)) only [go_sem, ↓reduceIte, Nat.reduceEqDiff, Nat.reduceAdd, Nat.reduceSub, Nat.reduceMul, Nat.reduceBEq, Nat.reduceLT, Nat.reduceLeDiff, Nat.reduceMod, Nat.reducePow, List.reduceReplicate, UInt8.reduceOfNat, Int.reducePow, Int.reduceDiv, Int.reduceMod, Nat.reduceDiv, Int.reduceNeg, Int.reduceAdd, Int.reduceSub, Int.reduceMul, Int.reduceLE, Int.reduceLT, Int.reduceEq, Int.reduceToNat, reduceCtorEq, -List.reduceReplicate, List.toList_toArray, hCl, hCa, zeroC_len, zeroC_one, zeroC_take, zeroC_put, hb, hb2]
        | with_reducible refine right_t hsm O.is ?_
        | ((with_reducible refine fits_t hl hls hw0 fun G2 hle2 hs2 => ?_); (have hsE := hs2; try simp only [keys_cons, keys_app, keys_nil, Sep_cons, Sep_nil, NotIn_cons, NotIn_app, NotIn_nil, List.cons_append, List.nil_append, List.append_assoc, and_assoc, and_true, true_and] at hsE; repeat (obtain ⟨hsx, hsE⟩ := hsE)))
      unfold UpdR
      refine Upd.leave (H' := H) (by intro fsum; first | exact Nat.le_refl _ | (simp only [List.map_append, List.map_cons, List.map_nil, List.sum_append, List.sum_cons, List.sum_nil, List.cons_append, List.nil_append]; omega)) ?_
      exact fun _ hs => hR G2 _ hle2 hs (zeroD_is _)
  · have hb := boolOf_no hok
    rw [namesR_bad hok] at hR
    refine FnT.body tok [0, 1, 2, 3, 4, 5, 7, 8, 13, 19, 20, 21, 22, 28] Try.func13 rfl (by kernel_rfl) (by kernel_rfl) (by show _ ≤ 35; simp) fun hsep => ?_
    rw [Try.results13]
    have hsE := hsep
    try simp only [keys_cons, keys_app, keys_nil, Sep_cons, Sep_nil, NotIn_cons, NotIn_app, NotIn_nil, List.cons_append, List.nil_append, List.append_assoc, and_assoc, and_true, true_and] at hsE
    repeat (obtain ⟨hsx, hsE⟩ := hsE)
    repeat' first
      | with_reducible refine Br.yes ?_
      | with_reducible refine Br.no ?_
      | with_reducible refine Br.dec (fun _ => ?_) (fun _ => ?_)
      | with_reducible refine Br.beqB (fun _ => ?_) (fun _ => ?_)
      | with_reducible refine Br.beqb (fun _ => ?_) (fun _ => ?_)
      | with_reducible refine Br.mk (fun _ => ?_) (fun _ => ?_)
      | with_reducible refine foundO.mk (fun _ _ => ?_) (fun _ => ?_)
      | with_reducible refine appV.zero ?_
      | with_reducible refine appV.own ?_
      | ((with_reducible refine NewB.mk fun nb hnb => ?_); have hnb1 := hnb.1.1; have hnb2 := hnb.1.2; try simp only [keys_cons, keys_app, keys_nil, NotIn_cons, NotIn_app, NotIn_nil, and_true] at hnb2)
      | ((with_reducible refine NewRow.mk fun nb nsp ncap hnb hncap => ?_); have hnb1 := hnb.1.1; have hnb2 := hnb.1.2; try simp only [keys_cons, keys_app, keys_nil, NotIn_cons, NotIn_app, NotIn_nil, and_true] at hnb2)
      | simp (dsimp := false) (implicitDefEqProofs := false) (disch := first | assumption | (simp only [List.mem_cons, List.mem_append, true_or, or_true, eq_self]; done) | omega | (with_reducible refine Row.adr (by assumption) ?_; simp only [List.length_map, List.length_take, List.length_drop]; omega) | (simp only [List.length_cons, List.length_nil, List.length_map, List.length_append, List.length_replicate, Nat.reduceAdd, true_and, and_true, and_self]; first | done | omega)) only [go_sem, ↓reduceIte, Nat.reduceEqDiff, Nat.reduceAdd, Nat.reduceSub, Nat.reduceMul, Nat.reduceBEq, Nat.reduceLT, Nat.reduceLeDiff, Nat.reduceMod, Nat.reducePow, List.reduceReplicate, UInt8.reduceOfNat, Int.reducePow, Int.reduceDiv, Int.reduceMod, Nat.reduceDiv, Int.reduceNeg, Int.reduceAdd, Int.reduceSub, Int.reduceMul, Int.reduceLE, Int.reduceLT, Int.reduceEq, Int.reduceToNat, reduceCtorEq, -List.reduceReplicate, List.toList_toArray, hCl, hCa, zeroC_len, zeroC_one, zeroC_take, zeroC_put, hb]
      | with_reducible refine right_t hsm O.is ?_
    unfold UpdR
    refine Upd.leave (H' := H) (by intro fsum; first | exact Nat.le_refl _ | (simp only [List.map_append, List.map_cons, List.map_nil, List.sum_append, List.sum_cons, List.sum_nil, List.cons_append, List.nil_append]; omega)) ?_
    exact fun _ hs => hR G _ (PLe.refl _) hs (zeroD_is _)
theorem usedR_small {d : DfaT} (hsm : SmallD d) : (usedR d).length ≤ 2000000 ∧ ∀ s ∈ usedR d, s.length ≤ 2000000 := by
  have := usedR_len d
  obtain ⟨hm1, hm2, hm3, hm4, hm5⟩ := hsm
  exact ⟨by omega, fun s hs => hm5 s (mem_usedR hs)⟩
/-- a machine with the names that it tells -/
noncomputable def normR (d : DfaT) : DfaT × Int := namesR d (usedR d)
set_option maxHeartbeats 16000000 in
theorem lnorm_t {d : DfaT} (hsm : SmallD d) {G : PHeap} {H : Heap} {R : Value → PHeap → Heap → Prop} {v : Value} (hv : IsD G d v)
    (hR : ∀ G' v', PLe G G' → Sep G' (keys H) → IsD G' (normR d).1 v' → R (.tuple #[v', .int .i64 (normR d).2]) G' H) : FnT Try.prog 16 [v] G H R := by
  obtain ⟨C, an, al, ay, cn, cl, cs, rs, rfl, O⟩ := hv.opened
  have hCl := O.len
  have hCa := O.all
  obtain ⟨hu1, hu2⟩ := usedR_small hsm
  refine FnT.sep ?_
  refine FnT.body tok [0, 1, 2, 3] Try.func16 rfl (by kernel_rfl) (by kernel_rfl) (by show _ ≤ 10; simp) fun hsep => ?_
  rw [Try.results16]
  have hsE := hsep
  try simp only [keys_cons, keys_app, keys_nil, Sep_cons, Sep_nil, NotIn_cons, NotIn_app, NotIn_nil, List.cons_append, List.nil_append, List.append_assoc, and_assoc, and_true, true_and] at hsE
  repeat (obtain ⟨hsx, hsE⟩ := hsE)
  repeat' first
    | with_reducible refine Br.yes ?_
    | with_reducible refine Br.no ?_
    | with_reducible refine Br.dec (fun _ => ?_) (fun _ => ?_)
    | with_reducible refine Br.beqB (fun _ => ?_) (fun _ => ?_)
    | with_reducible refine Br.beqb (fun _ => ?_) (fun _ => ?_)
    | with_reducible refine Br.mk (fun _ => ?_) (fun _ => ?_)
    | with_reducible refine foundO.mk (fun _ _ => ?_) (fun _ => ?_)
    | with_reducible refine appV.zero ?_
    | with_reducible refine appV.own ?_
    | ((with_reducible refine NewB.mk fun nb hnb => ?_); have hnb1 := hnb.1.1; have hnb2 := hnb.1.2; try simp only [keys_cons, keys_app, keys_nil, NotIn_cons, NotIn_app, NotIn_nil, and_true] at hnb2)
    | ((with_reducible refine NewRow.mk fun nb nsp ncap hnb hncap => ?_); have hnb1 := hnb.1.1; have hnb2 := hnb.1.2; try simp only [keys_cons, keys_app, keys_nil, NotIn_cons, NotIn_app, NotIn_nil, and_true] at hnb2)
    | simp (dsimp := false) (implicitDefEqProofs := false) (disch := first | assumption | (simp only [List.mem_cons, List.mem_append, true_or, or_true, eq_self]; done) | omega | (with_reducible refine Row.adr (by assumption) ?_; simp only [List.length_map, List.length_take, List.length_drop]; omega) | (simp only [List.length_cons, List.length_nil, List.length_map, List.length_append, List.length_replicate, Nat.reduceAdd, true_and, and_true, and_self]; first | done | omega)) only [go_sem, ↓reduceIte, Nat.reduceEqDiff, Nat.reduceAdd, Nat.reduceSub, Nat.reduceMul, Nat.reduceBEq, Nat.reduceLT, Nat.reduceLeDiff, Nat.reduceMod, Nat.reducePow, List.reduceReplicate, UInt8.reduceOfNat, Int.reducePow, Int.reduceDiv, Int.reduceMod, Nat.reduceDiv, Int.reduceNeg, Int.reduceAdd, Int.reduceSub, Int.reduceMul, Int.reduceLE, Int.reduceLT, Int.reduceEq, Int.reduceToNat, reduceCtorEq, -List.reduceReplicate, List.toList_toArray, hCl, hCa]
    | with_reducible refine Tri.drawH tok mixed [0, 1, 2, 3] 1 [0, 1] (.op 0 .held (.op 1 .held (.op 2 .keeps (.op 3 .keeps (.op 4 .plain (.op 5 .plain (.op 6 .plain (.op 7 .plain .nil)))))))) (by kernel_rfl) [1] ?_
  rename_i b1 h10 h11 h12
  obtain ⟨b2, e0⟩ : ∃ x, x = nb := ⟨_, rfl⟩
  subst e0
  refine used_t hsm O.is fun G3 v3 hle3 hs3 hsl3 => ?_
  have hsE := hs3
  try simp only [keys_cons, keys_app, keys_nil, Sep_cons, Sep_nil, NotIn_cons, NotIn_app, NotIn_nil, List.cons_append, List.nil_append, List.append_assoc, and_assoc, and_true, true_and] at hsE
  repeat (obtain ⟨hsx, hsE⟩ := hsE)
  repeat' first
    | with_reducible refine Br.yes ?_
    | with_reducible refine Br.no ?_
    | with_reducible refine Br.dec (fun _ => ?_) (fun _ => ?_)
    | with_reducible refine Br.beqB (fun _ => ?_) (fun _ => ?_)
    | with_reducible refine Br.beqb (fun _ => ?_) (fun _ => ?_)
    | with_reducible refine Br.mk (fun _ => ?_) (fun _ => ?_)
    | with_reducible refine foundO.mk (fun _ _ => ?_) (fun _ => ?_)
    | with_reducible refine appV.zero ?_
    | with_reducible refine appV.own ?_
    | ((with_reducible refine NewB.mk fun nb hnb => ?_); have hnb1 := hnb.1.1; have hnb2 := hnb.1.2; try simp only [keys_cons, keys_app, keys_nil, NotIn_cons, NotIn_app, NotIn_nil, and_true] at hnb2)
    | ((with_reducible refine NewRow.mk fun nb nsp ncap hnb hncap => ?_); have hnb1 := hnb.1.1; have hnb2 := hnb.1.2; try simp only [keys_cons, keys_app, keys_nil, NotIn_cons, NotIn_app, NotIn_nil, and_true] at hnb2)
    | simp (dsimp := false) (implicitDefEqProofs := false) (disch := first | assumption | (simp only [List.mem_cons, List.mem_append, true_or, or_true, eq_self]; done) | omega | (with_reducible refine Row.adr (by assumption) ?_; simp only [List.length_map, List.length_take, List.length_drop]; omega) | (simp only [List.length_cons, List.length_nil, List.length_map, List.length_append, List.length_replicate, Nat.reduceAdd, true_and, and_true, and_self]; first | done | omega)) only [go_sem, ↓reduceIte, Nat.reduceEqDiff, Nat.reduceAdd, Nat.reduceSub, Nat.reduceMul, Nat.reduceBEq, Nat.reduceLT, Nat.reduceLeDiff, Nat.reduceMod, Nat.reducePow, List.reduceReplicate, UInt8.reduceOfNat, Int.reducePow, Int.reduceDiv, Int.reduceMod, Nat.reduceDiv, Int.reduceNeg, Int.reduceAdd, Int.reduceSub, Int.reduceMul, Int.reduceLE, Int.reduceLT, Int.reduceEq, Int.reduceToNat, reduceCtorEq, -List.reduceReplicate, List.toList_toArray, hCl, hCa]
  refine lnames_t hsm hu1 hu2 (O.is.mono hle3) hsl3 fun G5 v5 hle5 hs5 hI5 => ?_
  obtain ⟨C5, an5, al5, ay5, cn5, cl5, cs5, rs5, rfl, O5⟩ := hI5.opened
  have hC5l := O5.len
  have hone5 := wdf_one O5.is
  have hput5 := wdf_put hC5l
  have htk5 : List.take 260 C5 = C5 := List.take_of_length_le (by omega)
  have hsE := hs5
  try simp only [keys_cons, keys_app, keys_nil, Sep_cons, Sep_nil, NotIn_cons, NotIn_app, NotIn_nil, List.cons_append, List.nil_append, List.append_assoc, and_assoc, and_true, true_and] at hsE
  repeat (obtain ⟨hsx, hsE⟩ := hsE)
  repeat' first
    | with_reducible refine Br.yes ?_
    | with_reducible refine Br.no ?_
    | with_reducible refine Br.dec (fun _ => ?_) (fun _ => ?_)
    | with_reducible refine Br.beqB (fun _ => ?_) (fun _ => ?_)
    | with_reducible refine Br.beqb (fun _ => ?_) (fun _ => ?_)
    | with_reducible refine Br.mk (fun _ => ?_) (fun _ => ?_)
    | with_reducible refine foundO.mk (fun _ _ => ?_) (fun _ => ?_)
    | with_reducible refine appV.zero ?_
    | with_reducible refine appV.own ?_
    | ((with_reducible refine NewB.mk fun nb hnb => ?_); have hnb1 := hnb.1.1; have hnb2 := hnb.1.2; try simp only [keys_cons, keys_app, keys_nil, NotIn_cons, NotIn_app, NotIn_nil, and_true] at hnb2)
    | ((with_reducible refine NewRow.mk fun nb nsp ncap hnb hncap => ?_); have hnb1 := hnb.1.1; have hnb2 := hnb.1.2; try simp only [keys_cons, keys_app, keys_nil, NotIn_cons, NotIn_app, NotIn_nil, and_true] at hnb2)
    | simp (dsimp := false) (implicitDefEqProofs := false) (disch := first | assumption | (simp only [List.mem_cons, List.mem_append, true_or, or_true, eq_self]; done) | omega | (with_reducible refine Row.adr (by assumption) ?_; simp only [List.length_map, List.length_take, List.length_drop]; omega) | (simp only [List.length_cons, List.length_nil, List.length_map, List.length_append, List.length_replicate, Nat.reduceAdd, true_and, and_true, and_self]; first | done | omega)) only [go_sem, ↓reduceIte, Nat.reduceEqDiff, Nat.reduceAdd, Nat.reduceSub, Nat.reduceMul, Nat.reduceBEq, Nat.reduceLT, Nat.reduceLeDiff, Nat.reduceMod, Nat.reducePow, List.reduceReplicate, UInt8.reduceOfNat, Int.reducePow, Int.reduceDiv, Int.reduceMod, Nat.reduceDiv, Int.reduceNeg, Int.reduceAdd, Int.reduceSub, Int.reduceMul, Int.reduceLE, Int.reduceLT, Int.reduceEq, Int.reduceToNat, reduceCtorEq, -List.reduceReplicate, List.toList_toArray, hC5l, hone5, hput5, htk5, zeroC_len]
  unfold UpdR
  refine Upd.leave (H' := H) (by intro fsum; first | exact Nat.le_refl _ | (simp only [List.map_append, List.map_cons, List.map_nil, List.sum_append, List.sum_cons, List.sum_nil, List.cons_append, List.nil_append]; omega)) ?_
  exact fun _ hs => hR G5 _ (hle3.trans hle5) hs O5.is
def onlyG (name : Tx) (s : Tx) : Int := if s = name then 1 else 0
def onlyN1 (d : DfaT) (name : Tx) : DfaT := withD d [name] (onlyG name)
/-- a machine that tells one name alone, or why not -/
noncomputable def onlyR (d : DfaT) (name : Tx) : DfaT × Int :=
  if boolOf (RightP d) = true then if nameB name = true then (onlyN1 d name, 0) else (zeroD, 1) else (zeroD, 6)
theorem onlyR_bad {d : DfaT} {name : Tx} (h : ¬ RightP d) : onlyR d name = (zeroD, 6) := by unfold onlyR; rw [if_neg (by rw [boolOf_no h]; decide)]
theorem onlyR_not {d : DfaT} {name : Tx} (h : RightP d) (h2 : nameB name = false) : onlyR d name = (zeroD, 1) := by unfold onlyR; rw [if_pos (boolOf_yes h), if_neg (by rw [h2]; decide)]
theorem onlyR_ok {d : DfaT} {name : Tx} (h : RightP d) (h2 : nameB name = true) : onlyR d name = (onlyN1 d name, 0) := by unfold onlyR; rw [if_pos (boolOf_yes h), if_pos h2]
theorem calleeWith : V.Callee Try.prog 30 := ⟨_, _, Try.func30, rfl, by kernel_rfl⟩
theorem only1_t {name : Tx} {bx : Nat} {s : Tx} {G : PHeap} {H : Heap} {R : Value → PHeap → Heap → Prop} (hR : R (.int .i64 (onlyG name s)) G ((bx, .cells [str name] [] 9) :: H)) :
    FnT Try.prog 37 [str s, .pointer (some ⟨bx, 0, none⟩)] G ((bx, .cells [str name] [] 9) :: H) R := by
  refine FnT.upd ?_
  by_cases h : s = name
  · have e : onlyG name s = 1 := by unfold onlyG; rw [if_pos h]
    rw [e] at hR
    subst h
    refine FnT.body tok [0, 1, 3, 6] Try.func37 rfl (by kernel_rfl) (by kernel_rfl) (by show _ ≤ 7; simp) fun hsep => ?_
    rw [Try.results37]
    have hsE := hsep
    try simp only [keys_cons, keys_app, keys_nil, Sep_cons, Sep_nil, NotIn_cons, NotIn_app, NotIn_nil, List.cons_append, List.nil_append, List.append_assoc, and_assoc, and_true, true_and] at hsE
    repeat (obtain ⟨hsx, hsE⟩ := hsE)
    repeat' first
      | with_reducible refine Br.yes ?_
      | with_reducible refine Br.no ?_
      | with_reducible refine Br.dec (fun _ => ?_) (fun _ => ?_)
      | with_reducible refine Br.beqB (fun _ => ?_) (fun _ => ?_)
      | with_reducible refine Br.beqb (fun _ => ?_) (fun _ => ?_)
      | with_reducible refine Br.mk (fun _ => ?_) (fun _ => ?_)
      | with_reducible refine foundO.mk (fun _ _ => ?_) (fun _ => ?_)
      | with_reducible refine appV.zero ?_
      | with_reducible refine appV.own ?_
      | ((with_reducible refine NewB.mk fun nb hnb => ?_); have hnb1 := hnb.1.1; have hnb2 := hnb.1.2; try simp only [keys_cons, keys_app, keys_nil, NotIn_cons, NotIn_app, NotIn_nil, and_true] at hnb2)
      | ((with_reducible refine NewRow.mk fun nb nsp ncap hnb hncap => ?_); have hnb1 := hnb.1.1; have hnb2 := hnb.1.2; try simp only [keys_cons, keys_app, keys_nil, NotIn_cons, NotIn_app, NotIn_nil, and_true] at hnb2)
      | simp (dsimp := false) (implicitDefEqProofs := false) (disch := first | assumption | (simp only [List.mem_cons, List.mem_append, true_or, or_true, eq_self]; done) | omega | (with_reducible refine Row.adr (by assumption) ?_; simp only [List.length_map, List.length_take, List.length_drop]; omega) | (simp only [List.length_cons, List.length_nil, List.length_map, List.length_append, List.length_replicate, Nat.reduceAdd, true_and, and_true, and_self]; first | done | omega)) only [go_sem, ↓reduceIte, Nat.reduceEqDiff, Nat.reduceAdd, Nat.reduceSub, Nat.reduceMul, Nat.reduceBEq, Nat.reduceLT, Nat.reduceLeDiff, Nat.reduceMod, Nat.reducePow, List.reduceReplicate, UInt8.reduceOfNat, Int.reducePow, Int.reduceDiv, Int.reduceMod, Nat.reduceDiv, Int.reduceNeg, Int.reduceAdd, Int.reduceSub, Int.reduceMul, Int.reduceLE, Int.reduceLT, Int.reduceEq, Int.reduceToNat, reduceCtorEq]
    · all_goals refine Upd.finL ?_ (Upd.now hR) ?_
      any_goals (intro fsum; first | exact Nat.le_refl _ | (simp only [List.map_append, List.map_cons, List.map_nil, List.sum_append, List.sum_cons, List.sum_nil, List.cons_append, List.nil_append]; omega))
      all_goals rfl
    · rename_i h; exact absurd rfl h
  · have e : onlyG name s = 0 := by unfold onlyG; rw [if_neg h]
    rw [e] at hR
    refine FnT.body tok [0, 1, 3, 6] Try.func37 rfl (by kernel_rfl) (by kernel_rfl) (by show _ ≤ 7; simp) fun hsep => ?_
    rw [Try.results37]
    have hsE := hsep
    try simp only [keys_cons, keys_app, keys_nil, Sep_cons, Sep_nil, NotIn_cons, NotIn_app, NotIn_nil, List.cons_append, List.nil_append, List.append_assoc, and_assoc, and_true, true_and] at hsE
    repeat (obtain ⟨hsx, hsE⟩ := hsE)
    repeat' first
      | with_reducible refine Br.yes ?_
      | with_reducible refine Br.no ?_
      | with_reducible refine Br.dec (fun _ => ?_) (fun _ => ?_)
      | with_reducible refine Br.beqB (fun _ => ?_) (fun _ => ?_)
      | with_reducible refine Br.beqb (fun _ => ?_) (fun _ => ?_)
      | with_reducible refine Br.mk (fun _ => ?_) (fun _ => ?_)
      | with_reducible refine foundO.mk (fun _ _ => ?_) (fun _ => ?_)
      | with_reducible refine appV.zero ?_
      | with_reducible refine appV.own ?_
      | ((with_reducible refine NewB.mk fun nb hnb => ?_); have hnb1 := hnb.1.1; have hnb2 := hnb.1.2; try simp only [keys_cons, keys_app, keys_nil, NotIn_cons, NotIn_app, NotIn_nil, and_true] at hnb2)
      | ((with_reducible refine NewRow.mk fun nb nsp ncap hnb hncap => ?_); have hnb1 := hnb.1.1; have hnb2 := hnb.1.2; try simp only [keys_cons, keys_app, keys_nil, NotIn_cons, NotIn_app, NotIn_nil, and_true] at hnb2)
      | simp (dsimp := false) (implicitDefEqProofs := false) (disch := first | assumption | (simp only [List.mem_cons, List.mem_append, true_or, or_true, eq_self]; done) | omega | (with_reducible refine Row.adr (by assumption) ?_; simp only [List.length_map, List.length_take, List.length_drop]; omega) | (simp only [List.length_cons, List.length_nil, List.length_map, List.length_append, List.length_replicate, Nat.reduceAdd, true_and, and_true, and_self]; first | done | omega)) only [go_sem, ↓reduceIte, Nat.reduceEqDiff, Nat.reduceAdd, Nat.reduceSub, Nat.reduceMul, Nat.reduceBEq, Nat.reduceLT, Nat.reduceLeDiff, Nat.reduceMod, Nat.reducePow, List.reduceReplicate, UInt8.reduceOfNat, Int.reducePow, Int.reduceDiv, Int.reduceMod, Nat.reduceDiv, Int.reduceNeg, Int.reduceAdd, Int.reduceSub, Int.reduceMul, Int.reduceLE, Int.reduceLT, Int.reduceEq, Int.reduceToNat, reduceCtorEq]
    · rename_i h2; exact absurd h2 h
    · all_goals refine Upd.finL ?_ (Upd.now hR) ?_
      any_goals (intro fsum; first | exact Nat.le_refl _ | (simp only [List.map_append, List.map_cons, List.map_nil, List.sum_append, List.sum_cons, List.sum_nil, List.cons_append, List.nil_append]; omega))
      all_goals rfl
set_option maxHeartbeats 16000000 in
theorem lonly_t {d : DfaT} (hsm : SmallD d) {name : Tx} (hn : name.length ≤ 2000000) {G : PHeap} {H : Heap} {R : Value → PHeap → Heap → Prop} {v : Value} (hv : IsD G d v)
    (hR : ∀ G' v', PLe G G' → Sep G' (keys H) → IsD G' (onlyR d name).1 v' → R (.tuple #[v', .int .i64 (onlyR d name).2]) G' H) : FnT Try.prog 18 [v, str name] G H R := by
  obtain ⟨C, an, al, ay, cn, cl, cs, rs, rfl, O⟩ := hv.opened
  have hCl := O.len
  have hCa := O.all
  have hr1 : ∀ x : Value, List.replicate 1 x = [x] := fun _ => rfl
  refine FnT.sep ?_
  by_cases hok : RightP d
  · have hb := boolOf_yes hok
    cases hf : nameB name with
    | true =>
      rw [onlyR_ok hok hf] at hR
      refine FnT.body tok [0, 1, 2, 3, 4, 5, 6, 7, 12] Try.func18 rfl (by kernel_rfl) (by kernel_rfl) (by show _ ≤ 23; simp) fun hsep => ?_
      rw [Try.results18]
      have hsE := hsep
      try simp only [keys_cons, keys_app, keys_nil, Sep_cons, Sep_nil, NotIn_cons, NotIn_app, NotIn_nil, List.cons_append, List.nil_append, List.append_assoc, and_assoc, and_true, true_and] at hsE
      repeat (obtain ⟨hsx, hsE⟩ := hsE)
      repeat' first
        | with_reducible refine Br.yes ?_
        | with_reducible refine Br.no ?_
        | with_reducible refine Br.dec (fun _ => ?_) (fun _ => ?_)
        | with_reducible refine Br.beqB (fun _ => ?_) (fun _ => ?_)
        | with_reducible refine Br.beqb (fun _ => ?_) (fun _ => ?_)
        | with_reducible refine Br.mk (fun _ => ?_) (fun _ => ?_)
        | with_reducible refine foundO.mk (fun _ _ => ?_) (fun _ => ?_)
        | with_reducible refine appV.zero ?_
        | with_reducible refine appV.own ?_
        | ((with_reducible refine NewB.mk fun nb hnb => ?_); have hnb1 := hnb.1.1; have hnb2 := hnb.1.2; try simp only [keys_cons, keys_app, keys_nil, NotIn_cons, NotIn_app, NotIn_nil, and_true] at hnb2)
        | ((with_reducible refine NewRow.mk fun nb nsp ncap hnb hncap => ?_); have hnb1 := hnb.1.1; have hnb2 := hnb.1.2; try simp only [keys_cons, keys_app, keys_nil, NotIn_cons, NotIn_app, NotIn_nil, and_true] at hnb2)
        | simp (dsimp := false) (implicitDefEqProofs := false) (disch := first | assumption | (simp only [List.mem_cons, List.mem_append, true_or, or_true, eq_self]; done) | omega | (with_reducible refine Row.adr (by assumption) ?_; simp only [List.length_map, List.length_take, List.length_drop]; omega) | (simp only [List.length_cons, List.length_nil, List.length_map, List.length_append, List.length_replicate, Nat.reduceAdd, true_and, and_true, and_self]; first | done | omega)) only [go_sem, ↓reduceIte, Nat.reduceEqDiff, Nat.reduceAdd, Nat.reduceSub, Nat.reduceMul, Nat.reduceBEq, Nat.reduceLT, Nat.reduceLeDiff, Nat.reduceMod, Nat.reducePow, List.reduceReplicate, UInt8.reduceOfNat, Int.reducePow, Int.reduceDiv, Int.reduceMod, Nat.reduceDiv, Int.reduceNeg, Int.reduceAdd, Int.reduceSub, Int.reduceMul, Int.reduceLE, Int.reduceLT, Int.reduceEq, Int.reduceToNat, reduceCtorEq, -List.reduceReplicate, List.toList_toArray, hCl, hCa, zeroC_len, zeroC_one, zeroC_take, zeroC_put, hb, hf, hr1]
        | with_reducible refine right_t hsm O.is ?_
        | with_reducible refine name_t name hn ?_
      rename_i b2 h20 h21 h22 b3 h30 h31 h32 b4 h40 h41 h42
      obtain ⟨b5, e0⟩ : ∃ x, x = nb := ⟨_, rfl⟩
      subst e0
      refine FnT.pre calleeWith (Upd.go (H' := (b5, .cells [str name] [] 9) :: (b3, .cells [str name] [] 9) :: (b4, .cells (List.replicate 256 (Value.int .u8 0) ++ [Value.int .i64 0, Value.slice none 0 0, Value.slice none 0 0, Value.slice none 0 0]) [] 27) :: (b2, .cells C [] 27) :: H) (by intro fsum; first | exact Nat.le_refl _ | (simp only [List.map_append, List.map_cons, List.map_nil, List.sum_append, List.sum_cons, List.sum_nil, List.cons_append, List.nil_append]; omega)) (Upd.shareRow (by assumption) fun G3 hle3 hs3 hr3 => ?_))
      refine withS_t hsm hok (names := [name]) (by show 1 ≤ _; omega) (O.is.mono hle3) ⟨_, 1, rfl, hr3, Nat.le_refl 1⟩ (g := onlyG name) (fun s G1 H1 R1 hle hs hR1 => only1_t hR1) fun G5 v5 hle5 hs5 hI5 => ?_
      obtain ⟨C5, an5, al5, ay5, cn5, cl5, cs5, rs5, rfl, O5⟩ := hI5.opened
      have hC5l := O5.len
      have hone5 := wdf_one O5.is
      have hput5 := wdf_put hC5l
      have htk5 : List.take 260 C5 = C5 := List.take_of_length_le (by omega)
      have hsE := hs5
      try simp only [keys_cons, keys_app, keys_nil, Sep_cons, Sep_nil, NotIn_cons, NotIn_app, NotIn_nil, List.cons_append, List.nil_append, List.append_assoc, and_assoc, and_true, true_and] at hsE
      repeat (obtain ⟨hsx, hsE⟩ := hsE)
      repeat' first
        | with_reducible refine Br.yes ?_
        | with_reducible refine Br.no ?_
        | with_reducible refine Br.dec (fun _ => ?_) (fun _ => ?_)
        | with_reducible refine Br.beqB (fun _ => ?_) (fun _ => ?_)
        | with_reducible refine Br.beqb (fun _ => ?_) (fun _ => ?_)
        | with_reducible refine Br.mk (fun _ => ?_) (fun _ => ?_)
        | with_reducible refine foundO.mk (fun _ _ => ?_) (fun _ => ?_)
        | with_reducible refine appV.zero ?_
        | with_reducible refine appV.own ?_
        | ((with_reducible refine NewB.mk fun nb hnb => ?_); have hnb1 := hnb.1.1; have hnb2 := hnb.1.2; try simp only [keys_cons, keys_app, keys_nil, NotIn_cons, NotIn_app, NotIn_nil, and_true] at hnb2)
        | ((with_reducible refine NewRow.mk fun nb nsp ncap hnb hncap => ?_); have hnb1 := hnb.1.1; have hnb2 := hnb.1.2; try simp only [keys_cons, keys_app, keys_nil, NotIn_cons, NotIn_app, NotIn_nil, and_true] at hnb2)
        | simp (dsimp := false) (implicitDefEqProofs := false) (disch := first | assumption | (simp only [List.mem_cons, List.mem_append, true_or, or_true, eq_self]; done) | omega | (with_reducible refine Row.adr (by assumption) ?_; simp only [List.length_map, List.length_take, List.length_drop]; omega) | (simp only [List.length_cons, List.length_nil, List.length_map, List.length_append, List.length_replicate, Nat.reduceAdd, true_and, and_true, and_self]; first | done | omega)) only [go_sem, ↓reduceIte, Nat.reduceEqDiff, Nat.reduceAdd, Nat.reduceSub, Nat.reduceMul, Nat.reduceBEq, Nat.reduceLT, Nat.reduceLeDiff, Nat.reduceMod, Nat.reducePow, List.reduceReplicate, UInt8.reduceOfNat, Int.reducePow, Int.reduceDiv, Int.reduceMod, Nat.reduceDiv, Int.reduceNeg, Int.reduceAdd, Int.reduceSub, Int.reduceMul, Int.reduceLE, Int.reduceLT, Int.reduceEq, Int.reduceToNat, reduceCtorEq, -List.reduceReplicate, List.toList_toArray, hC5l, hone5, hput5, htk5, zeroC_len]
      unfold UpdR
      refine Upd.leave (H' := H) (by intro fsum; first | exact Nat.le_refl _ | (simp only [List.map_append, List.map_cons, List.map_nil, List.sum_append, List.sum_cons, List.sum_nil, List.cons_append, List.nil_append]; omega)) ?_
      exact fun _ hs => hR G5 _ (hle3.trans hle5) hs O5.is
    | false =>
      rw [onlyR_not hok hf] at hR
      refine FnT.body tok [0, 1, 2, 3, 4, 5, 6, 7, 12] Try.func18 rfl (by kernel_rfl) (by kernel_rfl) (by show _ ≤ 23; simp) fun hsep => ?_
      rw [Try.results18]
      have hsE := hsep
      try simp only [keys_cons, keys_app, keys_nil, Sep_cons, Sep_nil, NotIn_cons, NotIn_app, NotIn_nil, List.cons_append, List.nil_append, List.append_assoc, and_assoc, and_true, true_and] at hsE
      repeat (obtain ⟨hsx, hsE⟩ := hsE)
      repeat' first
        | with_reducible refine Br.yes ?_
        | with_reducible refine Br.no ?_
        | with_reducible refine Br.dec (fun _ => ?_) (fun _ => ?_)
        | with_reducible refine Br.beqB (fun _ => ?_) (fun _ => ?_)
        | with_reducible refine Br.beqb (fun _ => ?_) (fun _ => ?_)
        | with_reducible refine Br.mk (fun _ => ?_) (fun _ => ?_)
        | with_reducible refine foundO.mk (fun _ _ => ?_) (fun _ => ?_)
        | with_reducible refine appV.zero ?_
        | with_reducible refine appV.own ?_
        | ((with_reducible refine NewB.mk fun nb hnb => ?_); have hnb1 := hnb.1.1; have hnb2 := hnb.1.2; try simp only [keys_cons, keys_app, keys_nil, NotIn_cons, NotIn_app, NotIn_nil, and_true] at hnb2)
        | ((with_reducible refine NewRow.mk fun nb nsp ncap hnb hncap => ?_); have hnb1 := hnb.1.1; have hnb2 := hnb.1.2; try simp only [keys_cons, keys_app, keys_nil, NotIn_cons, NotIn_app, NotIn_nil, and_true] at hnb2)
        | simp (dsimp := false) (implicitDefEqProofs := false) (disch := first | assumption | (simp only [List.mem_cons, List.mem_append, true_or, or_true, eq_self]; done) | omega | (with_reducible refine Row.adr (by assumption) ?_; simp only [List.length_map, List.length_take, List.length_drop]; omega) | (simp only [List.length_cons, List.length_nil, List.length_map, List.length_append, List.length_replicate, Nat.reduceAdd, true_and, and_true, and_self]; first | done | omega)) only [go_sem, ↓reduceIte, Nat.reduceEqDiff, Nat.reduceAdd, Nat.reduceSub, Nat.reduceMul, Nat.reduceBEq, Nat.reduceLT, Nat.reduceLeDiff, Nat.reduceMod, Nat.reducePow, List.reduceReplicate, UInt8.reduceOfNat, Int.reducePow, Int.reduceDiv, Int.reduceMod, Nat.reduceDiv, Int.reduceNeg, Int.reduceAdd, Int.reduceSub, Int.reduceMul, Int.reduceLE, Int.reduceLT, Int.reduceEq, Int.reduceToNat, reduceCtorEq, -List.reduceReplicate, List.toList_toArray, hCl, hCa, zeroC_len, zeroC_one, zeroC_take, zeroC_put, hb, hf]
        | with_reducible refine right_t hsm O.is ?_
        | with_reducible refine name_t name hn ?_
      unfold UpdR
      refine Upd.leave (H' := H) (by intro fsum; first | exact Nat.le_refl _ | (simp only [List.map_append, List.map_cons, List.map_nil, List.sum_append, List.sum_cons, List.sum_nil, List.cons_append, List.nil_append]; omega)) ?_
      exact fun _ hs => hR G _ (PLe.refl _) hs (zeroD_is _)
  · have hb := boolOf_no hok
    rw [onlyR_bad hok] at hR
    refine FnT.body tok [0, 1, 2, 3, 4, 5, 6, 7, 12] Try.func18 rfl (by kernel_rfl) (by kernel_rfl) (by show _ ≤ 23; simp) fun hsep => ?_
    rw [Try.results18]
    have hsE := hsep
    try simp only [keys_cons, keys_app, keys_nil, Sep_cons, Sep_nil, NotIn_cons, NotIn_app, NotIn_nil, List.cons_append, List.nil_append, List.append_assoc, and_assoc, and_true, true_and] at hsE
    repeat (obtain ⟨hsx, hsE⟩ := hsE)
    repeat' first
      | with_reducible refine Br.yes ?_
      | with_reducible refine Br.no ?_
      | with_reducible refine Br.dec (fun _ => ?_) (fun _ => ?_)
      | with_reducible refine Br.beqB (fun _ => ?_) (fun _ => ?_)
      | with_reducible refine Br.beqb (fun _ => ?_) (fun _ => ?_)
      | with_reducible refine Br.mk (fun _ => ?_) (fun _ => ?_)
      | with_reducible refine foundO.mk (fun _ _ => ?_) (fun _ => ?_)
      | with_reducible refine appV.zero ?_
      | with_reducible refine appV.own ?_
      | ((with_reducible refine NewB.mk fun nb hnb => ?_); have hnb1 := hnb.1.1; have hnb2 := hnb.1.2; try simp only [keys_cons, keys_app, keys_nil, NotIn_cons, NotIn_app, NotIn_nil, and_true] at hnb2)
      | ((with_reducible refine NewRow.mk fun nb nsp ncap hnb hncap => ?_); have hnb1 := hnb.1.1; have hnb2 := hnb.1.2; try simp only [keys_cons, keys_app, keys_nil, NotIn_cons, NotIn_app, NotIn_nil, and_true] at hnb2)
      | simp (dsimp := false) (implicitDefEqProofs := false) (disch := first | assumption | (simp only [List.mem_cons, List.mem_append, true_or, or_true, eq_self]; done) | omega | (with_reducible refine Row.adr (by assumption) ?_; simp only [List.length_map, List.length_take, List.length_drop]; omega) | (simp only [List.length_cons, List.length_nil, List.length_map, List.length_append, List.length_replicate, Nat.reduceAdd, true_and, and_true, and_self]; first | done | omega)) only [go_sem, ↓reduceIte, Nat.reduceEqDiff, Nat.reduceAdd, Nat.reduceSub, Nat.reduceMul, Nat.reduceBEq, Nat.reduceLT, Nat.reduceLeDiff, Nat.reduceMod, Nat.reducePow, List.reduceReplicate, UInt8.reduceOfNat, Int.reducePow, Int.reduceDiv, Int.reduceMod, Nat.reduceDiv, Int.reduceNeg, Int.reduceAdd, Int.reduceSub, Int.reduceMul, Int.reduceLE, Int.reduceLT, Int.reduceEq, Int.reduceToNat, reduceCtorEq, -List.reduceReplicate, List.toList_toArray, hCl, hCa, zeroC_len, zeroC_one, zeroC_take, zeroC_put, hb]
      | with_reducible refine right_t hsm O.is ?_
    unfold UpdR
    refine Upd.leave (H' := H) (by intro fsum; first | exact Nat.le_refl _ | (simp only [List.map_append, List.map_cons, List.map_nil, List.sum_append, List.sum_cons, List.sum_nil, List.cons_append, List.nil_append]; omega)) ?_
    exact fun _ hs => hR G _ (PLe.refl _) hs (zeroD_is _)
end Go.Proofs.Ytpagkndgjihbbaa
