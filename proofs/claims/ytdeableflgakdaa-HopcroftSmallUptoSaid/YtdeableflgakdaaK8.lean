/- A part of the proof, joined of several texts: the verification layer, contracts of functions, plain law. -/
import Derived.Test.YtdeableflgakdaaK7
set_option maxHeartbeats 64000000
set_option linter.unusedSimpArgs false
set_option linter.unusedVariables false
set_option linter.unusedSectionVars false
namespace Go.Proofs.Ytdeableflgakdaa
open Go Go.V Go.Proofs
section
variable {α β : Type} [DecidableEq α]
theorem aget_aput (k : α) (v : β) : ∀ l : List (α × β), aget k (aput k v l) = some v
 | [] => by simp [aput, aget]
 | e :: l => by
  unfold aput
  by_cases h : k = e.1
  ·rw [if_pos h]; simp [aget]
  ·rw [if_neg h]; unfold aget; rw [if_neg h]; exact aget_aput k v l
theorem aget_aput_ne {k k' : α} (v : β) (h : k' ≠ k) : ∀ l : List (α × β), aget k' (aput k v l) = aget k' l
 | [] => by simp [aput, aget, h]
 | e :: l => by
  unfold aput
  by_cases h1 : k = e.1
  ·rw [if_pos h1]
   unfold aget
   rw [if_neg h, if_neg (by rw [← h1]; exact h)]
  ·rw [if_neg h1]
   unfold aget
   split
   ·rfl
   ·exact aget_aput_ne v h l
end
def AskI (am : List ((Int × Int) × Int)) (ws : List (Nat × Nat)) : Prop := ∀ b k : Nat, ((b, k) ∈ ws → aget ((b : Int), (k : Int)) am = some 1) ∧ ((b, k) ∉ ws → aget ((b : Int), (k : Int)) am = none ∨ aget ((b : Int), (k : Int)) am = some 0)
theorem AskI.nil : AskI [] [] := fun b k => ⟨(fun h => by cases h), fun _ => .inl rfl⟩
theorem AskI.put {am : List ((Int × Int) × Int)} {ws : List (Nat × Nat)} (h : AskI am ws) (b k : Nat) : AskI (aput ((b : Int), (k : Int)) 1 am) (ws ++ [(b, k)]) := fun b' k' => by
 by_cases e : ((b' : Int), (k' : Int)) = ((b : Int), (k : Int))
 ·rw [Prod.mk.injEq] at e
  obtain ⟨e1, e2⟩ := e
  obtain rfl : b' = b := by omega
  obtain rfl : k' = k := by omega
  exact ⟨fun _ => aget_aput _ _ _, fun hn => absurd (List.mem_append_right _ (List.mem_singleton.2 rfl)) hn⟩
 ·have e' : (b', k') ≠ (b, k) := fun h => e (by rw [Prod.mk.injEq] at h; rw [h.1, h.2])
  rw [aget_aput_ne _ e]
  refine ⟨fun hm => ?_, fun hm => ?_⟩
  ·rcases List.mem_append.1 hm with hm | hm
   ·exact (h b' k').1 hm
   ·exact absurd (List.mem_singleton.1 hm) e'
  ·exact (h b' k').2 fun h2 => hm (List.mem_append_left _ h2)
theorem AskI.take {am : List ((Int × Int) × Int)} {ws : List (Nat × Nat)} {b k : Nat} (h : AskI am (ws ++ [(b, k)])) (hnd : (ws ++ [(b, k)]).Nodup) : AskI (aput ((b : Int), (k : Int)) 0 am) ws := fun b' k' => by
 have hni : (b, k) ∉ ws := fun hm => (List.nodup_append.1 hnd).2.2 _ hm _ (List.mem_singleton.2 rfl) rfl
 by_cases e : ((b' : Int), (k' : Int)) = ((b : Int), (k : Int))
 ·rw [Prod.mk.injEq] at e
  obtain ⟨e1, e2⟩ := e
  obtain rfl : b' = b := by omega
  obtain rfl : k' = k := by omega
  exact ⟨fun hm => absurd hm hni, fun _ => .inr (aget_aput _ _ _)⟩
 ·have e' : (b', k') ≠ (b, k) := fun h => e (by rw [Prod.mk.injEq] at h; rw [h.1, h.2])
  rw [aget_aput_ne _ e]
  refine ⟨fun hm => (h b' k').1 (List.mem_append_left _ hm), fun hm => (h b' k').2 fun h2 => ?_⟩
  rcases List.mem_append.1 h2 with h2 | h2
  ·exact hm h2
  ·exact e' (List.mem_singleton.1 h2)
def enc2n (p : Nat × Nat) : List Value := [.int .i64 (p.1 : Nat), .int .i64 (p.2 : Nat)]
theorem enc2n_len (ws : List (Nat × Nat)) : (ws.flatMap enc2n).length = ws.length * 2 := flatMap_len (m := 2) (fun _ => rfl) ws
theorem enc2n_snoc (ws : List (Nat × Nat)) (b k : Nat) : (ws ++ [(b, k)]).flatMap enc2n = ws.flatMap enc2n ++ [.int .i64 (b : Nat), .int .i64 (k : Nat)] := by rw [List.flatMap_append]; rfl
theorem enc2n_one (ws : List (Nat × Nat)) : (ws.flatMap enc2n).all oneV = true := by
 rw [List.all_flatMap]
 exact List.all_eq_true.2 fun i _ => rfl
theorem enc2n_last (ws : List (Nat × Nat)) (b k : Nat) (sp : List Value) : List.take 2 (List.drop (ws.length * 2) ((ws ++ [(b, k)]).flatMap enc2n ++ sp)) = [.int .i64 (b : Nat), .int .i64 (k : Nat)] := by
 rw [enc2n_snoc, List.append_assoc, List.drop_append_of_le_length (by rw [enc2n_len]; exact Nat.le_refl _), List.drop_of_length_le (by rw [enc2n_len]; exact Nat.le_refl _)]; rfl
def WtO (vw : Value) (ws : List (Nat × Nat)) (kw : Heap) : Prop := (∃ a, vw = .slice a 0 0 ∧ ws = [] ∧ kw = []) ∨ (∃ b cap sp, vw = .slice (some ⟨b, 0, none⟩) ws.length cap ∧ kw = [(b, .cells (ws.flatMap enc2n) sp 54)] ∧ ws.length * 2 + sp.length = cap * 2) ∨ ∃ b sp, vw = .slice (some ⟨b, 0, none⟩) ws.length ws.length ∧ kw = [(b, .cells (ws.flatMap enc2n) sp 54)]
theorem findV_w (f : Int → Value) (a b : Int) (l : List ((Int × Int) × Int)) : findV T 54 (.agg #[.int .i64 a, .int .i64 b]) (l.map fun p => (enc2 p.1, f p.2)) = some ((aget (a, b) l).map f) := findV_enc hep f (a, b) l
theorem putV_w (a b v : Int) (l : List ((Int × Int) × Int)) : putV T 54 (.agg #[.int .i64 a, .int .i64 b]) (.int .i64 v) (l.map fun p => (enc2 p.1, Value.int .i64 p.2)) = some ((aput (a, b) v l).map fun p => (enc2 p.1, Value.int .i64 p.2)) :=
 putV_enc hep (Value.int .i64) (a, b) v l
theorem keyOk_w (a b : Int) : keyOk T 54 (.agg #[.int .i64 a, .int .i64 b]) := keyOk_enc hep (a, b)
theorem ask_t {ws : List (Nat × Nat)} {am : List ((Int × Int) × Int)} (hw : ws.length ≤ 30000000) (hA : AskI am ws) {b k : Nat} {bp bm : Nat} {vs va vb vsp vk vw : Value} {W : Int} {kw : Heap} (hO : WtO vw ws kw) {G : PHeap} {H : Heap} {R : Value → PHeap → Heap → Prop}
  (hR : ∀ vw' am' kw', WtO vw' (askW ws (b, k)) kw' → AskI am' (askW ws (b, k)) → R (.tuple #[]) G ((bp, .cells (PC vs va vb vsp vk vw' (.map (some bm)) W) [] 52) :: (bm, .map (am'.map fun p => (enc2 p.1, Value.int .i64 p.2))) :: (kw' ++ H))) :
  FnT Try.prog 28 [.pointer (some ⟨bp, 0, none⟩), .int .i64 (b : Nat), .int .i64 (k : Nat)] G ((bp, .cells (PC vs va vb vsp vk vw (.map (some bm)) W) [] 52) :: (bm, .map (am.map fun p => (enc2 p.1, Value.int .i64 p.2))) :: (kw ++ H)) R := by
 have hr1 : ∀ x : Value, List.replicate 1 x = [x] := fun _ => rfl
 by_cases hm : (b, k) ∈ ws
 ·have hg := (hA b k).1 hm
  have hask : askW ws (b, k) = ws := by unfold askW; rw [if_pos hm]
  rw [hask] at hR
  have hR := hR vw am kw hO hA
  refine FnT.body tok [0, 1, 2, 14] Try.func28 rfl (by kernel_rfl) (by kernel_rfl) (by show _ ≤ 34; simp) fun hsep => ?_
  rw [Try.results28]
  have hsE := hsep
  try simp only [zzs] at hsE
  repeat (obtain ⟨hsx, hsE⟩ := hsE)
  repeat' first
   | (with_reducible first | refine Nx.go ?_ | refine Bk.go (fun _ => ?_) fun _ => ?_ | refine foundO.mk (fun _ _ => ?_) (fun _ => ?_))
   | ((with_reducible first | refine NewB.mk2 fun nb hnb hnb1 hnb2 => ?_ | refine NewRow.mk2 fun nb nsp ncap hnb hncap hnb1 hnb2 => ?_); try simp only [zzn] at hnb2)
   | simp -dsimp -implicitDefEqProofs (disch := first | assumption | (simp only [zzm]; done) | omega | (try with_reducible refine Row.adr (by assumption) ?_); simp only [zzl, Nat.reduceAdd]; first | done | omega) only [go_sem, ↓reduceIte, seval, findV_w (Value.int .i64), keyOk_w, hg, Option.map_some]
  exact Upd.now hR
 ·have hask : askW ws (b, k) = ws ++ [(b, k)] := by unfold askW; rw [if_neg hm]
  rw [hask] at hR
  have hA2 := hA.put b k
  have hg : ∀ K : Prop, (aget ((b : Int), (k : Int)) am = none → K) → (aget ((b : Int), (k : Int)) am = some 0 → K) → K := fun K h1 h2 => ((hA b k).2 hm).elim h1 h2
  rcases hO with ⟨aa, rfl, rfl, rfl⟩ | ⟨bw, cap, sp, rfl, rfl, hc⟩ | ⟨bw, sp, rfl, rfl⟩
  ·refine hg _ (fun hg => ?_) fun hg => ?_
   all_goals
    refine FnT.body tok [0, 1, 2, 14] Try.func28 rfl (by kernel_rfl) (by kernel_rfl) (by show _ ≤ 34; simp) fun hsep => ?_
    rw [Try.results28]
    have hsE := hsep
    try simp only [zzs] at hsE
    repeat (obtain ⟨hsx, hsE⟩ := hsE)
    repeat' first
     | (with_reducible first | refine Nx.go ?_ | refine Bk.go (fun _ => ?_) fun _ => ?_ | refine foundO.mk (fun _ _ => ?_) (fun _ => ?_))
     | ((with_reducible first | refine NewB.mk2 fun nb hnb hnb1 hnb2 => ?_ | refine NewRow.mk2 fun nb nsp ncap hnb hncap hnb1 hnb2 => ?_); try simp only [zzn] at hnb2)
     | simp -dsimp -implicitDefEqProofs (disch := first | assumption | (simp only [zzm]; done) | omega | (try with_reducible refine Row.adr (by assumption) ?_); simp only [zzl, Nat.reduceAdd]; first | done | omega) only [go_sem, ↓reduceIte, seval, -List.reduceReplicate, findV_w (Value.int .i64), putV_w, keyOk_w, hg, Option.map_some, Option.map_none, hr1]
    unfold UpdR
    refine Upd.leave (H' := (bp, .cells (PC vs va vb vsp vk (.slice (some ⟨nb, 0, none⟩) 1 ncap) (.map (some bm)) W) [] 52) :: (bm, .map ((aput ((b : Int), (k : Int)) 1 am).map fun p => (enc2 p.1, Value.int .i64 p.2))) :: ([(nb, .cells [.int .i64 (b : Nat), .int .i64 (k : Nat)] nsp 54)] ++ H)) (by intro fsum; simp only [zzq]; omega) ?_
    exact hR _ _ _ (.inr (.inl ⟨nb, ncap, nsp, rfl, rfl, by simp at hncap ⊢; omega⟩)) hA2
  ·have hl := enc2n_len ws
   have ho := enc2n_one ws
   refine hg _ (fun hg => ?_) fun hg => ?_
   all_goals
    refine FnT.body tok [0, 1, 2, 14] Try.func28 rfl (by kernel_rfl) (by kernel_rfl) (by show _ ≤ 34; simp) fun hsep => ?_
    rw [Try.results28]
    have hsE := hsep
    try simp only [zzs] at hsE
    repeat (obtain ⟨hsx, hsE⟩ := hsE)
    repeat' first
     | (with_reducible first | refine Nx.go ?_ | refine Bk.go (fun _ => ?_) fun _ => ?_ | refine foundO.mk (fun _ _ => ?_) (fun _ => ?_))
     | ((with_reducible first | refine NewB.mk2 fun nb hnb hnb1 hnb2 => ?_ | refine NewRow.mk2 fun nb nsp ncap hnb hncap hnb1 hnb2 => ?_); try simp only [zzn] at hnb2)
     | simp -dsimp -implicitDefEqProofs (disch := first | assumption | (simp only [zzm]; done) | omega | (try with_reducible refine Row.adr (by assumption) ?_); simp only [zzl, Nat.reduceAdd]; first | done | omega) only [go_sem, ↓reduceIte, seval, -List.reduceReplicate, findV_w (Value.int .i64), putV_w, keyOk_w, hg, Option.map_some, Option.map_none, hr1, hl, ho]
    unfold UpdR
    refine Upd.leave (H' := (bp, .cells (PC vs va vb vsp vk (.slice (some ⟨nb, 0, none⟩) (ws.length + 1) ncap) (.map (some bm)) W) [] 52) :: (bm, .map ((aput ((b : Int), (k : Int)) 1 am).map fun p => (enc2 p.1, Value.int .i64 p.2))) :: ([(nb, .cells (ws.flatMap enc2n ++ [.int .i64 (b : Nat), .int .i64 (k : Nat)]) nsp 54)] ++ H)) (by intro fsum; simp only [zzq]; omega) ?_
    exact hR _ _ _ (.inr (.inl ⟨nb, ncap, nsp, by simp, by rw [enc2n_snoc], by simp only [List.length_append, List.length_singleton]; omega⟩)) hA2
  ·have hl := enc2n_len ws
   have ho := enc2n_one ws
   refine hg _ (fun hg => ?_) fun hg => ?_
   all_goals
    refine FnT.body tok [0, 1, 2, 14] Try.func28 rfl (by kernel_rfl) (by kernel_rfl) (by show _ ≤ 34; simp) fun hsep => ?_
    rw [Try.results28]
    have hsE := hsep
    try simp only [zzs] at hsE
    repeat (obtain ⟨hsx, hsE⟩ := hsE)
    repeat' first
     | with_reducible refine Br.yes ?_
     | with_reducible refine Br.no ?_
     | with_reducible refine Br.dec (fun _ => ?_) (fun _ => ?_)
     | with_reducible refine Br.beqB (fun _ => ?_) (fun _ => ?_)
     | with_reducible refine Br.beqb (fun _ => ?_) (fun _ => ?_)
     | with_reducible refine Br.mk (fun _ => ?_) (fun _ => ?_)
     | with_reducible refine foundO.mk (fun _ _ => ?_) (fun _ => ?_)
     | with_reducible refine appV.zero ?_
     | ((with_reducible refine NewB.mk fun nb hnb => ?_); have hnb1 := hnb.1.1; have hnb2 := hnb.1.2; try simp only [keys_cons, keys_app, keys_nil, NotIn_cons, NotIn_app, NotIn_nil, and_true] at hnb2)
     | ((with_reducible refine NewRow.mk fun nb nsp ncap hnb hncap => ?_); have hnb1 := hnb.1.1; have hnb2 := hnb.1.2; try simp only [keys_cons, keys_app, keys_nil, NotIn_cons, NotIn_app, NotIn_nil, and_true] at hnb2)
     | simp -dsimp -implicitDefEqProofs (disch := first | assumption | (simp only [zzm]; done) | omega | (try with_reducible refine Row.adr (by assumption) ?_); simp only [zzl, Nat.reduceAdd]; first | done | omega) only [go_sem, ↓reduceIte, seval, -List.reduceReplicate, findV_w (Value.int .i64), putV_w, keyOk_w, hg, Option.map_some, Option.map_none, hr1, hl, ho]
     | with_reducible refine appV.tight ?_
    unfold UpdR
    refine Upd.leave (H' := (bp, .cells (PC vs va vb vsp vk (.slice (some ⟨nb, 0, none⟩) (ws.length + 1) ncap) (.map (some bm)) W) [] 52) :: (bm, .map ((aput ((b : Int), (k : Int)) 1 am).map fun p => (enc2 p.1, Value.int .i64 p.2))) :: ([(nb, .cells (ws.flatMap enc2n ++ [.int .i64 (b : Nat), .int .i64 (k : Nat)]) nsp 54)] ++ H)) (by intro fsum; simp only [zzq]; omega) ?_
    exact hR _ _ _ (.inr (.inl ⟨nb, ncap, nsp, by simp, by rw [enc2n_snoc], by simp only [List.length_append, List.length_singleton]; omega⟩)) hA2
theorem take_t {ws : List (Nat × Nat)} {b k : Nat} {am : List ((Int × Int) × Int)} (hw : ws.length ≤ 30000000) (hA : AskI am (ws ++ [(b, k)])) (hnd : (ws ++ [(b, k)]).Nodup) {bp bm : Nat} {vs va vb vsp vk vw : Value} {W : Int} {kw : Heap} (hO : WtO vw (ws ++ [(b, k)]) kw) {G : PHeap} {H : Heap} {R : Value → PHeap → Heap → Prop}
  (hR : ∀ vw' am' kw', WtO vw' ws kw' → AskI am' ws → R (.agg #[.int .i64 (b : Nat), .int .i64 (k : Nat)]) G ((bp, .cells (PC vs va vb vsp vk vw' (.map (some bm)) W) [] 52) :: (bm, .map (am'.map fun p => (enc2 p.1, Value.int .i64 p.2))) :: (kw' ++ H))) :
  FnT Try.prog 29 [.pointer (some ⟨bp, 0, none⟩)] G ((bp, .cells (PC vs va vb vsp vk vw (.map (some bm)) W) [] 52) :: (bm, .map (am.map fun p => (enc2 p.1, Value.int .i64 p.2))) :: (kw ++ H)) R := by
 have hA2 := hA.take hnd
 have hl := enc2n_len (ws ++ [(b, k)])
 have hwl : (ws ++ [(b, k)]).length = ws.length + 1 := by simp
 rw [hwl] at hl
 have key : ∃ bw cap sp, vw = .slice (some ⟨bw, 0, none⟩) (ws.length + 1) cap ∧ kw = [(bw, .cells ((ws ++ [(b, k)]).flatMap enc2n) sp 54)] ∧ ws.length + 1 ≤ cap := by
  rcases hO with ⟨aa, _, h, _⟩ | ⟨bw, cap, sp, rfl, rfl, hc⟩ | ⟨bw, sp, rfl, rfl⟩
  ·simp at h
  ·exact ⟨bw, cap, sp, by rw [hwl], rfl, by rw [hwl] at hc; omega⟩
  ·exact ⟨bw, _, sp, by rw [hwl], rfl, Nat.le_refl _⟩
 obtain ⟨bw, cap, sp, rfl, rfl, hcap⟩ := key
 have hla := enc2n_last ws b k sp
 have e1 : ((ws.length + 1 : Nat) : Int) - 1 = ((ws.length : Nat) : Int) := by omega
 refine FnT.body tok [0, 2, 3, 4] Try.func29 rfl (by kernel_rfl) (by kernel_rfl) (by show _ ≤ 34; simp) fun hsep => ?_
 rw [Try.results29]
 have hsE := hsep
 try simp only [zzs] at hsE
 repeat (obtain ⟨hsx, hsE⟩ := hsE)
 repeat' first
  | (with_reducible first | refine Nx.go ?_ | refine Bk.go (fun _ => ?_) fun _ => ?_)
  | (with_reducible refine NewB.mk2 fun nb hnb hnb1 hnb2 => ?_; try simp only [zzn] at hnb2)
  | simp -dsimp -implicitDefEqProofs (disch := first | assumption | (simp only [zzm]; done) | omega | (try with_reducible refine Row.adr (by assumption) ?_); simp only [zzl, Nat.reduceAdd]; first | done | omega) only [go_sem, ↓reduceIte, seval, putV_w, keyOk_w, hl, hla, e1, Nat.sub_zero, Option.isSome_some, true_and]
 rename_i bz y1 y2 y3
 repeat' first
  | (with_reducible first | refine Nx.go ?_ | refine Bk.go (fun _ => ?_) fun _ => ?_)
  | (with_reducible refine NewB.mk2 fun nb hnb hnb1 hnb2 => ?_; try simp only [zzn] at hnb2)
  | simp -dsimp -implicitDefEqProofs (disch := first | assumption | (simp only [zzm]; done) | omega | (try with_reducible refine Row.adr (by assumption) ?_); simp only [zzl, Nat.reduceAdd]; first | done | omega) only [go_sem, ↓reduceIte, seval, putV_w, keyOk_w, hl, hla, e1, Nat.sub_zero]
  | with_reducible refine Tri.drawS tok mixed [0, 2, 3, 4] 4 [3, 4] (.op 0 .plain (.op 1 .plain (.op 2 .plain (.op 3 .held (.op 4 .held (.op 5 .plain .nil)))))) (by kernel_rfl) [(bp, .cells (PC vs va vb vsp vk (.slice (some ⟨bw, 0, none⟩) ws.length ws.length) (.map (some bm)) W) [] 52), (nb, .cells [.int .i64 (b : Nat), .int .i64 (k : Nat)] [] 54)] (by intro fsum; first | exact Nat.le_refl _ | (simp only [zzq]; omega)) ?_
 unfold UpdR
 refine Upd.refind bw (ws.flatMap enc2n) ([.int .i64 (b : Nat), .int .i64 (k : Nat)] ++ sp) (xs := (ws ++ [(b, k)]).flatMap enc2n) (sp := sp) (e := 54) ?_ (by rw [enc2n_snoc, List.append_assoc]) ?_
 ·simp -dsimp -implicitDefEqProofs (disch := first | assumption | (simp only [zzm]; done) | omega | (try with_reducible refine Row.adr (by assumption) ?_); simp only [zzl, Nat.reduceAdd]; first | done | omega) only [go_sem, ↓reduceIte, seval]
 ·simp -dsimp -implicitDefEqProofs (disch := first | assumption | (simp only [zzm]; done) | omega | (try with_reducible refine Row.adr (by assumption) ?_); simp only [zzl, Nat.reduceAdd]; first | done | omega) only [go_sem, ↓reduceIte, seval]
  refine Upd.leave (H' := (bp, .cells (PC vs va vb vsp vk (.slice (some ⟨bw, 0, none⟩) ws.length ws.length) (.map (some bm)) W) [] 52) :: (bm, .map ((aput ((b : Int), (k : Int)) 0 am).map fun p => (enc2 p.1, Value.int .i64 p.2))) :: ([(bw, .cells (ws.flatMap enc2n) ([.int .i64 (b : Nat), .int .i64 (k : Nat)] ++ sp) 54)] ++ H)) (by intro fsum; simp only [zzq]; omega) ?_
  exact hR _ _ _ (.inr (.inr ⟨bw, _, rfl, rfl⟩)) hA2
theorem size_t {w b : Nat} (hb : b < w) (hw : w ≤ 70000) {fr to mk : Nat → Nat} (hbd : fr b ≤ to b ∧ to b ≤ 70000) {bp b4 bx csp : Nat} {spx : List Value} {vs va vb vk vw vm : Value} {W : Int} {G : PHeap} {H : Heap} {R : Value → PHeap → Heap → Prop}
  (hR : R (.int .i64 ((to b - fr b : Nat) : Int)) G ((b4, .cells [.pointer (some ⟨bp, 0, none⟩)] [] 45) :: (bp, .cells (PC vs va vb (.slice (some ⟨bx, 0, none⟩) w csp) vk vw vm W) [] 52) :: (bx, .cells (row3 w fr to mk) spx 75) :: H)) :
  FnT Try.prog 81 [.int .i64 (b : Nat), .pointer (some ⟨b4, 0, none⟩)] G ((b4, .cells [.pointer (some ⟨bp, 0, none⟩)] [] 45) :: (bp, .cells (PC vs va vb (.slice (some ⟨bx, 0, none⟩) w csp) vk vw vm W) [] 52) :: (bx, .cells (row3 w fr to mk) spx 75) :: H) R := by
 have g0 := row_g0 (fr := fr) (to := to) (mk := mk) (sp := spx) hb
 have g1 := row_g1 (fr := fr) (to := to) (mk := mk) (sp := spx) hb
 have e1 : ((to b : Nat) : Int) - ((fr b : Nat) : Int) = ((to b - fr b : Nat) : Int) := by omega
 refine FnT.body tok [0, 1, 3] Try.func81 rfl (by kernel_rfl) (by kernel_rfl) (by show _ ≤ 21; simp) fun hsep => ?_
 rw [Try.results81]
 have hsE := hsep
 try simp only [zzs] at hsE
 repeat (obtain ⟨hsx, hsE⟩ := hsE)
 repeat' first
  | (with_reducible first | refine Nx.go ?_ | refine Bk.go (fun _ => ?_) fun _ => ?_)
  | simp -dsimp -implicitDefEqProofs (disch := first | assumption | (simp only [zzm]; done) | omega | (try with_reducible refine Row.adr (by assumption) ?_); simp only [zzl, Nat.reduceAdd]; first | done | omega) only [go_sem, ↓reduceIte, seval, g0, g1, e1]
  | with_reducible refine Tri.drawM tok mixed [0, 1, 3] 1 [0, 3, 7, 8, 11, 15] (.op 0 .held (.op 1 .plain (.op 2 .plain (.op 3 .held (.op 4 .plain (.op 5 .plain (.op 6 .plain (.op 7 .held (.op 8 .held (.op 9 .plain (.op 10 .plain (.op 11 .held (.op 12 .plain (.op 13 .plain (.op 14 .plain (.op 15 .held (.op 16 .plain (.op 17 .plain .nil)))))))))))))))))) (by kernel_rfl) _ (List.Sublist.refl _) ?_
 all_goals refine Upd.finL ?_ hR ?_
 any_goals (intro fsum; first | exact Nat.le_refl _ | (simp only [zzq]; omega))
 rfl
end Go.Proofs.Ytdeableflgakdaa
namespace Go.Proofs.Ytdeableflgakdaa
open Go Go.V Go.Proofs
theorem lesser_t {ws : List (Nat × Nat)} {am : List ((Int × Int) × Int)} (hw : ws.length ≤ 30000000) (hA : AskI am ws) {n w W k old fresh : Nat} (hwn : w ≤ 70000) (ho : old < w) (hf : fresh < w) {fr to mk : Nat → Nat} (hbd : ∀ b, b < w → fr b ≤ to b ∧ to b ≤ 70000) {bp bm bx csp : Nat} {spx : List Value} {vs va vb vk vw : Value} {kw : Heap} (hO : WtO vw ws kw) {G : PHeap} {H : Heap} {R : Value → PHeap → Heap → Prop}
  (hR : ∀ vw' am' kw', WtO vw' (lessW (decide (to fresh - fr fresh ≤ to old - fr old)) old fresh ws k) kw' → AskI am' (lessW (decide (to fresh - fr fresh ≤ to old - fr old)) old fresh ws k) → R (.tuple #[]) G ((bp, .cells (PC vs va vb (.slice (some ⟨bx, 0, none⟩) w csp) vk vw' (.map (some bm)) (W : Nat)) [] 52) :: (bx, .cells (row3 w fr to mk) spx 75) :: (bm, .map (am'.map fun p => (enc2 p.1, Value.int .i64 p.2))) :: (kw' ++ H))) :
  FnT Try.prog 58 [.pointer (some ⟨bp, 0, none⟩), .int .i64 (old : Nat), .int .i64 (fresh : Nat), .int .i64 (k : Nat)] G ((bp, .cells (PC vs va vb (.slice (some ⟨bx, 0, none⟩) w csp) vk vw (.map (some bm)) (W : Nat)) [] 52) :: (bx, .cells (row3 w fr to mk) spx 75) :: (bm, .map (am.map fun p => (enc2 p.1, Value.int .i64 p.2))) :: (kw ++ H)) R := by
 by_cases hm : (old, k) ∈ ws
 ·have hg := (hA old k).1 hm
  have hl : lessW (decide (to fresh - fr fresh ≤ to old - fr old)) old fresh ws k = askW ws (fresh, k) := by unfold lessW; rw [if_pos (.inl hm)]
  rw [hl] at hR
  refine FnT.body tok [0, 1, 2, 3, 4, 8, 27] Try.func58 rfl (by kernel_rfl) (by kernel_rfl) (by show _ ≤ 36; simp) fun hsep => ?_
  rw [Try.results58]
  have hsE := hsep
  try simp only [zzs] at hsE
  repeat (obtain ⟨hsx, hsE⟩ := hsE)
  repeat' first
   | (with_reducible first | refine Nx.go ?_ | refine Bk.go (fun _ => ?_) fun _ => ?_ | refine foundO.mk (fun _ _ => ?_) (fun _ => ?_))
   | ((with_reducible first | refine NewB.mk2 fun nb hnb hnb1 hnb2 => ?_ | refine NewRow.mk2 fun nb nsp ncap hnb hncap hnb1 hnb2 => ?_); try simp only [zzn] at hnb2)
   | simp -dsimp -implicitDefEqProofs (disch := first | assumption | (simp only [zzm]; done) | omega | (try with_reducible refine Row.adr (by assumption) ?_); simp only [zzl, Nat.reduceAdd]; first | done | omega) only [go_sem, ↓reduceIte, seval, findV_w (Value.int .i64), keyOk_w, hg, Option.map_some]
  refine FnT.upd (FnT.leave (H' := (bp, .cells (PC vs va vb (.slice (some ⟨bx, 0, none⟩) w csp) vk vw (.map (some bm)) (W : Nat)) [] 52) :: (bm, .map (am.map fun p => (enc2 p.1, Value.int .i64 p.2))) :: (kw ++ ((bx, .cells (row3 w fr to mk) spx 75) :: H))) (ask_t hw hA hO fun vw' am' kw' hO' hA' => ?_) (by intro fsum; simp only [zzq]; omega))
  refine Upd.go (H' := (bp, .cells (PC vs va vb (.slice (some ⟨bx, 0, none⟩) w csp) vk vw' (.map (some bm)) (W : Nat)) [] 52) :: (bx, .cells (row3 w fr to mk) spx 75) :: (bm, .map (am'.map fun p => (enc2 p.1, Value.int .i64 p.2))) :: (kw' ++ H)) (by intro fsum; simp only [zzq]; omega) (Upd.now ?_)
  repeat' first
   | (with_reducible first | refine Nx.go ?_ | refine Bk.go (fun _ => ?_) fun _ => ?_ | refine foundO.mk (fun _ _ => ?_) (fun _ => ?_))
   | ((with_reducible first | refine NewB.mk2 fun nb hnb hnb1 hnb2 => ?_ | refine NewRow.mk2 fun nb nsp ncap hnb hncap hnb1 hnb2 => ?_); try simp only [zzn] at hnb2)
   | simp -dsimp -implicitDefEqProofs (disch := first | assumption | (simp only [zzm]; done) | omega | (try with_reducible refine Row.adr (by assumption) ?_); simp only [zzl, Nat.reduceAdd]; first | done | omega) only [go_sem, ↓reduceIte, seval]
  exact Upd.now (hR vw' am' kw' hO' hA')
 ·have hg : ∀ K : Prop, (aget ((old : Int), (k : Int)) am = none → K) → (aget ((old : Int), (k : Int)) am = some 0 → K) → K := fun K h1 h2 => ((hA old k).2 hm).elim h1 h2
  have hbo := hbd old ho
  have hbf := hbd fresh hf
  by_cases hsm : to fresh - fr fresh ≤ to old - fr old
  ·have hl : lessW (decide (to fresh - fr fresh ≤ to old - fr old)) old fresh ws k = askW ws (fresh, k) := by unfold lessW; rw [if_pos (.inr (decide_eq_true hsm))]
   rw [hl] at hR
   refine hg _ (fun hg => ?_) fun hg => ?_
   all_goals
    refine FnT.body tok [0, 1, 2, 3, 4, 8, 27] Try.func58 rfl (by kernel_rfl) (by kernel_rfl) (by show _ ≤ 36; simp) fun hsep => ?_
    rw [Try.results58]
    have hsE := hsep
    try simp only [zzs] at hsE
    repeat (obtain ⟨hsx, hsE⟩ := hsE)
    repeat' first
     | (with_reducible first | refine Nx.go ?_ | refine Bk.go (fun _ => ?_) fun _ => ?_ | refine foundO.mk (fun _ _ => ?_) (fun _ => ?_))
     | ((with_reducible first | refine NewB.mk2 fun nb hnb hnb1 hnb2 => ?_ | refine NewRow.mk2 fun nb nsp ncap hnb hncap hnb1 hnb2 => ?_); try simp only [zzn] at hnb2)
     | simp -dsimp -implicitDefEqProofs (disch := first | assumption | (simp only [zzm]; done) | omega | (try with_reducible refine Row.adr (by assumption) ?_); simp only [zzl, Nat.reduceAdd]; first | done | omega) only [go_sem, ↓reduceIte, seval, findV_w (Value.int .i64), keyOk_w, hg, Option.map_some, Option.map_none]
     | with_reducible refine size_t hf hwn hbf ?_
     | with_reducible refine size_t ho hwn hbo ?_
    refine FnT.upd (FnT.leave (H' := (bp, .cells (PC vs va vb (.slice (some ⟨bx, 0, none⟩) w csp) vk vw (.map (some bm)) (W : Nat)) [] 52) :: (bm, .map (am.map fun p => (enc2 p.1, Value.int .i64 p.2))) :: (kw ++ ((bx, .cells (row3 w fr to mk) spx 75) :: H))) (ask_t hw hA hO fun vw' am' kw' hO' hA' => ?_) (by intro fsum; simp only [zzq]; omega))
    refine Upd.go (H' := (bp, .cells (PC vs va vb (.slice (some ⟨bx, 0, none⟩) w csp) vk vw' (.map (some bm)) (W : Nat)) [] 52) :: (bx, .cells (row3 w fr to mk) spx 75) :: (bm, .map (am'.map fun p => (enc2 p.1, Value.int .i64 p.2))) :: (kw' ++ H)) (by intro fsum; simp only [zzq]; omega) (Upd.now ?_)
    repeat' first
     | (with_reducible first | refine Nx.go ?_ | refine Bk.go (fun _ => ?_) fun _ => ?_ | refine foundO.mk (fun _ _ => ?_) (fun _ => ?_))
     | ((with_reducible first | refine NewB.mk2 fun nb hnb hnb1 hnb2 => ?_ | refine NewRow.mk2 fun nb nsp ncap hnb hncap hnb1 hnb2 => ?_); try simp only [zzn] at hnb2)
     | simp -dsimp -implicitDefEqProofs (disch := first | assumption | (simp only [zzm]; done) | omega | (try with_reducible refine Row.adr (by assumption) ?_); simp only [zzl, Nat.reduceAdd]; first | done | omega) only [go_sem, ↓reduceIte, seval]
    exact Upd.now (hR vw' am' kw' hO' hA')
  ·have hl : lessW (decide (to fresh - fr fresh ≤ to old - fr old)) old fresh ws k = askW ws (old, k) := by unfold lessW; rw [if_neg]; rintro (h | h); exact hm h; exact hsm (of_decide_eq_true h)
   rw [hl] at hR
   refine hg _ (fun hg => ?_) fun hg => ?_
   all_goals
    refine FnT.body tok [0, 1, 2, 3, 4, 8, 27] Try.func58 rfl (by kernel_rfl) (by kernel_rfl) (by show _ ≤ 36; simp) fun hsep => ?_
    rw [Try.results58]
    have hsE := hsep
    try simp only [zzs] at hsE
    repeat (obtain ⟨hsx, hsE⟩ := hsE)
    repeat' first
     | (with_reducible first | refine Nx.go ?_ | refine Bk.go (fun _ => ?_) fun _ => ?_ | refine foundO.mk (fun _ _ => ?_) (fun _ => ?_))
     | ((with_reducible first | refine NewB.mk2 fun nb hnb hnb1 hnb2 => ?_ | refine NewRow.mk2 fun nb nsp ncap hnb hncap hnb1 hnb2 => ?_); try simp only [zzn] at hnb2)
     | simp -dsimp -implicitDefEqProofs (disch := first | assumption | (simp only [zzm]; done) | omega | (try with_reducible refine Row.adr (by assumption) ?_); simp only [zzl, Nat.reduceAdd]; first | done | omega) only [go_sem, ↓reduceIte, seval, findV_w (Value.int .i64), keyOk_w, hg, Option.map_some, Option.map_none]
     | with_reducible refine size_t hf hwn hbf ?_
     | with_reducible refine size_t ho hwn hbo ?_
    refine FnT.upd (FnT.leave (H' := (bp, .cells (PC vs va vb (.slice (some ⟨bx, 0, none⟩) w csp) vk vw (.map (some bm)) (W : Nat)) [] 52) :: (bm, .map (am.map fun p => (enc2 p.1, Value.int .i64 p.2))) :: (kw ++ ((bx, .cells (row3 w fr to mk) spx 75) :: H))) (ask_t hw hA hO fun vw' am' kw' hO' hA' => ?_) (by intro fsum; simp only [zzq]; omega))
    refine Upd.go (H' := (bp, .cells (PC vs va vb (.slice (some ⟨bx, 0, none⟩) w csp) vk vw' (.map (some bm)) (W : Nat)) [] 52) :: (bx, .cells (row3 w fr to mk) spx 75) :: (bm, .map (am'.map fun p => (enc2 p.1, Value.int .i64 p.2))) :: (kw' ++ H)) (by intro fsum; simp only [zzq]; omega) (Upd.now ?_)
    repeat' first
     | (with_reducible first | refine Nx.go ?_ | refine Bk.go (fun _ => ?_) fun _ => ?_ | refine foundO.mk (fun _ _ => ?_) (fun _ => ?_))
     | ((with_reducible first | refine NewB.mk2 fun nb hnb hnb1 hnb2 => ?_ | refine NewRow.mk2 fun nb nsp ncap hnb hncap hnb1 hnb2 => ?_); try simp only [zzn] at hnb2)
     | simp -dsimp -implicitDefEqProofs (disch := first | assumption | (simp only [zzm]; done) | omega | (try with_reducible refine Row.adr (by assumption) ?_); simp only [zzl, Nat.reduceAdd]; first | done | omega) only [go_sem, ↓reduceIte, seval]
    exact Upd.now (hR vw' am' kw' hO' hA')
theorem by4_t {ws : List (Nat × Nat)} {am : List ((Int × Int) × Int)} {w W old fresh : Nat} (hw : ws.length + W ≤ 29000000) (hA : AskI am ws) (hwn : w ≤ 70000) (hW : W ≤ 70000) (ho : old < w) (hf : fresh < w) {fr to mk : Nat → Nat} (hbd : ∀ b, b < w → fr b ≤ to b ∧ to b ≤ 70000) {bp bm bx csp : Nat} {spx : List Value} {vs va vb vk vw v72 v73 v74 : Value} {kw : Heap} (hO : WtO vw ws kw) {G : PHeap} {H : Heap} :
  Tri Try.prog Try.f30.ntmps (piece [1, 1, 1, 1, 1, 0, 0, 1, 1, 0, 0, 1, 1, 1] Try.f30) G [(0, .pointer (some ⟨bp, 0, none⟩)), (13, .int .i64 (old : Nat)), (14, .int .i64 (fresh : Nat)), (72, v72), (73, v73), (74, v74)] ((bp, .cells (PC vs va vb (.slice (some ⟨bx, 0, none⟩) w csp) vk vw (.map (some bm)) (W : Nat)) [] 52) :: (bx, .cells (row3 w fr to mk) spx 75) :: (bm, .map (am.map fun p => (enc2 p.1, Value.int .i64 p.2))) :: (kw ++ H)) (onlyN fun G' l H' => ∃ vw' am' kw', WtO vw' (lessA (decide (to fresh - fr fresh ≤ to old - fr old)) old fresh ws W) kw' ∧ AskI am' (lessA (decide (to fresh - fr fresh ≤ to old - fr old)) old fresh ws W) ∧ G' = G ∧ restrict [0, 72, 73, 74] l = [(0, .pointer (some ⟨bp, 0, none⟩)), (72, v72), (73, v73), (74, v74)] ∧ H' = (bp, .cells (PC vs va vb (.slice (some ⟨bx, 0, none⟩) w csp) vk vw' (.map (some bm)) (W : Nat)) [] 52) :: (bx, .cells (row3 w fr to mk) spx 75) :: (bm, .map (am'.map fun p => (enc2 p.1, Value.int .i64 p.2))) :: (kw' ++ H)) := by
 refine Tri.sepT fun hs0 => ?_
 have hsE := hs0
 try simp only [zzs] at hsE
 repeat (obtain ⟨hsx, hsE⟩ := hsE)
 refine Tri.piece (f := Try.f30) rfl ?_
 refine Tri.run tok [0, 1, 2, 6, 8, 9, 11, 13, 14, 15, 18, 19, 20, 21, 37, 38, 39, 40, 57, 72, 73, 74, 75, 82, 86, 87, 88] (by kernel_rfl) ?_
 repeat' first
  | (with_reducible first | refine Nx.go ?_ | refine Bk.go (fun _ => ?_) fun _ => ?_)
  | ((with_reducible first | refine NewB.mk2 fun nb hnb hnb1 hnb2 => ?_ | refine NewRow.mk2 fun nb nsp ncap hnb hncap hnb1 hnb2 => ?_); try simp only [zzn] at hnb2)
  | simp -dsimp -implicitDefEqProofs (disch := first | assumption | (simp only [zzm]; done) | omega | (try with_reducible refine Row.adr (by assumption) ?_); simp only [zzl, Nat.reduceAdd]; first | done | omega) only [go_sem, ↓reduceIte, seval]
 refine Tri.loopU tok [0, 1, 2, 6, 8, 9, 11, 13, 14, 15, 18, 19, 20, 21, 37, 38, 39, 40, 57, 72, 73, 74, 75, 82, 86, 87, 88] (by kernel_rfl) [0, 13, 14, 72, 73, 74, 86, 87] (fun q G' l H' => ∃ (j : Nat) (vw' : Value) (am' : List ((Int × Int) × Int)) (kw' : Heap), j + q = W ∧ WtO vw' (lessA (decide (to fresh - fr fresh ≤ to old - fr old)) old fresh ws j) kw' ∧ AskI am' (lessA (decide (to fresh - fr fresh ≤ to old - fr old)) old fresh ws j) ∧ G' = G ∧ H' = (bp, .cells (PC vs va vb (.slice (some ⟨bx, 0, none⟩) w csp) vk vw' (.map (some bm)) (W : Nat)) [] 52) :: (bx, .cells (row3 w fr to mk) spx 75) :: (bm, .map (am'.map fun p => (enc2 p.1, Value.int .i64 p.2))) :: (kw' ++ H) ∧ l = [(0, .pointer (some ⟨bp, 0, none⟩)), (13, .int .i64 (old : Nat)), (14, .int .i64 (fresh : Nat)), (72, v72), (73, v73), (74, v74), (86, .int .i64 (W : Nat)), (87, .int .i64 (j : Nat))]) (W) ?_ ?_
 ·exact Upd.now ⟨0, vw, am, kw, by omega, hO, hA, rfl, rfl, rfl⟩
 ·rintro q G1 l H1 hle hs1 ⟨j, vw', am', kw', hjq, hO', hA', rfl, rfl, rfl⟩
  have hlen := (lessA_all (decide (to fresh - fr fresh ≤ to old - fr old)) old fresh ws j).2.2.2.2.1
  by_cases hj : j < W
  ·repeat' first
    | (with_reducible first | refine Nx.go ?_ | refine Bk.go (fun _ => ?_) fun _ => ?_)
    | ((with_reducible first | refine NewB.mk2 fun nb hnb hnb1 hnb2 => ?_ | refine NewRow.mk2 fun nb nsp ncap hnb hncap hnb1 hnb2 => ?_); try simp only [zzn] at hnb2)
    | simp -dsimp -implicitDefEqProofs (disch := first | assumption | (simp only [zzm]; done) | omega | (try with_reducible refine Row.adr (by assumption) ?_); simp only [zzl, Nat.reduceAdd]; first | done | omega) only [go_sem, ↓reduceIte, seval]
   refine lesser_t (n := 0) (by omega) hA' hwn ho hf hbd hO' fun vw2 am2 kw2 hO2 hA2 => ?_
   rw [← lessA_succ] at hO2 hA2
   repeat' first
    | (with_reducible first | refine Nx.go ?_ | refine Bk.go (fun _ => ?_) fun _ => ?_)
    | ((with_reducible first | refine NewB.mk2 fun nb hnb hnb1 hnb2 => ?_ | refine NewRow.mk2 fun nb nsp ncap hnb hncap hnb1 hnb2 => ?_); try simp only [zzn] at hnb2)
    | simp -dsimp -implicitDefEqProofs (disch := first | assumption | (simp only [zzm]; done) | omega | (try with_reducible refine Row.adr (by assumption) ?_); simp only [zzl, Nat.reduceAdd]; first | done | omega) only [go_sem, ↓reduceIte, seval]
   exact Upd.now ⟨q - 1, by omega, j + 1, vw2, am2, kw2, by omega, hO2, hA2, rfl, rfl, rfl⟩
  ·obtain rfl : j = W := by omega
   repeat' first
    | (with_reducible first | refine Nx.go ?_ | refine Bk.go (fun _ => ?_) fun _ => ?_)
    | ((with_reducible first | refine NewB.mk2 fun nb hnb hnb1 hnb2 => ?_ | refine NewRow.mk2 fun nb nsp ncap hnb hncap hnb1 hnb2 => ?_); try simp only [zzn] at hnb2)
    | simp -dsimp -implicitDefEqProofs (disch := first | assumption | (simp only [zzm]; done) | omega | (try with_reducible refine Row.adr (by assumption) ?_); simp only [zzl, Nat.reduceAdd]; first | done | omega) only [go_sem, ↓reduceIte, seval]
   exact Upd.now ⟨vw', am', kw', hO', hA', rfl, rfl, rfl⟩
def fromL (dl : Nat → Nat) (n : Nat) (st : Nat → Nat) (f i : Nat) : List Int := (List.range i).flatMap fun j => preM dl n (st (f + j))
theorem fromL_succ (dl : Nat → Nat) (n : Nat) (st : Nat → Nat) (f i : Nat) : fromL dl n st f (i + 1) = fromL dl n st f i ++ preM dl n (st (f + i)) := by
 unfold fromL; rw [List.range_succ, List.flatMap_append]; simp
theorem fromL_len (dl : Nat → Nat) (n : Nat) (st : Nat → Nat) (f : Nat) : ∀ i, (fromL dl n st f i).length ≤ i * n
 | 0 => by simp [fromL]
 | i + 1 => by
  rw [fromL_succ, List.length_append, Nat.succ_mul]
  have h1 := fromL_len dl n st f i
  have h2 := preM_len dl n (st (f + i))
  omega
theorem mem_fromL {dl : Nat → Nat} {n : Nat} {st : Nat → Nat} {f i : Nat} {x : Int} : x ∈ fromL dl n st f i ↔ ∃ s : Nat, s < n ∧ (∃ j, j < i ∧ dl s = st (f + j)) ∧ x = s := by
 unfold fromL
 simp only [List.mem_flatMap, List.mem_range, mem_preM]
 constructor
 ·rintro ⟨j, h1, s, h2, h3, h4⟩; exact ⟨s, h2, ⟨j, h1, h3⟩, h4⟩
 ·rintro ⟨s, h2, ⟨j, h1, h3⟩, h4⟩; exact ⟨j, h1, s, h2, h3, h4⟩
theorem by1_t {n w W : Nat} {st pl bf fr to mk : Nat → Nat} (hP : PInv n w st pl bf fr to mk) (hn : n ≤ 66000) {b k : Nat} (hb : b < w) (hk : k < W) {dl : Nat → Nat → Nat} {bp bs bx csp : Nat} {spx : List Value} {va vb vk vw vm : Value} {G : PHeap} {H : Heap} (hbk : BkT G n W dl vk) :
  Tri Try.prog Try.f30.ntmps (piece [1, 0] Try.f30) G [(0, .pointer (some ⟨bp, 0, none⟩)), (1, .int .i64 (b : Nat)), (2, .int .i64 (k : Nat)), (6, .slice none 0 0)] ((bp, .cells (PC (.slice (some ⟨bs, 0, none⟩) n n) va vb (.slice (some ⟨bx, 0, none⟩) w csp) vk vw vm (W : Nat)) [] 52) :: (bx, .cells (row3 w fr to mk) spx 75) :: (bs, .cells (rowN n st) [] 3) :: H) (onlyN fun G' l H' => ∃ vf kf, SliceO [] 3 1 vf (fromL (dl k) n st (fr b) (to b - fr b)).length ((fromL (dl k) n st (fr b) (to b - fr b)).map (Value.int .i64)) kf ∧ G' = G ∧ restrict [0, 6] l = [(0, .pointer (some ⟨bp, 0, none⟩)), (6, vf)] ∧ H' = (bp, .cells (PC (.slice (some ⟨bs, 0, none⟩) n n) va vb (.slice (some ⟨bx, 0, none⟩) w csp) vk vw vm (W : Nat)) [] 52) :: (bx, .cells (row3 w fr to mk) spx 75) :: (bs, .cells (rowN n st) [] 3) :: (kf ++ H)) := by
 have h1 := hP.ne b hb
 have h2 := hP.le b hb
 obtain ⟨ak, ck, rk, rfl, hrk, hrl, hrc, hrr⟩ := hbk
 obtain ⟨a2, c2, rv, e2, hr2, hl2, hc2, hrv⟩ := hrr k hk (by omega)
 have hadk : Adr ak := hrk.adr (by omega)
 have hn0 : 0 < n := by omega
 have had2 : Adr a2 := hr2.adr (by omega)
 refine Tri.sepT fun hs0 => ?_
 have hsE := hs0
 try simp only [zzs] at hsE
 repeat (obtain ⟨hsx, hsE⟩ := hsE)
 refine Tri.piece (f := Try.f30) rfl ?_
 refine Tri.run tok [0, 1, 2, 6, 8, 9, 11, 13, 14, 15, 18, 19, 20, 21, 37, 38, 39, 40, 57, 72, 73, 74, 75, 82, 86, 87, 88] (by kernel_rfl) ?_
 repeat' first
  | (with_reducible first | refine Nx.go ?_ | refine Bk.go (fun _ => ?_) fun _ => ?_)
  | ((with_reducible first | refine NewB.mk2 fun nb hnb hnb1 hnb2 => ?_ | refine NewRow.mk2 fun nb nsp ncap hnb hncap hnb1 hnb2 => ?_); try simp only [zzn] at hnb2)
  | simp -dsimp -implicitDefEqProofs (disch := first | assumption | (simp only [zzm]; done) | omega | (try with_reducible refine Row.adr (by assumption) ?_); simp only [zzl, Nat.reduceAdd]; first | done | omega) only [go_sem, ↓reduceIte, seval]
  | with_reducible refine inside_t hP (by omega) hb ?_
 refine Tri.loopU tok [0, 1, 2, 6, 8, 9, 11, 13, 14, 15, 18, 19, 20, 21, 37, 38, 39, 40, 57, 72, 73, 74, 75, 82, 86, 87, 88] (by kernel_rfl) [0, 2, 6, 18, 19, 20] (fun q G' l H' => ∃ (i : Nat) (vf : Value) (kf : Heap), i + q = to b - fr b ∧ SliceO [] 3 1 vf (fromL (dl k) n st (fr b) i).length ((fromL (dl k) n st (fr b) i).map (Value.int .i64)) kf ∧ G' = G ∧ H' = (bp, .cells (PC (.slice (some ⟨bs, 0, none⟩) n n) va vb (.slice (some ⟨bx, 0, none⟩) w csp) (.slice ak W ck) vw vm (W : Nat)) [] 52) :: (bx, .cells (row3 w fr to mk) spx 75) :: (bs, .cells (rowN n st) [] 3) :: (kf ++ H) ∧ l = [(0, .pointer (some ⟨bp, 0, none⟩)), (2, .int .i64 (k : Nat)), (6, vf), (18, .slice (some ⟨bs, fr b, none⟩) (to b - fr b) (to b - fr b)), (19, .int .i64 ((to b - fr b : Nat) : Int)), (20, .int .i64 (i : Nat))]) ((to b - fr b)) ?_ ?_
 ·exact Upd.now ⟨0, _, [], by omega, .inl ⟨none, rfl, rfl, rfl, rfl⟩, rfl, rfl, rfl⟩
 ·rintro q G1 l H1 hle hs1 ⟨i, vf, kf, hiq, hO, rfl, rfl, rfl⟩
  by_cases hi : i < to b - fr b
  ·have hpn : fr b + i < n := by omega
   have gs := rowN_at st hpn
   have hst := hP.st_lt _ hpn
   obtain ⟨a3, c3, e3, hr3, hc3⟩ := hrv _ hst (by omega)
   have hfl := fromL_len (dl k) n st (fr b) i
   have hpl := preM_len (dl k) n (st (fr b + i))
   have hmul : i * n ≤ 66000 * 66000 := Nat.mul_le_mul (by omega) hn
   have hsucc := fromL_succ (dl k) n st (fr b) i
   have hrall := fun (H : Heap) (k' : List Value → Prop) => hr3.rdSlAll (n := (preM (dl k) n (st (fr b + i))).length) (by rw [List.length_map]) H k'
   rcases hO with ⟨aa, rfl, hx0, hx, rfl⟩ | ⟨bfm, cfm, spf, rfl, rfl, hx, hcf⟩
   ·have hsE := hs1
    try simp only [zzs] at hsE
    repeat (obtain ⟨hsx, hsE⟩ := hsE)
    have hnil : fromL (dl k) n st (fr b) i = [] := List.eq_nil_of_length_eq_zero hx0
    rw [hnil, List.nil_append] at hsucc
    repeat' first
     | (with_reducible first | refine Nx.go ?_ | refine Bk.go (fun _ => ?_) fun _ => ?_)
     | ((with_reducible first | refine NewB.mk2 fun nb hnb hnb1 hnb2 => ?_ | refine NewRow.mk2 fun nb nsp ncap hnb hncap hnb1 hnb2 => ?_); try simp only [zzn] at hnb2)
     | simp -dsimp -implicitDefEqProofs (disch := first | assumption | (simp only [zzm]; done) | omega | (try with_reducible refine Row.adr (by assumption) ?_); simp only [zzl, Nat.reduceAdd]; first | done | omega) only [go_sem, ↓reduceIte, seval, gs, Row.obj hrk, e2, Row.obj hr2, e3, hrall]
    ·rename_i h0
     have hp0 : preM (dl k) n (st (fr b + i)) = [] := List.eq_nil_of_length_eq_zero h0
     exact Upd.now ⟨q - 1, by omega, i + 1, .slice aa 0 0, [], by omega, by rw [hsucc, hp0]; exact .inl ⟨aa, rfl, rfl, rfl, rfl⟩, rfl, rfl, rfl⟩
    ·refine Upd.leave (H' := (bp, .cells (PC (.slice (some ⟨bs, 0, none⟩) n n) va vb (.slice (some ⟨bx, 0, none⟩) w csp) (.slice ak W ck) vw vm (W : Nat)) [] 52) :: (bx, .cells (row3 w fr to mk) spx 75) :: (bs, .cells (rowN n st) [] 3) :: ([(nb, .cells ((preM (dl k) n (st (fr b + i))).map (Value.int .i64)) nsp 3)] ++ H)) (by intro fsum; simp only [zzq]; omega) ?_
     exact ⟨q - 1, by omega, i + 1, _, _, by omega, by rw [hsucc]; exact .inr ⟨nb, ncap, nsp, rfl, rfl, by rw [List.length_map, Nat.mul_one], by rw [List.length_map]; omega⟩, rfl, rfl, rfl⟩
   ·have hsE := hs1
    try simp only [zzs] at hsE
    repeat (obtain ⟨hsx, hsE⟩ := hsE)
    rw [List.length_map, Nat.mul_one] at hx hcf
    repeat' first
     | (with_reducible first | refine Nx.go ?_ | refine Bk.go (fun _ => ?_) fun _ => ?_)
     | ((with_reducible first | refine NewB.mk2 fun nb hnb hnb1 hnb2 => ?_ | refine NewRow.mk2 fun nb nsp ncap hnb hncap hnb1 hnb2 => ?_); try simp only [zzn] at hnb2)
     | simp -dsimp -implicitDefEqProofs (disch := first | assumption | (simp only [zzm]; done) | omega | (try with_reducible refine Row.adr (by assumption) ?_); simp only [zzl, Nat.reduceAdd]; first | done | omega) only [go_sem, ↓reduceIte, seval, gs, Row.obj hrk, e2, Row.obj hr2, e3, hrall, List.length_map]
    refine Upd.leave (H' := (bp, .cells (PC (.slice (some ⟨bs, 0, none⟩) n n) va vb (.slice (some ⟨bx, 0, none⟩) w csp) (.slice ak W ck) vw vm (W : Nat)) [] 52) :: (bx, .cells (row3 w fr to mk) spx 75) :: (bs, .cells (rowN n st) [] 3) :: ([(nb, .cells ((fromL (dl k) n st (fr b) i).map (Value.int .i64) ++ (preM (dl k) n (st (fr b + i))).map (Value.int .i64)) nsp 3)] ++ H)) (by intro fsum; simp only [zzq]; omega) ?_
    exact ⟨q - 1, by omega, i + 1, _, _, by omega, by rw [hsucc]; exact .inr ⟨nb, ncap, nsp, by rw [List.length_append], by rw [List.map_append], by rw [List.length_map, Nat.mul_one], by rw [List.length_map, List.length_append]; omega⟩, rfl, rfl, rfl⟩
  ·obtain rfl : i = to b - fr b := by omega
   have hsE := hs1
   try simp only [zzs] at hsE
   repeat (obtain ⟨hsx, hsE⟩ := hsE)
   repeat' first
    | (with_reducible first | refine Nx.go ?_ | refine Bk.go (fun _ => ?_) fun _ => ?_)
    | ((with_reducible first | refine NewB.mk2 fun nb hnb hnb1 hnb2 => ?_ | refine NewRow.mk2 fun nb nsp ncap hnb hncap hnb1 hnb2 => ?_); try simp only [zzn] at hnb2)
    | simp -dsimp -implicitDefEqProofs (disch := first | assumption | (simp only [zzm]; done) | omega | (try with_reducible refine Row.adr (by assumption) ?_); simp only [zzl, Nat.reduceAdd]; first | done | omega) only [go_sem, ↓reduceIte, seval]
   exact Upd.now ⟨vf, kf, hO, rfl, rfl, rfl⟩
end Go.Proofs.Ytdeableflgakdaa
namespace Go.Proofs.Ytdeableflgakdaa
open Go Go.V Go.Proofs
def natI (D : List Nat) : List Value := D.map fun c : Nat => Value.int .i64 (c : Int)
theorem natI_len (D : List Nat) : (natI D).length = D.length := List.length_map ..
theorem by2_t {n w : Nat} {st pl bf fr to : Nat → Nat} (hP : PInv n w st pl bf fr to fun _ => 0) (hn : n ≤ 66000) {L : List Int} (hL : ∀ x ∈ L, ∃ s : Nat, s < n ∧ x = s) (hLl : L.length ≤ 5000000000) {a : Option Addr} {c : Nat} {G : PHeap} (hrow : Row G a (L.map (Value.int .i64))) {bp bs ba bl bx cb csp : Nat} {spb spx : List Value} {vk vw vm : Value} {W : Int} {H : Heap} :
  Tri Try.prog Try.f30.ntmps (piece [1, 1, 1, 0] Try.f30) G [(0, .pointer (some ⟨bp, 0, none⟩)), (6, .slice a L.length c), (9, .slice none 0 0)] ((bp, .cells (PC (.slice (some ⟨bs, 0, none⟩) n n) (.slice (some ⟨ba, 0, none⟩) n n) (.slice (some ⟨bl, 0, none⟩) n cb) (.slice (some ⟨bx, 0, none⟩) w csp) vk vw vm W) [] 52) :: (bx, .cells (row3 w fr to fun _ => 0) spx 75) :: (bs, .cells (rowN n st) [] 3) :: (ba, .cells (rowN n pl) [] 3) :: (bl, .cells (rowN n bf) spb 3) :: H) (onlyN fun G' l H' => ∃ st' pl' mk' D vd kd, PInv n w st' pl' bf fr to mk' ∧ (∀ x, x < n → (Mkd pl' bf fr mk' x ↔ (x : Int) ∈ L)) ∧ D.Nodup ∧ (∀ c, c ∈ D → c < w ∧ 1 ≤ mk' c) ∧ (∀ c, c ∉ D → mk' c = 0) ∧ SliceO [] 3 1 vd D.length (natI D) kd ∧ G' = G ∧ restrict [0, 9] l = [(0, .pointer (some ⟨bp, 0, none⟩)), (9, vd)] ∧ H' = (bp, .cells (PC (.slice (some ⟨bs, 0, none⟩) n n) (.slice (some ⟨ba, 0, none⟩) n n) (.slice (some ⟨bl, 0, none⟩) n cb) (.slice (some ⟨bx, 0, none⟩) w csp) vk vw vm W) [] 52) :: (bx, .cells (row3 w fr to mk') spx 75) :: (bs, .cells (rowN n st') [] 3) :: (ba, .cells (rowN n pl') [] 3) :: (bl, .cells (rowN n bf) spb 3) :: (kd ++ H)) := by
 have hr1 : ∀ x : Value, List.replicate 1 x = [x] := fun _ => rfl
 refine Tri.sepT fun hs0 => ?_
 have hsE := hs0
 try simp only [zzs] at hsE
 repeat (obtain ⟨hsx, hsE⟩ := hsE)
 refine Tri.piece (f := Try.f30) rfl ?_
 refine Tri.run tok [0, 1, 2, 6, 8, 9, 11, 13, 14, 15, 18, 19, 20, 21, 37, 38, 39, 40, 57, 72, 73, 74, 75, 82, 86, 87, 88] (by kernel_rfl) ?_
 repeat' first
  | (with_reducible first | refine Nx.go ?_ | refine Bk.go (fun _ => ?_) fun _ => ?_)
  | ((with_reducible first | refine NewB.mk2 fun nb hnb hnb1 hnb2 => ?_ | refine NewRow.mk2 fun nb nsp ncap hnb hncap hnb1 hnb2 => ?_); try simp only [zzn] at hnb2)
  | simp -dsimp -implicitDefEqProofs (disch := first | assumption | (simp only [zzm]; done) | omega | (try with_reducible refine Row.adr (by assumption) ?_); simp only [zzl, Nat.reduceAdd]; first | done | omega) only [go_sem, ↓reduceIte, seval]
 refine Tri.loopU tok [0, 1, 2, 6, 8, 9, 11, 13, 14, 15, 18, 19, 20, 21, 37, 38, 39, 40, 57, 72, 73, 74, 75, 82, 86, 87, 88] (by kernel_rfl) [0, 9, 37, 38, 39] (fun q G' l H' => ∃ (i : Nat) (st' pl' mk' : Nat → Nat) (D : List Nat) (vd : Value) (kd : Heap), i + q = L.length ∧ PInv n w st' pl' bf fr to mk' ∧ (∀ x, x < n → (Mkd pl' bf fr mk' x ↔ (x : Int) ∈ L.take i)) ∧ D.Nodup ∧ (∀ c, c ∈ D → c < w ∧ 1 ≤ mk' c) ∧ (∀ c, c ∉ D → mk' c = 0) ∧ SliceO [] 3 1 vd D.length (natI D) kd ∧ G' = G ∧ H' = (bp, .cells (PC (.slice (some ⟨bs, 0, none⟩) n n) (.slice (some ⟨ba, 0, none⟩) n n) (.slice (some ⟨bl, 0, none⟩) n cb) (.slice (some ⟨bx, 0, none⟩) w csp) vk vw vm W) [] 52) :: (bx, .cells (row3 w fr to mk') spx 75) :: (bs, .cells (rowN n st') [] 3) :: (ba, .cells (rowN n pl') [] 3) :: (bl, .cells (rowN n bf) spb 3) :: (kd ++ H) ∧ l = [(0, .pointer (some ⟨bp, 0, none⟩)), (9, vd), (37, .slice a L.length c), (38, .int .i64 (L.length : Nat)), (39, .int .i64 (i : Nat))]) (L.length) ?_ ?_
 ·refine Upd.now ⟨0, st, pl, fun _ => 0, [], .slice none 0 0, [], by omega, hP, fun x hx => ⟨fun h => ?_, fun h => by rw [List.take_zero] at h; cases h⟩, List.nodup_nil, fun c h => (by cases h), fun c _ => rfl, .inl ⟨none, rfl, rfl, rfl, rfl⟩, rfl, rfl, rfl⟩
  have h : pl x < fr (bf x) + 0 := h
  have := hP.lo x hx
  omega
 ·rintro q G1 l H1 hle hs1 ⟨i, st, pl, mk, D, vd, kd, hiq, hP, hM, hD1, hD2, hD3, hO, rfl, rfl, rfl⟩
  by_cases hi : i < L.length
  ·obtain ⟨s, hsn, hse⟩ := hL _ (List.getElem_mem hi)
   have hada : Adr a := hrow.adr (by rw [List.length_map]; omega)
   have hbw := hP.bl_lt s hsn
   have gb := rowN_get bf (sp := spb) hsn
   have g2 := row_g2 (fr := fr) (to := to) (mk := mk) (sp := spx) hbw
   have hDl : D.length ≤ w := nodup_bound hD1 fun c hc => (hD2 c hc).1
   have hw := hP.nb_le
   have htk : L.take (i + 1) = L.take i ++ [(s : Int)] := by rw [List.take_succ_eq_append_getElem hi, hse]
   have hnext : ∀ (pl' mk' : Nat → Nat), (∀ x, x < n → (Mkd pl' bf fr mk' x ↔ Mkd pl bf fr mk x ∨ x = s)) → ∀ x, x < n → (Mkd pl' bf fr mk' x ↔ (x : Int) ∈ L.take (i + 1)) := fun pl' mk' h x hx => by
    rw [h x hx, hM x hx, htk, List.mem_append, List.mem_singleton]
    constructor
    ·rintro (h | h)
     ·exact .inl h
     ·exact .inr (by rw [h])
    ·rintro (h | h)
     ·exact .inl h
     ·exact .inr (by omega)
   by_cases hz : mk (bf s) = 0
   ·have hzi : ((mk (bf s) : Nat) : Int) = 0 := by omega
    have hnD : bf s ∉ D := fun h => by have := (hD2 _ h).2; omega
    have hfin : ∀ mk' : Nat → Nat, (∀ b, b ≠ bf s → mk' b = mk b) → 1 ≤ mk' (bf s) → (D ++ [bf s]).Nodup ∧ (∀ c, c ∈ D ++ [bf s] → c < w ∧ 1 ≤ mk' c) ∧ ∀ c, c ∉ D ++ [bf s] → mk' c = 0 := fun mk' h1 h2 => by
     refine ⟨List.nodup_append.2 ⟨hD1, by simp, fun x hx y hy => by rw [List.mem_singleton] at hy; intro e; subst e; subst hy; exact hnD hx⟩, fun c hc => ?_, fun c hc => ?_⟩
     ·rcases List.mem_append.1 hc with hc | hc
      ·rw [h1 c fun e => hnD (e ▸ hc)]; exact hD2 c hc
      ·rw [List.mem_singleton] at hc; subst hc; exact ⟨hbw, h2⟩
     ·rw [List.mem_append, not_or, List.mem_singleton] at hc
      rw [h1 c hc.2]; exact hD3 c hc.1
    have hni : natI (D ++ [bf s]) = natI D ++ [.int .i64 (bf s : Nat)] := by unfold natI; rw [List.map_append]; rfl
    have hnl := natI_len D
    rcases hO with ⟨aa, rfl, hx0, hx, rfl⟩ | ⟨bd, cd, spd, rfl, rfl, hx, hcd⟩
    ·have hDn : D = [] := List.eq_nil_of_length_eq_zero hx0
     subst hDn
     have hsE := hs1
     try simp only [zzs] at hsE
     repeat (obtain ⟨hsx, hsE⟩ := hsE)
     repeat' first
      | (with_reducible first | refine Nx.go ?_ | refine Bk.go (fun _ => ?_) fun _ => ?_)
      | ((with_reducible first | refine NewB.mk2 fun nb hnb hnb1 hnb2 => ?_ | refine NewRow.mk2 fun nb nsp ncap hnb hncap hnb1 hnb2 => ?_); try simp only [zzn] at hnb2)
      | simp -dsimp -implicitDefEqProofs (disch := first | assumption | (simp only [zzm]; done) | omega | (try with_reducible refine Row.adr (by assumption) ?_); simp only [zzl, Nat.reduceAdd]; first | done | omega) only [go_sem, ↓reduceIte, seval, Row.obj hrow, List.getElem_map, hse, gb, g2, hzi, hr1]
      | with_reducible refine Tri.drawS tok mixed [0, 1, 2, 6, 8, 9, 11, 13, 14, 15, 18, 19, 20, 21, 37, 38, 39, 40, 57, 72, 73, 74, 75, 82, 86, 87, 88] 10 [3, 7, 10, 13] (.op 0 .plain (.op 1 .plain (.op 2 .plain (.op 3 .held (.op 4 .plain (.op 5 .plain (.op 6 .plain (.op 7 .held (.op 8 .plain (.op 9 .plain (.op 10 .held (.op 11 .plain (.op 12 .plain (.op 13 .held (.op 14 .plain .nil))))))))))))))) (by kernel_rfl) [(bp, .cells (PC (.slice (some ⟨bs, 0, none⟩) n n) (.slice (some ⟨ba, 0, none⟩) n n) (.slice (some ⟨bl, 0, none⟩) n cb) (.slice (some ⟨bx, 0, none⟩) w csp) vk vw vm W) [] 52), (bl, .cells (rowN n bf) spb 3), (bx, .cells (row3 w fr to mk) spx 75)] (by intro fsum; first | exact Nat.le_refl _ | (simp only [zzq]; omega)) ?_
     refine FnT.upd (FnT.leave (H' := (bp, .cells (PC (.slice (some ⟨bs, 0, none⟩) n n) (.slice (some ⟨ba, 0, none⟩) n n) (.slice (some ⟨bl, 0, none⟩) n cb) (.slice (some ⟨bx, 0, none⟩) w csp) vk vw vm W) [] 52) :: (bx, .cells (row3 w fr to mk) spx 75) :: (bs, .cells (rowN n st) [] 3) :: (ba, .cells (rowN n pl) [] 3) :: (bl, .cells (rowN n bf) spb 3) :: ([(nb, .cells [.int .i64 (bf s : Nat)] nsp 3)] ++ H)) (mark_t hP (by omega) hsn fun r st' pl' mk' hP' hM' h1 h2 => Upd.sepI fun hs2 => Upd.now ?_) (by intro fsum; simp only [zzq]; omega))
     obtain ⟨f1, f2, f3⟩ := hfin mk' h1 h2
     have hsE := hs2
     try simp only [zzs] at hsE
     repeat (obtain ⟨hsx, hsE⟩ := hsE)
     repeat' first
      | (with_reducible first | refine Nx.go ?_ | refine Bk.go (fun _ => ?_) fun _ => ?_)
      | ((with_reducible first | refine NewB.mk2 fun nb hnb hnb1 hnb2 => ?_ | refine NewRow.mk2 fun nb nsp ncap hnb hncap hnb1 hnb2 => ?_); try simp only [zzn] at hnb2)
      | simp -dsimp -implicitDefEqProofs (disch := first | assumption | (simp only [zzm]; done) | omega | (try with_reducible refine Row.adr (by assumption) ?_); simp only [zzl, Nat.reduceAdd]; first | done | omega) only [go_sem, ↓reduceIte, seval]
     exact Upd.now ⟨q - 1, by omega, i + 1, st', pl', mk', _, _, _, by omega, hP', hnext pl' mk' hM', f1, f2, f3, .inr ⟨nb, ncap, nsp, rfl, rfl, rfl, by simp [natI] at hncap ⊢; omega⟩, rfl, rfl, rfl⟩
    ·have hsE := hs1
     try simp only [zzs] at hsE
     repeat (obtain ⟨hsx, hsE⟩ := hsE)
     rw [hnl, Nat.mul_one] at hx hcd
     repeat' first
      | (with_reducible first | refine Nx.go ?_ | refine Bk.go (fun _ => ?_) fun _ => ?_)
      | ((with_reducible first | refine NewB.mk2 fun nb hnb hnb1 hnb2 => ?_ | refine NewRow.mk2 fun nb nsp ncap hnb hncap hnb1 hnb2 => ?_); try simp only [zzn] at hnb2)
      | simp -dsimp -implicitDefEqProofs (disch := first | assumption | (simp only [zzm]; done) | omega | (try with_reducible refine Row.adr (by assumption) ?_); simp only [zzl, Nat.reduceAdd]; first | done | omega) only [go_sem, ↓reduceIte, seval, Row.obj hrow, List.getElem_map, hse, gb, g2, hzi, hr1, hnl]
      | with_reducible refine Tri.drawS tok mixed [0, 1, 2, 6, 8, 9, 11, 13, 14, 15, 18, 19, 20, 21, 37, 38, 39, 40, 57, 72, 73, 74, 75, 82, 86, 87, 88] 10 [3, 7, 10, 13] (.op 0 .plain (.op 1 .plain (.op 2 .plain (.op 3 .held (.op 4 .plain (.op 5 .plain (.op 6 .plain (.op 7 .held (.op 8 .plain (.op 9 .plain (.op 10 .held (.op 11 .plain (.op 12 .plain (.op 13 .held (.op 14 .plain .nil))))))))))))))) (by kernel_rfl) [(bp, .cells (PC (.slice (some ⟨bs, 0, none⟩) n n) (.slice (some ⟨ba, 0, none⟩) n n) (.slice (some ⟨bl, 0, none⟩) n cb) (.slice (some ⟨bx, 0, none⟩) w csp) vk vw vm W) [] 52), (bl, .cells (rowN n bf) spb 3), (bx, .cells (row3 w fr to mk) spx 75)] (by intro fsum; first | exact Nat.le_refl _ | (simp only [zzq]; omega)) ?_
     refine FnT.upd (FnT.leave (H' := (bp, .cells (PC (.slice (some ⟨bs, 0, none⟩) n n) (.slice (some ⟨ba, 0, none⟩) n n) (.slice (some ⟨bl, 0, none⟩) n cb) (.slice (some ⟨bx, 0, none⟩) w csp) vk vw vm W) [] 52) :: (bx, .cells (row3 w fr to mk) spx 75) :: (bs, .cells (rowN n st) [] 3) :: (ba, .cells (rowN n pl) [] 3) :: (bl, .cells (rowN n bf) spb 3) :: ([(nb, .cells (natI D ++ [.int .i64 (bf s : Nat)]) nsp 3)] ++ H)) (mark_t hP (by omega) hsn fun r st' pl' mk' hP' hM' h1 h2 => Upd.sepI fun hs2 => Upd.now ?_) (by intro fsum; simp only [zzq]; omega))
     obtain ⟨f1, f2, f3⟩ := hfin mk' h1 h2
     have hsE := hs2
     try simp only [zzs] at hsE
     repeat (obtain ⟨hsx, hsE⟩ := hsE)
     repeat' first
      | (with_reducible first | refine Nx.go ?_ | refine Bk.go (fun _ => ?_) fun _ => ?_)
      | ((with_reducible first | refine NewB.mk2 fun nb hnb hnb1 hnb2 => ?_ | refine NewRow.mk2 fun nb nsp ncap hnb hncap hnb1 hnb2 => ?_); try simp only [zzn] at hnb2)
      | simp -dsimp -implicitDefEqProofs (disch := first | assumption | (simp only [zzm]; done) | omega | (try with_reducible refine Row.adr (by assumption) ?_); simp only [zzl, Nat.reduceAdd]; first | done | omega) only [go_sem, ↓reduceIte, seval]
     exact Upd.now ⟨q - 1, by omega, i + 1, st', pl', mk', D ++ [bf s], _, _, by omega, hP', hnext pl' mk' hM', f1, f2, f3, .inr ⟨nb, ncap, nsp, by rw [List.length_append, List.length_singleton], by rw [hni], by rw [natI_len, Nat.mul_one], by rw [natI_len, List.length_append, List.length_singleton]; omega⟩, rfl, rfl, rfl⟩
   ·have hzi : ¬ ((mk (bf s) : Nat) : Int) = 0 := by omega
    have hsE := hs1
    try simp only [zzs] at hsE
    repeat (obtain ⟨hsx, hsE⟩ := hsE)
    repeat' first
     | (with_reducible first | refine Nx.go ?_ | refine Bk.go (fun _ => ?_) fun _ => ?_)
     | ((with_reducible first | refine NewB.mk2 fun nb hnb hnb1 hnb2 => ?_ | refine NewRow.mk2 fun nb nsp ncap hnb hncap hnb1 hnb2 => ?_); try simp only [zzn] at hnb2)
     | simp -dsimp -implicitDefEqProofs (disch := first | assumption | (simp only [zzm]; done) | omega | (try with_reducible refine Row.adr (by assumption) ?_); simp only [zzl, Nat.reduceAdd]; first | done | omega) only [go_sem, ↓reduceIte, seval, Row.obj hrow, List.getElem_map, hse, gb, g2]
     | with_reducible refine Tri.drawS tok mixed [0, 1, 2, 6, 8, 9, 11, 13, 14, 15, 18, 19, 20, 21, 37, 38, 39, 40, 57, 72, 73, 74, 75, 82, 86, 87, 88] 10 [3, 7, 10, 13] (.op 0 .plain (.op 1 .plain (.op 2 .plain (.op 3 .held (.op 4 .plain (.op 5 .plain (.op 6 .plain (.op 7 .held (.op 8 .plain (.op 9 .plain (.op 10 .held (.op 11 .plain (.op 12 .plain (.op 13 .held (.op 14 .plain .nil))))))))))))))) (by kernel_rfl) [(bp, .cells (PC (.slice (some ⟨bs, 0, none⟩) n n) (.slice (some ⟨ba, 0, none⟩) n n) (.slice (some ⟨bl, 0, none⟩) n cb) (.slice (some ⟨bx, 0, none⟩) w csp) vk vw vm W) [] 52), (bl, .cells (rowN n bf) spb 3), (bx, .cells (row3 w fr to mk) spx 75)] (by intro fsum; first | exact Nat.le_refl _ | (simp only [zzq]; omega)) ?_
    refine mark_t hP (by omega) hsn fun r st' pl' mk' hP' hM' h1 h2 => ?_
    have hin : bf s ∈ D := Classical.byContradiction fun h => hz (hD3 _ h)
    repeat' first
     | (with_reducible first | refine Nx.go ?_ | refine Bk.go (fun _ => ?_) fun _ => ?_)
     | ((with_reducible first | refine NewB.mk2 fun nb hnb hnb1 hnb2 => ?_ | refine NewRow.mk2 fun nb nsp ncap hnb hncap hnb1 hnb2 => ?_); try simp only [zzn] at hnb2)
     | simp -dsimp -implicitDefEqProofs (disch := first | assumption | (simp only [zzm]; done) | omega | (try with_reducible refine Row.adr (by assumption) ?_); simp only [zzl, Nat.reduceAdd]; first | done | omega) only [go_sem, ↓reduceIte, seval]
    exact Upd.now ⟨q - 1, by omega, i + 1, st', pl', mk', D, _, _, by omega, hP', hnext pl' mk' hM', hD1, fun c hc => ⟨(hD2 c hc).1, by
     by_cases e : c = bf s
     ·rw [e]; exact h2
     ·rw [h1 c e]; exact (hD2 c hc).2⟩, fun c hc => by rw [h1 c fun e => hc (e ▸ hin)]; exact hD3 c hc, hO, rfl, rfl, rfl⟩
  ·obtain rfl : i = L.length := by omega
   rw [List.take_length] at hM
   have hsE := hs1
   try simp only [zzs] at hsE
   repeat (obtain ⟨hsx, hsE⟩ := hsE)
   repeat' first
    | (with_reducible first | refine Nx.go ?_ | refine Bk.go (fun _ => ?_) fun _ => ?_)
    | ((with_reducible first | refine NewB.mk2 fun nb hnb hnb1 hnb2 => ?_ | refine NewRow.mk2 fun nb nsp ncap hnb hncap hnb1 hnb2 => ?_); try simp only [zzn] at hnb2)
    | simp -dsimp -implicitDefEqProofs (disch := first | assumption | (simp only [zzm]; done) | omega | (try with_reducible refine Row.adr (by assumption) ?_); simp only [zzl, Nat.reduceAdd]; first | done | omega) only [go_sem, ↓reduceIte, seval]
   exact Upd.now ⟨st, pl, mk, D, vd, kd, hP, hM, hD1, hD2, hD3, hO, rfl, rfl, rfl⟩
structure ByI (n W : Nat) (al : Nat → Nat) (dl : Nat → Nat → Nat) (k : Nat) (X : Nat → Prop) (bf0 st pl : Nat → Nat) (D : List Nat) (m0 w : Nat) (bf fr to mk : Nat → Nat) (ws : List (Nat × Nat)) : Prop where
 P : PInv n w st pl bf fr to mk
 rest : ∀ c, c ∈ D → c < w ∧ 1 ≤ mk c ∧ ∀ s, s < n → bf s = c → (Mkd pl bf fr mk s ↔ X s)
 zero : ∀ c, c < w → c ∉ D → mk c = 0
 same : ∀ s t, s < n → t < n → bf s = bf t → bf s ∉ D → (X s ↔ X t)
 fine : ∀ s t, s < n → t < n → al s = al t → bf s = bf t
 lab : ∀ s t, s < n → t < n → bf s = bf t → bf0 s = bf0 t
 law : PLaw n W bf dl ws k X
 nd : ws.Nodup
 bd : ∀ p ∈ ws, p.1 < w ∧ p.2 < W
 ms : ws.length + W * (n - w) ≤ m0
section
variable {n W k m0 w c : Nat} {al bf0 st pl bf fr to mk : Nat → Nat} {dl : Nat → Nat → Nat} {X : Nat → Prop} {D : List Nat} {ws : List (Nat × Nat)}
theorem ByI.all (h : ByI n W al dl k X bf0 st pl (c :: D) m0 w bf fr to mk ws) (hnd : (c :: D).Nodup) (he : fr c + mk c = to c) : ByI n W al dl k X bf0 st pl D m0 w bf fr to (updN mk c 0) ws := by
 rw [List.nodup_cons] at hnd
 obtain ⟨hc1, hc2, hc3⟩ := h.rest c (List.mem_cons_self ..)
 refine ⟨h.P.clear c, fun c' hc' => ?_, fun c' h1 h2 => ?_, fun s t hs ht e hn => ?_, h.fine, h.lab, h.law, h.nd, h.bd, h.ms⟩
 ·obtain ⟨g1, g2, g3⟩ := h.rest c' (List.mem_cons_of_mem _ hc')
  have hne : c' ≠ c := fun e => hnd.1 (e ▸ hc')
  refine ⟨g1, by rw [updN_ne _ _ hne]; exact g2, fun s hs e => ?_⟩
  have := g3 s hs e
  unfold Mkd at this ⊢
  rw [e, updN_ne _ _ hne]
  rw [e] at this
  exact this
 ·by_cases e : c' = c
  ·rw [e, updN_same]
  ·rw [updN_ne _ _ e]
   exact h.zero c' h1 fun hm => (List.mem_cons.1 hm).elim e h2
 ·by_cases e2 : bf s = c
  ·have m1 : Mkd pl bf fr mk s := by have := h.P.hi s hs; unfold Mkd; rw [e2] at this ⊢; omega
   have m2 : Mkd pl bf fr mk t := by have := h.P.hi t ht; unfold Mkd; rw [← e, e2] at this ⊢; omega
   exact ⟨fun _ => (hc3 t ht (by rw [← e, e2])).1 m2, fun _ => (hc3 s hs e2).1 m1⟩
  ·exact h.same s t hs ht e fun hm => (List.mem_cons.1 hm).elim e2 hn
theorem ByI.part (h : ByI n W al dl k X bf0 st pl (c :: D) m0 w bf fr to mk ws) (hnd : (c :: D).Nodup) (he : fr c + mk c < to c) (hdl : ∀ j s, j < W → s < n → dl j s < n) (hX : ∀ s t, s < n → t < n → al s = al t → (X s ↔ X t)) (small : Bool) :
  ByI n W al dl k X bf0 st pl D m0 (w + 1) (fun s => if bf s = c ∧ pl s < fr c + mk c then w else bf s) (updN (updN fr c (fr c + mk c)) w (fr c)) (updN to w (fr c + mk c)) (updN (updN mk c 0) w 0) (lessA small c w ws W) := by
 rw [List.nodup_cons] at hnd
 obtain ⟨hc1, hc2, hc3⟩ := h.rest c (List.mem_cons_self ..)
 have hbw := h.P.bl_lt
 have hPN := h.P.part hc1 hc2 (by omega)
 obtain ⟨l1, l2, l3, l4, l5, l6⟩ := lessA_all small c w ws W
 have hmk : ∀ s, s < n → bf s = c → (pl s < fr c + mk c ↔ X s) := fun s hs e => by
  have := hc3 s hs e
  unfold Mkd at this
  rw [e] at this
  exact this
 have hback : ∀ s t, s < n → t < n → (if bf s = c ∧ pl s < fr c + mk c then w else bf s) = (if bf t = c ∧ pl t < fr c + mk c then w else bf t) → bf s = bf t := fun s t hs ht e => by
  have h1 := hbw s hs
  have h2 := hbw t ht
  split at e
  ·rename_i g1
   split at e
   ·rename_i g2; rw [g1.1, g2.1]
   ·omega
  ·split at e
   ·omega
   ·exact e
 refine ⟨hPN, fun c' hc' => ?_, fun c' h1 h2 => ?_, fun s t hs ht e hn => ?_, fun s t hs ht e => ?_, fun s t hs ht e => h.lab s t hs ht (hback s t hs ht e), h.law.split hdl hbw l1 l3 l4, l6 h.nd, fun p hp => ?_, ?_⟩
 ·obtain ⟨g1, g2, g3⟩ := h.rest c' (List.mem_cons_of_mem _ hc')
  have hne : c' ≠ c := fun e => hnd.1 (e ▸ hc')
  have hnw : c' ≠ w := by omega
  refine ⟨by omega, by rw [updN_ne _ _ hnw, updN_ne _ _ hne]; exact g2, fun s hs e => ?_⟩
  have e : (if bf s = c ∧ pl s < fr c + mk c then w else bf s) = c' := e
  have e1 : bf s = c' := by
   split at e
   ·omega
   ·exact e
  have := g3 s hs e1
  unfold Mkd at this ⊢
  rw [e1] at this
  show pl s < updN _ w _ (if _ then _ else _) + updN _ w _ (if _ then _ else _) ↔ _
  rw [e, updN_ne _ _ hnw, updN_ne _ _ hne, updN_ne _ _ hnw, updN_ne _ _ hne]
  exact this
 ·by_cases e : c' = w
  ·rw [e, updN_same]
  ·rw [updN_ne _ _ e]
   by_cases e2 : c' = c
   ·rw [e2, updN_same]
   ·rw [updN_ne _ _ e2]
    exact h.zero c' (by omega) fun hm => (List.mem_cons.1 hm).elim e2 h2
 ·have e : (if bf s = c ∧ pl s < fr c + mk c then w else bf s) = (if bf t = c ∧ pl t < fr c + mk c then w else bf t) := e
  have hn : (if bf s = c ∧ pl s < fr c + mk c then w else bf s) ∉ D := hn
  have e0 := hback s t hs ht e
  by_cases e2 : bf s = c
  ·have e3 : bf t = c := by rw [← e0, e2]
   have h1 := hbw s hs
   rw [← hmk s hs e2, ← hmk t ht e3]
   rw [e2, e3] at e
   simp only [true_and] at e
   by_cases g1 : pl s < fr c + mk c
   ·rw [if_pos g1] at e
    refine ⟨fun _ => ?_, fun _ => g1⟩
    apply Classical.byContradiction
    intro g2
    rw [if_neg g2] at e
    omega
   ·rw [if_neg g1] at e
    refine ⟨fun g => absurd g g1, fun g2 => ?_⟩
    rw [if_pos g2] at e
    omega
  ·rw [if_neg fun g => e2 g.1] at hn
   exact h.same s t hs ht e0 fun hm => (List.mem_cons.1 hm).elim e2 hn
 ·show (if _ then _ else _) = (if _ then _ else _)
  have e0 := h.fine s t hs ht e
  by_cases e2 : bf s = c
  ·have e3 : bf t = c := by rw [← e0, e2]
   have hx := hX s t hs ht e
   rw [← hmk s hs e2, ← hmk t ht e3] at hx
   by_cases g1 : pl s < fr c + mk c
   ·rw [if_pos ⟨e2, g1⟩, if_pos ⟨e3, hx.1 g1⟩]
   ·rw [if_neg fun g => g1 g.2, if_neg fun g => g1 (hx.2 g.2)]; exact e0
  ·rw [if_neg fun g => e2 g.1, if_neg fun g => e2 (by rw [e0]; exact g.1)]; exact e0
 ·rcases l2 p hp with g | ⟨g1, g2⟩
  ·have := h.bd p g; omega
  ·refine ⟨?_, g2⟩
   rcases g1 with g | g <;> omega
 ·have h1 := h.ms
  have h2 := hPN.nb_le
  have h3 : W * (n - w) = W * (n - (w + 1)) + W := by rw [← Nat.mul_succ]; congr 1; omega
  omega
end
end Go.Proofs.Ytdeableflgakdaa
namespace Go.Proofs.Ytdeableflgakdaa
open Go Go.V Go.Proofs
theorem natI_get {D : List Nat} {i : Nat} (h : i < D.length) : (natI D)[i]'(by rw [natI_len]; exact h) = .int .i64 (D[i] : Nat) := by simp [natI]
theorem by3_t {n W k m0 : Nat} {al bf0 st pl : Nat → Nat} {dl : Nat → Nat → Nat} {X : Nat → Prop} (hdl : ∀ j s, j < W → s < n → dl j s < n) (hX : ∀ s t, s < n → t < n → al s = al t → (X s ↔ X t)) (hn : n ≤ 66000) (hW : W ≤ 256) {D : List Nat} (hD : D.Nodup) (hDl : D.length ≤ 66000) {w : Nat} {bf fr to mk : Nat → Nat} {ws : List (Nat × Nat)} (hI : ByI n W al dl k X bf0 st pl D m0 w bf fr to mk ws) (hm0 : m0 ≤ 20000000) {am : List ((Int × Int) × Int)} (hA : AskI am ws) {a : Option Addr} {c : Nat} {G : PHeap} (hrow : Row G a (natI D)) {bp bs ba bl bx bm cb csp : Nat} {spb spx : List Value} (hcx : w * 3 + spx.length = csp * 3) {vk vw : Value} {kw : Heap} (hO : WtO vw ws kw) {H : Heap} :
  Tri Try.prog Try.f30.ntmps (piece [1, 1, 1, 1] Try.f30) G [(0, .pointer (some ⟨bp, 0, none⟩)), (9, .slice a D.length c)] ((bp, .cells (PC (.slice (some ⟨bs, 0, none⟩) n n) (.slice (some ⟨ba, 0, none⟩) n n) (.slice (some ⟨bl, 0, none⟩) n cb) (.slice (some ⟨bx, 0, none⟩) w csp) vk vw (.map (some bm)) (W : Nat)) [] 52) :: (bx, .cells (row3 w fr to mk) spx 75) :: (bs, .cells (rowN n st) [] 3) :: (bl, .cells (rowN n bf) spb 3) :: (bm, .map (am.map fun p => (enc2 p.1, Value.int .i64 p.2))) :: (kw ++ H)) (onlyN fun G' l H' => ∃ (w : Nat) (bf fr to mk : Nat → Nat) (ws : List (Nat × Nat)) (am : List ((Int × Int) × Int)) (vw : Value) (kw : Heap) (bx csp : Nat) (spx : List Value), ByI n W al dl k X bf0 st pl [] m0 w bf fr to mk ws ∧ AskI am ws ∧ WtO vw ws kw ∧ w * 3 + spx.length = csp * 3 ∧ G' = G ∧ H' = (bp, .cells (PC (.slice (some ⟨bs, 0, none⟩) n n) (.slice (some ⟨ba, 0, none⟩) n n) (.slice (some ⟨bl, 0, none⟩) n cb) (.slice (some ⟨bx, 0, none⟩) w csp) vk vw (.map (some bm)) (W : Nat)) [] 52) :: (bx, .cells (row3 w fr to mk) spx 75) :: (bs, .cells (rowN n st) [] 3) :: (bl, .cells (rowN n bf) spb 3) :: (bm, .map (am.map fun p => (enc2 p.1, Value.int .i64 p.2))) :: (kw ++ H)) := by
 refine Tri.sepT fun hs0 => ?_
 have hsE := hs0
 try simp only [zzs] at hsE
 repeat (obtain ⟨hsx, hsE⟩ := hsE)
 refine Tri.piece (f := Try.f30) rfl ?_
 refine Tri.run tok [0, 1, 2, 6, 8, 9, 11, 13, 14, 15, 18, 19, 20, 21, 37, 38, 39, 40, 57, 72, 73, 74, 75, 82, 86, 87, 88] (by kernel_rfl) ?_
 repeat' first
  | (with_reducible first | refine Nx.go ?_ | refine Bk.go (fun _ => ?_) fun _ => ?_)
  | ((with_reducible first | refine NewB.mk2 fun nb hnb hnb1 hnb2 => ?_ | refine NewRow.mk2 fun nb nsp ncap hnb hncap hnb1 hnb2 => ?_); try simp only [zzn] at hnb2)
  | simp -dsimp -implicitDefEqProofs (disch := first | assumption | (simp only [zzm]; done) | omega | (try with_reducible refine Row.adr (by assumption) ?_); simp only [zzl, Nat.reduceAdd]; first | done | omega) only [go_sem, ↓reduceIte, seval]
 refine Tri.loopS tok [0, 1, 2, 6, 8, 9, 11, 13, 14, 15, 18, 19, 20, 21, 37, 38, 39, 40, 57, 72, 73, 74, 75, 82, 86, 87, 88] (.seq .run (.seq .run (.seq (.block (.seq .run (.seq .run (.seq .run .cut)))) .cut))) (by kernel_rfl) [0, 72, 73, 74] (fun q G' l H' => ∃ (i w : Nat) (bf fr to mk : Nat → Nat) (ws : List (Nat × Nat)) (am : List ((Int × Int) × Int)) (vw : Value) (kw : Heap) (bx csp : Nat) (spx : List Value), i + q = D.length ∧ ByI n W al dl k X bf0 st pl (D.drop i) m0 w bf fr to mk ws ∧ AskI am ws ∧ WtO vw ws kw ∧ w * 3 + spx.length = csp * 3 ∧ G' = G ∧ H' = (bp, .cells (PC (.slice (some ⟨bs, 0, none⟩) n n) (.slice (some ⟨ba, 0, none⟩) n n) (.slice (some ⟨bl, 0, none⟩) n cb) (.slice (some ⟨bx, 0, none⟩) w csp) vk vw (.map (some bm)) (W : Nat)) [] 52) :: (bx, .cells (row3 w fr to mk) spx 75) :: (bs, .cells (rowN n st) [] 3) :: (bl, .cells (rowN n bf) spb 3) :: (bm, .map (am.map fun p => (enc2 p.1, Value.int .i64 p.2))) :: (kw ++ H) ∧ l = [(0, .pointer (some ⟨bp, 0, none⟩)), (72, .slice a D.length c), (73, .int .i64 (D.length : Nat)), (74, .int .i64 (i : Nat))]) (D.length) ?_ ?_
 ·exact Upd.now ⟨0, w, bf, fr, to, mk, ws, am, vw, kw, bx, csp, spx, by omega, hI, hA, hO, hcx, rfl, rfl, rfl⟩
 ·clear hI hA hO hcx hs0
  rintro q G1 l H1 hle hs1 ⟨i, w, bf, fr, to, mk, ws, am, vw, kw, bx, csp, spx, hiq, hI, hA, hO, hcx, rfl, rfl, rfl⟩
  have hsE := hs1
  try simp only [zzs] at hsE
  repeat (obtain ⟨hsx, hsE⟩ := hsE)
  by_cases hi : i < D.length
  ·have hada : Adr a := hrow.adr (by rw [natI_len]; omega)
   have hgi := natI_get hi
   have hil : i < (natI D).length := by rw [natI_len]; exact hi
   have hdr : D.drop i = D[i] :: D.drop (i + 1) := List.drop_eq_getElem_cons hi
   obtain ⟨c, hc⟩ : ∃ c, c = D[i] := ⟨_, rfl⟩
   rw [← hc] at hgi hdr
   rw [hdr] at hI
   have hndd : (c :: D.drop (i + 1)).Nodup := by rw [← hdr]; exact hD.sublist (List.drop_sublist i D)
   obtain ⟨hc1, hc2, hc3⟩ := hI.rest c (List.mem_cons_self ..)
   have hPn := hI.P.nb_le
   have hms := hI.ms
   repeat' first
    | (with_reducible first | refine Nx.go ?_ | refine Bk.go (fun _ => ?_) fun _ => ?_)
    | ((with_reducible first | refine NewB.mk2 fun nb hnb hnb1 hnb2 => ?_ | refine NewRow.mk2 fun nb nsp ncap hnb hncap hnb1 hnb2 => ?_); try simp only [zzn] at hnb2)
    | simp -dsimp -implicitDefEqProofs (disch := first | assumption | (simp only [zzm]; done) | omega | (try with_reducible refine Row.adr (by assumption) ?_); simp only [zzl, Nat.reduceAdd]; first | done | omega) only [go_sem, ↓reduceIte, seval, Row.obj hrow, hgi]
   refine part_t hI.P (by omega) hc1 hc2 hcx (fun he => ?_) fun bx' csp' spx' he hcx' => ?_
   ·have hI2 := hI.all hndd he
    repeat' first
     | (with_reducible first | refine Nx.go ?_ | refine Bk.go (fun _ => ?_) fun _ => ?_)
     | ((with_reducible first | refine NewB.mk2 fun nb hnb hnb1 hnb2 => ?_ | refine NewRow.mk2 fun nb nsp ncap hnb hncap hnb1 hnb2 => ?_); try simp only [zzn] at hnb2)
     | simp -dsimp -implicitDefEqProofs (disch := first | assumption | (simp only [zzm]; done) | omega | (try with_reducible refine Row.adr (by assumption) ?_); simp only [zzl, Nat.reduceAdd]; first | done | omega) only [go_sem, ↓reduceIte, seval]
    refine Tri.run tok [0, 1, 2, 6, 8, 9, 11, 13, 14, 15, 18, 19, 20, 21, 37, 38, 39, 40, 57, 72, 73, 74, 75, 82, 86, 87, 88] (by kernel_rfl) ?_
    repeat' first
     | (with_reducible first | refine Nx.go ?_ | refine Bk.go (fun _ => ?_) fun _ => ?_)
     | ((with_reducible first | refine NewB.mk2 fun nb hnb hnb1 hnb2 => ?_ | refine NewRow.mk2 fun nb nsp ncap hnb hncap hnb1 hnb2 => ?_); try simp only [zzn] at hnb2)
     | simp -dsimp -implicitDefEqProofs (disch := first | assumption | (simp only [zzm]; done) | omega | (try with_reducible refine Row.adr (by assumption) ?_); simp only [zzl, Nat.reduceAdd]; first | done | omega) only [go_sem, ↓reduceIte, seval]
    exact Upd.now ⟨q - 1, by omega, i + 1, w, bf, fr, to, _, ws, am, vw, kw, bx, csp, spx, by omega, hI2, hA, hO, hcx, rfl, rfl, rfl⟩
   ·have hI2 := hI.part hndd he hdl hX (decide (updN to w (fr c + mk c) w - updN (updN fr c (fr c + mk c)) w (fr c) w ≤ updN to w (fr c + mk c) c - updN (updN fr c (fr c + mk c)) w (fr c) c))
    have hPn2 := hI2.P.nb_le
    repeat' first
     | (with_reducible first | refine Nx.go ?_ | refine Bk.go (fun _ => ?_) fun _ => ?_)
     | ((with_reducible first | refine NewB.mk2 fun nb hnb hnb1 hnb2 => ?_ | refine NewRow.mk2 fun nb nsp ncap hnb hncap hnb1 hnb2 => ?_); try simp only [zzn] at hnb2)
     | simp -dsimp -implicitDefEqProofs (disch := first | assumption | (simp only [zzm]; done) | omega | (try with_reducible refine Row.adr (by assumption) ?_); simp only [zzl, Nat.reduceAdd]; first | done | omega) only [go_sem, ↓reduceIte, seval]
    refine Tri.live [0, 13, 14, 72, 73, 74] ?_
    refine Tri.upd (Upd.go (H' := (bp, .cells (PC (.slice (some ⟨bs, 0, none⟩) n n) (.slice (some ⟨ba, 0, none⟩) n n) (.slice (some ⟨bl, 0, none⟩) n cb) (.slice (some ⟨bx', 0, none⟩) (w + 1) csp') vk vw (.map (some bm)) (W : Nat)) [] 52) :: (bx', .cells (row3 (w + 1) (updN (updN fr c (fr c + mk c)) w (fr c)) (updN to w (fr c + mk c)) (updN (updN mk c 0) w 0)) spx' 75) :: (bm, .map (am.map fun p => (enc2 p.1, Value.int .i64 p.2))) :: (kw ++ ((bs, .cells (rowN n st) [] 3) :: (bl, .cells (rowN n (fun s => if bf s = c ∧ pl s < fr c + mk c then w else bf s)) spb 3) :: H))) (by intro fsum; simp only [zzq]; omega) (Upd.now ?_))
    refine Tri.isPiece [1, 1, 1, 1, 1, 0, 0, 1, 1, 0, 0, 1, 1, 1] Try.f30 (by kernel_rfl) ?_
    refine Tri.onlyN (by4_t (W := W) (by omega) hA (by omega) (by omega) (by omega) (by omega) (fun b hb => ?_) hO) fun G2 l2 H2 hle2 hs2 hM => ?_
    ·have h1 := hI2.P.ne b hb
     have h2 := hI2.P.le b hb
     exact ⟨by omega, by omega⟩
    ·obtain ⟨vw2, am2, kw2, hO2, hA2, rfl, hfr, rfl⟩ := hM
     simp only [go_sem]
     refine Tri.live [0, 72, 73, 74] ?_
     rw [hfr]
     refine Tri.run tok [0, 1, 2, 6, 8, 9, 11, 13, 14, 15, 18, 19, 20, 21, 37, 38, 39, 40, 57, 72, 73, 74, 75, 82, 86, 87, 88] (by kernel_rfl) ?_
     repeat' first
      | (with_reducible first | refine Nx.go ?_ | refine Bk.go (fun _ => ?_) fun _ => ?_)
      | ((with_reducible first | refine NewB.mk2 fun nb hnb hnb1 hnb2 => ?_ | refine NewRow.mk2 fun nb nsp ncap hnb hncap hnb1 hnb2 => ?_); try simp only [zzn] at hnb2)
      | simp -dsimp -implicitDefEqProofs (disch := first | assumption | (simp only [zzm]; done) | omega | (try with_reducible refine Row.adr (by assumption) ?_); simp only [zzl, Nat.reduceAdd]; first | done | omega) only [go_sem, ↓reduceIte, seval]
     refine Upd.leave (H' := (bp, .cells (PC (.slice (some ⟨bs, 0, none⟩) n n) (.slice (some ⟨ba, 0, none⟩) n n) (.slice (some ⟨bl, 0, none⟩) n cb) (.slice (some ⟨bx', 0, none⟩) (w + 1) csp') vk vw2 (.map (some bm)) (W : Nat)) [] 52) :: (bx', .cells (row3 (w + 1) (updN (updN fr c (fr c + mk c)) w (fr c)) (updN to w (fr c + mk c)) (updN (updN mk c 0) w 0)) spx' 75) :: (bs, .cells (rowN n st) [] 3) :: (bl, .cells (rowN n (fun s => if bf s = c ∧ pl s < fr c + mk c then w else bf s)) spb 3) :: (bm, .map (am2.map fun p => (enc2 p.1, Value.int .i64 p.2))) :: (kw2 ++ H)) (by intro fsum; simp only [zzq]; omega) ?_
     exact ⟨q - 1, by omega, i + 1, w + 1, _, _, _, _, _, am2, vw2, kw2, bx', csp', spx', by omega, hI2, hA2, hO2, hcx', rfl, rfl, rfl⟩
  ·have hd : D.drop i = [] := List.drop_eq_nil_of_le (by omega)
   rw [hd] at hI
   repeat' first
    | (with_reducible first | refine Nx.go ?_ | refine Bk.go (fun _ => ?_) fun _ => ?_)
    | ((with_reducible first | refine NewB.mk2 fun nb hnb hnb1 hnb2 => ?_ | refine NewRow.mk2 fun nb nsp ncap hnb hncap hnb1 hnb2 => ?_); try simp only [zzn] at hnb2)
    | simp -dsimp -implicitDefEqProofs (disch := first | assumption | (simp only [zzm]; done) | omega | (try with_reducible refine Row.adr (by assumption) ?_); simp only [zzl, Nat.reduceAdd]; first | done | omega) only [go_sem, ↓reduceIte, seval]
   exact Upd.now ⟨w, bf, fr, to, mk, ws, am, vw, kw, bx, csp, spx, hI, hA, hO, hcx, rfl, rfl⟩
structure HInv (n W : Nat) (al bf0 : Nat → Nat) (w : Nat) (st pl bf fr to : Nat → Nat) (ws : List (Nat × Nat)) : Prop where
 P : PInv n w st pl bf fr to fun _ => 0
 fine : ∀ s t, s < n → t < n → al s = al t → bf s = bf t
 lab : ∀ s t, s < n → t < n → bf s = bf t → bf0 s = bf0 t
 nd : ws.Nodup
 bd : ∀ p ∈ ws, p.1 < w ∧ p.2 < W
theorem by_t {n W w : Nat} {al bf0 st pl bf fr to : Nat → Nat} {dl : Nat → Nat → Nat} (hdl : ∀ j s, j < W → s < n → dl j s < n) (hal : ∀ j s t, j < W → s < n → t < n → al s = al t → al (dl j s) = al (dl j t)) (hn : n ≤ 66000) (hW : W ≤ 256) {ws : List (Nat × Nat)} (hI : HInv n W al bf0 w st pl bf fr to ws) {b k : Nat} (hb : b < w) (hk : k < W) (hlaw : PLaw n W bf dl ws k fun s => bf (dl k s) = b) (hm0 : ws.length + W * (n - w) ≤ 20000000) {am : List ((Int × Int) × Int)} (hA : AskI am ws) {G : PHeap} {bp bs ba bl bx bm cb csp : Nat} {spb spx : List Value} (hcx : w * 3 + spx.length = csp * 3) {vk vw : Value} {kw : Heap} (hO : WtO vw ws kw) (hbk : BkT G n W dl vk) {H : Heap} {R : Value → PHeap → Heap → Prop}
  (hR : ∀ G' w' st' pl' bf' fr' to' ws' am' vw' kw' bx' csp' spx', PLe G G' → HInv n W al bf0 w' st' pl' bf' fr' to' ws' → PLaw n W bf' dl ws' 0 (fun _ => False) → ws'.length + W * (n - w') ≤ ws.length + W * (n - w) → AskI am' ws' → w' * 3 + spx'.length = csp' * 3 → WtO vw' ws' kw' → R (.tuple #[]) G' ((bp, .cells (PC (.slice (some ⟨bs, 0, none⟩) n n) (.slice (some ⟨ba, 0, none⟩) n n) (.slice (some ⟨bl, 0, none⟩) n cb) (.slice (some ⟨bx', 0, none⟩) w' csp') vk vw' (.map (some bm)) (W : Nat)) [] 52) :: (bx', .cells (row3 w' fr' to' (fun _ => 0)) spx' 75) :: (bs, .cells (rowN n st') [] 3) :: (ba, .cells (rowN n pl') [] 3) :: (bl, .cells (rowN n bf') spb 3) :: (bm, .map (am'.map fun p => (enc2 p.1, Value.int .i64 p.2))) :: (kw' ++ H))) :
  FnT Try.prog 30 [.pointer (some ⟨bp, 0, none⟩), .int .i64 (b : Nat), .int .i64 (k : Nat)] G ((bp, .cells (PC (.slice (some ⟨bs, 0, none⟩) n n) (.slice (some ⟨ba, 0, none⟩) n n) (.slice (some ⟨bl, 0, none⟩) n cb) (.slice (some ⟨bx, 0, none⟩) w csp) vk vw (.map (some bm)) (W : Nat)) [] 52) :: (bx, .cells (row3 w fr to (fun _ => 0)) spx 75) :: (bs, .cells (rowN n st) [] 3) :: (ba, .cells (rowN n pl) [] 3) :: (bl, .cells (rowN n bf) spb 3) :: (bm, .map (am.map fun p => (enc2 p.1, Value.int .i64 p.2))) :: (kw ++ H)) R := by
 have hP := hI.P
 have hbt := hP.le b hb
 have hbf := hP.ne b hb
 obtain ⟨L, hL⟩ : ∃ L, L = fromL (dl k) n st (fr b) (to b - fr b) := ⟨_, rfl⟩
 have hmem : ∀ x : Int, x ∈ L ↔ ∃ s : Nat, s < n ∧ bf (dl k s) = b ∧ x = s := fun x => by
  rw [hL, mem_fromL]
  constructor
  ·rintro ⟨s, h1, ⟨j, h2, h3⟩, h4⟩
   exact ⟨s, h1, by rw [h3]; exact hP.own b _ hb (by omega) (by omega), h4⟩
  ·rintro ⟨s, h1, h2, h3⟩
   have hds := hdl k s hk h1
   have hlo := hP.lo _ hds
   have hhi := hP.hi _ hds
   rw [h2] at hlo hhi
   exact ⟨s, h1, ⟨pl (dl k s) - fr b, by omega, by rw [show fr b + (pl (dl k s) - fr b) = pl (dl k s) by omega, hP.st_pl _ hds]⟩, h3⟩
 have hLl : L.length ≤ 5000000000 := by
  have h1 := fromL_len (dl k) n st (fr b) (to b - fr b)
  have h2 : (to b - fr b) * n ≤ 66000 * 66000 := Nat.mul_le_mul (by omega) hn
  rw [hL]; omega
 refine FnT.bodyS tok [0, 1, 2, 6, 8, 9, 11, 13, 14, 15, 18, 19, 20, 21, 37, 38, 39, 40, 57, 72, 73, 74, 75, 82, 86, 87, 88] (.seq .run (.seq .cut (.seq .cut (.seq .cut .cut)))) Try.func30 rfl (by kernel_rfl) (by kernel_rfl) (by show _ ≤ 97; simp) fun hsep => ?_
 rw [Try.results30]
 have hsE := hsep
 try simp only [zzs] at hsE
 repeat (obtain ⟨hsx, hsE⟩ := hsE)
 repeat' first
  | (with_reducible first | refine Nx.go ?_ | refine Bk.go (fun _ => ?_) fun _ => ?_)
  | ((with_reducible first | refine NewB.mk2 fun nb hnb hnb1 hnb2 => ?_ | refine NewRow.mk2 fun nb nsp ncap hnb hncap hnb1 hnb2 => ?_); try simp only [zzn] at hnb2)
  | simp -dsimp -implicitDefEqProofs (disch := first | assumption | (simp only [zzm]; done) | omega | (try with_reducible refine Row.adr (by assumption) ?_); simp only [zzl, Nat.reduceAdd]; first | done | omega) only [go_sem, ↓reduceIte, seval]
 refine Tri.live [0, 1, 2, 6] ?_
 refine Tri.upd (Upd.go (H' := (bp, .cells (PC (.slice (some ⟨bs, 0, none⟩) n n) (.slice (some ⟨ba, 0, none⟩) n n) (.slice (some ⟨bl, 0, none⟩) n cb) (.slice (some ⟨bx, 0, none⟩) w csp) vk vw (.map (some bm)) (W : Nat)) [] 52) :: (bx, .cells (row3 w fr to (fun _ => 0)) spx 75) :: (bs, .cells (rowN n st) [] 3) :: ((ba, .cells (rowN n pl) [] 3) :: (bl, .cells (rowN n bf) spb 3) :: (bm, .map (am.map fun p => (enc2 p.1, Value.int .i64 p.2))) :: (kw ++ H))) (by intro fsum; first | exact Nat.le_refl _ | (simp only [zzq]; omega)) (Upd.now ?_))
 refine Tri.isPiece [1, 0] Try.f30 (by kernel_rfl) ?_
 refine Tri.onlyN (by1_t hP hn hb hk hbk) fun G1 l1 H1 hle1 hs1 hM => ?_
 obtain ⟨vf, kf, hOf, rfl, hfr, rfl⟩ := hM
 rw [← hL] at hOf
 simp only [go_sem]
 refine Tri.live [0, 6] ?_
 rw [hfr]
 refine Tri.upd (Upd.go (H' := kf ++ ((bp, .cells (PC (.slice (some ⟨bs, 0, none⟩) n n) (.slice (some ⟨ba, 0, none⟩) n n) (.slice (some ⟨bl, 0, none⟩) n cb) (.slice (some ⟨bx, 0, none⟩) w csp) vk vw (.map (some bm)) (W : Nat)) [] 52) :: (bx, .cells (row3 w fr to (fun _ => 0)) spx 75) :: (bs, .cells (rowN n st) [] 3) :: (ba, .cells (rowN n pl) [] 3) :: (bl, .cells (rowN n bf) spb 3) :: ((bm, .map (am.map fun p => (enc2 p.1, Value.int .i64 p.2))) :: (kw ++ H)))) (by intro fsum; simp only [zzq]; omega) (Upd.sepI fun hsx => SliceO.shareApp hOf hsx fun G2 af cf hle2 hs2 evf hrf hcf => ?_))
 subst evf
 refine Tri.run tok [0, 1, 2, 6, 8, 9, 11, 13, 14, 15, 18, 19, 20, 21, 37, 38, 39, 40, 57, 72, 73, 74, 75, 82, 86, 87, 88] (by kernel_rfl) ?_
 repeat' first
  | (with_reducible first | refine Nx.go ?_ | refine Bk.go (fun _ => ?_) fun _ => ?_)
  | ((with_reducible first | refine NewB.mk2 fun nb hnb hnb1 hnb2 => ?_ | refine NewRow.mk2 fun nb nsp ncap hnb hncap hnb1 hnb2 => ?_); try simp only [zzn] at hnb2)
  | simp -dsimp -implicitDefEqProofs (disch := first | assumption | (simp only [zzm]; done) | omega | (try with_reducible refine Row.adr (by assumption) ?_); simp only [zzl, Nat.reduceAdd]; first | done | omega) only [go_sem, ↓reduceIte, seval]
 refine Tri.isPiece [1, 1, 1, 0] Try.f30 (by kernel_rfl) ?_
 refine Tri.onlyN (by2_t hP hn (fun x hx => by obtain ⟨s, h1, _, h3⟩ := (hmem x).1 hx; exact ⟨s, h1, h3⟩) hLl hrf) fun G3 l3 H3 hle3 hs3 hM => ?_
 obtain ⟨st2, pl2, mk2, D, vd, kd, hP2, hM2, hD1, hD2, hD3, hOd, rfl, hfr3, rfl⟩ := hM
 simp only [go_sem]
 refine Tri.live [0, 9] ?_
 rw [hfr3]
 refine Tri.upd (Upd.go (H' := kd ++ ((bp, .cells (PC (.slice (some ⟨bs, 0, none⟩) n n) (.slice (some ⟨ba, 0, none⟩) n n) (.slice (some ⟨bl, 0, none⟩) n cb) (.slice (some ⟨bx, 0, none⟩) w csp) vk vw (.map (some bm)) (W : Nat)) [] 52) :: (bx, .cells (row3 w fr to mk2) spx 75) :: (bs, .cells (rowN n st2) [] 3) :: (bl, .cells (rowN n bf) spb 3) :: (bm, .map (am.map fun p => (enc2 p.1, Value.int .i64 p.2))) :: (kw ++ ((ba, .cells (rowN n pl2) [] 3) :: H)))) (by intro fsum; simp only [zzq]; omega) (Upd.sepI fun hsx => SliceO.shareApp hOd hsx fun G4 ad cd hle4 hs4 evd hrd hcd => ?_))
 subst evd
 have hX : ∀ s, s < n → (Mkd pl2 bf fr mk2 s ↔ bf (dl k s) = b) := fun s hs => by
  rw [hM2 s hs, hmem]
  constructor
  ·rintro ⟨t, h1, h2, h3⟩
   obtain rfl : s = t := by omega
   exact h2
  ·exact fun h => ⟨s, hs, h, rfl⟩
 have hBy : ByI n W al dl k (fun s => bf (dl k s) = b) bf0 st2 pl2 D (ws.length + W * (n - w)) w bf fr to mk2 ws := by
  refine ⟨hP2, fun c hc => ⟨(hD2 c hc).1, (hD2 c hc).2, fun s hs _ => hX s hs⟩, fun c _ hc => hD3 c hc, fun s t hs ht e hn => ?_, hI.fine, hI.lab, hlaw, hI.nd, hI.bd, Nat.le_refl _⟩
  have hz := hD3 _ hn
  have h1 : ¬ Mkd pl2 bf fr mk2 s := fun h => by
   unfold Mkd at h
   have := hP2.lo s hs
   omega
  have h2 : ¬ Mkd pl2 bf fr mk2 t := fun h => by
   unfold Mkd at h
   rw [← e] at h
   have := hP2.lo t ht
   rw [← e] at this
   omega
  show bf (dl k s) = b ↔ bf (dl k t) = b
  rw [← hX s hs, ← hX t ht]
  exact ⟨fun h => absurd h h1, fun h => absurd h h2⟩
 refine Tri.isPiece [1, 1, 1, 1] Try.f30 (by kernel_rfl) ?_
 refine Tri.onlyN (by3_t hdl (fun s t hs ht e => by
  show bf (dl k s) = b ↔ bf (dl k t) = b
  rw [hI.fine _ _ (hdl k s hk hs) (hdl k t hk ht) (hal k s t hk hs ht e)]) hn hW hD1 (by have := nodup_bound hD1 fun c hc => (hD2 c hc).1; have := hP.nb_le; omega) hBy hm0 hA hrd hcx hO) fun G5 l5 H5 hle5 hs5 hM => ?_
 obtain ⟨w', bf', fr', to', mk', ws', am', vw', kw', bx', csp', spx', hI', hA', hO', hcx', rfl, rfl⟩ := hM
 simp only [go_sem]
 have hmz : ∀ c, c < w' → mk' c = 0 := fun c hc => hI'.zero c hc (by simp)
 have hrz : row3 w' fr' to' mk' = row3 w' fr' to' fun _ => 0 := row3_congr fun i hi => ⟨rfl, rfl, hmz i hi⟩
 have hPz : PInv n w' st2 pl2 bf' fr' to' fun _ => 0 := ⟨hI'.P.st_lt, hI'.P.pl_lt, hI'.P.pl_st, hI'.P.st_pl, hI'.P.bl_lt, hI'.P.lo, hI'.P.hi, hI'.P.ne, hI'.P.le, fun c hc => by have := hI'.P.ne c hc; omega, hI'.P.own⟩
 rw [hrz]
 unfold UpdR
 refine Upd.leave (H' := (bp, .cells (PC (.slice (some ⟨bs, 0, none⟩) n n) (.slice (some ⟨ba, 0, none⟩) n n) (.slice (some ⟨bl, 0, none⟩) n cb) (.slice (some ⟨bx', 0, none⟩) w' csp') vk vw' (.map (some bm)) (W : Nat)) [] 52) :: (bx', .cells (row3 w' fr' to' (fun _ => 0)) spx' 75) :: (bs, .cells (rowN n st2) [] 3) :: (ba, .cells (rowN n pl2) [] 3) :: (bl, .cells (rowN n bf') spb 3) :: (bm, .map (am'.map fun p => (enc2 p.1, Value.int .i64 p.2))) :: (kw' ++ H)) (by intro fsum; simp only [zzq]; omega) ?_
 exact hR G5 w' st2 pl2 bf' fr' to' ws' am' vw' kw' bx' csp' spx' (hle2.trans hle4) ⟨hPz, hI'.fine, hI'.lab, hI'.nd, hI'.bd⟩ (hI'.law.end fun s t hs ht e => hI'.same s t hs ht e (by simp)) hI'.ms hA' hcx' hO'
end Go.Proofs.Ytdeableflgakdaa
namespace Go.Proofs.Ytdeableflgakdaa
open Go Go.V Go.Proofs
def partQ (r : List Int) (k : Nat) : List Int := r.take k ++ List.replicate (r.length - k) 0
theorem partQ_len (r : List Int) {k : Nat} (h : k ≤ r.length) : (partQ r k).length = r.length := by
 unfold partQ; rw [List.length_append, List.length_take, List.length_replicate]; omega
theorem partQ_put {r : List Int} {k : Nat} (h : k < r.length) : splice ((partQ r k).map (Value.int .i64)) k [.int .i64 r[k]] = (partQ r (k + 1)).map (Value.int .i64) := by
 unfold splice partQ
 have hn : (r.take k).length = k := by rw [List.length_take]; omega
 rw [List.take_succ_eq_append_getElem h]
 generalize r.take k = ps at hn
 rw [List.map_append, List.map_append, List.map_append, List.map_replicate, List.map_replicate, show r.length - k = (r.length - (k + 1)) + 1 by omega, List.replicate_succ]
 rw [List.take_append_of_le_length (by rw [List.length_map]; omega), List.take_of_length_le (by rw [List.length_map]; omega)]
 rw [List.drop_append, List.drop_of_length_le (by rw [List.length_map]; simp; omega)]
 simp [hn]
theorem partQ_zero (r : List Int) : List.replicate r.length (Value.int .i64 0) = (partQ r 0).map (Value.int .i64) := by
 unfold partQ; rw [List.take_zero, List.nil_append, List.map_replicate]; rfl
theorem partQ_all (r : List Int) : partQ r r.length = r := by
 unfold partQ; rw [List.take_length]; simp
theorem behind_t {d : DfaT} (hsm : SmallD d) (hok : RightP d) {l : List Int} (hl : l.length = d.next.length) {k : Nat} (hk : (k : Int) < d.width) {C : List Value} {an al ay : Option Addr} {cn cl cs : Nat} {rs : List Value} {G : PHeap} (O : OpenD G d C an al ay cn cl cs rs)
  {a : Option Addr} {cap : Nat} (hrow : Row G a (l.map (Value.int .i64))) {b2 b3 : Nat} {H : Heap} {R : Value → PHeap → Heap → Prop}
  (hR : ∀ G' v', PLe G G' → Sep G' (keys ((b3, Res.cells [.slice a l.length cap] [] 24) :: (b2, .cells C [] 27) :: H)) → Sl G' (Value.int .i64) v' (behL d l k) → R v' G' ((b3, .cells [.slice a l.length cap] [] 24) :: (b2, .cells C [] 27) :: H)) :
  FnT Try.prog 100 [.int .i64 k, .pointer (some ⟨b3, 0, none⟩), .pointer (some ⟨b2, 0, none⟩)] G ((b3, .cells [.slice a l.length cap] [] 24) :: (b2, .cells C [] 27) :: H) R := by
 obtain ⟨hm1, hm2, hm3, hm4, hm5⟩ := id hsm
 obtain ⟨hk1, hk2, hk3, hk4, hk5, hk6, hk7⟩ := id hok
 have hCl := O.len
 have hCn := O.n
 have hbl := behL_len d l k
 refine FnT.sep ?_
 refine FnT.body tok [0, 1, 2, 4, 5, 6, 7, 12, 13, 14, 15] Try.func100 rfl (by kernel_rfl) (by kernel_rfl) (by show _ ≤ 31; simp) fun hsep => ?_
 rw [Try.results100]
 have hsE := hsep
 try simp only [zzs] at hsE
 repeat (obtain ⟨hsx, hsE⟩ := hsE)
 repeat' first
  | (with_reducible first | refine Nx.go ?_ | refine Bk.go (fun _ => ?_) fun _ => ?_)
  | ((with_reducible first | refine NewB.mk2 fun nb hnb hnb1 hnb2 => ?_ | refine NewRow.mk2 fun nb nsp ncap hnb hncap hnb1 hnb2 => ?_); try simp only [zzn] at hnb2)
  | simp -dsimp -implicitDefEqProofs (disch := first | assumption | (simp only [zzm]; done) | omega | (try with_reducible refine Row.adr (by assumption) ?_); simp only [zzl, Nat.reduceAdd]; first | done | omega) only [go_sem, ↓reduceIte, seval, -List.reduceReplicate, List.toList_toArray, hCl, hCn, Nat.sub_self, List.replicate_zero]
 revert nb
 intro br hbr hbr1 hbr2
 rw [show List.replicate l.length (Value.int .i64 0) = (partQ (behL d l k) 0).map (Value.int .i64) by rw [hl, ← hbl, partQ_zero]]
 refine Tri.loopU tok [0, 1, 2, 4, 5, 6, 7, 12, 13, 14, 15] (by kernel_rfl) [0, 1, 2, 4, 5, 12, 13, 14] (fun q G' fr H' => ∃ s : Nat, s + q = d.next.length ∧ G' = G ∧ H' = (br, .cells ((partQ (behL d l k) s).map (Value.int .i64)) [] 3) :: (b3, .cells [.slice a l.length cap] [] 24) :: (b2, .cells C [] 27) :: H ∧ fr = [(0, .int .i64 k), (1, .pointer (some ⟨b3, 0, none⟩)), (2, .pointer (some ⟨b2, 0, none⟩)), (4, .slice none 0 0), (5, .slice (some ⟨br, 0, none⟩) l.length l.length), (12, .slice an d.next.length cn), (13, .int .i64 d.next.length), (14, .int .i64 (s : Nat))]) (d.next.length) ?_ ?_
 ·exact Upd.now ⟨0, by omega, rfl, rfl, rfl⟩
 ·rintro q G1 fr H' hle hs ⟨s, hsq, rfl, rfl, rfl⟩
  have hpl : (partQ (behL d l k) s).length = d.next.length := by rw [partQ_len _ (by omega), hbl]
  have hsE := hs
  try simp only [zzs] at hsE
  repeat (obtain ⟨hsx, hsE⟩ := hsE)
  by_cases hsl : s < d.next.length
  ·have hsl2 : s < d.label.length := by omega
   have hsv : s < rs.length := by have := O.rnl; omega
   obtain ⟨b, c, e1, e2, e3⟩ := O.rs s hsl hsv
   obtain ⟨hw0, _, _, hrng⟩ := hk7 s hsl hsl2
   have hkr : k < (d.next[s]).length := by omega
   have hx := hrng _ (List.getElem_mem hkr)
   obtain ⟨y, hxy⟩ := Int.eq_ofNat_of_zero_le hx.1
   have hyl : y < l.length := by omega
   have hsb : s < (behL d l k).length := by omega
   have hval : l[y] = (behL d l k)[s] := by
    simp only [behL, List.getElem_map]
    rw [atL_get (l := d.next[s]) (x := (k : Int)) (by simpa using hkr)]
    simp only [Int.toNat_natCast]
    rw [hxy, atL_get (by simpa using hyl)]
    simp only [Int.toNat_natCast]
   have hput := partQ_put hsb
   have had : Adr an := O.rn.adr (by omega)
   have had2 : Adr b := e2.adr (by rw [List.length_map]; omega)
   have had3 : Adr a := hrow.adr (by rw [List.length_map]; omega)
   have hrl := hm2 _ (List.getElem_mem hsl)
   repeat' first
    | (with_reducible first | refine Nx.go ?_ | refine Bk.go (fun _ => ?_) fun _ => ?_)
    | ((with_reducible first | refine NewB.mk2 fun nb hnb hnb1 hnb2 => ?_ | refine NewRow.mk2 fun nb nsp ncap hnb hncap hnb1 hnb2 => ?_); try simp only [zzn] at hnb2)
    | simp -dsimp -implicitDefEqProofs (disch := first | assumption | (simp only [zzm]; done) | omega | (try with_reducible refine Row.adr (by assumption) ?_); simp only [zzl, Nat.reduceAdd]; first | done | omega) only [go_sem, ↓reduceIte, seval, -List.reduceReplicate, List.toList_toArray, hCl, hCn, Row.obj O.rn, e1, Row.obj e2, Row.obj hrow, List.getElem_map, hxy, hval, hput, hpl, Int.toNat_natCast]
    | with_reducible refine Tri.drawH tok mixed [0, 1, 2, 4, 5, 6, 7, 12, 13, 14, 15] 5 [2, 6, 8] (.op 0 .plain (.op 1 .plain (.op 2 .held (.op 3 .plain (.op 4 .plain (.op 5 .plain (.op 6 .held (.op 7 .plain (.op 8 .held (.op 9 .plain (.op 10 .plain .nil))))))))))) (by kernel_rfl) [1, 7] ?_
   exact Upd.now ⟨q - 1, by omega, s + 1, by omega, rfl, rfl, rfl⟩
  ·obtain rfl : s = d.next.length := by omega
   rw [show partQ (behL d l k) d.next.length = behL d l k by rw [← hbl]; exact partQ_all _]
   repeat' first
    | (with_reducible first | refine Nx.go ?_ | refine Bk.go (fun _ => ?_) fun _ => ?_)
    | ((with_reducible first | refine NewB.mk2 fun nb hnb hnb1 hnb2 => ?_ | refine NewRow.mk2 fun nb nsp ncap hnb hncap hnb1 hnb2 => ?_); try simp only [zzn] at hnb2)
    | simp -dsimp -implicitDefEqProofs (disch := first | assumption | (simp only [zzm]; done) | omega | (try with_reducible refine Row.adr (by assumption) ?_); simp only [zzl, Nat.reduceAdd]; first | done | omega) only [go_sem, ↓reduceIte, seval, -List.reduceReplicate, List.toList_toArray, hCl, hCn]
   unfold UpdR
   refine Upd.go (H' := (br, .cells ((behL d l k).map (Value.int .i64)) [] 3) :: (b3, .cells [.slice a l.length cap] [] 24) :: (b2, .cells C [] 27) :: H) (by intro fsum; first | exact Nat.le_refl _ | (simp only [zzq]; omega)) ?_
   refine Upd.shareRow (by assumption) fun G2 hle2 hs2 r2 => ?_
   exact fun _ hs3 => hR G2 _ hle2 hs2 ⟨some ⟨br, 0, none⟩, l.length, by rw [hbl, hl], r2, by omega⟩
theorem round_t {d : DfaT} (hsm : SmallD d) (hok : RightP d) {l : List Int} (hl : l.length = d.next.length) {G : PHeap} {H : Heap} {R : Value → PHeap → Heap → Prop} {v w : Value} (hv : IsD G d v) (hw : Sl G (Value.int .i64) w l)
  (hR : ∀ G' v', PLe G G' → Sep G' (keys H) → Sl G' (Value.int .i64) v' (rdD d l) → R v' G' H) : FnT Try.prog 95 [v, w] G H R := by
 obtain ⟨C, an, al, ay, cn, cl, cs, rs, rfl, O⟩ := hv.opened
 obtain ⟨hm1, hm2, hm3, hm4, hm5⟩ := id hsm
 obtain ⟨hk1, hk2, hk3, hk4, hk5, hk6, hk7⟩ := id hok
 have hCl := O.len
 have hCw := O.w
 have hw0 := hw
 obtain ⟨a, cap, rfl, hrow, hcap⟩ := hw
 obtain ⟨W, hW⟩ := Int.eq_ofNat_of_zero_le (show 0 ≤ d.width by omega)
 have hWb : W ≤ 256 := by
  have h1 := tabO_len d.of
  rw [O.ofl] at h1
  omega
 refine FnT.sep ?_
 refine FnT.body tok [0, 1, 2, 3, 4, 5, 6, 7, 11, 12, 13] Try.func95 rfl (by kernel_rfl) (by kernel_rfl) (by show _ ≤ 22; simp) fun hsep => ?_
 rw [Try.results95]
 have hsE := hsep
 try simp only [zzs] at hsE
 repeat (obtain ⟨hsx, hsE⟩ := hsE)
 repeat' first
  | (with_reducible first | refine Nx.go ?_ | refine Bk.go (fun _ => ?_) fun _ => ?_)
  | (with_reducible refine NewB.mk2 fun nb hnb hnb1 hnb2 => ?_; try simp only [zzn] at hnb2)
  | simp -dsimp -implicitDefEqProofs (disch := first | assumption | (simp only [zzm]; done) | omega | (try with_reducible refine Row.adr (by assumption) ?_); simp only [zzl, Nat.reduceAdd]; first | done | omega) only [go_sem, ↓reduceIte, seval, -List.reduceReplicate, List.toList_toArray, hCl, hCw, hW]
 rename_i b2 hb20 hb21 hb22
 revert nb
 intro b3 hb3 hb31 hb32
 refine Tri.loopU tok [0, 1, 2, 3, 4, 5, 6, 7, 11, 12, 13] (by kernel_rfl) [2, 3, 4, 5, 6, 11, 12] (fun q G' fr H' => ∃ (k : Nat) (v' : Value), k + q = W ∧ PLe G G' ∧ Sl G' (Value.int .i64) v' (rdk d l k) ∧ H' = (b3, .cells [.slice a l.length cap] [] 24) :: (b2, .cells C [] 27) :: H ∧ fr = [(2, .pointer (some ⟨b2, 0, none⟩)), (3, .pointer (some ⟨b3, 0, none⟩)), (4, .slice none 0 0), (5, .func (.func 100) #[] #[.pointer (some ⟨b3, 0, none⟩), .pointer (some ⟨b2, 0, none⟩)]), (6, v'), (11, .int .i64 (W : Nat)), (12, .int .i64 (k : Nat))]) (W) ?_ ?_
 ·exact Upd.now ⟨0, _, by omega, PLe.refl _, hw0, rfl, rfl⟩
 ·rintro q G1 fr H' hle hs ⟨k, v', hkq, hle1, hsl, rfl, rfl⟩
  have hsE := hs
  try simp only [zzs] at hsE
  repeat (obtain ⟨hsx, hsE⟩ := hsE)
  by_cases hkw : k < W
  ·have hrk := rdk_len hl k
   repeat' first
    | (with_reducible first | refine Nx.go ?_ | refine Bk.go (fun _ => ?_) fun _ => ?_)
    | (with_reducible refine NewB.mk2 fun nb hnb hnb1 hnb2 => ?_; try simp only [zzn] at hnb2)
    | simp -dsimp -implicitDefEqProofs (disch := first | assumption | (simp only [zzm]; done) | omega | (try with_reducible refine Row.adr (by assumption) ?_); simp only [zzl, Nat.reduceAdd]; first | done | omega) only [go_sem, ↓reduceIte, seval]
   refine behind_t hsm hok hl (k := k) (by omega) (O.mono hle1) (hrow.mono hle1) fun G2 v2 hle2 hs2 hsl2 => ?_
   have hsE := hs2
   try simp only [zzs] at hsE
   repeat (obtain ⟨hsx, hsE⟩ := hsE)
   repeat' first
    | (with_reducible first | refine Nx.go ?_ | refine Bk.go (fun _ => ?_) fun _ => ?_)
    | (with_reducible refine NewB.mk2 fun nb hnb hnb1 hnb2 => ?_; try simp only [zzn] at hnb2)
    | simp -dsimp -implicitDefEqProofs (disch := first | assumption | (simp only [zzm]; done) | omega | (try with_reducible refine Row.adr (by assumption) ?_); simp only [zzl, Nat.reduceAdd]; first | done | omega) only [go_sem, ↓reduceIte, seval]
   refine join_t (by omega) (by rw [behL_len]; omega) (hsl.mono hle2) hsl2 fun G3 v3 hle3 hs3 hsl3 => ?_
   have hsE := hs3
   try simp only [zzs] at hsE
   repeat (obtain ⟨hsx, hsE⟩ := hsE)
   repeat' first
    | (with_reducible first | refine Nx.go ?_ | refine Bk.go (fun _ => ?_) fun _ => ?_)
    | (with_reducible refine NewB.mk2 fun nb hnb hnb1 hnb2 => ?_; try simp only [zzn] at hnb2)
    | simp -dsimp -implicitDefEqProofs (disch := first | assumption | (simp only [zzm]; done) | omega | (try with_reducible refine Row.adr (by assumption) ?_); simp only [zzl, Nat.reduceAdd]; first | done | omega) only [go_sem, ↓reduceIte, seval]
   exact Upd.now ⟨q - 1, by omega, k + 1, v3, by omega, (hle1.trans hle2).trans hle3, hsl3, rfl, rfl⟩
  ·obtain rfl : k = W := by omega
   repeat' first
    | (with_reducible first | refine Nx.go ?_ | refine Bk.go (fun _ => ?_) fun _ => ?_)
    | (with_reducible refine NewB.mk2 fun nb hnb hnb1 hnb2 => ?_; try simp only [zzn] at hnb2)
    | simp -dsimp -implicitDefEqProofs (disch := first | assumption | (simp only [zzm]; done) | omega | (try with_reducible refine Row.adr (by assumption) ?_); simp only [zzl, Nat.reduceAdd]; first | done | omega) only [go_sem, ↓reduceIte, seval]
   have he : rdk d l k = rdD d l := by unfold rdD; rw [hW]; rfl
   rw [he] at hsl
   unfold UpdR
   refine Upd.leave (H' := H) (by intro fsum; first | exact Nat.le_refl _ | (simp only [zzq]; omega)) ?_
   exact fun _ hs => hR G1 _ hle1 hs hsl
end Go.Proofs.Ytdeableflgakdaa
namespace Go.Proofs.Ytdeableflgakdaa
open Go Go.V Go.Proofs
theorem callee49 : V.Callee Try.prog 94 := ⟨_, _, Try.func94, rfl, by kernel_rfl⟩
theorem rounds_t {v : Value} {C : List Value} (hv : v = .agg C.toArray) (hC : C.length = 260) {G : PHeap} {H : Heap} {R : Value → PHeap → Heap → Prop} (hR : ∀ b, Sep G (b :: keys H) → R (.func (.func 94) #[] #[.pointer (some ⟨b, 0, none⟩)]) G ((b, .cells C [] 27) :: H)) : FnT Try.prog 87 [v] G H R := by
 subst hv
 refine FnT.body tok [0, 1, 2] Try.func87 rfl (by kernel_rfl) (by kernel_rfl) (by show _ ≤ 4; simp) fun hsep => ?_
 rw [Try.results87]
 have hsE := hsep
 try simp only [zzs] at hsE
 repeat (obtain ⟨hsx, hsE⟩ := hsE)
 repeat' first
  | (with_reducible first | refine Nx.go ?_ | refine Bk.go (fun _ => ?_) fun _ => ?_)
  | (with_reducible refine NewB.mk2 fun nb hnb hnb1 hnb2 => ?_; try simp only [zzn] at hnb2)
  | simp -dsimp -implicitDefEqProofs (disch := first | assumption | (simp only [zzm]; done) | omega | (try with_reducible refine Row.adr (by assumption) ?_); simp only [zzl, Nat.reduceAdd]; first | done | omega) only [go_sem, ↓reduceIte, seval, -List.reduceReplicate, List.toList_toArray, hC]
 exact Upd.fin (hR nb hnb) rfl
theorem rounds1_t (lr b1 : Nat) {d : DfaT} (hsm : SmallD d) (hok : RightP d) {C : List Value} {an al ay : Option Addr} {cn cl cs : Nat} {rs : List Value} {G : PHeap} (O : OpenD G d C an al ay cn cl cs rs) {HC : Heap} {R : Value → PHeap → Heap → Prop}
  (J Jx : Nat → PHeap → Heap → Prop) (hJ : ∀ i G1 G2 H1, PLe G1 G2 → J i G1 H1 → J i G2 H1)
  (hY : ∀ i v G1 H1, PLe G G1 → Sep G1 (keys ((b1, Res.cells C [] 27) :: H1)) → J i G1 H1 → i < 65536 → (∀ j, j < i → lvl d (j + 1) ≠ lvl d j) → Sl G1 (Value.int .i64) v (lvl d i) → YldT Try.prog lr [.int .i64 (i : Nat), v] G1 ((b1, .cells C [] 27) :: H1) fun w G2 H2 => ∃ H3, H2 = (b1, .cells C [] 27) :: H3 ∧ ((w = .bool true ∧ J (i + 1) G2 H3) ∨ (w = .bool false ∧ Jx i G2 H3)))
  (h0 : J 0 G HC)
  (hR : ∀ G' H', PLe G G' → Sep G' (keys ((b1, Res.cells C [] 27) :: H')) → ((∃ n, LastR d n ∧ J (n + 1) G' H') ∨ ∃ n, Jx n G' H') → R (.tuple #[]) G' ((b1, .cells C [] 27) :: H')) :
  FnT Try.prog 94 [.func (.yield lr) #[] #[], .pointer (some ⟨b1, 0, none⟩)] G ((b1, .cells C [] 27) :: HC) R := by
 have hCl := O.len
 have hCx := O.l
 have hCa := O.all
 obtain ⟨hm1, hm2, hm3, hm4, hm5⟩ := id hsm
 obtain ⟨hk1, hk2, hk3, hk4, hk5, hk6, hk7⟩ := id hok
 obtain ⟨N, hN⟩ := last_ex hk3 hk1
 obtain ⟨hN1, hN2, hN3⟩ := id hN
 refine FnT.body tok [0, 1, 3, 4, 5, 12, 20] Try.func94 rfl (by kernel_rfl) (by kernel_rfl) (by show _ ≤ 22; simp) fun hsep => ?_
 rw [Try.results94]
 have hsE := hsep
 try simp only [zzs] at hsE
 repeat (obtain ⟨hsx, hsE⟩ := hsE)
 repeat' first
  | (with_reducible first | refine Nx.go ?_ | refine Bk.go (fun _ => ?_) fun _ => ?_)
  | (with_reducible refine NewB.mk2 fun nb hnb hnb1 hnb2 => ?_; try simp only [zzn] at hnb2)
  | simp -dsimp -implicitDefEqProofs (disch := first | assumption | (simp only [zzm]; done) | omega | (try with_reducible refine Row.adr (by assumption) ?_); simp only [zzl, Nat.reduceAdd]; first | done | omega) only [go_sem, ↓reduceIte, seval, -List.reduceReplicate, List.toList_toArray, hCl, hCx, hCa]
 refine norm_t (by omega) O.label fun G2 v2 hle2 hs2 hsl2 => ?_
 have hsE := hs2
 try simp only [zzs] at hsE
 repeat (obtain ⟨hsx, hsE⟩ := hsE)
 repeat' first
  | (with_reducible first | refine Nx.go ?_ | refine Bk.go (fun _ => ?_) fun _ => ?_)
  | (with_reducible refine NewB.mk2 fun nb hnb hnb1 hnb2 => ?_; try simp only [zzn] at hnb2)
  | simp -dsimp -implicitDefEqProofs (disch := first | assumption | (simp only [zzm]; done) | omega | (try with_reducible refine Row.adr (by assumption) ?_); simp only [zzl, Nat.reduceAdd]; first | done | omega) only [go_sem, ↓reduceIte, seval]
 refine Tri.loopU tok [0, 1, 3, 4, 5, 12, 20] (by kernel_rfl) [0, 1, 3, 4] (fun q G' fr H' => ∃ (i : Nat) (v : Value) (H1 : Heap), i + q = N ∧ PLe G G' ∧ J i G' H1 ∧ Sl G' (Value.int .i64) v (lvl d i) ∧ H' = (b1, .cells C [] 27) :: H1 ∧ fr = [(0, .func (.yield lr) #[] #[]), (1, .pointer (some ⟨b1, 0, none⟩)), (3, v), (4, .int .i64 (i : Nat))]) (N) ?_ ?_
 ·exact Upd.now ⟨0, v2, HC, by omega, hle2, hJ 0 _ _ _ hle2 h0, hsl2, rfl, rfl⟩
 ·rintro q G3 fr H' hle hs ⟨i, v, H1, hi, hle3, hJi, hsl, rfl, rfl⟩
  have hsE := hs
  try simp only [zzs] at hsE
  repeat (obtain ⟨hsx, hsE⟩ := hsE)
  repeat' first
   | (with_reducible first | refine Nx.go ?_ | refine Bk.go (fun _ => ?_) fun _ => ?_)
   | (with_reducible refine NewB.mk2 fun nb hnb hnb1 hnb2 => ?_; try simp only [zzn] at hnb2)
   | simp -dsimp -implicitDefEqProofs (disch := first | assumption | (simp only [zzm]; done) | omega | (try with_reducible refine Row.adr (by assumption) ?_); simp only [zzl, Nat.reduceAdd]; first | done | omega) only [go_sem, ↓reduceIte, seval]
  refine YldT.mono (hY i v G3 H1 hle3 hs hJi (by omega) (fun j hj => hN3 j (by omega)) hsl) ?_
  rintro w G4 H4' hle4 hs4 ⟨H4, rfl, ⟨rfl, hJ4⟩ | ⟨rfl, hJ4⟩⟩
  ·have hsE := hs4
   try simp only [zzs] at hsE
   repeat (obtain ⟨hsx, hsE⟩ := hsE)
   repeat' first
    | (with_reducible first | refine Nx.go ?_ | refine Bk.go (fun _ => ?_) fun _ => ?_)
    | (with_reducible refine NewB.mk2 fun nb hnb hnb1 hnb2 => ?_; try simp only [zzn] at hnb2)
    | simp -dsimp -implicitDefEqProofs (disch := first | assumption | (simp only [zzm]; done) | omega | (try with_reducible refine Row.adr (by assumption) ?_); simp only [zzl, Nat.reduceAdd]; first | done | omega) only [go_sem, ↓reduceIte, seval, -List.reduceReplicate, List.toList_toArray, hCl, hCx, hCa]
   refine round_t hsm hok (lvl_len hk3 i) (O.is.mono (hle3.trans hle4)) (hsl.mono hle4) fun G5 v5 hle5 hs5 hsl5 => ?_
   have hsE := hs5
   try simp only [zzs] at hsE
   repeat (obtain ⟨hsx, hsE⟩ := hsE)
   repeat' first
    | (with_reducible first | refine Nx.go ?_ | refine Bk.go (fun _ => ?_) fun _ => ?_)
    | (with_reducible refine NewB.mk2 fun nb hnb hnb1 hnb2 => ?_; try simp only [zzn] at hnb2)
    | simp -dsimp -implicitDefEqProofs (disch := first | assumption | (simp only [zzm]; done) | omega | (try with_reducible refine Row.adr (by assumption) ?_); simp only [zzl, Nat.reduceAdd]; first | done | omega) only [go_sem, ↓reduceIte, seval]
   have hll := lvl_len hk3 (i + 1)
   refine equal_t (lvl d (i + 1)) (lvl d i) (by omega) hsl5 (hsl.mono (hle4.trans hle5)) ?_
   by_cases he : lvl d (i + 1) = lvl d i
   ·rw [decide_eq_true he]
    have hiN : i = N := by
     rcases Nat.lt_or_ge i N with h | h
     ·exact (hN3 i h he).elim
     ·omega
    repeat' first
     | (with_reducible first | refine Nx.go ?_ | refine Bk.go (fun _ => ?_) fun _ => ?_)
     | (with_reducible refine NewB.mk2 fun nb hnb hnb1 hnb2 => ?_; try simp only [zzn] at hnb2)
     | simp -dsimp -implicitDefEqProofs (disch := first | assumption | (simp only [zzm]; done) | omega | (try with_reducible refine Row.adr (by assumption) ?_); simp only [zzl, Nat.reduceAdd]; first | done | omega) only [go_sem, ↓reduceIte, seval]
    all_goals refine Upd.finL ?_ (hR G5 H4 ((hle3.trans hle4).trans hle5) hs5 (.inl ⟨i, hiN ▸ hN, hJ _ _ _ _ hle5 hJ4⟩)) ?_
    any_goals (intro fsum; first | exact Nat.le_refl _ | (simp only [zzq]; omega))
    rfl
   ·rw [decide_eq_false he]
    have hiN : i < N := by
     rcases Nat.lt_or_ge i N with h | h
     ·exact h
     ·obtain rfl : i = N := by omega
      exact (he hN2).elim
    repeat' first
     | (with_reducible first | refine Nx.go ?_ | refine Bk.go (fun _ => ?_) fun _ => ?_)
     | (with_reducible refine NewB.mk2 fun nb hnb hnb1 hnb2 => ?_; try simp only [zzn] at hnb2)
     | simp -dsimp -implicitDefEqProofs (disch := first | assumption | (simp only [zzm]; done) | omega | (try with_reducible refine Row.adr (by assumption) ?_); simp only [zzl, Nat.reduceAdd]; first | done | omega) only [go_sem, ↓reduceIte, seval]
    exact Upd.now ⟨q - 1, by omega, i + 1, v5, H4, by omega, (hle3.trans hle4).trans hle5, hJ _ _ _ _ hle5 hJ4, hsl5, rfl, rfl⟩
  ·have hsE := hs4
   try simp only [zzs] at hsE
   repeat (obtain ⟨hsx, hsE⟩ := hsE)
   repeat' first
    | (with_reducible first | refine Nx.go ?_ | refine Bk.go (fun _ => ?_) fun _ => ?_)
    | (with_reducible refine NewB.mk2 fun nb hnb hnb1 hnb2 => ?_; try simp only [zzn] at hnb2)
    | simp -dsimp -implicitDefEqProofs (disch := first | assumption | (simp only [zzm]; done) | omega | (try with_reducible refine Row.adr (by assumption) ?_); simp only [zzl, Nat.reduceAdd]; first | done | omega) only [go_sem, ↓reduceIte, seval]
   all_goals refine Upd.finL ?_ (hR G4 H4 (hle3.trans hle4) hs4 (.inr ⟨_, hJ4⟩)) ?_
   any_goals (intro fsum; first | exact Nat.le_refl _ | (simp only [zzq]; omega))
   rfl
def AtR (d : DfaT) (k : Int) (i : Nat) (G : PHeap) (m : Int) (vl : Value) : Prop := (i = 0 ∧ m = -1 ∧ vl = .slice none 0 0) ∨ ∃ j : Nat, i = j + 1 ∧ m = j ∧ Sl G (Value.int .i64) vl (lvl d j) ∧ (j : Int) < k
theorem last_one {d : DfaT} {n m : Nat} (hn : LastR d n) (hm : LastR d m) : n = m := by
 rcases Nat.lt_trichotomy n m with h | h | h
 ·exact (hm.2.2 n h hn.2.1).elim
 ·exact h
 ·exact (hn.2.2 m h hm.2.1).elim
theorem last_t {d : DfaT} (hsm : SmallD d) (hok : RightP d) {n : Nat} (hn : LastR d n) {k : Int} {G : PHeap} {H : Heap} {R : Value → PHeap → Heap → Prop} {v : Value} (hv : IsD G d v)
  (hR : ∀ G' v', PLe G G' → Sep G' (keys H) → Sl G' (Value.int .i64) v' (lvl d (min k.toNat n)) → R (.tuple #[.int .i64 (min k.toNat n : Nat), v']) G' H) : FnT Try.prog 69 [v, .int .i64 k] G H R := by
 obtain ⟨C, an, al, ay, cn, cl, cs, rs, rfl, O⟩ := hv.opened
 have hCl := O.len
 have hCa := O.all
 have hb := boolOf_yes hok
 refine FnT.sep ?_
 refine FnT.body tok [0, 1, 2, 3, 4, 5, 6, 7, 8, 9, 12, 16, 17, 18, 23] Try.func69 rfl (by kernel_rfl) (by kernel_rfl) (by show _ ≤ 26; simp) fun hsep => ?_
 rw [Try.results69]
 have hsE := hsep
 try simp only [zzs] at hsE
 repeat (obtain ⟨hsx, hsE⟩ := hsE)
 repeat' first
  | (with_reducible first | refine Nx.go ?_ | refine Bk.go (fun _ => ?_) fun _ => ?_)
  | (with_reducible refine NewB.mk2 fun nb hnb hnb1 hnb2 => ?_; try simp only [zzn] at hnb2)
  | simp -dsimp -implicitDefEqProofs (disch := first | assumption | (simp only [zzm]; done) | omega | (try with_reducible refine Row.adr (by assumption) ?_); simp only [zzl, Nat.reduceAdd]; first | done | omega) only [go_sem, ↓reduceIte, seval, -List.reduceReplicate, List.toList_toArray, hCl, hCa, hb]
  | with_reducible refine right_t hsm O.is ?_
 rename_i b2 u1 u2 u3 b3 u4 u5 u6 b6 u7 u8 u9
 revert nb
 intro b7 hb7 hb71 hb72
 refine rounds_t rfl hCl fun b8 hb8 => ?_
 have hsE := hb8
 try simp only [zzs] at hsE
 repeat (obtain ⟨hsx, hsE⟩ := hsE)
 repeat' first
  | (with_reducible first | refine Nx.go ?_ | refine Bk.go (fun _ => ?_) fun _ => ?_)
  | (with_reducible refine NewB.mk2 fun nb hnb hnb1 hnb2 => ?_; try simp only [zzn] at hnb2)
  | simp -dsimp -implicitDefEqProofs (disch := first | assumption | (simp only [zzm]; done) | omega | (try with_reducible refine Row.adr (by assumption) ?_); simp only [zzl, Nat.reduceAdd]; first | done | omega) only [go_sem, ↓reduceIte, seval]
 refine Tri.rangeF2 tok [2, 3, 6, 7, 8, 9, 17, 18, 23] rfl callee49 (by kernel_rfl) fun lr Rr Rb hlr yl => ?_
 have hsE := hlr
 try simp only [zzs] at hsE
 repeat (obtain ⟨hsx, hsE⟩ := hsE)
 refine FnT.leave (H' := (b8, .cells C [] 27) :: ((lr, Rr .normal) :: (b7, .cells [.slice none 0 0] [] 24) :: (b6, .cells [.int .i64 (-1)] [] 3) :: (b3, .cells [.int .i64 k] [] 3) :: (b2, .cells C [] 27) :: H)) ?_ (by intro fsum; first | exact Nat.le_refl _ | (simp only [zzq]; omega))
 refine rounds1_t lr b8 hsm hok O
  (fun i G' H' => ∃ m vl, H' = (lr, Rr .normal) :: (b7, .cells [vl] [] 24) :: (b6, .cells [.int .i64 m] [] 3) :: (b3, .cells [.int .i64 k] [] 3) :: (b2, .cells C [] 27) :: H ∧ AtR d k i G' m vl)
  (fun i G' H' => ∃ vl, H' = (lr, Rr (.exit 0)) :: (b7, .cells [vl] [] 24) :: (b6, .cells [.int .i64 (i : Nat)] [] 3) :: (b3, .cells [.int .i64 k] [] 3) :: (b2, .cells C [] 27) :: H ∧ Sl G' (Value.int .i64) vl (lvl d i) ∧ i = min k.toNat n)
  ?_ ?_ ⟨-1, _, rfl, .inl ⟨rfl, rfl, rfl⟩⟩ ?_
 ·rintro i G1 G2 H1 hle ⟨m, vl, rfl, hA⟩
  refine ⟨m, vl, rfl, ?_⟩
  rcases hA with h | ⟨j, h1, h2, h3, h4⟩
  ·exact .inl h
  ·exact .inr ⟨j, h1, h2, h3.mono hle, h4⟩
 ·rintro i v G1 H1 hle1 hs1 ⟨m, vl, rfl, hA⟩ hib hnew hsl
  have hsE := hs1
  try simp only [zzs] at hsE
  repeat (obtain ⟨hsx, hsE⟩ := hsE)
  have hin : i ≤ n := by
   rcases Nat.lt_or_ge n i with h | h
   ·exact (hnew n h hn.2.1).elim
   ·exact h
  obtain ⟨a1, c1, rfl, hr1, hc1⟩ := hsl
  have hik : i = 0 ∨ (i : Int) ≤ k := by
   rcases hA with h | ⟨j, h1, h2, h3, h4⟩
   ·exact .inl h.1
   ·exact .inr (by omega)
  refine yl rfl ?_ ?_
  ·simp -dsimp -implicitDefEqProofs (disch := first | assumption | (simp only [zzm]; done) | omega | (try with_reducible refine Row.adr (by assumption) ?_); simp only [zzl, Nat.reduceAdd]; first | done | omega) only [go_sem, ↓reduceIte, seval]
  ·repeat' first
    | (with_reducible first | refine Nx.go ?_ | refine Bk.go (fun _ => ?_) fun _ => ?_)
    | (with_reducible refine NewB.mk2 fun nb hnb hnb1 hnb2 => ?_; try simp only [zzn] at hnb2)
    | simp -dsimp -implicitDefEqProofs (disch := first | assumption | (simp only [zzm]; done) | omega | (try with_reducible refine Row.adr (by assumption) ?_); simp only [zzl, Nat.reduceAdd]; first | done | omega) only [go_sem, ↓reduceIte, seval]
   ·exact ⟨_, rfl, .inr ⟨_, rfl, ⟨a1, c1, rfl, hr1, hc1⟩, by omega⟩⟩
   ·exact ⟨_, rfl, .inl ⟨_, _, rfl, .inr ⟨i, rfl, rfl, ⟨a1, c1, rfl, hr1, hc1⟩, by omega⟩⟩⟩
 ·rintro G1 _ hle1 hs1 (⟨n', hn', m, vl, rfl, hA⟩ | ⟨i, vl, rfl, hsl, hi⟩)
  ·obtain rfl := last_one hn hn'
   rcases hA with h | ⟨j, h1, rfl, h3, h4⟩
   ·omega
   ·obtain rfl : n = j := by omega
    have hsE := hs1
    try simp only [zzs] at hsE
    repeat (obtain ⟨hsx, hsE⟩ := hsE)
    refine ⟨.normal, ?_, ?_⟩
    ·simp -dsimp -implicitDefEqProofs (disch := first | assumption | (simp only [zzm]; done) | omega | (try with_reducible refine Row.adr (by assumption) ?_); simp only [zzl, Nat.reduceAdd]; first | done | omega) only [go_sem, ↓reduceIte, seval]
    ·obtain ⟨a1, c1, rfl, hr1, hc1⟩ := h3
     repeat' first
      | (with_reducible first | refine Nx.go ?_ | refine Bk.go (fun _ => ?_) fun _ => ?_)
      | (with_reducible refine NewB.mk2 fun nb hnb hnb1 hnb2 => ?_; try simp only [zzn] at hnb2)
      | with_reducible refine Tri.drawH tok mixed [0, 1, 2, 3, 4, 5, 6, 7, 8, 9, 12, 16, 17, 18, 23] 10 [0, 1] (.op 0 .held (.op 1 .held (.op 2 .plain (.op 3 .plain .nil)))) (by kernel_rfl) [6, 7] ?_
      | simp -dsimp -implicitDefEqProofs (disch := first | assumption | (simp only [zzm]; done) | omega | (try with_reducible refine Row.adr (by assumption) ?_); simp only [zzl, Nat.reduceAdd]; first | done | omega) only [go_sem, ↓reduceIte, seval]
     all_goals unfold UpdR
     all_goals refine Upd.leave (H' := H) (by intro fsum; first | exact Nat.le_refl _ | (simp only [zzq]; omega)) ?_
     all_goals have hmin : min k.toNat n = n := by omega
     all_goals rw [hmin] at hR
     all_goals exact fun _ hs => hR G1 _ hle1 hs ⟨a1, c1, rfl, hr1, hc1⟩
  ·have hsE := hs1
   try simp only [zzs] at hsE
   repeat (obtain ⟨hsx, hsE⟩ := hsE)
   refine ⟨.exit 0, ?_, ?_⟩
   ·simp -dsimp -implicitDefEqProofs (disch := first | assumption | (simp only [zzm]; done) | omega | (try with_reducible refine Row.adr (by assumption) ?_); simp only [zzl, Nat.reduceAdd]; first | done | omega) only [go_sem, ↓reduceIte, seval]
   ·obtain ⟨a1, c1, rfl, hr1, hc1⟩ := hsl
    repeat' first
     | (with_reducible first | refine Nx.go ?_ | refine Bk.go (fun _ => ?_) fun _ => ?_)
     | (with_reducible refine NewB.mk2 fun nb hnb hnb1 hnb2 => ?_; try simp only [zzn] at hnb2)
     | with_reducible refine Tri.drawH tok mixed [0, 1, 2, 3, 4, 5, 6, 7, 8, 9, 12, 16, 17, 18, 23] 10 [0, 1] (.op 0 .held (.op 1 .held (.op 2 .plain (.op 3 .plain .nil)))) (by kernel_rfl) [6, 7] ?_
     | simp -dsimp -implicitDefEqProofs (disch := first | assumption | (simp only [zzm]; done) | omega | (try with_reducible refine Row.adr (by assumption) ?_); simp only [zzl, Nat.reduceAdd]; first | done | omega) only [go_sem, ↓reduceIte, seval]
    all_goals unfold UpdR
    all_goals refine Upd.leave (H' := H) (by intro fsum; first | exact Nat.le_refl _ | (simp only [zzq]; omega)) ?_
    all_goals rw [← hi] at hR
    all_goals exact fun _ hs => hR G1 _ hle1 hs ⟨a1, c1, rfl, hr1, hc1⟩
end Go.Proofs.Ytdeableflgakdaa
namespace Go.Proofs.Ytdeableflgakdaa
open Go Go.V Go.Proofs
theorem last_bad_t {d : DfaT} (hsm : SmallD d) (hok : ¬ RightP d) {k : Int} {G : PHeap} {H : Heap} {R : Value → PHeap → Heap → Prop} {v : Value} (hv : IsD G d v)
  (hR : R (.tuple #[.int .i64 (-1), .slice none 0 0]) G H) : FnT Try.prog 69 [v, .int .i64 k] G H R := by
 obtain ⟨C, an, al, ay, cn, cl, cs, rs, rfl, O⟩ := hv.opened
 have hCl := O.len
 have hCa := O.all
 have hb := boolOf_no hok
 refine FnT.body tok [0, 1, 2, 3, 4, 5, 6, 7, 8, 9, 12, 16, 17, 18, 23] Try.func69 rfl (by kernel_rfl) (by kernel_rfl) (by show _ ≤ 26; simp) fun hsep => ?_
 rw [Try.results69]
 have hsE := hsep
 try simp only [zzs] at hsE
 repeat (obtain ⟨hsx, hsE⟩ := hsE)
 repeat' first
  | (with_reducible first | refine Nx.go ?_ | refine Bk.go (fun _ => ?_) fun _ => ?_)
  | (with_reducible refine NewB.mk2 fun nb hnb hnb1 hnb2 => ?_; try simp only [zzn] at hnb2)
  | with_reducible refine Tri.drawH tok mixed [0, 1, 2, 3, 4, 5, 6, 7, 8, 9, 12, 16, 17, 18, 23] 4 [0, 1] (.op 0 .held (.op 1 .held (.op 2 .plain (.op 3 .plain .nil)))) (by kernel_rfl) [6, 7] ?_
  | simp -dsimp -implicitDefEqProofs (disch := first | assumption | (simp only [zzm]; done) | omega | (try with_reducible refine Row.adr (by assumption) ?_); simp only [zzl, Nat.reduceAdd]; first | done | omega) only [go_sem, ↓reduceIte, seval, -List.reduceReplicate, List.toList_toArray, hCl, hCa, hb]
  | with_reducible refine right_t hsm O.is ?_
 all_goals refine Upd.finL ?_ hR ?_
 any_goals (intro fsum; first | exact Nat.le_refl _ | (simp only [zzq]; omega))
 all_goals rfl
noncomputable def aftD (d : DfaT) (k : Nat) : List Int := if boolOf (RightP d) = true then lvl d k else []
theorem aftD_ok {d : DfaT} (h : RightP d) (k : Nat) : aftD d k = lvl d k := by unfold aftD; rw [if_pos (boolOf_yes h)]
theorem aftD_no {d : DfaT} (h : ¬ RightP d) (k : Nat) : aftD d k = [] := by unfold aftD; rw [if_neg]; rw [boolOf_no h]; exact Bool.false_ne_true
theorem after_t {d : DfaT} (hsm : SmallD d) {k : Int} {G : PHeap} {H : Heap} {R : Value → PHeap → Heap → Prop} {v : Value} (hv : IsD G d v)
  (hR : ∀ G' v', PLe G G' → Sep G' (keys H) → Sl G' (Value.int .i64) v' (aftD d k.toNat) → R v' G' H) : FnT Try.prog 39 [v, .int .i64 k] G H R := by
 obtain ⟨C, an, al, ay, cn, cl, cs, rs, rfl, O⟩ := hv.opened
 have hCl := O.len
 have hCa := O.all
 refine FnT.sep ?_
 by_cases hok : RightP d
 ·obtain ⟨n, hn⟩ := last_ex hok.2.2.1 hok.1
  rw [aftD_ok hok, ← last_min hn] at hR
  refine FnT.body tok [0, 1, 2, 4, 6] Try.func39 rfl (by kernel_rfl) (by kernel_rfl) (by show _ ≤ 14; simp) fun hsep => ?_
  rw [Try.results39]
  have hsE := hsep
  try simp only [zzs] at hsE
  repeat (obtain ⟨hsx, hsE⟩ := hsE)
  repeat' first
   | (with_reducible first | refine Nx.go ?_ | refine Bk.go (fun _ => ?_) fun _ => ?_)
   | (with_reducible refine NewB.mk2 fun nb hnb hnb1 hnb2 => ?_; try simp only [zzn] at hnb2)
   | simp -dsimp -implicitDefEqProofs (disch := first | assumption | (simp only [zzm]; done) | omega | (try with_reducible refine Row.adr (by assumption) ?_); simp only [zzl, Nat.reduceAdd]; first | done | omega) only [go_sem, ↓reduceIte, seval, -List.reduceReplicate, List.toList_toArray, hCl, hCa]
  refine last_t hsm hok hn O.is fun G2 v2 hle2 hs2 hsl2 => ?_
  have hsE := hs2
  try simp only [zzs] at hsE
  repeat (obtain ⟨hsx, hsE⟩ := hsE)
  repeat' first
   | (with_reducible first | refine Nx.go ?_ | refine Bk.go (fun _ => ?_) fun _ => ?_)
   | (with_reducible refine NewB.mk2 fun nb hnb hnb1 hnb2 => ?_; try simp only [zzn] at hnb2)
   | simp -dsimp -implicitDefEqProofs (disch := first | assumption | (simp only [zzm]; done) | omega | (try with_reducible refine Row.adr (by assumption) ?_); simp only [zzl, Nat.reduceAdd]; first | done | omega) only [go_sem, ↓reduceIte, seval]
  unfold UpdR
  refine Upd.leave (H' := H) (by intro fsum; first | exact Nat.le_refl _ | (simp only [zzq]; omega)) ?_
  exact fun _ hs => hR G2 _ hle2 hs hsl2
 ·rw [aftD_no hok] at hR
  refine FnT.body tok [0, 1, 2, 4, 6] Try.func39 rfl (by kernel_rfl) (by kernel_rfl) (by show _ ≤ 14; simp) fun hsep => ?_
  rw [Try.results39]
  have hsE := hsep
  try simp only [zzs] at hsE
  repeat (obtain ⟨hsx, hsE⟩ := hsE)
  repeat' first
   | (with_reducible first | refine Nx.go ?_ | refine Bk.go (fun _ => ?_) fun _ => ?_)
   | (with_reducible refine NewB.mk2 fun nb hnb hnb1 hnb2 => ?_; try simp only [zzn] at hnb2)
   | simp -dsimp -implicitDefEqProofs (disch := first | assumption | (simp only [zzm]; done) | omega | (try with_reducible refine Row.adr (by assumption) ?_); simp only [zzl, Nat.reduceAdd]; first | done | omega) only [go_sem, ↓reduceIte, seval, -List.reduceReplicate, List.toList_toArray, hCl, hCa]
   | with_reducible refine last_bad_t hsm hok O.is ?_
  unfold UpdR
  refine Upd.leave (H' := H) (by intro fsum; first | exact Nat.le_refl _ | (simp only [zzq]; omega)) ?_
  exact fun hle hs => hR G _ (PLe.refl _) hs (Sl.nil _ _)
theorem blocks_t {d : DfaT} (hsm : SmallD d) {G : PHeap} {H : Heap} {R : Value → PHeap → Heap → Prop} {v : Value} (hv : IsD G d v)
  (hR : ∀ G' v', PLe G G' → Sep G' (keys H) → Sl G' (Value.int .i64) v' (aftD d 65536) → R v' G' H) : FnT Try.prog 17 [v] G H R := by
 obtain ⟨C, an, al, ay, cn, cl, cs, rs, rfl, O⟩ := hv.opened
 have hCl := O.len
 have hCa := O.all
 refine FnT.sep ?_
 refine FnT.body tok [0, 1, 2] Try.func17 rfl (by kernel_rfl) (by kernel_rfl) (by show _ ≤ 5; simp) fun hsep => ?_
 rw [Try.results17]
 have hsE := hsep
 try simp only [zzs] at hsE
 repeat (obtain ⟨hsx, hsE⟩ := hsE)
 repeat' first
  | (with_reducible first | refine Nx.go ?_ | refine Bk.go (fun _ => ?_) fun _ => ?_)
  | (with_reducible refine NewB.mk2 fun nb hnb hnb1 hnb2 => ?_; try simp only [zzn] at hnb2)
  | simp -dsimp -implicitDefEqProofs (disch := first | assumption | (simp only [zzm]; done) | omega | (try with_reducible refine Row.adr (by assumption) ?_); simp only [zzl, Nat.reduceAdd]; first | done | omega) only [go_sem, ↓reduceIte, seval, -List.reduceReplicate, List.toList_toArray, hCl, hCa]
 refine after_t hsm O.is fun G2 v2 hle2 hs2 hsl2 => ?_
 have hsE := hs2
 try simp only [zzs] at hsE
 repeat (obtain ⟨hsx, hsE⟩ := hsE)
 repeat' first
  | (with_reducible first | refine Nx.go ?_ | refine Bk.go (fun _ => ?_) fun _ => ?_)
  | (with_reducible refine NewB.mk2 fun nb hnb hnb1 hnb2 => ?_; try simp only [zzn] at hnb2)
  | simp -dsimp -implicitDefEqProofs (disch := first | assumption | (simp only [zzm]; done) | omega | (try with_reducible refine Row.adr (by assumption) ?_); simp only [zzl, Nat.reduceAdd]; first | done | omega) only [go_sem, ↓reduceIte, seval]
 unfold UpdR
 refine Upd.leave (H' := H) (by intro fsum; first | exact Nat.le_refl _ | (simp only [zzq]; omega)) ?_
 exact fun _ hs => hR G2 _ hle2 hs hsl2
end Go.Proofs.Ytdeableflgakdaa
namespace Go.Proofs.Ytdeableflgakdaa
open Go Go.V Go.Proofs
theorem WtO.isS {vw : Value} {ws : List (Nat × Nat)} {kw : Heap} (h : WtO vw ws kw) : ∃ a c, vw = .slice a ws.length c := by
 rcases h with ⟨a, rfl, rfl, _⟩ | ⟨b, cap, sp, rfl, _⟩ | ⟨b, sp, rfl, _⟩
 ·exact ⟨a, 0, rfl⟩
 ·exact ⟨_, _, rfl⟩
 ·exact ⟨_, _, rfl⟩
def lstN (n : Nat) (f : Nat → Nat) : List Int := (List.range n).map fun i => ((f i : Nat) : Int)
theorem lstN_len (n : Nat) (f : Nat → Nat) : (lstN n f).length = n := by simp [lstN]
theorem lstN_row (n : Nat) (f : Nat → Nat) : rowN n f = (lstN n f).map (Value.int .i64) := by unfold rowN lstN; rw [List.map_map]; rfl
theorem lstN_get {n : Nat} (f : Nat → Nat) {i : Nat} (h : i < n) : (lstN n f)[i]'(by rw [lstN_len]; exact h) = (f i : Int) := by simp [lstN]
def alF (d : DfaT) (N : Nat) (s : Nat) : Nat := ((lvl d N).getD s 0).toNat
theorem alF_at {d : DfaT} (h : d.next.length = d.label.length) (N : Nat) {s : Nat} (hs : s < d.next.length) : (lvl d N)[s]'(by rw [lvl_len h]; exact hs) = (alF d N s : Int) := by
 have hl : s < (lvl d N).length := by rw [lvl_len h]; exact hs
 unfold alF
 rw [List.getD_eq_getElem?_getD, List.getElem?_eq_getElem hl]
 have hb : (lvl d N)[s] ∈ nums (lvl d N) := by rw [lvl_norm]; exact List.getElem_mem hl
 have := nums_bound hb
 show _ = (((lvl d N)[s]).toNat : Int)
 omega
theorem alF_eq {d : DfaT} (h : d.next.length = d.label.length) (N : Nat) {s t : Nat} (hs : s < d.next.length) (ht : t < d.next.length) : alF d N s = alF d N t ↔ (lvl d N)[s]'(by rw [lvl_len h]; exact hs) = (lvl d N)[t]'(by rw [lvl_len h]; exact ht) := by
 rw [alF_at h N hs, alF_at h N ht]; omega
theorem atL_dl {d : DfaT} (hok : RightP d) {s k : Nat} (hs : s < d.next.length) (hk : k < d.width.toNat) (N : Nat) : atL (lvl d N) (atL d.next[s] k) = (alF d N (dlF d k s) : Int) := by
 obtain ⟨h1, h2, h3⟩ := dlF_at hok hs (k := k) (by omega)
 have h4 := hok.2.2.1
 have e1 : atL d.next[s] (k : Int) = (dlF d k s : Int) := by
  rw [atL_get (by simpa using h1)]
  simp only [Int.toNat_natCast]
  exact h2
 rw [e1, atL_get (by simp only [Int.toNat_natCast]; rw [lvl_len h4]; omega)]
 simp only [Int.toNat_natCast]
 exact alF_at h4 N (by omega)
theorem alF_step {d : DfaT} (hok : RightP d) {N : Nat} (hN : LastR d N) {s t k : Nat} (hs : s < d.label.length) (ht : t < d.label.length) (hk : k < d.width.toNat) (e : alF d N s = alF d N t) : alF d N (dlF d k s) = alF d N (dlF d k t) := by
 have h4 := hok.2.2.1
 have hs' : s < d.next.length := by omega
 have ht' : t < d.next.length := by omega
 have h1 := (lvl_succ h4 N hs' ht').1 (by simp only [hN.2.1]; exact (alF_eq h4 N hs' ht').1 e)
 have h2 := h1.2 k hk
 rw [atL_dl hok hs' hk, atL_dl hok ht' hk] at h2
 omega
theorem blocks_eq {d : DfaT} (hok : RightP d) {N : Nat} (hN : LastR d N) {bf : Nat → Nat} (hfine : ∀ s t, s < d.label.length → t < d.label.length → alF d N s = alF d N t → bf s = bf t) (hlab : ∀ s t, s < d.label.length → t < d.label.length → bf s = bf t → blF d.label s = blF d.label t)
  (hst : ∀ s t k, s < d.label.length → t < d.label.length → k < d.width.toNat → bf s = bf t → bf (dlF d k s) = bf (dlF d k t)) : nums (lstN d.label.length bf) = aftD d 65536 := by
 have h4 := hok.2.2.1
 have hle : N ≤ 65536 := by have := hN.1; have := hok.2.1; omega
 rw [aftD_ok hok, lvl_stop' hN.2.1 hle, ← lvl_norm d N]
 have hlev : ∀ m s t (hs : s < d.next.length) (ht : t < d.next.length), bf s = bf t → alF d m s = alF d m t := by
  intro m
  induction m with
  | zero =>
   intro s t hs ht e
   rw [alF_eq h4 0 hs ht, lvl_zero h4 (by omega) (by omega)]
   exact (blF_iff (by omega) (by omega)).1 (hlab s t (by omega) (by omega) e)
  | succ m ih =>
   intro s t hs ht e
   rw [alF_eq h4 (m + 1) hs ht, lvl_succ h4 m hs ht]
   refine ⟨(alF_eq h4 m hs ht).1 (ih s t hs ht e), fun k hk => ?_⟩
   rw [atL_dl hok hs hk, atL_dl hok ht hk]
   have h1 := (dlF_at hok hs (k := k) (by omega)).2.2
   have h2 := (dlF_at hok ht (k := k) (by omega)).2.2
   rw [ih _ _ (by omega) (by omega) (hst s t k (by omega) (by omega) hk e)]
 have hll : (lstN d.label.length bf).length = (lvl d N).length := by rw [lstN_len, lvl_len h4, h4]
 refine nums_same hll fun i j hi hj => ?_
 rw [lstN_len] at hi hj
 rw [lstN_get bf hi, lstN_get bf hj]
 have e1 := alF_eq h4 N (s := i) (t := j) (by omega) (by omega)
 constructor
 ·intro e; exact e1.1 (hlev N i j (by omega) (by omega) (by omega))
 ·intro e; have := hfine i j hi hj (e1.2 e); omega
set_option maxRecDepth 4000 in
theorem hb1_t {d : DfaT} {C : List Value} {an al ay : Option Addr} {cn cl cs : Nat} {rs : List Value} {G : PHeap} {H : Heap} (O : OpenD G d C an al ay cn cl cs rs) {n w W : Nat} (hW : d.width = (W : Int)) (hW2 : W ≤ 256) (hw : w ≤ 66000) {b1 bp bx bm csp : Nat} {vs va vb vk : Value} :
  Tri Try.prog Try.f8.ntmps (piece [1, 1, 1, 0] Try.f8) G [(1, .pointer (some ⟨b1, 0, none⟩)), (3, .pointer (some ⟨bp, 0, none⟩))] ((bp, .cells (PC vs va vb (.slice (some ⟨bx, 0, none⟩) w csp) vk (.slice none 0 0) (.map (some bm)) (W : Nat)) [] 52) :: (bm, .map []) :: (b1, .cells C [] 27) :: H) (onlyN fun G' l H' => ∃ (ws : List (Nat × Nat)) (am : List ((Int × Int) × Int)) (vw : Value) (kw : Heap), (∀ b k, b < w → k < W → (b, k) ∈ ws) ∧ ws.Nodup ∧ (∀ p ∈ ws, p.1 < w ∧ p.2 < W) ∧ ws.length ≤ w * W ∧ AskI am ws ∧ WtO vw ws kw ∧ G' = G ∧ restrict [3] l = [(3, .pointer (some ⟨bp, 0, none⟩))] ∧ H' = (bp, .cells (PC vs va vb (.slice (some ⟨bx, 0, none⟩) w csp) vk vw (.map (some bm)) (W : Nat)) [] 52) :: (bm, .map (am.map fun p => (enc2 p.1, Value.int .i64 p.2))) :: (kw ++ H)) := by
 have hCl := O.len
 have hCw := O.w
 have hmulw : w * W ≤ 66000 * 256 := Nat.mul_le_mul hw hW2
 refine Tri.sepT fun hs0 => ?_
 have hsE := hs0
 try simp only [zzs] at hsE
 repeat (obtain ⟨hsx, hsE⟩ := hsE)
 refine Tri.piece (f := Try.f8) rfl ?_
 refine Tri.run tok [0, 1, 2, 3, 4, 5, 6, 9, 16, 17, 18, 21, 22, 23, 36] (by kernel_rfl) ?_
 repeat' first
  | (with_reducible first | refine Nx.go ?_ | refine Bk.go (fun _ => ?_) fun _ => ?_)
  | (with_reducible refine NewB.mk2 fun nb hnb hnb1 hnb2 => ?_; try simp only [zzn] at hnb2)
  | simp -dsimp -implicitDefEqProofs (disch := first | assumption | (simp only [zzm]; done) | omega | (try with_reducible refine Row.adr (by assumption) ?_); simp only [zzl, Nat.reduceAdd]; first | done | omega) only [go_sem, ↓reduceIte, seval]
 refine Tri.loopU tok [0, 1, 2, 3, 4, 5, 6, 9, 16, 17, 18, 21, 22, 23, 36] (by kernel_rfl) [1, 3, 16, 17] (fun q G' l H' => ∃ (i : Nat) (ws : List (Nat × Nat)) (am : List ((Int × Int) × Int)) (vw : Value) (kw : Heap), i + q = w ∧ (∀ b k, b < i → k < W → (b, k) ∈ ws) ∧ ws.Nodup ∧ (∀ p ∈ ws, p.1 < w ∧ p.2 < W) ∧ ws.length ≤ i * W ∧ AskI am ws ∧ WtO vw ws kw ∧ G' = G ∧ H' = (bp, .cells (PC vs va vb (.slice (some ⟨bx, 0, none⟩) w csp) vk vw (.map (some bm)) (W : Nat)) [] 52) :: (b1, .cells C [] 27) :: (bm, .map (am.map fun p => (enc2 p.1, Value.int .i64 p.2))) :: (kw ++ H) ∧ l = [(1, .pointer (some ⟨b1, 0, none⟩)), (3, .pointer (some ⟨bp, 0, none⟩)), (16, .int .i64 (w : Nat)), (17, .int .i64 (i : Nat))]) (w) ?_ ?_
 ·exact Upd.leave (H' := (bp, .cells (PC vs va vb (.slice (some ⟨bx, 0, none⟩) w csp) vk (.slice none 0 0) (.map (some bm)) (W : Nat)) [] 52) :: (b1, .cells C [] 27) :: (bm, .map []) :: ([] ++ H)) (by intro fsum; simp only [zzq]; omega) ⟨0, [], [], _, [], by omega, fun b k h => by omega, List.nodup_nil, fun p h => (by cases h), by simp, AskI.nil, .inl ⟨none, rfl, rfl, rfl⟩, rfl, rfl, rfl⟩
 ·rintro q G1 l H1 hle hs1 ⟨i, ws, am, vw, kw, hiq, h1, h2, h3, h4, hA, hO, rfl, rfl, rfl⟩
  have hsE := hs1
  try simp only [zzs] at hsE
  repeat (obtain ⟨hsx, hsE⟩ := hsE)
  by_cases hi : i < w
  ·repeat' first
    | (with_reducible first | refine Nx.go ?_ | refine Bk.go (fun _ => ?_) fun _ => ?_)
    | (with_reducible refine NewB.mk2 fun nb hnb hnb1 hnb2 => ?_; try simp only [zzn] at hnb2)
    | simp -dsimp -implicitDefEqProofs (disch := first | assumption | (simp only [zzm]; done) | omega | (try with_reducible refine Row.adr (by assumption) ?_); simp only [zzl, Nat.reduceAdd]; first | done | omega) only [go_sem, ↓reduceIte, seval, hCl, hCw, hW]
   refine Tri.loopU tok [0, 1, 2, 3, 4, 5, 6, 9, 16, 17, 18, 21, 22, 23, 36] (by kernel_rfl) [1, 3, 4, 16, 17, 21, 22] (fun q2 G' l H' => ∃ (j : Nat) (ws : List (Nat × Nat)) (am : List ((Int × Int) × Int)) (vw : Value) (kw : Heap), j + q2 = W ∧ (∀ b k, b < i → k < W → (b, k) ∈ ws) ∧ (∀ k, k < j → (i, k) ∈ ws) ∧ ws.Nodup ∧ (∀ p ∈ ws, p.1 < w ∧ p.2 < W) ∧ ws.length ≤ i * W + j ∧ AskI am ws ∧ WtO vw ws kw ∧ G' = G1 ∧ H' = (bp, .cells (PC vs va vb (.slice (some ⟨bx, 0, none⟩) w csp) vk vw (.map (some bm)) (W : Nat)) [] 52) :: (b1, .cells C [] 27) :: (bm, .map (am.map fun p => (enc2 p.1, Value.int .i64 p.2))) :: (kw ++ H) ∧ l = [(1, .pointer (some ⟨b1, 0, none⟩)), (3, .pointer (some ⟨bp, 0, none⟩)), (4, .int .i64 (i : Nat)), (16, .int .i64 (w : Nat)), (17, .int .i64 (i : Nat)), (21, .int .i64 (W : Nat)), (22, .int .i64 (j : Nat))]) (W) ?_ ?_
   ·exact Upd.now ⟨0, ws, am, vw, kw, by omega, h1, fun k h => by omega, h2, h3, by omega, hA, hO, rfl, rfl, rfl⟩
   ·clear h1 h2 h3 h4 hA hO hs1
    rintro q2 G2 l H2 hle2 hs2 ⟨j, ws, am, vw, kw, hjq, h1, h1', h2, h3, h4, hA, hO, rfl, rfl, rfl⟩
    have hsE := hs2
    try simp only [zzs] at hsE
    repeat (obtain ⟨hsx, hsE⟩ := hsE)
    have hmul : i * W + W ≤ w * W := by rw [← Nat.succ_mul]; exact Nat.mul_le_mul_right W (by omega)
    by_cases hj : j < W
    ·repeat' first
      | (with_reducible first | refine Nx.go ?_ | refine Bk.go (fun _ => ?_) fun _ => ?_)
      | (with_reducible refine NewB.mk2 fun nb hnb hnb1 hnb2 => ?_; try simp only [zzn] at hnb2)
      | simp -dsimp -implicitDefEqProofs (disch := first | assumption | (simp only [zzm]; done) | omega | (try with_reducible refine Row.adr (by assumption) ?_); simp only [zzl, Nat.reduceAdd]; first | done | omega) only [go_sem, ↓reduceIte, seval]
     refine FnT.upd (FnT.leave (H' := (bp, .cells (PC vs va vb (.slice (some ⟨bx, 0, none⟩) w csp) vk vw (.map (some bm)) (W : Nat)) [] 52) :: (bm, .map (am.map fun p => (enc2 p.1, Value.int .i64 p.2))) :: (kw ++ ((b1, .cells C [] 27) :: H))) (ask_t (by omega) hA hO fun vw' am' kw' hO' hA' => ?_) (by intro fsum; simp only [zzq]; omega))
     refine Upd.go (H' := (bp, .cells (PC vs va vb (.slice (some ⟨bx, 0, none⟩) w csp) vk vw' (.map (some bm)) (W : Nat)) [] 52) :: (b1, .cells C [] 27) :: (bm, .map (am'.map fun p => (enc2 p.1, Value.int .i64 p.2))) :: (kw' ++ H)) (by intro fsum; simp only [zzq]; omega) (Upd.now ?_)
     repeat' first
      | (with_reducible first | refine Nx.go ?_ | refine Bk.go (fun _ => ?_) fun _ => ?_)
      | (with_reducible refine NewB.mk2 fun nb hnb hnb1 hnb2 => ?_; try simp only [zzn] at hnb2)
      | simp -dsimp -implicitDefEqProofs (disch := first | assumption | (simp only [zzm]; done) | omega | (try with_reducible refine Row.adr (by assumption) ?_); simp only [zzl, Nat.reduceAdd]; first | done | omega) only [go_sem, ↓reduceIte, seval]
     refine Upd.now ⟨q2 - 1, by omega, j + 1, _, am', vw', kw', by omega, fun b k g1 g2 => askW_sub (h1 b k g1 g2), fun k hk => ?_, askW_nodup h2, fun p hp => ?_, ?_, hA', hO', rfl, rfl, rfl⟩
     ·rcases Nat.lt_or_ge k j with g | g
      ·exact askW_sub (h1' k g)
      ·obtain rfl : k = j := by omega
       exact askW_mem _ _
     ·rcases askW_of hp with g | g
      ·exact h3 p g
      ·rw [g]; exact ⟨hi, hj⟩
     ·have := askW_len ws (i, j); omega
    ·obtain rfl : j = W := by omega
     repeat' first
      | (with_reducible first | refine Nx.go ?_ | refine Bk.go (fun _ => ?_) fun _ => ?_)
      | (with_reducible refine NewB.mk2 fun nb hnb hnb1 hnb2 => ?_; try simp only [zzn] at hnb2)
      | simp -dsimp -implicitDefEqProofs (disch := first | assumption | (simp only [zzm]; done) | omega | (try with_reducible refine Row.adr (by assumption) ?_); simp only [zzl, Nat.reduceAdd]; first | done | omega) only [go_sem, ↓reduceIte, seval]
     refine Upd.now ⟨q - 1, by omega, i + 1, ws, am, vw, kw, by omega, fun b k g1 g2 => ?_, h2, h3, by rw [Nat.succ_mul]; omega, hA, hO, rfl, rfl, rfl⟩
     rcases Nat.lt_or_ge b i with g | g
     ·exact h1 b k g g2
     ·obtain rfl : b = i := by omega
      exact h1' k g2
  ·obtain rfl : i = w := by omega
   repeat' first
    | (with_reducible first | refine Nx.go ?_ | refine Bk.go (fun _ => ?_) fun _ => ?_)
    | (with_reducible refine NewB.mk2 fun nb hnb hnb1 hnb2 => ?_; try simp only [zzn] at hnb2)
    | simp -dsimp -implicitDefEqProofs (disch := first | assumption | (simp only [zzm]; done) | omega | (try with_reducible refine Row.adr (by assumption) ?_); simp only [zzl, Nat.reduceAdd]; first | done | omega) only [go_sem, ↓reduceIte, seval]
   refine Upd.leave (H' := (bp, .cells (PC vs va vb (.slice (some ⟨bx, 0, none⟩) i csp) vk vw (.map (some bm)) (W : Nat)) [] 52) :: (bm, .map (am.map fun p => (enc2 p.1, Value.int .i64 p.2))) :: (kw ++ H)) (by intro fsum; simp only [zzq]; omega) ?_
   exact ⟨ws, am, vw, kw, h1, h2, h3, h4, hA, hO, rfl, rfl, rfl⟩
set_option maxRecDepth 4000 in
theorem hb2_t {n W : Nat} {al bf0 : Nat → Nat} {dl : Nat → Nat → Nat} (hdl : ∀ j s, j < W → s < n → dl j s < n) (hal : ∀ j s t, j < W → s < n → t < n → al s = al t → al (dl j s) = al (dl j t)) (hn : n ≤ 66000) (hW : W ≤ 256) {w : Nat} {st pl bf fr to : Nat → Nat} {ws : List (Nat × Nat)} (hI : HInv n W al bf0 w st pl bf fr to ws) (hlaw : PLaw n W bf dl ws 0 fun _ => False) (hms : ws.length + W * (n - w) ≤ 20000000) {am : List ((Int × Int) × Int)} (hA : AskI am ws) {G : PHeap} {bp bs ba bl bx bm cb csp : Nat} {spb spx : List Value} (hcx : w * 3 + spx.length = csp * 3) {vk vw : Value} {kw : Heap} (hO : WtO vw ws kw) (hbk : BkT G n W dl vk) {H : Heap} :
  Tri Try.prog Try.f8.ntmps (piece [1, 1, 1, 1, 0] Try.f8) G [(3, .pointer (some ⟨bp, 0, none⟩))] ((bp, .cells (PC (.slice (some ⟨bs, 0, none⟩) n n) (.slice (some ⟨ba, 0, none⟩) n n) (.slice (some ⟨bl, 0, none⟩) n cb) (.slice (some ⟨bx, 0, none⟩) w csp) vk vw (.map (some bm)) (W : Nat)) [] 52) :: (bx, .cells (row3 w fr to (fun _ => 0)) spx 75) :: (bs, .cells (rowN n st) [] 3) :: (ba, .cells (rowN n pl) [] 3) :: (bl, .cells (rowN n bf) spb 3) :: (bm, .map (am.map fun p => (enc2 p.1, Value.int .i64 p.2))) :: (kw ++ H)) (onlyN fun G' l H' => ∃ (w : Nat) (st pl bf fr to : Nat → Nat) (am : List ((Int × Int) × Int)) (vw : Value) (kw : Heap) (bx csp : Nat) (spx : List Value), PLe G G' ∧ HInv n W al bf0 w st pl bf fr to [] ∧ PLaw n W bf dl [] 0 (fun _ => False) ∧ restrict [3] l = [(3, .pointer (some ⟨bp, 0, none⟩))] ∧ H' = (bp, .cells (PC (.slice (some ⟨bs, 0, none⟩) n n) (.slice (some ⟨ba, 0, none⟩) n n) (.slice (some ⟨bl, 0, none⟩) n cb) (.slice (some ⟨bx, 0, none⟩) w csp) vk vw (.map (some bm)) (W : Nat)) [] 52) :: (bx, .cells (row3 w fr to (fun _ => 0)) spx 75) :: (bs, .cells (rowN n st) [] 3) :: (ba, .cells (rowN n pl) [] 3) :: (bl, .cells (rowN n bf) spb 3) :: (bm, .map (am.map fun p => (enc2 p.1, Value.int .i64 p.2))) :: (kw ++ H)) := by
 refine Tri.sepT fun hs0 => ?_
 have hsE := hs0
 try simp only [zzs] at hsE
 repeat (obtain ⟨hsx, hsE⟩ := hsE)
 refine Tri.piece (f := Try.f8) rfl ?_
 refine Tri.run tok [0, 1, 2, 3, 4, 5, 6, 9, 16, 17, 18, 21, 22, 23, 36] (by kernel_rfl) ?_
 repeat' first
  | (with_reducible first | refine Nx.go ?_ | refine Bk.go (fun _ => ?_) fun _ => ?_)
  | (with_reducible refine NewB.mk2 fun nb hnb hnb1 hnb2 => ?_; try simp only [zzn] at hnb2)
  | simp -dsimp -implicitDefEqProofs (disch := first | assumption | (simp only [zzm]; done) | omega | (try with_reducible refine Row.adr (by assumption) ?_); simp only [zzl, Nat.reduceAdd]; first | done | omega) only [go_sem, ↓reduceIte, seval]
 refine Tri.loopU tok [0, 1, 2, 3, 4, 5, 6, 9, 16, 17, 18, 21, 22, 23, 36] (by kernel_rfl) [3] (fun q G' l H' => ∃ (w : Nat) (st pl bf fr to : Nat → Nat) (ws : List (Nat × Nat)) (am : List ((Int × Int) × Int)) (vw : Value) (kw : Heap) (bx csp : Nat) (spx : List Value), ws.length + W * (n - w) = q ∧ q ≤ 20000000 ∧ PLe G G' ∧ HInv n W al bf0 w st pl bf fr to ws ∧ PLaw n W bf dl ws 0 (fun _ => False) ∧ AskI am ws ∧ w * 3 + spx.length = csp * 3 ∧ WtO vw ws kw ∧ H' = (bp, .cells (PC (.slice (some ⟨bs, 0, none⟩) n n) (.slice (some ⟨ba, 0, none⟩) n n) (.slice (some ⟨bl, 0, none⟩) n cb) (.slice (some ⟨bx, 0, none⟩) w csp) vk vw (.map (some bm)) (W : Nat)) [] 52) :: (bx, .cells (row3 w fr to (fun _ => 0)) spx 75) :: (bs, .cells (rowN n st) [] 3) :: (ba, .cells (rowN n pl) [] 3) :: (bl, .cells (rowN n bf) spb 3) :: (bm, .map (am.map fun p => (enc2 p.1, Value.int .i64 p.2))) :: (kw ++ H) ∧ l = [(3, .pointer (some ⟨bp, 0, none⟩))]) ((ws.length + W * (n - w))) ?_ ?_
 ·exact Upd.now ⟨w, st, pl, bf, fr, to, ws, am, vw, kw, bx, csp, spx, rfl, hms, PLe.refl _, hI, hlaw, hA, hcx, hO, rfl, rfl⟩
 ·clear hI hlaw hms hA hcx hO hs0
  rintro q G1 l H1 hle hs1 ⟨w, st, pl, bf, fr, to, ws, am, vw, kw, bx, csp, spx, hq, hms, hle1, hI, hlaw, hA, hcx, hO, rfl, rfl⟩
  obtain ⟨av, cv, ev⟩ := hO.isS
  rcases List.eq_nil_or_concat ws with rfl | ⟨ws0, ⟨b, k⟩, hws⟩
  ·rw [ev] at hs1 ⊢
   have hsE := hs1
   try simp only [zzs] at hsE
   repeat (obtain ⟨hsx, hsE⟩ := hsE)
   repeat' first
    | (with_reducible first | refine Nx.go ?_ | refine Bk.go (fun _ => ?_) fun _ => ?_)
    | (with_reducible refine NewB.mk2 fun nb hnb hnb1 hnb2 => ?_; try simp only [zzn] at hnb2)
    | simp -dsimp -implicitDefEqProofs (disch := first | assumption | (simp only [zzm]; done) | omega | (try with_reducible refine Row.adr (by assumption) ?_); simp only [zzl, Nat.reduceAdd]; first | done | omega) only [go_sem, ↓reduceIte, seval]
   refine Upd.now ⟨w, st, pl, bf, fr, to, am, vw, kw, bx, csp, spx, hle1, hI, hlaw, rfl, ?_⟩
   rw [ev]; rfl
  ·rw [List.concat_eq_append] at hws
   subst hws
   have hlen : (ws0 ++ [(b, k)]).length = ws0.length + 1 := by simp
   rw [hlen] at ev hq
   obtain ⟨hb, hk⟩ := hI.bd (b, k) (List.mem_append_right _ (List.mem_singleton.2 rfl))
   have hnd := hI.nd
   have hlaw0 := hlaw.take
   have hI0 : HInv n W al bf0 w st pl bf fr to ws0 := ⟨hI.P, hI.fine, hI.lab, (List.nodup_append.1 hnd).1, fun p hp => hI.bd p (List.mem_append_left _ hp)⟩
   rw [ev] at hs1 hO ⊢
   have hsE := hs1
   try simp only [zzs] at hsE
   repeat (obtain ⟨hsx, hsE⟩ := hsE)
   repeat' first
    | (with_reducible first | refine Nx.go ?_ | refine Bk.go (fun _ => ?_) fun _ => ?_)
    | (with_reducible refine NewB.mk2 fun nb hnb hnb1 hnb2 => ?_; try simp only [zzn] at hnb2)
    | simp -dsimp -implicitDefEqProofs (disch := first | assumption | (simp only [zzm]; done) | omega | (try with_reducible refine Row.adr (by assumption) ?_); simp only [zzl, Nat.reduceAdd]; first | done | omega) only [go_sem, ↓reduceIte, seval]
   refine FnT.upd (FnT.leave (H' := (bp, .cells (PC (.slice (some ⟨bs, 0, none⟩) n n) (.slice (some ⟨ba, 0, none⟩) n n) (.slice (some ⟨bl, 0, none⟩) n cb) (.slice (some ⟨bx, 0, none⟩) w csp) vk (.slice av (ws0.length + 1) cv) (.map (some bm)) (W : Nat)) [] 52) :: (bm, .map (am.map fun p => (enc2 p.1, Value.int .i64 p.2))) :: (kw ++ ((bx, .cells (row3 w fr to (fun _ => 0)) spx 75) :: (bs, .cells (rowN n st) [] 3) :: (ba, .cells (rowN n pl) [] 3) :: (bl, .cells (rowN n bf) spb 3) :: H))) (take_t (by omega) hA hnd hO fun vw' am' kw' hO' hA' => ?_) (by intro fsum; simp only [zzq]; omega))
   refine Upd.go (H' := (bp, .cells (PC (.slice (some ⟨bs, 0, none⟩) n n) (.slice (some ⟨ba, 0, none⟩) n n) (.slice (some ⟨bl, 0, none⟩) n cb) (.slice (some ⟨bx, 0, none⟩) w csp) vk vw' (.map (some bm)) (W : Nat)) [] 52) :: (bx, .cells (row3 w fr to (fun _ => 0)) spx 75) :: (bs, .cells (rowN n st) [] 3) :: (ba, .cells (rowN n pl) [] 3) :: (bl, .cells (rowN n bf) spb 3) :: (bm, .map (am'.map fun p => (enc2 p.1, Value.int .i64 p.2))) :: (kw' ++ H)) (by intro fsum; simp only [zzq]; omega) (Upd.sepI fun hs2 => Upd.now ?_)
   have hsE := hs2
   try simp only [zzs] at hsE
   repeat (obtain ⟨hsx, hsE⟩ := hsE)
   repeat' first
    | (with_reducible first | refine Nx.go ?_ | refine Bk.go (fun _ => ?_) fun _ => ?_)
    | (with_reducible refine NewB.mk2 fun nb hnb hnb1 hnb2 => ?_; try simp only [zzn] at hnb2)
    | simp -dsimp -implicitDefEqProofs (disch := first | assumption | (simp only [zzm]; done) | omega | (try with_reducible refine Row.adr (by assumption) ?_); simp only [zzl, Nat.reduceAdd]; first | done | omega) only [go_sem, ↓reduceIte, seval]
   refine FnT.upd (FnT.leave (H' := (bp, .cells (PC (.slice (some ⟨bs, 0, none⟩) n n) (.slice (some ⟨ba, 0, none⟩) n n) (.slice (some ⟨bl, 0, none⟩) n cb) (.slice (some ⟨bx, 0, none⟩) w csp) vk vw' (.map (some bm)) (W : Nat)) [] 52) :: (bx, .cells (row3 w fr to (fun _ => 0)) spx 75) :: (bs, .cells (rowN n st) [] 3) :: (ba, .cells (rowN n pl) [] 3) :: (bl, .cells (rowN n bf) spb 3) :: (bm, .map (am'.map fun p => (enc2 p.1, Value.int .i64 p.2))) :: (kw' ++ H)) (by_t hdl hal hn hW hI0 hb hk hlaw0 (by omega) hA' hcx hO' (hbk.mono hle1) fun G2 w2 st2 pl2 bf2 fr2 to2 ws2 am2 vw2 kw2 bx2 csp2 spx2 hle2 hI2 hlaw2 hms2 hA2 hcx2 hO2 => Upd.now ?_) (by intro fsum; simp only [zzq]; omega))
   repeat' first
    | (with_reducible first | refine Nx.go ?_ | refine Bk.go (fun _ => ?_) fun _ => ?_)
    | (with_reducible refine NewB.mk2 fun nb hnb hnb1 hnb2 => ?_; try simp only [zzn] at hnb2)
    | simp -dsimp -implicitDefEqProofs (disch := first | assumption | (simp only [zzm]; done) | omega | (try with_reducible refine Row.adr (by assumption) ?_); simp only [zzl, Nat.reduceAdd]; first | done | omega) only [go_sem, ↓reduceIte, seval]
   exact Upd.now ⟨ws2.length + W * (n - w2), by omega, w2, st2, pl2, bf2, fr2, to2, ws2, am2, vw2, kw2, bx2, csp2, spx2, rfl, by omega, hle1.trans hle2, hI2, hlaw2, hA2, hcx2, hO2, rfl, rfl⟩
end Go.Proofs.Ytdeableflgakdaa
namespace Go.Proofs.Ytdeableflgakdaa
open Go Go.V Go.Proofs
set_option maxRecDepth 4000 in
theorem hblocks_t {d : DfaT} (hsm : SmallD d) {G : PHeap} {H : Heap} {R : Value → PHeap → Heap → Prop} {v : Value} (hv : IsD G d v)
  (hR : ∀ G' v', PLe G G' → Sep G' (keys H) → Sl G' (Value.int .i64) v' (aftD d 65536) → R v' G' H) : FnT Try.prog 8 [v] G H R := by
 obtain ⟨C, an, al, ay, cn, cl, cs, rs, rfl, O⟩ := hv.opened
 have hCl := O.len
 have hCa := O.all
 refine FnT.sep ?_
 by_cases hok : RightP d
 ·have hb := boolOf_yes hok
  obtain ⟨hk1, hk2, hk3, hk4, hk5, hk6, hk7⟩ := id hok
  obtain ⟨N, hN⟩ := last_ex hk3 hk1
  obtain ⟨n, hnl⟩ : ∃ n, n = d.label.length := ⟨_, rfl⟩
  obtain ⟨W, hWd⟩ : ∃ W : Nat, W = d.width.toNat := ⟨_, rfl⟩
  have hw1 : 0 ≤ d.width := by omega
  have hW : d.width = (W : Int) := by omega
  have hW2 : W ≤ 256 := by
   have h2 := tabO_len d.of
   have h3 := O.ofl
   omega
  have hdl : ∀ j s, j < W → s < n → dlF d j s < n := fun j s hj hs => by
   have := (dlF_at hok (s := s) (k := j) (by omega) (by omega)).2.2
   omega
  have hal : ∀ j s t, j < W → s < n → t < n → alF d N s = alF d N t → alF d N (dlF d j s) = alF d N (dlF d j t) := fun j s t hj hs ht e => alF_step hok hN (by omega) (by omega) (by omega) e
  have hfin := fun bf => blocks_eq hok hN (bf := bf)
  refine FnT.bodyS tok [0, 1, 2, 3, 4, 5, 6, 9, 16, 17, 18, 21, 22, 23, 36] (.seq .run (.seq .run (.seq .run (.seq .cut (.seq .cut .cut))))) Try.func8 rfl (by kernel_rfl) (by kernel_rfl) (by show _ ≤ 50; simp) fun hsep => ?_
  rw [Try.results8]
  have hsE := hsep
  try simp only [zzs] at hsE
  repeat (obtain ⟨hsx, hsE⟩ := hsE)
  repeat' first
   | (with_reducible first | refine Nx.go ?_ | refine Bk.go (fun _ => ?_) fun _ => ?_)
   | (with_reducible refine NewB.mk2 fun nb hnb hnb1 hnb2 => ?_; try simp only [zzn] at hnb2)
   | simp -dsimp -implicitDefEqProofs (disch := first | assumption | (simp only [zzm]; done) | omega | (try with_reducible refine Row.adr (by assumption) ?_); simp only [zzl, Nat.reduceAdd]; first | done | omega) only [go_sem, ↓reduceIte, seval, -List.reduceReplicate, List.toList_toArray, hCl, hCa, hb]
   | with_reducible refine right_t hsm O.is ?_
  obtain ⟨b1, e10⟩ : ∃ x, x = nb := ⟨_, rfl⟩
  subst e10
  refine newParter_t hsm hok hnl hW hW2 O.is fun G2 bp bs ba bl bm cb spb vsp ks vk st pl w fr to hle2 hncb hP hks hbk => ?_
  have hw0 := hP.bl_lt 0 (by omega)
  have hwn := hP.nb_le
  rcases hks with ⟨_, _, h0, _, _⟩ | ⟨bx, csp, spx, rfl, rfl, hxl, hxc⟩
  ·omega
  rw [row3_len] at hxc
  repeat' first
   | (with_reducible first | refine Nx.go ?_ | refine Bk.go (fun _ => ?_) fun _ => ?_)
   | (with_reducible refine NewB.mk2 fun nb hnb hnb1 hnb2 => ?_; try simp only [zzn] at hnb2)
   | simp -dsimp -implicitDefEqProofs (disch := first | assumption | (simp only [zzm]; done) | omega | (try with_reducible refine Row.adr (by assumption) ?_); simp only [zzl, Nat.reduceAdd]; first | done | omega) only [go_sem, ↓reduceIte, seval]
  refine Tri.live [1, 3] ?_
  refine Tri.upd (Upd.go (H' := (bp, .cells (PC (.slice (some ⟨bs, 0, none⟩) n n) (.slice (some ⟨ba, 0, none⟩) n n) (.slice (some ⟨bl, 0, none⟩) n cb) (.slice (some ⟨bx, 0, none⟩) w csp) vk (.slice none 0 0) (.map (some bm)) (W : Nat)) [] 52) :: (bm, .map []) :: (b1, .cells C [] 27) :: ((bx, .cells (row3 w fr to (fun _ => 0)) spx 75) :: (bs, .cells (rowN n st) [] 3) :: (ba, .cells (rowN n pl) [] 3) :: (bl, .cells (rowN n (blF d.label)) spb 3) :: H)) (by intro fsum; simp only [zzq]; omega) (Upd.now ?_))
  refine Tri.isPiece [1, 1, 1, 0] Try.f8 (by kernel_rfl) ?_
  refine Tri.onlyN (hb1_t (n := n) (O.mono hle2) hW hW2 (by omega)) fun G3 l3 H3 hle3 hs3 hM => ?_
  obtain ⟨ws, am, vw, kw, h1, h2, h3, h4, hA, hO, rfl, hfr, rfl⟩ := hM
  simp only [go_sem]
  refine Tri.live [3] ?_
  rw [hfr]
  have hmul : w * W + W * (n - w) = W * n := by
   rw [Nat.mul_comm w W, ← Nat.mul_add]; congr 1; omega
  have hmul2 : W * n ≤ 256 * 65536 := Nat.mul_le_mul hW2 (by omega)
  refine Tri.upd (Upd.go (H' := (bp, .cells (PC (.slice (some ⟨bs, 0, none⟩) n n) (.slice (some ⟨ba, 0, none⟩) n n) (.slice (some ⟨bl, 0, none⟩) n cb) (.slice (some ⟨bx, 0, none⟩) w csp) vk vw (.map (some bm)) (W : Nat)) [] 52) :: (bx, .cells (row3 w fr to (fun _ => 0)) spx 75) :: (bs, .cells (rowN n st) [] 3) :: (ba, .cells (rowN n pl) [] 3) :: (bl, .cells (rowN n (blF d.label)) spb 3) :: (bm, .map (am.map fun p => (enc2 p.1, Value.int .i64 p.2))) :: (kw ++ H)) (by intro fsum; simp only [zzq]; omega) (Upd.now ?_))
  refine Tri.isPiece [1, 1, 1, 1, 0] Try.f8 (by kernel_rfl) ?_
  refine Tri.onlyN (hb2_t (al := alF d N) (bf0 := blF d.label) hdl hal (by omega) hW2 ⟨hP, fun s t hs ht e => ?_, fun s t _ _ e => e, h2, h3⟩ (fun s t j hs ht hj e ne => .inl (h1 _ j (hP.bl_lt _ (hdl j s hj hs)) hj)) (by omega) hA hxc hO hbk) fun G4 l4 H4 hle4 hs4 hM => ?_
  ·rw [blF_iff (by omega) (by omega), ← lvl_zero hk3 (by omega) (by omega)]
   exact lvl_fine hk3 (by omega) (by omega) N (Nat.zero_le N) ((alF_eq hk3 N (by omega) (by omega)).1 e)
  ·obtain ⟨w', st', pl', bf', fr', to', am', vw', kw', bx', csp', spx', hle34, hI', hlaw', hfr4, rfl⟩ := hM
   simp only [go_sem]
   refine Tri.live [3] ?_
   rw [hfr4]
   have hres := hfin bf' (fun s t hs ht e => hI'.fine s t (by omega) (by omega) e) (fun s t hs ht e => hI'.lab s t (by omega) (by omega) e) (fun s t k hs ht hk e => hlaw'.done (by omega) (by omega) (by omega) e)
   rw [← hnl] at hres
   refine Tri.upd (Upd.go (H' := (bl, .cells (rowN n bf') spb 3) :: (bp, .cells (PC (.slice (some ⟨bs, 0, none⟩) n n) (.slice (some ⟨ba, 0, none⟩) n n) (.slice (some ⟨bl, 0, none⟩) n cb) (.slice (some ⟨bx', 0, none⟩) w' csp') vk vw' (.map (some bm)) (W : Nat)) [] 52) :: H) (by intro fsum; simp only [zzq]; omega) (Upd.sepI fun hsx => Upd.shareRow hsx.1.1 fun G5 hle5 hs5 hr5 => ?_))
   rw [lstN_row] at hr5
   have hsE := hs5
   try simp only [zzs] at hsE
   repeat (obtain ⟨hsx, hsE⟩ := hsE)
   refine Tri.run tok [0, 1, 2, 3, 4, 5, 6, 9, 16, 17, 18, 21, 22, 23, 36] (by kernel_rfl) ?_
   repeat' first
    | (with_reducible first | refine Nx.go ?_ | refine Bk.go (fun _ => ?_) fun _ => ?_)
    | (with_reducible refine NewB.mk2 fun nb hnb hnb1 hnb2 => ?_; try simp only [zzn] at hnb2)
    | simp -dsimp -implicitDefEqProofs (disch := first | assumption | (simp only [zzm]; done) | omega | (try with_reducible refine Row.adr (by assumption) ?_); simp only [zzl, Nat.reduceAdd]; first | done | omega) only [go_sem, ↓reduceIte, seval]
   refine norm_t (l := lstN n bf') (by rw [lstN_len]; omega) ⟨_, cb, by rw [lstN_len], hr5, by rw [lstN_len]; exact hncb⟩ fun G6 v6 hle6 hs6 hsl6 => ?_
   rw [hres] at hsl6
   repeat' first
    | (with_reducible first | refine Nx.go ?_ | refine Bk.go (fun _ => ?_) fun _ => ?_)
    | (with_reducible refine NewB.mk2 fun nb hnb hnb1 hnb2 => ?_; try simp only [zzn] at hnb2)
    | simp -dsimp -implicitDefEqProofs (disch := first | assumption | (simp only [zzm]; done) | omega | (try with_reducible refine Row.adr (by assumption) ?_); simp only [zzl, Nat.reduceAdd]; first | done | omega) only [go_sem, ↓reduceIte, seval]
   unfold UpdR
   refine Upd.leave (H' := H) (by intro fsum; first | exact Nat.le_refl _ | (simp only [zzq]; omega)) ?_
   exact fun _ hs => hR G6 v6 (hle2.trans (hle34.trans (hle5.trans hle6))) hs hsl6
 ·have hb := boolOf_no hok
  rw [aftD_no hok] at hR
  refine FnT.body tok [0, 1, 2, 3, 4, 5, 6, 9, 16, 17, 18, 21, 22, 23, 36] Try.func8 rfl (by kernel_rfl) (by kernel_rfl) (by show _ ≤ 50; simp) fun hsep => ?_
  rw [Try.results8]
  have hsE := hsep
  try simp only [zzs] at hsE
  repeat (obtain ⟨hsx, hsE⟩ := hsE)
  repeat' first
   | (with_reducible first | refine Nx.go ?_ | refine Bk.go (fun _ => ?_) fun _ => ?_)
   | (with_reducible refine NewB.mk2 fun nb hnb hnb1 hnb2 => ?_; try simp only [zzn] at hnb2)
   | simp -dsimp -implicitDefEqProofs (disch := first | assumption | (simp only [zzm]; done) | omega | (try with_reducible refine Row.adr (by assumption) ?_); simp only [zzl, Nat.reduceAdd]; first | done | omega) only [go_sem, ↓reduceIte, seval, -List.reduceReplicate, List.toList_toArray, hCl, hCa, hb]
   | with_reducible refine right_t hsm O.is ?_
  unfold UpdR
  refine Upd.leave (H' := H) (by intro fsum; first | exact Nat.le_refl _ | (simp only [zzq]; omega)) ?_
  exact fun _ hs => hR G _ (PLe.refl _) hs (Sl.nil _ _)
end Go.Proofs.Ytdeableflgakdaa
namespace Go.Proofs.Ytdeableflgakdaa
open Go Go.V Go.Proofs
def partR (r : List Int) (k : Nat) : List Int := r.take k ++ List.replicate (r.length - k) 0
theorem partR_len (r : List Int) {k : Nat} (h : k ≤ r.length) : (partR r k).length = r.length := by
 unfold partR; rw [List.length_append, List.length_take, List.length_replicate]; omega
theorem partR_put {r : List Int} {k : Nat} (h : k < r.length) : splice ((partR r k).map (Value.int .i64)) k [.int .i64 r[k]] = (partR r (k + 1)).map (Value.int .i64) := by
 unfold splice partR
 have hn : (r.take k).length = k := by rw [List.length_take]; omega
 rw [List.take_succ_eq_append_getElem h]
 generalize r.take k = ps at hn
 rw [List.map_append, List.map_append, List.map_append, List.map_replicate, List.map_replicate, show r.length - k = (r.length - (k + 1)) + 1 by omega, List.replicate_succ]
 rw [List.take_append_of_le_length (by rw [List.length_map]; omega), List.take_of_length_le (by rw [List.length_map]; omega)]
 rw [List.drop_append, List.drop_of_length_le (by rw [List.length_map]; simp; omega)]
 simp [hn]
theorem partR_zero (r : List Int) : List.replicate r.length (Value.int .i64 0) = (partR r 0).map (Value.int .i64) := by
 unfold partR; rw [List.take_zero, List.nil_append, List.map_replicate]; rfl
theorem partR_all (r : List Int) : partR r r.length = r := by
 unfold partR; rw [List.take_length]; simp
theorem cellsD_one {d : DfaT} {vn vl vs : Value} (h1 : oneV vn = true) (h2 : oneV vl = true) (h3 : oneV vs = true) : (cellsD d vn vl vs).all oneV = true := by
 unfold cellsD u8L
 rw [List.all_append, List.all_map]
 simp only [List.all_cons, List.all_nil, h1, h2, h3, Bool.and_true, Bool.and_eq_true]
 exact ⟨List.all_eq_true.2 fun _ _ => rfl, rfl⟩
theorem build_of {d : DfaT} (h : d.of.length = 256) : splice zeroC 0 (u8L d.of) = u8L d.of ++ [Value.int .i64 0, Value.slice none 0 0, Value.slice none 0 0, Value.slice none 0 0] := by
 unfold splice
 rw [List.take_zero, List.nil_append, List.drop_append, List.drop_of_length_le (by rw [List.length_replicate, List.length_map, h]; omega), List.length_replicate, List.length_map, h]
 rfl
theorem build_w {d : DfaT} (h : d.of.length = 256) : splice (u8L d.of ++ [Value.int .i64 0, Value.slice none 0 0, Value.slice none 0 0, Value.slice none 0 0]) 256 [Value.int .i64 d.width] = cellsD d (.slice none 0 0) (.slice none 0 0) (.slice none 0 0) := by
 have hl : (u8L d.of).length = 256 := by rw [List.length_map, h]
 unfold splice cellsD
 rw [show 256 = (u8L d.of).length + 0 by omega, List.take_length_add_append, List.length_singleton, show (u8L d.of).length + 0 + 1 = (u8L d.of).length + 1 by omega, List.drop_length_add_append, List.append_assoc, List.append_assoc]
 rfl
theorem build_s {d : DfaT} (h : d.of.length = 256) (vn vl vs x : Value) : splice (cellsD d vn vl vs) 259 [x] = cellsD d vn vl x := by
 have hl : (u8L d.of).length = 256 := by rw [List.length_map, h]
 unfold splice cellsD
 rw [show 259 = (u8L d.of).length + 3 by omega, List.take_length_add_append, List.length_singleton, show (u8L d.of).length + 3 + 1 = (u8L d.of).length + 4 by omega, List.drop_length_add_append, List.append_assoc, List.append_assoc]
 rfl
theorem p6_t {d : DfaT} (hsm : SmallD d) {m : List Int} {C : List Value} {an al ay : Option Addr} {cn cl cs : Nat} {rs : List Value} {G : PHeap} {H : Heap} (O : OpenD G d C an al ay cn cl cs rs) {v0 v1 : Value} {b2 b4 : Nat} {an3 : Option Addr} {cn3 : Nat} :
  Tri Try.prog Try.f23.ntmps (piece [1, 1, 1, 0] Try.f23) G [(0, v0), (1, v1), (2, .pointer (some ⟨b2, 0, none⟩)), (4, .pointer (some ⟨b4, 0, none⟩)), (5, .int .i64 0), (6, .slice an3 (nums m).length cn3)] ((b4, .cells zeroC [] 27) :: (b2, .cells C [] 27) :: H) (onlyN fun G' fr' H' =>
   ∃ b7 vs, PLe G G' ∧ Sl G' str vs d.names ∧ restrict [0, 1, 2, 4, 5, 6, 7] fr' = [(0, v0), (1, v1), (2, .pointer (some ⟨b2, 0, none⟩)), (4, .pointer (some ⟨b4, 0, none⟩)), (5, .int .i64 0), (6, .slice an3 (nums m).length cn3), (7, .pointer (some ⟨b7, 0, none⟩))] ∧ H' = (b7, .cells (cellsD d (.slice none 0 0) (.slice none 0 0) vs) [] 27) :: (b4, .cells zeroC [] 27) :: (b2, .cells C [] 27) :: H) := by
 obtain ⟨hm1, hm2, hm3, hm4, hm5⟩ := id hsm
 have hCl := O.len
 have hCw := O.w
 have hCs := O.s
 have hCo := O.of
 have hofl : (u8L d.of).length = 256 := by rw [List.length_map, O.ofl]
 have hb1 := build_of O.ofl
 have hb2 := build_w O.ofl
 have hl1 : (u8L d.of ++ [Value.int .i64 0, Value.slice none 0 0, Value.slice none 0 0, Value.slice none 0 0]).length = 260 := by rw [List.length_append, hofl]; rfl
 have hl2 : ∀ v : Value, (cellsD d (.slice none 0 0) (.slice none 0 0) v).length = 260 := fun v => cellsD_len O.ofl _ _ _
 have hb3 := build_s O.ofl (.slice none 0 0) (.slice none 0 0) (.slice none 0 0)
 have hputz : ∀ v : Value, splice zeroC 0 (cellsD d (.slice none 0 0) (.slice none 0 0) v) = cellsD d (.slice none 0 0) (.slice none 0 0) v := fun v => by
  unfold splice
  rw [List.take_zero, List.nil_append, List.drop_of_length_le (by rw [zeroC_len, hl2]; omega), List.append_nil]
 refine Tri.sepT fun hs0 => ?_
 have hsE := hs0
 try simp only [zzs] at hsE
 repeat (obtain ⟨hsx, hsE⟩ := hsE)
 refine Tri.piece (f := Try.f23) rfl ?_
 refine Tri.run tok [0, 1, 2, 4, 5, 6, 7, 9, 10, 11, 12, 13, 18, 35, 36, 37, 38, 48, 49, 50, 51] (by kernel_rfl) ?_
 repeat' first
  | (with_reducible first | refine Nx.go ?_ | refine Bk.go (fun _ => ?_) fun _ => ?_)
  | ((with_reducible first | refine NewB.mk2 fun nb hnb hnb1 hnb2 => ?_ | refine NewRow.mk2 fun nb nsp ncap hnb hncap hnb1 hnb2 => ?_); try simp only [zzn] at hnb2)
  | with_reducible refine Tri.drawH tok mixed [0, 1, 2, 4, 5, 6, 7, 9, 10, 11, 12, 13, 18, 35, 36, 37, 38, 48, 49, 50, 51] 6 [1, 3, 5] (.op 0 .plain (.op 1 .held (.op 2 .plain (.op 3 .held (.op 4 .plain (.op 5 .held (.both (.op 6 .keeps (.op 7 .plain (.op 8 .keeps (.op 9 .plain .nil)))) (.op 8 .keeps (.op 6 .keeps (.op 7 .plain (.op 9 .plain .nil))))))))))) (by kernel_rfl) [2] ?_
  | with_reducible refine Tri.drawM tok mixed [0, 1, 2, 4, 5, 6, 7, 9, 10, 11, 12, 13, 18, 35, 36, 37, 38, 48, 49, 50, 51] 17 [1, 3, 6] (.op 0 .plain (.op 1 .held (.op 2 .plain (.op 3 .held (.op 4 .plain (.op 5 .plain (.op 6 .held (.op 7 .keeps (.op 8 .keeps (.op 9 .plain (.op 10 .plain .nil))))))))))) (by kernel_rfl) _ (List.Sublist.refl _) ?_
  | simp -dsimp -implicitDefEqProofs (disch := first | assumption | (simp only [zzm]; done) | omega | (try with_reducible refine Row.adr (by assumption) ?_); simp only [zzl, Nat.reduceAdd]; first | done | omega) only [go_sem, ↓reduceIte, seval, -List.reduceReplicate, List.toList_toArray, hCl, hCw, hCs, hCo, hofl, hb1, hb2, hb3, hl1, hl2, zeroC_len, zeroC_one, hputz]
  | ((with_reducible refine clones_t d.names hm4 O.names fun G4 v4 hle4 hs4 hsl4 => ?_); obtain ⟨ay4, cy4, rfl, hr4, hc4⟩ := hsl4; have hone := cellsD_one (d := d) (vn := .slice none 0 0) (vl := .slice none 0 0) (vs := .slice ay4 d.names.length cy4) rfl rfl rfl; (have hsE := hs4; try simp only [zzs] at hsE; repeat (obtain ⟨hsx, hsE⟩ := hsE)))
  | (with_reducible refine And.intro ?_ ?_)
 all_goals exact Upd.now ⟨nb, _, hle4, ⟨ay4, cy4, rfl, hr4, hc4⟩, rfl, rfl⟩
end Go.Proofs.Ytdeableflgakdaa
namespace Go.Proofs.Ytdeableflgakdaa
open Go Go.V Go.Proofs
def labsM (d : DfaT) (m : List Int) : List Int := (headsM m).map fun s => d.label.getD s.toNat 0
def LabO (d : DfaT) (m : List Int) (j : Nat) (vl : Value) (kl : Heap) : Prop :=
 (j = 0 ∧ vl = .slice none 0 0 ∧ kl = []) ∨ ∃ bl c2 sp2, vl = .slice (some ⟨bl, 0, none⟩) j c2 ∧ kl = [(bl, .cells (((labsM d m).take j).map (Value.int .i64)) sp2 3)] ∧ j + sp2.length = c2
theorem r17_t {d : DfaT} {m : List Int} {C : List Value} {an al ay : Option Addr} {cn cl cs : Nat} {rs : List Value} {G : PHeap} {H : Heap} (O : OpenD G d C an al ay cn cl cs rs) {v0 v1 v6 v35 v36 v37 : Value} {b2 b4 b7 : Nat} {j t : Nat} (hj : j < (headsM m).length) (hjb : j < 65536) (ht : t < d.label.length) (hsj : (headsM m)[j] = (t : Int)) {vn vl vs : Value} {kl : Heap} (hout : LabO d m j vl kl) :
  Tri Try.prog Try.f23.ntmps (piece [1, 1, 1, 1, 0, 1, 0, 0, 1, 1, 0, 0, 1, 1, 1, 1] Try.f23) G [(0, v0), (1, v1), (2, .pointer (some ⟨b2, 0, none⟩)), (4, .pointer (some ⟨b4, 0, none⟩)), (5, .int .i64 0), (6, v6), (7, .pointer (some ⟨b7, 0, none⟩)), (9, .int .i64 (t : Nat)), (35, v35), (36, v36), (37, v37)] ((b7, .cells (cellsD d vn vl vs) [] 27) :: (b2, .cells C [] 27) :: (kl ++ H)) (onlyN fun G' fr' H' =>
   ∃ vl' kl', G' = G ∧ LabO d m (j + 1) vl' kl' ∧ restrict [0, 1, 2, 4, 5, 6, 7, 35, 36, 37] fr' = [(0, v0), (1, v1), (2, .pointer (some ⟨b2, 0, none⟩)), (4, .pointer (some ⟨b4, 0, none⟩)), (5, .int .i64 0), (6, v6), (7, .pointer (some ⟨b7, 0, none⟩)), (35, v35), (36, v36), (37, v37)] ∧ H' = (b7, .cells (cellsD d vn vl' vs) [] 27) :: (b2, .cells C [] 27) :: (kl' ++ H)) := by
 have hCl := O.len
 have hCx := O.l
 have hl2 : ∀ a b c : Value, (cellsD d a b c).length = 260 := fun a b c => cellsD_len O.ofl _ _ _
 have hg2 : ∀ a b c : Value, (cellsD d a b c)[258]? = some b := fun a b c => cellsD_l O.ofl _ _ _
 have hputL : ∀ a b c x : Value, splice (cellsD d a b c) 258 [x] = cellsD d a x c := fun a b c x => cellsD_putL O.ofl _ _ _ _
 have hlt : d.label[t] = d.label.getD t 0 := by rw [List.getD_eq_getElem?_getD, List.getElem?_eq_getElem ht]; rfl
 have hlab : (labsM d m).take (j + 1) = (labsM d m).take j ++ [d.label.getD t 0] := by
  have hjl : j < (labsM d m).length := by unfold labsM; rw [List.length_map]; exact hj
  rw [List.take_succ_eq_append_getElem hjl]
  congr 2
  simp only [labsM, List.getElem_map, hsj, Int.toNat_natCast]
 have hlj : ((labsM d m).take j).length = j := by rw [List.length_take]; unfold labsM; rw [List.length_map]; omega
 have had2 : Adr al := O.rl.adr (by rw [List.length_map]; omega)
 refine Tri.sepT fun hs0 => ?_
 rcases hout with ⟨hj0, rfl, rfl⟩ | ⟨bl, c2, sp2, rfl, rfl, hc2⟩
 ·have hsE := hs0
  try simp only [zzs] at hsE
  repeat (obtain ⟨hsx, hsE⟩ := hsE)
  have hce : ((labsM d m).take (j + 1)).map (Value.int .i64) = [Value.int .i64 (d.label.getD t 0)] := by rw [hlab, List.map_append, List.eq_nil_of_length_eq_zero (hlj.trans hj0)]; rfl
  refine Tri.piece (f := Try.f23) rfl ?_
  refine Tri.run tok [0, 1, 2, 4, 5, 6, 7, 9, 10, 11, 12, 13, 18, 35, 36, 37, 38, 48, 49, 50, 51] (by kernel_rfl) ?_
  repeat' first
   | (with_reducible first | refine Nx.go ?_ | refine Bk.go (fun _ => ?_) fun _ => ?_)
   | ((with_reducible first | refine NewB.mk2 fun nb hnb hnb1 hnb2 => ?_ | refine NewRow.mk2 fun nb nsp ncap hnb hncap hnb1 hnb2 => ?_); try simp only [zzn] at hnb2)
   | simp -dsimp -implicitDefEqProofs (disch := first | assumption | (simp only [zzm]; done) | omega | (try with_reducible refine Row.adr (by assumption) ?_); simp only [zzl, Nat.reduceAdd]; first | done | omega) only [go_sem, ↓reduceIte, seval, -List.reduceReplicate, List.replicate_one, List.toList_toArray, hCl, hCx, hl2, hg2, hputL, Row.obj O.rl, List.getElem_map, hlt, Int.toNat_natCast, Nat.sub_self]
   | with_reducible refine Tri.drawH tok mixed [0, 1, 2, 4, 5, 6, 7, 9, 10, 11, 12, 13, 18, 35, 36, 37, 38, 48, 49, 50, 51] 17 [1, 3, 6] (.op 0 .plain (.op 1 .held (.op 2 .plain (.op 3 .held (.op 4 .plain (.op 5 .plain (.op 6 .held (.op 7 .keeps (.op 8 .keeps (.op 9 .plain (.op 10 .plain .nil))))))))))) (by kernel_rfl) [7, 2] ?_
  rw [← hce]
  exact Upd.go (H' := (b7, .cells (cellsD d vn (.slice (some ⟨nb, 0, none⟩) 1 ncap) vs) [] 27) :: (b2, .cells C [] 27) :: ([(nb, .cells (((labsM d m).take (j + 1)).map (Value.int .i64)) nsp 3)] ++ H)) (by intro fsum; first | exact Nat.le_refl _ | (simp only [zzq]; omega)) (Upd.now ⟨.slice (some ⟨nb, 0, none⟩) 1 ncap, _, rfl, .inr ⟨nb, ncap, nsp, by rw [hj0], rfl, by omega⟩, rfl, rfl⟩)
 ·have hsE := hs0
  try simp only [zzs] at hsE
  repeat (obtain ⟨hsx, hsE⟩ := hsE)
  obtain ⟨ps, hps, hpl⟩ : ∃ ps, ps = ((labsM d m).take j).map (Value.int .i64) ∧ ps.length = j := ⟨_, rfl, by rw [List.length_map, hlj]⟩
  have hce : ((labsM d m).take (j + 1)).map (Value.int .i64) = ps ++ [Value.int .i64 (d.label.getD t 0)] := by rw [hlab, List.map_append, ← hps]; rfl
  rw [← hps]
  refine Tri.piece (f := Try.f23) rfl ?_
  refine Tri.run tok [0, 1, 2, 4, 5, 6, 7, 9, 10, 11, 12, 13, 18, 35, 36, 37, 38, 48, 49, 50, 51] (by kernel_rfl) ?_
  repeat' first
   | (with_reducible first | refine Nx.go ?_ | refine Bk.go (fun _ => ?_) fun _ => ?_)
   | ((with_reducible first | refine NewB.mk2 fun nb hnb hnb1 hnb2 => ?_ | refine NewRow.mk2 fun nb nsp ncap hnb hncap hnb1 hnb2 => ?_); try simp only [zzn] at hnb2)
   | simp -dsimp -implicitDefEqProofs (disch := first | assumption | (simp only [zzm]; done) | omega | (try with_reducible refine Row.adr (by assumption) ?_); simp only [zzl, Nat.reduceAdd]; first | done | omega) only [go_sem, ↓reduceIte, seval, -List.reduceReplicate, List.replicate_one, List.toList_toArray, hCl, hCx, hl2, hg2, hputL, Row.obj O.rl, List.getElem_map, hlt, Int.toNat_natCast, Nat.sub_self]
   | with_reducible refine Tri.drawH tok mixed [0, 1, 2, 4, 5, 6, 7, 9, 10, 11, 12, 13, 18, 35, 36, 37, 38, 48, 49, 50, 51] 17 [1, 3, 6] (.op 0 .plain (.op 1 .held (.op 2 .plain (.op 3 .held (.op 4 .plain (.op 5 .plain (.op 6 .held (.op 7 .keeps (.op 8 .keeps (.op 9 .plain (.op 10 .plain .nil))))))))))) (by kernel_rfl) [7, 2] ?_
  rw [← hce]
  exact Upd.go (H' := (b7, .cells (cellsD d vn (.slice (some ⟨nb, 0, none⟩) (j + 1) ncap) vs) [] 27) :: (b2, .cells C [] 27) :: ([(nb, .cells (((labsM d m).take (j + 1)).map (Value.int .i64)) nsp 3)] ++ H)) (by intro fsum; first | exact Nat.le_refl _ | (simp only [zzq]; omega)) (Upd.now ⟨_, _, rfl, .inr ⟨nb, ncap, nsp, rfl, rfl, by omega⟩, rfl, rfl⟩)
end Go.Proofs.Ytdeableflgakdaa
namespace Go.Proofs.Ytdeableflgakdaa
open Go Go.V Go.Proofs
def RowO (d : DfaT) (m : List Int) (G' : PHeap) (j : Nat) (vn : Value) (kn : Heap) : Prop :=
 (j = 0 ∧ vn = .slice none 0 0 ∧ kn = []) ∨ ∃ bn c1 rv sp1, vn = .slice (some ⟨bn, 0, none⟩) j c1 ∧ kn = [(bn, .cells rv sp1 24)] ∧ rv.length = j ∧ j + sp1.length = c1 ∧
  ∀ i (h : i < j) (h2 : i < rv.length) (h3 : i < (headsM m).length), ∃ b c, rv[i] = .slice b (rowB d m (headsM m)[i].toNat).length c ∧ Row G' b ((rowB d m (headsM m)[i].toNat).map (Value.int .i64)) ∧ (rowB d m (headsM m)[i].toNat).length ≤ c
theorem x_t {d : DfaT} (hsm : SmallD d) {m : List Int} (hst : StableP d m) {C : List Value} {an al ay : Option Addr} {cn cl cs : Nat} {rs : List Value} {G : PHeap} {H : Heap} (O : OpenD G d C an al ay cn cl cs rs) {v0 v1 : Value} {b2 b4 b7 : Nat} {an3 ah : Option Addr} {cn3 ch : Nat} (hr3 : Row G an3 ((nums m).map (Value.int .i64))) (hrh : Row G ah ((headsM m).map (Value.int .i64))) {j : Nat} (hj : j < (headsM m).length) {vn vl vs : Value} {kn kl : Heap} (hout : RowO d m G j vn kn) (hlab0 : LabO d m j vl kl) (hvs : oneV vs = true) :
  Tri Try.prog Try.f23.ntmps (piece [1, 1, 1, 1, 0, 1, 0, 0, 1, 1, 0, 0] Try.f23) G [(0, v0), (1, v1), (2, .pointer (some ⟨b2, 0, none⟩)), (4, .pointer (some ⟨b4, 0, none⟩)), (5, .int .i64 0), (6, .slice an3 (nums m).length cn3), (7, .pointer (some ⟨b7, 0, none⟩)), (35, .slice ah (headsM m).length ch), (36, .int .i64 (headsM m).length), (37, .int .i64 (j : Nat))] ((b7, .cells (cellsD d vn vl vs) [] 27) :: (b2, .cells C [] 27) :: (kn ++ (kl ++ H))) (onlyN fun G' fr' H' =>
   ∃ vn' vl' kn' kl', PLe G G' ∧ RowO d m G' (j + 1) vn' kn' ∧ LabO d m (j + 1) vl' kl' ∧ restrict [0, 1, 2, 4, 5, 6, 7, 35, 36, 37] fr' = [(0, v0), (1, v1), (2, .pointer (some ⟨b2, 0, none⟩)), (4, .pointer (some ⟨b4, 0, none⟩)), (5, .int .i64 0), (6, .slice an3 (nums m).length cn3), (7, .pointer (some ⟨b7, 0, none⟩)), (35, .slice ah (headsM m).length ch), (36, .int .i64 (headsM m).length), (37, .int .i64 (j : Nat))] ∧ H' = (b7, .cells (cellsD d vn' vl' vs) [] 27) :: (b2, .cells C [] 27) :: (kn' ++ (kl' ++ H))) := by
 obtain ⟨hm1, hm2, hm3, hm4, hm5⟩ := id hsm
 have hok := hst.1
 have hml : m.length = d.label.length := hst.2.1
 obtain ⟨hk1, hk2, hk3, hk4, hk5, hk6, hk7⟩ := id hok
 have hCl := O.len
 have hCw := O.w
 have hCn := O.n
 have hCx := O.l
 have hnl := nums_len m
 have hl2 : ∀ a b c : Value, (cellsD d a b c).length = 260 := fun a b c => cellsD_len O.ofl _ _ _
 have hg1 : ∀ a b c : Value, (cellsD d a b c)[257]? = some a := fun a b c => cellsD_n O.ofl _ _ _
 have hg2 : ∀ a b c : Value, (cellsD d a b c)[258]? = some b := fun a b c => cellsD_l O.ofl _ _ _
 have hputN : ∀ a b c x : Value, splice (cellsD d a b c) 257 [x] = cellsD d x b c := fun a b c x => cellsD_putN O.ofl _ _ _ _
 have hputL : ∀ a b c x : Value, splice (cellsD d a b c) 258 [x] = cellsD d a x c := fun a b c x => cellsD_putL O.ofl _ _ _ _
 -- the state
 obtain ⟨t, htl, hsj⟩ : ∃ t : Nat, t < m.length ∧ (headsM m)[j] = (t : Int) := by
  have hmem : (tabO m)[j]'(by unfold headsM at hj; rwa [List.length_map] at hj) ∈ m := (mem_tabO m).1 (List.getElem_mem _)
  obtain ⟨t, ht⟩ := place_mem hmem
  exact ⟨t, (place_some ht).1, by simp only [headsM, List.getElem_map]; exact findF_some ht⟩
 have htn : t < d.next.length := by omega
 have htl2 : t < d.label.length := by omega
 have htv : t < rs.length := by have := O.rnl; omega
 obtain ⟨b, c, e1, e2, e3⟩ := O.rs t htn htv
 obtain ⟨hw0, hlt0, hlt1, hrng⟩ := hk7 t htn htl2
 obtain ⟨row, hrow⟩ : ∃ row, row = d.next[t] := ⟨_, rfl⟩
 have hrl := hm2 _ (List.getElem_mem htn)
 rw [← hrow] at e1 e2 e3 hw0 hrng hrl
 have hw : d.width = (row.length : Int) := hw0.symm
 obtain ⟨r, hr⟩ : ∃ r, r = rowB d m t := ⟨_, rfl⟩
 have hr' : r = row.map (atL (nums m)) := by rw [hr]; unfold rowB; rw [List.getD_eq_getElem?_getD, List.getElem?_eq_getElem htn, hrow]; rfl
 have hrlen : r.length = row.length := by rw [hr', List.length_map]
 have hlt : d.label[t] = d.label.getD t 0 := by rw [List.getD_eq_getElem?_getD, List.getElem?_eq_getElem htl2]; rfl
 have hlab : (labsM d m).take (j + 1) = (labsM d m).take j ++ [d.label.getD t 0] := by
  have hjl : j < (labsM d m).length := by unfold labsM; rw [List.length_map]; exact hj
  rw [List.take_succ_eq_append_getElem hjl]
  congr 2
  simp only [labsM, List.getElem_map, hsj, Int.toNat_natCast]
 have hlj : ((labsM d m).take j).length = j := by rw [List.length_take]; unfold labsM; rw [List.length_map]; omega
 have hrj : rowB d m (headsM m)[j].toNat = r := by rw [hsj, Int.toNat_natCast, hr]
 have had : Adr an := O.rn.adr (by omega)
 have had2 : Adr al := O.rl.adr (by rw [List.length_map]; omega)
 have had3 : Adr ah := hrh.adr (by rw [List.length_map]; omega)
 have had4 : Adr an3 := hr3.adr (by rw [List.length_map]; omega)
 have hjb : j < 65536 := by
  have h1 := tabO_len m
  unfold headsM at hj
  rw [List.length_map] at hj
  omega
 refine Tri.sepT fun hs0 => ?_
 have hsE := hs0
 try simp only [zzs] at hsE
 repeat (obtain ⟨hsx, hsE⟩ := hsE)
 refine Tri.piece (f := Try.f23) rfl ?_
 refine Tri.runS tok [0, 1, 2, 4, 5, 6, 7, 9, 10, 11, 12, 13, 18, 35, 36, 37, 38, 48, 49, 50, 51] (.seq .run (.seq .run (.seq .run (.seq .run .cut)))) (by kernel_rfl) ?_
 repeat' first
  | (with_reducible first | refine Nx.go ?_ | refine Bk.go (fun _ => ?_) fun _ => ?_)
  | ((with_reducible first | refine NewB.mk2 fun nb hnb hnb1 hnb2 => ?_ | refine NewRow.mk2 fun nb nsp ncap hnb hncap hnb1 hnb2 => ?_); try simp only [zzn] at hnb2)
  | simp -dsimp -implicitDefEqProofs (disch := first | assumption | (simp only [zzm]; done) | omega | (try with_reducible refine Row.adr (by assumption) ?_); simp only [zzl, Nat.reduceAdd]; first | done | omega) only [go_sem, ↓reduceIte, seval, -List.reduceReplicate, List.toList_toArray, hCl, hCw, hCn, hCx, hw, hl2, hg1, hg2, hputN, hputL, Row.obj hrh, Row.obj O.rn, e1, Row.obj O.rl, Row.obj hr3, List.getElem_map, hsj, hlt, Int.toNat_natCast, Nat.sub_self, List.replicate_zero]
 revert nb
 intro br hbr hbr1 hbr2
 rw [show List.replicate row.length (Value.int .i64 0) = (partR r 0).map (Value.int .i64) by rw [← hrlen, partR_zero]]
 refine Tri.loopU tok [0, 1, 2, 4, 5, 6, 7, 9, 10, 11, 12, 13, 18, 35, 36, 37, 38, 48, 49, 50, 51] (by kernel_rfl) [0, 1, 2, 4, 5, 6, 7, 9, 10, 35, 36, 37, 48, 49, 50] (fun q G' fr H' => ∃ k : Nat, k + q = row.length ∧ G' = G ∧ H' = (br, .cells ((partR r k).map (Value.int .i64)) [] 3) :: (b7, .cells (cellsD d vn vl vs) [] 27) :: (b2, .cells C [] 27) :: (kn ++ (kl ++ H)) ∧ fr = [(0, v0), (1, v1), (2, .pointer (some ⟨b2, 0, none⟩)), (4, .pointer (some ⟨b4, 0, none⟩)), (5, .int .i64 0), (6, .slice an3 (nums m).length cn3), (7, .pointer (some ⟨b7, 0, none⟩)), (9, .int .i64 (t : Nat)), (10, .slice (some ⟨br, 0, none⟩) row.length row.length), (35, .slice ah (headsM m).length ch), (36, .int .i64 (headsM m).length), (37, .int .i64 (j : Nat)), (48, .slice b row.length c), (49, .int .i64 row.length), (50, .int .i64 (k : Nat))]) (row.length) ?_ ?_
 ·exact Upd.now ⟨0, by omega, rfl, rfl, rfl⟩
 ·rintro q G1 fr H' hle hs ⟨k, hk, rfl, rfl, rfl⟩
  have hpl : (partR r k).length = row.length := by rw [partR_len r (by omega), hrlen]
  by_cases hkl : k < row.length
  ·have hsE := hs
   try simp only [zzs] at hsE
   repeat (obtain ⟨hsx, hsE⟩ := hsE)
   have hkr : k < r.length := by omega
   have had5 : Adr b := e2.adr (by rw [List.length_map]; omega)
   have hx := hrng _ (List.getElem_mem hkl)
   obtain ⟨y, hxy⟩ := Int.eq_ofNat_of_zero_le hx.1
   have hym : y < (nums m).length := by omega
   have hval : (nums m)[y] = r[k] := by
    simp only [hr', List.getElem_map]
    rw [hxy, atL_get (by simpa using hym)]
    simp only [Int.toNat_natCast]
   have hput := partR_put hkr
   repeat' first
    | (with_reducible first | refine Nx.go ?_ | refine Bk.go (fun _ => ?_) fun _ => ?_)
    | ((with_reducible first | refine NewB.mk2 fun nb hnb hnb1 hnb2 => ?_ | refine NewRow.mk2 fun nb nsp ncap hnb hncap hnb1 hnb2 => ?_); try simp only [zzn] at hnb2)
    | simp -dsimp -implicitDefEqProofs (disch := first | assumption | (simp only [zzm]; done) | omega | (try with_reducible refine Row.adr (by assumption) ?_); simp only [zzl, Nat.reduceAdd]; first | done | omega) only [go_sem, ↓reduceIte, seval, -List.reduceReplicate, Row.obj e2, Row.obj hr3, List.getElem_map, hxy, hval, hput, hpl, Int.toNat_natCast]
   exact Upd.now ⟨q - 1, by omega, k + 1, by omega, rfl, rfl, rfl⟩
  ·obtain rfl : k = row.length := by omega
   have hpa : partR r row.length = r := by rw [← hrlen]; exact partR_all r
   rw [hpa] at hs ⊢
   rcases hout with ⟨hj0, rfl, rfl⟩ | ⟨bn, c1, rv, sp1, rfl, rfl, hrv, hc1, hrws⟩
   ·have hsE := hs
    try simp only [zzs] at hsE
    repeat (obtain ⟨hsx, hsE⟩ := hsE)
    repeat' first
     | (with_reducible first | refine Nx.go ?_ | refine Bk.go (fun _ => ?_) fun _ => ?_)
     | ((with_reducible first | refine NewB.mk2 fun nb hnb hnb1 hnb2 => ?_ | refine NewRow.mk2 fun nb nsp ncap hnb hncap hnb1 hnb2 => ?_); try simp only [zzn] at hnb2)
     | simp -dsimp -implicitDefEqProofs (disch := first | assumption | (simp only [zzm]; done) | omega | (try with_reducible refine Row.adr (by assumption) ?_); simp only [zzl, Nat.reduceAdd]; first | done | omega) only [go_sem, ↓reduceIte, seval, -List.reduceReplicate, List.length_map, hlj, List.replicate_one, List.toList_toArray, hCl, hCw, hCn, hCx, hw, hl2, hg1, hg2, hputN, hputL, Row.obj hrh, Row.obj O.rn, e1, Row.obj O.rl, Row.obj hr3, List.getElem_map, hsj, hlt, Int.toNat_natCast, Nat.sub_self, List.replicate_zero]
    refine Tri.upd (Upd.go (H' := (b7, .cells (cellsD d (.slice (some ⟨nb, 0, none⟩) 1 ncap) vl vs) [] 27) :: (b2, .cells C [] 27) :: (kl ++ ((br, .cells (r.map (Value.int .i64)) [] 3) :: (nb, .cells [.slice (some ⟨br, 0, none⟩) row.length row.length] nsp 24) :: H))) (by intro fsum; first | exact Nat.le_refl _ | (simp only [zzq]; omega)) (Upd.now ?_))
    refine Tri.live [0, 1, 2, 4, 5, 6, 7, 9, 35, 36, 37] ?_
    refine Tri.isPiece [1, 1, 1, 1, 0, 1, 0, 0, 1, 1, 0, 0, 1, 1, 1, 1] Try.f23 (by kernel_rfl) ?_
    refine Tri.onlyN (r17_t O hj hjb htl2 hsj hlab0) fun G5 l5 H5 hle5 hs5 hM => ?_
    obtain ⟨vl', kl', rfl, hlab1, hfr, rfl⟩ := hM
    rw [onlyN_normal]
    have hsE := hs5
    try simp only [zzs] at hsE
    repeat (obtain ⟨hsx, hsE⟩ := hsE)
    refine Upd.go (H' := (br, .cells (r.map (Value.int .i64)) [] 3) :: (b7, .cells (cellsD d (.slice (some ⟨nb, 0, none⟩) 1 ncap) vl' vs) [] 27) :: (b2, .cells C [] 27) :: ([(nb, .cells [.slice (some ⟨br, 0, none⟩) row.length row.length] nsp 24)] ++ (kl' ++ H))) (by intro fsum; first | exact Nat.le_refl _ | (simp only [zzq]; omega)) (Upd.shareRow (by assumption) fun G6 hle6 hs6 hr6 => ?_)
    refine ⟨_, vl', _, kl', hle6, .inr ⟨nb, ncap, _, nsp, by rw [hj0], rfl, by rw [hj0]; rfl, by omega, fun i h h2 h3 => ?_⟩, hlab1, hfr, rfl⟩
    obtain rfl : i = 0 := by omega
    obtain rfl : j = 0 := hj0
    refine ⟨some ⟨br, 0, none⟩, row.length, ?_, ?_, ?_⟩
    ·rw [hrj, hrlen]; rfl
    ·rw [hrj]; exact hr6
    ·rw [hrj, hrlen]; exact Nat.le_refl _
   ·have hsE := hs
    try simp only [zzs] at hsE
    repeat (obtain ⟨hsx, hsE⟩ := hsE)
    repeat' first
     | (with_reducible first | refine Nx.go ?_ | refine Bk.go (fun _ => ?_) fun _ => ?_)
     | ((with_reducible first | refine NewB.mk2 fun nb hnb hnb1 hnb2 => ?_ | refine NewRow.mk2 fun nb nsp ncap hnb hncap hnb1 hnb2 => ?_); try simp only [zzn] at hnb2)
     | simp -dsimp -implicitDefEqProofs (disch := first | assumption | (simp only [zzm]; done) | omega | (try with_reducible refine Row.adr (by assumption) ?_); simp only [zzl, Nat.reduceAdd]; first | done | omega) only [go_sem, ↓reduceIte, seval, -List.reduceReplicate, List.length_map, hlj, List.replicate_one, List.toList_toArray, hCl, hCw, hCn, hCx, hw, hl2, hg1, hg2, hputN, hputL, Row.obj hrh, Row.obj O.rn, e1, Row.obj O.rl, Row.obj hr3, List.getElem_map, hsj, hlt, Int.toNat_natCast, Nat.sub_self, List.replicate_zero]
    refine Tri.upd (Upd.go (H' := (b7, .cells (cellsD d (.slice (some ⟨nb, 0, none⟩) (j + 1) ncap) vl vs) [] 27) :: (b2, .cells C [] 27) :: (kl ++ ((br, .cells (r.map (Value.int .i64)) [] 3) :: (nb, .cells (rv ++ [.slice (some ⟨br, 0, none⟩) row.length row.length]) nsp 24) :: H))) (by intro fsum; first | exact Nat.le_refl _ | (simp only [zzq]; omega)) (Upd.now ?_))
    refine Tri.live [0, 1, 2, 4, 5, 6, 7, 9, 35, 36, 37] ?_
    refine Tri.isPiece [1, 1, 1, 1, 0, 1, 0, 0, 1, 1, 0, 0, 1, 1, 1, 1] Try.f23 (by kernel_rfl) ?_
    refine Tri.onlyN (r17_t O hj hjb htl2 hsj hlab0) fun G5 l5 H5 hle5 hs5 hM => ?_
    obtain ⟨vl', kl', rfl, hlab1, hfr, rfl⟩ := hM
    rw [onlyN_normal]
    have hsE := hs5
    try simp only [zzs] at hsE
    repeat (obtain ⟨hsx, hsE⟩ := hsE)
    refine Upd.go (H' := (br, .cells (r.map (Value.int .i64)) [] 3) :: (b7, .cells (cellsD d (.slice (some ⟨nb, 0, none⟩) (j + 1) ncap) vl' vs) [] 27) :: (b2, .cells C [] 27) :: ([(nb, .cells (rv ++ [.slice (some ⟨br, 0, none⟩) row.length row.length]) nsp 24)] ++ (kl' ++ H))) (by intro fsum; first | exact Nat.le_refl _ | (simp only [zzq]; omega)) (Upd.shareRow (by assumption) fun G6 hle6 hs6 hr6 => ?_)
    refine ⟨_, vl', _, kl', hle6, .inr ⟨nb, ncap, _, nsp, rfl, rfl, by rw [List.length_append, hrv]; rfl, by omega, fun i h h2 h3 => ?_⟩, hlab1, hfr, rfl⟩
    rcases Nat.lt_or_ge i j with hij | hij
    ·obtain ⟨b', c', f1, f2, f3⟩ := hrws i hij (by omega) h3
     exact ⟨b', c', by rw [List.getElem_append_left (by omega)]; exact f1, f2.mono hle6, f3⟩
    ·obtain rfl : i = j := by omega
     refine ⟨some ⟨br, 0, none⟩, row.length, ?_, ?_, ?_⟩
     ·rw [hrj, hrlen, List.getElem_append_right (by omega)]; simp [hrv]
     ·rw [hrj]; exact hr6
     ·rw [hrj, hrlen]; exact Nat.le_refl _
end Go.Proofs.Ytdeableflgakdaa
namespace Go.Proofs.Ytdeableflgakdaa
open Go Go.V Go.Proofs
theorem of_t {d : DfaT} (hsm : SmallD d) {m : List Int} (hst : StableP d m) {G : PHeap} {H : Heap} {R : Value → PHeap → Heap → Prop} {v w : Value} (hv : IsD G d v) (hwl : Sl G (Value.int .i64) w m)
  (hR : ∀ G' v', PLe G G' → Sep G' (keys H) → IsD G' (ofD d m) v' → R (.tuple #[v', .int .i64 0]) G' H) : FnT Try.prog 23 [v, w] G H R := by
 obtain ⟨C, an, al, ay, cn, cl, cs, rs, rfl, O⟩ := hv.opened
 obtain ⟨hm1, hm2, hm3, hm4, hm5⟩ := id hsm
 have hw0 := hwl
 obtain ⟨aw, cw, rfl, hroww, hcw⟩ := hwl
 have hok := hst.1
 have hml : m.length = d.label.length := hst.2.1
 obtain ⟨hk1, hk2, hk3, hk4, hk5, hk6, hk7⟩ := id hok
 have hb := boolOf_yes hok
 have hb2 := boolOf_yes hst
 have hCl := O.len
 have hCa := O.all
 have htl := tabO_len m
 have hhl : (headsM m).length = (tabO m).length := by unfold headsM; rw [List.length_map]
 have hjb : (headsM m).length ≤ 65536 := by omega
 have hpos : 0 < (headsM m).length := by
  have h0 : 0 < m.length := by omega
  have : m[0] ∈ tabO m := (mem_tabO m).2 (List.getElem_mem h0)
  rw [hhl]
  exact List.length_pos_of_mem this
 have hl2 : ∀ a b c : Value, (cellsD d a b c).length = 260 := fun a b c => cellsD_len O.ofl _ _ _
 have ht2 : ∀ a b c : Value, List.take 260 (cellsD d a b c) = cellsD d a b c := fun a b c => cellsD_all O.ofl _ _ _
 have hputz : ∀ a b c : Value, splice zeroC 0 (cellsD d a b c) = cellsD d a b c := fun a b c => by
  unfold splice
  rw [List.take_zero, List.nil_append, List.drop_of_length_le (by rw [zeroC_len, hl2]; omega), List.append_nil]
 refine FnT.sep ?_
 refine FnT.bodyS tok [0, 1, 2, 4, 5, 6, 7, 9, 10, 11, 12, 13, 18, 35, 36, 37, 38, 48, 49, 50, 51] (.seq .run (.seq .run (.seq .run (.seq .cut .cut)))) Try.func23 rfl (by kernel_rfl) (by kernel_rfl) (by show _ ≤ 81; simp) fun hsep => ?_
 rw [Try.results23]
 have hsE := hsep
 try simp only [zzs] at hsE
 repeat (obtain ⟨hsx, hsE⟩ := hsE)
 repeat' first
  | (with_reducible first | refine Nx.go ?_ | refine Bk.go (fun _ => ?_) fun _ => ?_)
  | ((with_reducible first | refine NewB.mk2 fun nb hnb hnb1 hnb2 => ?_ | refine NewRow.mk2 fun nb nsp ncap hnb hncap hnb1 hnb2 => ?_); try simp only [zzn] at hnb2)
  | simp -dsimp -implicitDefEqProofs (disch := first | assumption | (simp only [zzm]; done) | omega | (try with_reducible refine Row.adr (by assumption) ?_); simp only [zzl, Nat.reduceAdd]; first | done | omega) only [go_sem, ↓reduceIte, seval, -List.reduceReplicate, List.toList_toArray, hCl, hCa, hb, hb2]
  | with_reducible refine right_t hsm O.is ?_
 rename_i b2 hb20 hb21 hb22
 revert nb
 intro b4 hb40 hb41 hb42
 refine Stable_t hsm (by omega) O.is hw0 fun G2 hle2 hs2 => ?_
 have hsE := hs2
 try simp only [zzs] at hsE
 repeat (obtain ⟨hsx, hsE⟩ := hsE)
 repeat' first
  | (with_reducible first | refine Nx.go ?_ | refine Bk.go (fun _ => ?_) fun _ => ?_)
  | ((with_reducible first | refine NewB.mk2 fun nb hnb hnb1 hnb2 => ?_ | refine NewRow.mk2 fun nb nsp ncap hnb hncap hnb1 hnb2 => ?_); try simp only [zzn] at hnb2)
  | simp -dsimp -implicitDefEqProofs (disch := first | assumption | (simp only [zzm]; done) | omega | (try with_reducible refine Row.adr (by assumption) ?_); simp only [zzl, Nat.reduceAdd]; first | done | omega) only [go_sem, ↓reduceIte, seval, -List.reduceReplicate, List.toList_toArray, hb2]
 refine norm_t (by omega) (hw0.mono hle2) fun G3 v3 hle3 hs3 hsl3 => ?_
 obtain ⟨an3, cn3, rfl, hr3, hc3⟩ := hsl3
 repeat' first
  | (with_reducible first | refine Nx.go ?_ | refine Bk.go (fun _ => ?_) fun _ => ?_)
  | ((with_reducible first | refine NewB.mk2 fun nb hnb hnb1 hnb2 => ?_ | refine NewRow.mk2 fun nb nsp ncap hnb hncap hnb1 hnb2 => ?_); try simp only [zzn] at hnb2)
  | simp -dsimp -implicitDefEqProofs (disch := first | assumption | (simp only [zzm]; done) | omega | (try with_reducible refine Row.adr (by assumption) ?_); simp only [zzl, Nat.reduceAdd]; first | done | omega) only [go_sem, ↓reduceIte, seval, -List.reduceReplicate, List.toList_toArray]
 have O3 : OpenD G3 d C an al ay cn cl cs rs := OpenD.mono (hle2.trans hle3) O
 refine Tri.isPiece [1, 1, 1, 0] Try.f23 (by kernel_rfl) ?_
 refine Tri.live [0, 1, 2, 4, 5, 6] ?_
 refine Tri.onlyN (p6_t hsm O3) fun G4 l4 H4 hle4 hs4 hM => ?_
 obtain ⟨b7, vs, _, hvs, hfr, rfl⟩ := hM
 simp only [go_sem]
 refine Tri.live [0, 1, 2, 4, 5, 6, 7] ?_
 rw [hfr]
 have hsE := hs4
 try simp only [zzs] at hsE
 repeat (obtain ⟨hsx, hsE⟩ := hsE)
 have O4 := OpenD.mono hle4 O3
 obtain ⟨ay4, cy4, rfl, hr4y, hcy4⟩ := id hvs
 refine Tri.run tok [0, 1, 2, 4, 5, 6, 7, 9, 10, 11, 12, 13, 18, 35, 36, 37, 38, 48, 49, 50, 51] (by kernel_rfl) ?_
 repeat' first
  | (with_reducible first | refine Nx.go ?_ | refine Bk.go (fun _ => ?_) fun _ => ?_)
  | ((with_reducible first | refine NewB.mk2 fun nb hnb hnb1 hnb2 => ?_ | refine NewRow.mk2 fun nb nsp ncap hnb hncap hnb1 hnb2 => ?_); try simp only [zzn] at hnb2)
  | simp -dsimp -implicitDefEqProofs (disch := first | assumption | (simp only [zzm]; done) | omega | (try with_reducible refine Row.adr (by assumption) ?_); simp only [zzl, Nat.reduceAdd]; first | done | omega) only [go_sem, ↓reduceIte, seval, -List.reduceReplicate, List.toList_toArray]
 refine heads_t (by omega) ⟨an3, cn3, rfl, hr3.mono hle4, hc3⟩ fun G5 v5 hle5 hs5 hsl5 => ?_
 obtain ⟨ah, ch, rfl, hrh, hch⟩ := hsl5
 have hsE := hs5
 try simp only [zzs] at hsE
 repeat (obtain ⟨hsx, hsE⟩ := hsE)
 have O5 := OpenD.mono hle5 O4
 repeat' first
  | (with_reducible first | refine Nx.go ?_ | refine Bk.go (fun _ => ?_) fun _ => ?_)
  | ((with_reducible first | refine NewB.mk2 fun nb hnb hnb1 hnb2 => ?_ | refine NewRow.mk2 fun nb nsp ncap hnb hncap hnb1 hnb2 => ?_); try simp only [zzn] at hnb2)
  | simp -dsimp -implicitDefEqProofs (disch := first | assumption | (simp only [zzm]; done) | omega | (try with_reducible refine Row.adr (by assumption) ?_); simp only [zzl, Nat.reduceAdd]; first | done | omega) only [go_sem, ↓reduceIte, seval, -List.reduceReplicate, List.toList_toArray]
 refine Tri.loopS tok [0, 1, 2, 4, 5, 6, 7, 9, 10, 11, 12, 13, 18, 35, 36, 37, 38, 48, 49, 50, 51] (.seq .run (.seq .run (.seq (.block .cut) .cut))) (by kernel_rfl) [0, 1, 2, 4, 5, 6, 7, 35, 36, 37] (fun q G' fr H' => ∃ (j : Nat) (vn vl : Value) (kn kl : Heap), j + q = (headsM m).length ∧ RowO d m G' j vn kn ∧ LabO d m j vl kl ∧ H' = (b7, .cells (cellsD d vn vl (.slice ay4 d.names.length cy4)) [] 27) :: (b2, .cells C [] 27) :: (kn ++ (kl ++ ((b4, .cells zeroC [] 27) :: H))) ∧ fr = [(0, .agg (List.toArray C)), (1, .slice aw m.length cw), (2, .pointer (some ⟨b2, 0, none⟩)), (4, .pointer (some ⟨b4, 0, none⟩)), (5, .int .i64 0), (6, .slice an3 (nums m).length cn3), (7, .pointer (some ⟨b7, 0, none⟩)), (35, .slice ah (headsM m).length ch), (36, .int .i64 (headsM m).length), (37, .int .i64 (j : Nat))]) ((headsM m).length) ?_ ?_
 ·exact Upd.go (H' := (b7, .cells (cellsD d (.slice none 0 0) (.slice none 0 0) (.slice ay4 d.names.length cy4)) [] 27) :: (b2, .cells C [] 27) :: ([] ++ ([] ++ ((b4, .cells zeroC [] 27) :: H)))) (by intro fsum; first | exact Nat.le_refl _ | (simp only [zzq]; omega)) (Upd.now ⟨0, _, _, [], [], by omega, .inl ⟨rfl, rfl, rfl⟩, .inl ⟨rfl, rfl, rfl⟩, rfl, rfl⟩)
 ·rintro q G6 fr H' hle6 hs6 ⟨j, vn, vl, kn, kl, hj, hro, hlo, rfl, rfl⟩
  by_cases hjl : j < (headsM m).length
  ·repeat' first
    | (with_reducible first | refine Nx.go ?_ | refine Bk.go (fun _ => ?_) fun _ => ?_)
    | ((with_reducible first | refine NewB.mk2 fun nb hnb hnb1 hnb2 => ?_ | refine NewRow.mk2 fun nb nsp ncap hnb hncap hnb1 hnb2 => ?_); try simp only [zzn] at hnb2)
    | simp -dsimp -implicitDefEqProofs (disch := first | assumption | (simp only [zzm]; done) | omega | (try with_reducible refine Row.adr (by assumption) ?_); simp only [zzl, Nat.reduceAdd]; first | done | omega) only [go_sem, ↓reduceIte, seval, -List.reduceReplicate, List.toList_toArray]
   refine Tri.live [0, 1, 2, 4, 5, 6, 7, 35, 36, 37] ?_
   refine Tri.isPiece [1, 1, 1, 1, 0, 1, 0, 0, 1, 1, 0, 0] Try.f23 (by kernel_rfl) ?_
   refine Tri.onlyN (x_t hsm hst (OpenD.mono hle6 O5) ((hr3.mono hle4).mono (hle5.trans hle6)) (hrh.mono hle6) hjl hro hlo rfl) fun G7 l7 H7 hle7 hs7 hM => ?_
   obtain ⟨vn', vl', kn', kl', _, hro', hlo', hfr', rfl⟩ := hM
   simp only [go_sem]
   refine Tri.live [0, 1, 2, 4, 5, 6, 7, 35, 36, 37] ?_
   rw [hfr']
   refine Tri.run tok [0, 1, 2, 4, 5, 6, 7, 9, 10, 11, 12, 13, 18, 35, 36, 37, 38, 48, 49, 50, 51] (by kernel_rfl) ?_
   repeat' first
    | (with_reducible first | refine Nx.go ?_ | refine Bk.go (fun _ => ?_) fun _ => ?_)
    | ((with_reducible first | refine NewB.mk2 fun nb hnb hnb1 hnb2 => ?_ | refine NewRow.mk2 fun nb nsp ncap hnb hncap hnb1 hnb2 => ?_); try simp only [zzn] at hnb2)
    | simp -dsimp -implicitDefEqProofs (disch := first | assumption | (simp only [zzm]; done) | omega | (try with_reducible refine Row.adr (by assumption) ?_); simp only [zzl, Nat.reduceAdd]; first | done | omega) only [go_sem, ↓reduceIte, seval, -List.reduceReplicate, List.toList_toArray]
   exact Upd.now ⟨q - 1, by omega, j + 1, vn', vl', kn', kl', by omega, hro', hlo', rfl, rfl⟩
  ·obtain rfl : j = (headsM m).length := by omega
   rcases hro with ⟨hj0, _, _⟩ | ⟨bn, c1, rv, sp1, rfl, rfl, hrv, hc1, hrws⟩
   ·exact absurd hj0 (by omega)
   rcases hlo with ⟨hj0, _, _⟩ | ⟨bl, c2, sp2, rfl, rfl, hc2⟩
   ·exact absurd hj0 (by omega)
   have hsE := hs6
   try simp only [zzs] at hsE
   repeat (obtain ⟨hsx, hsE⟩ := hsE)
   have hone := cellsD_one (d := d) (vn := .slice (some ⟨bn, 0, none⟩) (headsM m).length c1) (vl := .slice (some ⟨bl, 0, none⟩) (headsM m).length c2) (vs := .slice ay4 d.names.length cy4) rfl rfl rfl
   have hLl : (labsM d m).length = (headsM m).length := by unfold labsM; rw [List.length_map]
   rw [show (labsM d m).take (headsM m).length = labsM d m by rw [← hLl, List.take_length]]
   repeat' first
    | (with_reducible first | refine Nx.go ?_ | refine Bk.go (fun _ => ?_) fun _ => ?_)
    | ((with_reducible first | refine NewB.mk2 fun nb hnb hnb1 hnb2 => ?_ | refine NewRow.mk2 fun nb nsp ncap hnb hncap hnb1 hnb2 => ?_); try simp only [zzn] at hnb2)
    | simp -dsimp -implicitDefEqProofs (disch := first | assumption | (simp only [zzm]; done) | omega | (try with_reducible refine Row.adr (by assumption) ?_); simp only [zzl, Nat.reduceAdd]; first | done | omega) only [go_sem, ↓reduceIte, seval, -List.reduceReplicate, List.toList_toArray, hl2, ht2, hputz, hone, zeroC_len]
   unfold UpdR
   refine Upd.go (H' := (bn, .cells rv sp1 24) :: (bl, .cells ((labsM d m).map (Value.int .i64)) sp2 3) :: H) (by intro fsum; first | exact Nat.le_refl _ | (simp only [zzq]; omega)) (Upd.trans (Upd.shareRow (by assumption) fun G7 hle7 hs7 hr7 => ?_))
   refine Upd.shareRow hs7.1.1 fun G8 hle8 hs8 hr8 => ?_
   refine fun _ hs => hR G8 _ ((((hle2.trans hle3).trans hle4).trans hle5).trans (hle6.trans (hle7.trans hle8))) hs ?_
   refine ⟨O.ofl, O.ofb, _, _, _, rfl, ⟨some ⟨bn, 0, none⟩, c1, rv, ?_, hr7.mono hle8, ?_, ?_, fun i h h2 => ?_⟩, ⟨some ⟨bl, 0, none⟩, c2, ?_, hr8, ?_⟩, ⟨ay4, cy4, rfl, hr4y.mono ((hle5.trans hle6).trans (hle7.trans hle8)), hcy4⟩⟩
   ·simp only [ofD, List.length_map]
   ·simp only [ofD, List.length_map]; exact hrv
   ·simp only [ofD, List.length_map]; omega
   ·have hi : i < (headsM m).length := by simp only [ofD, List.length_map] at h; exact h
    obtain ⟨b', c', f1, f2, f3⟩ := hrws i hi h2 hi
    refine ⟨b', c', ?_, ?_, ?_⟩
    ·simp only [ofD, List.getElem_map]; exact f1
    ·simp only [ofD, List.getElem_map]; exact f2.mono (hle7.trans hle8)
    ·simp only [ofD, List.getElem_map]; exact f3
   ·simp only [ofD, List.length_map]
   ·simp only [ofD, List.length_map]; omega
end Go.Proofs.Ytdeableflgakdaa
namespace Go.Proofs.Ytdeableflgakdaa
open Go Go.V Go.Proofs
theorem clonei_t (l : List Int) (hlen : l.length ≤ 2000000) {G : PHeap} {H : Heap} {R : Value → PHeap → Heap → Prop} {v : Value} (hv : Sl G (Value.int .i64) v l)
  (hR : ∀ v' kb, Sep G (keys (kb ++ H)) → SliceO [] 3 1 v' l.length (l.map (Value.int .i64)) kb → R v' G (kb ++ H)) : FnT Try.prog 72 [v] G H R := by
 obtain ⟨a, cap, rfl, hrow, hcap⟩ := hv
 refine FnT.sep ?_
 rcases a with _ | a
 ·have h0 : l = [] := List.eq_nil_of_length_eq_zero (by
   rcases Nat.eq_zero_or_pos l.length with h | h
   ·exact h
   ·have := hrow.adr (by rw [List.length_map]; exact h)
    cases this)
  subst h0
  refine FnT.body tok [0, 2, 4] Try.func72 rfl (by kernel_rfl) (by kernel_rfl) (by show _ ≤ 8; simp) fun hsep => ?_
  rw [Try.results72]
  have hsE := hsep
  try simp only [zzs] at hsE
  repeat (obtain ⟨hsx, hsE⟩ := hsE)
  repeat' first
   | (with_reducible first | refine Nx.go ?_ | refine Bk.go (fun _ => ?_) fun _ => ?_)
   | ((with_reducible first | refine NewB.mk2 fun nb hnb hnb1 hnb2 => ?_ | refine NewRow.mk2 fun nb nsp ncap hnb hncap hnb1 hnb2 => ?_); try simp only [zzn] at hnb2)
   | simp -dsimp -implicitDefEqProofs (disch := first | assumption | (simp only [zzm]; done) | omega | (try with_reducible refine Row.adr (by assumption) ?_); simp only [zzl, Nat.reduceAdd]; first | done | omega) only [go_sem, ↓reduceIte, seval]
  unfold UpdR
  exact Upd.go (H' := H) (by intro fsum; first | exact Nat.le_refl _ | (simp only [zzq]; omega)) (Upd.now fun hle hs => hR _ [] hs (.inl ⟨none, rfl, rfl, rfl, rfl⟩))
 ·refine FnT.body tok [0, 2, 4] Try.func72 rfl (by kernel_rfl) (by kernel_rfl) (by show _ ≤ 8; simp) fun hsep => ?_
  rw [Try.results72]
  have hsE := hsep
  try simp only [zzs] at hsE
  repeat (obtain ⟨hsx, hsE⟩ := hsE)
  repeat' first
   | (with_reducible first | refine Nx.go ?_ | refine Bk.go (fun _ => ?_) fun _ => ?_)
   | ((with_reducible first | refine NewB.mk2 fun nb hnb hnb1 hnb2 => ?_ | refine NewRow.mk2 fun nb nsp ncap hnb hncap hnb1 hnb2 => ?_); try simp only [zzn] at hnb2)
   | simp -dsimp -implicitDefEqProofs (disch := first | assumption | (simp only [zzm]; done) | omega | (try with_reducible refine Row.adr (by assumption) ?_); simp only [zzl, Nat.reduceAdd]; first | done | omega) only [go_sem, ↓reduceIte, seval, Row.rdSlAll hrow, List.length_map]
  ·rename_i h0
   have h0 : l = [] := List.eq_nil_of_length_eq_zero h0
   subst h0
   unfold UpdR
   exact Upd.go (H' := H) (by intro fsum; first | exact Nat.le_refl _ | (simp only [zzq]; omega)) (Upd.now fun hle hs => hR _ [] hs (.inl ⟨_, rfl, rfl, rfl, rfl⟩))
  ·unfold UpdR
   exact Upd.go (H' := (nb, .cells (l.map (Value.int .i64)) nsp 3) :: H) (by intro fsum; first | exact Nat.le_refl _ | (simp only [zzq]; omega)) (Upd.now fun hle hs => hR _ [(nb, .cells (l.map (Value.int .i64)) nsp 3)] hs (.inr ⟨nb, ncap, nsp, rfl, rfl, by rw [List.length_map]; omega, by rw [List.length_map]; omega⟩))
def add1 (W : List Int) (t : Int) : List Int := if t ∈ W then W else W ++ [t]
def addN (W ts : List Int) : List Int := ts.foldl add1 W
theorem addN_nil (W : List Int) : addN W [] = W := rfl
theorem addN_cons (W : List Int) (t : Int) (ts : List Int) : addN W (t :: ts) = addN (add1 W t) ts := rfl
theorem addN_snoc (W ts : List Int) (t : Int) : addN W (ts ++ [t]) = add1 (addN W ts) t := by unfold addN; rw [List.foldl_append]; rfl
theorem addN_take (W ts : List Int) {i : Nat} (h : i < ts.length) : addN W (ts.take (i + 1)) = add1 (addN W (ts.take i)) ts[i] := by rw [List.take_succ_eq_append_getElem h, addN_snoc]
theorem mem_add1 {W : List Int} {t x : Int} : x ∈ add1 W t ↔ x ∈ W ∨ x = t := by
 unfold add1; split
 ·rename_i h
  constructor
  ·exact .inl
  ·rintro (h1 | rfl)
   ·exact h1
   ·exact h
 ·rw [List.mem_append, List.mem_singleton]
theorem add1_pre (W : List Int) (t : Int) : ∃ X, add1 W t = W ++ X := by
 unfold add1; split
 ·exact ⟨[], by simp⟩
 ·exact ⟨[t], rfl⟩
theorem addN_pre : ∀ (ts W : List Int), ∃ X, addN W ts = W ++ X
 | [], W => ⟨[], by simp [addN_nil]⟩
 | t :: ts, W => by
  obtain ⟨X, h1⟩ := add1_pre W t
  obtain ⟨Y, h2⟩ := addN_pre ts (add1 W t)
  exact ⟨X ++ Y, by rw [addN_cons, h2, h1, List.append_assoc]⟩
theorem mem_addN {x : Int} : ∀ {ts W : List Int}, x ∈ addN W ts ↔ x ∈ W ∨ x ∈ ts
 | [], W => by simp [addN_nil]
 | t :: ts, W => by rw [addN_cons, mem_addN, mem_add1, List.mem_cons, or_assoc]
def OnceN (n : Nat) (W : List Int) : Prop := W.Nodup ∧ ∀ x ∈ W, 0 ≤ x ∧ x < n
theorem OnceN.len : ∀ {n : Nat} {W : List Int}, OnceN n W → W.length ≤ n
 | 0, W, h => by
  rcases W with _ | ⟨x, W⟩
  ·exact Nat.le_refl _
  ·have := h.2 x (List.mem_cons_self ..); omega
 | n + 1, W, h => by
  have h1 : OnceN n (W.erase (n : Int)) := ⟨h.1.erase _, fun x hx => by
   have h2 := (h.1.mem_erase_iff.1 hx)
   have h3 := h.2 x h2.2
   omega⟩
  have h2 := OnceN.len h1
  have h3 := List.length_erase (a := (n : Int)) (l := W)
  split at h3 <;> omega
theorem OnceN.add1 {n : Nat} {W : List Int} (h : OnceN n W) {t : Int} (ht : 0 ≤ t ∧ t < n) : OnceN n (add1 W t) := by
 refine ⟨?_, fun x hx => ?_⟩
 ·unfold Proofs.Ytdeableflgakdaa.add1
  split
  ·exact h.1
  ·rename_i hn
   rw [List.nodup_append]
   exact ⟨h.1, by simp, fun a ha b hb => by rw [List.mem_singleton] at hb; subst hb; exact fun e => hn (e ▸ ha)⟩
 ·rcases mem_add1.1 hx with h1 | rfl
  ·exact h.2 x h1
  ·exact ht
theorem OnceN.addN {n : Nat} : ∀ {ts W : List Int}, OnceN n W → (∀ t ∈ ts, 0 ≤ t ∧ t < n) → OnceN n (addN W ts)
 | [], _, h, _ => h
 | t :: ts, _, h, ht => OnceN.addN (ts := ts) (h.add1 (ht t (List.mem_cons_self ..))) fun x hx => ht x (List.mem_cons_of_mem _ hx)
def bw (on : Int → List Int) (W0 : List Int) : Nat → List Int
 | 0 => W0
 | i + 1 => match (bw on W0 i)[i]? with
  | some s => addN (bw on W0 i) (on s)
  | none => bw on W0 i
theorem bw_succ {on : Int → List Int} {W0 : List Int} {i : Nat} (h : i < (bw on W0 i).length) : bw on W0 (i + 1) = addN (bw on W0 i) (on (bw on W0 i)[i]) := by
 show (match (bw on W0 i)[i]? with | some s => _ | none => _) = _
 rw [List.getElem?_eq_getElem h]
theorem bw_stop {on : Int → List Int} {W0 : List Int} {i : Nat} (h : (bw on W0 i).length ≤ i) : bw on W0 (i + 1) = bw on W0 i := by
 show (match (bw on W0 i)[i]? with | some s => _ | none => _) = _
 rw [List.getElem?_eq_none h]
theorem bw_pre (on : Int → List Int) (W0 : List Int) (i : Nat) : ∃ X, bw on W0 (i + 1) = bw on W0 i ++ X := by
 rcases Nat.lt_or_ge i (bw on W0 i).length with h | h
 ·rw [bw_succ h]; exact addN_pre _ _
 ·rw [bw_stop h]; exact ⟨[], by simp⟩
theorem bw_pre' (on : Int → List Int) (W0 : List Int) (i : Nat) : ∀ j, ∃ X, bw on W0 (i + j) = bw on W0 i ++ X
 | 0 => ⟨[], by simp⟩
 | j + 1 => by
  obtain ⟨X, h1⟩ := bw_pre' on W0 i j
  obtain ⟨Y, h2⟩ := bw_pre on W0 (i + j)
  exact ⟨X ++ Y, by rw [← Nat.add_assoc, h2, h1, List.append_assoc]⟩
theorem bw_once {on : Int → List Int} {W0 : List Int} {n : Nat} (h0 : OnceN n W0) (hon : ∀ s : Int, 0 ≤ s → s < n → ∀ t ∈ on s, 0 ≤ t ∧ t < n) : ∀ i, OnceN n (bw on W0 i)
 | 0 => h0
 | i + 1 => by
  rcases Nat.lt_or_ge i (bw on W0 i).length with h | h
  ·rw [bw_succ h]
   have h1 := bw_once h0 hon i
   have h2 := h1.2 _ (List.getElem_mem h)
   exact h1.addN (hon _ h2.1 h2.2)
  ·rw [bw_stop h]; exact bw_once h0 hon i
theorem bw_still {on : Int → List Int} {W0 : List Int} {i : Nat} (h : (bw on W0 i).length ≤ i) : ∀ j, bw on W0 (i + j) = bw on W0 i
 | 0 => rfl
 | j + 1 => by
  rw [← Nat.add_assoc, bw_stop (by rw [bw_still h j]; omega), bw_still h j]
def walkL (on : Int → List Int) (n : Nat) (W0 : List Int) : List Int := bw on W0 n
theorem bw_end {on : Int → List Int} {W0 : List Int} {n i : Nat} (h0 : OnceN n W0) (hon : ∀ s : Int, 0 ≤ s → s < n → ∀ t ∈ on s, 0 ≤ t ∧ t < n) (h : (bw on W0 i).length ≤ i) : bw on W0 i = walkL on n W0 := by
 unfold walkL
 rcases Nat.le_total i n with g | g
 ·obtain ⟨j, rfl⟩ := Nat.exists_eq_add_of_le g
  exact (bw_still h j).symm
 ·obtain ⟨j, rfl⟩ := Nat.exists_eq_add_of_le g
  exact bw_still (bw_once h0 hon n).len j
theorem bw_get {on : Int → List Int} {W0 : List Int} {i j k : Nat} (hij : i ≤ j) (hk : k < (bw on W0 i).length) : ∃ h : k < (bw on W0 j).length, (bw on W0 j)[k] = (bw on W0 i)[k] := by
 obtain ⟨c, rfl⟩ := Nat.exists_eq_add_of_le hij
 obtain ⟨X, h⟩ := bw_pre' on W0 i c
 refine ⟨by rw [h, List.length_append]; omega, ?_⟩
 simp only [h]
 rw [List.getElem_append_left hk]
theorem bw_closed {on : Int → List Int} {W0 : List Int} {n : Nat} (h0 : OnceN n W0) (hon : ∀ s : Int, 0 ≤ s → s < n → ∀ t ∈ on s, 0 ≤ t ∧ t < n) {x : Int} (hx : x ∈ walkL on n W0) : ∀ t ∈ on x, t ∈ walkL on n W0 := by
 obtain ⟨k, hk, rfl⟩ := List.getElem_of_mem hx
 intro t ht
 unfold walkL at hk ht ⊢
 have hkn : k < n := Nat.lt_of_lt_of_le hk (bw_once h0 hon n).len
 -- the k-th is there behind k rounds
 have hke : ∃ h : k < (bw on W0 k).length, (bw on W0 k)[k] = (bw on W0 n)[k] := by
  rcases Nat.lt_or_ge k (bw on W0 k).length with h | h
  ·obtain ⟨h2, e⟩ := bw_get (on := on) (W0 := W0) (i := k) (j := n) (by omega) h
   exact ⟨h, e.symm⟩
  ·have := bw_still h (n - k)
   rw [show k + (n - k) = n by omega] at this
   rw [this] at hk; omega
 obtain ⟨hk1, hk2⟩ := hke
 rw [← hk2] at ht
 have hin : t ∈ bw on W0 (k + 1) := by rw [bw_succ hk1]; exact mem_addN.2 (.inr ht)
 obtain ⟨X, hX⟩ := bw_pre' on W0 (k + 1) (n - (k + 1))
 rw [show k + 1 + (n - (k + 1)) = n by omega] at hX
 rw [hX]; exact List.mem_append.2 (.inl hin)
theorem walk_least {on : Int → List Int} {W0 : List Int} {X : Int → Prop} (h0 : ∀ x ∈ W0, X x) (h1 : ∀ x, X x → ∀ t ∈ on x, X t) : ∀ i x, x ∈ bw on W0 i → X x
 | 0, x, hx => h0 x hx
 | i + 1, x, hx => by
  rcases Nat.lt_or_ge i (bw on W0 i).length with h | h
  ·rw [bw_succ h] at hx
   rcases mem_addN.1 hx with hx | hx
   ·exact walk_least h0 h1 i x hx
   ·exact h1 _ (walk_least h0 h1 i _ (List.getElem_mem h)) x hx
  ·rw [bw_stop h] at hx; exact walk_least h0 h1 i x hx
end Go.Proofs.Ytdeableflgakdaa
namespace Go.Proofs.Ytdeableflgakdaa
open Go Go.V Go.Proofs
theorem calleeWalk1 : V.Callee Try.prog 71 := ⟨_, _, Try.func71, rfl, by kernel_rfl⟩
def metR (n : Nat) (W : List Int) : List Value := rowV n fun t => decide ((t : Int) ∈ W)
theorem metR_len (n : Nat) (W : List Int) : (metR n W).length = n := rowV_len _ _
theorem metR_put {n : Nat} {W : List Int} {t : Nat} (h : t < n) : splice (metR n W) t [.bool true] = metR n (add1 W t) := by
 unfold metR
 rw [rowV_put _ h]
 refine rowV_congr fun j hj => ?_
 rw [Bool.eq_iff_iff]
 split
 ·rename_i e; subst e; simp [mem_add1]
 ·rename_i e
  rw [decide_eq_true_eq, decide_eq_true_eq, mem_add1]
  constructor
  ·exact .inl
  ·rintro (h1 | h1)
   ·exact h1
   ·omega
theorem metR_get {n : Nat} {W : List Int} {t : Nat} (h : t < n) : (metR n W)[t]? = some (.bool (decide ((t : Int) ∈ W))) := by unfold metR; rw [rowV_get? _ h]
theorem metR_zero (n : Nat) : metR n [] = List.replicate n (.bool false) := by
 unfold metR rowV
 apply List.ext_getElem
 ·simp
 ·intro i h1 h2; simp
theorem metR_addN (n : Nat) {V W : List Int} (h : ∀ x, x ∈ V ↔ x ∈ W) : metR n V = metR n W := rowV_congr fun t _ => by simp [h]
theorem sep_app {G : PHeap} {A B : Heap} {b : Nat} (h : Sep G (keys (A ++ B))) (hb : b ∈ keys B) : NotIn b (keys A) := by
 have h1 := (sep_iff.1 h).2
 rw [keys_app, List.nodup_append] at h1
 exact notIn_iff.2 fun ha => h1.2.2 b ha b hb rfl
theorem sep_find {G : PHeap} {H : Heap} {b : Nat} {r : Res} (h : Sep G (keys H)) (hf : findH H b = some r) : G b = none :=
 (sep_iff.1 h).1 b (List.mem_map.2 ⟨_, findH_mem hf, rfl⟩)
theorem find_sep {G : PHeap} {x : Nat × Res} {H : Heap} {b : Nat} {r : Res} (hs : Sep G (keys (x :: H))) (h : findH H b = some r) : findH (x :: H) b = some r := by
 have h1 : NotIn x.1 (keys H) := hs.1.2
 have h2 := NotIn.neFind h1 h
 obtain ⟨k, q⟩ := x
 exact (findH_ne h2 q H).trans h
theorem sep_turn {G : PHeap} {x1 x2 x3 x4 x5 : Nat × Res} {H : Heap} (h : Sep G (keys (x1 :: x2 :: x3 :: x4 :: x5 :: H))) : Sep G (keys (H ++ [x1, x2, x3, x4, x5])) := by
 rw [sep_iff] at h ⊢
 have hp : List.Perm (keys (H ++ [x1, x2, x3, x4, x5])) (keys (x1 :: x2 :: x3 :: x4 :: x5 :: H)) := by
  unfold keys
  exact (List.perm_append_comm (l₁ := H) (l₂ := [x1, x2, x3, x4, x5])).map _
 exact ⟨fun b hb => h.1 b (hp.mem_iff.1 hb), hp.nodup_iff.2 h.2⟩
theorem sep_turn' {G : PHeap} {x1 x2 x3 x4 x5 : Nat × Res} {H : Heap} (h : Sep G (keys (H ++ [x1, x2, x3, x4, x5]))) : Sep G (keys (x1 :: x2 :: x3 :: x4 :: x5 :: H)) := by
 rw [sep_iff] at h ⊢
 have hp : List.Perm (keys (H ++ [x1, x2, x3, x4, x5])) (keys (x1 :: x2 :: x3 :: x4 :: x5 :: H)) := by
  unfold keys
  exact (List.perm_append_comm (l₁ := H) (l₂ := [x1, x2, x3, x4, x5])).map _
 exact ⟨fun b hb => h.1 b (hp.mem_iff.2 hb), hp.nodup_iff.1 h.2⟩
set_option maxRecDepth 4000 in
theorem walk1_t (lr b1 b2 b3 bx : Nat) {n : Nat} (hn : n ≤ 65536) {W0 : List Int} (hW : OnceN n W0) {on : Int → List Int} (hon : ∀ s : Int, 0 ≤ s → s < n → ∀ t ∈ on s, 0 ≤ t ∧ t < n) (hol : ∀ s : Int, 0 ≤ s → s < n → (on s).length ≤ 20000000)
  {fid : FuncId} {XC : List Value} {tyX : TypeId} {G : PHeap}
  (hOn : ∀ (s : Int) (G1 : PHeap) (H1 : Heap) (R1 : Value → PHeap → Heap → Prop), PLe G G1 → 0 ≤ s → s < n → G1 bx = none → findH H1 bx = some (.cells XC [] tyX) → (∀ v, Sl G1 (Value.int .i64) v (on s) → R1 v G1 H1) → FnT Try.prog fid [.int .i64 s, .pointer (some ⟨bx, 0, none⟩)] G1 H1 R1)
  {v0 : Value} (hv0 : Sl G (Value.int .i64) v0 W0) {HC : Heap} {R : Value → PHeap → Heap → Prop}
  (J Jx : Nat → PHeap → Heap → Prop) (hJ : ∀ i G1 G2 H1, PLe G1 G2 → J i G1 H1 → J i G2 H1) (hX : ∀ i G1 H1, Sep G1 (keys H1) → J i G1 H1 → findH H1 bx = some (.cells XC [] tyX))
  (hY : ∀ i G1 H1 HW (hi : i < (bw on W0 i).length), PLe G G1 → Sep G1 (keys (H1 ++ HW)) → J i G1 H1 → YldT Try.prog lr [.int .i64 (bw on W0 i)[i]] G1 (H1 ++ HW) fun w G2 H2 => ∃ H3, H2 = H3 ++ HW ∧ ((w = .bool true ∧ J (i + 1) G2 H3) ∨ (w = .bool false ∧ Jx i G2 H3)))
  (h0 : J 0 G HC)
  (hR : ∀ G' H', PLe G G' → Sep G' (keys H') → ((∃ i, i = (bw on W0 i).length ∧ J i G' H') ∨ ∃ i, Jx i G' H') → R (.tuple #[]) G' H') :
  FnT Try.prog 71 [.func (.yield lr) #[] #[], .pointer (some ⟨b1, 0, none⟩), .pointer (some ⟨b2, 0, none⟩), .pointer (some ⟨b3, 0, none⟩)] G
   ((b3, .cells [.func (.func fid) #[] #[.pointer (some ⟨bx, 0, none⟩)]] [] 66) :: (b2, .cells [v0] [] 24) :: (b1, .cells [.int .i64 (n : Nat)] [] 3) :: HC) R := by
 obtain ⟨a0, c0, rfl, hrow0, hcap0⟩ := id hv0
 have hW0 := hW.len
 refine FnT.body tok [0, 1, 2, 3, 5, 6, 8, 9, 11, 16, 17, 18, 19, 29, 38, 44, 45, 46, 47, 53] Try.func71 rfl (by kernel_rfl) (by kernel_rfl) (by show _ ≤ 62; simp) fun hsep => ?_
 rw [Try.results71]
 have hsE := hsep
 try simp only [zzs] at hsE
 repeat (obtain ⟨hsx, hsE⟩ := hsE)
 repeat' first
  | (with_reducible first | refine Nx.go ?_ | refine Bk.go (fun _ => ?_) fun _ => ?_)
  | ((with_reducible first | refine NewB.mk2 fun nb hnb hnb1 hnb2 => ?_ | refine NewRow.mk2 fun nb nsp ncap hnb hncap hnb1 hnb2 => ?_); try simp only [zzn] at hnb2)
  | simp -dsimp -implicitDefEqProofs (disch := first | assumption | (simp only [zzm]; done) | omega | (try with_reducible refine Row.adr (by assumption) ?_); simp only [zzl, Nat.reduceAdd]; first | done | omega) only [go_sem, ↓reduceIte, seval, -List.reduceReplicate, Nat.sub_self, List.replicate_zero]
 obtain ⟨bt, e0⟩ : ∃ x, x = nb := ⟨_, rfl⟩
 subst e0
 refine clonei_t W0 (by omega) hv0 fun v kb hsk hkb => ?_
 have hn1 : NotIn bt (keys kb) := sep_app hsk (by simp [keys])
 have hn2 : NotIn b3 (keys kb) := sep_app hsk (by simp [keys])
 have hn3 : NotIn b2 (keys kb) := sep_app hsk (by simp [keys])
 have hn4 : NotIn b1 (keys kb) := sep_app hsk (by simp [keys])
 repeat' first
  | (with_reducible first | refine Nx.go ?_ | refine Bk.go (fun _ => ?_) fun _ => ?_)
  | ((with_reducible first | refine NewB.mk2 fun nb hnb hnb1 hnb2 => ?_ | refine NewRow.mk2 fun nb nsp ncap hnb hncap hnb1 hnb2 => ?_); try simp only [zzn] at hnb2)
  | simp -dsimp -implicitDefEqProofs (disch := first | assumption | (simp only [zzm]; done) | omega | (try with_reducible refine Row.adr (by assumption) ?_); simp only [zzl, Nat.reduceAdd]; first | done | omega) only [go_sem, ↓reduceIte, seval]
 refine Tri.loopU tok [0, 1, 2, 3, 5, 6, 8, 9, 11, 16, 17, 18, 19, 29, 38, 44, 45, 46, 47, 53] (by kernel_rfl) [0, 1, 2, 3, 5, 6, 16, 17, 18] (fun q G' fr H' => ∃ i : Nat, i + q = W0.length ∧ G' = G ∧ H' = (bt, .cells (metR n (W0.take i)) [] 4) :: (b3, .cells [.func (.func fid) #[] #[.pointer (some ⟨bx, 0, none⟩)]] [] 66) :: (b2, .cells [.slice a0 W0.length c0] [] 24) :: (b1, .cells [.int .i64 (n : Nat)] [] 3) :: (kb ++ HC) ∧ fr = [(0, .func (.yield lr) #[] #[]), (1, .pointer (some ⟨b1, 0, none⟩)), (2, .pointer (some ⟨b2, 0, none⟩)), (3, .pointer (some ⟨b3, 0, none⟩)), (5, .slice (some ⟨bt, 0, none⟩) n n), (6, v), (16, .slice a0 W0.length c0), (17, .int .i64 W0.length), (18, .int .i64 (i : Nat))]) (W0.length) ?_ ?_
 ·rw [← metR_zero]
  exact Upd.go (H' := (bt, .cells (metR n []) [] 4) :: (b3, .cells [.func (.func fid) #[] #[.pointer (some ⟨bx, 0, none⟩)]] [] 66) :: (b2, .cells [.slice a0 W0.length c0] [] 24) :: (b1, .cells [.int .i64 (n : Nat)] [] 3) :: (kb ++ HC)) (by intro fsum; first | exact Nat.le_refl _ | (simp only [zzq]; omega)) (Upd.now ⟨0, by omega, rfl, by rw [List.take_zero], rfl⟩)
 ·rintro q G1 fr H' hle hs1 ⟨i, hiq, rfl, rfl, rfl⟩
  by_cases hil : i < W0.length
  ·have had : Adr a0 := hrow0.adr (by rw [List.length_map]; omega)
   have hx := hW.2 _ (List.getElem_mem hil)
   obtain ⟨t, ht⟩ := Int.eq_ofNat_of_zero_le hx.1
   have htn : t < n := by omega
   have hml := metR_len n (W0.take i)
   have hput : splice (metR n (W0.take i)) t [.bool true] = metR n (W0.take (i + 1)) := by
    rw [metR_put htn, ← ht]
    exact metR_addN n fun x => by rw [mem_add1, List.take_succ_eq_append_getElem hil, List.mem_append, List.mem_singleton]
   repeat' first
    | (with_reducible first | refine Nx.go ?_ | refine Bk.go (fun _ => ?_) fun _ => ?_)
    | ((with_reducible first | refine NewB.mk2 fun nb hnb hnb1 hnb2 => ?_ | refine NewRow.mk2 fun nb nsp ncap hnb hncap hnb1 hnb2 => ?_); try simp only [zzn] at hnb2)
    | simp -dsimp -implicitDefEqProofs (disch := first | assumption | (simp only [zzm]; done) | omega | (try with_reducible refine Row.adr (by assumption) ?_); simp only [zzl, Nat.reduceAdd]; first | done | omega) only [go_sem, ↓reduceIte, seval, Row.obj hrow0, List.getElem_map, ht, hput]
   exact Upd.now ⟨q - 1, by omega, i + 1, by omega, rfl, rfl, rfl⟩
  ·obtain rfl : i = W0.length := by omega
   rw [List.take_length] at hs1 ⊢
   repeat' first
    | (with_reducible first | refine Nx.go ?_ | refine Bk.go (fun _ => ?_) fun _ => ?_)
    | ((with_reducible first | refine NewB.mk2 fun nb hnb hnb1 hnb2 => ?_ | refine NewRow.mk2 fun nb nsp ncap hnb hncap hnb1 hnb2 => ?_); try simp only [zzn] at hnb2)
    | simp -dsimp -implicitDefEqProofs (disch := first | assumption | (simp only [zzm]; done) | omega | (try with_reducible refine Row.adr (by assumption) ?_); simp only [zzl, Nat.reduceAdd]; first | done | omega) only [go_sem, ↓reduceIte, seval]
   refine Tri.loopU tok [0, 1, 2, 3, 5, 6, 8, 9, 11, 16, 17, 18, 19, 29, 38, 44, 45, 46, 47, 53] (by kernel_rfl) [0, 1, 2, 3, 5, 6, 9] (fun q G' fr H' => ∃ (i : Nat) (v : Value) (kb H1 : Heap), i + q = n ∧ i ≤ (bw on W0 i).length ∧ PLe G1 G' ∧ SliceO [] 3 1 v (bw on W0 i).length ((bw on W0 i).map (Value.int .i64)) kb ∧ J i G' H1 ∧ H' = (bt, .cells (metR n (bw on W0 i)) [] 4) :: (b3, .cells [.func (.func fid) #[] #[.pointer (some ⟨bx, 0, none⟩)]] [] 66) :: (b2, .cells [.slice a0 W0.length c0] [] 24) :: (b1, .cells [.int .i64 (n : Nat)] [] 3) :: (kb ++ H1) ∧ fr = [(0, .func (.yield lr) #[] #[]), (1, .pointer (some ⟨b1, 0, none⟩)), (2, .pointer (some ⟨b2, 0, none⟩)), (3, .pointer (some ⟨b3, 0, none⟩)), (5, .slice (some ⟨bt, 0, none⟩) n n), (6, v), (9, .int .i64 (i : Nat))]) (n) ?_ ?_
   ·exact Upd.now ⟨0, v, kb, HC, by omega, Nat.zero_le _, PLe.refl _, hkb, h0, rfl, rfl⟩
   ·rintro q G2 fr H' hle2 hs2 ⟨i, v, kb, H1, hiq, hil, hleG, hkb, hJi, rfl, rfl⟩
    have hO := bw_once hW hon i
    have hOl := hO.len
    rcases hkb with ⟨a, rfl, hz, hz2, rfl⟩ | ⟨bk, ck, sk, rfl, rfl, hkl, hkc⟩
    ·repeat' first
      | (with_reducible first | refine Nx.go ?_ | refine Bk.go (fun _ => ?_) fun _ => ?_)
      | ((with_reducible first | refine NewB.mk2 fun nb hnb hnb1 hnb2 => ?_ | refine NewRow.mk2 fun nb nsp ncap hnb hncap hnb1 hnb2 => ?_); try simp only [zzn] at hnb2)
      | simp -dsimp -implicitDefEqProofs (disch := first | assumption | (simp only [zzm]; done) | omega | (try with_reducible refine Row.adr (by assumption) ?_); simp only [zzl, Nat.reduceAdd]; first | done | omega) only [go_sem, ↓reduceIte, seval]
     all_goals try (exfalso; omega)
     unfold UpdR
     exact Upd.go (H' := H1) (by intro fsum; first | exact Nat.le_refl _ | (simp only [zzq]; omega)) (Upd.now (hR G2 H1 hleG (Sep.suf (H := [(bt, .cells (metR n (bw on W0 i)) [] 4), (b3, .cells [.func (.func fid) #[] #[.pointer (some ⟨bx, 0, none⟩)]] [] 66), (b2, .cells [.slice a0 W0.length c0] [] 24), (b1, .cells [.int .i64 (n : Nat)] [] 3)]) hs2) (.inl ⟨i, by omega, hJi⟩)))
    ·rw [List.length_map] at hkl hkc
     have hsE := hs2
     try simp only [zzs] at hsE
     repeat (obtain ⟨hsx, hsE⟩ := hsE)
     by_cases hi : i < (bw on W0 i).length
     ·have hx := hO.2 _ (List.getElem_mem hi)
      have hsucc := bw_succ hi
      repeat' first
       | (with_reducible first | refine Nx.go ?_ | refine Bk.go (fun _ => ?_) fun _ => ?_)
       | ((with_reducible first | refine NewB.mk2 fun nb hnb hnb1 hnb2 => ?_ | refine NewRow.mk2 fun nb nsp ncap hnb hncap hnb1 hnb2 => ?_); try simp only [zzn] at hnb2)
       | simp -dsimp -implicitDefEqProofs (disch := first | assumption | (simp only [zzm]; done) | omega | (try with_reducible refine Row.adr (by assumption) ?_); simp only [zzl, Nat.reduceAdd]; first | done | omega) only [go_sem, ↓reduceIte, seval, List.getElem_append_left, List.getElem_map]
      refine YldT.upd (YldT.leave (H' := H1 ++ [(bt, .cells (metR n (bw on W0 i)) [] 4), (b3, .cells [.func (.func fid) #[] #[.pointer (some ⟨bx, 0, none⟩)]] [] 66), (b2, .cells [.slice a0 W0.length c0] [] 24), (b1, .cells [.int .i64 (n : Nat)] [] 3), (bk, .cells ((bw on W0 i).map (Value.int .i64)) sk 3)]) ?_ (by intro fsum; first | exact Nat.le_refl _ | (simp only [zzq]; omega)))
      have hs3 := sep_turn hs2
      refine YldT.mono (hY i G2 H1 _ hi hleG hs3 hJi) ?_
      rintro w G3 _ hle3 hs4 ⟨H3, rfl, hw⟩
      refine Upd.go (H' := (bt, .cells (metR n (bw on W0 i)) [] 4) :: (b3, .cells [.func (.func fid) #[] #[.pointer (some ⟨bx, 0, none⟩)]] [] 66) :: (b2, .cells [.slice a0 W0.length c0] [] 24) :: (b1, .cells [.int .i64 (n : Nat)] [] 3) :: (bk, .cells ((bw on W0 i).map (Value.int .i64)) sk 3) :: H3) (by intro fsum; first | exact Nat.le_refl _ | (simp only [zzq]; omega)) (Upd.now ?_)
      have hs5 := sep_turn' hs4
      have hsE := hs5
      try simp only [zzs] at hsE
      repeat (obtain ⟨hsx, hsE⟩ := hsE)
      rcases hw with ⟨rfl, hJ3⟩ | ⟨rfl, hJ3⟩
      ·have hfx3 := hX _ G3 H3 hs5.2.2.2.2.2 hJ3
       repeat' first
        | (with_reducible first | refine Nx.go ?_ | refine Bk.go (fun _ => ?_) fun _ => ?_)
        | ((with_reducible first | refine NewB.mk2 fun nb hnb hnb1 hnb2 => ?_ | refine NewRow.mk2 fun nb nsp ncap hnb hncap hnb1 hnb2 => ?_); try simp only [zzn] at hnb2)
        | simp -dsimp -implicitDefEqProofs (disch := first | assumption | (simp only [zzm]; done) | omega | (try with_reducible refine Row.adr (by assumption) ?_); simp only [zzl, Nat.reduceAdd]; first | done | omega) only [go_sem, ↓reduceIte, seval, List.getElem_append_left, List.getElem_map]
        | with_reducible refine Tri.drawS tok mixed [0, 1, 2, 3, 5, 6, 8, 9, 11, 16, 17, 18, 19, 29, 38, 44, 45, 46, 47, 53] 11 [0, 4] (.op 0 .held (.op 1 .plain (.op 2 .plain (.op 3 .plain (.op 4 .held (.op 7 .plain (.op 5 .plain (.op 6 .plain .nil)))))))) (by kernel_rfl) [(b3, .cells [.func (.func fid) #[] #[.pointer (some ⟨bx, 0, none⟩)]] [] 66), (bk, .cells ((bw on W0 i).map (Value.int .i64)) sk 3)] (by intro fsum; first | exact Nat.le_refl _ | (simp only [zzq]; omega)) ?_
       have hfx5 := find_sep hs5 (find_sep hs5.2 (find_sep hs5.2.2 (find_sep hs5.2.2.2 (find_sep hs5.2.2.2.2 hfx3))))
       have hxb := sep_find hs5 hfx5
       refine hOn _ G3 _ _ (hleG.trans hle3) hx.1 hx.2 hxb hfx5 fun v' hv' => ?_
       obtain ⟨ao, co, rfl, hro, hco⟩ := hv'
       have honl := hol _ hx.1 hx.2
       have honr := hon _ hx.1 hx.2
       repeat' first
        | (with_reducible first | refine Nx.go ?_ | refine Bk.go (fun _ => ?_) fun _ => ?_)
        | ((with_reducible first | refine NewB.mk2 fun nb hnb hnb1 hnb2 => ?_ | refine NewRow.mk2 fun nb nsp ncap hnb hncap hnb1 hnb2 => ?_); try simp only [zzn] at hnb2)
        | simp -dsimp -implicitDefEqProofs (disch := first | assumption | (simp only [zzm]; done) | omega | (try with_reducible refine Row.adr (by assumption) ?_); simp only [zzl, Nat.reduceAdd]; first | done | omega) only [go_sem, ↓reduceIte, seval]
       generalize hos : on (bw on W0 i)[i] = os at *
       refine Tri.loopU tok [0, 1, 2, 3, 5, 6, 8, 9, 11, 16, 17, 18, 19, 29, 38, 44, 45, 46, 47, 53] (by kernel_rfl) [0, 1, 2, 3, 5, 6, 9, 44, 45, 46] (fun q' G' fr H' => ∃ (k : Nat) (v : Value) (kb : Heap), k + q' = os.length ∧ G' = G3 ∧ SliceO [] 3 1 v (addN (bw on W0 i) (os.take k)).length ((addN (bw on W0 i) (os.take k)).map (Value.int .i64)) kb ∧ H' = (bt, .cells (metR n (addN (bw on W0 i) (os.take k))) [] 4) :: (b3, .cells [.func (.func fid) #[] #[.pointer (some ⟨bx, 0, none⟩)]] [] 66) :: (b2, .cells [.slice a0 W0.length c0] [] 24) :: (b1, .cells [.int .i64 (n : Nat)] [] 3) :: (kb ++ H3) ∧ fr = [(0, .func (.yield lr) #[] #[]), (1, .pointer (some ⟨b1, 0, none⟩)), (2, .pointer (some ⟨b2, 0, none⟩)), (3, .pointer (some ⟨b3, 0, none⟩)), (5, .slice (some ⟨bt, 0, none⟩) n n), (6, v), (9, .int .i64 (i : Nat)), (44, .slice ao os.length co), (45, .int .i64 os.length), (46, .int .i64 (k : Nat))]) (os.length) ?_ ?_
       ·exact Upd.now ⟨0, _, [(bk, .cells ((bw on W0 i).map (Value.int .i64)) sk 3)], by omega, rfl, .inr ⟨bk, ck, sk, rfl, rfl, by rw [List.length_map]; simp, by rw [List.length_map, List.take_zero, addN_nil]; omega⟩, rfl, rfl⟩
       ·rintro q' G4 fr H' hle4 hs6 ⟨k, v, kb, hkq, rfl, hkb, rfl, rfl⟩
        have hOk : OnceN n (addN (bw on W0 i) (os.take k)) := hO.addN fun x hx => honr x (List.mem_of_mem_take hx)
        have hOkl := hOk.len
        obtain ⟨X, hX1⟩ := addN_pre (os.take k) (bw on W0 i)
        have hXl := congrArg List.length hX1
        rw [List.length_append] at hXl
        rcases hkb with ⟨a, rfl, hz, hz2, rfl⟩ | ⟨bm, cm, sm, rfl, rfl, hml, hmc⟩
        ·omega
        ·rw [List.length_map] at hml hmc
         have hmt := metR_len n (addN (bw on W0 i) (os.take k))
         have hsE := hs6
         try simp only [zzs] at hsE
         repeat (obtain ⟨hsx, hsE⟩ := hsE)
         by_cases hk : k < os.length
         ·have had : Adr ao := hro.adr (by rw [List.length_map]; omega)
          have hy := honr _ (List.getElem_mem hk)
          obtain ⟨t, ht⟩ := Int.eq_ofNat_of_zero_le hy.1
          have htn : t < n := by omega
          have hg := metR_get (W := addN (bw on W0 i) (os.take k)) htn
          have hnext := addN_take (bw on W0 i) os hk
          have hput := metR_put (W := addN (bw on W0 i) (os.take k)) htn
          by_cases hin : (t : Int) ∈ addN (bw on W0 i) (os.take k)
          ·rw [decide_eq_true hin] at hg
           have hn2 : addN (bw on W0 i) (os.take (k + 1)) = addN (bw on W0 i) (os.take k) := by rw [hnext, ht]; unfold add1; rw [if_pos hin]
           repeat' first
            | (with_reducible first | refine Nx.go ?_ | refine Bk.go (fun _ => ?_) fun _ => ?_)
            | ((with_reducible first | refine NewB.mk2 fun nb hnb hnb1 hnb2 => ?_ | refine NewRow.mk2 fun nb nsp ncap hnb hncap hnb1 hnb2 => ?_); try simp only [zzn] at hnb2)
            | simp -dsimp -implicitDefEqProofs (disch := first | assumption | (simp only [zzm]; done) | omega | (try with_reducible refine Row.adr (by assumption) ?_); simp only [zzl, Nat.reduceAdd]; first | done | omega) only [go_sem, ↓reduceIte, seval, Row.obj hro, List.getElem_map, ht, hg]
           exact Upd.now ⟨q' - 1, by omega, k + 1, .slice (some ⟨bm, 0, none⟩) (addN (bw on W0 i) (os.take k)).length cm, [(bm, .cells ((addN (bw on W0 i) (os.take k)).map (Value.int .i64)) sm 3)], by omega, rfl, .inr ⟨bm, cm, sm, by rw [hn2], by rw [hn2], by rw [hn2, List.length_map]; omega, by rw [hn2, List.length_map]; omega⟩, by rw [hn2]; rfl, rfl⟩
          ·rw [decide_eq_false hin] at hg
           have hn2 : addN (bw on W0 i) (os.take (k + 1)) = addN (bw on W0 i) (os.take k) ++ [(t : Int)] := by rw [hnext, ht]; unfold add1; rw [if_neg hin]
           have hn3 : add1 (addN (bw on W0 i) (os.take k)) (t : Int) = addN (bw on W0 i) (os.take (k + 1)) := by rw [hnext, ht]
           rw [hn3] at hput
           repeat' first
            | (with_reducible first | refine Nx.go ?_ | refine Bk.go (fun _ => ?_) fun _ => ?_)
            | ((with_reducible first | refine NewB.mk2 fun nb hnb hnb1 hnb2 => ?_ | refine NewRow.mk2 fun nb nsp ncap hnb hncap hnb1 hnb2 => ?_); try simp only [zzn] at hnb2)
            | simp -dsimp -implicitDefEqProofs (disch := first | assumption | (simp only [zzm]; done) | omega | (try with_reducible refine Row.adr (by assumption) ?_); simp only [zzl, Nat.reduceAdd]; first | done | omega) only [go_sem, ↓reduceIte, seval, Row.obj hro, List.getElem_map, ht, hg, hput, List.replicate_one]
           have hl2 := congrArg List.length hn2
           rw [List.length_append, List.length_singleton] at hl2
           have hm2 : (addN (bw on W0 i) (os.take k)).map (Value.int .i64) ++ [Value.int .i64 (t : Nat)] = (addN (bw on W0 i) (os.take (k + 1))).map (Value.int .i64) := by rw [hn2, List.map_append]; rfl
           rw [hm2, ← hl2]
           exact Upd.go (H' := (bt, .cells (metR n (addN (bw on W0 i) (os.take (k + 1)))) [] 4) :: (b3, .cells [.func (.func fid) #[] #[.pointer (some ⟨bx, 0, none⟩)]] [] 66) :: (b2, .cells [.slice a0 W0.length c0] [] 24) :: (b1, .cells [.int .i64 (n : Nat)] [] 3) :: ([(nb, .cells ((addN (bw on W0 i) (os.take (k + 1))).map (Value.int .i64)) nsp 3)] ++ H3)) (by intro fsum; first | exact Nat.le_refl _ | (simp only [zzq]; omega)) (Upd.now ⟨q' - 1, by omega, k + 1, _, [(nb, .cells ((addN (bw on W0 i) (os.take (k + 1))).map (Value.int .i64)) nsp 3)], by omega, rfl, .inr ⟨nb, ncap, nsp, rfl, rfl, by rw [List.length_map]; omega, by rw [List.length_map]; omega⟩, rfl, rfl⟩)
         ·obtain rfl : k = os.length := by omega
          rw [List.take_length] at *
          repeat' first
           | (with_reducible first | refine Nx.go ?_ | refine Bk.go (fun _ => ?_) fun _ => ?_)
           | ((with_reducible first | refine NewB.mk2 fun nb hnb hnb1 hnb2 => ?_ | refine NewRow.mk2 fun nb nsp ncap hnb hncap hnb1 hnb2 => ?_); try simp only [zzn] at hnb2)
           | simp -dsimp -implicitDefEqProofs (disch := first | assumption | (simp only [zzm]; done) | omega | (try with_reducible refine Row.adr (by assumption) ?_); simp only [zzl, Nat.reduceAdd]; first | done | omega) only [go_sem, ↓reduceIte, seval]
          rw [← hsucc] at *
          exact Upd.now ⟨q - 1, by omega, i + 1, .slice (some ⟨bm, 0, none⟩) (bw on W0 (i + 1)).length cm, [(bm, .cells ((bw on W0 (i + 1)).map (Value.int .i64)) sm 3)], H3, by omega, by omega, hleG.trans hle3, .inr ⟨bm, cm, sm, rfl, rfl, by rw [List.length_map]; omega, by rw [List.length_map]; omega⟩, hJ3, rfl, rfl⟩
      ·repeat' first
        | (with_reducible first | refine Nx.go ?_ | refine Bk.go (fun _ => ?_) fun _ => ?_)
        | ((with_reducible first | refine NewB.mk2 fun nb hnb hnb1 hnb2 => ?_ | refine NewRow.mk2 fun nb nsp ncap hnb hncap hnb1 hnb2 => ?_); try simp only [zzn] at hnb2)
        | simp -dsimp -implicitDefEqProofs (disch := first | assumption | (simp only [zzm]; done) | omega | (try with_reducible refine Row.adr (by assumption) ?_); simp only [zzl, Nat.reduceAdd]; first | done | omega) only [go_sem, ↓reduceIte, seval]
       unfold UpdR
       exact Upd.go (H' := H3) (by intro fsum; first | exact Nat.le_refl _ | (simp only [zzq]; omega)) (Upd.now (hR G3 H3 (hleG.trans hle3) (by assumption) (.inr ⟨i, hJ3⟩)))
     ·repeat' first
       | (with_reducible first | refine Nx.go ?_ | refine Bk.go (fun _ => ?_) fun _ => ?_)
       | ((with_reducible first | refine NewB.mk2 fun nb hnb hnb1 hnb2 => ?_ | refine NewRow.mk2 fun nb nsp ncap hnb hncap hnb1 hnb2 => ?_); try simp only [zzn] at hnb2)
       | simp -dsimp -implicitDefEqProofs (disch := first | assumption | (simp only [zzm]; done) | omega | (try with_reducible refine Row.adr (by assumption) ?_); simp only [zzl, Nat.reduceAdd]; first | done | omega) only [go_sem, ↓reduceIte, seval]
      all_goals try (exfalso; omega)
      unfold UpdR
      exact Upd.go (H' := H1) (by intro fsum; first | exact Nat.le_refl _ | (simp only [zzq]; omega)) (Upd.now (hR G2 H1 hleG (by assumption) (.inl ⟨i, by omega, hJi⟩)))
end Go.Proofs.Ytdeableflgakdaa
