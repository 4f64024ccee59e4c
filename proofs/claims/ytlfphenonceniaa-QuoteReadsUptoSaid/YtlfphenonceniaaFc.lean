/- The reader: contract. -/
import Derived.Test.YtlfphenonceniaaFb
set_option linter.unusedSimpArgs false
set_option linter.unusedVariables false
namespace Go.Proofs.Ytlfphenonceniaa
open Go Go.V Go.Proofs

/-- the byte that two digits say -/
def hexF (h l : UInt8) : UInt8 := UInt8.ofNat (16 * (valueF h.toNat) + valueF l.toNat).toNat
/-- does a row begin with a byte's digits? -/
def okF (h l : UInt8) : Bool := decide (0 ≤ valueF h.toNat) && decide (0 ≤ valueF l.toNat) && !plainF (hexF h l).toNat

def uF : List UInt8 → Option (List UInt8)
  | [] => some []
  | c :: s => if plainF c.toNat then (uF s).map (c :: ·) else match c, s with
    | 92, 120 :: h :: l :: r => if okF h l then (uF r).map (hexF h l :: ·) else none
    | _, _ => none

def unq (s : List UInt8) : List UInt8 × Bool := if s = [92, 101] then ([], true) else match uF s with | none => ([], false) | some l => (l, decide (0 < l.length))

/-- a row of bytes that is one's own -/
def SlO (H : Heap) (v : Value) (xs : List UInt8) (H' : Heap) : Prop :=
  (v = .slice none 0 0 ∧ xs = [] ∧ H' = H) ∨ ∃ b cap sp, v = .slice (some ⟨b, 0, none⟩) xs.length cap ∧ H' = (b, .cells (xs.map byteV) sp 5) :: H ∧ xs.length + sp.length = cap

theorem SlO.share {G : PHeap} {H H' : Heap} {v : Value} {xs : List UInt8} (h : SlO H v xs H') {k : PHeap → Heap → Prop} (hsep : Sep G (keys H'))
    (hk : ∀ G', PLe G G' → Sep G' (keys H) → SliceB G' v xs → k G' H) : Upd G H' k := by
  rcases h with ⟨rfl, rfl, rfl⟩ | ⟨b, cap, sp, rfl, rfl, hc⟩
  · exact Upd.now (hk G (PLe.refl _) hsep (Sl.nil _ _))
  · exact Upd.shareRow hsep.1.1 fun G' hle hs hr => hk G' hle hs ⟨_, cap, rfl, hr, by omega⟩

theorem uF_plain {c : UInt8} (h : plainF c.toNat = true) (s : List UInt8) : uF (c :: s) = (uF s).map (c :: ·) := by
  conv => lhs; unfold uF
  rw [if_pos h]
theorem uF_hex (h l : UInt8) (r : List UInt8) : uF (92 :: 120 :: h :: l :: r) = if okF h l then (uF r).map (hexF h l :: ·) else none := by
  rw [uF]; rfl
theorem uF_bad {c : UInt8} (h : plainF c.toNat = false) (s : List UInt8) (hs : ∀ h l r, ¬ (c = 92 ∧ s = 120 :: h :: l :: r)) : uF (c :: s) = none := by
  conv => lhs; unfold uF
  rw [if_neg (by simp [h])]
  split
  · exact absurd ⟨rfl, rfl⟩ (hs _ _ _)
  · rfl

theorem valueF_lo (c : Int) : -1 ≤ valueF c := by unfold valueF; split <;> (try split) <;> omega
theorem valueF_hi (c : Int) : valueF c ≤ 15 := by unfold valueF; split <;> (try split) <;> omega

theorem hexF_int {h l : UInt8} (h1 : 0 ≤ valueF h.toNat) (h2 : 0 ≤ valueF l.toNat) : ((hexF h l).toNat : Int) = 16 * valueF h.toNat + valueF l.toNat := by
  have m1 := valueF_hi h.toNat
  have m2 := valueF_hi l.toNat
  have := byteV_ofNat (m := 16 * valueF h.toNat + valueF l.toNat) (by omega) (by omega)
  simp only [byteV, Value.int.injEq, true_and] at this
  exact this
theorem uF_none4 {c a h l : UInt8} (hp : plainF c.toNat = false) (r : List UInt8) (hn : [c, a] = [92, 120] → 0 ≤ valueF h.toNat → 0 ≤ valueF l.toNat → plainF (16 * valueF h.toNat + valueF l.toNat) = false → False) : uF (c :: a :: h :: l :: r) = none := by
  by_cases hca : c = 92 ∧ a = 120
  · obtain ⟨rfl, rfl⟩ := hca
    rw [uF_hex, if_neg]
    intro hok
    simp only [okF, Bool.and_eq_true, decide_eq_true_eq, Bool.not_eq_true'] at hok
    obtain ⟨⟨h1, h2⟩, h3⟩ := hok
    rw [hexF_int h1 h2] at h3
    exact hn rfl h1 h2 h3
  · refine uF_bad hp _ fun h l r e => hca ?_
    obtain ⟨rfl, e⟩ := e
    simp only [List.cons.injEq] at e
    exact ⟨rfl, e.1⟩
theorem uF_some4 {c a h l : UInt8} (r : List UInt8) (hca : [c, a] = [92, 120]) (h1 : 0 ≤ valueF h.toNat) (h2 : 0 ≤ valueF l.toNat) (h3 : ¬ plainF (16 * valueF h.toNat + valueF l.toNat) = true) : uF (c :: a :: h :: l :: r) = (uF r).map (hexF h l :: ·) := by
  simp only [List.cons.injEq, and_true] at hca
  obtain ⟨rfl, rfl⟩ := hca
  rw [uF_hex, if_pos]
  simp only [okF, Bool.and_eq_true, decide_eq_true_eq, Bool.not_eq_true']
  refine ⟨⟨h1, h2⟩, ?_⟩
  rw [hexF_int h1 h2]
  simpa using h3

theorem unq_none {s : List UInt8} (h : ¬ s = [92, 101]) (hu : uF s = none) : unq s = ([], false) := by
  unfold unq; rw [if_neg h, hu]
theorem unq_some {s l : List UInt8} (h : ¬ s = [92, 101]) (hu : uF s = some l) : unq s = (l, decide (0 < l.length)) := by
  unfold unq; rw [if_neg h, hu]

theorem unquote_t (s : List UInt8) (hlen : s.length ≤ 10000000) {G : PHeap} {H : Heap} {R : Value → PHeap → Heap → Prop}
    (hR : ∀ v G', PLe G G' → Sep G' (keys H) → SliceB G' v (unq s).1 → R (.tuple #[v, .bool (unq s).2]) G' H) : FnT Try.prog 16 [str s] G H R := by
  refine FnT.body tok [0, 2, 3, 4, 5, 6, 8, 10, 13, 28, 48] Try.func16 rfl (by kernel_rfl) (by kernel_rfl) (by show _ ≤ 63; simp) fun hsep => ?_
  rw [Try.results16]
  unfold str
  repeat' first
    | with_reducible refine Br.yes ?_
    | with_reducible refine Br.no ?_
    | with_reducible refine Br.dec (fun _ => ?_) (fun _ => ?_)
    | with_reducible refine Br.beqB (fun _ => ?_) (fun _ => ?_)
    | with_reducible refine Br.beqb (fun _ => ?_) (fun _ => ?_)
    | with_reducible refine Br.mk (fun _ => ?_) (fun _ => ?_)
    | ((with_reducible refine NewB.mk fun nb hnb => ?_); have hnb1 := hnb.1.1; have hnb2 := hnb.1.2; try simp only [keys_cons, keys_nil, NotIn_cons, NotIn_nil, and_true] at hnb2)
    | ((with_reducible refine NewRow.mk fun nb nsp ncap hnb hncap => ?_); have hnb1 := hnb.1.1; have hnb2 := hnb.1.2; try simp only [keys_cons, keys_nil, NotIn_cons, NotIn_nil, and_true] at hnb2)
    | with_reducible refine Tri.drawM tok mixed [0, 2, 3, 4, 5, 6, 8, 10, 13, 28, 48] 6 [] (.op 0 .plain (.op 1 .plain (.op 2 .plain (.op 5 .plain (.op 6 .plain (.op 3 .keeps (.op 4 .keeps (.op 7 .plain (.op 8 .plain .nil))))))))) (by kernel_rfl) [] (List.nil_sublist _) ?_
    | with_reducible refine Tri.drawM tok mixed [0, 2, 3, 4, 5, 6, 8, 10, 13, 28, 48] 9 [] (.op 0 .plain (.op 1 .plain (.op 3 .plain (.op 4 .plain (.op 2 .keeps (.op 5 .keeps (.op 6 .plain (.op 7 .plain .nil)))))))) (by kernel_rfl) [] (List.nil_sublist _) ?_
    | with_reducible refine Tri.drawM tok mixed [0, 2, 3, 4, 5, 6, 8, 10, 13, 28, 48] 12 [] (.op 0 .plain (.op 1 .plain (.op 2 .plain (.op 3 .plain (.op 4 .plain (.op 5 .plain (.op 8 .plain (.op 9 .plain (.op 6 .keeps (.op 7 .keeps (.op 10 .plain (.op 11 .plain .nil)))))))))))) (by kernel_rfl) [] (List.nil_sublist _) ?_
    | simp (dsimp := false) (implicitDefEqProofs := false) (disch := first | assumption | omega | (with_reducible refine Row.adr (by assumption) ?_; simp only [List.length_map, List.length_take, List.length_drop]; omega) | (simp only [List.length_cons, List.length_nil, List.length_map, List.length_append, List.length_replicate, Nat.reduceAdd, true_and, and_true, and_self]; first | done | omega)) only [go_sem, ↓reduceIte, Nat.reduceEqDiff, Nat.reduceAdd, Nat.reduceSub, Nat.reduceMul, Nat.reduceBEq, Nat.reduceLT, Nat.reduceLeDiff, Nat.reduceMod, Nat.reducePow, List.reduceReplicate, UInt8.reduceOfNat, Int.reducePow, Int.reduceDiv, Int.reduceMod, Nat.reduceDiv, Int.reduceNeg, Int.reduceAdd, Int.reduceSub, Int.reduceMul, Int.reduceLE, Int.reduceLT, Int.reduceEq, Int.reduceToNat, decide_true, decide_false, reduceCtorEq, ne_eq, not_false_eq_true, not_true_eq_false, and_true, true_and, and_self, or_true, true_or, or_false, false_or, or_self, eq_self, Nat.zero_add, Nat.add_zero, Nat.mul_one, Nat.one_mul, Nat.zero_mul, List.length_cons, List.length_nil, List.getElem?_cons_zero, List.getElem?_cons_succ, List.map_cons, List.map_nil, List.append_nil]
  · rename_i h
    have e : unq s = ([], true) := by unfold unq; rw [if_pos h]
    rw [e] at hR
    exact Upd.fin (hR _ G (PLe.refl _) hsep (Sl.nil _ _)) rfl
  · rename_i h
    refine Tri.loopU tok [0, 2, 3, 4, 5, 6, 8, 10, 13, 28, 48] (by kernel_rfl) [0, 2, 3, 4] (fun n G' l H' => ∃ (r xs : List UInt8) (v : Value), r.length = n ∧ n ≤ s.length ∧ xs.length + n ≤ s.length ∧ G' = G ∧ uF s = (uF r).map (xs ++ ·) ∧ SlO H v xs H' ∧ l = [(0, .string ⟨r.toArray⟩), (2, .slice none 0 0), (3, .bool false), (4, v)]) (s.length) (Upd.now ?_) ?_
    · exact ⟨s, [], _, rfl, by omega, by simp, rfl, by simp, .inl ⟨rfl, rfl, rfl⟩, rfl⟩
    · rintro n G' l H' hle hs ⟨r, xs, v, rfl, hn, hx, rfl, hu, hv, rfl⟩
      -- nothing came of it
      have bad : uF r = none → ∀ H2, H.Sublist H2 → UpdR R (Value.tuple #[Value.slice none 0 0, Value.bool false]) G' H2 := fun e H2 hsub => by
        rw [e] at hu
        have := unq_none h hu
        rw [this] at hR
        exact Upd.finS hsub (hR _ G' (PLe.refl _) hsep (Sl.nil _ _)) rfl
      have sub : H.Sublist H' := by
        rcases hv with ⟨_, _, rfl⟩ | ⟨_, _, _, _, rfl, _⟩
        · exact List.Sublist.refl _
        · exact List.sublist_cons_self _ _
      -- the next round
      have next : ∀ (c : UInt8) (r' : List UInt8) (nb ncap : Nat) (nsp : List Value) (H2 : Heap) (l2 : Fr), uF r = (uF r').map (c :: ·) → r'.length + 1 ≤ r.length → (xs.length + 1) * 1 + nsp.length = ncap * 1 → 
          ((nb, Res.cells (xs.map byteV ++ [byteV c]) nsp 5) :: H).Sublist H2 → l2 = [(0, .string ⟨r'.toArray⟩), (2, .slice none 0 0), (3, .bool false), (4, .slice (some ⟨nb, 0, none⟩) (xs.length + 1) ncap)] →
          Upd G' H2 fun G0 H0 => ∃ m, m < r.length ∧ ∃ (r xs : List UInt8) (v : Value), r.length = m ∧ m ≤ s.length ∧ xs.length + m ≤ s.length ∧ G0 = G' ∧ uF s = (uF r).map (xs ++ ·) ∧ SlO H v xs H0 ∧ l2 = [(0, .string ⟨r.toArray⟩), (2, .slice none 0 0), (3, .bool false), (4, v)] := by
        intro c r' nb ncap nsp H2 l2 e hr hc hsub hl2
        refine Upd.sub hsub ⟨r'.length, by omega, r', xs ++ [c], _, rfl, by omega, by simp; omega, rfl, ?_, .inr ⟨nb, ncap, nsp, rfl, by simp, by simp; omega⟩, ?_⟩
        · rw [hu, e, Option.map_map]; congr 1; funext x; simp
        · rw [hl2]; simp
      cases r with
      | nil =>
        have e : uF s = some xs := by rw [hu, uF]; simp
        have e := unq_some h e
        rw [e] at hR
        have fin : ∀ l : Nat, xs.length = l → UpdR R (Value.tuple #[v, Value.bool (decide (0 < (l : Int)))]) G' H' := fun l hl => by
          subst hl
          refine hv.share hs (fun G2 hle2 hs2 hb => ?_)
          have := hR v G2 hle2 hs2 hb
          rw [show decide (0 < (xs.length : Int)) = decide (0 < xs.length) by rw [decide_eq_decide]; omega]
          exact this
        rcases hv with ⟨rfl, rfl, rfl⟩ | ⟨b, cap, sp, rfl, rfl, hcap⟩
        · repeat' first
            | with_reducible refine Br.yes ?_
            | with_reducible refine Br.no ?_
            | with_reducible refine Br.dec (fun _ => ?_) (fun _ => ?_)
            | with_reducible refine Br.beqB (fun _ => ?_) (fun _ => ?_)
            | with_reducible refine Br.beqb (fun _ => ?_) (fun _ => ?_)
            | with_reducible refine Br.mk (fun _ => ?_) (fun _ => ?_)
            | ((with_reducible refine NewB.mk fun nb hnb => ?_); have hnb1 := hnb.1.1; have hnb2 := hnb.1.2; try simp only [keys_cons, keys_nil, NotIn_cons, NotIn_nil, and_true] at hnb2)
            | ((with_reducible refine NewRow.mk fun nb nsp ncap hnb hncap => ?_); have hnb1 := hnb.1.1; have hnb2 := hnb.1.2; try simp only [keys_cons, keys_nil, NotIn_cons, NotIn_nil, and_true] at hnb2)
            | with_reducible refine Tri.drawM tok mixed [0, 2, 3, 4, 5, 6, 8, 10, 13, 28, 48] 6 [] (.op 0 .plain (.op 1 .plain (.op 2 .plain (.op 5 .plain (.op 6 .plain (.op 3 .keeps (.op 4 .keeps (.op 7 .plain (.op 8 .plain .nil))))))))) (by kernel_rfl) [] (List.nil_sublist _) ?_
            | with_reducible refine Tri.drawM tok mixed [0, 2, 3, 4, 5, 6, 8, 10, 13, 28, 48] 9 [] (.op 0 .plain (.op 1 .plain (.op 3 .plain (.op 4 .plain (.op 2 .keeps (.op 5 .keeps (.op 6 .plain (.op 7 .plain .nil)))))))) (by kernel_rfl) [] (List.nil_sublist _) ?_
            | with_reducible refine Tri.drawM tok mixed [0, 2, 3, 4, 5, 6, 8, 10, 13, 28, 48] 12 [] (.op 0 .plain (.op 1 .plain (.op 2 .plain (.op 3 .plain (.op 4 .plain (.op 5 .plain (.op 8 .plain (.op 9 .plain (.op 6 .keeps (.op 7 .keeps (.op 10 .plain (.op 11 .plain .nil)))))))))))) (by kernel_rfl) [] (List.nil_sublist _) ?_
            | simp (dsimp := false) (implicitDefEqProofs := false) (disch := first | assumption | omega | (with_reducible refine Row.adr (by assumption) ?_; simp only [List.length_map, List.length_take, List.length_drop]; omega) | (simp only [List.length_cons, List.length_nil, List.length_map, List.length_append, List.length_replicate, Nat.reduceAdd, true_and, and_true, and_self]; first | done | omega)) only [go_sem, ↓reduceIte, Nat.reduceEqDiff, Nat.reduceAdd, Nat.reduceSub, Nat.reduceMul, Nat.reduceBEq, Nat.reduceLT, Nat.reduceLeDiff, Nat.reduceMod, Nat.reducePow, List.reduceReplicate, UInt8.reduceOfNat, Int.reducePow, Int.reduceDiv, Int.reduceMod, Nat.reduceDiv, Int.reduceNeg, Int.reduceAdd, Int.reduceSub, Int.reduceMul, Int.reduceLE, Int.reduceLT, Int.reduceEq, Int.reduceToNat, decide_true, decide_false, reduceCtorEq, ne_eq, not_false_eq_true, not_true_eq_false, and_true, true_and, and_self, or_true, true_or, or_false, false_or, or_self, eq_self, Nat.zero_add, Nat.add_zero, Nat.mul_one, Nat.one_mul, Nat.zero_mul, List.length_cons, List.length_nil, List.getElem?_cons_zero, List.getElem?_cons_succ, List.map_cons, List.map_nil, List.append_nil]
          exact fin 0 rfl
        · repeat' first
            | with_reducible refine Br.yes ?_
            | with_reducible refine Br.no ?_
            | with_reducible refine Br.dec (fun _ => ?_) (fun _ => ?_)
            | with_reducible refine Br.beqB (fun _ => ?_) (fun _ => ?_)
            | with_reducible refine Br.beqb (fun _ => ?_) (fun _ => ?_)
            | with_reducible refine Br.mk (fun _ => ?_) (fun _ => ?_)
            | ((with_reducible refine NewB.mk fun nb hnb => ?_); have hnb1 := hnb.1.1; have hnb2 := hnb.1.2; try simp only [keys_cons, keys_nil, NotIn_cons, NotIn_nil, and_true] at hnb2)
            | ((with_reducible refine NewRow.mk fun nb nsp ncap hnb hncap => ?_); have hnb1 := hnb.1.1; have hnb2 := hnb.1.2; try simp only [keys_cons, keys_nil, NotIn_cons, NotIn_nil, and_true] at hnb2)
            | with_reducible refine Tri.drawM tok mixed [0, 2, 3, 4, 5, 6, 8, 10, 13, 28, 48] 6 [] (.op 0 .plain (.op 1 .plain (.op 2 .plain (.op 5 .plain (.op 6 .plain (.op 3 .keeps (.op 4 .keeps (.op 7 .plain (.op 8 .plain .nil))))))))) (by kernel_rfl) [] (List.nil_sublist _) ?_
            | with_reducible refine Tri.drawM tok mixed [0, 2, 3, 4, 5, 6, 8, 10, 13, 28, 48] 9 [] (.op 0 .plain (.op 1 .plain (.op 3 .plain (.op 4 .plain (.op 2 .keeps (.op 5 .keeps (.op 6 .plain (.op 7 .plain .nil)))))))) (by kernel_rfl) [] (List.nil_sublist _) ?_
            | with_reducible refine Tri.drawM tok mixed [0, 2, 3, 4, 5, 6, 8, 10, 13, 28, 48] 12 [] (.op 0 .plain (.op 1 .plain (.op 2 .plain (.op 3 .plain (.op 4 .plain (.op 5 .plain (.op 8 .plain (.op 9 .plain (.op 6 .keeps (.op 7 .keeps (.op 10 .plain (.op 11 .plain .nil)))))))))))) (by kernel_rfl) [] (List.nil_sublist _) ?_
            | simp (dsimp := false) (implicitDefEqProofs := false) (disch := first | assumption | omega | (with_reducible refine Row.adr (by assumption) ?_; simp only [List.length_map, List.length_take, List.length_drop]; omega) | (simp only [List.length_cons, List.length_nil, List.length_map, List.length_append, List.length_replicate, Nat.reduceAdd, true_and, and_true, and_self]; first | done | omega)) only [go_sem, ↓reduceIte, Nat.reduceEqDiff, Nat.reduceAdd, Nat.reduceSub, Nat.reduceMul, Nat.reduceBEq, Nat.reduceLT, Nat.reduceLeDiff, Nat.reduceMod, Nat.reducePow, List.reduceReplicate, UInt8.reduceOfNat, Int.reducePow, Int.reduceDiv, Int.reduceMod, Nat.reduceDiv, Int.reduceNeg, Int.reduceAdd, Int.reduceSub, Int.reduceMul, Int.reduceLE, Int.reduceLT, Int.reduceEq, Int.reduceToNat, decide_true, decide_false, reduceCtorEq, ne_eq, not_false_eq_true, not_true_eq_false, and_true, true_and, and_self, or_true, true_or, or_false, false_or, or_self, eq_self, Nat.zero_add, Nat.add_zero, Nat.mul_one, Nat.one_mul, Nat.zero_mul, List.length_cons, List.length_nil, List.getElem?_cons_zero, List.getElem?_cons_succ, List.map_cons, List.map_nil, List.append_nil]
          exact fin _ rfl
      | cons c r =>
        have hc := c.toNat_lt
        simp only [List.length_cons] at hn hx
        cases hp : plainF c.toNat with
        | true =>
          have e := uF_plain hp r
          rcases hv with ⟨rfl, rfl, rfl⟩ | ⟨b, cap, sp, rfl, rfl, hcap⟩
          · repeat' first
              | with_reducible refine Br.yes ?_
              | with_reducible refine Br.no ?_
              | with_reducible refine Br.dec (fun _ => ?_) (fun _ => ?_)
              | with_reducible refine Br.beqB (fun _ => ?_) (fun _ => ?_)
              | with_reducible refine Br.beqb (fun _ => ?_) (fun _ => ?_)
              | with_reducible refine Br.mk (fun _ => ?_) (fun _ => ?_)
              | ((with_reducible refine NewB.mk fun nb hnb => ?_); have hnb1 := hnb.1.1; have hnb2 := hnb.1.2; try simp only [keys_cons, keys_nil, NotIn_cons, NotIn_nil, and_true] at hnb2)
              | ((with_reducible refine NewRow.mk fun nb nsp ncap hnb hncap => ?_); have hnb1 := hnb.1.1; have hnb2 := hnb.1.2; try simp only [keys_cons, keys_nil, NotIn_cons, NotIn_nil, and_true] at hnb2)
              | with_reducible refine Tri.drawM tok mixed [0, 2, 3, 4, 5, 6, 8, 10, 13, 28, 48] 6 [] (.op 0 .plain (.op 1 .plain (.op 2 .plain (.op 5 .plain (.op 6 .plain (.op 3 .keeps (.op 4 .keeps (.op 7 .plain (.op 8 .plain .nil))))))))) (by kernel_rfl) [] (List.nil_sublist _) ?_
              | with_reducible refine Tri.drawM tok mixed [0, 2, 3, 4, 5, 6, 8, 10, 13, 28, 48] 9 [] (.op 0 .plain (.op 1 .plain (.op 3 .plain (.op 4 .plain (.op 2 .keeps (.op 5 .keeps (.op 6 .plain (.op 7 .plain .nil)))))))) (by kernel_rfl) [] (List.nil_sublist _) ?_
              | with_reducible refine Tri.drawM tok mixed [0, 2, 3, 4, 5, 6, 8, 10, 13, 28, 48] 12 [] (.op 0 .plain (.op 1 .plain (.op 2 .plain (.op 3 .plain (.op 4 .plain (.op 5 .plain (.op 8 .plain (.op 9 .plain (.op 6 .keeps (.op 7 .keeps (.op 10 .plain (.op 11 .plain .nil)))))))))))) (by kernel_rfl) [] (List.nil_sublist _) ?_
              | simp (dsimp := false) (implicitDefEqProofs := false) (disch := first | assumption | omega | (with_reducible refine Row.adr (by assumption) ?_; simp only [List.length_map, List.length_take, List.length_drop]; omega) | (simp only [List.length_cons, List.length_nil, List.length_map, List.length_append, List.length_replicate, Nat.reduceAdd, true_and, and_true, and_self]; first | done | omega)) only [go_sem, ↓reduceIte, Nat.reduceEqDiff, Nat.reduceAdd, Nat.reduceSub, Nat.reduceMul, Nat.reduceBEq, Nat.reduceLT, Nat.reduceLeDiff, Nat.reduceMod, Nat.reducePow, List.reduceReplicate, UInt8.reduceOfNat, Int.reducePow, Int.reduceDiv, Int.reduceMod, Nat.reduceDiv, Int.reduceNeg, Int.reduceAdd, Int.reduceSub, Int.reduceMul, Int.reduceLE, Int.reduceLT, Int.reduceEq, Int.reduceToNat, decide_true, decide_false, reduceCtorEq, ne_eq, not_false_eq_true, not_true_eq_false, and_true, true_and, and_self, or_true, true_or, or_false, false_or, or_self, eq_self, Nat.zero_add, Nat.add_zero, Nat.mul_one, Nat.one_mul, Nat.zero_mul, List.length_cons, List.length_nil, List.getElem?_cons_zero, List.getElem?_cons_succ, List.map_cons, List.map_nil, List.append_nil, hp]
              | refine plain_t _ (by omega) (by omega) ?_
            refine next c r nb ncap nsp _ _ e (by simp) hncap ((List.sublist_cons_self _ _).cons_cons _) ?_
            rw [Nat.add_sub_cancel, List.take_length]; rfl
          · repeat' first
              | with_reducible refine Br.yes ?_
              | with_reducible refine Br.no ?_
              | with_reducible refine Br.dec (fun _ => ?_) (fun _ => ?_)
              | with_reducible refine Br.beqB (fun _ => ?_) (fun _ => ?_)
              | with_reducible refine Br.beqb (fun _ => ?_) (fun _ => ?_)
              | with_reducible refine Br.mk (fun _ => ?_) (fun _ => ?_)
              | ((with_reducible refine NewB.mk fun nb hnb => ?_); have hnb1 := hnb.1.1; have hnb2 := hnb.1.2; try simp only [keys_cons, keys_nil, NotIn_cons, NotIn_nil, and_true] at hnb2)
              | ((with_reducible refine NewRow.mk fun nb nsp ncap hnb hncap => ?_); have hnb1 := hnb.1.1; have hnb2 := hnb.1.2; try simp only [keys_cons, keys_nil, NotIn_cons, NotIn_nil, and_true] at hnb2)
              | with_reducible refine Tri.drawM tok mixed [0, 2, 3, 4, 5, 6, 8, 10, 13, 28, 48] 6 [] (.op 0 .plain (.op 1 .plain (.op 2 .plain (.op 5 .plain (.op 6 .plain (.op 3 .keeps (.op 4 .keeps (.op 7 .plain (.op 8 .plain .nil))))))))) (by kernel_rfl) [] (List.nil_sublist _) ?_
              | with_reducible refine Tri.drawM tok mixed [0, 2, 3, 4, 5, 6, 8, 10, 13, 28, 48] 9 [] (.op 0 .plain (.op 1 .plain (.op 3 .plain (.op 4 .plain (.op 2 .keeps (.op 5 .keeps (.op 6 .plain (.op 7 .plain .nil)))))))) (by kernel_rfl) [] (List.nil_sublist _) ?_
              | with_reducible refine Tri.drawM tok mixed [0, 2, 3, 4, 5, 6, 8, 10, 13, 28, 48] 12 [] (.op 0 .plain (.op 1 .plain (.op 2 .plain (.op 3 .plain (.op 4 .plain (.op 5 .plain (.op 8 .plain (.op 9 .plain (.op 6 .keeps (.op 7 .keeps (.op 10 .plain (.op 11 .plain .nil)))))))))))) (by kernel_rfl) [] (List.nil_sublist _) ?_
              | simp (dsimp := false) (implicitDefEqProofs := false) (disch := first | assumption | omega | (with_reducible refine Row.adr (by assumption) ?_; simp only [List.length_map, List.length_take, List.length_drop]; omega) | (simp only [List.length_cons, List.length_nil, List.length_map, List.length_append, List.length_replicate, Nat.reduceAdd, true_and, and_true, and_self]; first | done | omega)) only [go_sem, ↓reduceIte, Nat.reduceEqDiff, Nat.reduceAdd, Nat.reduceSub, Nat.reduceMul, Nat.reduceBEq, Nat.reduceLT, Nat.reduceLeDiff, Nat.reduceMod, Nat.reducePow, List.reduceReplicate, UInt8.reduceOfNat, Int.reducePow, Int.reduceDiv, Int.reduceMod, Nat.reduceDiv, Int.reduceNeg, Int.reduceAdd, Int.reduceSub, Int.reduceMul, Int.reduceLE, Int.reduceLT, Int.reduceEq, Int.reduceToNat, decide_true, decide_false, reduceCtorEq, ne_eq, not_false_eq_true, not_true_eq_false, and_true, true_and, and_self, or_true, true_or, or_false, false_or, or_self, eq_self, Nat.zero_add, Nat.add_zero, Nat.mul_one, Nat.one_mul, Nat.zero_mul, List.length_cons, List.length_nil, List.getElem?_cons_zero, List.getElem?_cons_succ, List.map_cons, List.map_nil, List.append_nil, hp]
              | refine plain_t _ (by omega) (by omega) ?_
            refine next c r nb ncap nsp _ _ e (by simp) hncap ((List.sublist_cons_self _ _).cons_cons _) ?_
            rw [Nat.add_sub_cancel, List.take_length]; rfl
        | false =>
          have e1 := uF_bad hp r
          rcases r with _ | ⟨a, _ | ⟨b1, _ | ⟨b2, r⟩⟩⟩
          · have e := e1 (by simp)
            rcases hv with ⟨rfl, rfl, rfl⟩ | ⟨b, cap, sp, rfl, rfl, hcap⟩
            all_goals
              repeat' first
                | with_reducible refine Br.yes ?_
                | with_reducible refine Br.no ?_
                | with_reducible refine Br.dec (fun _ => ?_) (fun _ => ?_)
                | with_reducible refine Br.beqB (fun _ => ?_) (fun _ => ?_)
                | with_reducible refine Br.beqb (fun _ => ?_) (fun _ => ?_)
                | with_reducible refine Br.mk (fun _ => ?_) (fun _ => ?_)
                | ((with_reducible refine NewB.mk fun nb hnb => ?_); have hnb1 := hnb.1.1; have hnb2 := hnb.1.2; try simp only [keys_cons, keys_nil, NotIn_cons, NotIn_nil, and_true] at hnb2)
                | ((with_reducible refine NewRow.mk fun nb nsp ncap hnb hncap => ?_); have hnb1 := hnb.1.1; have hnb2 := hnb.1.2; try simp only [keys_cons, keys_nil, NotIn_cons, NotIn_nil, and_true] at hnb2)
                | with_reducible refine Tri.drawM tok mixed [0, 2, 3, 4, 5, 6, 8, 10, 13, 28, 48] 6 [] (.op 0 .plain (.op 1 .plain (.op 2 .plain (.op 5 .plain (.op 6 .plain (.op 3 .keeps (.op 4 .keeps (.op 7 .plain (.op 8 .plain .nil))))))))) (by kernel_rfl) [] (List.nil_sublist _) ?_
                | with_reducible refine Tri.drawM tok mixed [0, 2, 3, 4, 5, 6, 8, 10, 13, 28, 48] 9 [] (.op 0 .plain (.op 1 .plain (.op 3 .plain (.op 4 .plain (.op 2 .keeps (.op 5 .keeps (.op 6 .plain (.op 7 .plain .nil)))))))) (by kernel_rfl) [] (List.nil_sublist _) ?_
                | with_reducible refine Tri.drawM tok mixed [0, 2, 3, 4, 5, 6, 8, 10, 13, 28, 48] 12 [] (.op 0 .plain (.op 1 .plain (.op 2 .plain (.op 3 .plain (.op 4 .plain (.op 5 .plain (.op 8 .plain (.op 9 .plain (.op 6 .keeps (.op 7 .keeps (.op 10 .plain (.op 11 .plain .nil)))))))))))) (by kernel_rfl) [] (List.nil_sublist _) ?_
                | simp (dsimp := false) (implicitDefEqProofs := false) (disch := first | assumption | omega | (with_reducible refine Row.adr (by assumption) ?_; simp only [List.length_map, List.length_take, List.length_drop]; omega) | (simp only [List.length_cons, List.length_nil, List.length_map, List.length_append, List.length_replicate, Nat.reduceAdd, true_and, and_true, and_self]; first | done | omega)) only [go_sem, ↓reduceIte, Nat.reduceEqDiff, Nat.reduceAdd, Nat.reduceSub, Nat.reduceMul, Nat.reduceBEq, Nat.reduceLT, Nat.reduceLeDiff, Nat.reduceMod, Nat.reducePow, List.reduceReplicate, UInt8.reduceOfNat, Int.reducePow, Int.reduceDiv, Int.reduceMod, Nat.reduceDiv, Int.reduceNeg, Int.reduceAdd, Int.reduceSub, Int.reduceMul, Int.reduceLE, Int.reduceLT, Int.reduceEq, Int.reduceToNat, decide_true, decide_false, reduceCtorEq, ne_eq, not_false_eq_true, not_true_eq_false, and_true, true_and, and_self, or_true, true_or, or_false, false_or, or_self, eq_self, Nat.zero_add, Nat.add_zero, Nat.mul_one, Nat.one_mul, Nat.zero_mul, List.length_cons, List.length_nil, List.getElem?_cons_zero, List.getElem?_cons_succ, List.map_cons, List.map_nil, List.append_nil, hp]
                | refine plain_t _ (by omega) (by omega) ?_
            all_goals exact bad e _ sub
          · have e := e1 (by simp)
            rcases hv with ⟨rfl, rfl, rfl⟩ | ⟨b, cap, sp, rfl, rfl, hcap⟩
            all_goals
              repeat' first
                | with_reducible refine Br.yes ?_
                | with_reducible refine Br.no ?_
                | with_reducible refine Br.dec (fun _ => ?_) (fun _ => ?_)
                | with_reducible refine Br.beqB (fun _ => ?_) (fun _ => ?_)
                | with_reducible refine Br.beqb (fun _ => ?_) (fun _ => ?_)
                | with_reducible refine Br.mk (fun _ => ?_) (fun _ => ?_)
                | ((with_reducible refine NewB.mk fun nb hnb => ?_); have hnb1 := hnb.1.1; have hnb2 := hnb.1.2; try simp only [keys_cons, keys_nil, NotIn_cons, NotIn_nil, and_true] at hnb2)
                | ((with_reducible refine NewRow.mk fun nb nsp ncap hnb hncap => ?_); have hnb1 := hnb.1.1; have hnb2 := hnb.1.2; try simp only [keys_cons, keys_nil, NotIn_cons, NotIn_nil, and_true] at hnb2)
                | with_reducible refine Tri.drawM tok mixed [0, 2, 3, 4, 5, 6, 8, 10, 13, 28, 48] 6 [] (.op 0 .plain (.op 1 .plain (.op 2 .plain (.op 5 .plain (.op 6 .plain (.op 3 .keeps (.op 4 .keeps (.op 7 .plain (.op 8 .plain .nil))))))))) (by kernel_rfl) [] (List.nil_sublist _) ?_
                | with_reducible refine Tri.drawM tok mixed [0, 2, 3, 4, 5, 6, 8, 10, 13, 28, 48] 9 [] (.op 0 .plain (.op 1 .plain (.op 3 .plain (.op 4 .plain (.op 2 .keeps (.op 5 .keeps (.op 6 .plain (.op 7 .plain .nil)))))))) (by kernel_rfl) [] (List.nil_sublist _) ?_
                | with_reducible refine Tri.drawM tok mixed [0, 2, 3, 4, 5, 6, 8, 10, 13, 28, 48] 12 [] (.op 0 .plain (.op 1 .plain (.op 2 .plain (.op 3 .plain (.op 4 .plain (.op 5 .plain (.op 8 .plain (.op 9 .plain (.op 6 .keeps (.op 7 .keeps (.op 10 .plain (.op 11 .plain .nil)))))))))))) (by kernel_rfl) [] (List.nil_sublist _) ?_
                | simp (dsimp := false) (implicitDefEqProofs := false) (disch := first | assumption | omega | (with_reducible refine Row.adr (by assumption) ?_; simp only [List.length_map, List.length_take, List.length_drop]; omega) | (simp only [List.length_cons, List.length_nil, List.length_map, List.length_append, List.length_replicate, Nat.reduceAdd, true_and, and_true, and_self]; first | done | omega)) only [go_sem, ↓reduceIte, Nat.reduceEqDiff, Nat.reduceAdd, Nat.reduceSub, Nat.reduceMul, Nat.reduceBEq, Nat.reduceLT, Nat.reduceLeDiff, Nat.reduceMod, Nat.reducePow, List.reduceReplicate, UInt8.reduceOfNat, Int.reducePow, Int.reduceDiv, Int.reduceMod, Nat.reduceDiv, Int.reduceNeg, Int.reduceAdd, Int.reduceSub, Int.reduceMul, Int.reduceLE, Int.reduceLT, Int.reduceEq, Int.reduceToNat, decide_true, decide_false, reduceCtorEq, ne_eq, not_false_eq_true, not_true_eq_false, and_true, true_and, and_self, or_true, true_or, or_false, false_or, or_self, eq_self, Nat.zero_add, Nat.add_zero, Nat.mul_one, Nat.one_mul, Nat.zero_mul, List.length_cons, List.length_nil, List.getElem?_cons_zero, List.getElem?_cons_succ, List.map_cons, List.map_nil, List.append_nil, hp]
                | refine plain_t _ (by omega) (by omega) ?_
            all_goals exact bad e _ sub
          · have e := e1 (by simp)
            rcases hv with ⟨rfl, rfl, rfl⟩ | ⟨b, cap, sp, rfl, rfl, hcap⟩
            all_goals
              repeat' first
                | with_reducible refine Br.yes ?_
                | with_reducible refine Br.no ?_
                | with_reducible refine Br.dec (fun _ => ?_) (fun _ => ?_)
                | with_reducible refine Br.beqB (fun _ => ?_) (fun _ => ?_)
                | with_reducible refine Br.beqb (fun _ => ?_) (fun _ => ?_)
                | with_reducible refine Br.mk (fun _ => ?_) (fun _ => ?_)
                | ((with_reducible refine NewB.mk fun nb hnb => ?_); have hnb1 := hnb.1.1; have hnb2 := hnb.1.2; try simp only [keys_cons, keys_nil, NotIn_cons, NotIn_nil, and_true] at hnb2)
                | ((with_reducible refine NewRow.mk fun nb nsp ncap hnb hncap => ?_); have hnb1 := hnb.1.1; have hnb2 := hnb.1.2; try simp only [keys_cons, keys_nil, NotIn_cons, NotIn_nil, and_true] at hnb2)
                | with_reducible refine Tri.drawM tok mixed [0, 2, 3, 4, 5, 6, 8, 10, 13, 28, 48] 6 [] (.op 0 .plain (.op 1 .plain (.op 2 .plain (.op 5 .plain (.op 6 .plain (.op 3 .keeps (.op 4 .keeps (.op 7 .plain (.op 8 .plain .nil))))))))) (by kernel_rfl) [] (List.nil_sublist _) ?_
                | with_reducible refine Tri.drawM tok mixed [0, 2, 3, 4, 5, 6, 8, 10, 13, 28, 48] 9 [] (.op 0 .plain (.op 1 .plain (.op 3 .plain (.op 4 .plain (.op 2 .keeps (.op 5 .keeps (.op 6 .plain (.op 7 .plain .nil)))))))) (by kernel_rfl) [] (List.nil_sublist _) ?_
                | with_reducible refine Tri.drawM tok mixed [0, 2, 3, 4, 5, 6, 8, 10, 13, 28, 48] 12 [] (.op 0 .plain (.op 1 .plain (.op 2 .plain (.op 3 .plain (.op 4 .plain (.op 5 .plain (.op 8 .plain (.op 9 .plain (.op 6 .keeps (.op 7 .keeps (.op 10 .plain (.op 11 .plain .nil)))))))))))) (by kernel_rfl) [] (List.nil_sublist _) ?_
                | simp (dsimp := false) (implicitDefEqProofs := false) (disch := first | assumption | omega | (with_reducible refine Row.adr (by assumption) ?_; simp only [List.length_map, List.length_take, List.length_drop]; omega) | (simp only [List.length_cons, List.length_nil, List.length_map, List.length_append, List.length_replicate, Nat.reduceAdd, true_and, and_true, and_self]; first | done | omega)) only [go_sem, ↓reduceIte, Nat.reduceEqDiff, Nat.reduceAdd, Nat.reduceSub, Nat.reduceMul, Nat.reduceBEq, Nat.reduceLT, Nat.reduceLeDiff, Nat.reduceMod, Nat.reducePow, List.reduceReplicate, UInt8.reduceOfNat, Int.reducePow, Int.reduceDiv, Int.reduceMod, Nat.reduceDiv, Int.reduceNeg, Int.reduceAdd, Int.reduceSub, Int.reduceMul, Int.reduceLE, Int.reduceLT, Int.reduceEq, Int.reduceToNat, decide_true, decide_false, reduceCtorEq, ne_eq, not_false_eq_true, not_true_eq_false, and_true, true_and, and_self, or_true, true_or, or_false, false_or, or_self, eq_self, Nat.zero_add, Nat.add_zero, Nat.mul_one, Nat.one_mul, Nat.zero_mul, List.length_cons, List.length_nil, List.getElem?_cons_zero, List.getElem?_cons_succ, List.map_cons, List.map_nil, List.append_nil, hp]
                | refine plain_t _ (by omega) (by omega) ?_
            all_goals exact bad e _ sub
          · have h1 := b1.toNat_lt
            have h2 := b2.toNat_lt
            have l1 := valueF_lo b1.toNat
            have l2 := valueF_lo b2.toNat
            have m1 := valueF_hi b1.toNat
            have m2 := valueF_hi b2.toNat
            simp only [List.length_cons] at hn hx
            rcases hv with ⟨rfl, rfl, rfl⟩ | ⟨b, cap, sp, rfl, rfl, hcap⟩
            all_goals
              repeat' first
                | with_reducible refine Br.yes ?_
                | with_reducible refine Br.no ?_
                | with_reducible refine Br.dec (fun _ => ?_) (fun _ => ?_)
                | with_reducible refine Br.beqB (fun _ => ?_) (fun _ => ?_)
                | with_reducible refine Br.beqb (fun _ => ?_) (fun _ => ?_)
                | with_reducible refine Br.mk (fun _ => ?_) (fun _ => ?_)
                | ((with_reducible refine NewB.mk fun nb hnb => ?_); have hnb1 := hnb.1.1; have hnb2 := hnb.1.2; try simp only [keys_cons, keys_nil, NotIn_cons, NotIn_nil, and_true] at hnb2)
                | ((with_reducible refine NewRow.mk fun nb nsp ncap hnb hncap => ?_); have hnb1 := hnb.1.1; have hnb2 := hnb.1.2; try simp only [keys_cons, keys_nil, NotIn_cons, NotIn_nil, and_true] at hnb2)
                | with_reducible refine Tri.drawM tok mixed [0, 2, 3, 4, 5, 6, 8, 10, 13, 28, 48] 6 [] (.op 0 .plain (.op 1 .plain (.op 2 .plain (.op 5 .plain (.op 6 .plain (.op 3 .keeps (.op 4 .keeps (.op 7 .plain (.op 8 .plain .nil))))))))) (by kernel_rfl) [] (List.nil_sublist _) ?_
                | with_reducible refine Tri.drawM tok mixed [0, 2, 3, 4, 5, 6, 8, 10, 13, 28, 48] 9 [] (.op 0 .plain (.op 1 .plain (.op 3 .plain (.op 4 .plain (.op 2 .keeps (.op 5 .keeps (.op 6 .plain (.op 7 .plain .nil)))))))) (by kernel_rfl) [] (List.nil_sublist _) ?_
                | with_reducible refine Tri.drawM tok mixed [0, 2, 3, 4, 5, 6, 8, 10, 13, 28, 48] 12 [] (.op 0 .plain (.op 1 .plain (.op 2 .plain (.op 3 .plain (.op 4 .plain (.op 5 .plain (.op 8 .plain (.op 9 .plain (.op 6 .keeps (.op 7 .keeps (.op 10 .plain (.op 11 .plain .nil)))))))))))) (by kernel_rfl) [] (List.nil_sublist _) ?_
                | simp (dsimp := false) (implicitDefEqProofs := false) (disch := first | assumption | omega | (with_reducible refine Row.adr (by assumption) ?_; simp only [List.length_map, List.length_take, List.length_drop]; omega) | (simp only [List.length_cons, List.length_nil, List.length_map, List.length_append, List.length_replicate, Nat.reduceAdd, true_and, and_true, and_self]; first | done | omega)) only [go_sem, ↓reduceIte, Nat.reduceEqDiff, Nat.reduceAdd, Nat.reduceSub, Nat.reduceMul, Nat.reduceBEq, Nat.reduceLT, Nat.reduceLeDiff, Nat.reduceMod, Nat.reducePow, List.reduceReplicate, UInt8.reduceOfNat, Int.reducePow, Int.reduceDiv, Int.reduceMod, Nat.reduceDiv, Int.reduceNeg, Int.reduceAdd, Int.reduceSub, Int.reduceMul, Int.reduceLE, Int.reduceLT, Int.reduceEq, Int.reduceToNat, decide_true, decide_false, reduceCtorEq, ne_eq, not_false_eq_true, not_true_eq_false, and_true, true_and, and_self, or_true, true_or, or_false, false_or, or_self, eq_self, Nat.zero_add, Nat.add_zero, Nat.mul_one, Nat.one_mul, Nat.zero_mul, List.length_cons, List.length_nil, List.getElem?_cons_zero, List.getElem?_cons_succ, List.map_cons, List.map_nil, List.append_nil, hp]
                | refine plain_t _ (by omega) (by omega) ?_
                | refine value_t _ (by omega) (by omega) ?_
            all_goals first
              | exact bad (uF_none4 hp r fun _ _ _ h => by first | omega | (rw [h] at *; contradiction) | contradiction | simp_all) _ sub
              | (have e := uF_some4 (h := b1) (l := b2) r (by assumption) (by omega) (by omega) (by simp [*])
                 refine next _ r nb ncap nsp _ _ e (by simp only [List.length_cons]; omega) hncap ?_ ?_
                 · rw [show byteV (hexF b1 b2) = _ from congrArg (Value.int .u8) (hexF_int (by omega) (by omega))]
                   exact (List.sublist_cons_self _ _).cons_cons _
                 · rw [show r.length + 1 + 1 + 1 + 1 - 4 = r.length from rfl, List.take_length]; rfl)
end Go.Proofs.Ytlfphenonceniaa
