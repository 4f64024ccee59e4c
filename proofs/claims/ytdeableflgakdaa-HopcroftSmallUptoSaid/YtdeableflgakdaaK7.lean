/- A part of the proof, joined of several texts: the verification layer, contracts of functions, plain law. -/
import Derived.Test.YtdeableflgakdaaK6
set_option maxHeartbeats 64000000
set_option linter.unusedSimpArgs false
set_option linter.unusedVariables false
set_option linter.unusedSectionVars false
namespace Go.Proofs.Ytdeableflgakdaa
open Go Go.V Go.Proofs
def rowN (n : Nat) (f : Nat → Nat) : List Value := (List.range n).map fun i => .int .i64 (f i : Nat)
theorem rowN_len (n : Nat) (f : Nat → Nat) : (rowN n f).length = n := by simp [rowN]
theorem rowN_at {n : Nat} (f : Nat → Nat) {i : Nat} (h : i < n) : (rowN n f)[i]? = some (.int .i64 (f i : Nat)) := by
 unfold rowN; rw [List.getElem?_map, List.getElem?_range h]; rfl
theorem rowN_get {n : Nat} (f : Nat → Nat) {sp : List Value} {i : Nat} (h : i < n) : (rowN n f ++ sp)[i]? = some (.int .i64 (f i : Nat)) := by
 rw [List.getElem?_append_left (by rw [rowN_len]; exact h), rowN_at f h]
theorem rowN_one (n : Nat) (f : Nat → Nat) : (rowN n f).all oneV = true := by simp [rowN, oneV]
theorem rowN_congr {n : Nat} {f g : Nat → Nat} (h : ∀ i, i < n → f i = g i) : rowN n f = rowN n g := by
 unfold rowN
 refine List.map_congr_left fun i hi => ?_
 rw [h i (List.mem_range.1 hi)]
theorem rowN_put {n : Nat} (f : Nat → Nat) {i : Nat} (h : i < n) (x : Nat) : splice (rowN n f) i [.int .i64 (x : Nat)] = rowN n (updN f i x) := by
 unfold splice
 apply List.ext_getElem?
 intro j
 have hl : ((rowN n f).take i).length = i := by rw [List.length_take, rowN_len]; omega
 rcases Nat.lt_or_ge j n with hj | hj
 ·rw [rowN_at _ hj]
  unfold updN
  rcases Nat.lt_trichotomy j i with g | g | g
  ·rw [List.getElem?_append_left (by rw [List.length_append, hl]; omega), List.getElem?_append_left (by omega), List.getElem?_take, if_pos g, rowN_at f hj, if_neg (by omega)]
  ·subst g
   rw [List.getElem?_append_left (by rw [List.length_append, hl]; simp), List.getElem?_append_right (by omega), if_pos rfl]
   simp [hl]
  ·rw [List.getElem?_append_right (by rw [List.length_append, hl]; simp; omega), List.getElem?_drop, if_neg (by omega)]
   simp only [List.length_append, hl, List.length_singleton]
   rw [show i + 1 + (j - (i + 1)) = j by omega, rowN_at f hj]
 ·rw [List.getElem?_eq_none (by simp [rowN_len]; omega), List.getElem?_eq_none (by rw [rowN_len]; exact hj)]
theorem rowN_of {l : List Int} {f : Nat → Nat} (h : ∀ i (hi : i < l.length), l[i] = (f i : Int)) : l.map (Value.int .i64) = rowN l.length f := by
 unfold rowN
 apply List.ext_getElem
 ·simp
 ·intro i h1 h2
  rw [List.length_map] at h1
  simp [h i h1]
theorem rowN_zero (n : Nat) : List.replicate n (Value.int .i64 0) = rowN n fun _ => 0 := by
 unfold rowN
 rw [List.map_const', List.length_range]; rfl
def Rea (a b : Nat) (f g : Nat → Nat) : Prop := ∃ σ τ : Nat → Nat, (∀ i, τ (σ i) = i) ∧ (∀ i, σ (τ i) = i) ∧ (∀ i, g i = f (σ i)) ∧ ∀ i, i < a ∨ b ≤ i → σ i = i
theorem Rea.refl (a b : Nat) (f : Nat → Nat) : Rea a b f f := ⟨id, id, fun _ => rfl, fun _ => rfl, fun _ => rfl, fun _ _ => rfl⟩
theorem Rea.trans {a b : Nat} {f g h : Nat → Nat} (h1 : Rea a b f g) (h2 : Rea a b g h) : Rea a b f h := by
 obtain ⟨σ, τ, a1, a2, a3, a4⟩ := h1
 obtain ⟨σ', τ', b1, b2, b3, b4⟩ := h2
 refine ⟨fun i => σ (σ' i), fun i => τ' (τ i), fun i => by simp only [a1, b1], fun i => by simp only [a2, b2], fun i => by rw [b3, a3], fun i hi => ?_⟩
 simp only [b4 i hi, a4 i hi]
theorem Rea.wide {a b a' b' : Nat} {f g : Nat → Nat} (h : Rea a b f g) (h1 : a' ≤ a) (h2 : b ≤ b') : Rea a' b' f g := by
 obtain ⟨σ, τ, a1, a2, a3, a4⟩ := h
 exact ⟨σ, τ, a1, a2, a3, fun i hi => a4 i (by omega)⟩
theorem Rea.out {a b : Nat} {f g : Nat → Nat} (h : Rea a b f g) {i : Nat} (hi : i < a ∨ b ≤ i) : g i = f i := by
 obtain ⟨σ, τ, a1, a2, a3, a4⟩ := h
 rw [a3, a4 i hi]
theorem Rea.from {a b : Nat} {f g : Nat → Nat} (h : Rea a b f g) {i : Nat} (h1 : a ≤ i) (h2 : i < b) : ∃ j, a ≤ j ∧ j < b ∧ g i = f j := by
 obtain ⟨σ, τ, a1, a2, a3, a4⟩ := h
 refine ⟨σ i, ?_, ?_, a3 i⟩
 ·apply Classical.byContradiction
  intro hn
  have h3 := a4 (σ i) (by omega)
  have h4 : σ i = i := by rw [← a1 (σ i), h3, a1]
  omega
 ·apply Classical.byContradiction
  intro hn
  have h3 := a4 (σ i) (by omega)
  have h4 : σ i = i := by rw [← a1 (σ i), h3, a1]
  omega
def swpN (f : Nat → Nat) (i j : Nat) : Nat → Nat := updN (updN f i (f j)) j (f i)
theorem Rea.swap {a b : Nat} (f : Nat → Nat) {i j : Nat} (h1 : a ≤ i) (h2 : i < b) (h3 : a ≤ j) (h4 : j < b) : Rea a b f (swpN f i j) := by
 have hinv : ∀ x : Nat, (if (if x = j then i else if x = i then j else x) = j then i else if (if x = j then i else if x = i then j else x) = i then j else (if x = j then i else if x = i then j else x)) = x := fun x => by
  by_cases e1 : x = j
  ·subst e1
   rw [if_pos rfl]
   by_cases e2 : i = x
   ·rw [if_pos e2, e2]
   ·rw [if_neg e2, if_pos rfl]
  ·rw [if_neg e1]
   by_cases e2 : x = i
   ·rw [if_pos e2, if_pos rfl, e2]
   ·rw [if_neg e2, if_neg e1, if_neg e2]
 refine ⟨fun x => if x = j then i else if x = i then j else x, fun x => if x = j then i else if x = i then j else x, hinv, hinv, fun x => ?_, fun x hx => ?_⟩
 ·simp only [swpN, updN]
  repeat' split
  all_goals rfl
 ·simp only
  rw [if_neg (by omega), if_neg (by omega)]
def BijN (n : Nat) (f : Nat → Nat) : Prop := ∃ p : Nat → Nat, (∀ i, i < n → f i < n ∧ p (f i) = i) ∧ ∀ s, s < n → p s < n ∧ f (p s) = s
theorem BijN.rea {n : Nat} {f g : Nat → Nat} (h : BijN n f) (hr : Rea 0 n f g) : BijN n g := by
 obtain ⟨p, h1, h2⟩ := h
 have hr2 := hr
 obtain ⟨σ, τ, a1, a2, a3, a4⟩ := hr
 have hs : ∀ i, i < n → σ i < n := fun i hi => by
  apply Classical.byContradiction
  intro hn
  have h3 := a4 (σ i) (by omega)
  have h4 : σ i = i := by rw [← a1 (σ i), h3, a1]
  omega
 have ht : ∀ i, i < n → τ i < n := fun i hi => by
  apply Classical.byContradiction
  intro hn
  have h3 := a4 (τ i) (by omega)
  rw [a2] at h3
  omega
 refine ⟨fun s => τ (p s), fun i hi => ?_, fun s hs' => ?_⟩
 ·obtain ⟨g1, g2⟩ := h1 (σ i) (hs i hi)
  rw [a3]
  exact ⟨g1, by show τ (p (f (σ i))) = i; rw [g2, a1]⟩
 ·obtain ⟨g1, g2⟩ := h2 s hs'
  exact ⟨ht _ g1, by show g (τ (p s)) = s; rw [a3, a2, g2]⟩
def SrtO (key : Nat → Int) (f : Nat → Nat) (a b : Nat) : Prop := ∀ i j, a ≤ i → i < j → j < b → key (f i) ≤ key (f j)
theorem SrtO.le {key : Nat → Int} {f : Nat → Nat} {a b : Nat} (h : SrtO key f a b) {i j : Nat} (h1 : a ≤ i) (h2 : i ≤ j) (h3 : j < b) : key (f i) ≤ key (f j) := by
 rcases Nat.lt_or_ge i j with g | g
 ·exact h i j h1 g h3
 ·obtain rfl : i = j := by omega
  exact Int.le_refl _
theorem SrtO.sub {key : Nat → Int} {f : Nat → Nat} {a b a' b' : Nat} (h : SrtO key f a b) (h1 : a ≤ a') (h2 : b' ≤ b) : SrtO key f a' b' := fun i j g1 g2 g3 => h i j (by omega) g2 (by omega)
theorem SrtO.same {key : Nat → Int} {f g : Nat → Nat} {a b : Nat} (h : SrtO key f a b) (he : ∀ i, a ≤ i → i < b → g i = f i) : SrtO key g a b := fun i j g1 g2 g3 => by
 rw [he i g1 (by omega), he j (by omega) g3]; exact h i j g1 g2 g3
theorem SrtO.small {key : Nat → Int} {f : Nat → Nat} {a b : Nat} (h : b ≤ a + 1) : SrtO key f a b := fun i j g1 g2 g3 => by omega
theorem SrtO.join {key : Nat → Int} {f : Nat → Nat} {a m b : Nat} (h1 : SrtO key f a m) (h2 : SrtO key f m b) (h3 : ∀ i j, a ≤ i → i < m → m ≤ j → j < b → key (f i) ≤ key (f j)) : SrtO key f a b := fun i j g1 g2 g3 => by
 rcases Nat.lt_or_ge j m with e | e
 ·exact h1 i j g1 g2 e
 ·rcases Nat.lt_or_ge i m with e2 | e2
  ·exact h3 i j g1 e2 e g3
  ·exact h2 i j e2 g2 g3
def upM (f : Nat → Nat) (a k : Nat) : Nat → Nat := fun x => if a ≤ x ∧ x < k then f (x + 1) else if x = k then f a else f x
theorem upM_zero (f : Nat → Nat) (a : Nat) : upM f a a = f := by
 funext x; unfold upM
 rw [if_neg (by omega)]
 by_cases e : x = a
 ·rw [if_pos e, e]
 ·rw [if_neg e]
theorem upM_succ (f : Nat → Nat) {a k : Nat} (h : a ≤ k) : swpN (upM f a k) k (k + 1) = upM f a (k + 1) := by
 funext x; unfold swpN updN upM
 by_cases e1 : x = k + 1
 ·rw [if_pos e1, if_neg (by omega), if_pos rfl, if_neg (by omega), if_pos e1]
 ·rw [if_neg e1]
  by_cases e2 : x = k
  ·rw [if_pos e2, if_neg (by omega), if_neg (by omega), if_pos (by omega), e2]
  ·rw [if_neg e2]
   by_cases e3 : a ≤ x ∧ x < k
   ·rw [if_pos e3, if_pos (by omega)]
   ·rw [if_neg e3, if_neg e2, if_neg (by omega), if_neg e1]
def dnM (f : Nat → Nat) (m k : Nat) : Nat → Nat := fun x => if k < x ∧ x ≤ m then f (x - 1) else if x = k then f m else f x
theorem dnM_zero (f : Nat → Nat) (m : Nat) : dnM f m m = f := by
 funext x; unfold dnM
 rw [if_neg (by omega)]
 by_cases e : x = m
 ·rw [if_pos e, e]
 ·rw [if_neg e]
theorem dnM_succ (f : Nat → Nat) {m k : Nat} (h : k ≤ m) (h0 : 0 < k) : swpN (dnM f m k) k (k - 1) = dnM f m (k - 1) := by
 funext x; unfold swpN updN dnM
 by_cases e1 : x = k - 1
 ·rw [if_pos e1, if_neg (by omega), if_pos rfl, if_neg (by omega), if_pos e1]
 ·rw [if_neg e1]
  by_cases e2 : x = k
  ·rw [if_pos e2, if_neg (by omega), if_neg (by omega), if_pos (by omega), e2]
  ·rw [if_neg e2]
   by_cases e3 : k < x ∧ x ≤ m
   ·rw [if_pos e3, if_pos (by omega)]
   ·rw [if_neg e3, if_neg e2, if_neg (by omega), if_neg e1]
theorem upM_rea (f : Nat → Nat) {a b : Nat} : ∀ k, a ≤ k → k < b → Rea a b f (upM f a k)
 | 0, h, h2 => by
  obtain rfl : a = 0 := by omega
  rw [upM_zero]; exact Rea.refl _ _ _
 | k + 1, h, h2 => by
  rcases Nat.lt_or_ge k a with g | g
  ·obtain rfl : a = k + 1 := by omega
   rw [upM_zero]; exact Rea.refl _ _ _
  ·rw [← upM_succ f g]
   exact (upM_rea f k g (by omega)).trans (Rea.swap _ g (by omega) (by omega) h2)
theorem dnM_rea (f : Nat → Nat) {a b m : Nat} (hm : m < b) : ∀ c k, k + c = m → a ≤ k → Rea a b f (dnM f m k)
 | 0, k, h, h2 => by
  obtain rfl : k = m := by omega
  rw [dnM_zero]; exact Rea.refl _ _ _
 | c + 1, k, h, h2 => by
  have := dnM_succ f (m := m) (k := k + 1) (by omega) (by omega)
  rw [Nat.add_sub_cancel] at this
  rw [← this]
  exact (dnM_rea f hm c (k + 1) (by omega) (by omega)).trans (Rea.swap _ (by omega) (by omega) (by omega) (by omega))
theorem upM_sorted {key : Nat → Int} {f : Nat → Nat} {a b i : Nat} (hs : SrtO key f (a + 1) b) (h1 : a + 1 ≤ i) (h2 : i ≤ b) (hlo : ∀ x, a + 1 ≤ x → x < i → key (f x) < key (f a)) (hhi : ∀ x, i ≤ x → x < b → key (f a) ≤ key (f x)) : SrtO key (upM f a (i - 1)) a b := by
 intro x y g1 g2 g3
 have ex : ∀ z, a ≤ z → z < b → (z < i - 1 ∧ upM f a (i - 1) z = f (z + 1)) ∨ (z = i - 1 ∧ upM f a (i - 1) z = f a) ∨ (i ≤ z ∧ upM f a (i - 1) z = f z) := fun z z1 z2 => by
  unfold upM
  by_cases e : a ≤ z ∧ z < i - 1
  ·exact .inl ⟨e.2, by rw [if_pos e]⟩
  ·by_cases e2 : z = i - 1
   ·exact .inr (.inl ⟨e2, by rw [if_neg e, if_pos e2]⟩)
   ·exact .inr (.inr ⟨by omega, by rw [if_neg e, if_neg e2]⟩)
 rcases ex x g1 (by omega) with ⟨a1, a2⟩ | ⟨a1, a2⟩ | ⟨a1, a2⟩ <;> rcases ex y (by omega) g3 with ⟨b1, b2⟩ | ⟨b1, b2⟩ | ⟨b1, b2⟩ <;> rw [a2, b2]
 ·exact hs _ _ (by omega) (by omega) (by omega)
 ·exact Int.le_of_lt (hlo _ (by omega) (by omega))
 ·exact Int.le_trans (Int.le_of_lt (hlo _ (by omega) (by omega))) (hhi _ b1 g3)
 ·omega
 ·omega
 ·exact hhi _ b1 g3
 ·omega
 ·omega
 ·exact hs _ _ (by omega) g2 g3
theorem dnM_sorted {key : Nat → Int} {f : Nat → Nat} {a m i : Nat} (hs : SrtO key f a m) (h1 : a ≤ i) (h2 : i ≤ m) (hlo : ∀ x, a ≤ x → x < i → key (f x) ≤ key (f m)) (hhi : ∀ x, i ≤ x → x < m → key (f m) < key (f x)) : SrtO key (dnM f m i) a (m + 1) := by
 intro x y g1 g2 g3
 have ex : ∀ z, a ≤ z → z < m + 1 → (z < i ∧ dnM f m i z = f z) ∨ (z = i ∧ dnM f m i z = f m) ∨ (i < z ∧ dnM f m i z = f (z - 1)) := fun z z1 z2 => by
  unfold dnM
  by_cases e : i < z ∧ z ≤ m
  ·exact .inr (.inr ⟨e.1, by rw [if_pos e]⟩)
  ·by_cases e2 : z = i
   ·exact .inr (.inl ⟨e2, by rw [if_neg e, if_pos e2]⟩)
   ·exact .inl ⟨by omega, by rw [if_neg e, if_neg e2]⟩
 rcases ex x g1 (by omega) with ⟨a1, a2⟩ | ⟨a1, a2⟩ | ⟨a1, a2⟩ <;> rcases ex y (by omega) g3 with ⟨b1, b2⟩ | ⟨b1, b2⟩ | ⟨b1, b2⟩ <;> rw [a2, b2]
 ·exact hs _ _ g1 g2 (by omega)
 ·exact hlo _ g1 a1
 ·exact Int.le_trans (hlo _ g1 a1) (Int.le_of_lt (hhi _ (by omega) (by omega)))
 ·omega
 ·omega
 ·exact Int.le_of_lt (hhi _ (by omega) (by omega))
 ·omega
 ·omega
 ·exact hs _ _ (by omega) (by omega) (by omega)
def InsO (key : Nat → Int) (f : Nat → Nat) (a i j : Nat) : Prop := ∀ x y, a ≤ x → x < y → y ≤ i → y ≠ j → key (f x) ≤ key (f y)
theorem InsO.start {key : Nat → Int} {f : Nat → Nat} {a i : Nat} (h : SrtO key f a i) : InsO key f a i i := fun x y h1 h2 h3 h4 => h x y h1 h2 (by omega)
theorem InsO.swap {key : Nat → Int} {f : Nat → Nat} {a i j : Nat} (h : InsO key f a i j) (ha : a < j) (hj : j ≤ i) (hlt : key (f j) < key (f (j - 1))) : InsO key (swpN f j (j - 1)) a i (j - 1) := by
 intro x y h1 h2 h3 h4
 have ev : ∀ z, swpN f j (j - 1) z = if z = j - 1 then f j else if z = j then f (j - 1) else f z := fun z => rfl
 rw [ev, ev, if_neg h4]
 by_cases e : y = j
 ·rw [if_pos e]
  by_cases e2 : x = j - 1
  ·rw [if_pos e2]; omega
  ·rw [if_neg e2, if_neg (by omega)]
   exact h x (j - 1) h1 (by omega) (by omega) (by omega)
 ·rw [if_neg e]
  by_cases e2 : x = j - 1
  ·rw [if_pos e2]
   have := h (j - 1) y (by omega) (by omega) h3 e
   omega
  ·rw [if_neg e2]
   by_cases e3 : x = j
   ·rw [if_pos e3]
    exact h (j - 1) y (by omega) (by omega) h3 e
   ·rw [if_neg e3]; exact h x y h1 h2 h3 e
theorem InsO.done {key : Nat → Int} {f : Nat → Nat} {a i j : Nat} (h : InsO key f a i j) (ha : a ≤ j) (hd : j = a ∨ key (f (j - 1)) ≤ key (f j)) : SrtO key f a (i + 1) := by
 intro x y h1 h2 h3
 by_cases e : y = j
 ·rcases hd with g | g
  ·omega
  ·subst e
   rcases Nat.lt_or_ge x (y - 1) with q | q
   ·exact Int.le_trans (h x (y - 1) h1 q (by omega) (by omega)) g
   ·rw [show x = y - 1 by omega]; exact g
 ·exact h x y h1 h2 (by omega) e
def swpR (f : Nat → Nat) (a b c : Nat) : Nat → Nat := fun x => if a ≤ x ∧ x < a + c then f (x - a + b) else if b ≤ x ∧ x < b + c then f (x - b + a) else f x
theorem swpR_zero (f : Nat → Nat) (a b : Nat) : swpR f a b 0 = f := by
 funext x; unfold swpR; rw [if_neg (by omega), if_neg (by omega)]
theorem swpR_succ (f : Nat → Nat) {a b c : Nat} (h : a + c < b) : swpN (swpR f a b c) (a + c) (b + c) = swpR f a b (c + 1) := by
 funext x; simp only [swpN, updN, swpR]
 repeat' split
 all_goals first | omega | (congr 1; omega) | rfl
def rotN (f : Nat → Nat) (a m b : Nat) : Nat → Nat := fun x => if a ≤ x ∧ x < a + (b - m) then f (x + (m - a)) else if a + (b - m) ≤ x ∧ x < b then f (x - (b - m)) else f x
theorem rotN_left (f : Nat → Nat) {m i j : Nat} (hi : i ≤ m) (hj : 0 < j) (h : j < i) : rotN (swpR f (m - i) m j) (m - (i - j)) m (m + j) = rotN f (m - i) m (m + j) := by
 funext x; unfold rotN swpR
 by_cases e1 : m - i ≤ x ∧ x < m - i + (m + j - m)
 ·rw [if_pos e1, if_neg (by omega), if_neg (by omega), if_pos (by omega)]; congr 1; omega
 ·rw [if_neg e1]
  by_cases e2 : m - i + (m + j - m) ≤ x ∧ x < m + j
  ·rw [if_pos e2]
   by_cases e3 : m - (i - j) ≤ x ∧ x < m - (i - j) + (m + j - m)
   ·rw [if_pos e3, if_neg (by omega), if_pos (by omega)]; congr 1; omega
   ·rw [if_neg e3, if_pos (by omega), if_neg (by omega), if_neg (by omega)]
  ·rw [if_neg e2, if_neg (by omega), if_neg (by omega), if_neg (by omega), if_neg (by omega)]
theorem rotN_right (f : Nat → Nat) {m i j : Nat} (hi : i ≤ m) (hj : 0 < i) (h : i < j) : rotN (swpR f (m - i) (m + j - i) i) (m - i) m (m + (j - i)) = rotN f (m - i) m (m + j) := by
 funext x; unfold rotN swpR
 by_cases e1 : m - i ≤ x ∧ x < m - i + (m + j - m)
 ·rw [if_pos e1]
  by_cases e3 : m - i ≤ x ∧ x < m - i + (m + (j - i) - m)
  ·rw [if_pos e3]
   by_cases e4 : m - i ≤ x + (m - (m - i)) ∧ x + (m - (m - i)) < m - i + i
   ·omega
   ·rw [if_neg e4, if_neg (by omega)]
  ·rw [if_neg e3, if_pos (by omega), if_pos (by omega)]; congr 1; omega
 ·rw [if_neg e1]
  by_cases e2 : m - i + (m + j - m) ≤ x ∧ x < m + j
  ·rw [if_pos e2, if_neg (by omega), if_neg (by omega), if_neg (by omega), if_pos (by omega)]; congr 1; omega
  ·rw [if_neg e2, if_neg (by omega), if_neg (by omega), if_neg (by omega), if_neg (by omega)]
theorem rotN_same (f : Nat → Nat) {m i : Nat} (hi : i ≤ m) : swpR f (m - i) m i = rotN f (m - i) m (m + i) := by
 funext x; simp only [rotN, swpR]
 repeat' split
 all_goals first | omega | (congr 1; omega) | rfl
theorem rotN_rea (f : Nat → Nat) {a m b : Nat} (h1 : a ≤ m) (h2 : m ≤ b) : Rea a b f (rotN f a m b) := by
 refine ⟨fun x => if a ≤ x ∧ x < a + (b - m) then x + (m - a) else if a + (b - m) ≤ x ∧ x < b then x - (b - m) else x, fun x => if a ≤ x ∧ x < m then x + (b - m) else if m ≤ x ∧ x < b then x - (m - a) else x, fun x => ?_, fun x => ?_, fun x => ?_, fun x hx => ?_⟩
 ·simp only
  by_cases e1 : a ≤ x ∧ x < a + (b - m)
  ·rw [if_pos e1, if_neg (by omega), if_pos (by omega)]; omega
  ·rw [if_neg e1]
   by_cases e2 : a + (b - m) ≤ x ∧ x < b
   ·rw [if_pos e2, if_pos (by omega)]; omega
   ·rw [if_neg e2, if_neg (by omega), if_neg (by omega)]
 ·simp only
  by_cases e1 : a ≤ x ∧ x < m
  ·rw [if_pos e1, if_neg (by omega), if_pos (by omega)]; omega
  ·rw [if_neg e1]
   by_cases e2 : m ≤ x ∧ x < b
   ·rw [if_pos e2, if_pos (by omega)]; omega
   ·rw [if_neg e2, if_neg (by omega), if_neg (by omega)]
 ·simp only [rotN]
  repeat' split
  all_goals rfl
 ·simp only
  rw [if_neg (by omega), if_neg (by omega)]
section merge
variable {key : Nat → Int} {f : Nat → Nat} {a m b mid s : Nat}
structure CutO (key : Nat → Int) (f : Nat → Nat) (a m b mid s : Nat) : Prop where
 sa : a ≤ s
 sm : s ≤ m
 smid : s ≤ mid
 eb : mid + m ≤ b + s
 one : ∀ x y, a ≤ x → x < s → mid + m - s ≤ y → y < b → key (f x) ≤ key (f y)
 two : ∀ x y, m ≤ x → x < mid + m - s → s ≤ y → y < m → key (f x) ≤ key (f y)
theorem cut_of (h1 : SrtO key f a m) (h2 : SrtO key f m b) {lo hi : Nat} (ham : a < m) (hmb : m < b) (hmid : mid = (a + b) / 2) (hlo : lo = if mid < m then mid + m - b else a) (hhi : hi = if mid < m then mid else m)
  (hs1 : lo ≤ s) (hs2 : s ≤ hi) (hp1 : lo < s → key (f (s - 1)) ≤ key (f (mid + m - s))) (hp2 : s < hi → key (f (mid + m - 1 - s)) ≤ key (f s)) : CutO key f a m b mid s := by
 have hab : a ≤ lo ∧ hi ≤ m ∧ hi ≤ mid ∧ mid + m ≤ b + lo ∧ lo ≤ hi := by
  by_cases e : mid < m
  ·rw [if_pos e] at hlo hhi; omega
  ·rw [if_neg e] at hlo hhi; omega
 refine ⟨by omega, by omega, by omega, by omega, fun x y g1 g2 g3 g4 => ?_, fun x y g1 g2 g3 g4 => ?_⟩
 ·rcases Nat.lt_or_ge lo s with q | q
  ·have e1 := h1.le (i := x) (j := s - 1) g1 (by omega) (by omega)
   have e2 := h2.le (i := mid + m - s) (j := y) (by omega) g3 g4
   have e3 := hp1 q
   omega
  ·by_cases e : mid < m
   ·rw [if_pos e] at hlo; omega
   ·rw [if_neg e] at hlo; omega
 ·rcases Nat.lt_or_ge s hi with q | q
  ·have e1 := h2.le (i := x) (j := mid + m - 1 - s) g1 (by omega) (by omega)
   have e2 := h1.le (i := s) (j := y) (by omega) g3 g4
   have e3 := hp2 q
   omega
  ·by_cases e : mid < m
   ·rw [if_pos e] at hhi; omega
   ·rw [if_neg e] at hhi; omega
theorem CutO.parts (h : CutO key f a m b mid s) (h1 : SrtO key f a m) (h2 : SrtO key f m b) {g : Nat → Nat} (hg : g = rotN f s m (mid + m - s)) :
  SrtO key g a s ∧ SrtO key g s mid ∧ SrtO key g mid (mid + m - s) ∧ SrtO key g (mid + m - s) b ∧ ∀ x y, a ≤ x → x < mid → mid ≤ y → y < b → key (g x) ≤ key (g y) := by
 obtain ⟨sa, sm, smid, eb, one, two⟩ := h
 have ev1 : ∀ x, x < s → g x = f x := fun x hx => by rw [hg]; unfold rotN; rw [if_neg (by omega), if_neg (by omega)]
 have ev2 : ∀ x, s ≤ x → x < mid → g x = f (x + (m - s)) := fun x hx hx2 => by rw [hg]; unfold rotN; rw [if_pos (by omega)]
 have ev3 : ∀ x, mid ≤ x → x < mid + m - s → g x = f (x - (mid + m - s - m)) := fun x hx hx2 => by rw [hg]; unfold rotN; rw [if_neg (by omega), if_pos (by omega)]
 have ev4 : ∀ x, mid + m - s ≤ x → g x = f x := fun x hx => by rw [hg]; unfold rotN; rw [if_neg (by omega), if_neg (by omega)]
 refine ⟨fun i j g1 g2 g3 => ?_, fun i j g1 g2 g3 => ?_, fun i j g1 g2 g3 => ?_, fun i j g1 g2 g3 => ?_, fun x y g1 g2 g3 g4 => ?_⟩
 ·rw [ev1 i (by omega), ev1 j g3]; exact h1 i j g1 g2 (by omega)
 ·rw [ev2 i g1 (by omega), ev2 j (by omega) g3]; exact h2 _ _ (by omega) (by omega) (by omega)
 ·rw [ev3 i g1 (by omega), ev3 j (by omega) g3]; exact h1 _ _ (by omega) (by omega) (by omega)
 ·rw [ev4 i g1, ev4 j (by omega)]; exact h2 _ _ (by omega) g2 g3
 ·rcases Nat.lt_or_ge x s with q | q
  ·rw [ev1 x q]
   rcases Nat.lt_or_ge y (mid + m - s) with r | r
   ·rw [ev3 y g3 r]; exact h1.le g1 (by omega) (by omega)
   ·rw [ev4 y r]; exact one x y g1 q r g4
  ·rw [ev2 x q g2]
   rcases Nat.lt_or_ge y (mid + m - s) with r | r
   ·rw [ev3 y g3 r]; exact two _ _ (by omega) (by omega) (by omega) (by omega)
   ·rw [ev4 y r]; exact h2.le (by omega) (by omega) g4
theorem merge_end {f1 f2 f3 : Nat → Nat} (hm1 : a ≤ mid) (hm2 : mid ≤ b) (hle : ∀ x y, a ≤ x → x < mid → mid ≤ y → y < b → key (f1 x) ≤ key (f1 y)) (r1 : Rea a mid f1 f2) (s1 : SrtO key f2 a mid) (r2 : Rea mid b f2 f3) (s2 : SrtO key f3 mid b) : SrtO key f3 a b := by
 refine SrtO.join (m := mid) (s1.same fun i g1 g2 => r2.out (.inl g2)) s2 fun i j g1 g2 g3 g4 => ?_
 rw [r2.out (.inl g2)]
 obtain ⟨j', k1, k2, k3⟩ := r2.from g3 g4
 obtain ⟨i', l1, l2, l3⟩ := r1.from g1 g2
 rw [k3, l3, r1.out (.inr k1)]
 exact hle _ _ l1 l2 k1 k2
end merge
def BlkO (key : Nat → Int) (f : Nat → Nat) (n w : Nat) : Prop := ∀ a, (∃ q, a = q * w) → SrtO key f a (min (a + w) n)
def MidO (key : Nat → Int) (f : Nat → Nat) (n w a : Nat) : Prop := (∀ c, (∃ q, c = q * w) → a ≤ c → SrtO key f c (min (c + w) n)) ∧ ∀ c, (∃ q, c = q * (2 * w)) → c < a → SrtO key f c (min (c + 2 * w) n)
theorem BlkO.start {key : Nat → Int} {f : Nat → Nat} {n w : Nat} (h : BlkO key f n w) : MidO key f n w 0 := ⟨fun c h1 _ => h c h1, fun c _ h2 => by omega⟩
theorem MidO.step {key : Nat → Int} {f g : Nat → Nat} {n w a : Nat} (h : MidO key f n w a) (ha : ∃ q, a = q * (2 * w)) (hw : 0 < w) {b : Nat} (hb : b = min (a + 2 * w) n) (hr : Rea a b f g) (hs : SrtO key g a b) : MidO key g n w (a + 2 * w) := by
 obtain ⟨q, hq⟩ := ha
 refine ⟨fun c hc h1 => ?_, fun c hc h1 => ?_⟩
 ·exact (h.1 c hc (by omega)).same fun i g1 g2 => hr.out (.inr (by omega))
 ·obtain ⟨p, hp⟩ := hc
  rcases Nat.lt_or_ge c a with e | e
  ·have hle : c + 2 * w ≤ a := by
    have : p < q := by
     apply Classical.byContradiction
     intro hn
     have := Nat.mul_le_mul_right (2 * w) (show q ≤ p by omega)
     omega
    have := Nat.mul_le_mul_right (2 * w) (show p + 1 ≤ q by omega)
    rw [Nat.succ_mul] at this
    omega
   exact (h.2 c ⟨p, hp⟩ e).same fun i g1 g2 => hr.out (.inl (by omega))
  ·have : c = a := by
    have h2 : p ≤ q := by
     apply Classical.byContradiction
     intro hn
     have := Nat.mul_le_mul_right (2 * w) (show q + 1 ≤ p by omega)
     rw [Nat.succ_mul] at this
     omega
    have h3 : q ≤ p := by
     apply Classical.byContradiction
     intro hn
     have := Nat.mul_le_mul_right (2 * w) (show p + 1 ≤ q by omega)
     rw [Nat.succ_mul] at this
     omega
    rw [hp, hq, Nat.le_antisymm h2 h3]
   subst this
   rw [← hb]; exact hs
theorem MidO.done {key : Nat → Int} {f : Nat → Nat} {n w a : Nat} (h : MidO key f n w a) (hw : 0 < w) (ha : ∃ q, a = q * (2 * w)) (hn : n ≤ a + w) : BlkO key f n (2 * w) := by
 intro c hc
 rcases Nat.lt_or_ge c a with e | e
 ·exact h.2 c hc e
 ·obtain ⟨p, hp⟩ := hc
  have h1 := h.1 c ⟨2 * p, by rw [hp, Nat.mul_comm 2 p, Nat.mul_assoc]⟩ e
  exact h1.sub (Nat.le_refl _) (by omega)
theorem BlkO.all {key : Nat → Int} {f : Nat → Nat} {n w : Nat} (h : BlkO key f n w) (hn : n ≤ w) : SrtO key f 0 n := by
 have := h 0 ⟨0, by omega⟩
 exact this.sub (Nat.le_refl _) (by omega)
end Go.Proofs.Ytdeableflgakdaa
namespace Go.Proofs.Ytdeableflgakdaa
open Go Go.V Go.Proofs
theorem Rea.lt {a b n : Nat} {f g : Nat → Nat} (h : Rea a b f g) (hb : b ≤ n) (hf : ∀ i, i < n → f i < n) : ∀ i, i < n → g i < n := fun i hi => by
 by_cases h1 : a ≤ i ∧ i < b
 ·obtain ⟨j, h2, h3, h4⟩ := h.from h1.1 h1.2
  rw [h4]; exact hf j (by omega)
 ·rw [h.out (by omega)]; exact hf i hi
theorem swapRange_t {n a b c : Nat} (h : a + c ≤ b) (hb : b + c ≤ n) (hn : n ≤ 2000000) {f : Nat → Nat} {sp : List Value} {bd cd : Nat} {vf : Value} {G : PHeap} {H : Heap} {R : Value → PHeap → Heap → Prop}
  (hR : R (.tuple #[]) G ((bd, .cells (rowN n (swpR f a b c)) sp 3) :: H)) : FnT Try.prog 104 [.slice (some ⟨bd, 0, none⟩) n cd, .int .i64 (a : Nat), .int .i64 (b : Nat), .int .i64 (c : Nat), vf] G ((bd, .cells (rowN n f) sp 3) :: H) R := by
 refine FnT.body tok [0, 1, 2, 3, 10, 13] Try.func104 rfl (by kernel_rfl) (by kernel_rfl) (by show _ ≤ 38; simp) fun hsep => ?_
 rw [Try.results104]
 have hsE := hsep
 try simp only [zzs] at hsE
 repeat (obtain ⟨hsx, hsE⟩ := hsE)
 repeat' first
  | (with_reducible first | refine Nx.go ?_ | refine Bk.go (fun _ => ?_) fun _ => ?_)
  | (with_reducible refine NewB.mk2 fun nb hnb hnb1 hnb2 => ?_; try simp only [zzn] at hnb2)
  | simp -dsimp -implicitDefEqProofs (disch := first | assumption | (simp only [zzm]; done) | omega | (try with_reducible refine Row.adr (by assumption) ?_); simp only [zzl, Nat.reduceAdd]; first | done | omega) only [go_sem, ↓reduceIte, seval]
 refine Tri.loopU tok [0, 1, 2, 3, 10, 13] (by kernel_rfl) [0, 1, 2, 3, 10] (fun q G' fr H' => ∃ i : Nat, i + q = c ∧ G' = G ∧ H' = (bd, .cells (rowN n (swpR f a b i)) sp 3) :: H ∧ fr = [(0, .slice (some ⟨bd, 0, none⟩) n cd), (1, .int .i64 (a : Nat)), (2, .int .i64 (b : Nat)), (3, .int .i64 (c : Nat)), (10, .int .i64 (i : Nat))]) (c) ?_ ?_
 ·exact Upd.now ⟨0, by omega, rfl, by rw [swpR_zero], rfl⟩
 ·rintro q G1 fr H1 hle hs1 ⟨i, hiq, rfl, rfl, rfl⟩
  have hsE := hs1
  try simp only [zzs] at hsE
  repeat (obtain ⟨hsx, hsE⟩ := hsE)
  by_cases hi : i < c
  ·have e1 : (a : Int) + (i : Int) = ((a + i : Nat) : Int) := by omega
   have e2 : (b : Int) + (i : Int) = ((b + i : Nat) : Int) := by omega
   have hg1 := rowN_get (swpR f a b i) (sp := sp) (show b + i < n by omega)
   have hg2 := rowN_get (swpR f a b i) (sp := sp) (show a + i < n by omega)
   have hp1 := rowN_put (swpR f a b i) (show a + i < n by omega) (swpR f a b i (b + i))
   have hp2 := rowN_put (updN (swpR f a b i) (a + i) (swpR f a b i (b + i))) (show b + i < n by omega) (swpR f a b i (a + i))
   have hst : updN (updN (swpR f a b i) (a + i) (swpR f a b i (b + i))) (b + i) (swpR f a b i (a + i)) = swpR f a b (i + 1) := swpR_succ f (by omega)
   rw [hst] at hp2
   repeat' first
    | (with_reducible first | refine Nx.go ?_ | refine Bk.go (fun _ => ?_) fun _ => ?_)
    | (with_reducible refine NewB.mk2 fun nb hnb hnb1 hnb2 => ?_; try simp only [zzn] at hnb2)
    | simp -dsimp -implicitDefEqProofs (disch := first | assumption | (simp only [zzm]; done) | omega | (try with_reducible refine Row.adr (by assumption) ?_); simp only [zzl, Nat.reduceAdd]; first | done | omega) only [go_sem, ↓reduceIte, seval, e1, e2, hg1, hg2, hp1, hp2, rowN_len]
    | with_reducible refine Tri.drawS tok mixed [0, 1, 2, 3, 10, 13] 3 [13, 19] (.op 0 .plain (.op 1 .plain (.op 2 .plain (.op 3 .plain (.op 4 .plain (.op 5 .plain (.op 6 .plain (.op 7 .plain (.op 8 .plain (.op 9 .plain (.op 10 .plain (.op 11 .plain (.op 12 .plain (.op 13 .held (.op 14 .plain (.op 15 .plain (.op 16 .plain (.op 17 .plain (.op 18 .plain (.op 19 .held (.op 20 .plain (.op 21 .plain (.op 22 .plain (.op 23 .plain .nil)))))))))))))))))))))))) (by kernel_rfl) [(bd, .cells (rowN n (swpR f a b i)) sp 3)] (by intro fsum; first | exact Nat.le_refl _ | (simp only [zzq]; omega)) ?_
   exact Upd.now ⟨q - 1, by omega, i + 1, by omega, rfl, rfl, rfl⟩
  ·obtain rfl : i = c := by omega
   repeat' first
    | (with_reducible first | refine Nx.go ?_ | refine Bk.go (fun _ => ?_) fun _ => ?_)
    | (with_reducible refine NewB.mk2 fun nb hnb hnb1 hnb2 => ?_; try simp only [zzn] at hnb2)
    | simp -dsimp -implicitDefEqProofs (disch := first | assumption | (simp only [zzm]; done) | omega | (try with_reducible refine Row.adr (by assumption) ?_); simp only [zzl, Nat.reduceAdd]; first | done | omega) only [go_sem, ↓reduceIte, seval]
   all_goals refine Upd.finL ?_ hR ?_
   any_goals (intro fsum; first | exact Nat.le_refl _ | (simp only [zzq]; omega))
   rfl
theorem rotate_t {n a m b : Nat} (h1 : a < m) (h2 : m < b) (hb : b ≤ n) (hn : n ≤ 2000000) {f : Nat → Nat} {sp : List Value} {bd cd : Nat} {vf : Value} {G : PHeap} {H : Heap} {R : Value → PHeap → Heap → Prop}
  (hR : R (.tuple #[]) G ((bd, .cells (rowN n (rotN f a m b)) sp 3) :: H)) : FnT Try.prog 97 [.slice (some ⟨bd, 0, none⟩) n cd, .int .i64 (a : Nat), .int .i64 (m : Nat), .int .i64 (b : Nat), vf] G ((bd, .cells (rowN n f) sp 3) :: H) R := by
 have e1 : (m : Int) - (a : Int) = ((m - a : Nat) : Int) := by omega
 have e2 : (b : Int) - (m : Int) = ((b - m : Nat) : Int) := by omega
 refine FnT.body tok [0, 1, 2, 3, 4, 10, 11, 20, 23] Try.func97 rfl (by kernel_rfl) (by kernel_rfl) (by show _ ≤ 58; simp) fun hsep => ?_
 rw [Try.results97]
 have hsE := hsep
 try simp only [zzs] at hsE
 repeat (obtain ⟨hsx, hsE⟩ := hsE)
 repeat' first
  | (with_reducible first | refine Nx.go ?_ | refine Bk.go (fun _ => ?_) fun _ => ?_)
  | (with_reducible refine NewB.mk2 fun nb hnb hnb1 hnb2 => ?_; try simp only [zzn] at hnb2)
  | simp -dsimp -implicitDefEqProofs (disch := first | assumption | (simp only [zzm]; done) | omega | (try with_reducible refine Row.adr (by assumption) ?_); simp only [zzl, Nat.reduceAdd]; first | done | omega) only [go_sem, ↓reduceIte, seval, e1, e2]
 refine Tri.loopU tok [0, 1, 2, 3, 4, 10, 11, 20, 23] (by kernel_rfl) [0, 1, 2, 3, 4, 10, 11] (fun q G' fr H' => ∃ (i j : Nat) (g : Nat → Nat), i + j = q ∧ 0 < i ∧ 0 < j ∧ i ≤ m ∧ m + j ≤ n ∧ rotN g (m - i) m (m + j) = rotN f a m b ∧ G' = G ∧ H' = (bd, .cells (rowN n g) sp 3) :: H ∧ fr = [(0, .slice (some ⟨bd, 0, none⟩) n cd), (1, .int .i64 (a : Nat)), (2, .int .i64 (m : Nat)), (3, .int .i64 (b : Nat)), (4, vf), (10, .int .i64 (i : Nat)), (11, .int .i64 (j : Nat))]) ((b - a)) ?_ ?_
 ·exact Upd.now ⟨m - a, b - m, f, by omega, by omega, by omega, by omega, by omega, by rw [show m - (m - a) = a by omega, show m + (b - m) = b by omega], rfl, rfl, rfl⟩
 ·rintro q G1 fr H1 hle hs1 ⟨i, j, g, hq, hi, hj, him, hmj, hrot, rfl, rfl, rfl⟩
  have hsE := hs1
  try simp only [zzs] at hsE
  repeat (obtain ⟨hsx, hsE⟩ := hsE)
  have e3 : (m : Int) - (i : Int) = ((m - i : Nat) : Int) := by omega
  rcases Nat.lt_trichotomy i j with hij | hij | hij
  ·have e4 : (m : Int) + (j : Int) - (i : Int) = ((m + j - i : Nat) : Int) := by omega
   have e5 : (j : Int) - (i : Int) = ((j - i : Nat) : Int) := by omega
   repeat' first
    | (with_reducible first | refine Nx.go ?_ | refine Bk.go (fun _ => ?_) fun _ => ?_)
    | (with_reducible refine NewB.mk2 fun nb hnb hnb1 hnb2 => ?_; try simp only [zzn] at hnb2)
    | simp -dsimp -implicitDefEqProofs (disch := first | assumption | (simp only [zzm]; done) | omega | (try with_reducible refine Row.adr (by assumption) ?_); simp only [zzl, Nat.reduceAdd]; first | done | omega) only [go_sem, ↓reduceIte, seval, e3, e4, e5]
    | with_reducible refine swapRange_t (by omega) (by omega) hn ?_
   exact Upd.now ⟨q - i, by omega, i, j - i, _, by omega, hi, by omega, him, by omega, by rw [rotN_right g him hi hij, hrot], rfl, rfl, rfl⟩
  ·subst hij
   rw [← hrot, ← rotN_same g him] at hR
   repeat' first
    | (with_reducible first | refine Nx.go ?_ | refine Bk.go (fun _ => ?_) fun _ => ?_)
    | (with_reducible refine NewB.mk2 fun nb hnb hnb1 hnb2 => ?_; try simp only [zzn] at hnb2)
    | simp -dsimp -implicitDefEqProofs (disch := first | assumption | (simp only [zzm]; done) | omega | (try with_reducible refine Row.adr (by assumption) ?_); simp only [zzl, Nat.reduceAdd]; first | done | omega) only [go_sem, ↓reduceIte, seval, e3]
    | with_reducible refine swapRange_t (by omega) (by omega) hn ?_
   all_goals refine Upd.finL ?_ hR ?_
   any_goals (intro fsum; first | exact Nat.le_refl _ | (simp only [zzq]; omega))
   rfl
  ·have e5 : (i : Int) - (j : Int) = ((i - j : Nat) : Int) := by omega
   repeat' first
    | (with_reducible first | refine Nx.go ?_ | refine Bk.go (fun _ => ?_) fun _ => ?_)
    | (with_reducible refine NewB.mk2 fun nb hnb hnb1 hnb2 => ?_; try simp only [zzn] at hnb2)
    | simp -dsimp -implicitDefEqProofs (disch := first | assumption | (simp only [zzm]; done) | omega | (try with_reducible refine Row.adr (by assumption) ?_); simp only [zzl, Nat.reduceAdd]; first | done | omega) only [go_sem, ↓reduceIte, seval, e3, e5]
    | with_reducible refine swapRange_t (by omega) (by omega) hn ?_
   exact Upd.now ⟨q - j, by omega, i - j, j, _, by omega, by omega, hj, by omega, hmj, by rw [rotN_left g him hj hij, hrot], rfl, rfl, rfl⟩
def CmpT (P : Program) (fid : FuncId) (cp : Value) (key : Nat → Int) (n : Nat) (bd : Nat) (sp : List Value) (G : PHeap) (H : Heap) : Prop := ∀ (x y : Nat) (g : Nat → Nat) (R : Value → PHeap → Heap → Prop), x < n → y < n → R (.int .i64 (key x - key y)) G ((bd, .cells (rowN n g) sp 3) :: H) → FnT P fid [.int .i64 (x : Nat), .int .i64 (y : Nat), cp] G ((bd, .cells (rowN n g) sp 3) :: H) R
theorem CmpT.go {P : Program} {fid : FuncId} {cp : Value} {key : Nat → Int} {n bd : Nat} {sp : List Value} {G : PHeap} {H : Heap} (hc : CmpT P fid cp key n bd sp G H) {x y : Nat} {g : Nat → Nat} {R : Value → PHeap → Heap → Prop} (hx : x < n) (hy : y < n) (hR : R (.int .i64 (key x - key y)) G ((bd, .cells (rowN n g) sp 3) :: H)) : FnT P fid [.int .i64 (x : Nat), .int .i64 (y : Nat), cp] G ((bd, .cells (rowN n g) sp 3) :: H) R := hc x y g R hx hy hR
theorem insert_t {n a b : Nat} (hab : a ≤ b) (hb : b ≤ n) (hn : n ≤ 2000000) {f : Nat → Nat} (hf : ∀ i, i < n → f i < n) {key : Nat → Int} {sp : List Value} {bd cd : Nat} {fid : FuncId} {cp : Value} {G : PHeap} {H : Heap} {R : Value → PHeap → Heap → Prop} (hc : CmpT Try.prog fid cp key n bd sp G H)
  (hR : ∀ g, Rea a b f g → SrtO key g a b → R (.tuple #[]) G ((bd, .cells (rowN n g) sp 3) :: H)) : FnT Try.prog 90 [.slice (some ⟨bd, 0, none⟩) n cd, .int .i64 (a : Nat), .int .i64 (b : Nat), .func (.func fid) #[] #[cp]] G ((bd, .cells (rowN n f) sp 3) :: H) R := by
 refine FnT.body tok [0, 1, 2, 3, 8, 9, 14, 34] Try.func90 rfl (by kernel_rfl) (by kernel_rfl) (by show _ ≤ 53; simp) fun hsep => ?_
 rw [Try.results90]
 have hsE := hsep
 try simp only [zzs] at hsE
 repeat (obtain ⟨hsx, hsE⟩ := hsE)
 repeat' first
  | (with_reducible first | refine Nx.go ?_ | refine Bk.go (fun _ => ?_) fun _ => ?_)
  | (with_reducible refine NewB.mk2 fun nb hnb hnb1 hnb2 => ?_; try simp only [zzn] at hnb2)
  | simp -dsimp -implicitDefEqProofs (disch := first | assumption | (simp only [zzm]; done) | omega | (try with_reducible refine Row.adr (by assumption) ?_); simp only [zzl, Nat.reduceAdd]; first | done | omega) only [go_sem, ↓reduceIte, seval]
 refine Tri.loopU tok [0, 1, 2, 3, 8, 9, 14, 34] (by kernel_rfl) [0, 1, 2, 3, 8] (fun q G' fr H' => ∃ (i : Nat) (g : Nat → Nat), (i - a) + q = b - a + 1 ∧ a < i ∧ (i ≤ b ∨ i = a + 1) ∧ Rea a b f g ∧ SrtO key g a i ∧ G' = G ∧ H' = (bd, .cells (rowN n g) sp 3) :: H ∧ fr = [(0, .slice (some ⟨bd, 0, none⟩) n cd), (1, .int .i64 (a : Nat)), (2, .int .i64 (b : Nat)), (3, .func (.func fid) #[] #[cp]), (8, .int .i64 (i : Nat))]) ((b - a)) ?_ ?_
 ·exact Upd.now ⟨a + 1, f, by omega, by omega, .inr rfl, Rea.refl _ _ _, SrtO.small (Nat.le_refl _), rfl, rfl, rfl⟩
 ·rintro q G1 fr H1 hle hs1 ⟨i, g, hq, hai, hib, hr, hs, rfl, rfl, rfl⟩
  have hsE := hs1
  try simp only [zzs] at hsE
  repeat (obtain ⟨hsx, hsE⟩ := hsE)
  by_cases hi : i < b
  ·repeat' first
    | (with_reducible first | refine Nx.go ?_ | refine Bk.go (fun _ => ?_) fun _ => ?_)
    | (with_reducible refine NewB.mk2 fun nb hnb hnb1 hnb2 => ?_; try simp only [zzn] at hnb2)
    | simp -dsimp -implicitDefEqProofs (disch := first | assumption | (simp only [zzm]; done) | omega | (try with_reducible refine Row.adr (by assumption) ?_); simp only [zzl, Nat.reduceAdd]; first | done | omega) only [go_sem, ↓reduceIte, seval]
   refine Tri.loopU tok [0, 1, 2, 3, 8, 9, 14, 34] (by kernel_rfl) [0, 1, 2, 3, 8, 9] (fun q2 G' fr H' => ∃ (j : Nat) (g : Nat → Nat), j = q2 ∧ a ≤ j ∧ j ≤ i ∧ Rea a b f g ∧ InsO key g a i j ∧ G' = G1 ∧ H' = (bd, .cells (rowN n g) sp 3) :: H ∧ fr = [(0, .slice (some ⟨bd, 0, none⟩) n cd), (1, .int .i64 (a : Nat)), (2, .int .i64 (b : Nat)), (3, .func (.func fid) #[] #[cp]), (8, .int .i64 (i : Nat)), (9, .int .i64 (j : Nat))]) (i) ?_ ?_
   ·exact Upd.now ⟨i, g, rfl, by omega, Nat.le_refl _, hr, InsO.start hs, rfl, rfl, rfl⟩
   ·rintro q2 G2 fr H2 hle2 hs2 ⟨j, g, rfl, haj, hji, hr, hI, rfl, rfl, rfl⟩
    have hsE := hs2
    try simp only [zzs] at hsE
    repeat (obtain ⟨hsx, hsE⟩ := hsE)
    by_cases hj : a < j
    ·have e1 : (j : Int) - 1 = ((j - 1 : Nat) : Int) := by omega
     have hg1 := rowN_get g (sp := sp) (show j < n by omega)
     have hg2 := rowN_get g (sp := sp) (show j - 1 < n by omega)
     have hf2 := hr.lt hb hf
     have hl1 := hf2 j (by omega)
     have hl2 := hf2 (j - 1) (by omega)
     by_cases hk : key (g j) < key (g (j - 1))
     ·have hp1 := rowN_put g (show j < n by omega) (g (j - 1))
      have hp2 := rowN_put (updN g j (g (j - 1))) (show j - 1 < n by omega) (g j)
      have hsw : updN (updN g j (g (j - 1))) (j - 1) (g j) = swpN g j (j - 1) := rfl
      rw [hsw] at hp2
      repeat' first
       | (with_reducible first | refine Nx.go ?_ | refine Bk.go (fun _ => ?_) fun _ => ?_)
       | (with_reducible refine NewB.mk2 fun nb hnb hnb1 hnb2 => ?_; try simp only [zzn] at hnb2)
       | simp -dsimp -implicitDefEqProofs (disch := first | assumption | (simp only [zzm]; done) | omega | (try with_reducible refine Row.adr (by assumption) ?_); simp only [zzl, Nat.reduceAdd]; first | done | omega) only [go_sem, ↓reduceIte, seval, e1, hg1, hg2, hp1, hp2, rowN_len]
       | with_reducible refine Tri.drawS tok mixed [0, 1, 2, 3, 8, 9, 14, 34] 4 [8, 13] (.op 0 .plain (.op 1 .plain (.op 2 .plain (.op 3 .plain (.op 4 .plain (.op 5 .plain (.op 6 .plain (.op 7 .plain (.op 8 .held (.op 9 .plain (.op 10 .plain (.op 11 .plain (.op 12 .plain (.op 13 .held (.op 14 .plain (.op 15 .plain (.op 16 .plain .nil))))))))))))))))) (by kernel_rfl) [(bd, .cells (rowN n g) sp 3)] (by intro fsum; first | exact Nat.le_refl _ | (simp only [zzq]; omega)) ?_
       | with_reducible refine Tri.drawS tok mixed [0, 1, 2, 3, 8, 9, 14, 34] 6 [9, 13] (.op 0 .plain (.op 1 .plain (.op 2 .plain (.op 3 .plain (.op 4 .plain (.op 5 .plain (.op 6 .plain (.op 7 .plain (.op 8 .plain (.op 9 .held (.op 10 .plain (.op 11 .plain (.op 12 .plain (.op 13 .held (.op 14 .plain (.op 15 .plain (.op 16 .plain (.op 17 .plain .nil)))))))))))))))))) (by kernel_rfl) [(bd, .cells (rowN n g) sp 3)] (by intro fsum; first | exact Nat.le_refl _ | (simp only [zzq]; omega)) ?_
       | with_reducible refine CmpT.go hc hl1 hl2 ?_
      exact Upd.now ⟨j - 1, by omega, j - 1, _, rfl, by omega, by omega, hr.trans (Rea.swap g (by omega) (by omega) (by omega) (by omega)), hI.swap hj hji hk, rfl, rfl, rfl⟩
     ·repeat' first
       | (with_reducible first | refine Nx.go ?_ | refine Bk.go (fun _ => ?_) fun _ => ?_)
       | (with_reducible refine NewB.mk2 fun nb hnb hnb1 hnb2 => ?_; try simp only [zzn] at hnb2)
       | simp -dsimp -implicitDefEqProofs (disch := first | assumption | (simp only [zzm]; done) | omega | (try with_reducible refine Row.adr (by assumption) ?_); simp only [zzl, Nat.reduceAdd]; first | done | omega) only [go_sem, ↓reduceIte, seval, e1, hg1, hg2, rowN_len]
       | with_reducible refine Tri.drawS tok mixed [0, 1, 2, 3, 8, 9, 14, 34] 4 [8, 13] (.op 0 .plain (.op 1 .plain (.op 2 .plain (.op 3 .plain (.op 4 .plain (.op 5 .plain (.op 6 .plain (.op 7 .plain (.op 8 .held (.op 9 .plain (.op 10 .plain (.op 11 .plain (.op 12 .plain (.op 13 .held (.op 14 .plain (.op 15 .plain (.op 16 .plain .nil))))))))))))))))) (by kernel_rfl) [(bd, .cells (rowN n g) sp 3)] (by intro fsum; first | exact Nat.le_refl _ | (simp only [zzq]; omega)) ?_
       | with_reducible refine CmpT.go hc hl1 hl2 ?_
      exact Upd.now ⟨q - 1, by omega, i + 1, g, by omega, by omega, .inl (by omega), hr, hI.done haj (.inr (by omega)), rfl, rfl, rfl⟩
    ·repeat' first
      | (with_reducible first | refine Nx.go ?_ | refine Bk.go (fun _ => ?_) fun _ => ?_)
      | (with_reducible refine NewB.mk2 fun nb hnb hnb1 hnb2 => ?_; try simp only [zzn] at hnb2)
      | simp -dsimp -implicitDefEqProofs (disch := first | assumption | (simp only [zzm]; done) | omega | (try with_reducible refine Row.adr (by assumption) ?_); simp only [zzl, Nat.reduceAdd]; first | done | omega) only [go_sem, ↓reduceIte, seval]
      | with_reducible refine Tri.drawS tok mixed [0, 1, 2, 3, 8, 9, 14, 34] 4 [8, 13] (.op 0 .plain (.op 1 .plain (.op 2 .plain (.op 3 .plain (.op 4 .plain (.op 5 .plain (.op 6 .plain (.op 7 .plain (.op 8 .held (.op 9 .plain (.op 10 .plain (.op 11 .plain (.op 12 .plain (.op 13 .held (.op 14 .plain (.op 15 .plain (.op 16 .plain .nil))))))))))))))))) (by kernel_rfl) [(bd, .cells (rowN n g) sp 3)] (by intro fsum; first | exact Nat.le_refl _ | (simp only [zzq]; omega)) ?_
     exact Upd.now ⟨q - 1, by omega, i + 1, g, by omega, by omega, .inl (by omega), hr, hI.done haj (.inl (by omega)), rfl, rfl, rfl⟩
  ·repeat' first
    | (with_reducible first | refine Nx.go ?_ | refine Bk.go (fun _ => ?_) fun _ => ?_)
    | (with_reducible refine NewB.mk2 fun nb hnb hnb1 hnb2 => ?_; try simp only [zzn] at hnb2)
    | simp -dsimp -implicitDefEqProofs (disch := first | assumption | (simp only [zzm]; done) | omega | (try with_reducible refine Row.adr (by assumption) ?_); simp only [zzl, Nat.reduceAdd]; first | done | omega) only [go_sem, ↓reduceIte, seval]
   all_goals refine Upd.finL ?_ (hR g hr (hs.sub (Nat.le_refl _) (by omega))) ?_
   any_goals (intro fsum; first | exact Nat.le_refl _ | (simp only [zzq]; omega))
   rfl
end Go.Proofs.Ytdeableflgakdaa
namespace Go.Proofs.Ytdeableflgakdaa
open Go Go.V Go.Proofs
theorem symA_t {n a m b : Nat} (ham : m = a + 1) (hmb : m < b) (hb : b ≤ n) (hn : n ≤ 2000000) {f : Nat → Nat} (hf : ∀ i, i < n → f i < n) {key : Nat → Int} {sp : List Value} {bd cd : Nat} {fid : FuncId} {cp : Value} {G : PHeap} {H : Heap} (hc : CmpT Try.prog fid cp key n bd sp G H) (hs : SrtO key f m b) :
  Tri Try.prog Try.f91.ntmps (piece [0, 1, 0] Try.f91) G [(0, .slice (some ⟨bd, 0, none⟩) n cd), (1, .int .i64 (a : Nat)), (2, .int .i64 (m : Nat)), (3, .int .i64 (b : Nat)), (4, .func (.func fid) #[] #[cp])] ((bd, .cells (rowN n f) sp 3) :: H) (V.onlyR fun G' l' H' => ∃ g, Rea a b f g ∧ SrtO key g a b ∧ G' = G ∧ H' = (bd, .cells (rowN n g) sp 3) :: H) := by
 have hfa := hf a (by omega)
 have hga := rowN_get f (sp := sp) (show a < n by omega)
 refine Tri.piece (f := Try.f91) rfl ?_
 refine Tri.runS tok [0, 1, 2, 3, 4, 10, 11, 12, 13, 14, 15, 16, 17, 18, 19, 20, 21, 22, 23, 24, 28, 33, 50, 58, 80, 85, 103, 110, 140, 151, 171, 185, 199, 213] (.seq .run (.seq .run (.seq .run .cut))) (by kernel_rfl) ?_
 repeat' first
  | (with_reducible first | refine Nx.go ?_ | refine Bk.go (fun _ => ?_) fun _ => ?_)
  | ((with_reducible first | refine NewB.mk2 fun nb hnb hnb1 hnb2 => ?_ | refine NewRow.mk2 fun nb nsp ncap hnb hncap hnb1 hnb2 => ?_); try simp only [zzn] at hnb2)
  | simp -dsimp -implicitDefEqProofs (disch := first | assumption | (simp only [zzm]; done) | omega | (try with_reducible refine Row.adr (by assumption) ?_); simp only [zzl, Nat.reduceAdd]; first | done | omega) only [go_sem, ↓reduceIte, seval]
 refine Tri.loopU tok [0, 1, 2, 3, 4, 10, 11, 12, 13, 14, 15, 16, 17, 18, 19, 20, 21, 22, 23, 24, 28, 33, 50, 58, 80, 85, 103, 110, 140, 151, 171, 185, 199, 213] (by kernel_rfl) [0, 1, 2, 3, 4, 10, 11] (fun q G' fr H' => ∃ (i j : Nat), j - i = q ∧ m ≤ i ∧ i ≤ j ∧ j ≤ b ∧ (∀ x, m ≤ x → x < i → key (f x) < key (f a)) ∧ (∀ x, j ≤ x → x < b → key (f a) ≤ key (f x)) ∧ G' = G ∧ H' = (bd, .cells (rowN n f) sp 3) :: H ∧ fr = [(0, .slice (some ⟨bd, 0, none⟩) n cd), (1, .int .i64 (a : Nat)), (2, .int .i64 (m : Nat)), (3, .int .i64 (b : Nat)), (4, .func (.func fid) #[] #[cp]), (10, .int .i64 (i : Nat)), (11, .int .i64 (j : Nat))]) ((b - m)) ?_ ?_
 ·exact Upd.now ⟨m, b, rfl, by omega, by omega, by omega, fun x h1 h2 => by omega, fun x h1 h2 => by omega, rfl, rfl, rfl⟩
 ·rintro q G1 fr H1 hle hs1 ⟨i, j, hq, hmi, hij, hjb, hlo, hhi, rfl, rfl, rfl⟩
  have hsE := hs1
  try simp only [zzs] at hsE
  repeat (obtain ⟨hsx, hsE⟩ := hsE)
  by_cases hlt : i < j
  ·obtain ⟨h, hh⟩ : ∃ h, h = (i + j) / 2 := ⟨_, rfl⟩
   have e1 : ((i : Int) + (j : Int)) / 2 = (h : Int) := by omega
   have hg1 := rowN_get f (sp := sp) (show h < n by omega)
   have hl1 := hf h (by omega)
   repeat' first
    | (with_reducible first | refine Nx.go ?_ | refine Bk.go (fun _ => ?_) fun _ => ?_)
    | ((with_reducible first | refine NewB.mk2 fun nb hnb hnb1 hnb2 => ?_ | refine NewRow.mk2 fun nb nsp ncap hnb hncap hnb1 hnb2 => ?_); try simp only [zzn] at hnb2)
    | simp -dsimp -implicitDefEqProofs (disch := first | assumption | (simp only [zzm]; done) | omega | (try with_reducible refine Row.adr (by assumption) ?_); simp only [zzl, Nat.reduceAdd]; first | done | omega) only [go_sem, ↓reduceIte, seval, e1, hg1, hga, rowN_len]
    | with_reducible refine Tri.drawS tok mixed [0, 1, 2, 3, 4, 10, 11, 12, 13, 14, 15, 16, 17, 18, 19, 20, 21, 22, 23, 24, 28, 33, 50, 58, 80, 85, 103, 110, 140, 151, 171, 185, 199, 213] 5 [4, 8] (.op 0 .plain (.op 1 .plain (.op 2 .plain (.op 3 .plain (.op 4 .held (.op 5 .plain (.op 6 .plain (.op 7 .plain (.op 8 .held (.op 9 .plain (.op 10 .plain .nil))))))))))) (by kernel_rfl) [(bd, .cells (rowN n f) sp 3)] (by intro fsum; first | exact Nat.le_refl _ | (simp only [zzq]; omega)) ?_
    | with_reducible refine CmpT.go hc hl1 hfa ?_
   ·rename_i hk
    exact Upd.now ⟨j - (h + 1), by omega, h + 1, j, rfl, by omega, by omega, hjb, fun x h1 h2 => by
     have := hs.le h1 (show x ≤ h by omega) (by omega)
     omega, hhi, rfl, rfl, rfl⟩
   ·rename_i hk
    exact Upd.now ⟨h - i, by omega, i, h, rfl, hmi, by omega, by omega, hlo, fun x h1 h2 => by
     have := hs.le (show m ≤ h by omega) h1 (by omega)
     omega, rfl, rfl, rfl⟩
  ·obtain rfl : i = j := by omega
   repeat' first
    | (with_reducible first | refine Nx.go ?_ | refine Bk.go (fun _ => ?_) fun _ => ?_)
    | ((with_reducible first | refine NewB.mk2 fun nb hnb hnb1 hnb2 => ?_ | refine NewRow.mk2 fun nb nsp ncap hnb hncap hnb1 hnb2 => ?_); try simp only [zzn] at hnb2)
    | simp -dsimp -implicitDefEqProofs (disch := first | assumption | (simp only [zzm]; done) | omega | (try with_reducible refine Row.adr (by assumption) ?_); simp only [zzl, Nat.reduceAdd]; first | done | omega) only [go_sem, ↓reduceIte, seval]
   refine Tri.run tok [0, 1, 2, 3, 4, 10, 11, 12, 13, 14, 15, 16, 17, 18, 19, 20, 21, 22, 23, 24, 28, 33, 50, 58, 80, 85, 103, 110, 140, 151, 171, 185, 199, 213] (by kernel_rfl) ?_
   repeat' first
    | (with_reducible first | refine Nx.go ?_ | refine Bk.go (fun _ => ?_) fun _ => ?_)
    | ((with_reducible first | refine NewB.mk2 fun nb hnb hnb1 hnb2 => ?_ | refine NewRow.mk2 fun nb nsp ncap hnb hncap hnb1 hnb2 => ?_); try simp only [zzn] at hnb2)
    | simp -dsimp -implicitDefEqProofs (disch := first | assumption | (simp only [zzm]; done) | omega | (try with_reducible refine Row.adr (by assumption) ?_); simp only [zzl, Nat.reduceAdd]; first | done | omega) only [go_sem, ↓reduceIte, seval]
   refine Tri.loopU tok [0, 1, 2, 3, 4, 10, 11, 12, 13, 14, 15, 16, 17, 18, 19, 20, 21, 22, 23, 24, 28, 33, 50, 58, 80, 85, 103, 110, 140, 151, 171, 185, 199, 213] (by kernel_rfl) [0, 10, 13] (fun q G' fr H' => ∃ k : Nat, i - 1 - k = q ∧ a ≤ k ∧ k ≤ i - 1 ∧ G' = G1 ∧ H' = (bd, .cells (rowN n (upM f a k)) sp 3) :: H ∧ fr = [(0, .slice (some ⟨bd, 0, none⟩) n cd), (10, .int .i64 (i : Nat)), (13, .int .i64 (k : Nat))]) ((i - 1 - a)) ?_ ?_
   ·exact Upd.now ⟨a, rfl, Nat.le_refl _, by omega, rfl, by rw [upM_zero], rfl⟩
   ·rintro q2 G2 fr H2 hle2 hs2 ⟨k, hq2, hak, hki, rfl, rfl, rfl⟩
    have hsE := hs2
    try simp only [zzs] at hsE
    repeat (obtain ⟨hsx, hsE⟩ := hsE)
    have e1 : (i : Int) - 1 = ((i - 1 : Nat) : Int) := by omega
    by_cases hk : k < i - 1
    ·have e2 : (k : Int) + 1 = ((k + 1 : Nat) : Int) := by omega
     have hg1 := rowN_get (upM f a k) (sp := sp) (show k < n by omega)
     have hg2 := rowN_get (upM f a k) (sp := sp) (show k + 1 < n by omega)
     have hp1 := rowN_put (upM f a k) (show k < n by omega) (upM f a k (k + 1))
     have hp2 := rowN_put (updN (upM f a k) k (upM f a k (k + 1))) (show k + 1 < n by omega) (upM f a k k)
     have hsw : updN (updN (upM f a k) k (upM f a k (k + 1))) (k + 1) (upM f a k k) = upM f a (k + 1) := upM_succ f hak
     rw [hsw] at hp2
     repeat' first
      | (with_reducible first | refine Nx.go ?_ | refine Bk.go (fun _ => ?_) fun _ => ?_)
      | ((with_reducible first | refine NewB.mk2 fun nb hnb hnb1 hnb2 => ?_ | refine NewRow.mk2 fun nb nsp ncap hnb hncap hnb1 hnb2 => ?_); try simp only [zzn] at hnb2)
      | simp -dsimp -implicitDefEqProofs (disch := first | assumption | (simp only [zzm]; done) | omega | (try with_reducible refine Row.adr (by assumption) ?_); simp only [zzl, Nat.reduceAdd]; first | done | omega) only [go_sem, ↓reduceIte, seval, e1, e2, hg1, hg2, hp1, hp2, rowN_len]
      | with_reducible refine Tri.drawS tok mixed [0, 1, 2, 3, 4, 10, 11, 12, 13, 14, 15, 16, 17, 18, 19, 20, 21, 22, 23, 24, 28, 33, 50, 58, 80, 85, 103, 110, 140, 151, 171, 185, 199, 213] 11 [9, 13] (.op 0 .plain (.op 1 .plain (.op 2 .plain (.op 3 .plain (.op 4 .plain (.op 5 .plain (.op 6 .plain (.op 7 .plain (.op 8 .plain (.op 9 .held (.op 10 .plain (.op 11 .plain (.op 12 .plain (.op 13 .held (.op 14 .plain (.op 15 .plain (.op 16 .plain (.op 17 .plain .nil)))))))))))))))))) (by kernel_rfl) [(bd, .cells (rowN n (upM f a k)) sp 3)] (by intro fsum; first | exact Nat.le_refl _ | (simp only [zzq]; omega)) ?_
     exact Upd.now ⟨i - 1 - (k + 1), by omega, k + 1, rfl, by omega, by omega, rfl, rfl, rfl⟩
    ·obtain rfl : k = i - 1 := by omega
     repeat' first
      | (with_reducible first | refine Nx.go ?_ | refine Bk.go (fun _ => ?_) fun _ => ?_)
      | ((with_reducible first | refine NewB.mk2 fun nb hnb hnb1 hnb2 => ?_ | refine NewRow.mk2 fun nb nsp ncap hnb hncap hnb1 hnb2 => ?_); try simp only [zzn] at hnb2)
      | simp -dsimp -implicitDefEqProofs (disch := first | assumption | (simp only [zzm]; done) | omega | (try with_reducible refine Row.adr (by assumption) ?_); simp only [zzl, Nat.reduceAdd]; first | done | omega) only [go_sem, ↓reduceIte, seval, e1]
     exact Upd.now ⟨_, upM_rea f (i - 1) hak (by omega), upM_sorted (hs.sub (by omega) (Nat.le_refl _)) (by omega) hjb (fun x h1 h2 => hlo x (by omega) h2) hhi, rfl, rfl⟩
theorem symB_t {n a m b : Nat} (ham : a < m) (hmb : b = m + 1) (hb : b ≤ n) (hn : n ≤ 2000000) {f : Nat → Nat} (hf : ∀ i, i < n → f i < n) {key : Nat → Int} {sp : List Value} {bd cd : Nat} {fid : FuncId} {cp : Value} {G : PHeap} {H : Heap} (hc : CmpT Try.prog fid cp key n bd sp G H) (hs : SrtO key f a m) :
  Tri Try.prog Try.f91.ntmps (piece [1, 0, 1, 0] Try.f91) G [(0, .slice (some ⟨bd, 0, none⟩) n cd), (1, .int .i64 (a : Nat)), (2, .int .i64 (m : Nat)), (3, .int .i64 (b : Nat)), (4, .func (.func fid) #[] #[cp])] ((bd, .cells (rowN n f) sp 3) :: H) (V.onlyR fun G' l' H' => ∃ g, Rea a b f g ∧ SrtO key g a b ∧ G' = G ∧ H' = (bd, .cells (rowN n g) sp 3) :: H) := by
 have hfm := hf m (by omega)
 have hgm := rowN_get f (sp := sp) (show m < n by omega)
 refine Tri.piece (f := Try.f91) rfl ?_
 refine Tri.runS tok [0, 1, 2, 3, 4, 10, 11, 12, 13, 14, 15, 16, 17, 18, 19, 20, 21, 22, 23, 24, 28, 33, 50, 58, 80, 85, 103, 110, 140, 151, 171, 185, 199, 213] (.seq .run (.seq .run (.seq .run .cut))) (by kernel_rfl) ?_
 repeat' first
  | (with_reducible first | refine Nx.go ?_ | refine Bk.go (fun _ => ?_) fun _ => ?_)
  | ((with_reducible first | refine NewB.mk2 fun nb hnb hnb1 hnb2 => ?_ | refine NewRow.mk2 fun nb nsp ncap hnb hncap hnb1 hnb2 => ?_); try simp only [zzn] at hnb2)
  | simp -dsimp -implicitDefEqProofs (disch := first | assumption | (simp only [zzm]; done) | omega | (try with_reducible refine Row.adr (by assumption) ?_); simp only [zzl, Nat.reduceAdd]; first | done | omega) only [go_sem, ↓reduceIte, seval]
 refine Tri.loopU tok [0, 1, 2, 3, 4, 10, 11, 12, 13, 14, 15, 16, 17, 18, 19, 20, 21, 22, 23, 24, 28, 33, 50, 58, 80, 85, 103, 110, 140, 151, 171, 185, 199, 213] (by kernel_rfl) [0, 1, 2, 3, 4, 14, 15] (fun q G' fr H' => ∃ (i j : Nat), j - i = q ∧ a ≤ i ∧ i ≤ j ∧ j ≤ m ∧ (∀ x, a ≤ x → x < i → key (f x) ≤ key (f m)) ∧ (∀ x, j ≤ x → x < m → key (f m) < key (f x)) ∧ G' = G ∧ H' = (bd, .cells (rowN n f) sp 3) :: H ∧ fr = [(0, .slice (some ⟨bd, 0, none⟩) n cd), (1, .int .i64 (a : Nat)), (2, .int .i64 (m : Nat)), (3, .int .i64 (b : Nat)), (4, .func (.func fid) #[] #[cp]), (14, .int .i64 (i : Nat)), (15, .int .i64 (j : Nat))]) ((m - a)) ?_ ?_
 ·exact Upd.now ⟨a, m, rfl, by omega, by omega, by omega, fun x h1 h2 => by omega, fun x h1 h2 => by omega, rfl, rfl, rfl⟩
 ·rintro q G1 fr H1 hle hs1 ⟨i, j, hq, hmi, hij, hjb, hlo, hhi, rfl, rfl, rfl⟩
  have hsE := hs1
  try simp only [zzs] at hsE
  repeat (obtain ⟨hsx, hsE⟩ := hsE)
  by_cases hlt : i < j
  ·obtain ⟨h, hh⟩ : ∃ h, h = (i + j) / 2 := ⟨_, rfl⟩
   have e1 : ((i : Int) + (j : Int)) / 2 = (h : Int) := by omega
   have hg1 := rowN_get f (sp := sp) (show h < n by omega)
   have hl1 := hf h (by omega)
   repeat' first
    | (with_reducible first | refine Nx.go ?_ | refine Bk.go (fun _ => ?_) fun _ => ?_)
    | ((with_reducible first | refine NewB.mk2 fun nb hnb hnb1 hnb2 => ?_ | refine NewRow.mk2 fun nb nsp ncap hnb hncap hnb1 hnb2 => ?_); try simp only [zzn] at hnb2)
    | simp -dsimp -implicitDefEqProofs (disch := first | assumption | (simp only [zzm]; done) | omega | (try with_reducible refine Row.adr (by assumption) ?_); simp only [zzl, Nat.reduceAdd]; first | done | omega) only [go_sem, ↓reduceIte, seval, e1, hg1, hgm, rowN_len]
    | with_reducible refine Tri.drawS tok mixed [0, 1, 2, 3, 4, 10, 11, 12, 13, 14, 15, 16, 17, 18, 19, 20, 21, 22, 23, 24, 28, 33, 50, 58, 80, 85, 103, 110, 140, 151, 171, 185, 199, 213] 17 [4, 8] (.op 0 .plain (.op 1 .plain (.op 2 .plain (.op 3 .plain (.op 4 .held (.op 5 .plain (.op 6 .plain (.op 7 .plain (.op 8 .held (.op 9 .plain (.op 10 .plain (.op 11 .plain .nil)))))))))))) (by kernel_rfl) [(bd, .cells (rowN n f) sp 3)] (by intro fsum; first | exact Nat.le_refl _ | (simp only [zzq]; omega)) ?_
    | with_reducible refine CmpT.go hc hfm hl1 ?_
   all_goals
    rename_i hk
    first
    | exact Upd.now ⟨j - (h + 1), by omega, h + 1, j, rfl, by omega, by omega, hjb, fun x h1 h2 => by
      have := hs.le h1 (show x ≤ h by omega) (by omega)
      omega, hhi, rfl, rfl, rfl⟩
    | exact Upd.now ⟨h - i, by omega, i, h, rfl, hmi, by omega, by omega, hlo, fun x h1 h2 => by
      have := hs.le (show a ≤ h by omega) h1 (by omega)
      omega, rfl, rfl, rfl⟩
  ·obtain rfl : i = j := by omega
   repeat' first
    | (with_reducible first | refine Nx.go ?_ | refine Bk.go (fun _ => ?_) fun _ => ?_)
    | ((with_reducible first | refine NewB.mk2 fun nb hnb hnb1 hnb2 => ?_ | refine NewRow.mk2 fun nb nsp ncap hnb hncap hnb1 hnb2 => ?_); try simp only [zzn] at hnb2)
    | simp -dsimp -implicitDefEqProofs (disch := first | assumption | (simp only [zzm]; done) | omega | (try with_reducible refine Row.adr (by assumption) ?_); simp only [zzl, Nat.reduceAdd]; first | done | omega) only [go_sem, ↓reduceIte, seval]
   refine Tri.run tok [0, 1, 2, 3, 4, 10, 11, 12, 13, 14, 15, 16, 17, 18, 19, 20, 21, 22, 23, 24, 28, 33, 50, 58, 80, 85, 103, 110, 140, 151, 171, 185, 199, 213] (by kernel_rfl) ?_
   repeat' first
    | (with_reducible first | refine Nx.go ?_ | refine Bk.go (fun _ => ?_) fun _ => ?_)
    | ((with_reducible first | refine NewB.mk2 fun nb hnb hnb1 hnb2 => ?_ | refine NewRow.mk2 fun nb nsp ncap hnb hncap hnb1 hnb2 => ?_); try simp only [zzn] at hnb2)
    | simp -dsimp -implicitDefEqProofs (disch := first | assumption | (simp only [zzm]; done) | omega | (try with_reducible refine Row.adr (by assumption) ?_); simp only [zzl, Nat.reduceAdd]; first | done | omega) only [go_sem, ↓reduceIte, seval]
   refine Tri.loopU tok [0, 1, 2, 3, 4, 10, 11, 12, 13, 14, 15, 16, 17, 18, 19, 20, 21, 22, 23, 24, 28, 33, 50, 58, 80, 85, 103, 110, 140, 151, 171, 185, 199, 213] (by kernel_rfl) [0, 14, 17] (fun q G' fr H' => ∃ k : Nat, k - i = q ∧ i ≤ k ∧ k ≤ m ∧ G' = G1 ∧ H' = (bd, .cells (rowN n (dnM f m k)) sp 3) :: H ∧ fr = [(0, .slice (some ⟨bd, 0, none⟩) n cd), (14, .int .i64 (i : Nat)), (17, .int .i64 (k : Nat))]) ((m - i)) ?_ ?_
   ·exact Upd.now ⟨m, rfl, by omega, Nat.le_refl _, rfl, by rw [dnM_zero], rfl⟩
   ·rintro q2 G2 fr H2 hle2 hs2 ⟨k, hq2, hik, hkm, rfl, rfl, rfl⟩
    have hsE := hs2
    try simp only [zzs] at hsE
    repeat (obtain ⟨hsx, hsE⟩ := hsE)
    by_cases hk : i < k
    ·have e2 : (k : Int) - 1 = ((k - 1 : Nat) : Int) := by omega
     have hg1 := rowN_get (dnM f m k) (sp := sp) (show k < n by omega)
     have hg2 := rowN_get (dnM f m k) (sp := sp) (show k - 1 < n by omega)
     have hp1 := rowN_put (dnM f m k) (show k < n by omega) (dnM f m k (k - 1))
     have hp2 := rowN_put (updN (dnM f m k) k (dnM f m k (k - 1))) (show k - 1 < n by omega) (dnM f m k k)
     have hsw : updN (updN (dnM f m k) k (dnM f m k (k - 1))) (k - 1) (dnM f m k k) = dnM f m (k - 1) := dnM_succ f hkm (by omega)
     rw [hsw] at hp2
     repeat' first
      | (with_reducible first | refine Nx.go ?_ | refine Bk.go (fun _ => ?_) fun _ => ?_)
      | ((with_reducible first | refine NewB.mk2 fun nb hnb hnb1 hnb2 => ?_ | refine NewRow.mk2 fun nb nsp ncap hnb hncap hnb1 hnb2 => ?_); try simp only [zzn] at hnb2)
      | simp -dsimp -implicitDefEqProofs (disch := first | assumption | (simp only [zzm]; done) | omega | (try with_reducible refine Row.adr (by assumption) ?_); simp only [zzl, Nat.reduceAdd]; first | done | omega) only [go_sem, ↓reduceIte, seval, e2, hg1, hg2, hp1, hp2, rowN_len]
      | with_reducible refine Tri.drawS tok mixed [0, 1, 2, 3, 4, 10, 11, 12, 13, 14, 15, 16, 17, 18, 19, 20, 21, 22, 23, 24, 28, 33, 50, 58, 80, 85, 103, 110, 140, 151, 171, 185, 199, 213] 23 [9, 13] (.op 0 .plain (.op 1 .plain (.op 2 .plain (.op 3 .plain (.op 4 .plain (.op 5 .plain (.op 6 .plain (.op 7 .plain (.op 8 .plain (.op 9 .held (.op 10 .plain (.op 11 .plain (.op 12 .plain (.op 13 .held (.op 14 .plain (.op 15 .plain (.op 16 .plain (.op 17 .plain .nil)))))))))))))))))) (by kernel_rfl) [(bd, .cells (rowN n (dnM f m k)) sp 3)] (by intro fsum; first | exact Nat.le_refl _ | (simp only [zzq]; omega)) ?_
     exact Upd.now ⟨k - 1 - i, by omega, k - 1, rfl, by omega, by omega, rfl, rfl, rfl⟩
    ·obtain rfl : i = k := by omega
     have hend := dnM_sorted hs hmi hjb hlo hhi
     rw [← hmb] at hend
     repeat' first
      | (with_reducible first | refine Nx.go ?_ | refine Bk.go (fun _ => ?_) fun _ => ?_)
      | ((with_reducible first | refine NewB.mk2 fun nb hnb hnb1 hnb2 => ?_ | refine NewRow.mk2 fun nb nsp ncap hnb hncap hnb1 hnb2 => ?_); try simp only [zzn] at hnb2)
      | simp -dsimp -implicitDefEqProofs (disch := first | assumption | (simp only [zzm]; done) | omega | (try with_reducible refine Row.adr (by assumption) ?_); simp only [zzl, Nat.reduceAdd]; first | done | omega) only [go_sem, ↓reduceIte, seval]
     exact Upd.now ⟨_, dnM_rea f (by omega) (m - i) i (by omega) hmi, hend, rfl, rfl⟩
theorem symS_t {n a m b mid : Nat} (ham : a < m) (hmb : m < b) (hmid : mid = (a + b) / 2) (hb : b ≤ n) (hn : n ≤ 2000000) {f : Nat → Nat} (hf : ∀ i, i < n → f i < n) {key : Nat → Int} {sp : List Value} {bd cd : Nat} {fid : FuncId} {cp : Value} {G : PHeap} {H : Heap} (hc : CmpT Try.prog fid cp key n bd sp G H) (hs1 : SrtO key f a m) (hs2 : SrtO key f m b) {lo hi : Nat} (hlo : lo = if mid < m then mid + m - b else a) (hhi : hi = if mid < m then mid else m) :
  Tri Try.prog Try.f91.ntmps (piece [1, 1, 1, 1, 1, 1, 1, 0] Try.f91) G [(0, .slice (some ⟨bd, 0, none⟩) n cd), (1, .int .i64 (a : Nat)), (2, .int .i64 (m : Nat)), (3, .int .i64 (b : Nat)), (4, .func (.func fid) #[] #[cp]), (18, .int .i64 (mid : Nat)), (19, .int .i64 ((mid + m : Nat) : Int)), (20, .int .i64 (lo : Nat)), (21, .int .i64 (hi : Nat)), (22, .int .i64 ((mid + m - 1 : Nat) : Int))] ((bd, .cells (rowN n f) sp 3) :: H) (onlyN fun G' fr' H' => ∃ s, CutO key f a m b mid s ∧ G' = G ∧ restrict [0, 1, 2, 3, 4, 18, 19, 20] fr' = [(0, .slice (some ⟨bd, 0, none⟩) n cd), (1, .int .i64 (a : Nat)), (2, .int .i64 (m : Nat)), (3, .int .i64 (b : Nat)), (4, .func (.func fid) #[] #[cp]), (18, .int .i64 (mid : Nat)), (19, .int .i64 ((mid + m : Nat) : Int)), (20, .int .i64 (s : Nat))] ∧ H' = (bd, .cells (rowN n f) sp 3) :: H) := by
 have hab : a ≤ lo ∧ hi ≤ m ∧ hi ≤ mid ∧ mid + m ≤ b + lo ∧ lo ≤ hi := by
  by_cases e : mid < m
  ·rw [if_pos e] at hlo hhi; omega
  ·rw [if_neg e] at hlo hhi; omega
 have hcut := fun s => cut_of (s := s) hs1 hs2 ham hmb hmid hlo hhi
 clear hlo hhi
 refine Tri.piece (f := Try.f91) rfl ?_
 refine Tri.run tok [0, 1, 2, 3, 4, 10, 11, 12, 13, 14, 15, 16, 17, 18, 19, 20, 21, 22, 23, 24, 28, 33, 50, 58, 80, 85, 103, 110, 140, 151, 171, 185, 199, 213] (by kernel_rfl) ?_
 repeat' first
  | (with_reducible first | refine Nx.go ?_ | refine Bk.go (fun _ => ?_) fun _ => ?_)
  | ((with_reducible first | refine NewB.mk2 fun nb hnb hnb1 hnb2 => ?_ | refine NewRow.mk2 fun nb nsp ncap hnb hncap hnb1 hnb2 => ?_); try simp only [zzn] at hnb2)
  | simp -dsimp -implicitDefEqProofs (disch := first | assumption | (simp only [zzm]; done) | omega | (try with_reducible refine Row.adr (by assumption) ?_); simp only [zzl, Nat.reduceAdd]; first | done | omega) only [go_sem, ↓reduceIte, seval]
 refine Tri.loopU tok [0, 1, 2, 3, 4, 10, 11, 12, 13, 14, 15, 16, 17, 18, 19, 20, 21, 22, 23, 24, 28, 33, 50, 58, 80, 85, 103, 110, 140, 151, 171, 185, 199, 213] (by kernel_rfl) [0, 1, 2, 3, 4, 18, 19, 20, 21, 22] (fun q G' fr H' => ∃ (i j : Nat), j - i = q ∧ lo ≤ i ∧ i ≤ j ∧ j ≤ hi ∧ (lo < i → key (f (i - 1)) ≤ key (f (mid + m - i))) ∧ (j < hi → key (f (mid + m - 1 - j)) ≤ key (f j)) ∧ G' = G ∧ H' = (bd, .cells (rowN n f) sp 3) :: H ∧ fr = [(0, .slice (some ⟨bd, 0, none⟩) n cd), (1, .int .i64 (a : Nat)), (2, .int .i64 (m : Nat)), (3, .int .i64 (b : Nat)), (4, .func (.func fid) #[] #[cp]), (18, .int .i64 (mid : Nat)), (19, .int .i64 ((mid + m : Nat) : Int)), (20, .int .i64 (i : Nat)), (21, .int .i64 (j : Nat)), (22, .int .i64 ((mid + m - 1 : Nat) : Int))]) ((hi - lo)) ?_ ?_
 ·exact Upd.now ⟨lo, hi, rfl, Nat.le_refl _, by omega, Nat.le_refl _, fun h => by omega, fun h => by omega, rfl, rfl, rfl⟩
 ·rintro q G1 fr H1 hle hsx ⟨i, j, hq, hli, hij, hjh, hp1, hp2, rfl, rfl, rfl⟩
  have hsE := hsx
  try simp only [zzs] at hsE
  repeat (obtain ⟨hsx, hsE⟩ := hsE)
  by_cases hlt : i < j
  ·obtain ⟨c, hc2⟩ : ∃ c, c = (i + j) / 2 := ⟨_, rfl⟩
   have e1 : ((i : Int) + (j : Int)) / 2 = (c : Int) := by omega
   have e2 : ((mid + m - 1 : Nat) : Int) - (c : Int) = ((mid + m - 1 - c : Nat) : Int) := by omega
   have hg1 := rowN_get f (sp := sp) (show c < n by omega)
   have hg2 := rowN_get f (sp := sp) (show mid + m - 1 - c < n by omega)
   have hl1 := hf c (by omega)
   have hl2 := hf (mid + m - 1 - c) (by omega)
   repeat' first
    | (with_reducible first | refine Nx.go ?_ | refine Bk.go (fun _ => ?_) fun _ => ?_)
    | ((with_reducible first | refine NewB.mk2 fun nb hnb hnb1 hnb2 => ?_ | refine NewRow.mk2 fun nb nsp ncap hnb hncap hnb1 hnb2 => ?_); try simp only [zzn] at hnb2)
    | simp -dsimp -implicitDefEqProofs (disch := first | assumption | (simp only [zzm]; done) | omega | (try with_reducible refine Row.adr (by assumption) ?_); simp only [zzl, Nat.reduceAdd]; first | done | omega) only [go_sem, ↓reduceIte, seval, e1, e2, hg1, hg2, rowN_len]
    | with_reducible refine Tri.drawS tok mixed [0, 1, 2, 3, 4, 10, 11, 12, 13, 14, 15, 16, 17, 18, 19, 20, 21, 22, 23, 24, 28, 33, 50, 58, 80, 85, 103, 110, 140, 151, 171, 185, 199, 213] 35 [6, 10] (.op 0 .plain (.op 1 .plain (.op 2 .plain (.op 3 .plain (.op 4 .plain (.op 5 .plain (.op 6 .held (.op 7 .plain (.op 8 .plain (.op 9 .plain (.op 10 .held (.op 11 .plain (.op 12 .plain (.op 13 .plain .nil)))))))))))))) (by kernel_rfl) [(bd, .cells (rowN n f) sp 3)] (by intro fsum; first | exact Nat.le_refl _ | (simp only [zzq]; omega)) ?_
    | with_reducible refine CmpT.go hc hl2 hl1 ?_
   all_goals
    rename_i hk
    first
    | exact Upd.now ⟨j - (c + 1), by omega, c + 1, j, rfl, by omega, by omega, hjh, fun _ => by rw [show mid + m - (c + 1) = mid + m - 1 - c by omega, Nat.add_sub_cancel]; omega, hp2, rfl, rfl, rfl⟩
    | exact Upd.now ⟨c - i, by omega, i, c, rfl, hli, by omega, by omega, hp1, fun _ => by omega, rfl, rfl, rfl⟩
  ·obtain rfl : i = j := by omega
   repeat' first
    | (with_reducible first | refine Nx.go ?_ | refine Bk.go (fun _ => ?_) fun _ => ?_)
    | ((with_reducible first | refine NewB.mk2 fun nb hnb hnb1 hnb2 => ?_ | refine NewRow.mk2 fun nb nsp ncap hnb hncap hnb1 hnb2 => ?_); try simp only [zzn] at hnb2)
    | simp -dsimp -implicitDefEqProofs (disch := first | assumption | (simp only [zzm]; done) | omega | (try with_reducible refine Row.adr (by assumption) ?_); simp only [zzl, Nat.reduceAdd]; first | done | omega) only [go_sem, ↓reduceIte, seval]
   exact Upd.now ⟨i, hcut i hli hjh hp1 hp2, rfl, rfl, rfl⟩
end Go.Proofs.Ytdeableflgakdaa
namespace Go.Proofs.Ytdeableflgakdaa
open Go Go.V Go.Proofs
theorem rotN_none (f : Nat → Nat) {s m e : Nat} (h : s = m ∨ m = e) : rotN f s m e = f := by
 funext x; simp only [rotN]
 repeat' split
 all_goals first | omega | (congr 1; omega) | rfl
def SymT (P : Program) (fm fid : FuncId) (cp : Value) (key : Nat → Int) (n bd cd : Nat) (sp : List Value) (G : PHeap) (H : Heap) (a m b : Nat) : Prop := ∀ (f : Nat → Nat) (R : Value → PHeap → Heap → Prop), a < m → m < b → b ≤ n → (∀ i, i < n → f i < n) → SrtO key f a m → SrtO key f m b →
 (∀ g, Rea a b f g → SrtO key g a b → R (.tuple #[]) G ((bd, .cells (rowN n g) sp 3) :: H)) → FnT P fm [.slice (some ⟨bd, 0, none⟩) n cd, .int .i64 (a : Nat), .int .i64 (m : Nat), .int .i64 (b : Nat), .func (.func fid) #[] #[cp]] G ((bd, .cells (rowN n f) sp 3) :: H) R
theorem SymT.go {P : Program} {fm fid : FuncId} {cp : Value} {key : Nat → Int} {n bd cd : Nat} {sp : List Value} {G : PHeap} {H : Heap} {a m b : Nat} (h : SymT P fm fid cp key n bd cd sp G H a m b) {f : Nat → Nat} {R : Value → PHeap → Heap → Prop} (h1 : a < m) (h2 : m < b) (h3 : b ≤ n) (h4 : ∀ i, i < n → f i < n) (h5 : SrtO key f a m) (h6 : SrtO key f m b)
 (hR : ∀ g, Rea a b f g → SrtO key g a b → R (.tuple #[]) G ((bd, .cells (rowN n g) sp 3) :: H)) : FnT P fm [.slice (some ⟨bd, 0, none⟩) n cd, .int .i64 (a : Nat), .int .i64 (m : Nat), .int .i64 (b : Nat), .func (.func fid) #[] #[cp]] G ((bd, .cells (rowN n f) sp 3) :: H) R := h f R h1 h2 h3 h4 h5 h6 hR
theorem symX_t {n a m b mid s e : Nat} (hm : m ≤ e) (hsm : s ≤ m) (he : e ≤ n) (hn : n ≤ 2000000) {f : Nat → Nat} {sp : List Value} {bd cd : Nat} {vf : Value} {G : PHeap} {H : Heap} :
  Tri Try.prog Try.f91.ntmps (piece [1, 1, 1, 1, 1, 1, 1, 1, 1, 0] Try.f91) G [(0, .slice (some ⟨bd, 0, none⟩) n cd), (1, .int .i64 (a : Nat)), (2, .int .i64 (m : Nat)), (3, .int .i64 (b : Nat)), (4, vf), (18, .int .i64 (mid : Nat)), (20, .int .i64 (s : Nat)), (24, .int .i64 (e : Nat))] ((bd, .cells (rowN n f) sp 3) :: H) (onlyN fun G' fr' H' => G' = G ∧ restrict [0, 1, 3, 4, 18, 20, 24] fr' = [(0, .slice (some ⟨bd, 0, none⟩) n cd), (1, .int .i64 (a : Nat)), (3, .int .i64 (b : Nat)), (4, vf), (18, .int .i64 (mid : Nat)), (20, .int .i64 (s : Nat)), (24, .int .i64 (e : Nat))] ∧ H' = (bd, .cells (rowN n (rotN f s m e)) sp 3) :: H) := by
 refine Tri.sepT fun hs0 => ?_
 have hsE := hs0
 try simp only [zzs] at hsE
 repeat (obtain ⟨hsx, hsE⟩ := hsE)
 by_cases h1 : s < m ∧ m < e
 ·obtain ⟨h1, h2⟩ := h1
  refine Tri.piece (f := Try.f91) rfl ?_
  refine Tri.run tok [0, 1, 2, 3, 4, 10, 11, 12, 13, 14, 15, 16, 17, 18, 19, 20, 21, 22, 23, 24, 28, 33, 50, 58, 80, 85, 103, 110, 140, 151, 171, 185, 199, 213] (by kernel_rfl) ?_
  repeat' first
   | (with_reducible first | refine Nx.go ?_ | refine Bk.go (fun _ => ?_) fun _ => ?_)
   | ((with_reducible first | refine NewB.mk2 fun nb hnb hnb1 hnb2 => ?_ | refine NewRow.mk2 fun nb nsp ncap hnb hncap hnb1 hnb2 => ?_); try simp only [zzn] at hnb2)
   | simp -dsimp -implicitDefEqProofs (disch := first | assumption | (simp only [zzm]; done) | omega | (try with_reducible refine Row.adr (by assumption) ?_); simp only [zzl, Nat.reduceAdd]; first | done | omega) only [go_sem, ↓reduceIte, seval]
   | with_reducible refine rotate_t h1 h2 he hn ?_
  exact Upd.now ⟨rfl, rfl, rfl⟩
 ·have h2 : s = m ∨ m = e := by omega
  rw [rotN_none f h2]
  refine Tri.piece (f := Try.f91) rfl ?_
  refine Tri.run tok [0, 1, 2, 3, 4, 10, 11, 12, 13, 14, 15, 16, 17, 18, 19, 20, 21, 22, 23, 24, 28, 33, 50, 58, 80, 85, 103, 110, 140, 151, 171, 185, 199, 213] (by kernel_rfl) ?_
  repeat' first
   | (with_reducible first | refine Nx.go ?_ | refine Bk.go (fun _ => ?_) fun _ => ?_)
   | ((with_reducible first | refine NewB.mk2 fun nb hnb hnb1 hnb2 => ?_ | refine NewRow.mk2 fun nb nsp ncap hnb hncap hnb1 hnb2 => ?_); try simp only [zzn] at hnb2)
   | simp -dsimp -implicitDefEqProofs (disch := first | assumption | (simp only [zzm]; done) | omega | (try with_reducible refine Row.adr (by assumption) ?_); simp only [zzl, Nat.reduceAdd]; first | done | omega) only [go_sem, ↓reduceIte, seval]
  all_goals first | (exfalso; omega) | exact Upd.now ⟨rfl, rfl, rfl⟩
theorem symY_t {n a b mid s e : Nat} (has : a ≤ s) (hsm : s ≤ mid) (he : mid ≤ n) (hn : n ≤ 2000000) {f : Nat → Nat} (hf : ∀ i, i < n → f i < n) {key : Nat → Int} {sp : List Value} {bd cd : Nat} {fid : FuncId} {cp : Value} {G : PHeap} {H : Heap} (hI : SymT Try.prog 91 fid cp key n bd cd sp G H a s mid) (hs1 : SrtO key f a s) (hs2 : SrtO key f s mid) :
  Tri Try.prog Try.f91.ntmps (piece [1, 1, 1, 1, 1, 1, 1, 1, 1, 1, 0] Try.f91) G [(0, .slice (some ⟨bd, 0, none⟩) n cd), (1, .int .i64 (a : Nat)), (3, .int .i64 (b : Nat)), (4, .func (.func fid) #[] #[cp]), (18, .int .i64 (mid : Nat)), (20, .int .i64 (s : Nat)), (24, .int .i64 (e : Nat))] ((bd, .cells (rowN n f) sp 3) :: H) (onlyN fun G' fr' H' => ∃ g, Rea a mid f g ∧ SrtO key g a mid ∧ G' = G ∧ restrict [0, 3, 4, 18, 24] fr' = [(0, .slice (some ⟨bd, 0, none⟩) n cd), (3, .int .i64 (b : Nat)), (4, .func (.func fid) #[] #[cp]), (18, .int .i64 (mid : Nat)), (24, .int .i64 (e : Nat))] ∧ H' = (bd, .cells (rowN n g) sp 3) :: H) := by
 refine Tri.sepT fun hs0 => ?_
 have hsE := hs0
 try simp only [zzs] at hsE
 repeat (obtain ⟨hsx, hsE⟩ := hsE)
 by_cases h1 : a < s ∧ s < mid
 ·obtain ⟨h1, h2⟩ := h1
  refine Tri.piece (f := Try.f91) rfl ?_
  refine Tri.run tok [0, 1, 2, 3, 4, 10, 11, 12, 13, 14, 15, 16, 17, 18, 19, 20, 21, 22, 23, 24, 28, 33, 50, 58, 80, 85, 103, 110, 140, 151, 171, 185, 199, 213] (by kernel_rfl) ?_
  repeat' first
   | (with_reducible first | refine Nx.go ?_ | refine Bk.go (fun _ => ?_) fun _ => ?_)
   | ((with_reducible first | refine NewB.mk2 fun nb hnb hnb1 hnb2 => ?_ | refine NewRow.mk2 fun nb nsp ncap hnb hncap hnb1 hnb2 => ?_); try simp only [zzn] at hnb2)
   | simp -dsimp -implicitDefEqProofs (disch := first | assumption | (simp only [zzm]; done) | omega | (try with_reducible refine Row.adr (by assumption) ?_); simp only [zzl, Nat.reduceAdd]; first | done | omega) only [go_sem, ↓reduceIte, seval]
   | with_reducible refine SymT.go hI h1 h2 he hf hs1 hs2 fun g hr hs => ?_
  exact Upd.now ⟨g, hr, hs, rfl, rfl, rfl⟩
 ·have hend : SrtO key f a mid := by
   rcases (show a = s ∨ s = mid by omega) with h2 | h2
   ·rw [h2]; exact hs2
   ·rw [← h2]; exact hs1
  refine Tri.piece (f := Try.f91) rfl ?_
  refine Tri.run tok [0, 1, 2, 3, 4, 10, 11, 12, 13, 14, 15, 16, 17, 18, 19, 20, 21, 22, 23, 24, 28, 33, 50, 58, 80, 85, 103, 110, 140, 151, 171, 185, 199, 213] (by kernel_rfl) ?_
  repeat' first
   | (with_reducible first | refine Nx.go ?_ | refine Bk.go (fun _ => ?_) fun _ => ?_)
   | ((with_reducible first | refine NewB.mk2 fun nb hnb hnb1 hnb2 => ?_ | refine NewRow.mk2 fun nb nsp ncap hnb hncap hnb1 hnb2 => ?_); try simp only [zzn] at hnb2)
   | simp -dsimp -implicitDefEqProofs (disch := first | assumption | (simp only [zzm]; done) | omega | (try with_reducible refine Row.adr (by assumption) ?_); simp only [zzl, Nat.reduceAdd]; first | done | omega) only [go_sem, ↓reduceIte, seval]
  all_goals first | (exfalso; omega) | exact Upd.now ⟨f, Rea.refl _ _ _, hend, rfl, rfl, rfl⟩
theorem symZ_t {n b mid e : Nat} (hme : mid ≤ e) (heb : e ≤ b) (hb : b ≤ n) (hn : n ≤ 2000000) {f : Nat → Nat} (hf : ∀ i, i < n → f i < n) {key : Nat → Int} {sp : List Value} {bd cd : Nat} {fid : FuncId} {cp : Value} {G : PHeap} {H : Heap} (hI : SymT Try.prog 91 fid cp key n bd cd sp G H mid e b) (hs1 : SrtO key f mid e) (hs2 : SrtO key f e b) :
  Tri Try.prog Try.f91.ntmps (piece [1, 1, 1, 1, 1, 1, 1, 1, 1, 1, 1] Try.f91) G [(0, .slice (some ⟨bd, 0, none⟩) n cd), (3, .int .i64 (b : Nat)), (4, .func (.func fid) #[] #[cp]), (18, .int .i64 (mid : Nat)), (24, .int .i64 (e : Nat))] ((bd, .cells (rowN n f) sp 3) :: H) (onlyN fun G' fr' H' => ∃ g, Rea mid b f g ∧ SrtO key g mid b ∧ G' = G ∧ H' = (bd, .cells (rowN n g) sp 3) :: H) := by
 refine Tri.sepT fun hs0 => ?_
 have hsE := hs0
 try simp only [zzs] at hsE
 repeat (obtain ⟨hsx, hsE⟩ := hsE)
 by_cases h1 : mid < e ∧ e < b
 ·obtain ⟨h1, h2⟩ := h1
  refine Tri.piece (f := Try.f91) rfl ?_
  refine Tri.run tok [0, 1, 2, 3, 4, 10, 11, 12, 13, 14, 15, 16, 17, 18, 19, 20, 21, 22, 23, 24, 28, 33, 50, 58, 80, 85, 103, 110, 140, 151, 171, 185, 199, 213] (by kernel_rfl) ?_
  repeat' first
   | (with_reducible first | refine Nx.go ?_ | refine Bk.go (fun _ => ?_) fun _ => ?_)
   | ((with_reducible first | refine NewB.mk2 fun nb hnb hnb1 hnb2 => ?_ | refine NewRow.mk2 fun nb nsp ncap hnb hncap hnb1 hnb2 => ?_); try simp only [zzn] at hnb2)
   | simp -dsimp -implicitDefEqProofs (disch := first | assumption | (simp only [zzm]; done) | omega | (try with_reducible refine Row.adr (by assumption) ?_); simp only [zzl, Nat.reduceAdd]; first | done | omega) only [go_sem, ↓reduceIte, seval]
   | with_reducible refine SymT.go hI h1 h2 hb hf hs1 hs2 fun g hr hs => ?_
  exact Upd.now ⟨g, hr, hs, rfl, rfl⟩
 ·have hend : SrtO key f mid b := by
   rcases (show mid = e ∨ e = b by omega) with h2 | h2
   ·rw [h2]; exact hs2
   ·rw [← h2]; exact hs1
  refine Tri.piece (f := Try.f91) rfl ?_
  refine Tri.run tok [0, 1, 2, 3, 4, 10, 11, 12, 13, 14, 15, 16, 17, 18, 19, 20, 21, 22, 23, 24, 28, 33, 50, 58, 80, 85, 103, 110, 140, 151, 171, 185, 199, 213] (by kernel_rfl) ?_
  repeat' first
   | (with_reducible first | refine Nx.go ?_ | refine Bk.go (fun _ => ?_) fun _ => ?_)
   | ((with_reducible first | refine NewB.mk2 fun nb hnb hnb1 hnb2 => ?_ | refine NewRow.mk2 fun nb nsp ncap hnb hncap hnb1 hnb2 => ?_); try simp only [zzn] at hnb2)
   | simp -dsimp -implicitDefEqProofs (disch := first | assumption | (simp only [zzm]; done) | omega | (try with_reducible refine Row.adr (by assumption) ?_); simp only [zzl, Nat.reduceAdd]; first | done | omega) only [go_sem, ↓reduceIte, seval]
  all_goals first | (exfalso; omega) | exact Upd.now ⟨f, Rea.refl _ _ _, hend, rfl, rfl⟩
set_option maxRecDepth 4000 in
theorem symMerge_t {n : Nat} (hn : n ≤ 2000000) {key : Nat → Int} {sp : List Value} {bd cd : Nat} {fid : FuncId} {cp : Value} {G : PHeap} {H : Heap} (hc : CmpT Try.prog fid cp key n bd sp G H) : ∀ w a m b, b - a ≤ w → SymT Try.prog 91 fid cp key n bd cd sp G H a m b := by
 intro w
 induction w with
 | zero => intro a m b hw f R h1 h2; omega
 | succ w ih =>
  intro a m b hw f R ham hmb hb hf hs1 hs2 hR
  have e1 : (m : Int) - (a : Int) = ((m - a : Nat) : Int) := by omega
  have e2 : (b : Int) - (m : Int) = ((b - m : Nat) : Int) := by omega
  by_cases hA : m - a = 1
  ·rw [hA] at e1
   refine FnT.bodyS tok [0, 1, 2, 3, 4, 10, 11, 12, 13, 14, 15, 16, 17, 18, 19, 20, 21, 22, 23, 24, 28, 33, 50, 58, 80, 85, 103, 110, 140, 151, 171, 185, 199, 213] (.seq (.seq .run (.cond .cut .run)) .cut) Try.func91 rfl (by kernel_rfl) (by kernel_rfl) (by show _ ≤ 220; simp) fun hsep => ?_
   rw [Try.results91]
   have hsE := hsep
   try simp only [zzs] at hsE
   repeat (obtain ⟨hsx, hsE⟩ := hsE)
   repeat' first
    | (with_reducible first | refine Nx.go ?_ | refine Bk.go (fun _ => ?_) fun _ => ?_)
    | ((with_reducible first | refine NewB.mk2 fun nb hnb hnb1 hnb2 => ?_ | refine NewRow.mk2 fun nb nsp ncap hnb hncap hnb1 hnb2 => ?_); try simp only [zzn] at hnb2)
    | simp -dsimp -implicitDefEqProofs (disch := first | assumption | (simp only [zzm]; done) | omega | (try with_reducible refine Row.adr (by assumption) ?_); simp only [zzl, Nat.reduceAdd]; first | done | omega) only [go_sem, ↓reduceIte, seval, e1]
   refine Tri.live [0, 1, 2, 3, 4] ?_
   refine Tri.isPiece [0, 1, 0] Try.f91 (by kernel_rfl) ?_
   refine Tri.onlyR (symA_t (by omega) hmb hb hn hf hc hs2) fun G2 l2 H2 hle2 hsx hM => ?_
   obtain ⟨g, hr, hs, rfl, rfl⟩ := hM
   simp only [go_sem]
   all_goals refine Upd.finL ?_ (hR g hr hs) ?_
   any_goals (intro fsum; first | exact Nat.le_refl _ | (simp only [zzq]; omega))
   rfl
  ·have hne : ((m - a : Nat) : Int) ≠ 1 := by omega
   by_cases hB : b - m = 1
   ·rw [hB] at e2
    refine FnT.bodyS tok [0, 1, 2, 3, 4, 10, 11, 12, 13, 14, 15, 16, 17, 18, 19, 20, 21, 22, 23, 24, 28, 33, 50, 58, 80, 85, 103, 110, 140, 151, 171, 185, 199, 213] (.seq (.seq .run (.cond .cut .run)) (.seq (.seq .run (.cond .cut .run)) .cut)) Try.func91 rfl (by kernel_rfl) (by kernel_rfl) (by show _ ≤ 220; simp) fun hsep => ?_
    rw [Try.results91]
    have hsE := hsep
    try simp only [zzs] at hsE
    repeat (obtain ⟨hsx, hsE⟩ := hsE)
    repeat' first
     | (with_reducible first | refine Nx.go ?_ | refine Bk.go (fun _ => ?_) fun _ => ?_)
     | ((with_reducible first | refine NewB.mk2 fun nb hnb hnb1 hnb2 => ?_ | refine NewRow.mk2 fun nb nsp ncap hnb hncap hnb1 hnb2 => ?_); try simp only [zzn] at hnb2)
     | simp -dsimp -implicitDefEqProofs (disch := first | assumption | (simp only [zzm]; done) | omega | (try with_reducible refine Row.adr (by assumption) ?_); simp only [zzl, Nat.reduceAdd]; first | done | omega) only [go_sem, ↓reduceIte, seval, e1, e2]
    refine Tri.live [0, 1, 2, 3, 4] ?_
    refine Tri.isPiece [1, 0, 1, 0] Try.f91 (by kernel_rfl) ?_
    refine Tri.onlyR (symB_t ham (by omega) hb hn hf hc hs1) fun G2 l2 H2 hle2 hsx hM => ?_
    obtain ⟨g, hr, hs, rfl, rfl⟩ := hM
    simp only [go_sem]
    all_goals refine Upd.finL ?_ (hR g hr hs) ?_
    any_goals (intro fsum; first | exact Nat.le_refl _ | (simp only [zzq]; omega))
    rfl
   ·have hne2 : ((b - m : Nat) : Int) ≠ 1 := by omega
    obtain ⟨mid, hmid⟩ : ∃ mid, mid = (a + b) / 2 := ⟨_, rfl⟩
    have e3 : ((a : Int) + (b : Int)) / 2 = (mid : Int) := by omega
    have e4 : (mid : Int) + (m : Int) = ((mid + m : Nat) : Int) := by omega
    have e6 : ((mid + m : Nat) : Int) - 1 = ((mid + m - 1 : Nat) : Int) := by omega
    obtain ⟨lo, hlo⟩ : ∃ lo, lo = if mid < m then mid + m - b else a := ⟨_, rfl⟩
    obtain ⟨hi, hhi⟩ : ∃ hi, hi = if mid < m then mid else m := ⟨_, rfl⟩
    have e5 : mid < m → ((mid + m : Nat) : Int) - (b : Int) = ((mid + m - b : Nat) : Int) := fun h => by omega
    have key1 : ∀ K : Post, (∀ s l2, CutO key f a m b mid s → restrict [0, 1, 2, 3, 4, 18, 19, 20] l2 = [(0, .slice (some ⟨bd, 0, none⟩) n cd), (1, .int .i64 (a : Nat)), (2, .int .i64 (m : Nat)), (3, .int .i64 (b : Nat)), (4, .func (.func fid) #[] #[cp]), (18, .int .i64 (mid : Nat)), (19, .int .i64 ((mid + m : Nat) : Int)), (20, .int .i64 (s : Nat))] → K .normal G l2 ((bd, .cells (rowN n f) sp 3) :: H)) → Tri Try.prog Try.f91.ntmps (piece [1, 1, 1, 1, 1, 1, 1, 0] Try.f91) G [(0, .slice (some ⟨bd, 0, none⟩) n cd), (1, .int .i64 (a : Nat)), (2, .int .i64 (m : Nat)), (3, .int .i64 (b : Nat)), (4, .func (.func fid) #[] #[cp]), (18, .int .i64 (mid : Nat)), (19, .int .i64 ((mid + m : Nat) : Int)), (20, .int .i64 (lo : Nat)), (21, .int .i64 (hi : Nat)), (22, .int .i64 ((mid + m - 1 : Nat) : Int))] ((bd, .cells (rowN n f) sp 3) :: H) K := fun K hK =>
     Tri.onlyN (symS_t ham hmb hmid hb hn hf hc hs1 hs2 hlo hhi) fun G2 l2 H2 hle2 hsx hM => by
      obtain ⟨s, c1, rfl, c2, rfl⟩ := hM
      exact hK s l2 c1 c2
    have fin : ∀ s l2 K, CutO key f a m b mid s → restrict [0, 1, 2, 3, 4, 18, 19, 20] l2 = [(0, .slice (some ⟨bd, 0, none⟩) n cd), (1, .int .i64 (a : Nat)), (2, .int .i64 (m : Nat)), (3, .int .i64 (b : Nat)), (4, .func (.func fid) #[] #[cp]), (18, .int .i64 (mid : Nat)), (19, .int .i64 ((mid + m : Nat) : Int)), (20, .int .i64 (s : Nat))] → (∀ l3 g, Rea a b f g → SrtO key g a b → K .normal G l3 ((bd, .cells (rowN n g) sp 3) :: H)) → Tri Try.prog Try.f91.ntmps (piece [1, 1, 1, 1, 1, 1, 1, 1] Try.f91) G l2 ((bd, .cells (rowN n f) sp 3) :: H) K := by
     intro s l2 K hcut hl hK
     have hcut2 := hcut
     obtain ⟨sa, sm, smid, eb, _, _⟩ := hcut
     obtain ⟨e, he⟩ : ∃ e, e = mid + m - s := ⟨_, rfl⟩
     have e7 : ((mid + m : Nat) : Int) - (s : Int) = (e : Int) := by omega
     have hpar := hcut2.parts hs1 hs2 rfl
     rw [← he] at hpar
     obtain ⟨p1, p2, p3, p4, p5⟩ := hpar
     have hrr := rotN_rea f (show s ≤ m by omega) (show m ≤ e by omega)
     have hrf := hrr.lt (show e ≤ n by omega) hf
     refine Tri.live [0, 1, 2, 3, 4, 18, 19, 20] ?_
     rw [hl]
     refine Tri.piece (f := Try.f91) rfl ?_
     refine Tri.runS tok [0, 1, 2, 3, 4, 10, 11, 12, 13, 14, 15, 16, 17, 18, 19, 20, 21, 22, 23, 24, 28, 33, 50, 58, 80, 85, 103, 110, 140, 151, 171, 185, 199, 213] (.seq .run (.seq .cut (.seq .cut .cut))) (by kernel_rfl) ?_
     repeat' first
      | (with_reducible first | refine Nx.go ?_ | refine Bk.go (fun _ => ?_) fun _ => ?_)
      | ((with_reducible first | refine NewB.mk2 fun nb hnb hnb1 hnb2 => ?_ | refine NewRow.mk2 fun nb nsp ncap hnb hncap hnb1 hnb2 => ?_); try simp only [zzn] at hnb2)
      | simp -dsimp -implicitDefEqProofs (disch := first | assumption | (simp only [zzm]; done) | omega | (try with_reducible refine Row.adr (by assumption) ?_); simp only [zzl, Nat.reduceAdd]; first | done | omega) only [go_sem, ↓reduceIte, seval, e7]
     refine Tri.live [0, 1, 2, 3, 4, 18, 20, 24] ?_
     refine Tri.isPiece [1, 1, 1, 1, 1, 1, 1, 1, 1, 0] Try.f91 (by kernel_rfl) ?_
     refine Tri.onlyN (symX_t (by omega) (by omega) (by omega) hn) fun G2 l3 H2 hle2 hsx hM => ?_
     obtain ⟨rfl, hl3, rfl⟩ := hM
     simp only [go_sem]
     refine Tri.live [0, 1, 3, 4, 18, 20, 24] ?_
     rw [hl3]
     refine Tri.isPiece [1, 1, 1, 1, 1, 1, 1, 1, 1, 1, 0] Try.f91 (by kernel_rfl) ?_
     refine Tri.onlyN (symY_t (by omega) (by omega) (by omega) hn hrf (ih a s mid (by omega)) p1 p2) fun G2' l4 H2 hle2' hsx' hM => ?_
     obtain ⟨g2, r2, s2, rfl, hl4, rfl⟩ := hM
     simp only [go_sem]
     refine Tri.live [0, 3, 4, 18, 24] ?_
     rw [hl4]
     have hrf2 := r2.lt (show mid ≤ n by omega) hrf
     refine Tri.isPiece [1, 1, 1, 1, 1, 1, 1, 1, 1, 1, 1] Try.f91 (by kernel_rfl) ?_
     refine Tri.onlyN (symZ_t (by omega) (by omega) hb hn hrf2 (ih mid e b (by omega)) (p3.same fun i g1 g3 => r2.out (.inr (by omega))) (p4.same fun i g1 g3 => r2.out (.inr (by omega)))) fun G3 l5 H3 hle3 hsx3 hM => ?_
     obtain ⟨g3, r3, s3, rfl, rfl⟩ := hM
     exact hK _ _ ((hrr.wide (by omega) (by omega)).trans ((r2.wide (by omega) (by omega)).trans (r3.wide (by omega) (by omega)))) (merge_end (by omega) (by omega) p5 r2 s2 r3 s3)
    by_cases hmm : mid < m
    ·rw [if_pos hmm] at hlo hhi
     have e5 := e5 hmm
     rw [← hlo] at e5
     subst hhi
     refine FnT.bodyS tok [0, 1, 2, 3, 4, 10, 11, 12, 13, 14, 15, 16, 17, 18, 19, 20, 21, 22, 23, 24, 28, 33, 50, 58, 80, 85, 103, 110, 140, 151, 171, 185, 199, 213] (.seq (.seq .run (.cond .cut .run)) (.seq (.seq .run (.cond .cut .run)) (.seq .run (.seq .run (.seq .run (.seq .run (.seq .run (.seq .cut .cut)))))))) Try.func91 rfl (by kernel_rfl) (by kernel_rfl) (by show _ ≤ 220; simp) fun hsep => ?_
     rw [Try.results91]
     have hsE := hsep
     try simp only [zzs] at hsE
     repeat (obtain ⟨hsx, hsE⟩ := hsE)
     repeat' first
      | (with_reducible first | refine Nx.go ?_ | refine Bk.go (fun _ => ?_) fun _ => ?_)
      | ((with_reducible first | refine NewB.mk2 fun nb hnb hnb1 hnb2 => ?_ | refine NewRow.mk2 fun nb nsp ncap hnb hncap hnb1 hnb2 => ?_); try simp only [zzn] at hnb2)
      | simp -dsimp -implicitDefEqProofs (disch := first | assumption | (simp only [zzm]; done) | omega | (try with_reducible refine Row.adr (by assumption) ?_); simp only [zzl, Nat.reduceAdd]; first | done | omega) only [go_sem, ↓reduceIte, seval, e1, e2, e3, e4, e5, e6]
     refine Tri.live [0, 1, 2, 3, 4, 18, 19, 20, 21, 22] ?_
     refine Tri.isPiece [1, 1, 1, 1, 1, 1, 1, 0] Try.f91 (by kernel_rfl) ?_
     refine key1 _ fun s l2 c1 c2 => ?_
     simp only [go_sem]
     refine Tri.isPiece [1, 1, 1, 1, 1, 1, 1, 1] Try.f91 (by kernel_rfl) ?_
     refine fin s l2 _ c1 c2 fun l3 g hr hs => ?_
     simp only [go_sem]
     all_goals refine Upd.finL ?_ (hR g hr hs) ?_
     any_goals (intro fsum; first | exact Nat.le_refl _ | (simp only [zzq]; omega))
     rfl
    ·rw [if_neg hmm] at hlo hhi
     subst hhi
     subst hlo
     refine FnT.bodyS tok [0, 1, 2, 3, 4, 10, 11, 12, 13, 14, 15, 16, 17, 18, 19, 20, 21, 22, 23, 24, 28, 33, 50, 58, 80, 85, 103, 110, 140, 151, 171, 185, 199, 213] (.seq (.seq .run (.cond .cut .run)) (.seq (.seq .run (.cond .cut .run)) (.seq .run (.seq .run (.seq .run (.seq .run (.seq .run (.seq .cut .cut)))))))) Try.func91 rfl (by kernel_rfl) (by kernel_rfl) (by show _ ≤ 220; simp) fun hsep => ?_
     rw [Try.results91]
     have hsE := hsep
     try simp only [zzs] at hsE
     repeat (obtain ⟨hsx, hsE⟩ := hsE)
     repeat' first
      | (with_reducible first | refine Nx.go ?_ | refine Bk.go (fun _ => ?_) fun _ => ?_)
      | ((with_reducible first | refine NewB.mk2 fun nb hnb hnb1 hnb2 => ?_ | refine NewRow.mk2 fun nb nsp ncap hnb hncap hnb1 hnb2 => ?_); try simp only [zzn] at hnb2)
      | simp -dsimp -implicitDefEqProofs (disch := first | assumption | (simp only [zzm]; done) | omega | (try with_reducible refine Row.adr (by assumption) ?_); simp only [zzl, Nat.reduceAdd]; first | done | omega) only [go_sem, ↓reduceIte, seval, e1, e2, e3, e4, e6]
     refine Tri.live [0, 1, 2, 3, 4, 18, 19, 20, 21, 22] ?_
     refine Tri.isPiece [1, 1, 1, 1, 1, 1, 1, 0] Try.f91 (by kernel_rfl) ?_
     refine key1 _ fun s l2 c1 c2 => ?_
     simp only [go_sem]
     refine Tri.isPiece [1, 1, 1, 1, 1, 1, 1, 1] Try.f91 (by kernel_rfl) ?_
     refine fin s l2 _ c1 c2 fun l3 g hr hs => ?_
     simp only [go_sem]
     all_goals refine Upd.finL ?_ (hR g hr hs) ?_
     any_goals (intro fsum; first | exact Nat.le_refl _ | (simp only [zzq]; omega))
     rfl
end Go.Proofs.Ytdeableflgakdaa
namespace Go.Proofs.Ytdeableflgakdaa
open Go Go.V Go.Proofs
def InsB (key : Nat → Int) (f : Nat → Nat) (n w a : Nat) : Prop := ∀ c, (∃ q, c = q * w) → c < a → SrtO key f c (min (c + w) n)
theorem mul_step {c a w p q : Nat} (hp : c = p * w) (hq : a = q * w) (h : c < a) : c + w ≤ a := by
 have h1 : p < q := by
  apply Classical.byContradiction
  intro hn
  have := Nat.mul_le_mul_right w (show q ≤ p by omega)
  omega
 have := Nat.mul_le_mul_right w (show p + 1 ≤ q by omega)
 rw [Nat.succ_mul] at this
 omega
theorem mul_eq_of {c a w p q : Nat} (hp : c = p * w) (hq : a = q * w) (h : c < a + w) (h2 : a ≤ c) : c = a := by
 apply Classical.byContradiction
 intro hn
 have := mul_step hq hp (show a < c by omega)
 omega
theorem InsB.step {key : Nat → Int} {f g : Nat → Nat} {n w a : Nat} (h : InsB key f n w a) (ha : ∃ q, a = q * w) (hb : a + w ≤ n) (hr : Rea a (a + w) f g) (hs : SrtO key g a (a + w)) : InsB key g n w (a + w) := by
 obtain ⟨q, hq⟩ := ha
 intro c hc hca
 obtain ⟨p, hp⟩ := hc
 rcases Nat.lt_or_ge c a with e | e
 ·have := mul_step hp hq e
  exact (h c ⟨p, hp⟩ e).same fun i g1 g2 => hr.out (.inl (by omega))
 ·have := mul_eq_of hp hq hca e
  subst this
  exact hs.sub (Nat.le_refl _) (by omega)
theorem InsB.done {key : Nat → Int} {f g : Nat → Nat} {n w a : Nat} (h : InsB key f n w a) (ha : ∃ q, a = q * w) (hb : n < a + w) (hr : Rea a n f g) (hs : SrtO key g a n) : BlkO key g n w := by
 obtain ⟨q, hq⟩ := ha
 intro c hc
 obtain ⟨p, hp⟩ := hc
 rcases Nat.lt_or_ge c a with e | e
 ·have := mul_step hp hq e
  exact (h c ⟨p, hp⟩ e).same fun i g1 g2 => hr.out (.inl (by omega))
 ·rcases Nat.lt_or_ge c (a + w) with e2 | e2
  ·have := mul_eq_of hp hq e2 e
   subst this
   exact hs.sub (Nat.le_refl _) (by omega)
  ·exact SrtO.small (by omega)
theorem stableC_t {n : Nat} (hn : n ≤ 2000000) {f : Nat → Nat} (hf : ∀ i, i < n → f i < n) {key : Nat → Int} {sp : List Value} {bd cd : Nat} {fid : FuncId} {cp : Value} {G : PHeap} {H : Heap} {R : Value → PHeap → Heap → Prop} (hc : CmpT Try.prog fid cp key n bd sp G H)
  (hR : ∀ g, Rea 0 n f g → SrtO key g 0 n → R (.tuple #[]) G ((bd, .cells (rowN n g) sp 3) :: H)) : FnT Try.prog 80 [.slice (some ⟨bd, 0, none⟩) n cd, .int .i64 (n : Nat), .func (.func fid) #[] #[cp]] G ((bd, .cells (rowN n f) sp 3) :: H) R := by
 have hsym := fun a m b => symMerge_t (cd := cd) hn hc (b - a) a m b (Nat.le_refl _)
 refine FnT.bodyS tok [0, 1, 2, 6, 7, 8, 9, 13, 30, 35, 54] (.seq .run (.seq .run (.seq .run .cut))) Try.func80 rfl (by kernel_rfl) (by kernel_rfl) (by show _ ≤ 63; simp) fun hsep => ?_
 rw [Try.results80]
 have hsE := hsep
 try simp only [zzs] at hsE
 repeat (obtain ⟨hsx, hsE⟩ := hsE)
 repeat' first
  | (with_reducible first | refine Nx.go ?_ | refine Bk.go (fun _ => ?_) fun _ => ?_)
  | (with_reducible refine NewB.mk2 fun nb hnb hnb1 hnb2 => ?_; try simp only [zzn] at hnb2)
  | simp -dsimp -implicitDefEqProofs (disch := first | assumption | (simp only [zzm]; done) | omega | (try with_reducible refine Row.adr (by assumption) ?_); simp only [zzl, Nat.reduceAdd]; first | done | omega) only [go_sem, ↓reduceIte, seval]
 refine Tri.loopU tok [0, 1, 2, 6, 7, 8, 9, 13, 30, 35, 54] (by kernel_rfl) [0, 1, 2, 6, 7, 8] (fun q G' fr H' => ∃ (a : Nat) (g : Nat → Nat), a + q = n ∧ (∃ q, a = q * 20) ∧ Rea 0 n f g ∧ InsB key g n 20 a ∧ G' = G ∧ H' = (bd, .cells (rowN n g) sp 3) :: H ∧ fr = [(0, .slice (some ⟨bd, 0, none⟩) n cd), (1, .int .i64 (n : Nat)), (2, .func (.func fid) #[] #[cp]), (6, .int .i64 20), (7, .int .i64 (a : Nat)), (8, .int .i64 ((a + 20 : Nat) : Int))]) (n) ?_ ?_
 ·exact Upd.now ⟨0, f, by omega, ⟨0, rfl⟩, Rea.refl _ _ _, fun c _ h => by omega, rfl, rfl, rfl⟩
 ·rintro q G1 fr H1 hle hs1 ⟨a, g, haq, hqa, hr, hI, rfl, rfl, rfl⟩
  have hsE := hs1
  try simp only [zzs] at hsE
  repeat (obtain ⟨hsx, hsE⟩ := hsE)
  have hgf := hr.lt (Nat.le_refl n) hf
  by_cases hab : a + 20 ≤ n
  ·have e1 : ((a + 20 : Nat) : Int) + 20 = ((a + 20 + 20 : Nat) : Int) := by omega
   repeat' first
    | (with_reducible first | refine Nx.go ?_ | refine Bk.go (fun _ => ?_) fun _ => ?_)
    | (with_reducible refine NewB.mk2 fun nb hnb hnb1 hnb2 => ?_; try simp only [zzn] at hnb2)
    | simp -dsimp -implicitDefEqProofs (disch := first | assumption | (simp only [zzm]; done) | omega | (try with_reducible refine Row.adr (by assumption) ?_); simp only [zzl, Nat.reduceAdd]; first | done | omega) only [go_sem, ↓reduceIte, seval, e1]
    | with_reducible refine insert_t (Nat.le_add_right a 20) hab hn hgf hc fun g2 hr2 hs2 => ?_
   obtain ⟨q0, hq0⟩ := hqa
   exact Upd.now ⟨q - 20, by omega, a + 20, g2, by omega, ⟨q0 + 1, by rw [Nat.succ_mul]; omega⟩, hr.trans (hr2.wide (Nat.zero_le _) hab), hI.step ⟨q0, hq0⟩ hab hr2 hs2, rfl, rfl, rfl⟩
  ·repeat' first
    | (with_reducible first | refine Nx.go ?_ | refine Bk.go (fun _ => ?_) fun _ => ?_)
    | (with_reducible refine NewB.mk2 fun nb hnb hnb1 hnb2 => ?_; try simp only [zzn] at hnb2)
    | simp -dsimp -implicitDefEqProofs (disch := first | assumption | (simp only [zzm]; done) | omega | (try with_reducible refine Row.adr (by assumption) ?_); simp only [zzl, Nat.reduceAdd]; first | done | omega) only [go_sem, ↓reduceIte, seval]
   refine Tri.runS tok [0, 1, 2, 6, 7, 8, 9, 13, 30, 35, 54] (.seq .run .cut) (by kernel_rfl) ?_
   repeat' first
    | (with_reducible first | refine Nx.go ?_ | refine Bk.go (fun _ => ?_) fun _ => ?_)
    | (with_reducible refine NewB.mk2 fun nb hnb hnb1 hnb2 => ?_; try simp only [zzn] at hnb2)
    | simp -dsimp -implicitDefEqProofs (disch := first | assumption | (simp only [zzm]; done) | omega | (try with_reducible refine Row.adr (by assumption) ?_); simp only [zzl, Nat.reduceAdd]; first | done | omega) only [go_sem, ↓reduceIte, seval]
    | with_reducible refine insert_t (show a ≤ n by omega) (Nat.le_refl n) hn hgf hc fun g2 hr2 hs2 => ?_
   have hB := hI.done hqa (by omega) hr2 hs2
   have hr3 := hr.trans (hr2.wide (Nat.zero_le _) (Nat.le_refl _))
   clear hI hr hr2 hs2 hgf hqa
   refine Tri.run tok [0, 1, 2, 6, 7, 8, 9, 13, 30, 35, 54] (by kernel_rfl) ?_
   repeat' first
    | (with_reducible first | refine Nx.go ?_ | refine Bk.go (fun _ => ?_) fun _ => ?_)
    | (with_reducible refine NewB.mk2 fun nb hnb hnb1 hnb2 => ?_; try simp only [zzn] at hnb2)
    | simp -dsimp -implicitDefEqProofs (disch := first | assumption | (simp only [zzm]; done) | omega | (try with_reducible refine Row.adr (by assumption) ?_); simp only [zzl, Nat.reduceAdd]; first | done | omega) only [go_sem, ↓reduceIte, seval]
   refine Tri.loopU tok [0, 1, 2, 6, 7, 8, 9, 13, 30, 35, 54] (by kernel_rfl) [0, 1, 2, 6] (fun q G' fr H' => ∃ (w : Nat) (g : Nat → Nat), n - w = q ∧ 20 ≤ w ∧ w ≤ 4000000 ∧ Rea 0 n f g ∧ BlkO key g n w ∧ G' = G1 ∧ H' = (bd, .cells (rowN n g) sp 3) :: H ∧ fr = [(0, .slice (some ⟨bd, 0, none⟩) n cd), (1, .int .i64 (n : Nat)), (2, .func (.func fid) #[] #[cp]), (6, .int .i64 (w : Nat))]) ((n - 20)) ?_ ?_
   ·exact Upd.now ⟨20, g2, rfl, Nat.le_refl _, by omega, hr3, hB, rfl, rfl, rfl⟩
   ·rintro q2 G2 fr H2 hle2 hs2 ⟨w, g, hq2, hw1, hw2, hr, hB, rfl, rfl, rfl⟩
    have hsE := hs2
    try simp only [zzs] at hsE
    repeat (obtain ⟨hsx, hsE⟩ := hsE)
    by_cases hwn : w < n
    ·have e1 : (2 : Int) * (w : Int) = ((2 * w : Nat) : Int) := by omega
     have e5 : (w : Int) * 2 = ((2 * w : Nat) : Int) := by omega
     repeat' first
      | (with_reducible first | refine Nx.go ?_ | refine Bk.go (fun _ => ?_) fun _ => ?_)
      | (with_reducible refine NewB.mk2 fun nb hnb hnb1 hnb2 => ?_; try simp only [zzn] at hnb2)
      | simp -dsimp -implicitDefEqProofs (disch := first | assumption | (simp only [zzm]; done) | omega | (try with_reducible refine Row.adr (by assumption) ?_); simp only [zzl, Nat.reduceAdd]; first | done | omega) only [go_sem, ↓reduceIte, seval, e1]
     refine Tri.loopU tok [0, 1, 2, 6, 7, 8, 9, 13, 30, 35, 54] (by kernel_rfl) [0, 1, 2, 6, 7, 8] (fun q G' fr H' => ∃ (a : Nat) (g : Nat → Nat), a + q = n ∧ (∃ q, a = q * (2 * w)) ∧ Rea 0 n f g ∧ MidO key g n w a ∧ G' = G2 ∧ H' = (bd, .cells (rowN n g) sp 3) :: H ∧ fr = [(0, .slice (some ⟨bd, 0, none⟩) n cd), (1, .int .i64 (n : Nat)), (2, .func (.func fid) #[] #[cp]), (6, .int .i64 (w : Nat)), (7, .int .i64 (a : Nat)), (8, .int .i64 ((a + 2 * w : Nat) : Int))]) (n) ?_ ?_
     ·exact Upd.now ⟨0, g, by omega, ⟨0, (Nat.zero_mul _).symm⟩, hr, hB.start, rfl, rfl, by rw [Nat.zero_add]; rfl⟩
     ·rintro q3 G3 fr H3 hle3 hs3 ⟨a, g, haq, hqa, hr, hM, rfl, rfl, rfl⟩
      have hsE := hs3
      try simp only [zzs] at hsE
      repeat (obtain ⟨hsx, hsE⟩ := hsE)
      have hgf := hr.lt (Nat.le_refl n) hf
      obtain ⟨q0, hq0⟩ := hqa
      have hqw : a = (2 * q0) * w := by rw [hq0, Nat.mul_comm 2 q0, Nat.mul_assoc]
      have hqw2 : a + w = (2 * q0 + 1) * w := by rw [hqw, Nat.succ_mul (2 * q0) w]
      have e2 : (a : Int) + (w : Int) = ((a + w : Nat) : Int) := by omega
      have s1 := hM.1 a ⟨_, hqw⟩ (Nat.le_refl _)
      have s2 := hM.1 (a + w) ⟨_, hqw2⟩ (Nat.le_add_right _ _)
      by_cases hab : a + 2 * w ≤ n
      ·have e3 : ((a + 2 * w : Nat) : Int) + ((2 * w : Nat) : Int) = ((a + 2 * w + 2 * w : Nat) : Int) := by omega
       rw [Nat.min_eq_left (by omega)] at s1
       rw [Nat.min_eq_left (by omega), show a + w + w = a + 2 * w by omega] at s2
       repeat' first
        | (with_reducible first | refine Nx.go ?_ | refine Bk.go (fun _ => ?_) fun _ => ?_)
        | (with_reducible refine NewB.mk2 fun nb hnb hnb1 hnb2 => ?_; try simp only [zzn] at hnb2)
        | simp -dsimp -implicitDefEqProofs (disch := first | assumption | (simp only [zzm]; done) | omega | (try with_reducible refine Row.adr (by assumption) ?_); simp only [zzl, Nat.reduceAdd]; first | done | omega) only [go_sem, ↓reduceIte, seval, e1, e2, e3]
        | with_reducible refine SymT.go (hsym a (a + w) (a + 2 * w)) (by omega) (by omega) hab hgf s1 s2 fun g3 hr3 hs3 => ?_
       exact Upd.now ⟨q3 - 2 * w, by omega, a + 2 * w, g3, by omega, ⟨q0 + 1, by rw [Nat.succ_mul q0 (2 * w)]; omega⟩, hr.trans (hr3.wide (Nat.zero_le _) hab), hM.step ⟨q0, hq0⟩ (by omega) (Nat.min_eq_left hab).symm hr3 hs3, rfl, rfl, rfl⟩
      ·by_cases hmn : a + w < n
       ·rw [Nat.min_eq_left (by omega)] at s1
        rw [Nat.min_eq_right (by omega)] at s2
        repeat' first
         | (with_reducible first | refine Nx.go ?_ | refine Bk.go (fun _ => ?_) fun _ => ?_)
         | (with_reducible refine NewB.mk2 fun nb hnb hnb1 hnb2 => ?_; try simp only [zzn] at hnb2)
         | simp -dsimp -implicitDefEqProofs (disch := first | assumption | (simp only [zzm]; done) | omega | (try with_reducible refine Row.adr (by assumption) ?_); simp only [zzl, Nat.reduceAdd]; first | done | omega) only [go_sem, ↓reduceIte, seval, e1, e2, e5]
         | with_reducible refine SymT.go (hsym a (a + w) n) (by omega) hmn (Nat.le_refl n) hgf s1 s2 fun g3 hr3 hs3 => ?_
        have hM2 := hM.step ⟨q0, hq0⟩ (by omega) (Nat.min_eq_right (show n ≤ a + 2 * w by omega)).symm hr3 hs3
        exact Upd.now ⟨n - 2 * w, by omega, 2 * w, g3, rfl, by omega, by omega, hr.trans (hr3.wide (Nat.zero_le _) (Nat.le_refl _)), hM2.done (by omega) ⟨q0 + 1, by rw [Nat.succ_mul q0 (2 * w)]; omega⟩ (by omega), rfl, rfl, rfl⟩
       ·repeat' first
         | (with_reducible first | refine Nx.go ?_ | refine Bk.go (fun _ => ?_) fun _ => ?_)
         | (with_reducible refine NewB.mk2 fun nb hnb hnb1 hnb2 => ?_; try simp only [zzn] at hnb2)
         | simp -dsimp -implicitDefEqProofs (disch := first | assumption | (simp only [zzm]; done) | omega | (try with_reducible refine Row.adr (by assumption) ?_); simp only [zzl, Nat.reduceAdd]; first | done | omega) only [go_sem, ↓reduceIte, seval, e1, e2, e5]
        exact Upd.now ⟨n - 2 * w, by omega, 2 * w, g, rfl, by omega, by omega, hr, hM.done (by omega) ⟨q0, hq0⟩ (by omega), rfl, rfl, rfl⟩
    ·repeat' first
      | (with_reducible first | refine Nx.go ?_ | refine Bk.go (fun _ => ?_) fun _ => ?_)
      | (with_reducible refine NewB.mk2 fun nb hnb hnb1 hnb2 => ?_; try simp only [zzn] at hnb2)
      | simp -dsimp -implicitDefEqProofs (disch := first | assumption | (simp only [zzm]; done) | omega | (try with_reducible refine Row.adr (by assumption) ?_); simp only [zzl, Nat.reduceAdd]; first | done | omega) only [go_sem, ↓reduceIte, seval]
     all_goals refine Upd.finL ?_ (hR g hr (hB.all (by omega))) ?_
     any_goals (intro fsum; first | exact Nat.le_refl _ | (simp only [zzq]; omega))
     rfl
theorem sortStable_t {n : Nat} (hn : n ≤ 2000000) {f : Nat → Nat} (hf : ∀ i, i < n → f i < n) {key : Nat → Int} {sp : List Value} {bd cd : Nat} {fid : FuncId} {cp : Value} {G : PHeap} {H : Heap} {R : Value → PHeap → Heap → Prop} (hc : CmpT Try.prog fid cp key n bd sp G H)
  (hR : ∀ g, Rea 0 n f g → SrtO key g 0 n → R (.tuple #[]) G ((bd, .cells (rowN n g) sp 3) :: H)) : FnT Try.prog 53 [.slice (some ⟨bd, 0, none⟩) n cd, .func (.func fid) #[] #[cp]] G ((bd, .cells (rowN n f) sp 3) :: H) R := by
 refine FnT.body tok [0, 1] Try.func53 rfl (by kernel_rfl) (by kernel_rfl) (by show _ ≤ 9; simp) fun hsep => ?_
 rw [Try.results53]
 have hsE := hsep
 try simp only [zzs] at hsE
 repeat (obtain ⟨hsx, hsE⟩ := hsE)
 repeat' first
  | (with_reducible first | refine Nx.go ?_ | refine Bk.go (fun _ => ?_) fun _ => ?_)
  | simp -dsimp -implicitDefEqProofs (disch := first | assumption | (simp only [zzm]; done) | omega | (try with_reducible refine Row.adr (by assumption) ?_); simp only [zzl, Nat.reduceAdd]; first | done | omega) only [go_sem, ↓reduceIte, seval]
  | with_reducible refine stableC_t hn hf hc fun g hr hs => ?_
 all_goals refine Upd.finL ?_ (hR g hr hs) ?_
 any_goals (intro fsum; first | exact Nat.le_refl _ | (simp only [zzq]; omega))
 rfl
end Go.Proofs.Ytdeableflgakdaa
namespace Go.Proofs.Ytdeableflgakdaa
open Go Go.V Go.Proofs
theorem clones_t (l : List (List UInt8)) (hlen : l.length ≤ 2000000) {G : PHeap} {H : Heap} {R : Value → PHeap → Heap → Prop} {v : Value} (hv : Sl G str v l)
  (hR : ∀ G' v', PLe G G' → Sep G' (keys H) → Sl G' str v' l → R v' G' H) : FnT Try.prog 48 [v] G H R := by
 obtain ⟨a, cap, rfl, hrow, hcap⟩ := hv
 refine FnT.sep ?_
 rcases a with _ | a
 ·have h0 : l = [] := List.eq_nil_of_length_eq_zero (by
   rcases Nat.eq_zero_or_pos l.length with h | h
   ·exact h
   ·have := hrow.adr (by rw [List.length_map]; exact h)
    cases this)
  subst h0
  refine FnT.body tok [0, 2, 4] Try.func48 rfl (by kernel_rfl) (by kernel_rfl) (by show _ ≤ 8; simp) fun hsep => ?_
  rw [Try.results48]
  have hsE := hsep
  try simp only [zzs] at hsE
  repeat (obtain ⟨hsx, hsE⟩ := hsE)
  repeat' first
   | (with_reducible first | refine Nx.go ?_ | refine Bk.go (fun _ => ?_) fun _ => ?_)
   | ((with_reducible first | refine NewB.mk2 fun nb hnb hnb1 hnb2 => ?_ | refine NewRow.mk2 fun nb nsp ncap hnb hncap hnb1 hnb2 => ?_); try simp only [zzn] at hnb2)
   | simp -dsimp -implicitDefEqProofs (disch := first | assumption | (simp only [zzm]; done) | omega | (try with_reducible refine Row.adr (by assumption) ?_); simp only [zzl, Nat.reduceAdd]; first | done | omega) only [go_sem, ↓reduceIte, seval]
  unfold UpdR
  refine Upd.leave (H' := H) (by intro fsum; first | exact Nat.le_refl _ | (simp only [zzq]; omega)) ?_
  exact fun hle hs => hR G _ (PLe.refl _) hs (Sl.nil _ _)
 ·refine FnT.body tok [0, 2, 4] Try.func48 rfl (by kernel_rfl) (by kernel_rfl) (by show _ ≤ 8; simp) fun hsep => ?_
  rw [Try.results48]
  have hsE := hsep
  try simp only [zzs] at hsE
  repeat (obtain ⟨hsx, hsE⟩ := hsE)
  repeat' first
   | (with_reducible first | refine Nx.go ?_ | refine Bk.go (fun _ => ?_) fun _ => ?_)
   | ((with_reducible first | refine NewB.mk2 fun nb hnb hnb1 hnb2 => ?_ | refine NewRow.mk2 fun nb nsp ncap hnb hncap hnb1 hnb2 => ?_); try simp only [zzn] at hnb2)
   | simp -dsimp -implicitDefEqProofs (disch := first | assumption | (simp only [zzm]; done) | omega | (try with_reducible refine Row.adr (by assumption) ?_); simp only [zzl, Nat.reduceAdd]; first | done | omega) only [go_sem, ↓reduceIte, seval, Row.rdSlAll hrow, List.length_map]
  ·rename_i h0
   have h0 : l = [] := List.eq_nil_of_length_eq_zero h0
   subst h0
   unfold UpdR
   refine Upd.leave (H' := H) (by intro fsum; first | exact Nat.le_refl _ | (simp only [zzq]; omega)) ?_
   exact fun hle hs => hR G _ (PLe.refl _) hs ⟨_, 0, rfl, Row.nil _ _, Nat.le_refl _⟩
  ·unfold UpdR
   refine Upd.go (H' := (nb, .cells (l.map str) nsp 9) :: H) (by intro fsum; first | exact Nat.le_refl _ | (simp only [zzq]; omega)) (Upd.shareRow (by assumption) fun G2 hle2 hs2 hr2 => ?_)
   exact fun hle hs => hR G2 _ hle2 hs ⟨some ⟨nb, 0, none⟩, ncap, rfl, hr2, by omega⟩
def zeroD : DfaT := ⟨List.replicate 256 0, 0, [], [], []⟩
abbrev zeroC : List Value := List.replicate 256 (Value.int .u8 0) ++ [Value.int .i64 0, Value.slice none 0 0, Value.slice none 0 0, Value.slice none 0 0]
theorem zeroC_len : zeroC.length = 260 := by rw [List.length_append, List.length_replicate]; rfl
theorem zeroC_one : zeroC.all oneV = true := by rw [List.all_append, List.all_replicate]; rfl
theorem zeroC_take : List.take 260 zeroC = zeroC := List.take_of_length_le (by rw [zeroC_len]; omega)
theorem zeroC_put : splice zeroC 0 zeroC = zeroC := by
 unfold splice
 rw [List.take_zero, List.nil_append, List.drop_of_length_le (by rw [zeroC_len]; omega), List.append_nil]
theorem zeroD_cells : cellsD zeroD (.slice none 0 0) (.slice none 0 0) (.slice none 0 0) = zeroC := by
 unfold cellsD zeroD u8L
 rw [List.map_replicate]
theorem zeroD_is (G : PHeap) : IsD G zeroD (.agg (List.toArray zeroC)) := by
 rw [← zeroD_cells]
 refine ⟨List.length_replicate .., fun x hx => ?_, _, _, _, rfl, ⟨none, 0, [], rfl, Row.nil _ _, rfl, Nat.le_refl _, fun i h => by cases h⟩, Sl.nil _ _, Sl.nil _ _⟩
 have : x = 0 := by
  unfold zeroD at hx
  exact List.eq_of_mem_replicate hx
 omega
def rowB (d : DfaT) (m : List Int) (s : Nat) : List Int := (d.next.getD s []).map (atL (nums m))
def ofD (d : DfaT) (m : List Int) : DfaT := ⟨d.of, d.width, (headsM m).map (fun s => rowB d m s.toNat), (headsM m).map (fun s => d.label.getD s.toNat 0), d.names⟩
theorem cellsD_putN {d : DfaT} (h : d.of.length = 256) (vn vl vs x : Value) : splice (cellsD d vn vl vs) 257 [x] = cellsD d x vl vs := by
 unfold splice cellsD
 have hl : (u8L d.of).length = 256 := by rw [List.length_map, h]
 rw [show 257 = (u8L d.of).length + 1 by omega, List.take_length_add_append, List.length_singleton, show (u8L d.of).length + 1 + 1 = (u8L d.of).length + 2 by omega, List.drop_length_add_append, List.append_assoc, List.append_assoc]
 rfl
theorem cellsD_putL {d : DfaT} (h : d.of.length = 256) (vn vl vs x : Value) : splice (cellsD d vn vl vs) 258 [x] = cellsD d vn x vs := by
 unfold splice cellsD
 have hl : (u8L d.of).length = 256 := by rw [List.length_map, h]
 rw [show 258 = (u8L d.of).length + 2 by omega, List.take_length_add_append, List.length_singleton, show (u8L d.of).length + 2 + 1 = (u8L d.of).length + 3 by omega, List.drop_length_add_append, List.append_assoc, List.append_assoc]
 rfl
end Go.Proofs.Ytdeableflgakdaa
namespace Go.Proofs.Ytdeableflgakdaa
open Go Go.V Go.Proofs
def enc3 (fr to mk : Nat → Nat) (i : Nat) : List Value := [.int .i64 (fr i : Nat), .int .i64 (to i : Nat), .int .i64 (mk i : Nat)]
def row3 (n : Nat) (fr to mk : Nat → Nat) : List Value := (List.range n).flatMap (enc3 fr to mk)
theorem row3_len (n : Nat) (fr to mk : Nat → Nat) : (row3 n fr to mk).length = n * 3 := by
 unfold row3; rw [flatMap_len (m := 3) (fun _ => rfl), List.length_range]
theorem row3_succ (n : Nat) (fr to mk : Nat → Nat) : row3 (n + 1) fr to mk = row3 n fr to mk ++ enc3 fr to mk n := by
 unfold row3; rw [List.range_succ, List.flatMap_append]; simp
theorem row3_get {n : Nat} {fr to mk : Nat → Nat} {sp : List Value} {i j : Nat} (hi : i < n) (hj : j < 3) : (row3 n fr to mk ++ sp)[i * 3 + j]? = (enc3 fr to mk i)[j]? := by
 induction n with
 | zero => omega
 | succ n ih =>
  rw [row3_succ, List.append_assoc]
  have hl := row3_len n fr to mk
  by_cases e : i = n
  ·subst e
   rw [List.getElem?_append_right (by omega), hl, show i * 3 + j - i * 3 = j by omega, List.getElem?_append_left (by simp [enc3]; omega)]
  ·have := ih (by omega)
   rw [List.getElem?_append_left (by rw [hl]; omega)] at this ⊢
   exact this
theorem row3_congr {n : Nat} {fr to mk fr' to' mk' : Nat → Nat} (h : ∀ i, i < n → fr i = fr' i ∧ to i = to' i ∧ mk i = mk' i) : row3 n fr to mk = row3 n fr' to' mk' := by
 unfold row3
 rw [List.flatMap_def, List.flatMap_def]
 congr 1
 refine List.map_congr_left fun i hi => ?_
 obtain ⟨h1, h2, h3⟩ := h i (List.mem_range.1 hi)
 unfold enc3; rw [h1, h2, h3]
theorem row3_set (n : Nat) (fr to mk : Nat → Nat) {i : Nat} (hi : i < n) (fr' to' mk' : Nat → Nat) (he : ∀ k, k ≠ i → fr k = fr' k ∧ to k = to' k ∧ mk k = mk' k)
  {j : Nat} {v : Value} (hv : (enc3 fr to mk i).set j v = enc3 fr' to' mk' i) (hj : j < 3) : (row3 n fr to mk).set (i * 3 + j) v = row3 n fr' to' mk' := by
 induction n with
 | zero => omega
 | succ n ih =>
  have hl := row3_len n fr to mk
  rw [row3_succ, row3_succ]
  by_cases e : i = n
  ·subst e
   rw [List.set_append_right _ _ (by omega), hl, show i * 3 + j - i * 3 = j by omega, hv]
   rw [row3_congr fun k hk => he k (by omega)]
  ·rw [List.set_append_left _ _ (by omega), ih (by omega)]
   congr 1
   obtain ⟨h1, h2, h3⟩ := he n (by omega)
   unfold enc3; rw [h1, h2, h3]
theorem row_g0 {n : Nat} {fr to mk : Nat → Nat} {sp : List Value} {i : Nat} (hi : i < n) : (row3 n fr to mk ++ sp)[i * 3]? = some (.int .i64 (fr i : Nat)) := row3_get (j := 0) hi (by omega)
theorem row_g1 {n : Nat} {fr to mk : Nat → Nat} {sp : List Value} {i : Nat} (hi : i < n) : (row3 n fr to mk ++ sp)[i * 3 + 1]? = some (.int .i64 (to i : Nat)) := row3_get (j := 1) hi (by omega)
theorem row_g2 {n : Nat} {fr to mk : Nat → Nat} {sp : List Value} {i : Nat} (hi : i < n) : (row3 n fr to mk ++ sp)[i * 3 + 2]? = some (.int .i64 (mk i : Nat)) := row3_get (j := 2) hi (by omega)
theorem splice_one' {xs : List Value} {o : Nat} {v : Value} (h : o < xs.length) : splice xs o [v] = xs.set o v := by
 unfold splice
 rw [List.set_eq_take_append_cons_drop, if_pos h]
 simp
theorem row_p0 {n : Nat} {fr to mk : Nat → Nat} {i : Nat} (hi : i < n) (x : Nat) : splice (row3 n fr to mk) (i * 3) [.int .i64 (x : Nat)] = row3 n (updN fr i x) to mk := by
 rw [splice_one' (by rw [row3_len]; omega)]
 exact row3_set n fr to mk hi _ _ _ (fun k hk => ⟨(updN_ne _ _ hk).symm, rfl, rfl⟩) (j := 0) (by simp [enc3, updN_same]) (by omega)
theorem row_p1 {n : Nat} {fr to mk : Nat → Nat} {i : Nat} (hi : i < n) (x : Nat) : splice (row3 n fr to mk) (i * 3 + 1) [.int .i64 (x : Nat)] = row3 n fr (updN to i x) mk := by
 rw [splice_one' (by rw [row3_len]; omega)]
 exact row3_set n fr to mk hi _ _ _ (fun k hk => ⟨rfl, (updN_ne _ _ hk).symm, rfl⟩) (j := 1) (by simp [enc3, updN_same]) (by omega)
theorem row_p2 {n : Nat} {fr to mk : Nat → Nat} {i : Nat} (hi : i < n) (x : Nat) : splice (row3 n fr to mk) (i * 3 + 2) [.int .i64 (x : Nat)] = row3 n fr to (updN mk i x) := by
 rw [splice_one' (by rw [row3_len]; omega)]
 exact row3_set n fr to mk hi _ _ _ (fun k hk => ⟨rfl, rfl, (updN_ne _ _ hk).symm⟩) (j := 2) (by simp [enc3, updN_same]) (by omega)
theorem row3_snoc (n : Nat) (fr to mk : Nat → Nat) (x y z : Nat) : row3 n fr to mk ++ [.int .i64 (x : Nat), .int .i64 (y : Nat), .int .i64 (z : Nat)] = row3 (n + 1) (updN fr n x) (updN to n y) (updN mk n z) := by
 rw [row3_succ]
 congr 1
 ·exact row3_congr fun i hi => ⟨(updN_ne _ _ (by omega)).symm, (updN_ne _ _ (by omega)).symm, (updN_ne _ _ (by omega)).symm⟩
 ·simp only [enc3, updN_same]
theorem row3_one (n : Nat) (fr to mk : Nat → Nat) : (row3 n fr to mk).all oneV = true := by
 unfold row3
 rw [List.all_flatMap]
 exact List.all_eq_true.2 fun i _ => rfl
theorem SliceO.isS {e : TypeId} {v : Value} {n : Nat} {xs : List Value} {kb : Heap} (h : SliceO [] e 1 v n xs kb) : ∃ a c, v = .slice a n c := by
 rcases h with ⟨a, rfl, rfl, _, _⟩ | ⟨b, c, sp, rfl, _⟩
 ·exact ⟨a, 0, rfl⟩
 ·exact ⟨_, c, rfl⟩
def PC (vs va vb vsp vk vw vm : Value) (W : Int) : List Value := [vs, va, vb, vsp, vk, vw, vm, .int .i64 W]
theorem PC_len (vs va vb vsp vk vw vm : Value) (W : Int) : (PC vs va vb vsp vk vw vm W).length = 8 := rfl
theorem PC_g0 (vs va vb vsp vk vw vm : Value) (W : Int) : (PC vs va vb vsp vk vw vm W)[0]? = some vs := rfl
theorem PC_g1 (vs va vb vsp vk vw vm : Value) (W : Int) : (PC vs va vb vsp vk vw vm W)[1]? = some va := rfl
theorem PC_g2 (vs va vb vsp vk vw vm : Value) (W : Int) : (PC vs va vb vsp vk vw vm W)[2]? = some vb := rfl
theorem PC_g3 (vs va vb vsp vk vw vm : Value) (W : Int) : (PC vs va vb vsp vk vw vm W)[3]? = some vsp := rfl
theorem PC_g4 (vs va vb vsp vk vw vm : Value) (W : Int) : (PC vs va vb vsp vk vw vm W)[4]? = some vk := rfl
theorem PC_g5 (vs va vb vsp vk vw vm : Value) (W : Int) : (PC vs va vb vsp vk vw vm W)[5]? = some vw := rfl
theorem PC_g6 (vs va vb vsp vk vw vm : Value) (W : Int) : (PC vs va vb vsp vk vw vm W)[6]? = some vm := rfl
theorem PC_g7 (vs va vb vsp vk vw vm : Value) (W : Int) : (PC vs va vb vsp vk vw vm W)[7]? = some (.int .i64 W) := rfl
theorem PC_p0 (vs va vb vsp vk vw vm x : Value) (W : Int) : splice (PC vs va vb vsp vk vw vm W) 0 [x] = PC x va vb vsp vk vw vm W := rfl
theorem PC_p1 (vs va vb vsp vk vw vm x : Value) (W : Int) : splice (PC vs va vb vsp vk vw vm W) 1 [x] = PC vs x vb vsp vk vw vm W := rfl
theorem PC_p2 (vs va vb vsp vk vw vm x : Value) (W : Int) : splice (PC vs va vb vsp vk vw vm W) 2 [x] = PC vs va x vsp vk vw vm W := rfl
theorem PC_p3 (vs va vb vsp vk vw vm x : Value) (W : Int) : splice (PC vs va vb vsp vk vw vm W) 3 [x] = PC vs va vb x vk vw vm W := rfl
theorem PC_p4 (vs va vb vsp vk vw vm x : Value) (W : Int) : splice (PC vs va vb vsp vk vw vm W) 4 [x] = PC vs va vb vsp x vw vm W := rfl
theorem PC_p5 (vs va vb vsp vk vw vm x : Value) (W : Int) : splice (PC vs va vb vsp vk vw vm W) 5 [x] = PC vs va vb vsp vk x vm W := rfl
theorem PC_p6 (vs va vb vsp vk vw vm x : Value) (W : Int) : splice (PC vs va vb vsp vk vw vm W) 6 [x] = PC vs va vb vsp vk vw x W := rfl
attribute [go_sem] PC_len PC_g0 PC_g1 PC_g2 PC_g3 PC_g4 PC_g5 PC_g6 PC_g7 PC_p0 PC_p1 PC_p2 PC_p3 PC_p4 PC_p5 PC_p6 rowN_len row3_len rowN_one row3_one
end Go.Proofs.Ytdeableflgakdaa
namespace Go.Proofs.Ytdeableflgakdaa
open Go Go.V Go.Proofs
theorem normE_t {l : List Int} (hlen : l.length ≤ 2000000) {G : PHeap} {H : Heap} {R : Value → PHeap → Heap → Prop} {v : Value} (hv : Sl G (Value.int .i64) v l)
  (hR : ∀ v kb, Sep G (keys (H ++ kb)) → SliceO [] 3 1 v l.length ((nums l).map (Value.int .i64)) kb → R v G (H ++ kb)) : FnT Try.prog 31 [v] G H R :=
 FnT.upd (normO_t hlen hv fun v kb hs hO => Upd.go (H' := H ++ kb) (by intro fsum; simp only [List.map_append, List.sum_append]; omega) (Upd.sepI fun hs2 => Upd.now (hR v kb hs2 hO)))
theorem r2_leaf {n bq bp bs ba bm b1 : Nat} {W : Int} {vb : Value} {C xs : List Value} {G : PHeap} {Hc H kb : Heap} {l : Fr} (hO : SliceO [] 3 1 vb n xs kb) (hl : restrict [1, 3, 4] l = [(1, .pointer (some ⟨b1, 0, none⟩)), (3, .int .i64 (n : Nat)), (4, .pointer (some ⟨bq, 0, none⟩))])
  (h1 : (bq, Res.cells [.pointer (some ⟨bp, 0, none⟩)] [] 45) ∈ Hc) (h2 : (bp, Res.cells [.slice (some ⟨bs, 0, none⟩) n n, .slice (some ⟨ba, 0, none⟩) n n, vb, .slice none 0 0, .slice none 0 0, .slice none 0 0, .map (some bm), .int .i64 W] [] 52) ∈ Hc)
  (hsum : ∀ f : Nat × Res → Nat, (((bq, Res.cells [.pointer (some ⟨bp, 0, none⟩)] [] 45) :: (bp, Res.cells (PC (.slice (some ⟨bs, 0, none⟩) n n) (.slice (some ⟨ba, 0, none⟩) n n) vb (.slice none 0 0) (.slice none 0 0) (.slice none 0 0) (.map (some bm)) W) [] 52) :: (bs, Res.cells (List.replicate n (.int .i64 0)) [] 3) :: (ba, Res.cells (List.replicate n (.int .i64 0)) [] 3) :: (bm, Res.map []) :: (b1, Res.cells C [] 27) :: (kb ++ H)).map f).sum ≤ (Hc.map f).sum) :
  Upd G Hc fun G' H' => ∃ bq bp bs ba bm vb kb, SliceO [] 3 1 vb n xs kb ∧ G' = G ∧ restrict [1, 3, 4] l = [(1, .pointer (some ⟨b1, 0, none⟩)), (3, .int .i64 (n : Nat)), (4, .pointer (some ⟨bq, 0, none⟩))] ∧ H' = (bq, Res.cells [.pointer (some ⟨bp, 0, none⟩)] [] 45) :: (bp, Res.cells (PC (.slice (some ⟨bs, 0, none⟩) n n) (.slice (some ⟨ba, 0, none⟩) n n) vb (.slice none 0 0) (.slice none 0 0) (.slice none 0 0) (.map (some bm)) W) [] 52) :: (bs, Res.cells (List.replicate n (.int .i64 0)) [] 3) :: (ba, Res.cells (List.replicate n (.int .i64 0)) [] 3) :: (bm, Res.map []) :: (b1, Res.cells C [] 27) :: (kb ++ H) :=
 Upd.leave hsum ⟨bq, bp, bs, ba, bm, vb, kb, hO, rfl, hl, rfl⟩
theorem np2_t {d : DfaT} (hsm : SmallD d) {C : List Value} {an al ay : Option Addr} {cn cl cs : Nat} {rs : List Value} {G : PHeap} {H : Heap} (O : OpenD G d C an al ay cn cl cs rs) {b1 : Nat} {v2 : Value} :
  Tri Try.prog Try.f27.ntmps (piece [1, 1, 0] Try.f27) G [(1, .pointer (some ⟨b1, 0, none⟩)), (2, v2), (3, .int .i64 (d.label.length : Nat))] ((b1, .cells C [] 27) :: H) (onlyN fun G' l H' =>
   ∃ bq bp bs ba bm vb kb, SliceO [] 3 1 vb d.label.length ((nums d.label).map (Value.int .i64)) kb ∧ G' = G ∧ restrict [1, 3, 4] l = [(1, .pointer (some ⟨b1, 0, none⟩)), (3, .int .i64 (d.label.length : Nat)), (4, .pointer (some ⟨bq, 0, none⟩))] ∧ H' = (bq, Res.cells [.pointer (some ⟨bp, 0, none⟩)] [] 45) :: (bp, Res.cells (PC (.slice (some ⟨bs, 0, none⟩) d.label.length d.label.length) (.slice (some ⟨ba, 0, none⟩) d.label.length d.label.length) vb (.slice none 0 0) (.slice none 0 0) (.slice none 0 0) (.map (some bm)) d.width) [] 52) :: (bs, Res.cells (List.replicate d.label.length (.int .i64 0)) [] 3) :: (ba, Res.cells (List.replicate d.label.length (.int .i64 0)) [] 3) :: (bm, Res.map []) :: (b1, Res.cells C [] 27) :: (kb ++ H)) := by
 obtain ⟨hm1, hm2, hm3, hm4, hm5⟩ := id hsm
 have hCl := O.len
 have hCx := O.l
 have hCw := O.w
 have hlab := O.label
 refine Tri.sepT fun hs0 => ?_
 have hsE := hs0
 try simp only [zzs] at hsE
 repeat (obtain ⟨hsx, hsE⟩ := hsE)
 refine Tri.piece (f := Try.f27) rfl ?_
 refine Tri.run tok [0, 1, 2, 3, 4, 5, 6, 7, 8, 9, 10, 11, 27, 28, 29, 48, 49, 50, 51, 75, 113, 114, 115, 126, 127, 128, 129] (by kernel_rfl) ?_
 repeat' first
  | (with_reducible first | refine Nx.go ?_ | refine Bk.go (fun _ => ?_) fun _ => ?_)
  | ((with_reducible first | refine NewB.mk2 fun nb hnb hnb1 hnb2 => ?_ | refine NewRow.mk2 fun nb nsp ncap hnb hncap hnb1 hnb2 => ?_); try simp only [zzn] at hnb2)
  | simp -dsimp -implicitDefEqProofs (disch := first | assumption | (simp only [zzm]; done) | omega | (try with_reducible refine Row.adr (by assumption) ?_); simp only [zzl, Nat.reduceAdd]; first | done | omega) only [go_sem, ↓reduceIte, seval, -List.reduceReplicate, hCl, hCx, hCw]
  | with_reducible refine Tri.drawS tok mixed [0, 1, 2, 3, 4, 5, 6, 7, 8, 9, 10, 11, 27, 28, 29, 48, 49, 50, 51, 75, 113, 114, 115, 126, 127, 128, 129] 2 [5, 9] (.op 0 .plain (.op 2 .plain (.op 4 .plain (.op 5 .held (.op 8 .plain (.op 9 .held (.both (.op 1 .keeps (.both (.op 3 .keeps (.both (.op 6 .keeps (.both (.op 7 .keeps (.op 10 .plain (.both (.op 11 .keeps (.op 12 .keeps (.op 13 .plain .nil))) (.op 12 .keeps (.op 11 .keeps (.op 13 .plain .nil)))))) (.op 12 .keeps (.op 7 .keeps (.op 10 .plain (.op 11 .keeps (.op 13 .plain .nil))))))) (.both (.op 7 .keeps (.both (.op 6 .keeps (.op 10 .plain (.both (.op 11 .keeps (.op 12 .keeps (.op 13 .plain .nil))) (.op 12 .keeps (.op 11 .keeps (.op 13 .plain .nil)))))) (.op 12 .keeps (.op 6 .keeps (.op 10 .plain (.op 11 .keeps (.op 13 .plain .nil))))))) (.op 12 .keeps (.both (.op 6 .keeps (.op 7 .keeps (.op 10 .plain (.op 11 .keeps (.op 13 .plain .nil))))) (.op 7 .keeps (.op 6 .keeps (.op 10 .plain (.op 11 .keeps (.op 13 .plain .nil)))))))))) (.both (.op 6 .keeps (.both (.op 3 .keeps (.both (.op 7 .keeps (.op 10 .plain (.both (.op 11 .keeps (.op 12 .keeps (.op 13 .plain .nil))) (.op 12 .keeps (.op 11 .keeps (.op 13 .plain .nil)))))) (.op 12 .keeps (.op 7 .keeps (.op 10 .plain (.op 11 .keeps (.op 13 .plain .nil))))))) (.both (.op 7 .keeps (.both (.op 3 .keeps (.op 10 .plain (.both (.op 11 .keeps (.op 12 .keeps (.op 13 .plain .nil))) (.op 12 .keeps (.op 11 .keeps (.op 13 .plain .nil)))))) (.op 12 .keeps (.op 3 .keeps (.op 10 .plain (.op 11 .keeps (.op 13 .plain .nil))))))) (.op 12 .keeps (.both (.op 3 .keeps (.op 7 .keeps (.op 10 .plain (.op 11 .keeps (.op 13 .plain .nil))))) (.op 7 .keeps (.op 3 .keeps (.op 10 .plain (.op 11 .keeps (.op 13 .plain .nil)))))))))) (.both (.op 7 .keeps (.both (.op 3 .keeps (.both (.op 6 .keeps (.op 10 .plain (.both (.op 11 .keeps (.op 12 .keeps (.op 13 .plain .nil))) (.op 12 .keeps (.op 11 .keeps (.op 13 .plain .nil)))))) (.op 12 .keeps (.op 6 .keeps (.op 10 .plain (.op 11 .keeps (.op 13 .plain .nil))))))) (.both (.op 6 .keeps (.both (.op 3 .keeps (.op 10 .plain (.both (.op 11 .keeps (.op 12 .keeps (.op 13 .plain .nil))) (.op 12 .keeps (.op 11 .keeps (.op 13 .plain .nil)))))) (.op 12 .keeps (.op 3 .keeps (.op 10 .plain (.op 11 .keeps (.op 13 .plain .nil))))))) (.op 12 .keeps (.both (.op 3 .keeps (.op 6 .keeps (.op 10 .plain (.op 11 .keeps (.op 13 .plain .nil))))) (.op 6 .keeps (.op 3 .keeps (.op 10 .plain (.op 11 .keeps (.op 13 .plain .nil)))))))))) (.op 12 .keeps (.both (.op 3 .keeps (.both (.op 6 .keeps (.op 7 .keeps (.op 10 .plain (.op 11 .keeps (.op 13 .plain .nil))))) (.op 7 .keeps (.op 6 .keeps (.op 10 .plain (.op 11 .keeps (.op 13 .plain .nil))))))) (.both (.op 6 .keeps (.both (.op 3 .keeps (.op 7 .keeps (.op 10 .plain (.op 11 .keeps (.op 13 .plain .nil))))) (.op 7 .keeps (.op 3 .keeps (.op 10 .plain (.op 11 .keeps (.op 13 .plain .nil))))))) (.op 7 .keeps (.both (.op 3 .keeps (.op 6 .keeps (.op 10 .plain (.op 11 .keeps (.op 13 .plain .nil))))) (.op 6 .keeps (.op 3 .keeps (.op 10 .plain (.op 11 .keeps (.op 13 .plain .nil)))))))))))))) (.both (.op 3 .keeps (.both (.op 1 .keeps (.both (.op 6 .keeps (.both (.op 7 .keeps (.op 10 .plain (.both (.op 11 .keeps (.op 12 .keeps (.op 13 .plain .nil))) (.op 12 .keeps (.op 11 .keeps (.op 13 .plain .nil)))))) (.op 12 .keeps (.op 7 .keeps (.op 10 .plain (.op 11 .keeps (.op 13 .plain .nil))))))) (.both (.op 7 .keeps (.both (.op 6 .keeps (.op 10 .plain (.both (.op 11 .keeps (.op 12 .keeps (.op 13 .plain .nil))) (.op 12 .keeps (.op 11 .keeps (.op 13 .plain .nil)))))) (.op 12 .keeps (.op 6 .keeps (.op 10 .plain (.op 11 .keeps (.op 13 .plain .nil))))))) (.op 12 .keeps (.both (.op 6 .keeps (.op 7 .keeps (.op 10 .plain (.op 11 .keeps (.op 13 .plain .nil))))) (.op 7 .keeps (.op 6 .keeps (.op 10 .plain (.op 11 .keeps (.op 13 .plain .nil)))))))))) (.both (.op 6 .keeps (.both (.op 1 .keeps (.both (.op 7 .keeps (.op 10 .plain (.both (.op 11 .keeps (.op 12 .keeps (.op 13 .plain .nil))) (.op 12 .keeps (.op 11 .keeps (.op 13 .plain .nil)))))) (.op 12 .keeps (.op 7 .keeps (.op 10 .plain (.op 11 .keeps (.op 13 .plain .nil))))))) (.both (.op 7 .keeps (.both (.op 1 .keeps (.op 10 .plain (.both (.op 11 .keeps (.op 12 .keeps (.op 13 .plain .nil))) (.op 12 .keeps (.op 11 .keeps (.op 13 .plain .nil)))))) (.op 12 .keeps (.op 1 .keeps (.op 10 .plain (.op 11 .keeps (.op 13 .plain .nil))))))) (.op 12 .keeps (.both (.op 1 .keeps (.op 7 .keeps (.op 10 .plain (.op 11 .keeps (.op 13 .plain .nil))))) (.op 7 .keeps (.op 1 .keeps (.op 10 .plain (.op 11 .keeps (.op 13 .plain .nil)))))))))) (.both (.op 7 .keeps (.both (.op 1 .keeps (.both (.op 6 .keeps (.op 10 .plain (.both (.op 11 .keeps (.op 12 .keeps (.op 13 .plain .nil))) (.op 12 .keeps (.op 11 .keeps (.op 13 .plain .nil)))))) (.op 12 .keeps (.op 6 .keeps (.op 10 .plain (.op 11 .keeps (.op 13 .plain .nil))))))) (.both (.op 6 .keeps (.both (.op 1 .keeps (.op 10 .plain (.both (.op 11 .keeps (.op 12 .keeps (.op 13 .plain .nil))) (.op 12 .keeps (.op 11 .keeps (.op 13 .plain .nil)))))) (.op 12 .keeps (.op 1 .keeps (.op 10 .plain (.op 11 .keeps (.op 13 .plain .nil))))))) (.op 12 .keeps (.both (.op 1 .keeps (.op 6 .keeps (.op 10 .plain (.op 11 .keeps (.op 13 .plain .nil))))) (.op 6 .keeps (.op 1 .keeps (.op 10 .plain (.op 11 .keeps (.op 13 .plain .nil)))))))))) (.op 12 .keeps (.both (.op 1 .keeps (.both (.op 6 .keeps (.op 7 .keeps (.op 10 .plain (.op 11 .keeps (.op 13 .plain .nil))))) (.op 7 .keeps (.op 6 .keeps (.op 10 .plain (.op 11 .keeps (.op 13 .plain .nil))))))) (.both (.op 6 .keeps (.both (.op 1 .keeps (.op 7 .keeps (.op 10 .plain (.op 11 .keeps (.op 13 .plain .nil))))) (.op 7 .keeps (.op 1 .keeps (.op 10 .plain (.op 11 .keeps (.op 13 .plain .nil))))))) (.op 7 .keeps (.both (.op 1 .keeps (.op 6 .keeps (.op 10 .plain (.op 11 .keeps (.op 13 .plain .nil))))) (.op 6 .keeps (.op 1 .keeps (.op 10 .plain (.op 11 .keeps (.op 13 .plain .nil)))))))))))))) (.both (.op 6 .keeps (.both (.op 1 .keeps (.both (.op 3 .keeps (.both (.op 7 .keeps (.op 10 .plain (.both (.op 11 .keeps (.op 12 .keeps (.op 13 .plain .nil))) (.op 12 .keeps (.op 11 .keeps (.op 13 .plain .nil)))))) (.op 12 .keeps (.op 7 .keeps (.op 10 .plain (.op 11 .keeps (.op 13 .plain .nil))))))) (.both (.op 7 .keeps (.both (.op 3 .keeps (.op 10 .plain (.both (.op 11 .keeps (.op 12 .keeps (.op 13 .plain .nil))) (.op 12 .keeps (.op 11 .keeps (.op 13 .plain .nil)))))) (.op 12 .keeps (.op 3 .keeps (.op 10 .plain (.op 11 .keeps (.op 13 .plain .nil))))))) (.op 12 .keeps (.both (.op 3 .keeps (.op 7 .keeps (.op 10 .plain (.op 11 .keeps (.op 13 .plain .nil))))) (.op 7 .keeps (.op 3 .keeps (.op 10 .plain (.op 11 .keeps (.op 13 .plain .nil)))))))))) (.both (.op 3 .keeps (.both (.op 1 .keeps (.both (.op 7 .keeps (.op 10 .plain (.both (.op 11 .keeps (.op 12 .keeps (.op 13 .plain .nil))) (.op 12 .keeps (.op 11 .keeps (.op 13 .plain .nil)))))) (.op 12 .keeps (.op 7 .keeps (.op 10 .plain (.op 11 .keeps (.op 13 .plain .nil))))))) (.both (.op 7 .keeps (.both (.op 1 .keeps (.op 10 .plain (.both (.op 11 .keeps (.op 12 .keeps (.op 13 .plain .nil))) (.op 12 .keeps (.op 11 .keeps (.op 13 .plain .nil)))))) (.op 12 .keeps (.op 1 .keeps (.op 10 .plain (.op 11 .keeps (.op 13 .plain .nil))))))) (.op 12 .keeps (.both (.op 1 .keeps (.op 7 .keeps (.op 10 .plain (.op 11 .keeps (.op 13 .plain .nil))))) (.op 7 .keeps (.op 1 .keeps (.op 10 .plain (.op 11 .keeps (.op 13 .plain .nil)))))))))) (.both (.op 7 .keeps (.both (.op 1 .keeps (.both (.op 3 .keeps (.op 10 .plain (.both (.op 11 .keeps (.op 12 .keeps (.op 13 .plain .nil))) (.op 12 .keeps (.op 11 .keeps (.op 13 .plain .nil)))))) (.op 12 .keeps (.op 3 .keeps (.op 10 .plain (.op 11 .keeps (.op 13 .plain .nil))))))) (.both (.op 3 .keeps (.both (.op 1 .keeps (.op 10 .plain (.both (.op 11 .keeps (.op 12 .keeps (.op 13 .plain .nil))) (.op 12 .keeps (.op 11 .keeps (.op 13 .plain .nil)))))) (.op 12 .keeps (.op 1 .keeps (.op 10 .plain (.op 11 .keeps (.op 13 .plain .nil))))))) (.op 12 .keeps (.both (.op 1 .keeps (.op 3 .keeps (.op 10 .plain (.op 11 .keeps (.op 13 .plain .nil))))) (.op 3 .keeps (.op 1 .keeps (.op 10 .plain (.op 11 .keeps (.op 13 .plain .nil)))))))))) (.op 12 .keeps (.both (.op 1 .keeps (.both (.op 3 .keeps (.op 7 .keeps (.op 10 .plain (.op 11 .keeps (.op 13 .plain .nil))))) (.op 7 .keeps (.op 3 .keeps (.op 10 .plain (.op 11 .keeps (.op 13 .plain .nil))))))) (.both (.op 3 .keeps (.both (.op 1 .keeps (.op 7 .keeps (.op 10 .plain (.op 11 .keeps (.op 13 .plain .nil))))) (.op 7 .keeps (.op 1 .keeps (.op 10 .plain (.op 11 .keeps (.op 13 .plain .nil))))))) (.op 7 .keeps (.both (.op 1 .keeps (.op 3 .keeps (.op 10 .plain (.op 11 .keeps (.op 13 .plain .nil))))) (.op 3 .keeps (.op 1 .keeps (.op 10 .plain (.op 11 .keeps (.op 13 .plain .nil)))))))))))))) (.both (.op 7 .keeps (.both (.op 1 .keeps (.both (.op 3 .keeps (.both (.op 6 .keeps (.op 10 .plain (.both (.op 11 .keeps (.op 12 .keeps (.op 13 .plain .nil))) (.op 12 .keeps (.op 11 .keeps (.op 13 .plain .nil)))))) (.op 12 .keeps (.op 6 .keeps (.op 10 .plain (.op 11 .keeps (.op 13 .plain .nil))))))) (.both (.op 6 .keeps (.both (.op 3 .keeps (.op 10 .plain (.both (.op 11 .keeps (.op 12 .keeps (.op 13 .plain .nil))) (.op 12 .keeps (.op 11 .keeps (.op 13 .plain .nil)))))) (.op 12 .keeps (.op 3 .keeps (.op 10 .plain (.op 11 .keeps (.op 13 .plain .nil))))))) (.op 12 .keeps (.both (.op 3 .keeps (.op 6 .keeps (.op 10 .plain (.op 11 .keeps (.op 13 .plain .nil))))) (.op 6 .keeps (.op 3 .keeps (.op 10 .plain (.op 11 .keeps (.op 13 .plain .nil)))))))))) (.both (.op 3 .keeps (.both (.op 1 .keeps (.both (.op 6 .keeps (.op 10 .plain (.both (.op 11 .keeps (.op 12 .keeps (.op 13 .plain .nil))) (.op 12 .keeps (.op 11 .keeps (.op 13 .plain .nil)))))) (.op 12 .keeps (.op 6 .keeps (.op 10 .plain (.op 11 .keeps (.op 13 .plain .nil))))))) (.both (.op 6 .keeps (.both (.op 1 .keeps (.op 10 .plain (.both (.op 11 .keeps (.op 12 .keeps (.op 13 .plain .nil))) (.op 12 .keeps (.op 11 .keeps (.op 13 .plain .nil)))))) (.op 12 .keeps (.op 1 .keeps (.op 10 .plain (.op 11 .keeps (.op 13 .plain .nil))))))) (.op 12 .keeps (.both (.op 1 .keeps (.op 6 .keeps (.op 10 .plain (.op 11 .keeps (.op 13 .plain .nil))))) (.op 6 .keeps (.op 1 .keeps (.op 10 .plain (.op 11 .keeps (.op 13 .plain .nil)))))))))) (.both (.op 6 .keeps (.both (.op 1 .keeps (.both (.op 3 .keeps (.op 10 .plain (.both (.op 11 .keeps (.op 12 .keeps (.op 13 .plain .nil))) (.op 12 .keeps (.op 11 .keeps (.op 13 .plain .nil)))))) (.op 12 .keeps (.op 3 .keeps (.op 10 .plain (.op 11 .keeps (.op 13 .plain .nil))))))) (.both (.op 3 .keeps (.both (.op 1 .keeps (.op 10 .plain (.both (.op 11 .keeps (.op 12 .keeps (.op 13 .plain .nil))) (.op 12 .keeps (.op 11 .keeps (.op 13 .plain .nil)))))) (.op 12 .keeps (.op 1 .keeps (.op 10 .plain (.op 11 .keeps (.op 13 .plain .nil))))))) (.op 12 .keeps (.both (.op 1 .keeps (.op 3 .keeps (.op 10 .plain (.op 11 .keeps (.op 13 .plain .nil))))) (.op 3 .keeps (.op 1 .keeps (.op 10 .plain (.op 11 .keeps (.op 13 .plain .nil)))))))))) (.op 12 .keeps (.both (.op 1 .keeps (.both (.op 3 .keeps (.op 6 .keeps (.op 10 .plain (.op 11 .keeps (.op 13 .plain .nil))))) (.op 6 .keeps (.op 3 .keeps (.op 10 .plain (.op 11 .keeps (.op 13 .plain .nil))))))) (.both (.op 3 .keeps (.both (.op 1 .keeps (.op 6 .keeps (.op 10 .plain (.op 11 .keeps (.op 13 .plain .nil))))) (.op 6 .keeps (.op 1 .keeps (.op 10 .plain (.op 11 .keeps (.op 13 .plain .nil))))))) (.op 6 .keeps (.both (.op 1 .keeps (.op 3 .keeps (.op 10 .plain (.op 11 .keeps (.op 13 .plain .nil))))) (.op 3 .keeps (.op 1 .keeps (.op 10 .plain (.op 11 .keeps (.op 13 .plain .nil)))))))))))))) (.op 12 .keeps (.both (.op 1 .keeps (.both (.op 3 .keeps (.both (.op 6 .keeps (.op 7 .keeps (.op 10 .plain (.op 11 .keeps (.op 13 .plain .nil))))) (.op 7 .keeps (.op 6 .keeps (.op 10 .plain (.op 11 .keeps (.op 13 .plain .nil))))))) (.both (.op 6 .keeps (.both (.op 3 .keeps (.op 7 .keeps (.op 10 .plain (.op 11 .keeps (.op 13 .plain .nil))))) (.op 7 .keeps (.op 3 .keeps (.op 10 .plain (.op 11 .keeps (.op 13 .plain .nil))))))) (.op 7 .keeps (.both (.op 3 .keeps (.op 6 .keeps (.op 10 .plain (.op 11 .keeps (.op 13 .plain .nil))))) (.op 6 .keeps (.op 3 .keeps (.op 10 .plain (.op 11 .keeps (.op 13 .plain .nil)))))))))) (.both (.op 3 .keeps (.both (.op 1 .keeps (.both (.op 6 .keeps (.op 7 .keeps (.op 10 .plain (.op 11 .keeps (.op 13 .plain .nil))))) (.op 7 .keeps (.op 6 .keeps (.op 10 .plain (.op 11 .keeps (.op 13 .plain .nil))))))) (.both (.op 6 .keeps (.both (.op 1 .keeps (.op 7 .keeps (.op 10 .plain (.op 11 .keeps (.op 13 .plain .nil))))) (.op 7 .keeps (.op 1 .keeps (.op 10 .plain (.op 11 .keeps (.op 13 .plain .nil))))))) (.op 7 .keeps (.both (.op 1 .keeps (.op 6 .keeps (.op 10 .plain (.op 11 .keeps (.op 13 .plain .nil))))) (.op 6 .keeps (.op 1 .keeps (.op 10 .plain (.op 11 .keeps (.op 13 .plain .nil)))))))))) (.both (.op 6 .keeps (.both (.op 1 .keeps (.both (.op 3 .keeps (.op 7 .keeps (.op 10 .plain (.op 11 .keeps (.op 13 .plain .nil))))) (.op 7 .keeps (.op 3 .keeps (.op 10 .plain (.op 11 .keeps (.op 13 .plain .nil))))))) (.both (.op 3 .keeps (.both (.op 1 .keeps (.op 7 .keeps (.op 10 .plain (.op 11 .keeps (.op 13 .plain .nil))))) (.op 7 .keeps (.op 1 .keeps (.op 10 .plain (.op 11 .keeps (.op 13 .plain .nil))))))) (.op 7 .keeps (.both (.op 1 .keeps (.op 3 .keeps (.op 10 .plain (.op 11 .keeps (.op 13 .plain .nil))))) (.op 3 .keeps (.op 1 .keeps (.op 10 .plain (.op 11 .keeps (.op 13 .plain .nil)))))))))) (.op 7 .keeps (.both (.op 1 .keeps (.both (.op 3 .keeps (.op 6 .keeps (.op 10 .plain (.op 11 .keeps (.op 13 .plain .nil))))) (.op 6 .keeps (.op 3 .keeps (.op 10 .plain (.op 11 .keeps (.op 13 .plain .nil))))))) (.both (.op 3 .keeps (.both (.op 1 .keeps (.op 6 .keeps (.op 10 .plain (.op 11 .keeps (.op 13 .plain .nil))))) (.op 6 .keeps (.op 1 .keeps (.op 10 .plain (.op 11 .keeps (.op 13 .plain .nil))))))) (.op 6 .keeps (.both (.op 1 .keeps (.op 3 .keeps (.op 10 .plain (.op 11 .keeps (.op 13 .plain .nil))))) (.op 3 .keeps (.op 1 .keeps (.op 10 .plain (.op 11 .keeps (.op 13 .plain .nil)))))))))))))))))))))))) (by kernel_rfl) [(b1, .cells C [] 27)] (by intro fsum; first | exact Nat.le_refl _ | (simp only [zzq]; omega)) ?_
 repeat' (with_reducible refine And.intro ?_ ?_)
 all_goals as_aux_lemma =>
  repeat' first
   | (with_reducible first | refine Nx.go ?_ | refine Bk.go (fun _ => ?_) fun _ => ?_)
   | ((with_reducible first | refine NewB.mk2 fun nb hnb hnb1 hnb2 => ?_ | refine NewRow.mk2 fun nb nsp ncap hnb hncap hnb1 hnb2 => ?_); try simp only [zzn] at hnb2)
   | simp -dsimp -implicitDefEqProofs (disch := first | assumption | (simp only [zzm]; done) | omega | (try with_reducible refine Row.adr (by assumption) ?_); simp only [zzl, Nat.reduceAdd]; first | done | omega) only [go_sem, ↓reduceIte, seval, -List.reduceReplicate, hCl, hCx, hCw, Nat.sub_self, List.replicate_zero]
   | ((with_reducible refine normE_t hm3 hlab fun vb kb hsk hO => ?_); obtain ⟨av, cv, rfl⟩ := SliceO.isS hO; (have hsE := hsk; try simp only [zzs] at hsE; repeat (obtain ⟨hsx, hsE⟩ := hsE)))
   | with_reducible refine And.intro ?_ ?_
  all_goals
   apply r2_leaf hO rfl
   ·repeat first
     | exact List.Mem.head _
     | with_reducible refine List.mem_append_right _ ?_
     | refine List.Mem.tail _ ?_
   ·repeat first
     | exact List.Mem.head _
     | with_reducible refine List.mem_append_right _ ?_
     | refine List.Mem.tail _ ?_
   ·intro fsum; simp only [PC, List.map_append, List.map_cons, List.map_nil, List.sum_append, List.sum_cons, List.sum_nil, List.cons_append, List.nil_append]; omega
end Go.Proofs.Ytdeableflgakdaa
namespace Go.Proofs.Ytdeableflgakdaa
open Go Go.V Go.Proofs
theorem nums_onto {α : Type} [DecidableEq α] {l : List α} {v : Nat} (h : v < (tabO l).length) : ∃ t, ∃ ht : t < l.length, (nums l)[t]'(by rw [nums_len]; exact ht) = (v : Int) := by
 have hm : (tabO l)[v] ∈ l := (mem_tabO l).1 (List.getElem_mem h)
 obtain ⟨t, ht, e⟩ := List.getElem_of_mem hm
 refine ⟨t, ht, ?_⟩
 rw [nums_get ht, e, findF_some (place_get (tabO_nodup l) h)]
def blF (l : List Int) (i : Nat) : Nat := ((nums l).getD i 0).toNat
theorem blF_at {l : List Int} {i : Nat} (h : i < l.length) : (nums l)[i]'(by rw [nums_len]; exact h) = (blF l i : Int) := by
 have hl : i < (nums l).length := by rw [nums_len]; exact h
 unfold blF
 rw [List.getD_eq_getElem?_getD, List.getElem?_eq_getElem hl]
 have := nums_bound (List.getElem_mem hl)
 show _ = (((nums l)[i]).toNat : Int)
 omega
theorem blF_iff {l : List Int} {i j : Nat} (hi : i < l.length) (hj : j < l.length) : blF l i = blF l j ↔ l[i] = l[j] := by
 rw [← nums_iff hi hj, blF_at hi, blF_at hj]; omega
theorem blF_row (l : List Int) : (nums l).map (Value.int .i64) = rowN l.length (blF l) := by
 have := rowN_of (l := nums l) (f := blF l) fun i hi => blF_at (by rw [nums_len] at hi; exact hi)
 rw [nums_len] at this
 exact this
theorem blF_onto {l : List Int} {s v : Nat} (hs : s < l.length) (h : v ≤ blF l s) : ∃ t, t < l.length ∧ blF l t = v := by
 have hb := nums_bound (l := l) (n := (nums l)[s]'(by rw [nums_len]; exact hs)) (List.getElem_mem _)
 rw [blF_at hs] at hb
 obtain ⟨t, ht, e⟩ := nums_onto (l := l) (v := v) (by omega)
 refine ⟨t, ht, ?_⟩
 rw [blF_at ht] at e
 omega
theorem blF_lt {l : List Int} {s : Nat} (hs : s < l.length) : blF l s < l.length := by
 have hb := nums_bound (l := l) (n := (nums l)[s]'(by rw [nums_len]; exact hs)) (List.getElem_mem _)
 rw [blF_at hs] at hb
 have := tabO_len l
 omega
structure SpI (bf f : Nat → Nat) (i nb : Nat) (fr to pl : Nat → Nat) : Prop where
 pl : ∀ j, j < i → pl (f j) = j
 nb0 : i = 0 → nb = 0
 nb1 : 0 < i → nb = bf (f (i - 1)) + 1
 span : ∀ b, b < nb → fr b < to b ∧ to b ≤ i ∧ ∀ j, fr b ≤ j → j < to b → bf (f j) = b
 each : ∀ j, j < i → bf (f j) < nb ∧ fr (bf (f j)) ≤ j ∧ j < to (bf (f j))
theorem SpI.zero (bf f fr to pl : Nat → Nat) : SpI bf f 0 0 fr to pl := ⟨fun j h => by omega, fun _ => rfl, fun h => by omega, fun b h => by omega, fun j h => by omega⟩
theorem SpI.next {bf f fr to pl : Nat → Nat} {n i nb : Nat} (h : SpI bf f i nb fr to pl) (hs : SrtO (fun s => (bf s : Int)) f 0 n) (hi : i < n) (ho : ∀ j v, j < n → v ≤ bf (f j) → ∃ t, t < n ∧ bf (f t) = v) : bf (f i) ≤ nb ∧ nb ≤ bf (f i) + 1 := by
 have hmono : ∀ x y, x ≤ y → y < n → bf (f x) ≤ bf (f y) := fun x y h1 h2 => by
  have := hs.le (Nat.zero_le x) h1 h2
  omega
 rcases Nat.eq_zero_or_pos i with e | e
 ·rw [h.nb0 e]
  obtain ⟨t, h1, h2⟩ := ho i 0 hi (Nat.zero_le _)
  have := hmono i t (by omega) h1
  omega
 ·rw [h.nb1 e]
  refine ⟨?_, ?_⟩
  ·apply Classical.byContradiction
   intro hn
   obtain ⟨t, h1, h2⟩ := ho i (bf (f (i - 1)) + 1) hi (by omega)
   rcases Nat.lt_or_ge t i with g | g
   ·have := hmono t (i - 1) (by omega) (by omega); omega
   ·have := hmono i t g h1; omega
  ·have := hmono (i - 1) i (by omega) hi; omega
theorem SpI.new {bf f fr to pl : Nat → Nat} {n i nb : Nat} (h : SpI bf f i nb fr to pl) (hinj : ∀ x y, x < n → y < n → f x = f y → x = y) (hi : i < n) (he : bf (f i) = nb) : SpI bf f (i + 1) (nb + 1) (updN fr nb i) (updN (updN to nb i) nb (i + 1)) (updN pl (f i) i) := by
 refine ⟨fun j hj => ?_, fun h => by omega, fun _ => by rw [Nat.add_sub_cancel, he], fun b hb => ?_, fun j hj => ?_⟩
 ·unfold updN
  by_cases e : f j = f i
  ·rw [if_pos e]; exact (hinj j i (by omega) hi e).symm
  ·rw [if_neg e]
   refine h.pl j ?_
   rcases Nat.lt_or_ge j i with g | g
   ·exact g
   ·exact absurd (by rw [show j = i by omega]) e
 ·unfold updN
  by_cases e : b = nb
  ·rw [if_pos e, if_pos e]
   exact ⟨by omega, Nat.le_refl _, fun j h1 h2 => by rw [show j = i by omega, he, e]⟩
  ·rw [if_neg e, if_neg e, if_neg e]
   obtain ⟨a1, a2, a3⟩ := h.span b (by omega)
   exact ⟨a1, by omega, a3⟩
 ·rcases Nat.lt_or_ge j i with g | g
  ·obtain ⟨a1, a2, a3⟩ := h.each j g
   unfold updN
   rw [if_neg (by omega), if_neg (by omega), if_neg (by omega)]
   exact ⟨by omega, a2, a3⟩
  ·obtain rfl : j = i := by omega
   rw [he]
   unfold updN
   rw [if_pos rfl, if_pos rfl]
   omega
theorem SpI.old {bf f fr to pl : Nat → Nat} {n i nb : Nat} (h : SpI bf f i nb fr to pl) (hinj : ∀ x y, x < n → y < n → f x = f y → x = y) (hi : i < n) (he : bf (f i) + 1 = nb) : SpI bf f (i + 1) nb fr (updN to (bf (f i)) (to (bf (f i)) + 1)) (updN pl (f i) i) ∧ to (bf (f i)) = i := by
 have hi0 : 0 < i := by
  rcases Nat.eq_zero_or_pos i with e | e
  ·have := h.nb0 e; omega
  ·exact e
 have hc := h.nb1 hi0
 have hce : bf (f (i - 1)) = bf (f i) := by omega
 obtain ⟨a1, a2, a3⟩ := h.each (i - 1) (by omega)
 rw [hce] at a1 a2 a3
 obtain ⟨b1, b2, b3⟩ := h.span (bf (f i)) a1
 have hto : to (bf (f i)) = i := by omega
 refine ⟨⟨fun j hj => ?_, fun h => by omega, fun _ => by rw [Nat.add_sub_cancel]; exact he.symm, fun b hb => ?_, fun j hj => ?_⟩, hto⟩
 ·unfold updN
  by_cases e : f j = f i
  ·rw [if_pos e]; exact (hinj j i (by omega) hi e).symm
  ·rw [if_neg e]
   refine h.pl j ?_
   rcases Nat.lt_or_ge j i with g | g
   ·exact g
   ·exact absurd (by rw [show j = i by omega]) e
 ·unfold updN
  by_cases e : b = bf (f i)
  ·rw [if_pos e, e, hto]
   refine ⟨by omega, Nat.le_refl _, fun j h1 h2 => ?_⟩
   rcases Nat.lt_or_ge j i with g | g
   ·exact b3 j h1 (by omega)
   ·rw [show j = i by omega]
  ·rw [if_neg e]
   obtain ⟨a1, a2, a3⟩ := h.span b hb
   exact ⟨a1, by omega, a3⟩
 ·rcases Nat.lt_or_ge j i with g | g
  ·obtain ⟨a1, a2, a3⟩ := h.each j g
   refine ⟨a1, a2, ?_⟩
   unfold updN
   split <;> rename_i e
   ·rw [e] at a3; omega
   ·exact a3
  ·obtain rfl : j = i := by omega
   unfold updN
   rw [if_pos rfl]
   omega
theorem SpI.done {bf f fr to pl : Nat → Nat} {n nb : Nat} (h : SpI bf f n nb fr to pl) (hf : BijN n f) : PInv n nb f pl bf fr to fun _ => 0 := by
 obtain ⟨p, h1, h2⟩ := hf
 have hpl : ∀ s, s < n → pl s = p s := fun s hs => by
  have := h.pl (p s) (h2 s hs).1
  rw [(h2 s hs).2] at this
  exact this
 refine ⟨fun i hi => (h1 i hi).1, fun s hs => by rw [hpl s hs]; exact (h2 s hs).1, fun i hi => h.pl i hi, fun s hs => by rw [hpl s hs]; exact (h2 s hs).2, fun s hs => ?_, fun s hs => ?_, fun s hs => ?_, fun b hb => (h.span b hb).1, fun b hb => (h.span b hb).2.1, fun b hb => ?_, fun b i hb g1 g2 => (h.span b hb).2.2 i g1 g2⟩
 ·have := (h.each (p s) (h2 s hs).1).1
  rw [(h2 s hs).2] at this; exact this
 ·have := (h.each (p s) (h2 s hs).1).2.1
  rw [(h2 s hs).2] at this; rw [hpl s hs]; exact this
 ·have := (h.each (p s) (h2 s hs).1).2.2
  rw [(h2 s hs).2] at this; rw [hpl s hs]; exact this
 ·have := (h.span b hb).1
  omega
theorem np3_t {n : Nat} (hn : n ≤ 2000000) {bq bp bs : Nat} {W : Int} {v1 va vb vsp vk vw vm : Value} {G : PHeap} {H : Heap} :
  Tri Try.prog Try.f27.ntmps (piece [1, 1, 1, 0] Try.f27) G [(1, v1), (3, .int .i64 (n : Nat)), (4, .pointer (some ⟨bq, 0, none⟩))] ((bq, .cells [.pointer (some ⟨bp, 0, none⟩)] [] 45) :: (bp, .cells (PC (.slice (some ⟨bs, 0, none⟩) n n) va vb vsp vk vw vm W) [] 52) :: (bs, .cells (rowN n fun _ => 0) [] 3) :: H) (onlyN fun G' l H' =>
   G' = G ∧ restrict [1, 3, 4] l = [(1, v1), (3, .int .i64 (n : Nat)), (4, .pointer (some ⟨bq, 0, none⟩))] ∧ H' = (bq, .cells [.pointer (some ⟨bp, 0, none⟩)] [] 45) :: (bp, .cells (PC (.slice (some ⟨bs, 0, none⟩) n n) va vb vsp vk vw vm W) [] 52) :: (bs, .cells (rowN n fun i => i) [] 3) :: H) := by
 refine Tri.sepT fun hs0 => ?_
 have hsE := hs0
 try simp only [zzs] at hsE
 repeat (obtain ⟨hsx, hsE⟩ := hsE)
 refine Tri.piece (f := Try.f27) rfl ?_
 refine Tri.run tok [0, 1, 2, 3, 4, 5, 6, 7, 8, 9, 10, 11, 27, 28, 29, 48, 49, 50, 51, 75, 113, 114, 115, 126, 127, 128, 129] (by kernel_rfl) ?_
 repeat' first
  | (with_reducible first | refine Nx.go ?_ | refine Bk.go (fun _ => ?_) fun _ => ?_)
  | ((with_reducible first | refine NewB.mk2 fun nb hnb hnb1 hnb2 => ?_ | refine NewRow.mk2 fun nb nsp ncap hnb hncap hnb1 hnb2 => ?_); try simp only [zzn] at hnb2)
  | simp -dsimp -implicitDefEqProofs (disch := first | assumption | (simp only [zzm]; done) | omega | (try with_reducible refine Row.adr (by assumption) ?_); simp only [zzl, Nat.reduceAdd]; first | done | omega) only [go_sem, ↓reduceIte, seval]
 refine Tri.loopU tok [0, 1, 2, 3, 4, 5, 6, 7, 8, 9, 10, 11, 27, 28, 29, 48, 49, 50, 51, 75, 113, 114, 115, 126, 127, 128, 129] (by kernel_rfl) [1, 3, 4, 27, 28] (fun q G' fr H' => ∃ s : Nat, s + q = n ∧ G' = G ∧ H' = (bq, .cells [.pointer (some ⟨bp, 0, none⟩)] [] 45) :: (bp, .cells (PC (.slice (some ⟨bs, 0, none⟩) n n) va vb vsp vk vw vm W) [] 52) :: (bs, .cells (rowN n fun j => if j < s then j else 0) [] 3) :: H ∧ fr = [(1, v1), (3, .int .i64 (n : Nat)), (4, .pointer (some ⟨bq, 0, none⟩)), (27, .int .i64 (n : Nat)), (28, .int .i64 (s : Nat))]) (n) ?_ ?_
 ·exact Upd.now ⟨0, by omega, rfl, by rw [rowN_congr (f := fun j => if j < 0 then j else 0) (g := fun _ => 0) fun i _ => if_neg (by omega)], rfl⟩
 ·rintro q G1 fr H1 hle hs1 ⟨s, hsq, rfl, rfl, rfl⟩
  have hsE := hs1
  try simp only [zzs] at hsE
  repeat (obtain ⟨hsx, hsE⟩ := hsE)
  by_cases hsn : s < n
  ·have hp := rowN_put (fun j => if j < s then j else 0) hsn s
   have he : rowN n (updN (fun j => if j < s then j else 0) s s) = rowN n fun j => if j < s + 1 then j else 0 := rowN_congr fun i _ => by
    unfold updN
    by_cases e : i = s
    ·rw [if_pos e, if_pos (by omega), e]
    ·rw [if_neg e]
     show (if i < s then i else 0) = _
     by_cases e2 : i < s
     ·rw [if_pos e2, if_pos (by omega)]
     ·rw [if_neg e2, if_neg (by omega)]
   rw [he] at hp
   repeat' first
    | (with_reducible first | refine Nx.go ?_ | refine Bk.go (fun _ => ?_) fun _ => ?_)
    | ((with_reducible first | refine NewB.mk2 fun nb hnb hnb1 hnb2 => ?_ | refine NewRow.mk2 fun nb nsp ncap hnb hncap hnb1 hnb2 => ?_); try simp only [zzn] at hnb2)
    | simp -dsimp -implicitDefEqProofs (disch := first | assumption | (simp only [zzm]; done) | omega | (try with_reducible refine Row.adr (by assumption) ?_); simp only [zzl, Nat.reduceAdd]; first | done | omega) only [go_sem, ↓reduceIte, seval, hp]
   exact Upd.now ⟨q - 1, by omega, s + 1, by omega, rfl, rfl, rfl⟩
  ·obtain rfl : s = n := by omega
   rw [rowN_congr (f := fun j => if j < s then j else 0) (g := fun i => i) fun i hi => if_pos hi] at hs1 ⊢
   repeat' first
    | (with_reducible first | refine Nx.go ?_ | refine Bk.go (fun _ => ?_) fun _ => ?_)
    | ((with_reducible first | refine NewB.mk2 fun nb hnb hnb1 hnb2 => ?_ | refine NewRow.mk2 fun nb nsp ncap hnb hncap hnb1 hnb2 => ?_); try simp only [zzn] at hnb2)
    | simp -dsimp -implicitDefEqProofs (disch := first | assumption | (simp only [zzm]; done) | omega | (try with_reducible refine Row.adr (by assumption) ?_); simp only [zzl, Nat.reduceAdd]; first | done | omega) only [go_sem, ↓reduceIte, seval]
   exact Upd.now ⟨rfl, rfl, rfl⟩
theorem npc_t {n : Nat} (hn : n ≤ 2000000) {bq bp bl cb : Nat} {spb : List Value} {W : Int} {vs va vsp vk vw vm : Value} {bf : Nat → Nat} (hbf : ∀ s, s < n → bf s < 2000000) {sp : List Value} {bs : Nat} {G : PHeap} {H : Heap} (hsep : Sep G (keys ((bs, Res.cells [] [] 3) :: (bq, Res.cells [.pointer (some ⟨bp, 0, none⟩)] [] 45) :: (bp, Res.cells (PC vs va (.slice (some ⟨bl, 0, none⟩) n cb) vsp vk vw vm W) [] 52) :: (bl, Res.cells (rowN n bf) spb 3) :: H))) : CmpT Try.prog 54 (.pointer (some ⟨bq, 0, none⟩)) (fun s => (bf s : Int)) n bs sp G ((bq, .cells [.pointer (some ⟨bp, 0, none⟩)] [] 45) :: (bp, .cells (PC vs va (.slice (some ⟨bl, 0, none⟩) n cb) vsp vk vw vm W) [] 52) :: (bl, .cells (rowN n bf) spb 3) :: H) := by
 intro x y g R hx hy hR
 have hsE := hsep
 try simp only [zzs] at hsE
 repeat (obtain ⟨hsx, hsE⟩ := hsE)
 have hgx := rowN_get bf (sp := spb) hx
 have hgy := rowN_get bf (sp := spb) hy
 have hbx := hbf x hx
 have hby := hbf y hy
 refine FnT.body tok [0, 1, 2, 5] Try.func54 rfl (by kernel_rfl) (by kernel_rfl) (by show _ ≤ 21; simp) fun hsep => ?_
 rw [Try.results54]
 have hsE := hsep
 try simp only [zzs] at hsE
 repeat (obtain ⟨hsx, hsE⟩ := hsE)
 repeat' first
  | (with_reducible first | refine Nx.go ?_ | refine Bk.go (fun _ => ?_) fun _ => ?_)
  | simp -dsimp -implicitDefEqProofs (disch := first | assumption | (simp only [zzm]; done) | omega | (try with_reducible refine Row.adr (by assumption) ?_); simp only [zzl, Nat.reduceAdd]; first | done | omega) only [go_sem, ↓reduceIte, seval, hgx, hgy]
  | with_reducible refine Tri.drawM tok mixed [0, 1, 2, 5] 1 [0, 3, 6, 7, 10, 13] (.op 0 .held (.op 1 .plain (.op 2 .plain (.op 3 .held (.op 4 .plain (.op 5 .plain (.op 6 .held (.op 7 .held (.op 8 .plain (.op 9 .plain (.op 10 .held (.op 11 .plain (.op 12 .plain (.op 13 .held (.op 14 .plain (.op 15 .plain .nil)))))))))))))))) (by kernel_rfl) _ (List.Sublist.refl _) ?_
 all_goals refine Upd.finL ?_ hR ?_
 any_goals (intro fsum; first | exact Nat.le_refl _ | (simp only [zzq]; omega))
 rfl
set_option maxRecDepth 4000 in
theorem np5_t {n : Nat} (hn : n ≤ 2000000) {bq bp bs ba bl cb : Nat} {spb : List Value} {W : Int} {v1 vk vw vm : Value} {bf f : Nat → Nat} (hf : BijN n f) (hs : SrtO (fun s => (bf s : Int)) f 0 n) (hbl : ∀ s, s < n → bf s < n) (ho : ∀ j v, j < n → v ≤ bf (f j) → ∃ t, t < n ∧ bf (f t) = v) {G : PHeap} {H : Heap} :
  Tri Try.prog Try.f27.ntmps (piece [1, 1, 1, 1, 1, 0] Try.f27) G [(1, v1), (3, .int .i64 (n : Nat)), (4, .pointer (some ⟨bq, 0, none⟩))] ((bq, .cells [.pointer (some ⟨bp, 0, none⟩)] [] 45) :: (bp, .cells (PC (.slice (some ⟨bs, 0, none⟩) n n) (.slice (some ⟨ba, 0, none⟩) n n) (.slice (some ⟨bl, 0, none⟩) n cb) (.slice none 0 0) vk vw vm W) [] 52) :: (bs, .cells (rowN n f) [] 3) :: (ba, .cells (rowN n fun _ => 0) [] 3) :: (bl, .cells (rowN n bf) spb 3) :: H) (onlyN fun G' l H' =>
   ∃ w fr to pl vsp ks, PInv n w f pl bf fr to (fun _ => 0) ∧ SliceO [] 75 3 vsp w (row3 w fr to fun _ => 0) ks ∧ G' = G ∧ restrict [1, 3, 4] l = [(1, v1), (3, .int .i64 (n : Nat)), (4, .pointer (some ⟨bq, 0, none⟩))] ∧ H' = (bq, .cells [.pointer (some ⟨bp, 0, none⟩)] [] 45) :: (bp, .cells (PC (.slice (some ⟨bs, 0, none⟩) n n) (.slice (some ⟨ba, 0, none⟩) n n) (.slice (some ⟨bl, 0, none⟩) n cb) vsp vk vw vm W) [] 52) :: (bs, .cells (rowN n f) [] 3) :: (ba, .cells (rowN n pl) [] 3) :: (bl, .cells (rowN n bf) spb 3) :: (ks ++ H)) := by
 have hinj : ∀ x y, x < n → y < n → f x = f y → x = y := fun x y h1 h2 e => by
  obtain ⟨p, g1, g2⟩ := hf
  rw [← (g1 x h1).2, e, (g1 y h2).2]
 have hflt : ∀ x, x < n → f x < n := fun x hx => by
  obtain ⟨p, g1, g2⟩ := hf
  exact (g1 x hx).1
 refine Tri.sepT fun hs0 => ?_
 have hsE := hs0
 try simp only [zzs] at hsE
 repeat (obtain ⟨hsx, hsE⟩ := hsE)
 refine Tri.piece (f := Try.f27) rfl ?_
 refine Tri.run tok [0, 1, 2, 3, 4, 5, 6, 7, 8, 9, 10, 11, 27, 28, 29, 48, 49, 50, 51, 75, 113, 114, 115, 126, 127, 128, 129] (by kernel_rfl) ?_
 repeat' first
  | (with_reducible first | refine Nx.go ?_ | refine Bk.go (fun _ => ?_) fun _ => ?_)
  | ((with_reducible first | refine NewB.mk2 fun nb hnb hnb1 hnb2 => ?_ | refine NewRow.mk2 fun nb nsp ncap hnb hncap hnb1 hnb2 => ?_); try simp only [zzn] at hnb2)
  | simp -dsimp -implicitDefEqProofs (disch := first | assumption | (simp only [zzm]; done) | omega | (try with_reducible refine Row.adr (by assumption) ?_); simp only [zzl, Nat.reduceAdd]; first | done | omega) only [go_sem, ↓reduceIte, seval]
 refine Tri.loopU tok [0, 1, 2, 3, 4, 5, 6, 7, 8, 9, 10, 11, 27, 28, 29, 48, 49, 50, 51, 75, 113, 114, 115, 126, 127, 128, 129] (by kernel_rfl) [1, 3, 4, 48, 49, 50] (fun q G' fr' H' => ∃ (i w : Nat) (fr to pl : Nat → Nat) (vsp : Value) (ks : Heap), i + q = n ∧ SpI bf f i w fr to pl ∧ SliceO [] 75 3 vsp w (row3 w fr to fun _ => 0) ks ∧ G' = G ∧ H' = (bq, .cells [.pointer (some ⟨bp, 0, none⟩)] [] 45) :: (bp, .cells (PC (.slice (some ⟨bs, 0, none⟩) n n) (.slice (some ⟨ba, 0, none⟩) n n) (.slice (some ⟨bl, 0, none⟩) n cb) vsp vk vw vm W) [] 52) :: (bs, .cells (rowN n f) [] 3) :: (ba, .cells (rowN n pl) [] 3) :: (bl, .cells (rowN n bf) spb 3) :: (ks ++ H) ∧ fr' = [(1, v1), (3, .int .i64 (n : Nat)), (4, .pointer (some ⟨bq, 0, none⟩)), (48, .slice (some ⟨bs, 0, none⟩) n n), (49, .int .i64 (n : Nat)), (50, .int .i64 (i : Nat))]) (n) ?_ ?_
 ·exact Upd.now ⟨0, 0, fun _ => 0, fun _ => 0, fun _ => 0, .slice none 0 0, [], by omega, SpI.zero _ _ _ _ _, .inl ⟨none, rfl, rfl, rfl, rfl⟩, rfl, rfl, rfl⟩
 ·rintro q G1 fr' H1 hle hs1 ⟨i, w, fr, to, pl, vsp, ks, hiq, hI, hks, rfl, rfl, rfl⟩
  by_cases hin : i < n
  ·have hg1 := rowN_at f hin
   have hfi := hflt i hin
   have hp := rowN_put pl hfi i
   have hgb := rowN_get bf (sp := spb) hfi
   obtain ⟨hn1, hn2⟩ := hI.next hs hin ho
   have hbn := hbl (f i) hfi
   by_cases hnew : bf (f i) = w
   ·have hN := hI.new hinj hin hnew
    have hg5 : (row3 (w + 1) (updN fr w i) (updN to w i) (updN (fun _ => 0) w 0))[w * 3 + 1]? = some (.int .i64 (i : Nat)) := by
     have := row_g1 (n := w + 1) (fr := updN fr w i) (to := updN to w i) (mk := updN (fun _ => 0) w 0) (sp := []) (i := w) (by omega)
     rw [List.append_nil, updN_same] at this; exact this
    have hmk : updN (fun _ => 0) w 0 = fun _ => 0 := by funext x; unfold updN; split <;> rfl
    have hsn := row3_snoc w fr to (fun _ => 0) i i 0
    have hpt := row_p1 (n := w + 1) (fr := updN fr w i) (to := updN to w i) (mk := fun _ => 0) (i := w) (by omega) (i + 1)
    have hg5' := fun sp => row_g1 (n := w + 1) (fr := updN fr w i) (to := updN to w i) (mk := fun _ => 0) (sp := sp) (i := w) (by omega)
    simp only [updN_same] at hg5'
    rw [hmk] at hsn
    have ei : (i : Int) + 1 = ((i + 1 : Nat) : Int) := rfl
    rcases hks with ⟨aa, rfl, h0, hx, rfl⟩ | ⟨bsp, csp, ssp, rfl, rfl, hx, hc⟩
    ·subst h0
     rw [show row3 0 fr to (fun _ => 0) = [] from rfl, List.nil_append] at hsn
     have hsE := hs1
     try simp only [zzs] at hsE
     repeat (obtain ⟨hsx, hsE⟩ := hsE)
     repeat' first
      | (with_reducible first | refine Nx.go ?_ | refine Bk.go (fun _ => ?_) fun _ => ?_)
      | ((with_reducible first | refine NewB.mk2 fun nb hnb hnb1 hnb2 => ?_ | refine NewRow.mk2 fun nb nsp ncap hnb hncap hnb1 hnb2 => ?_); try simp only [zzn] at hnb2)
      | simp -dsimp -implicitDefEqProofs (disch := first | assumption | (simp only [zzm]; done) | omega | (try with_reducible refine Row.adr (by assumption) ?_); simp only [zzl, Nat.reduceAdd]; first | done | omega) only [go_sem, ↓reduceIte, seval, hg1, hp, hgb, hnew]
      | with_reducible refine Tri.drawS tok mixed [0, 1, 2, 3, 4, 5, 6, 7, 8, 9, 10, 11, 27, 28, 29, 48, 49, 50, 51, 75, 113, 114, 115, 126, 127, 128, 129] 15 [0, 1, 4] (.op 0 .held (.op 1 .held (.op 2 .plain (.op 3 .plain (.op 4 .held (.op 5 .plain (.op 6 .plain (.op 7 .plain (.op 8 .keeps (.op 9 .keeps (.op 10 .plain (.op 11 .plain (.op 12 .plain .nil))))))))))))) (by kernel_rfl) [(bq, .cells [.pointer (some ⟨bp, 0, none⟩)] [] 45), (bp, .cells (PC (.slice (some ⟨bs, 0, none⟩) n n) (.slice (some ⟨ba, 0, none⟩) n n) (.slice (some ⟨bl, 0, none⟩) n cb) (.slice aa 0 0) vk vw vm W) [] 52)] (by intro fsum; first | exact Nat.le_refl _ | (simp only [zzq]; omega)) ?_
     obtain ⟨bx, ebx⟩ : ∃ x, x = nb := ⟨_, rfl⟩
     subst ebx
     have hsn' : [Value.int .i64 (i : Nat), Value.int .i64 (i : Nat), Value.int .i64 0] = row3 1 (updN fr 0 i) (updN to 0 i) fun _ => 0 := hsn
     rw [hsn']
     repeat' first
      | (with_reducible first | refine Nx.go ?_ | refine Bk.go (fun _ => ?_) fun _ => ?_)
      | ((with_reducible first | refine NewB.mk2 fun nb hnb hnb1 hnb2 => ?_ | refine NewRow.mk2 fun nb nsp ncap hnb hncap hnb1 hnb2 => ?_); try simp only [zzn] at hnb2)
      | simp -dsimp -implicitDefEqProofs (disch := first | assumption | (simp only [zzm]; done) | omega | (try with_reducible refine Row.adr (by assumption) ?_); simp only [zzl, Nat.reduceAdd]; first | done | omega) only [go_sem, ↓reduceIte, seval, hgb, hnew, hpt, hg5', ei]
      | with_reducible refine Tri.drawS tok mixed [0, 1, 2, 3, 4, 5, 6, 7, 8, 9, 10, 11, 27, 28, 29, 48, 49, 50, 51, 75, 113, 114, 115, 126, 127, 128, 129] 16 [0, 3, 4, 7, 10, 13] (.op 0 .held (.op 1 .plain (.op 2 .plain (.op 3 .held (.op 4 .held (.op 5 .plain (.op 6 .plain (.op 7 .held (.op 8 .plain (.op 9 .plain (.op 10 .held (.op 11 .plain (.op 12 .plain (.op 13 .held (.op 14 .plain (.op 15 .plain (.op 16 .plain (.op 17 .plain .nil)))))))))))))))))) (by kernel_rfl) [(bq, .cells [.pointer (some ⟨bp, 0, none⟩)] [] 45), (bp, .cells (PC (.slice (some ⟨bs, 0, none⟩) n n) (.slice (some ⟨ba, 0, none⟩) n n) (.slice (some ⟨bl, 0, none⟩) n cb) (.slice (some ⟨bx, 0, none⟩) 1 ncap) vk vw vm W) [] 52), (bl, .cells (rowN n bf) spb 3), (bx, .cells (row3 1 (updN fr 0 i) (updN to 0 i) fun _ => 0) nsp 75)] (by intro fsum; first | exact Nat.le_refl _ | (simp only [zzq]; omega)) ?_
     refine Upd.leave (H' := (bq, .cells [.pointer (some ⟨bp, 0, none⟩)] [] 45) :: (bp, .cells (PC (.slice (some ⟨bs, 0, none⟩) n n) (.slice (some ⟨ba, 0, none⟩) n n) (.slice (some ⟨bl, 0, none⟩) n cb) (.slice (some ⟨bx, 0, none⟩) 1 ncap) vk vw vm W) [] 52) :: (bs, .cells (rowN n f) [] 3) :: (ba, .cells (rowN n (updN pl (f i) i)) [] 3) :: (bl, .cells (rowN n bf) spb 3) :: ([(bx, .cells (row3 1 (updN fr 0 i) (updN (updN to 0 i) 0 (i + 1)) fun _ => 0) nsp 75)] ++ H)) (by intro fsum; simp only [zzq]; omega) ?_
     exact ⟨q - 1, by omega, i + 1, 1, _, _, _, _, _, by omega, hN, .inr ⟨bx, ncap, nsp, rfl, rfl, by rw [row3_len], by rw [row3_len]; simp at hncap; omega⟩, rfl, rfl, rfl⟩
    ·have hsE := hs1
     try simp only [zzs] at hsE
     repeat (obtain ⟨hsx, hsE⟩ := hsE)
     repeat' first
      | (with_reducible first | refine Nx.go ?_ | refine Bk.go (fun _ => ?_) fun _ => ?_)
      | ((with_reducible first | refine NewB.mk2 fun nb hnb hnb1 hnb2 => ?_ | refine NewRow.mk2 fun nb nsp ncap hnb hncap hnb1 hnb2 => ?_); try simp only [zzn] at hnb2)
      | simp -dsimp -implicitDefEqProofs (disch := first | assumption | (simp only [zzm]; done) | omega | (try with_reducible refine Row.adr (by assumption) ?_); simp only [zzl, Nat.reduceAdd]; first | done | omega) only [go_sem, ↓reduceIte, seval, hg1, hp, hgb, hnew]
      | with_reducible refine Tri.drawS tok mixed [0, 1, 2, 3, 4, 5, 6, 7, 8, 9, 10, 11, 27, 28, 29, 48, 49, 50, 51, 75, 113, 114, 115, 126, 127, 128, 129] 15 [0, 1, 4] (.op 0 .held (.op 1 .held (.op 2 .plain (.op 3 .plain (.op 4 .held (.op 5 .plain (.op 6 .plain (.op 7 .plain (.op 8 .keeps (.op 9 .keeps (.op 10 .plain (.op 11 .plain (.op 12 .plain .nil))))))))))))) (by kernel_rfl) [(bq, .cells [.pointer (some ⟨bp, 0, none⟩)] [] 45), (bp, .cells (PC (.slice (some ⟨bs, 0, none⟩) n n) (.slice (some ⟨ba, 0, none⟩) n n) (.slice (some ⟨bl, 0, none⟩) n cb) (.slice (some ⟨bsp, 0, none⟩) w csp) vk vw vm W) [] 52)] (by intro fsum; first | exact Nat.le_refl _ | (simp only [zzq]; omega)) ?_
     obtain ⟨bx, ebx⟩ : ∃ x, x = nb := ⟨_, rfl⟩
     subst ebx
     have hsn' : row3 w fr to (fun _ => 0) ++ [Value.int .i64 (i : Nat), Value.int .i64 (i : Nat), Value.int .i64 0] = row3 (w + 1) (updN fr w i) (updN to w i) fun _ => 0 := hsn
     rw [hsn']
     repeat' first
      | (with_reducible first | refine Nx.go ?_ | refine Bk.go (fun _ => ?_) fun _ => ?_)
      | ((with_reducible first | refine NewB.mk2 fun nb hnb hnb1 hnb2 => ?_ | refine NewRow.mk2 fun nb nsp ncap hnb hncap hnb1 hnb2 => ?_); try simp only [zzn] at hnb2)
      | simp -dsimp -implicitDefEqProofs (disch := first | assumption | (simp only [zzm]; done) | omega | (try with_reducible refine Row.adr (by assumption) ?_); simp only [zzl, Nat.reduceAdd]; first | done | omega) only [go_sem, ↓reduceIte, seval, hgb, hnew, hpt, hg5', ei]
      | with_reducible refine Tri.drawS tok mixed [0, 1, 2, 3, 4, 5, 6, 7, 8, 9, 10, 11, 27, 28, 29, 48, 49, 50, 51, 75, 113, 114, 115, 126, 127, 128, 129] 16 [0, 3, 4, 7, 10, 13] (.op 0 .held (.op 1 .plain (.op 2 .plain (.op 3 .held (.op 4 .held (.op 5 .plain (.op 6 .plain (.op 7 .held (.op 8 .plain (.op 9 .plain (.op 10 .held (.op 11 .plain (.op 12 .plain (.op 13 .held (.op 14 .plain (.op 15 .plain (.op 16 .plain (.op 17 .plain .nil)))))))))))))))))) (by kernel_rfl) [(bq, .cells [.pointer (some ⟨bp, 0, none⟩)] [] 45), (bp, .cells (PC (.slice (some ⟨bs, 0, none⟩) n n) (.slice (some ⟨ba, 0, none⟩) n n) (.slice (some ⟨bl, 0, none⟩) n cb) (.slice (some ⟨bx, 0, none⟩) (w + 1) ncap) vk vw vm W) [] 52), (bl, .cells (rowN n bf) spb 3), (bx, .cells (row3 (w + 1) (updN fr w i) (updN to w i) fun _ => 0) nsp 75)] (by intro fsum; first | exact Nat.le_refl _ | (simp only [zzq]; omega)) ?_
     refine Upd.leave (H' := (bq, .cells [.pointer (some ⟨bp, 0, none⟩)] [] 45) :: (bp, .cells (PC (.slice (some ⟨bs, 0, none⟩) n n) (.slice (some ⟨ba, 0, none⟩) n n) (.slice (some ⟨bl, 0, none⟩) n cb) (.slice (some ⟨bx, 0, none⟩) (w + 1) ncap) vk vw vm W) [] 52) :: (bs, .cells (rowN n f) [] 3) :: (ba, .cells (rowN n (updN pl (f i) i)) [] 3) :: (bl, .cells (rowN n bf) spb 3) :: ([(bx, .cells (row3 (w + 1) (updN fr w i) (updN (updN to w i) w (i + 1)) fun _ => 0) nsp 75)] ++ H)) (by intro fsum; simp only [zzq]; omega) ?_
     exact ⟨q - 1, by omega, i + 1, w + 1, _, _, _, _, _, by omega, hN, .inr ⟨bx, ncap, nsp, rfl, rfl, by rw [row3_len], by rw [row3_len]; omega⟩, rfl, rfl, rfl⟩
   ·have hold : bf (f i) + 1 = w := by omega
    obtain ⟨hN, hto⟩ := hI.old hinj hin hold
    rcases hks with ⟨aa, rfl, h0, hx, rfl⟩ | ⟨bsp, csp, ssp, rfl, rfl, hx, hc⟩
    ·omega
    ·have hgt := row_g1 (n := w) (fr := fr) (to := to) (mk := fun _ => 0) (sp := ssp) (i := bf (f i)) (by omega)
     have hpt := row_p1 (n := w) (fr := fr) (to := to) (mk := fun _ => 0) (i := bf (f i)) (by omega) (to (bf (f i)) + 1)
     have ei : ((to (bf (f i)) : Nat) : Int) + 1 = ((to (bf (f i)) + 1 : Nat) : Int) := rfl
     have hnn : ¬ ((bf (f i) : Nat) : Int) = ((w : Nat) : Int) := by omega
     have hsE := hs1
     try simp only [zzs] at hsE
     repeat (obtain ⟨hsx, hsE⟩ := hsE)
     repeat' first
      | (with_reducible first | refine Nx.go ?_ | refine Bk.go (fun _ => ?_) fun _ => ?_)
      | ((with_reducible first | refine NewB.mk2 fun nb hnb hnb1 hnb2 => ?_ | refine NewRow.mk2 fun nb nsp ncap hnb hncap hnb1 hnb2 => ?_); try simp only [zzn] at hnb2)
      | simp -dsimp -implicitDefEqProofs (disch := first | assumption | (simp only [zzm]; done) | omega | (try with_reducible refine Row.adr (by assumption) ?_); simp only [zzl, Nat.reduceAdd]; first | done | omega) only [go_sem, ↓reduceIte, seval, hg1, hp, hgb, hpt, hgt, ei]
      | with_reducible refine Tri.drawS tok mixed [0, 1, 2, 3, 4, 5, 6, 7, 8, 9, 10, 11, 27, 28, 29, 48, 49, 50, 51, 75, 113, 114, 115, 126, 127, 128, 129] 16 [0, 3, 4, 7, 10, 13] (.op 0 .held (.op 1 .plain (.op 2 .plain (.op 3 .held (.op 4 .held (.op 5 .plain (.op 6 .plain (.op 7 .held (.op 8 .plain (.op 9 .plain (.op 10 .held (.op 11 .plain (.op 12 .plain (.op 13 .held (.op 14 .plain (.op 15 .plain (.op 16 .plain (.op 17 .plain .nil)))))))))))))))))) (by kernel_rfl) [(bq, .cells [.pointer (some ⟨bp, 0, none⟩)] [] 45), (bp, .cells (PC (.slice (some ⟨bs, 0, none⟩) n n) (.slice (some ⟨ba, 0, none⟩) n n) (.slice (some ⟨bl, 0, none⟩) n cb) (.slice (some ⟨bsp, 0, none⟩) w csp) vk vw vm W) [] 52), (bl, .cells (rowN n bf) spb 3), (bsp, .cells (row3 w fr to fun _ => 0) ssp 75)] (by intro fsum; first | exact Nat.le_refl _ | (simp only [zzq]; omega)) ?_
     all_goals first | (exfalso; omega) | skip
     refine Upd.leave (H' := (bq, .cells [.pointer (some ⟨bp, 0, none⟩)] [] 45) :: (bp, .cells (PC (.slice (some ⟨bs, 0, none⟩) n n) (.slice (some ⟨ba, 0, none⟩) n n) (.slice (some ⟨bl, 0, none⟩) n cb) (.slice (some ⟨bsp, 0, none⟩) w csp) vk vw vm W) [] 52) :: (bs, .cells (rowN n f) [] 3) :: (ba, .cells (rowN n (updN pl (f i) i)) [] 3) :: (bl, .cells (rowN n bf) spb 3) :: ([(bsp, .cells (row3 w fr (updN to (bf (f i)) (to (bf (f i)) + 1)) fun _ => 0) ssp 75)] ++ H)) (by intro fsum; simp only [zzq]; omega) ?_
     exact ⟨q - 1, by omega, i + 1, w, _, _, _, _, _, by omega, hN, .inr ⟨bsp, csp, ssp, rfl, rfl, by rw [row3_len], by rw [row3_len] at hc ⊢; exact hc⟩, rfl, rfl, rfl⟩
  ·obtain rfl : i = n := by omega
   have hsE := hs1
   try simp only [zzs] at hsE
   repeat (obtain ⟨hsx, hsE⟩ := hsE)
   repeat' first
    | (with_reducible first | refine Nx.go ?_ | refine Bk.go (fun _ => ?_) fun _ => ?_)
    | ((with_reducible first | refine NewB.mk2 fun nb hnb hnb1 hnb2 => ?_ | refine NewRow.mk2 fun nb nsp ncap hnb hncap hnb1 hnb2 => ?_); try simp only [zzn] at hnb2)
    | simp -dsimp -implicitDefEqProofs (disch := first | assumption | (simp only [zzm]; done) | omega | (try with_reducible refine Row.adr (by assumption) ?_); simp only [zzl, Nat.reduceAdd]; first | done | omega) only [go_sem, ↓reduceIte, seval]
   exact Upd.now ⟨w, fr, to, pl, vsp, ks, hI.done hf, hks, rfl, rfl, rfl⟩
end Go.Proofs.Ytdeableflgakdaa
namespace Go.Proofs.Ytdeableflgakdaa
open Go Go.V Go.Proofs
def dlF (d : DfaT) (k s : Nat) : Nat := ((d.next.getD s []).getD k 0).toNat
theorem dlF_at {d : DfaT} (hok : RightP d) {s k : Nat} (hs : s < d.next.length) (hk : (k : Int) < d.width) : ∃ h1 : k < (d.next[s]).length, (d.next[s])[k] = (dlF d k s : Int) ∧ dlF d k s < d.label.length := by
 obtain ⟨hk1, hk2, hk3, hk4, hk5, hk6, hk7⟩ := hok
 obtain ⟨w1, w2, w3, w4⟩ := hk7 s hs (by omega)
 have hkl : k < (d.next[s]).length := by omega
 have h5 := w4 (d.next[s])[k] (List.getElem_mem hkl)
 have e : dlF d k s = ((d.next[s])[k]).toNat := by
  unfold dlF
  rw [List.getD_eq_getElem?_getD (l := d.next), List.getElem?_eq_getElem hs]
  show ((d.next[s]).getD k 0).toNat = _
  rw [List.getD_eq_getElem?_getD, List.getElem?_eq_getElem hkl]; rfl
 exact ⟨hkl, by omega, by omega⟩
def preM (dl : Nat → Nat) (m t : Nat) : List Int := ((List.range m).filter fun s : Nat => decide (dl s = t)).map fun s : Nat => (s : Int)
theorem preM_succ (dl : Nat → Nat) (m t : Nat) : preM dl (m + 1) t = if dl m = t then preM dl m t ++ [(m : Int)] else preM dl m t := by
 unfold preM
 rw [List.range_succ, List.filter_append]
 by_cases h : dl m = t
 ·rw [if_pos h, List.filter_cons, if_pos (by simpa using h), List.map_append]; rfl
 ·rw [if_neg h, List.filter_cons, if_neg (by simpa using h), List.filter_nil, List.append_nil]
theorem mem_preM {dl : Nat → Nat} {m t : Nat} {x : Int} : x ∈ preM dl m t ↔ ∃ s : Nat, s < m ∧ dl s = t ∧ x = s := by
 unfold preM
 simp only [List.mem_map, List.mem_filter, List.mem_range, decide_eq_true_eq]
 constructor
 ·rintro ⟨s, ⟨h1, h2⟩, h3⟩; exact ⟨s, h1, h2, h3.symm⟩
 ·rintro ⟨s, h1, h2, h3⟩; exact ⟨s, ⟨h1, h2⟩, h3.symm⟩
theorem preM_len (dl : Nat → Nat) (m t : Nat) : (preM dl m t).length ≤ m := by
 unfold preM
 rw [List.length_map]
 have := List.length_filter_le (fun s => decide (dl s = t)) (List.range m)
 rw [List.length_range] at this
 exact this
def famM (dl : Nat → Nat) (n m : Nat) : List (List Value) := (List.range n).map fun t => (preM dl m t).map (Value.int .i64)
theorem famM_len (dl : Nat → Nat) (n m : Nat) : (famM dl n m).length = n := by simp [famM]
theorem famM_get {dl : Nat → Nat} {n m t : Nat} (h : t < n) : (famM dl n m)[t]'(by rw [famM_len]; exact h) = (preM dl m t).map (Value.int .i64) := by simp [famM]
theorem famM_zero (dl : Nat → Nat) (n : Nat) : famM dl n 0 = List.replicate n [] := by
 unfold famM preM
 simp [List.map_const']
theorem famM_succ {dl : Nat → Nat} {n m : Nat} (h : dl m < n) : famM dl n (m + 1) = (famM dl n m).set (dl m) ((preM dl m (dl m)).map (Value.int .i64) ++ [.int .i64 (m : Nat)]) := by
 apply List.ext_getElem
 ·simp [famM_len]
 ·intro t h1 h2
  rw [famM_len] at h1
  rw [famM_get h1, preM_succ, List.getElem_set]
  by_cases e : dl m = t
  ·rw [if_pos e, if_pos e, List.map_append, e]; rfl
  ·rw [if_neg e, if_neg e, famM_get h1]
def BkRow (G : PHeap) (n : Nat) (dl : Nat → Nat) (v : Value) : Prop := ∃ a c rv, v = .slice a n c ∧ Row G a rv ∧ rv.length = n ∧ n ≤ c ∧ ∀ t (h : t < n) (h2 : t < rv.length), Sl G (Value.int .i64) rv[t] (preM dl n t)
theorem BkRow.mono {G G' : PHeap} (hle : PLe G G') {n : Nat} {dl : Nat → Nat} {v : Value} (h : BkRow G n dl v) : BkRow G' n dl v := by
 obtain ⟨a, c, rv, h1, h2, h3, h4, h5⟩ := h
 exact ⟨a, c, rv, h1, h2.mono hle, h3, h4, fun t g1 g2 => (h5 t g1 g2).mono hle⟩
def BkT (G : PHeap) (n W : Nat) (dl : Nat → Nat → Nat) (v : Value) : Prop := ∃ a c rv, v = .slice a W c ∧ Row G a rv ∧ rv.length = W ∧ W ≤ c ∧ ∀ k (h : k < W) (h2 : k < rv.length), BkRow G n (dl k) rv[k]
theorem BkT.mono {G G' : PHeap} (hle : PLe G G') {n W : Nat} {dl : Nat → Nat → Nat} {v : Value} (h : BkT G n W dl v) : BkT G' n W dl v := by
 obtain ⟨a, c, rv, h1, h2, h3, h4, h5⟩ := h
 exact ⟨a, c, rv, h1, h2.mono hle, h3, h4, fun t g1 g2 => (h5 t g1 g2).mono hle⟩
set_option maxRecDepth 4000 in
theorem np7_t {d : DfaT} (hsm : SmallD d) (hok : RightP d) {C : List Value} {an al ay : Option Addr} {cn cl cs : Nat} {rs : List Value} {G : PHeap} {H : Heap} (O : OpenD G d C an al ay cn cl cs rs) {n W : Nat} (hnl : n = d.label.length) (hW : d.width = (W : Int)) (hW2 : W ≤ 256) {b1 bq bp bk : Nat} {vs va vb vsp vw vm : Value} :
  Tri Try.prog Try.f27.ntmps (piece [1, 1, 1, 1, 1, 1, 1, 0] Try.f27) G [(1, .pointer (some ⟨b1, 0, none⟩)), (3, .int .i64 (n : Nat)), (4, .pointer (some ⟨bq, 0, none⟩))] ((b1, .cells C [] 27) :: (bq, .cells [.pointer (some ⟨bp, 0, none⟩)] [] 45) :: (bp, .cells (PC vs va vb vsp (.slice (some ⟨bk, 0, none⟩) W W) vw vm (W : Nat)) [] 52) :: (bk, .cells (List.replicate W (.slice none 0 0)) [] 23) :: H) (onlyN fun G' l H' =>
   ∃ rk, PLe G G' ∧ rk.length = W ∧ (∀ k (h : k < W) (h2 : k < rk.length), BkRow G' n (dlF d k) rk[k]) ∧ restrict [4] l = [(4, .pointer (some ⟨bq, 0, none⟩))] ∧ H' = (b1, .cells C [] 27) :: (bq, .cells [.pointer (some ⟨bp, 0, none⟩)] [] 45) :: (bp, .cells (PC vs va vb vsp (.slice (some ⟨bk, 0, none⟩) W W) vw vm (W : Nat)) [] 52) :: (bk, .cells rk [] 23) :: H) := by
 obtain ⟨hm1, hm2, hm3, hm4, hm5⟩ := id hsm
 obtain ⟨hk1, hk2, hk3, hk4, hk5, hk6, hk7⟩ := id hok
 have hCl := O.len
 have hCw := O.w
 have hCn := O.n
 have hrnl := O.rnl
 have hr1 : ∀ x : Value, List.replicate 1 x = [x] := fun _ => rfl
 refine Tri.sepT fun hs0 => ?_
 have hsE := hs0
 try simp only [zzs] at hsE
 repeat (obtain ⟨hsx, hsE⟩ := hsE)
 refine Tri.piece (f := Try.f27) rfl ?_
 refine Tri.run tok [0, 1, 2, 3, 4, 5, 6, 7, 8, 9, 10, 11, 27, 28, 29, 48, 49, 50, 51, 75, 113, 114, 115, 126, 127, 128, 129] (by kernel_rfl) ?_
 repeat' first
  | (with_reducible first | refine Nx.go ?_ | refine Bk.go (fun _ => ?_) fun _ => ?_)
  | ((with_reducible first | refine NewB.mk2 fun nb hnb hnb1 hnb2 => ?_ | refine NewRow.mk2 fun nb nsp ncap hnb hncap hnb1 hnb2 => ?_); try simp only [zzn] at hnb2)
  | simp -dsimp -implicitDefEqProofs (disch := first | assumption | (simp only [zzm]; done) | omega | (try with_reducible refine Row.adr (by assumption) ?_); simp only [zzl, Nat.reduceAdd]; first | done | omega) only [go_sem, ↓reduceIte, seval, -List.reduceReplicate, hCl, hCw, hW]
 refine Tri.loopU tok [0, 1, 2, 3, 4, 5, 6, 7, 8, 9, 10, 11, 27, 28, 29, 48, 49, 50, 51, 75, 113, 114, 115, 126, 127, 128, 129] (by kernel_rfl) [1, 3, 4, 113, 114] (fun q G' fr H' => ∃ (k : Nat) (rk : List Value), k + q = W ∧ rk.length = W ∧ PLe G G' ∧ (∀ j (h : j < k) (h2 : j < rk.length), BkRow G' n (dlF d j) rk[j]) ∧ rk.all oneV = true ∧ H' = (b1, .cells C [] 27) :: (bq, .cells [.pointer (some ⟨bp, 0, none⟩)] [] 45) :: (bp, .cells (PC vs va vb vsp (.slice (some ⟨bk, 0, none⟩) W W) vw vm (W : Nat)) [] 52) :: (bk, .cells rk [] 23) :: H ∧ fr = [(1, .pointer (some ⟨b1, 0, none⟩)), (3, .int .i64 (n : Nat)), (4, .pointer (some ⟨bq, 0, none⟩)), (113, .int .i64 (W : Nat)), (114, .int .i64 (k : Nat))]) (W) ?_ ?_
 ·exact Upd.now ⟨0, _, by omega, List.length_replicate .., PLe.refl _, fun j h => by omega, by rw [List.all_replicate]; simp [oneV], rfl, rfl⟩
 ·rintro q G1 fr H1 hle1 hs1 ⟨k, rk, hkq, hrk, hle01, hbk, hro, rfl, rfl⟩
  have O1 := O.mono hle01
  have hsE := hs1
  try simp only [zzs] at hsE
  repeat (obtain ⟨hsx, hsE⟩ := hsE)
  by_cases hkW : k < W
  ·have hput : ∀ v, splice rk k [v] = rk.set k v := fun v => splice_set (by omega) v
   repeat' first
    | (with_reducible first | refine Nx.go ?_ | refine Bk.go (fun _ => ?_) fun _ => ?_)
    | ((with_reducible first | refine NewB.mk2 fun nb hnb hnb1 hnb2 => ?_ | refine NewRow.mk2 fun nb nsp ncap hnb hncap hnb1 hnb2 => ?_); try simp only [zzn] at hnb2)
    | simp -dsimp -implicitDefEqProofs (disch := first | assumption | (simp only [zzm]; done) | omega | (try with_reducible refine Row.adr (by assumption) ?_); simp only [zzl, Nat.reduceAdd]; first | done | omega) only [go_sem, ↓reduceIte, seval, -List.reduceReplicate, hCl, hCw, hCn, hW, hput, hrk, Nat.sub_self, List.replicate_zero]
    | with_reducible refine Tri.drawS tok mixed [0, 1, 2, 3, 4, 5, 6, 7, 8, 9, 10, 11, 27, 28, 29, 48, 49, 50, 51, 75, 113, 114, 115, 126, 127, 128, 129] 22 [0, 3] (.op 0 .held (.op 1 .plain (.op 2 .plain (.op 3 .held (.op 4 .plain (.op 5 .plain (.op 6 .keeps (.op 7 .plain (.op 8 .plain .nil))))))))) (by kernel_rfl) [(bq, .cells [.pointer (some ⟨bp, 0, none⟩)] [] 45), (bp, .cells (PC vs va vb vsp (.slice (some ⟨bk, 0, none⟩) W W) vw vm (W : Nat)) [] 52)] (by intro fsum; first | exact Nat.le_refl _ | (simp only [zzq]; omega)) ?_
   obtain ⟨bh, ebh⟩ : ∃ x, x = nb := ⟨_, rfl⟩
   subst ebh
   obtain ⟨rk', hrk'⟩ : ∃ rk', rk' = rk.set k (.slice (some ⟨bh, 0, none⟩) n n) := ⟨_, rfl⟩
   have hrl : rk'.length = W := by rw [hrk', List.length_set, hrk]
   have hro' : rk'.all oneV = true := by
    rw [List.all_eq_true] at hro ⊢
    intro x hx
    rw [hrk'] at hx
    rcases List.mem_or_eq_of_mem_set hx with h | h
    ·exact hro x h
    ·rw [h]; rfl
   have hrg : rk'[k]? = some (.slice (some ⟨bh, 0, none⟩) n n) := by rw [hrk', List.getElem?_set_self (by omega)]
   have hrold : ∀ j (h : j < k) (h2 : j < rk'.length), rk'[j] = rk[j]'(by omega) := fun j h h2 => by simp only [hrk']; rw [List.getElem_set_ne (by omega)]
   rw [← hrk']
   refine Tri.loopS tok [0, 1, 2, 3, 4, 5, 6, 7, 8, 9, 10, 11, 27, 28, 29, 48, 49, 50, 51, 75, 113, 114, 115, 126, 127, 128, 129] (.seq .run (.seq .run (.seq (.block (.seq .run .cut)) .run))) (by kernel_rfl) [1, 3, 4, 9, 113, 114, 126, 127, 128] (fun q2 G' fr H' => ∃ (s : Nat) (hv : List Value) (Fm : Heap), s + q2 = n ∧ PLe G1 G' ∧ FamO 3 hv (famM (dlF d k) n s) Fm ∧ H' = (bh, .cells hv [] 24) :: (b1, .cells C [] 27) :: (bq, .cells [.pointer (some ⟨bp, 0, none⟩)] [] 45) :: (bp, .cells (PC vs va vb vsp (.slice (some ⟨bk, 0, none⟩) W W) vw vm (W : Nat)) [] 52) :: (bk, .cells rk' [] 23) :: (Fm ++ H) ∧ fr = [(1, .pointer (some ⟨b1, 0, none⟩)), (3, .int .i64 (n : Nat)), (4, .pointer (some ⟨bq, 0, none⟩)), (9, .int .i64 (k : Nat)), (113, .int .i64 (W : Nat)), (114, .int .i64 (k : Nat)), (126, .slice an d.next.length cn), (127, .int .i64 (d.next.length : Nat)), (128, .int .i64 (s : Nat))]) (n) ?_ ?_
   ·exact Upd.leave (H' := (bh, .cells (List.replicate n (.slice none 0 0)) [] 24) :: (b1, .cells C [] 27) :: (bq, .cells [.pointer (some ⟨bp, 0, none⟩)] [] 45) :: (bp, .cells (PC vs va vb vsp (.slice (some ⟨bk, 0, none⟩) W W) vw vm (W : Nat)) [] 52) :: (bk, .cells rk' [] 23) :: ([] ++ H)) (by intro fsum; simp only [zzq]; omega) ⟨0, _, [], by omega, PLe.refl _, by rw [famM_zero]; exact FamO.zero 3 n, rfl, rfl⟩
   ·rintro q2 G2 fr H2 hle2 hs2 ⟨s, hv, Fm, hsq, hle12, hF, rfl, rfl⟩
    have O2 := O1.mono hle12
    have hhv : hv.length = n := by have := hF.lenv; rw [famM_len] at this; exact this
    by_cases hsn : s < n
    ·have hsx : s < d.next.length := by omega
     obtain ⟨h1, e1, e2⟩ := dlF_at hok hsx (k := k) (by omega)
     obtain ⟨t, ht⟩ : ∃ t, t = dlF d k s := ⟨_, rfl⟩
     have htn : t < n := by omega
     have hsucc := famM_succ (dl := dlF d k) (n := n) (m := s) (by omega)
     rw [← ht] at e1 hsucc
     obtain ⟨kb, F', hk, hsum, hback⟩ := hF.out (i := t) (by rw [famM_len]; exact htn)
     have hfg := famM_get (dl := dlF d k) (n := n) (m := s) htn
     rw [hfg] at hk
     have hgv : hv[t]? = some hv[t] := List.getElem?_eq_getElem (by omega)
     obtain ⟨b, c, r1, r2, r3⟩ := O2.rs s hsx (by omega)
     have hadb : Adr b := r2.adr (by rw [List.length_map]; omega)
     have hadn : Adr an := O2.rn.adr (by omega)
     have hputv : ∀ v, splice hv t [v] = hv.set t v := fun v => splice_set (by omega) v
     have hpl := preM_len (dlF d k) s t
     have hsE := hs2
     try simp only [zzs] at hsE
     repeat (obtain ⟨hsx, hsE⟩ := hsE)
     repeat' first
      | (with_reducible first | refine Nx.go ?_ | refine Bk.go (fun _ => ?_) fun _ => ?_)
      | ((with_reducible first | refine NewB.mk2 fun nb hnb hnb1 hnb2 => ?_ | refine NewRow.mk2 fun nb nsp ncap hnb hncap hnb1 hnb2 => ?_); try simp only [zzn] at hnb2)
      | simp -dsimp -implicitDefEqProofs (disch := first | assumption | (simp only [zzm]; done) | omega | (try with_reducible refine Row.adr (by assumption) ?_); simp only [zzl, Nat.reduceAdd]; first | done | omega) only [go_sem, ↓reduceIte, seval, -List.reduceReplicate, hCl, hCw, hCn, hW, Row.obj O2.rn, r1]
     refine Tri.upd (Upd.go (H' := (bh, .cells hv [] 24) :: (b1, .cells C [] 27) :: (bq, .cells [.pointer (some ⟨bp, 0, none⟩)] [] 45) :: (bp, .cells (PC vs va vb vsp (.slice (some ⟨bk, 0, none⟩) W W) vw vm (W : Nat)) [] 52) :: (bk, .cells rk' [] 23) :: (kb ++ (F' ++ H))) (by intro fsum; have := hsum fsum; simp only [List.map_append, List.map_cons, List.sum_append, List.sum_cons]; omega) (Upd.now ?_))
     refine Tri.sepT fun hs3 => ?_
     rcases hk with ⟨aa, ev, hx0, hx, rfl⟩ | ⟨bx, cx, spx, ev, rfl, hx, hcx⟩
     ·rw [List.nil_append] at hs3 ⊢
      rw [ev] at hgv
      have hsE := hs3
      try simp only [zzs] at hsE
      repeat (obtain ⟨hsx, hsE⟩ := hsE)
      refine Tri.run tok [0, 1, 2, 3, 4, 5, 6, 7, 8, 9, 10, 11, 27, 28, 29, 48, 49, 50, 51, 75, 113, 114, 115, 126, 127, 128, 129] (by kernel_rfl) ?_
      repeat' first
       | (with_reducible first | refine Nx.go ?_ | refine Bk.go (fun _ => ?_) fun _ => ?_)
       | ((with_reducible first | refine NewB.mk2 fun nb hnb hnb1 hnb2 => ?_ | refine NewRow.mk2 fun nb nsp ncap hnb hncap hnb1 hnb2 => ?_); try simp only [zzn] at hnb2)
       | simp -dsimp -implicitDefEqProofs (disch := first | assumption | (simp only [zzm]; done) | omega | (try with_reducible refine Row.adr (by assumption) ?_); simp only [zzl, Nat.reduceAdd]; first | done | omega) only [go_sem, ↓reduceIte, seval, -List.reduceReplicate, hrg, e1, Row.obj r2, List.getElem_map, hgv, hputv, hr1, hhv]
       | with_reducible refine Tri.drawS tok mixed [0, 1, 2, 3, 4, 5, 6, 7, 8, 9, 10, 11, 27, 28, 29, 48, 49, 50, 51, 75, 113, 114, 115, 126, 127, 128, 129] 26 [0, 3, 6, 10, 11, 14, 17, 21, 23] (.op 0 .held (.op 1 .plain (.op 2 .plain (.op 3 .held (.op 4 .plain (.op 5 .plain (.op 6 .held (.op 7 .plain (.op 8 .plain (.op 9 .plain (.op 10 .held (.op 11 .held (.op 12 .plain (.op 13 .plain (.op 14 .held (.op 15 .plain (.op 16 .plain (.op 17 .held (.op 18 .plain (.op 19 .plain (.op 20 .plain (.op 21 .held (.op 22 .plain (.op 23 .held (.op 24 .plain (.op 25 .keeps (.op 26 .keeps (.op 27 .plain (.op 28 .plain .nil))))))))))))))))))))))))))))) (by kernel_rfl) [(bq, .cells [.pointer (some ⟨bp, 0, none⟩)] [] 45), (bp, .cells (PC vs va vb vsp (.slice (some ⟨bk, 0, none⟩) W W) vw vm (W : Nat)) [] 52), (bk, .cells rk' [] 23), (bh, .cells hv [] 24)] (by intro fsum; first | exact Nat.le_refl _ | (simp only [zzq]; omega)) ?_
      obtain ⟨F'', hF2, hsum2⟩ := hback (.slice (some ⟨nb, 0, none⟩) 1 ncap) [.int .i64 (s : Nat)] [(nb, .cells [.int .i64 (s : Nat)] nsp 3)] (.inr ⟨nb, ncap, nsp, rfl, rfl, rfl, by simp at hncap ⊢; omega⟩)
      rw [hx, List.nil_append] at hsucc
      rw [← hsucc] at hF2
      refine Upd.leave (H' := (bh, .cells (hv.set t (.slice (some ⟨nb, 0, none⟩) 1 ncap)) [] 24) :: (b1, .cells C [] 27) :: (bq, .cells [.pointer (some ⟨bp, 0, none⟩)] [] 45) :: (bp, .cells (PC vs va vb vsp (.slice (some ⟨bk, 0, none⟩) W W) vw vm (W : Nat)) [] 52) :: (bk, .cells rk' [] 23) :: (F'' ++ H)) (by intro fsum; have := hsum2 fsum; simp only [List.map_append, List.map_cons, List.map_nil, List.sum_append, List.sum_cons, List.sum_nil] at this ⊢; omega) ?_
      exact ⟨q2 - 1, by omega, s + 1, _, F'', by omega, hle12, hF2, rfl, rfl⟩
     ·rw [ev] at hgv
      rw [List.length_map, Nat.mul_one] at hx hcx
      have hx := hx
      have hsE := hs3
      try simp only [zzs] at hsE
      repeat (obtain ⟨hsx, hsE⟩ := hsE)
      refine Tri.run tok [0, 1, 2, 3, 4, 5, 6, 7, 8, 9, 10, 11, 27, 28, 29, 48, 49, 50, 51, 75, 113, 114, 115, 126, 127, 128, 129] (by kernel_rfl) ?_
      repeat' first
       | (with_reducible first | refine Nx.go ?_ | refine Bk.go (fun _ => ?_) fun _ => ?_)
       | ((with_reducible first | refine NewB.mk2 fun nb hnb hnb1 hnb2 => ?_ | refine NewRow.mk2 fun nb nsp ncap hnb hncap hnb1 hnb2 => ?_); try simp only [zzn] at hnb2)
       | simp -dsimp -implicitDefEqProofs (disch := first | assumption | (simp only [zzm]; done) | omega | (try with_reducible refine Row.adr (by assumption) ?_); simp only [zzl, Nat.reduceAdd]; first | done | omega) only [go_sem, ↓reduceIte, seval, -List.reduceReplicate, hrg, e1, Row.obj r2, List.getElem_map, hgv, hputv, hr1, hhv, List.length_map]
       | with_reducible refine Tri.drawS tok mixed [0, 1, 2, 3, 4, 5, 6, 7, 8, 9, 10, 11, 27, 28, 29, 48, 49, 50, 51, 75, 113, 114, 115, 126, 127, 128, 129] 26 [0, 3, 6, 10, 11, 14, 17, 21, 23] (.op 0 .held (.op 1 .plain (.op 2 .plain (.op 3 .held (.op 4 .plain (.op 5 .plain (.op 6 .held (.op 7 .plain (.op 8 .plain (.op 9 .plain (.op 10 .held (.op 11 .held (.op 12 .plain (.op 13 .plain (.op 14 .held (.op 15 .plain (.op 16 .plain (.op 17 .held (.op 18 .plain (.op 19 .plain (.op 20 .plain (.op 21 .held (.op 22 .plain (.op 23 .held (.op 24 .plain (.op 25 .keeps (.op 26 .keeps (.op 27 .plain (.op 28 .plain .nil))))))))))))))))))))))))))))) (by kernel_rfl) [(bq, .cells [.pointer (some ⟨bp, 0, none⟩)] [] 45), (bp, .cells (PC vs va vb vsp (.slice (some ⟨bk, 0, none⟩) W W) vw vm (W : Nat)) [] 52), (bk, .cells rk' [] 23), (bh, .cells hv [] 24)] (by intro fsum; first | exact Nat.le_refl _ | (simp only [zzq]; omega)) ?_
      obtain ⟨F'', hF2, hsum2⟩ := hback (.slice (some ⟨nb, 0, none⟩) ((preM (dlF d k) s t).length + 1) ncap) ((preM (dlF d k) s t).map (Value.int .i64) ++ [.int .i64 (s : Nat)]) [(nb, .cells ((preM (dlF d k) s t).map (Value.int .i64) ++ [.int .i64 (s : Nat)]) nsp 3)] (.inr ⟨nb, ncap, nsp, by rw [List.length_append, List.length_map]; rfl, rfl, by simp, by simp at hncap ⊢; omega⟩)
      rw [← hsucc] at hF2
      refine Upd.leave (H' := (bh, .cells (hv.set t (.slice (some ⟨nb, 0, none⟩) ((preM (dlF d k) s t).length + 1) ncap)) [] 24) :: (b1, .cells C [] 27) :: (bq, .cells [.pointer (some ⟨bp, 0, none⟩)] [] 45) :: (bp, .cells (PC vs va vb vsp (.slice (some ⟨bk, 0, none⟩) W W) vw vm (W : Nat)) [] 52) :: (bk, .cells rk' [] 23) :: (F'' ++ H)) (by intro fsum; have := hsum2 fsum; simp only [List.map_append, List.map_cons, List.map_nil, List.sum_append, List.sum_cons, List.sum_nil] at this ⊢; omega) ?_
      exact ⟨q2 - 1, by omega, s + 1, _, F'', by omega, hle12, hF2, rfl, rfl⟩
    ·obtain rfl : s = n := by omega
     have hsE := hs2
     try simp only [zzs] at hsE
     repeat (obtain ⟨hsx, hsE⟩ := hsE)
     repeat' first
      | (with_reducible first | refine Nx.go ?_ | refine Bk.go (fun _ => ?_) fun _ => ?_)
      | ((with_reducible first | refine NewB.mk2 fun nb hnb hnb1 hnb2 => ?_ | refine NewRow.mk2 fun nb nsp ncap hnb hncap hnb1 hnb2 => ?_); try simp only [zzn] at hnb2)
      | simp -dsimp -implicitDefEqProofs (disch := first | assumption | (simp only [zzm]; done) | omega | (try with_reducible refine Row.adr (by assumption) ?_); simp only [zzl, Nat.reduceAdd]; first | done | omega) only [go_sem, ↓reduceIte, seval, -List.reduceReplicate, hCl]
     refine Upd.go (H' := Fm ++ ((bh, .cells hv [] 24) :: (b1, .cells C [] 27) :: (bq, .cells [.pointer (some ⟨bp, 0, none⟩)] [] 45) :: (bp, .cells (PC vs va vb vsp (.slice (some ⟨bk, 0, none⟩) W W) vw vm (W : Nat)) [] 52) :: (bk, .cells rk' [] 23) :: H)) (by intro fsum; simp only [zzq]; omega) (Upd.sepI fun hsx => Upd.trans (hF.share hsx fun G3 hle3 hs3 hall => ?_))
     refine Upd.shareRow hs3.1.1 fun G4 hle4 hs4 hr4 => ?_
     have k4 := hle12.trans (hle3.trans hle4)
     refine ⟨q - 1, by omega, k + 1, rk', by omega, hrl, hle01.trans k4, fun j hj h2 => ?_, hro', rfl, rfl⟩
     rcases Nat.lt_or_ge j k with g | g
     ·rw [hrold j g h2]
      exact (hbk j g (by omega)).mono k4
     ·obtain rfl : j = k := by omega
      have hrg2 : rk'[j] = .slice (some ⟨bh, 0, none⟩) s s := by
       rw [List.getElem?_eq_getElem h2, Option.some.injEq] at hrg; exact hrg
      rw [hrg2]
      refine ⟨_, s, hv, rfl, hr4, hhv, Nat.le_refl _, fun t ht h3 => ?_⟩
      obtain ⟨a, c, g1, g2, g3⟩ := hall t (by rw [famM_len]; exact ht) h3
      rw [famM_get ht] at g1 g2 g3
      rw [List.length_map] at g1 g3
      exact ⟨a, c, g1, g2.mono hle4, g3⟩
  ·obtain rfl : k = W := by omega
   repeat' first
    | (with_reducible first | refine Nx.go ?_ | refine Bk.go (fun _ => ?_) fun _ => ?_)
    | ((with_reducible first | refine NewB.mk2 fun nb hnb hnb1 hnb2 => ?_ | refine NewRow.mk2 fun nb nsp ncap hnb hncap hnb1 hnb2 => ?_); try simp only [zzn] at hnb2)
    | simp -dsimp -implicitDefEqProofs (disch := first | assumption | (simp only [zzm]; done) | omega | (try with_reducible refine Row.adr (by assumption) ?_); simp only [zzl, Nat.reduceAdd]; first | done | omega) only [go_sem, ↓reduceIte, seval]
   exact Upd.now ⟨rk, hle01, hrk, fun j h h2 => hbk j h h2, rfl, rfl⟩
end Go.Proofs.Ytdeableflgakdaa
namespace Go.Proofs.Ytdeableflgakdaa
open Go Go.V Go.Proofs
set_option maxRecDepth 4000 in
theorem newParter_t {d : DfaT} (hsm : SmallD d) (hok : RightP d) {n W : Nat} (hnl : n = d.label.length) (hW : d.width = (W : Int)) (hW2 : W ≤ 256) {G : PHeap} {H : Heap} {R : Value → PHeap → Heap → Prop} {v : Value} (hv : IsD G d v)
  (hR : ∀ G' bp bs ba bl bm cb spb vsp ks vk st pl nb fr to, PLe G G' → n ≤ cb → PInv n nb st pl (blF d.label) fr to (fun _ => 0) → SliceO [] 75 3 vsp nb (row3 nb fr to fun _ => 0) ks → BkT G' n W (dlF d) vk → R (.pointer (some ⟨bp, 0, none⟩)) G' ((bp, .cells (PC (.slice (some ⟨bs, 0, none⟩) n n) (.slice (some ⟨ba, 0, none⟩) n n) (.slice (some ⟨bl, 0, none⟩) n cb) vsp vk (.slice none 0 0) (.map (some bm)) (W : Nat)) [] 52) :: (bs, .cells (rowN n st) [] 3) :: (ba, .cells (rowN n pl) [] 3) :: (bl, .cells (rowN n (blF d.label)) spb 3) :: (bm, .map []) :: (ks ++ H))) : FnT Try.prog 27 [v] G H R := by
 obtain ⟨C, an, al, ay, cn, cl, cs, rs, rfl, O⟩ := hv.opened
 obtain ⟨hm1, hm2, hm3, hm4, hm5⟩ := id hsm
 obtain ⟨hk1, hk2, hk3, hk4, hk5, hk6, hk7⟩ := id hok
 have hCl := O.len
 have hCa := O.all
 have hCx := O.l
 have hCw := O.w
 refine FnT.bodyS tok [0, 1, 2, 3, 4, 5, 6, 7, 8, 9, 10, 11, 27, 28, 29, 48, 49, 50, 51, 75, 113, 114, 115, 126, 127, 128, 129] (.seq .run (.seq .run (.seq .cut (.seq .cut (.seq .cut (.seq .cut (.seq .cut (.seq .cut .cut)))))))) Try.func27 rfl (by kernel_rfl) (by kernel_rfl) (by show _ ≤ 164; simp) fun hsep => ?_
 rw [Try.results27]
 have hsE := hsep
 try simp only [zzs] at hsE
 repeat (obtain ⟨hsx, hsE⟩ := hsE)
 repeat' first
  | (with_reducible first | refine Nx.go ?_ | refine Bk.go (fun _ => ?_) fun _ => ?_)
  | ((with_reducible first | refine NewB.mk2 fun nb hnb hnb1 hnb2 => ?_ | refine NewRow.mk2 fun nb nsp ncap hnb hncap hnb1 hnb2 => ?_); try simp only [zzn] at hnb2)
  | simp -dsimp -implicitDefEqProofs (disch := first | assumption | (simp only [zzm]; done) | omega | (try with_reducible refine Row.adr (by assumption) ?_); simp only [zzl, Nat.reduceAdd]; first | done | omega) only [go_sem, ↓reduceIte, seval, -List.reduceReplicate, List.toList_toArray, hCl, hCa, hCx]
 obtain ⟨b1, e10⟩ : ∃ x, x = nb := ⟨_, rfl⟩
 subst e10
 refine Tri.live [1, 2, 3] ?_
 refine Tri.isPiece [1, 1, 0] Try.f27 (by kernel_rfl) ?_
 refine Tri.onlyN (np2_t hsm O) fun G2 l2 H2 hle2 hs2 hM => ?_
 obtain ⟨bq, bp, bs, ba, bm, vb, kb, hO, rfl, hfr, rfl⟩ := hM
 rcases hO with ⟨_, _, h0, _, _⟩ | ⟨bl, cb, spb, rfl, rfl, hx, hcb⟩
 ·omega
 have hncb : n ≤ cb := by rw [List.length_map, nums_len] at hx hcb; omega
 simp only [go_sem]
 refine Tri.live [1, 3, 4] ?_
 rw [hfr, hW]
 rw [rowN_zero, blF_row, ← hnl]
 refine Tri.upd (Upd.go (H' := (bq, .cells [.pointer (some ⟨bp, 0, none⟩)] [] 45) :: (bp, .cells (PC (.slice (some ⟨bs, 0, none⟩) n n) (.slice (some ⟨ba, 0, none⟩) n n) (.slice (some ⟨bl, 0, none⟩) n cb) (.slice none 0 0) (.slice none 0 0) (.slice none 0 0) (.map (some bm)) (W : Nat)) [] 52) :: (bs, .cells (rowN n fun _ => 0) [] 3) :: ((ba, .cells (rowN n fun _ => 0) [] 3) :: (bl, .cells (rowN n (blF d.label)) spb 3) :: (bm, .map []) :: (b1, .cells C [] 27) :: H)) (by intro fsum; simp only [zzq]; omega) (Upd.now ?_))
 refine Tri.isPiece [1, 1, 1, 0] Try.f27 (by kernel_rfl) ?_
 refine Tri.onlyN (np3_t (by omega)) fun G3 l3 H3 hle3 hs3 hM => ?_
 obtain ⟨rfl, hfr3, rfl⟩ := hM
 simp only [go_sem]
 refine Tri.live [1, 3, 4] ?_
 rw [hfr3]
 refine Tri.sepT fun hs4 => ?_
 have hs4' := hs4
 have hsE := hs4
 try simp only [zzs] at hsE
 repeat (obtain ⟨hsx, hsE⟩ := hsE)
 refine Tri.run tok [0, 1, 2, 3, 4, 5, 6, 7, 8, 9, 10, 11, 27, 28, 29, 48, 49, 50, 51, 75, 113, 114, 115, 126, 127, 128, 129] (by kernel_rfl) ?_
 repeat' first
  | (with_reducible first | refine Nx.go ?_ | refine Bk.go (fun _ => ?_) fun _ => ?_)
  | ((with_reducible first | refine NewB.mk2 fun nb hnb hnb1 hnb2 => ?_ | refine NewRow.mk2 fun nb nsp ncap hnb hncap hnb1 hnb2 => ?_); try simp only [zzn] at hnb2)
  | simp -dsimp -implicitDefEqProofs (disch := first | assumption | (simp only [zzm]; done) | omega | (try with_reducible refine Row.adr (by assumption) ?_); simp only [zzl, Nat.reduceAdd]; first | done | omega) only [go_sem, ↓reduceIte, seval]
 have hcmp := npc_t (n := n) (by omega) (bq := bq) (bp := bp) (bl := bl) (cb := cb) (spb := spb) (W := (W : Int)) (vs := .slice (some ⟨bs, 0, none⟩) n n) (va := .slice (some ⟨ba, 0, none⟩) n n) (vsp := .slice none 0 0) (vk := .slice none 0 0) (vw := .slice none 0 0) (vm := .map (some bm)) (bf := blF d.label) (fun s hs => by have := blF_lt (l := d.label) (s := s) (by omega); omega) (sp := []) (bs := bs) (G := G3) (H := (ba, .cells (rowN n fun _ => 0) [] 3) :: (bm, .map []) :: (b1, .cells C [] 27) :: H) ?hsp
 case hsp =>
  simp only [keys_cons, Sep_cons, NotIn_cons]
  repeat' first
   | assumption
   | (apply Ne.symm; assumption)
   | with_reducible refine And.intro ?_ ?_
 refine FnT.upd (FnT.leave (H' := (bs, .cells (rowN n fun i => i) [] 3) :: (bq, .cells [.pointer (some ⟨bp, 0, none⟩)] [] 45) :: (bp, .cells (PC (.slice (some ⟨bs, 0, none⟩) n n) (.slice (some ⟨ba, 0, none⟩) n n) (.slice (some ⟨bl, 0, none⟩) n cb) (.slice none 0 0) (.slice none 0 0) (.slice none 0 0) (.map (some bm)) (W : Nat)) [] 52) :: (bl, .cells (rowN n (blF d.label)) spb 3) :: ((ba, .cells (rowN n fun _ => 0) [] 3) :: (bm, .map []) :: (b1, .cells C [] 27) :: H)) (sortStable_t (by omega) (fun i hi => hi) hcmp fun f hrea hsrt => ?_) (by intro fsum; simp only [zzq]; omega))
 refine Upd.go (H' := (bq, .cells [.pointer (some ⟨bp, 0, none⟩)] [] 45) :: (bp, .cells (PC (.slice (some ⟨bs, 0, none⟩) n n) (.slice (some ⟨ba, 0, none⟩) n n) (.slice (some ⟨bl, 0, none⟩) n cb) (.slice none 0 0) (.slice none 0 0) (.slice none 0 0) (.map (some bm)) (W : Nat)) [] 52) :: (bs, .cells (rowN n f) [] 3) :: (ba, .cells (rowN n fun _ => 0) [] 3) :: (bl, .cells (rowN n (blF d.label)) spb 3) :: ((bm, .map []) :: (b1, .cells C [] 27) :: H)) (by intro fsum; simp only [zzq]; omega) (Upd.now ?_)
 repeat' first
  | (with_reducible first | refine Nx.go ?_ | refine Bk.go (fun _ => ?_) fun _ => ?_)
  | ((with_reducible first | refine NewB.mk2 fun nb hnb hnb1 hnb2 => ?_ | refine NewRow.mk2 fun nb nsp ncap hnb hncap hnb1 hnb2 => ?_); try simp only [zzn] at hnb2)
  | simp -dsimp -implicitDefEqProofs (disch := first | assumption | (simp only [zzm]; done) | omega | (try with_reducible refine Row.adr (by assumption) ?_); simp only [zzl, Nat.reduceAdd]; first | done | omega) only [go_sem, ↓reduceIte, seval]
 have hbij : BijN n f := BijN.rea (f := fun i => i) ⟨fun i => i, fun i hi => ⟨hi, rfl⟩, fun s hs => ⟨hs, rfl⟩⟩ hrea
 refine Tri.live [1, 3, 4] ?_
 refine Tri.isPiece [1, 1, 1, 1, 1, 0] Try.f27 (by kernel_rfl) ?_
 refine Tri.onlyN (np5_t (by omega) hbij hsrt (fun s hs => by have := blF_lt (l := d.label) (s := s) (by omega); omega) (fun j v hj hv => by
  obtain ⟨p, g1, g2⟩ := hbij
  obtain ⟨t, h1, h2⟩ := blF_onto (l := d.label) (s := f j) (by have := (g1 j hj).1; omega) hv
  exact ⟨p t, (g2 t (by omega)).1, by rw [(g2 t (by omega)).2]; exact h2⟩)) fun G5 l5 H5 hle5 hs5 hM => ?_
 obtain ⟨w, fr, to, pl, vsp, ks, hP, hks, rfl, hfr5, rfl⟩ := hM
 simp only [go_sem]
 refine Tri.live [1, 3, 4] ?_
 rw [hfr5]
 refine Tri.upd (Upd.go (H' := (bq, .cells [.pointer (some ⟨bp, 0, none⟩)] [] 45) :: (bp, .cells (PC (.slice (some ⟨bs, 0, none⟩) n n) (.slice (some ⟨ba, 0, none⟩) n n) (.slice (some ⟨bl, 0, none⟩) n cb) vsp (.slice none 0 0) (.slice none 0 0) (.map (some bm)) (W : Nat)) [] 52) :: (b1, .cells C [] 27) :: (bs, .cells (rowN n f) [] 3) :: (ba, .cells (rowN n pl) [] 3) :: (bl, .cells (rowN n (blF d.label)) spb 3) :: (bm, .map []) :: (ks ++ H)) (by intro fsum; simp only [zzq]; omega) (Upd.now ?_))
 refine Tri.sepT fun hs6 => ?_
 have hsE := hs6
 try simp only [zzs] at hsE
 repeat (obtain ⟨hsx, hsE⟩ := hsE)
 refine Tri.run tok [0, 1, 2, 3, 4, 5, 6, 7, 8, 9, 10, 11, 27, 28, 29, 48, 49, 50, 51, 75, 113, 114, 115, 126, 127, 128, 129] (by kernel_rfl) ?_
 repeat' first
  | (with_reducible first | refine Nx.go ?_ | refine Bk.go (fun _ => ?_) fun _ => ?_)
  | ((with_reducible first | refine NewB.mk2 fun nb hnb hnb1 hnb2 => ?_ | refine NewRow.mk2 fun nb nsp ncap hnb hncap hnb1 hnb2 => ?_); try simp only [zzn] at hnb2)
  | simp -dsimp -implicitDefEqProofs (disch := first | assumption | (simp only [zzm]; done) | omega | (try with_reducible refine Row.adr (by assumption) ?_); simp only [zzl, Nat.reduceAdd]; first | done | omega) only [go_sem, ↓reduceIte, seval, -List.reduceReplicate, hCl, hCw, hW, Nat.sub_self, List.replicate_zero]
  | with_reducible refine Tri.drawS tok mixed [0, 1, 2, 3, 4, 5, 6, 7, 8, 9, 10, 11, 27, 28, 29, 48, 49, 50, 51, 75, 113, 114, 115, 126, 127, 128, 129] 18 [0, 2] (.op 0 .held (.op 1 .plain (.op 2 .held (.op 3 .keeps (.op 4 .plain (.op 5 .plain (.op 6 .plain .nil))))))) (by kernel_rfl) [(bq, .cells [.pointer (some ⟨bp, 0, none⟩)] [] 45), (b1, .cells C [] 27)] (by intro fsum; first | exact Nat.le_refl _ | (simp only [zzq]; omega)) ?_
 obtain ⟨bk, ebk⟩ : ∃ x, x = nb := ⟨_, rfl⟩
 subst ebk
 refine Tri.live [1, 3, 4] ?_
 refine Tri.upd (Upd.go (H' := (b1, .cells C [] 27) :: (bq, .cells [.pointer (some ⟨bp, 0, none⟩)] [] 45) :: (bp, .cells (PC (.slice (some ⟨bs, 0, none⟩) n n) (.slice (some ⟨ba, 0, none⟩) n n) (.slice (some ⟨bl, 0, none⟩) n cb) vsp (.slice (some ⟨bk, 0, none⟩) W W) (.slice none 0 0) (.map (some bm)) (W : Nat)) [] 52) :: (bk, .cells (List.replicate W (.slice none 0 0)) [] 23) :: ((bs, .cells (rowN n f) [] 3) :: (ba, .cells (rowN n pl) [] 3) :: (bl, .cells (rowN n (blF d.label)) spb 3) :: (bm, .map []) :: (ks ++ H))) (by intro fsum; simp only [zzq]; omega) (Upd.now ?_))
 refine Tri.isPiece [1, 1, 1, 1, 1, 1, 1, 0] Try.f27 (by kernel_rfl) ?_
 refine Tri.onlyN (np7_t hsm hok (O.mono hle2) hnl hW hW2) fun G7 l7 H7 hle7 hs7 hM => ?_
 obtain ⟨rk, hle57, hrk, hbk, hfr7, rfl⟩ := hM
 simp only [go_sem]
 refine Tri.live [4] ?_
 rw [hfr7]
 refine Tri.upd (Upd.go (H' := (bk, .cells rk [] 23) :: (bq, .cells [.pointer (some ⟨bp, 0, none⟩)] [] 45) :: (bp, .cells (PC (.slice (some ⟨bs, 0, none⟩) n n) (.slice (some ⟨ba, 0, none⟩) n n) (.slice (some ⟨bl, 0, none⟩) n cb) vsp (.slice (some ⟨bk, 0, none⟩) W W) (.slice none 0 0) (.map (some bm)) (W : Nat)) [] 52) :: (bs, .cells (rowN n f) [] 3) :: (ba, .cells (rowN n pl) [] 3) :: (bl, .cells (rowN n (blF d.label)) spb 3) :: (bm, .map []) :: (ks ++ H)) (by intro fsum; simp only [zzq]; omega) (Upd.sepI fun hs8 => Upd.shareRow hs8.1.1 fun G8 hle8 hs9 hr8 => ?_))
 have hsE := hs9
 try simp only [zzs] at hsE
 repeat (obtain ⟨hsx, hsE⟩ := hsE)
 refine Tri.run tok [0, 1, 2, 3, 4, 5, 6, 7, 8, 9, 10, 11, 27, 28, 29, 48, 49, 50, 51, 75, 113, 114, 115, 126, 127, 128, 129] (by kernel_rfl) ?_
 repeat' first
  | (with_reducible first | refine Nx.go ?_ | refine Bk.go (fun _ => ?_) fun _ => ?_)
  | ((with_reducible first | refine NewB.mk2 fun nb hnb hnb1 hnb2 => ?_ | refine NewRow.mk2 fun nb nsp ncap hnb hncap hnb1 hnb2 => ?_); try simp only [zzn] at hnb2)
  | simp -dsimp -implicitDefEqProofs (disch := first | assumption | (simp only [zzm]; done) | omega | (try with_reducible refine Row.adr (by assumption) ?_); simp only [zzl, Nat.reduceAdd]; first | done | omega) only [go_sem, ↓reduceIte, seval]
 unfold UpdR
 refine Upd.leave (H' := (bp, .cells (PC (.slice (some ⟨bs, 0, none⟩) n n) (.slice (some ⟨ba, 0, none⟩) n n) (.slice (some ⟨bl, 0, none⟩) n cb) vsp (.slice (some ⟨bk, 0, none⟩) W W) (.slice none 0 0) (.map (some bm)) (W : Nat)) [] 52) :: (bs, .cells (rowN n f) [] 3) :: (ba, .cells (rowN n pl) [] 3) :: (bl, .cells (rowN n (blF d.label)) spb 3) :: (bm, .map []) :: (ks ++ H)) (by intro fsum; simp only [zzq]; omega) ?_
 exact hR G8 bp bs ba bl bm cb spb vsp ks _ f pl w fr to (hle2.trans (hle57.trans hle8)) hncb hP hks ⟨_, W, rk, rfl, hr8, hrk, Nat.le_refl _, fun k h h2 => (hbk k h h2).mono hle8⟩
end Go.Proofs.Ytdeableflgakdaa
namespace Go.Proofs.Ytdeableflgakdaa
open Go Go.V Go.Proofs
theorem row3_take {n : Nat} {fr to mk : Nat → Nat} {sp : List Value} {i : Nat} (hi : i < n) : List.take 3 (List.drop (i * 3) (row3 n fr to mk ++ sp)) = [.int .i64 (fr i : Nat), .int .i64 (to i : Nat), .int .i64 (mk i : Nat)] := by
 have hl : (row3 n fr to mk ++ sp).length ≥ n * 3 := by rw [List.length_append, row3_len]; omega
 apply List.ext_getElem?
 intro j
 rw [List.getElem?_take]
 by_cases hj : j < 3
 ·rw [if_pos hj, List.getElem?_drop, row3_get hi hj]; rfl
 ·rw [if_neg hj, List.getElem?_eq_none (by simp; omega)]
theorem inside_t {n w : Nat} {st pl bf fr to mk : Nat → Nat} (hP : PInv n w st pl bf fr to mk) (hn : n ≤ 70000) {bp bs bx csp : Nat} {spx : List Value} {va vb vk vw vm : Value} {W : Int} {b : Nat} (hb : b < w) {G : PHeap} {H : Heap} {R : Value → PHeap → Heap → Prop}
  (hR : R (.slice (some ⟨bs, fr b, none⟩) (to b - fr b) (to b - fr b)) G ((bp, .cells (PC (.slice (some ⟨bs, 0, none⟩) n n) va vb (.slice (some ⟨bx, 0, none⟩) w csp) vk vw vm W) [] 52) :: (bx, .cells (row3 w fr to mk) spx 75) :: H)) : FnT Try.prog 55 [.pointer (some ⟨bp, 0, none⟩), .int .i64 (b : Nat)] G ((bp, .cells (PC (.slice (some ⟨bs, 0, none⟩) n n) va vb (.slice (some ⟨bx, 0, none⟩) w csp) vk vw vm W) [] 52) :: (bx, .cells (row3 w fr to mk) spx 75) :: H) R := by
 have h1 := hP.ne b hb
 have h2 := hP.le b hb
 have hw := hP.nb_le
 have g0 := row_g0 (fr := fr) (to := to) (mk := mk) (sp := spx) hb
 have g1 := row_g1 (fr := fr) (to := to) (mk := mk) (sp := spx) hb
 have g2 := row_g2 (fr := fr) (to := to) (mk := mk) (sp := spx) hb
 have e1 : ((to b : Nat) : Int) - ((fr b : Nat) : Int) = ((to b - fr b : Nat) : Int) := by omega
 have hrt := row3_take (fr := fr) (to := to) (mk := mk) (sp := spx) hb
 refine FnT.body tok [0, 1, 4, 5] Try.func55 rfl (by kernel_rfl) (by kernel_rfl) (by show _ ≤ 24; simp) fun hsep => ?_
 rw [Try.results55]
 have hsE := hsep
 try simp only [zzs] at hsE
 repeat (obtain ⟨hsx, hsE⟩ := hsE)
 repeat' first
  | (with_reducible first | refine Nx.go ?_ | refine Bk.go (fun _ => ?_) fun _ => ?_)
  | (with_reducible refine NewB.mk2 fun nb hnb hnb1 hnb2 => ?_; try simp only [zzn] at hnb2)
  | simp -dsimp -implicitDefEqProofs (disch := first | assumption | (simp only [zzm]; done) | omega | (try with_reducible refine Row.adr (by assumption) ?_); simp only [zzl, Nat.reduceAdd]; first | done | omega) only [go_sem, ↓reduceIte, seval, g0, g1, g2, e1, hrt]
  | with_reducible refine Tri.drawS tok mixed [0, 1, 4, 5] 2 [3, 5, 7, 9] (.op 0 .plain (.op 1 .plain (.op 2 .plain (.op 3 .held (.op 4 .plain (.op 5 .held (.op 6 .plain (.op 7 .held (.op 8 .plain (.op 9 .held (.op 10 .plain (.op 11 .plain .nil)))))))))))) (by kernel_rfl) [(bp, .cells (PC (.slice (some ⟨bs, 0, none⟩) n n) va vb (.slice (some ⟨bx, 0, none⟩) w csp) vk vw vm W) [] 52), (nb, .cells [.int .i64 (fr b : Nat), .int .i64 (to b : Nat), .int .i64 (mk b : Nat)] [] 75)] (by intro fsum; first | exact Nat.le_refl _ | (simp only [zzq]; omega)) ?_
 refine ⟨rfl, ?_⟩
 all_goals refine Upd.finL ?_ hR ?_
 any_goals (intro fsum; first | exact Nat.le_refl _ | (simp only [zzq]; omega))
 rfl
theorem mark_t {n w : Nat} {st pl bf fr to mk : Nat → Nat} (hP : PInv n w st pl bf fr to mk) (hn : n ≤ 70000) {bp bs ba bl bx cb csp : Nat} {spb spx : List Value} {vk vw vm : Value} {W : Int} {s : Nat} (hs : s < n) {G : PHeap} {H : Heap} {R : Value → PHeap → Heap → Prop}
  (hR : ∀ r st' pl' mk', PInv n w st' pl' bf fr to mk' → (∀ x, x < n → (Mkd pl' bf fr mk' x ↔ Mkd pl bf fr mk x ∨ x = s)) → (∀ b, b ≠ bf s → mk' b = mk b) → 1 ≤ mk' (bf s) → R (.bool r) G ((bp, .cells (PC (.slice (some ⟨bs, 0, none⟩) n n) (.slice (some ⟨ba, 0, none⟩) n n) (.slice (some ⟨bl, 0, none⟩) n cb) (.slice (some ⟨bx, 0, none⟩) w csp) vk vw vm W) [] 52) :: (bx, .cells (row3 w fr to mk') spx 75) :: (bs, .cells (rowN n st') [] 3) :: (ba, .cells (rowN n pl') [] 3) :: (bl, .cells (rowN n bf) spb 3) :: H)) :
  FnT Try.prog 56 [.pointer (some ⟨bp, 0, none⟩), .int .i64 (s : Nat)] G ((bp, .cells (PC (.slice (some ⟨bs, 0, none⟩) n n) (.slice (some ⟨ba, 0, none⟩) n n) (.slice (some ⟨bl, 0, none⟩) n cb) (.slice (some ⟨bx, 0, none⟩) w csp) vk vw vm W) [] 52) :: (bx, .cells (row3 w fr to mk) spx 75) :: (bs, .cells (rowN n st) [] 3) :: (ba, .cells (rowN n pl) [] 3) :: (bl, .cells (rowN n bf) spb 3) :: H) R := by
 have hb := hP.bl_lt s hs
 have hlo := hP.lo s hs
 have hhi := hP.hi s hs
 have hle := hP.le _ hb
 have hmk := hP.mk_le _ hb
 have hps := hP.pl_lt s hs
 have hw := hP.nb_le
 have gb := rowN_get bf (sp := spb) hs
 have ga := rowN_at pl hs
 have g0 := row_g0 (fr := fr) (to := to) (mk := mk) (sp := spx) hb
 have g2 := row_g2 (fr := fr) (to := to) (mk := mk) (sp := spx) hb
 have e1 : ((fr (bf s) : Nat) : Int) + ((mk (bf s) : Nat) : Int) = ((fr (bf s) + mk (bf s) : Nat) : Int) := by omega
 by_cases hm : Mkd pl bf fr mk s
 ·unfold Mkd at hm
  refine FnT.body tok [0, 1, 4, 5, 6, 7, 37] Try.func56 rfl (by kernel_rfl) (by kernel_rfl) (by show _ ≤ 92; simp) fun hsep => ?_
  rw [Try.results56]
  have hsE := hsep
  try simp only [zzs] at hsE
  repeat (obtain ⟨hsx, hsE⟩ := hsE)
  repeat' first
   | (with_reducible first | refine Nx.go ?_ | refine Bk.go (fun _ => ?_) fun _ => ?_)
   | (with_reducible refine NewB.mk2 fun nb hnb hnb1 hnb2 => ?_; try simp only [zzn] at hnb2)
   | simp -dsimp -implicitDefEqProofs (disch := first | assumption | (simp only [zzm]; done) | omega | (try with_reducible refine Row.adr (by assumption) ?_); simp only [zzl, Nat.reduceAdd]; first | done | omega) only [go_sem, ↓reduceIte, seval, gb, ga, g0, g2, e1]
   | with_reducible refine Tri.drawS tok mixed [0, 1, 4, 5, 6, 7, 37] 1 [3, 7, 10] (.op 0 .plain (.op 1 .plain (.op 2 .plain (.op 3 .held (.op 4 .plain (.op 5 .plain (.op 6 .plain (.op 7 .held (.op 8 .plain (.op 9 .plain (.op 10 .held (.op 11 .plain (.op 12 .plain .nil))))))))))))) (by kernel_rfl) [(bp, .cells (PC (.slice (some ⟨bs, 0, none⟩) n n) (.slice (some ⟨ba, 0, none⟩) n n) (.slice (some ⟨bl, 0, none⟩) n cb) (.slice (some ⟨bx, 0, none⟩) w csp) vk vw vm W) [] 52), (bl, .cells (rowN n bf) spb 3)] (by intro fsum; first | exact Nat.le_refl _ | (simp only [zzq]; omega)) ?_
   | with_reducible refine Tri.drawS tok mixed [0, 1, 4, 5, 6, 7, 37] 2 [3, 7] (.op 0 .plain (.op 1 .plain (.op 2 .plain (.op 3 .held (.op 4 .plain (.op 5 .plain (.op 6 .plain (.op 7 .held (.op 8 .plain (.op 9 .plain .nil)))))))))) (by kernel_rfl) [(bx, .cells (row3 w fr to mk) spx 75)] (by intro fsum; first | exact Nat.le_refl _ | (simp only [zzq]; omega)) ?_
  exact Upd.now (hR false st pl mk hP (fun x _ => ⟨.inl, fun h => h.elim id fun e => by rw [e]; exact hm⟩) (fun _ _ => rfl) (by omega))
 ·have hmark := hP.mark hs hm
  unfold Mkd at hm
  have hpl : fr (bf s) + mk (bf s) < n := by omega
  have hst := hP.st_lt _ hpl
  have gs := rowN_at st hpl
  have p1 := rowN_put st hpl s
  have p2 := rowN_put (updN st (fr (bf s) + mk (bf s)) s) hps (st (fr (bf s) + mk (bf s)))
  have p3 := rowN_put pl hst (pl s)
  have p4 := rowN_put (updN pl (st (fr (bf s) + mk (bf s))) (pl s)) hs (fr (bf s) + mk (bf s))
  have p5 := row_p2 (fr := fr) (to := to) (mk := mk) hb (mk (bf s) + 1)
  have e2 : ((mk (bf s) : Nat) : Int) + 1 = ((mk (bf s) + 1 : Nat) : Int) := rfl
  refine FnT.body tok [0, 1, 4, 5, 6, 7, 37] Try.func56 rfl (by kernel_rfl) (by kernel_rfl) (by show _ ≤ 92; simp) fun hsep => ?_
  rw [Try.results56]
  have hsE := hsep
  try simp only [zzs] at hsE
  repeat (obtain ⟨hsx, hsE⟩ := hsE)
  repeat' first
   | (with_reducible first | refine Nx.go ?_ | refine Bk.go (fun _ => ?_) fun _ => ?_)
   | (with_reducible refine NewB.mk2 fun nb hnb hnb1 hnb2 => ?_; try simp only [zzn] at hnb2)
   | simp -dsimp -implicitDefEqProofs (disch := first | assumption | (simp only [zzm]; done) | omega | (try with_reducible refine Row.adr (by assumption) ?_); simp only [zzl, Nat.reduceAdd]; first | done | omega) only [go_sem, ↓reduceIte, seval, gb, ga, gs, g0, g2, e1, e2, p1, p2, p3, p4, p5]
   | with_reducible refine Tri.drawS tok mixed [0, 1, 4, 5, 6, 7, 37] 1 [3, 7, 10] (.op 0 .plain (.op 1 .plain (.op 2 .plain (.op 3 .held (.op 4 .plain (.op 5 .plain (.op 6 .plain (.op 7 .held (.op 8 .plain (.op 9 .plain (.op 10 .held (.op 11 .plain (.op 12 .plain .nil))))))))))))) (by kernel_rfl) [(bp, .cells (PC (.slice (some ⟨bs, 0, none⟩) n n) (.slice (some ⟨ba, 0, none⟩) n n) (.slice (some ⟨bl, 0, none⟩) n cb) (.slice (some ⟨bx, 0, none⟩) w csp) vk vw vm W) [] 52), (bl, .cells (rowN n bf) spb 3)] (by intro fsum; first | exact Nat.le_refl _ | (simp only [zzq]; omega)) ?_
   | with_reducible refine Tri.drawS tok mixed [0, 1, 4, 5, 6, 7, 37] 2 [3, 7] (.op 0 .plain (.op 1 .plain (.op 2 .plain (.op 3 .held (.op 4 .plain (.op 5 .plain (.op 6 .plain (.op 7 .held (.op 8 .plain (.op 9 .plain .nil)))))))))) (by kernel_rfl) [(bx, .cells (row3 w fr to mk) spx 75)] (by intro fsum; first | exact Nat.le_refl _ | (simp only [zzq]; omega)) ?_
   | with_reducible refine Tri.drawS tok mixed [0, 1, 4, 5, 6, 7, 37] 6 [3, 8, 12, 15] (.op 0 .plain (.op 1 .plain (.op 2 .plain (.op 3 .held (.op 4 .plain (.op 5 .plain (.op 6 .plain (.op 7 .plain (.op 8 .held (.op 9 .plain (.op 10 .plain (.op 11 .plain (.op 12 .held (.op 13 .plain (.op 14 .plain (.op 15 .held (.op 16 .plain (.op 17 .plain (.op 18 .plain (.op 19 .plain (.op 20 .plain (.op 21 .plain .nil)))))))))))))))))))))) (by kernel_rfl) [(bp, .cells (PC (.slice (some ⟨bs, 0, none⟩) n n) (.slice (some ⟨ba, 0, none⟩) n n) (.slice (some ⟨bl, 0, none⟩) n cb) (.slice (some ⟨bx, 0, none⟩) w csp) vk vw vm W) [] 52), (ba, .cells (rowN n pl) [] 3)] (by intro fsum; first | exact Nat.le_refl _ | (simp only [zzq]; omega)) ?_
   | with_reducible refine Tri.drawS tok mixed [0, 1, 4, 5, 6, 7, 37] 7 [3, 8, 13, 16] (.op 0 .plain (.op 1 .plain (.op 2 .plain (.op 3 .held (.op 4 .plain (.op 5 .plain (.op 6 .plain (.op 7 .plain (.op 8 .held (.op 9 .plain (.op 10 .plain (.op 11 .plain (.op 12 .plain (.op 13 .held (.op 14 .plain (.op 15 .plain (.op 16 .held (.op 17 .plain (.op 18 .plain (.op 19 .plain (.op 20 .plain (.op 21 .plain .nil)))))))))))))))))))))) (by kernel_rfl) [(bp, .cells (PC (.slice (some ⟨bs, 0, none⟩) n n) (.slice (some ⟨ba, 0, none⟩) n n) (.slice (some ⟨bl, 0, none⟩) n cb) (.slice (some ⟨bx, 0, none⟩) w csp) vk vw vm W) [] 52), (ba, .cells (rowN n pl) [] 3)] (by intro fsum; first | exact Nat.le_refl _ | (simp only [zzq]; omega)) ?_
  exact Upd.now (hR true _ _ _ hmark.1 hmark.2 (fun b hb => updN_ne _ _ hb) (by rw [updN_same]; omega))
theorem part_t {n w : Nat} {st pl bf fr to mk : Nat → Nat} (hP : PInv n w st pl bf fr to mk) (hn : n ≤ 70000) {bp bs ba bl bx cb csp : Nat} {spb spx : List Value} {vk vw vm : Value} {W : Int} {b : Nat} (hb : b < w) (h1 : 1 ≤ mk b) (hcx : w * 3 + spx.length = csp * 3) {G : PHeap} {H : Heap} {R : Value → PHeap → Heap → Prop}
  (hR0 : fr b + mk b = to b → R (.int .i64 (-1)) G ((bp, .cells (PC (.slice (some ⟨bs, 0, none⟩) n n) (.slice (some ⟨ba, 0, none⟩) n n) (.slice (some ⟨bl, 0, none⟩) n cb) (.slice (some ⟨bx, 0, none⟩) w csp) vk vw vm W) [] 52) :: (bx, .cells (row3 w fr to (updN mk b 0)) spx 75) :: (bs, .cells (rowN n st) [] 3) :: (bl, .cells (rowN n bf) spb 3) :: H))
  (hR : ∀ bx' csp' spx', fr b + mk b < to b → (w + 1) * 3 + spx'.length = csp' * 3 → R (.int .i64 (w : Nat)) G ((bp, .cells (PC (.slice (some ⟨bs, 0, none⟩) n n) (.slice (some ⟨ba, 0, none⟩) n n) (.slice (some ⟨bl, 0, none⟩) n cb) (.slice (some ⟨bx', 0, none⟩) (w + 1) csp') vk vw vm W) [] 52) :: (bx', .cells (row3 (w + 1) (updN (updN fr b (fr b + mk b)) w (fr b)) (updN to w (fr b + mk b)) (updN (updN mk b 0) w 0)) spx' 75) :: (bs, .cells (rowN n st) [] 3) :: (bl, .cells (rowN n (fun s => if bf s = b ∧ pl s < fr b + mk b then w else bf s)) spb 3) :: H)) :
  FnT Try.prog 57 [.pointer (some ⟨bp, 0, none⟩), .int .i64 (b : Nat)] G ((bp, .cells (PC (.slice (some ⟨bs, 0, none⟩) n n) (.slice (some ⟨ba, 0, none⟩) n n) (.slice (some ⟨bl, 0, none⟩) n cb) (.slice (some ⟨bx, 0, none⟩) w csp) vk vw vm W) [] 52) :: (bx, .cells (row3 w fr to mk) spx 75) :: (bs, .cells (rowN n st) [] 3) :: (bl, .cells (rowN n bf) spb 3) :: H) R := by
 have hne := hP.ne b hb
 have hle := hP.le b hb
 have hmk := hP.mk_le b hb
 have hw := hP.nb_le
 have g2 := row_g2 (fr := fr) (to := to) (mk := mk) (sp := spx) hb
 have g0' := row_g0 (fr := fr) (to := to) (mk := updN mk b 0) (sp := spx) hb
 have g1' := row_g1 (fr := fr) (to := to) (mk := updN mk b 0) (sp := spx) hb
 have p2 := row_p2 (fr := fr) (to := to) (mk := mk) hb 0
 have e1 : ((to b : Nat) : Int) - ((fr b : Nat) : Int) = ((to b - fr b : Nat) : Int) := by omega
 have e2 : ((fr b : Nat) : Int) + ((mk b : Nat) : Int) = ((fr b + mk b : Nat) : Int) := by omega
 have hz : (Value.int .i64 ((0 : Nat) : Int)) = Value.int .i64 0 := rfl
 rw [hz] at p2
 by_cases hall : fr b + mk b = to b
 ·have hme : mk b = to b - fr b := by omega
  have hR0 := hR0 hall
  refine FnT.body tok [0, 1, 4, 5, 6, 7, 8, 10, 34, 71, 72, 73, 74] Try.func57 rfl (by kernel_rfl) (by kernel_rfl) (by show _ ≤ 86; simp) fun hsep => ?_
  rw [Try.results57]
  have hsE := hsep
  try simp only [zzs] at hsE
  repeat (obtain ⟨hsx, hsE⟩ := hsE)
  repeat' first
   | (with_reducible first | refine Nx.go ?_ | refine Bk.go (fun _ => ?_) fun _ => ?_)
   | ((with_reducible first | refine NewB.mk2 fun nb hnb hnb1 hnb2 => ?_ | refine NewRow.mk2 fun nb nsp ncap hnb hncap hnb1 hnb2 => ?_); try simp only [zzn] at hnb2)
   | simp -dsimp -implicitDefEqProofs (disch := first | assumption | (simp only [zzm]; done) | omega | (try with_reducible refine Row.adr (by assumption) ?_); simp only [zzl, Nat.reduceAdd]; first | done | omega) only [go_sem, ↓reduceIte, seval, g2, g0', g1', p2, e1]
   | with_reducible refine Tri.drawS tok mixed [0, 1, 4, 5, 6, 7, 8, 10, 34, 71, 72, 73, 74] 4 [4, 8] (.op 0 .plain (.op 1 .plain (.op 2 .plain (.op 3 .plain (.op 4 .held (.op 5 .plain (.op 6 .plain (.op 7 .plain (.op 8 .held (.op 9 .plain (.op 10 .plain .nil))))))))))) (by kernel_rfl) [(bx, .cells (row3 w fr to (updN mk b 0)) spx 75)] (by intro fsum; first | exact Nat.le_refl _ | (simp only [zzq]; omega)) ?_
  all_goals first | (exfalso; omega) | skip
  exact Upd.now hR0
 ·have hme : ¬ ((mk b : Nat) : Int) = ((to b - fr b : Nat) : Int) := by omega
  have p0 := row_p0 (fr := fr) (to := to) (mk := updN mk b 0) hb (fr b + mk b)
  have hsn := row3_snoc w (updN fr b (fr b + mk b)) to (updN mk b 0) (fr b) (fr b + mk b) 0
  rw [hz] at hsn
  refine FnT.body tok [0, 1, 4, 5, 6, 7, 8, 10, 34, 71, 72, 73, 74] Try.func57 rfl (by kernel_rfl) (by kernel_rfl) (by show _ ≤ 86; simp) fun hsep => ?_
  rw [Try.results57]
  have hsE := hsep
  try simp only [zzs] at hsE
  repeat (obtain ⟨hsx, hsE⟩ := hsE)
  repeat' first
   | (with_reducible first | refine Nx.go ?_ | refine Bk.go (fun _ => ?_) fun _ => ?_)
   | ((with_reducible first | refine NewB.mk2 fun nb hnb hnb1 hnb2 => ?_ | refine NewRow.mk2 fun nb nsp ncap hnb hncap hnb1 hnb2 => ?_); try simp only [zzn] at hnb2)
   | simp -dsimp -implicitDefEqProofs (disch := first | assumption | (simp only [zzm]; done) | omega | (try with_reducible refine Row.adr (by assumption) ?_); simp only [zzl, Nat.reduceAdd]; first | done | omega) only [go_sem, ↓reduceIte, seval, g2, g0', g1', p2, p0, e1, e2]
   | with_reducible refine Tri.drawS tok mixed [0, 1, 4, 5, 6, 7, 8, 10, 34, 71, 72, 73, 74] 4 [4, 8] (.op 0 .plain (.op 1 .plain (.op 2 .plain (.op 3 .plain (.op 4 .held (.op 5 .plain (.op 6 .plain (.op 7 .plain (.op 8 .held (.op 9 .plain (.op 10 .plain .nil))))))))))) (by kernel_rfl) [(bx, .cells (row3 w fr to (updN mk b 0)) spx 75)] (by intro fsum; first | exact Nat.le_refl _ | (simp only [zzq]; omega)) ?_
   | with_reducible refine Tri.drawS tok mixed [0, 1, 4, 5, 6, 7, 8, 10, 34, 71, 72, 73, 74] 7 [3, 7] (.op 0 .plain (.op 1 .plain (.op 2 .plain (.op 3 .held (.op 4 .plain (.op 5 .plain (.op 6 .plain (.op 7 .held (.op 8 .plain (.op 9 .plain (.op 10 .plain (.op 11 .keeps (.op 12 .plain .nil))))))))))))) (by kernel_rfl) [(bx, .cells (row3 w fr to (updN mk b 0)) spx 75)] (by intro fsum; first | exact Nat.le_refl _ | (simp only [zzq]; omega)) ?_
  obtain ⟨b8, e80⟩ : ∃ x, x = nb := ⟨_, rfl⟩
  subst e80
  repeat' first
   | (with_reducible first | refine Nx.go ?_ | refine Bk.go (fun _ => ?_) fun _ => ?_)
   | ((with_reducible first | refine NewB.mk2 fun nb hnb hnb1 hnb2 => ?_ | refine NewRow.mk2 fun nb nsp ncap hnb hncap hnb1 hnb2 => ?_); try simp only [zzn] at hnb2)
   | simp -dsimp -implicitDefEqProofs (disch := first | assumption | (simp only [zzm]; done) | omega | (try with_reducible refine Row.adr (by assumption) ?_); simp only [zzl, Nat.reduceAdd]; first | done | omega) only [go_sem, ↓reduceIte, seval, hsn]
   | with_reducible refine Tri.drawS tok mixed [0, 1, 4, 5, 6, 7, 8, 10, 34, 71, 72, 73, 74] 9 [4, 5] (.op 0 .plain (.op 1 .plain (.op 2 .plain (.op 3 .plain (.op 4 .held (.op 5 .held (.op 6 .keeps (.op 7 .keeps (.op 8 .plain (.op 9 .plain (.op 10 .plain .nil))))))))))) (by kernel_rfl) [(bp, .cells (PC (.slice (some ⟨bs, 0, none⟩) n n) (.slice (some ⟨ba, 0, none⟩) n n) (.slice (some ⟨bl, 0, none⟩) n cb) (.slice (some ⟨bx, 0, none⟩) w csp) vk vw vm W) [] 52), (b8, .cells [.int .i64 (fr b : Nat), .int .i64 ((fr b + mk b : Nat) : Int), .int .i64 0] [] 75)] (by intro fsum; first | exact Nat.le_refl _ | (simp only [zzq]; omega)) ?_
  obtain ⟨bx', ebx⟩ : ∃ x, x = nb := ⟨_, rfl⟩
  subst ebx
  rename_i y1 y2 y3 y4
  have hPN := hP.part hb h1 (by omega)
  have hfw : updN (updN fr b (fr b + mk b)) w (fr b) w = fr b := updN_same _ _ _
  have htw : updN to w (fr b + mk b) w = fr b + mk b := updN_same _ _ _
  refine FnT.upd (FnT.leave (H' := (bp, .cells (PC (.slice (some ⟨bs, 0, none⟩) n n) (.slice (some ⟨ba, 0, none⟩) n n) (.slice (some ⟨bl, 0, none⟩) n cb) (.slice (some ⟨bx', 0, none⟩) (w + 1) ncap) vk vw vm W) [] 52) :: (bx', .cells (row3 (w + 1) (updN (updN fr b (fr b + mk b)) w (fr b)) (updN to w (fr b + mk b)) (updN (updN mk b 0) w 0)) nsp 75) :: ((bs, .cells (rowN n st) [] 3) :: (bl, .cells (rowN n bf) spb 3) :: H)) (inside_t hPN hn (by omega) (Upd.sepI fun hs2 => Upd.now ?_)) (by intro fsum; simp only [zzq]; omega))
  rw [hfw, htw, Nat.add_sub_cancel_left]
  clear g2 g0' g1' p2 p0 hsn
  clear y1 y2 y3 y4
  have hsE := hs2
  try simp only [zzs] at hsE
  repeat (obtain ⟨hsx, hsE⟩ := hsE)
  repeat' first
   | (with_reducible first | refine Nx.go ?_ | refine Bk.go (fun _ => ?_) fun _ => ?_)
   | ((with_reducible first | refine NewB.mk2 fun nb hnb hnb1 hnb2 => ?_ | refine NewRow.mk2 fun nb nsp ncap hnb hncap hnb1 hnb2 => ?_); try simp only [zzn] at hnb2)
   | simp -dsimp -implicitDefEqProofs (disch := first | assumption | (simp only [zzm]; done) | omega | (try with_reducible refine Row.adr (by assumption) ?_); simp only [zzl, Nat.reduceAdd]; first | done | omega) only [go_sem, ↓reduceIte, seval]
  refine Tri.loopU tok [0, 1, 4, 5, 6, 7, 8, 10, 34, 71, 72, 73, 74] (by kernel_rfl) [0, 7, 71, 72, 73] (fun q G' l H' => ∃ i : Nat, i + q = mk b ∧ G' = G ∧ H' = (bp, .cells (PC (.slice (some ⟨bs, 0, none⟩) n n) (.slice (some ⟨ba, 0, none⟩) n n) (.slice (some ⟨bl, 0, none⟩) n cb) (.slice (some ⟨bx', 0, none⟩) (w + 1) ncap) vk vw vm W) [] 52) :: (bx', .cells (row3 (w + 1) (updN (updN fr b (fr b + mk b)) w (fr b)) (updN to w (fr b + mk b)) (updN (updN mk b 0) w 0)) nsp 75) :: (bs, .cells (rowN n st) [] 3) :: (bl, .cells (rowN n (fun s => if bf s = b ∧ pl s < fr b + i then w else bf s)) spb 3) :: H ∧ l = [(0, .pointer (some ⟨bp, 0, none⟩)), (7, .int .i64 (w : Nat)), (71, .slice (some ⟨bs, fr b, none⟩) (mk b) (mk b)), (72, .int .i64 (mk b : Nat)), (73, .int .i64 (i : Nat))]) ((mk b)) ?_ ?_
  ·refine Upd.now ⟨0, by omega, rfl, ?_, rfl⟩
   rw [rowN_congr (f := bf) (g := fun s => if bf s = b ∧ pl s < fr b + 0 then w else bf s) fun s hs => by
    show _ = if _ then _ else _
    rw [if_neg]
    rintro ⟨e, h⟩
    have := hP.lo s hs
    rw [e] at this
    omega]
  ·rintro q G2 l H2 hle2 hs3 ⟨i, hiq, rfl, rfl, rfl⟩
   have hsE := hs3
   try simp only [zzs] at hsE
   repeat (obtain ⟨hsx, hsE⟩ := hsE)
   by_cases hi : i < mk b
   ·have hpn : fr b + i < n := by omega
    have hsn := hP.st_lt _ hpn
    have hbi := hP.own b (fr b + i) hb (by omega) (by omega)
    have hpi := hP.pl_st _ hpn
    have gs := rowN_at st hpn
    have pb := rowN_put (fun s => if bf s = b ∧ pl s < fr b + i then w else bf s) hsn w
    have hnx : rowN n (updN (fun s => if bf s = b ∧ pl s < fr b + i then w else bf s) (st (fr b + i)) w) = rowN n fun s => if bf s = b ∧ pl s < fr b + (i + 1) then w else bf s := rowN_congr fun s hs => by
     unfold updN
     by_cases e : s = st (fr b + i)
     ·rw [if_pos e, e]
      show _ = if _ then _ else _
      rw [if_pos ⟨hbi, by rw [hpi]; omega⟩]
     ·rw [if_neg e]
      have hne : pl s ≠ fr b + i := fun h => e (by rw [← h, hP.st_pl s hs])
      show (if _ then _ else _) = if _ then _ else _
      by_cases c : bf s = b ∧ pl s < fr b + i
      ·rw [if_pos c, if_pos ⟨c.1, by omega⟩]
      ·rw [if_neg c, if_neg fun c2 => c ⟨c2.1, by omega⟩]
    rw [hnx] at pb
    repeat' first
     | (with_reducible first | refine Nx.go ?_ | refine Bk.go (fun _ => ?_) fun _ => ?_)
     | ((with_reducible first | refine NewB.mk2 fun nb hnb hnb1 hnb2 => ?_ | refine NewRow.mk2 fun nb nsp ncap hnb hncap hnb1 hnb2 => ?_); try simp only [zzn] at hnb2)
     | simp -dsimp -implicitDefEqProofs (disch := first | assumption | (simp only [zzm]; done) | omega | (try with_reducible refine Row.adr (by assumption) ?_); simp only [zzl, Nat.reduceAdd]; first | done | omega) only [go_sem, ↓reduceIte, seval, gs, pb]
    exact Upd.now ⟨q - 1, by omega, i + 1, by omega, rfl, rfl, rfl⟩
   ·obtain rfl : i = mk b := by omega
    repeat' first
     | (with_reducible first | refine Nx.go ?_ | refine Bk.go (fun _ => ?_) fun _ => ?_)
     | ((with_reducible first | refine NewB.mk2 fun nb hnb hnb1 hnb2 => ?_ | refine NewRow.mk2 fun nb nsp ncap hnb hncap hnb1 hnb2 => ?_); try simp only [zzn] at hnb2)
     | simp -dsimp -implicitDefEqProofs (disch := first | assumption | (simp only [zzm]; done) | omega | (try with_reducible refine Row.adr (by assumption) ?_); simp only [zzl, Nat.reduceAdd]; first | done | omega) only [go_sem, ↓reduceIte, seval]
    exact Upd.now (hR bx' ncap nsp (by omega) (by omega))
end Go.Proofs.Ytdeableflgakdaa
