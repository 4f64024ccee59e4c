/-
  The verification layer, part nine: how a goal is run.
-/
import Derived.Test.YtmlmhcejdlljjaaVeH
set_option linter.unusedSimpArgs false
set_option linter.unusedVariables false
namespace Go.V

/-- what an own or a persistent block holds, read cell by cell -/
def ownK (r : Option Res) (o : Nat) (k : Value → Prop) (_ : Tok k := .mk) : Prop := match r with
  | some (.cells xs sp _) => withV ((xs ++ sp)[o]?) k
  | _ => False
def objK (G : PHeap) (H : Heap) (b : Nat) (g : Option Obj) (o : Nat) (k : Value → Prop) (_ : Tok k := .mk) : Prop := match g with
  | some (.cells c _ _) => withV (c[o]?) k
  | some _ => False
  | none => ownK (findH H b) o k
theorem rdCell_obj (G : PHeap) (H : Heap) (b o : Nat) (k : Value → Prop) : rdCell G H ⟨b, o, none⟩ k = objK G H b (G b) o k := by
  unfold rdCell objK ownK; rw [if_neg (by simp)]
  rfl

def ownsK (r : Option Res) (o n : Nat) (k : List Value → Prop) (_ : Tok k := .mk) : Prop := match r with
  | some (.cells xs sp _) => Ob (n = 0 ∨ o + n ≤ xs.length + sp.length) (k (((xs ++ sp).drop o).take n))
  | _ => n = 0 ∧ k []
def objsK (G : PHeap) (H : Heap) (b : Nat) (g : Option Obj) (o n : Nat) (k : List Value → Prop) (_ : Tok k := .mk) : Prop := match g with
  | some (.cells c _ _) => Ob (n = 0 ∨ o + n ≤ c.size) (k ((c.toList.drop o).take n))
  | some _ => n = 0 ∧ k []
  | none => ownsK (findH H b) o n k
theorem rdCells_obj (G : PHeap) (H : Heap) (b o n : Nat) (k : List Value → Prop) : rdCells G H b o n k = objsK G H b (G b) o n k := by
  unfold rdCells objsK ownsK
  rfl

def wrsK (H : Heap) (b o : Nat) (vs : List Value) (r : Option Res) (k : Heap → Prop) (_ : Tok k := .mk) : Prop :=
  match r with
  | some (.cells xs sp e) => Ob (o + vs.length ≤ xs.length ∧ vs.all oneV = true) (k (setH H b (.cells (splice xs o vs) sp e)))
  | _ => False
theorem wrCells_obj (H : Heap) (b o : Nat) (vs : List Value) (k : Heap → Prop) : wrCells H b o vs k = wrsK H b o vs (findH H b) k := by
  unfold wrCells wrsK; rfl

theorem withV_map {α : Type} (f : α → Value) (o : Option α) (k : Value → Prop) : withV (o.map f) k = match o with | some x => k (f x) | none => False := by cases o <;> rfl
theorem withV_get {l : List Value} {i : Nat} (h : i < l.length) (k : Value → Prop) : withV (l[i]?) k = k l[i] := by rw [List.getElem?_eq_getElem h]; rfl
theorem withV_mapget {α : Type} {f : α → Value} {l : List α} {i : Nat} (h : i < l.length) (k : Value → Prop) : withV ((l.map f)[i]?) k = k (f l[i]) := by rw [List.getElem?_map, List.getElem?_eq_getElem h]; rfl
theorem withV_getmap {α : Type} {f : α → Value} {l : List α} {i : Nat} (h : i < l.length) (k : Value → Prop) : withV ((l[i]?).map f) k = k (f l[i]) := by rw [List.getElem?_eq_getElem h]; rfl
theorem withV_appget {α : Type} {f : α → Value} {l : List α} {sp : List Value} {i : Nat} (h : i < l.length) (k : Value → Prop) : withV ((l.map f ++ sp)[i]?) k = k (f l[i]) := by
  rw [List.getElem?_append_left (by simpa using h), List.getElem?_map, List.getElem?_eq_getElem h]; rfl

theorem Br_not (b : Bool) (x y : Prop) : Br (!b) x y = Br b y x := by
  cases b <;> simp [Br]
theorem Br.yes {x y : Prop} (h : x) : Br true x y := Br_true.symm ▸ h
theorem Br.no {x y : Prop} (h : y) : Br false x y := Br_false.symm ▸ h
theorem Br.beq {α : Type} [BEq α] [LawfulBEq α] {a b : α} {x y : Prop} (h1 : a = b → x) (h2 : ¬ a = b → y) : Br (a == b) x y := ⟨fun h => h1 (by simpa using h), fun h => h2 (by simpa using h)⟩
theorem Br_nilnil {x y : Prop} : Br (([] : List UInt8) == []) x y = x := by simp [Br]
theorem Br_consnil {a : UInt8} {l : List UInt8} {x y : Prop} : Br (a :: l == []) x y = y := by simp [Br]
theorem Br.beqB {a b : List UInt8} {x y : Prop} (h1 : a = b → x) (h2 : ¬ a = b → y) : Br (a == b) x y := Br.beq h1 h2
theorem Br.beqb {a b : Bool} {x y : Prop} (h1 : a = b → x) (h2 : ¬ a = b → y) : Br (a == b) x y := Br.beq h1 h2
theorem objK_none {G : PHeap} {b : Nat} (h : G b = none) (H : Heap) (o : Nat) (k : Value → Prop) : objK G H b (G b) o k = ownK (findH H b) o k := by rw [h]; rfl
theorem objsK_none {G : PHeap} {b : Nat} (h : G b = none) (H : Heap) (o n : Nat) (k : List Value → Prop) : objsK G H b (G b) o n k = ownsK (findH H b) o n k := by rw [h]; rfl
theorem objK_cells (G : PHeap) (H : Heap) (b : Nat) (c : Array Value) (e : TypeId) (f : Nat × Nat) (o : Nat) (k : Value → Prop) : objK G H b (some (.cells c e f)) o k = withV (c[o]?) k := rfl
theorem objsK_cells (G : PHeap) (H : Heap) (b : Nat) (c : Array Value) (e : TypeId) (f : Nat × Nat) (o n : Nat) (k : List Value → Prop) : objsK G H b (some (.cells c e f)) o n k = Ob (n = 0 ∨ o + n ≤ c.size) (k ((c.toList.drop o).take n)) := rfl
theorem findH_same (r : Res) (H : Heap) (b : Nat) : findH ((b, r) :: H) b = some r := by simp [findH]
theorem findH_ne {k b : Nat} (h : k ≠ b) (r : Res) (H : Heap) : findH ((k, r) :: H) b = findH H b := by simp [findH, h]
theorem setH_same (r : Res) (H : Heap) (b : Nat) (r' : Res) : setH ((b, r) :: H) b r' = (b, r') :: H := by simp [setH]
theorem setH_ne {k b : Nat} (h : k ≠ b) (r : Res) (H : Heap) (r' : Res) : setH ((k, r) :: H) b r' = (k, r) :: setH H b r' := by simp [setH, h]
theorem eraseH_same (r : Res) (H : Heap) (b : Nat) : eraseH ((b, r) :: H) b = H := by simp [eraseH]
theorem eraseH_ne {k b : Nat} (h : k ≠ b) (r : Res) (H : Heap) : eraseH ((k, r) :: H) b = (k, r) :: eraseH H b := by simp [eraseH, h]
theorem NewB.mk {G : PHeap} {ks : List Nat} {k : Nat → Prop} (h : ∀ b, Sep G (b :: ks) → k b) : NewB G ks k := h
theorem NewRow.mk {G : PHeap} {ks : List Nat} {n E : Nat} {k : Nat → List Value → Nat → Prop} (h : ∀ b sp cap, Sep G (b :: ks) → n * E + sp.length = cap * E → k b sp cap) : NewRow G ks n E k := h
theorem Ob_true (k : Prop) : Ob True k = k := by simp [Ob]

theorem findH_cons (k : Nat) (r : Res) (H : Heap) (b : Nat) : findH ((k, r) :: H) b = if k = b then some r else findH H b := rfl
theorem setH_cons (k : Nat) (r : Res) (H : Heap) (b : Nat) (r' : Res) : setH ((k, r) :: H) b r' = if k = b then (k, r') :: H else (k, r) :: setH H b r' := rfl
theorem eraseH_cons (k : Nat) (r : Res) (H : Heap) (b : Nat) : eraseH ((k, r) :: H) b = if k = b then H else (k, r) :: eraseH H b := rfl
theorem keys_cons (k : Nat) (r : Res) (H : Heap) : keys ((k, r) :: H) = k :: keys H := rfl
theorem keys_nil : keys [] = [] := rfl
theorem Sep_cons (G : PHeap) (b : Nat) (bs : List Nat) : Sep G (b :: bs) = ((G b = none ∧ NotIn b bs) ∧ Sep G bs) := rfl
theorem NotIn_cons (b c : Nat) (cs : List Nat) : NotIn b (c :: cs) = (b ≠ c ∧ NotIn b cs) := rfl
theorem NotIn_nil (b : Nat) : NotIn b [] = True := rfl
theorem Sep_nil (G : PHeap) : Sep G [] = True := rfl

theorem splice_lit0 (x : Value) (xs : List Value) (v : Value) (vs : List Value) : splice (x :: xs) 0 (v :: vs) = v :: splice xs 0 vs := by simp [splice]
theorem splice_nil (xs : List Value) : splice xs 0 [] = xs := by simp [splice]
def fillK (place : Nat → Option (Nat × Nat)) (cells : List Value) (v : Value) (rest : List (Nat × Value)) : Option (Nat × Nat) → Option (List Value)
  | none => none
  | some (off, size) => if (cellsV v).length = size ∧ off + size ≤ cells.length then fillL place (splice cells off (cellsV v)) rest else none
theorem fillL_nil (place : Nat → Option (Nat × Nat)) (cells : List Value) : fillL place cells [] = some cells := rfl
theorem fillL_cons (place : Nat → Option (Nat × Nat)) (cells : List Value) (i : Nat) (v : Value) (rest : List (Nat × Value)) : fillL place cells ((i, v) :: rest) = fillK place cells v rest (place i) := by
  rw [fillL]; cases place i <;> rfl
theorem fillK_some (place : Nat → Option (Nat × Nat)) (cells : List Value) (v : Value) (rest : List (Nat × Value)) (off size : Nat) : fillK place cells v rest (some (off, size)) = if (cellsV v).length = size ∧ off + size ≤ cells.length then fillL place (splice cells off (cellsV v)) rest else none := rfl
theorem splice_litS (x : Value) (xs : List Value) (n : Nat) (vs : List Value) : splice (x :: xs) (n + 1) vs = x :: splice xs n vs := by
  simp only [splice, List.take_succ_cons, List.cons_append]
  rw [show n + 1 + vs.length = (n + vs.length) + 1 by omega, List.drop_succ_cons]

theorem toList_arr {α : Type} (l : List α) : l.toArray.toList = l := rfl

/-- found, or not -/
def foundO {α : Type} (o : Option α) (yes : α → Prop) (no : Prop) (_ : Tok yes := .mk) (_ : Tok no := .mk) : Prop := match o with | some a => yes a | none => no
theorem foundO.mk {α : Type} {o : Option α} {yes : α → Prop} {no : Prop} (h1 : ∀ a, o = some a → yes a) (h2 : o = none → no) : foundO o yes no := by
  cases o with
  | none => exact h2 rfl
  | some a => exact h1 a rfl
theorem foundO_some {α : Type} (a : α) (yes : α → Prop) (no : Prop) : foundO (some a) yes no = yes a := rfl
theorem foundO_none {α : Type} (yes : α → Prop) (no : Prop) : foundO none yes no = no := rfl

/-! arithmetic in range -/
theorem wrap_i64 {x : Int} (h0 : -9223372036854775808 ≤ x) (h1 : x ≤ 9223372036854775807) : IntKind.i64.wrap x = x := by
  rw [IntKind.wrap_i64]; omega
theorem wrap_u8 {x : Int} (h0 : 0 ≤ x) (h1 : x ≤ 255) : IntKind.u8.wrap x = x := by
  simp only [IntKind.wrap, IntKind.bits, IntKind.signed]; simp; omega
theorem wrap_u64 {x : Int} (h0 : 0 ≤ x) (h1 : x ≤ 18446744073709551615) : IntKind.u64.wrap x = x := by
  simp only [IntKind.wrap, IntKind.bits, IntKind.signed]; simp; omega
theorem wrap_u16 {x : Int} (h0 : 0 ≤ x) (h1 : x ≤ 65535) : IntKind.u16.wrap x = x := by
  simp only [IntKind.wrap, IntKind.bits, IntKind.signed]; simp; omega
theorem shrE (m : Int) {n b : Nat} (h : n ≤ b) : m.fdiv (2 ^ min n b) = m / 2 ^ n := by
  rw [Nat.min_eq_left h, Int.fdiv_eq_ediv_of_nonneg _ (Int.pow_nonneg (by decide))]
theorem shlE (m : Int) {n b : Nat} (h : n ≤ b) : m * 2 ^ min n b = m * 2 ^ n := by rw [Nat.min_eq_left h]
theorem ofInt_nat {n : Nat} {x : Int} (h0 : 0 ≤ x) (h1 : x < 2 ^ n) : (BitVec.ofInt n x).toNat = x.toNat := by
  rw [BitVec.toNat_ofInt]
  congr 1
  exact Int.emod_eq_of_lt h0 (by simpa using h1)
theorem wrap_nat {k : IntKind} {m : Nat} (hs : k.signed = false) (h : m < 2 ^ k.bits) : k.wrap m = m := by
  simp only [IntKind.wrap, hs, Bool.false_and, Bool.false_eq_true, if_false]
  have h' : ((m : Int)) < ((2 ^ k.bits : Nat) : Int) := Int.ofNat_lt.2 h
  rw [Int.natCast_pow] at h'
  exact Int.emod_eq_of_lt (Int.natCast_nonneg m) h'
section
variable {k : IntKind} {x y : Int} (hs : k.signed = false) (hx : 0 ≤ x) (hx' : x < 2 ^ k.bits) (hy : 0 ≤ y) (hy' : y < 2 ^ k.bits)
include hs hx hx' hy hy'
theorem bits_and : bitsOp .and k x y = ((x.toNat &&& y.toNat : Nat) : Int) := by
  simp only [bitsOp]
  rw [BitVec.toNat_and, wrap_nat hs (Nat.lt_of_le_of_lt Nat.and_le_left (BitVec.isLt _)), ofInt_nat hx hx', ofInt_nat hy hy']
theorem bits_or : bitsOp .or k x y = ((x.toNat ||| y.toNat : Nat) : Int) := by
  simp only [bitsOp]
  rw [wrap_nat hs (BitVec.isLt _), BitVec.toNat_or, ofInt_nat hx hx', ofInt_nat hy hy']
theorem bits_xor : bitsOp .xor k x y = ((x.toNat ^^^ y.toNat : Nat) : Int) := by
  simp only [bitsOp]
  rw [wrap_nat hs (BitVec.isLt _), BitVec.toNat_xor, ofInt_nat hx hx', ofInt_nat hy hy']
end
theorem and_u8 {x y : Int} (h1 : 0 ≤ x) (h2 : x ≤ 255) (h3 : 0 ≤ y) (h4 : y ≤ 255) : bitsOp .and .u8 x y = ((x.toNat &&& y.toNat : Nat) : Int) := bits_and rfl h1 (by show x < 256; omega) h3 (by show y < 256; omega)
theorem or_u8 {x y : Int} (h1 : 0 ≤ x) (h2 : x ≤ 255) (h3 : 0 ≤ y) (h4 : y ≤ 255) : bitsOp .or .u8 x y = ((x.toNat ||| y.toNat : Nat) : Int) := bits_or rfl h1 (by show x < 256; omega) h3 (by show y < 256; omega)
theorem and_u64 {x y : Int} (h1 : 0 ≤ x) (h2 : x ≤ 18446744073709551615) (h3 : 0 ≤ y) (h4 : y ≤ 18446744073709551615) : bitsOp .and .u64 x y = ((x.toNat &&& y.toNat : Nat) : Int) := bits_and rfl h1 (by show x < 18446744073709551616; omega) h3 (by show y < 18446744073709551616; omega)
theorem or_u64 {x y : Int} (h1 : 0 ≤ x) (h2 : x ≤ 18446744073709551615) (h3 : 0 ≤ y) (h4 : y ≤ 18446744073709551615) : bitsOp .or .u64 x y = ((x.toNat ||| y.toNat : Nat) : Int) := bits_or rfl h1 (by show x < 18446744073709551616; omega) h3 (by show y < 18446744073709551616; omega)
theorem xor_u64 {x y : Int} (h1 : 0 ≤ x) (h2 : x ≤ 18446744073709551615) (h3 : 0 ≤ y) (h4 : y ≤ 18446744073709551615) : bitsOp .xor .u64 x y = ((x.toNat ^^^ y.toNat : Nat) : Int) := bits_xor rfl h1 (by show x < 18446744073709551616; omega) h3 (by show y < 18446744073709551616; omega)
theorem tdivE {m n : Int} (h : 0 ≤ m) : m.tdiv n = m / n := Int.tdiv_eq_ediv_of_nonneg h
theorem tmodE {m n : Int} (h : 0 ≤ m) : m.tmod n = m % n := Int.tmod_eq_emod_of_nonneg h
theorem rep_single (n : Nat) (v : Value) : rep n [v] = List.replicate n v := rfl
theorem byteV_ofNat {m : Int} (h0 : 0 ≤ m) (h1 : m ≤ 255) : byteV (UInt8.ofNat m.toNat) = .int .u8 m := by
  unfold byteV; congr 1
  rw [UInt8.toNat_ofNat_of_lt' (by show m.toNat < 256; omega)]; omega
theorem asBytes_app (xs ys : List Value) (k : List UInt8 → Prop) : asBytes (xs ++ ys) k = asBytes xs fun a => asBytes ys fun b => k (a ++ b) := by
  apply propext
  constructor
  · rintro ⟨bs, h, hk⟩
    obtain ⟨l1, l2, rfl, h1, h2⟩ := List.append_eq_map_iff.1 h
    exact ⟨l1, h1.symm, l2, h2.symm, hk⟩
  · rintro ⟨l1, rfl, l2, rfl, hk⟩
    exact ⟨l1 ++ l2, by simp, hk⟩
theorem asBytes_lit {m : Int} (h0 : 0 ≤ m) (h1 : m ≤ 255) (vs : List Value) (k : List UInt8 → Prop) : asBytes (.int .u8 m :: vs) k = asBytes vs fun bs => k (UInt8.ofNat m.toNat :: bs) := by
  have := asBytes_app [byteV (UInt8.ofNat m.toNat)] vs k
  rw [byteV_ofNat h0 h1] at this
  refine this.trans ?_
  rw [← byteV_ofNat h0 h1]
  exact asBytes_map [UInt8.ofNat m.toNat] _
theorem u8_ofNat (x : UInt8) : UInt8.ofNat x.toNat = x := by simp
theorem u8_ofNatI (x : UInt8) : UInt8.ofNat ((x.toNat : Int)).toNat = x := by simp
theorem asBytes_u8 (x : UInt8) (vs : List Value) (k : List UInt8 → Prop) : asBytes (.int .u8 (x.toNat : Int) :: vs) k = asBytes vs fun bs => k (x :: bs) := by
  have := x.toNat_lt
  rw [asBytes_lit (by omega) (by omega), u8_ofNatI]
theorem and_1 (n : Nat) : n &&& 1 = n % 2 := Nat.and_two_pow_sub_one_eq_mod n 1
theorem and_7 (n : Nat) : n &&& 7 = n % 8 := Nat.and_two_pow_sub_one_eq_mod n 3
theorem and_15 (n : Nat) : n &&& 15 = n % 16 := Nat.and_two_pow_sub_one_eq_mod n 4
theorem and_63 (n : Nat) : n &&& 63 = n % 64 := Nat.and_two_pow_sub_one_eq_mod n 6
theorem and_127 (n : Nat) : n &&& 127 = n % 128 := Nat.and_two_pow_sub_one_eq_mod n 7
theorem and_255 (n : Nat) : n &&& 255 = n % 256 := Nat.and_two_pow_sub_one_eq_mod n 8
theorem toNat_p1 (n : Nat) : ((n : Int) + 1).toNat = n + 1 := by omega
theorem toNat_p2 (n : Nat) : ((n : Int) + 2).toNat = n + 2 := by omega
theorem toNat_p3 (n : Nat) : ((n : Int) + 3).toNat = n + 3 := by omega
theorem toNat_p4 (n : Nat) : ((n : Int) + 4).toNat = n + 4 := by omega
theorem toNat_nat (n : Nat) : ((n : Int)).toNat = n := Int.toNat_natCast n

section
variable (k : PHeap → Fr → Heap → Prop) (K : Post) (G : PHeap) (l : Fr) (H : Heap) (rs : List ResultVar) (R : Value → PHeap → Heap → Prop)
theorem thenK_normal : thenK k K .mk .mk .normal G l H = k G l H := rfl
theorem thenK_exit (i : Nat) : thenK k K .mk .mk (.exit i) G l H = K (.exit i) G l H := rfl
theorem thenK_ret : thenK k K .mk .mk .ret G l H = K .ret G l H := rfl
theorem blockK_normal (i : Nat) : blockK i K .mk .normal G l H = K .normal G l H := rfl
theorem blockK_ret (i : Nat) : blockK i K .mk .ret G l H = K .ret G l H := rfl
theorem blockK_exit (i j : Nat) : blockK i K .mk (.exit j) G l H = if j = i then K .normal G l H else K (.exit j) G l H := rfl
theorem endK_normal (T : Tys) : endK T rs R .mk .normal G l H = resK T G H l rs fun vs => R (retV vs) G H := rfl
theorem endK_ret (T : Tys) : endK T rs R .mk .ret G l H = resK T G H l rs fun vs => R (retV vs) G H := rfl
end
theorem condK_bool (b : Bool) (x y : Prop) : condK (.bool b) x y = Br b x y := rfl
theorem retV_one (v : Value) : retV [v] = v := rfl
theorem retV_two (u v : Value) : retV [u, v] = .tuple #[u, v] := rfl
theorem retV_three (u v w : Value) : retV [u, v, w] = .tuple #[u, v, w] := rfl
theorem retV_zero : retV [] = .tuple #[] := rfl

section
variable (P : Program) (T : Tys) (all rest : List Oper) (d : Option Nat) (op : Op) (t : TypeId) (p : String) (af : Array Edge) (G : PHeap) (l : Fr) (H : Heap) (K : PHeap → Fr → Heap → Prop)
theorem wpO_nil : wpO P T all [] G l H K = K G l H := rfl
theorem wpO_plain : wpO P T all (⟨d, op, t, p, af, none⟩ :: rest) G l H K = stepY P T op G l H fun v G' H' => wpO P T all rest G' (put l d v) H' K := rfl
theorem wpO_guard (g : Nat × Bool) : wpO P T all (⟨d, op, t, p, af, some g⟩ :: rest) G l H K = guardK all (some g) l (fun l' => stepY P T op G l' H fun v G' H' => wpO P T all rest G' (put l' d v) H' K) (fun l' => wpO P T all rest G (put l' d undef) H K) := rfl
theorem wpO_app_nil (bs : List Oper) : wpO P T all (List.append [] bs) G l H K = wpO P T all bs G l H K := rfl
theorem wpO_app_plain (bs : List Oper) : wpO P T all (List.append (⟨d, op, t, p, af, none⟩ :: rest) bs) G l H K = stepY P T op G l H fun v G' H' => wpO P T all (List.append rest bs) G' (put l d v) H' K := rfl
theorem wpO_app_guard (bs : List Oper) (g : Nat × Bool) : wpO P T all (List.append (⟨d, op, t, p, af, some g⟩ :: rest) bs) G l H K = guardK all (some g) l (fun l' => stepY P T op G l' H fun v G' H' => wpO P T all (List.append rest bs) G' (put l' d v) H' K) (fun l' => wpO P T all (List.append rest bs) G (put l' d undef) H K) := rfl
end
section
variable (P : Program) (T : Tys) (sz : Nat) (keep : List Nat) (G : PHeap) (l : Fr) (H : Heap) (K : Post)
theorem wpC_skip : wpC P T sz keep .skip G l H K = K .normal G l H := rfl
theorem wpC_region (id : Nat) (ops : List Oper) : wpC P T sz keep (.region id ops.toArray false) G l H K = wpO P T ops ops G l H fun G' l' H' => K .normal G' (restrict keep l') H' := rfl
theorem wpC_draw (id : Nat) (ops : List Oper) : wpC P T sz keep (.region id ops.toArray true) G l H K = Tri P sz (.region id ops.toArray true) G l H K := rfl
theorem wpC_range (f : Operand) (ps : Array Tmp) (x y : Code) : wpC P T sz keep (.rangeFunc f ps x y) G l H K = Tri P sz (.rangeFunc f ps x y) G l H K := rfl
theorem wpC_seq (x y : Code) : wpC P T sz keep (.seq x y) G l H K = wpC P T sz keep x G l H (thenK (fun G' l' H' => wpC P T sz keep y G' l' H' K) K .mk .mk) := rfl
theorem wpC_cond (c : Operand) (x y : Code) : wpC P T sz keep (.cond c x y) G l H K = withV (ev l c) fun v => condK v (wpC P T sz keep x G l H K) (wpC P T sz keep y G l H K) := rfl
theorem wpC_block (i : Nat) (c : Code) : wpC P T sz keep (.block i c) G l H K = wpC P T sz keep c G l H (blockK i K .mk) := rfl
theorem wpC_exit (i : Nat) : wpC P T sz keep (.exit i) G l H K = K (.exit i) G l H := rfl
theorem wpC_label (i : Nat) : wpC P T sz keep (.label i) G l H K = K .normal G l H := rfl
theorem wpC_ret : wpC P T sz keep .ret G l H K = K .ret G l H := rfl
theorem wpC_loop (c : Code) : wpC P T sz keep (.loop c) G l H K = Tri P sz (.loop c) G l H K := rfl
theorem wpC_scope (c : Code) : wpC P T sz keep (.scope c) G l H K = wpC P T sz keep c G l H K := rfl
end

def gdK (t : Option (Option Nat)) (want : Bool) (l : Fr) (yes no : Fr → Prop) (_ : Tok yes := .mk) (_ : Tok no := .mk) : Prop := match t with
  | some (some t) => withV (look l t) fun v => gK v t want l yes no
  | _ => False
theorem guardK_some (all : List Oper) (j : Nat) (want : Bool) (l : Fr) (yes no : Fr → Prop) : guardK all (some (j, want)) l yes no = gdK (dstAt all j) want l yes no := by
  unfold guardK gdK
  simp only []
  cases h : dstAt all j with
  | none => simp
  | some o => cases o <;> simp
theorem dstAt_zero (o : Oper) (os : List Oper) : dstAt (o :: os) 0 = some o.dst := rfl
theorem dstAt_succ (o : Oper) (os : List Oper) (n : Nat) : dstAt (o :: os) (n + 1) = dstAt os n := by simp [dstAt]
theorem gdK_some (t : Nat) (want : Bool) (l : Fr) (yes no : Fr → Prop) : gdK (some (some t)) want l yes no = withV (look l t) fun v => gK v t want l yes no := rfl
theorem gK_bool (b : Bool) (t : Nat) (want : Bool) (l : Fr) (yes no : Fr → Prop) : gK (.bool b) t want l yes no = Br (b == want) (yes ((t, .bool want) :: l)) (no ((t, .bool (!want)) :: l)) := rfl
theorem gK_tuple (vs : Array Value) (t : Nat) (want : Bool) (l : Fr) (yes no : Fr → Prop) : gK (.tuple vs) t want l yes no = no l := rfl
theorem gK_undef (t : Nat) (want : Bool) (l : Fr) (yes no : Fr → Prop) : gK undef t want l yes no = no l := rfl

theorem ownsK_cells (xs sp : List Value) (e : TypeId) (o n : Nat) (k : List Value → Prop) : ownsK (some (.cells xs sp e)) o n k = Ob (n = 0 ∨ o + n ≤ xs.length + sp.length) (k (((xs ++ sp).drop o).take n)) := rfl
theorem ownK_cells (xs sp : List Value) (e : TypeId) (o : Nat) (k : Value → Prop) : ownK (some (.cells xs sp e)) o k = withV ((xs ++ sp)[o]?) k := rfl
theorem subOb_lit (b o l m n : Nat) : subOb (some ⟨b, o, none⟩) l m n = some (subAddr b o l m n) := by
  unfold subOb subAddr; split
  · rfl
  · simp [addr_add]
theorem subOb_none (l m n : Nat) : subOb none l m n = none := by unfold subOb; split <;> rfl
theorem subAddr_zero (b o m n : Nat) (h : n = 0) : subAddr b o 0 m n = ⟨b, o, none⟩ := by subst h; unfold subAddr; split <;> rfl
theorem blk_sub (b o l m n : Nat) : blk (some (subAddr b o l m n)) = b := by unfold subAddr; split <;> rfl
theorem Adr_sub (b o l m n : Nat) : Adr (some (subAddr b o l m n)) = True := by unfold subAddr; split <;> exact eq_true rfl

/-- a way that was found, and none -/
theorem foundK_map {α : Type} (f : α → Value) (o : Option α) (yes : Value → Prop) (no : Prop) : foundK (some (o.map f)) yes no = foundO o (fun a => yes (f a)) no := by cases o <;> rfl

section
variable (P : Program) (T : Tys) (G : PHeap) (l : Fr) (H : Heap) (k : Value → PHeap → Heap → Prop)
theorem stepY_move (x : Operand) : stepY P T (.move x) G l H k = stepF P T (.move x) G l H k := rfl
theorem stepY_assign (x : Operand) : stepY P T (.assign x) G l H k = stepF P T (.assign x) G l H k := rfl
theorem stepY_pick (c a b : Operand) : stepY P T (.pick c a b) G l H k = stepF P T (.pick c a b) G l H k := rfl
theorem stepY_alloc (e : TypeId) : stepY P T (.alloc e) G l H k = stepF P T (.alloc e) G l H k := rfl
theorem stepY_box (e : TypeId) (v : Operand) : stepY P T (.box e v) G l H k = stepF P T (.box e v) G l H k := rfl
theorem stepY_build (t : TypeId) (ps : Array (Nat × Operand)) : stepY P T (.build t ps) G l H k = stepF P T (.build t ps) G l H k := rfl
theorem stepY_buildSlice (t : TypeId) (n : Nat) (ps : Array (Nat × Operand)) : stepY P T (.buildSlice t n ps) G l H k = stepF P T (.buildSlice t n ps) G l H k := rfl
theorem stepY_insert (t : TypeId) (x i y : Operand) : stepY P T (.insert t x i y) G l H k = stepF P T (.insert t x i y) G l H k := rfl
theorem stepY_load (t : TypeId) (x : Operand) : stepY P T (.load t x) G l H k = stepF P T (.load t x) G l H k := rfl
theorem stepY_store (t : TypeId) (x y : Operand) : stepY P T (.store t x y) G l H k = stepF P T (.store t x y) G l H k := rfl
theorem stepY_nilCheck (x : Operand) : stepY P T (.nilCheck x) G l H k = stepF P T (.nilCheck x) G l H k := rfl
theorem stepY_binOp (o : BinOp) (t : TypeId) (x y : Operand) (u : TypeId) : stepY P T (.binOp o t x y u) G l H k = stepF P T (.binOp o t x y u) G l H k := rfl
theorem stepY_unOp (o : UnOp) (t : TypeId) (x : Operand) : stepY P T (.unOp o t x) G l H k = stepF P T (.unOp o t x) G l H k := rfl
theorem stepY_convert (s d : TypeId) (x : Operand) : stepY P T (.convert s d x) G l H k = stepF P T (.convert s d x) G l H k := rfl
theorem stepY_makeFunc (f : Fn) (a b : Array Operand) : stepY P T (.makeFunc f a b) G l H k = stepF P T (.makeFunc f a b) G l H k := rfl
theorem stepY_makeMap (t : TypeId) (r : Option Operand) : stepY P T (.makeMap t r) G l H k = stepF P T (.makeMap t r) G l H k := rfl
theorem stepY_makeSlice (t : TypeId) (n c : Operand) : stepY P T (.makeSlice t n c) G l H k = stepF P T (.makeSlice t n c) G l H k := rfl
theorem stepY_slice (t : TypeId) (x : Operand) (a b c : Option Operand) : stepY P T (.slice t x a b c) G l H k = stepF P T (.slice t x a b c) G l H k := rfl
theorem stepY_fieldAddr (t : TypeId) (x : Operand) (f : Nat) : stepY P T (.fieldAddr t x f) G l H k = stepF P T (.fieldAddr t x f) G l H k := rfl
theorem stepY_field (t : TypeId) (x : Operand) (f : Nat) : stepY P T (.field t x f) G l H k = stepF P T (.field t x f) G l H k := rfl
theorem stepY_indexAddr (t : TypeId) (x i : Operand) : stepY P T (.indexAddr t x i) G l H k = stepF P T (.indexAddr t x i) G l H k := rfl
theorem stepY_index (t : TypeId) (x i : Operand) : stepY P T (.index t x i) G l H k = stepF P T (.index t x i) G l H k := rfl
theorem stepY_lookup (t : TypeId) (x i : Operand) (c : Bool) : stepY P T (.lookup t x i c) G l H k = stepF P T (.lookup t x i c) G l H k := rfl
theorem stepY_mapUpdate (t : TypeId) (m key val : Operand) : stepY P T (.mapUpdate t m key val) G l H k = stepF P T (.mapUpdate t m key val) G l H k := rfl
theorem stepY_extract (x : Operand) (i : Nat) : stepY P T (.extract x i) G l H k = stepF P T (.extract x i) G l H k := rfl
theorem stepY_value (f : Operand) (as : Array Operand) (ts : Array TypeId) : stepY P T (.call ⟨.value f, as, ts⟩) G l H k = withV (ev l f) fun fv => evK l as.toList fun vs => callY P fv vs G H k := rfl
theorem stepY_builtin (b : Builtin) (as : Array Operand) (ts : Array TypeId) : stepY P T (.call ⟨.builtin b, as, ts⟩) G l H k = stepF P T (.call ⟨.builtin b, as, ts⟩) G l H k := rfl
theorem callY_func (f : FuncId) (first caps : Array Value) (vs : List Value) : callY P (.func (.func f) first caps) vs G H k = FnT P f (first.toList ++ vs ++ caps.toList) G H k := rfl
theorem callY_yield (lr : Nat) (caps : Array Value) (vs : List Value) : callY P (.func (.yield lr) #[] caps) vs G H k = YldT P lr vs G H k := by simp [callY]
end

attribute [go_sem] stepY_move stepY_assign stepY_pick stepY_alloc stepY_box stepY_build stepY_buildSlice stepY_insert stepY_load stepY_store stepY_nilCheck stepY_binOp stepY_unOp stepY_convert stepY_makeFunc stepY_makeMap stepY_makeSlice stepY_slice stepY_fieldAddr stepY_field stepY_indexAddr stepY_index stepY_lookup stepY_mapUpdate stepY_extract stepY_value stepY_builtin callY_func callY_yield
attribute [go_sem] byteV Br_nilnil Br_consnil Br_not beq_true beq_false wpC_skip wpC_region wpC_draw wpC_range wpC_loop wpC_seq wpC_cond wpC_block wpC_exit wpC_label wpC_ret wpC_scope dstAt_zero dstAt_succ Bool.false_eq_true List.append_eq List.cons_append List.nil_append wpO_nil wpO_plain wpO_guard wpO_app_nil wpO_app_plain wpO_app_guard stepF guardK_some gdK_some gK_bool gK_tuple gK_undef withV_some look_cons look_nil ev_tmp ev_const ev_global ev_func put_some put_none restrict_nil restrict_cons restrictK_some restrictK_none
  evK_nil evK_cons evPK_nil evPK_cons evO_none evO_some bound_none bound_some
  opInt opStr opBin opUn opIndex opIndexAddr opField opFieldV opExtract opLoad opStore opSlice opConv convK_cells opMakeSlice opBuild opBuildSlice opLen opMin opMax pickK nilK callK builtinK lenK opAppend srcCells appTo appZero appOwn_cells withL_some blk_lit ofs_lit Adr_lit rdSl_lit rdSl_none subOb_lit subOb_none subAddr_zero blk_sub Adr_sub opLookup opMapUpdate opDelete opMapLen mapK_some foundK_yes foundK_no foundK_map foundO_some foundO_none esK_some eqK_some zeroVal List.headD_cons
  pickV_true pickV_false pickV_bool rdCell_obj rdCells_obj wrCells_obj objK_cells objsK_cells ownK_cells ownsK_cells wrsK withV_get withV_mapget withV_getmap withV_appget
  Ob_of Ob_true Br_true Br_false Br_dt Br_df
  objK_none objsK_none findH_same findH_ne setH_same setH_ne eraseH_same eraseH_ne keys_cons keys_nil Sep_cons Sep_nil NotIn_cons NotIn_nil
  splice_lit0 splice_nil splice_litS fillL_nil fillL_cons fillK_some placesOf Bool.not_true Bool.not_false Option.map_some Option.map_none List.find?_cons List.all_cons List.all_nil Bool.and_true Bool.true_and Bool.and_self toList_arr cellsV
  wrap_i64 wrap_u8 wrap_u16 wrap_u64 toNat_nat asBytes_app asBytes_u8 asBytes_lit u8_ofNat u8_ofNatI and_1 and_7 and_15 and_63 and_127 and_255 List.take_left' toNat_p1 toNat_p2 toNat_p3 toNat_p4 rep_single List.take_zero List.take_succ_cons List.take_nil List.drop_zero List.drop_succ_cons List.drop_nil tdivE tmodE shrE shlE and_u8 or_u8 and_u64 or_u64 xor_u64
  thenK_normal thenK_exit thenK_ret blockK_normal blockK_ret blockK_exit endK_normal endK_ret condK_bool retV_one retV_two retV_three retV_zero resK_nil resK_cons resK_cell
  argsFr asBytes_map asBytes_nil oneV oneAll

end Go.V
