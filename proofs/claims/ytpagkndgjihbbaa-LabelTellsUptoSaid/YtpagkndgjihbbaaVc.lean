/- The names that a machine tells: plain law; the program's, and the document's. -/
import Derived.Test.YtpagkndgjihbbaaVb
import Derived.Test.YtpagkndgjihbbaaWf
import Derived.Test.YtpagkndgjihbbaaUf
import Derived.Test.YtpagkndgjihbbaaVeS
set_option linter.unusedSimpArgs false
set_option linter.unusedVariables false
namespace Go.Proofs.Ytpagkndgjihbbaa
open Go Go.V Go.Proofs

/-- as the document has it -/
def rUsedL (d : DfaT) (k : Nat) : List Tx := (d.label.take k).foldl (fun l x => if 0 < x then putL l (nameD d x) else l) []
theorem rUsedL_succ {d : DfaT} {k : Nat} (h : k < d.label.length) : rUsedL d (k + 1) = if 0 < d.label[k] then putL (rUsedL d k) (nameD d d.label[k]) else rUsedL d k := by
  unfold rUsedL
  rw [List.take_succ_eq_append_getElem h, List.foldl_append, List.foldl_cons, List.foldl_nil]
/-- as the program has it: ahead of the sort -/
def usedN (d : DfaT) (k : Nat) : List Tx := ((List.range k).filter fun i : Nat => decide ((((i : Nat) : Int) + 1) ∈ d.label)).map fun i => d.names.getD i []
def usedS (d : DfaT) : List Tx := sortS (usedN d d.names.length)
theorem usedN_succ {d : DfaT} {k : Nat} (h : k < d.names.length) : usedN d (k + 1) = if ((k : Int) + 1) ∈ d.label then usedN d k ++ [d.names[k]] else usedN d k := by
  unfold usedN
  rw [List.range_succ, List.filter_append, List.map_append]
  by_cases hk : ((k : Int) + 1) ∈ d.label
  · rw [if_pos hk, List.filter_cons_of_pos (by simpa using hk), List.filter_nil, List.map_singleton, List.getD_eq_getElem?_getD, List.getElem?_eq_getElem h]; rfl
  · rw [if_neg hk, List.filter_cons_of_neg (by simpa using hk), List.filter_nil, List.map_nil, List.append_nil]
theorem usedN_len (d : DfaT) (k : Nat) : (usedN d k).length ≤ k := by
  unfold usedN
  rw [List.length_map]
  exact Nat.le_trans (List.length_filter_le _ _) (by rw [List.length_range]; exact Nat.le_refl _)
theorem mem_rUsedL {d : DfaT} {x : Tx} : ∀ k, k ≤ d.label.length → (x ∈ rUsedL d k ↔ ∃ i, ∃ h : i < d.label.length, i < k ∧ 0 < d.label[i] ∧ x = nameD d d.label[i])
  | 0, _ => by
    constructor
    · intro h; cases h
    · rintro ⟨i, _, h, _⟩; omega
  | k + 1, hk => by
    rw [rUsedL_succ (by omega)]
    have ih := mem_rUsedL (d := d) (x := x) k (by omega)
    by_cases h0 : 0 < d.label[k]
    · rw [if_pos h0, mem_put, ih]
      constructor
      · rintro (⟨i, h1, h2, h3, h4⟩ | h)
        · exact ⟨i, h1, by omega, h3, h4⟩
        · exact ⟨k, by omega, by omega, h0, h⟩
      · rintro ⟨i, h1, h2, h3, h4⟩
        by_cases e : i = k
        · subst e; exact .inr h4
        · exact .inl ⟨i, h1, by omega, h3, h4⟩
    · rw [if_neg h0, ih]
      constructor
      · rintro ⟨i, h1, h2, h3, h4⟩
        exact ⟨i, h1, by omega, h3, h4⟩
      · rintro ⟨i, h1, h2, h3, h4⟩
        by_cases e : i = k
        · subst e; exact absurd h3 h0
        · exact ⟨i, h1, by omega, h3, h4⟩
theorem rUsedL_rising (d : DfaT) : ∀ k, k ≤ d.label.length → Rising (rUsedL d k)
  | 0, _ => List.Pairwise.nil
  | k + 1, hk => by
    rw [rUsedL_succ (by omega)]
    split
    · exact put_rising (rUsedL_rising d k (by omega))
    · exact rUsedL_rising d k (by omega)
theorem names_nodup {d : DfaT} (hok : RightP d) : d.names.Nodup := by
  obtain ⟨_, h⟩ := hok.2.2.2.2.2.1
  rw [List.nodup_iff_pairwise_ne, List.pairwise_iff_getElem]
  intro i j hi hj hij e
  refine (h j hj).2 ?_
  rw [← e, List.mem_take_iff_getElem]
  exact ⟨i, by omega, rfl⟩
theorem usedN_nodup {d : DfaT} (hok : RightP d) : (usedN d d.names.length).Nodup := by
  unfold usedN
  have hn := names_nodup hok
  rw [List.nodup_iff_pairwise_ne, List.pairwise_map]
  have h1 : ((List.range d.names.length).filter fun i : Nat => decide ((((i : Nat) : Int) + 1) ∈ d.label)).Nodup := List.nodup_range.filter _
  rw [List.nodup_iff_pairwise_ne] at h1
  refine List.Pairwise.imp_of_mem (fun {a b} ha hb hne e => ?_) h1
  have ha' := List.mem_range.1 (List.mem_filter.1 ha).1
  have hb' := List.mem_range.1 (List.mem_filter.1 hb).1
  rw [List.getD_eq_getElem?_getD, List.getD_eq_getElem?_getD, List.getElem?_eq_getElem ha', List.getElem?_eq_getElem hb'] at e
  exact hne ((List.getElem_inj hn).1 e)
theorem nameD_at {d : DfaT} {k : Nat} (h : k < d.names.length) : nameD d ((k : Int) + 1) = d.names[k] := by
  unfold nameD
  rw [if_pos (by omega), show (((k : Int) + 1) - 1).toNat = k by omega, List.getD_eq_getElem?_getD, List.getElem?_eq_getElem h]; rfl
theorem used_eq {d : DfaT} (hok : RightP d) : rUsedL d d.label.length = usedS d := by
  refine rising_eq (rUsedL_rising d _ (Nat.le_refl _)) (sortS_rising (usedN_nodup hok)) fun x => ?_
  rw [mem_rUsedL _ (Nat.le_refl _)]
  unfold usedS
  rw [mem_sortS]
  unfold usedN
  rw [List.mem_map]
  obtain ⟨hk1, hk2, hk3, hk4, hk5, hk6, hk7⟩ := hok
  constructor
  · rintro ⟨i, h1, _, h3, rfl⟩
    obtain ⟨_, w2, w3, _⟩ := hk7 i (by omega) h1
    obtain ⟨n, hn⟩ : ∃ n : Nat, d.label[i] = (n : Int) + 1 := ⟨(d.label[i] - 1).toNat, by omega⟩
    have hnl : n < d.names.length := by omega
    refine ⟨n, List.mem_filter.2 ⟨List.mem_range.2 hnl, by rw [decide_eq_true_eq, ← hn]; exact List.getElem_mem _⟩, ?_⟩
    rw [hn, nameD_at hnl, List.getD_eq_getElem?_getD, List.getElem?_eq_getElem hnl]; rfl
  · rintro ⟨n, hn, rfl⟩
    obtain ⟨h1, h2⟩ := List.mem_filter.1 hn
    have hnl := List.mem_range.1 h1
    rw [decide_eq_true_eq] at h2
    obtain ⟨i, hi, e⟩ := List.getElem_of_mem h2
    refine ⟨i, hi, hi, by rw [e]; omega, ?_⟩
    rw [e, nameD_at hnl, List.getD_eq_getElem?_getD, List.getElem?_eq_getElem hnl]; rfl
theorem usedS_len (d : DfaT) : (usedS d).length ≤ d.names.length := by unfold usedS; rw [sortS_len]; exact usedN_len d _
/-- the names that a machine tells, or none -/
noncomputable def usedR (d : DfaT) : List Tx := if boolOf (RightP d) = true then usedS d else []
theorem usedR_ok {d : DfaT} (h : RightP d) : usedR d = usedS d := by unfold usedR; rw [if_pos (boolOf_yes h)]
theorem usedR_bad {d : DfaT} (h : ¬ RightP d) : usedR d = [] := by unfold usedR; rw [if_neg (by rw [boolOf_no h]; decide)]
theorem usedR_len (d : DfaT) : (usedR d).length ≤ d.names.length := by
  unfold usedR; split
  · exact usedS_len d
  · exact Nat.zero_le _
theorem mem_usedR {d : DfaT} {x : Tx} (h : x ∈ usedR d) : x ∈ d.names := by
  unfold usedR at h
  split at h
  · have h := mem_sortS.1 h
    unfold usedN at h
    obtain ⟨n, hn, rfl⟩ := List.mem_map.1 h
    have hnl := List.mem_range.1 (List.mem_filter.1 hn).1
    rw [List.getD_eq_getElem?_getD, List.getElem?_eq_getElem hnl]
    exact List.getElem_mem _
  · cases h
def laysSortS_ren : Go.Shelf.Ren := ⟨fun | 190 => 25 | 125 => 49 | 258 => 48 | 128 => 69 | 129 => 70 | 302 => 60 | 303 => 61 | 304 => 62 | 305 => 63 | 306 => 64 | 307 => 65 | 308 => 66 | 309 => 67 | 310 => 68 | 333 => 77 | 329 => 78 | 330 => 79 | 334 => 80 | 335 => 81 | 336 => 82 | 344 => 87 | n => n, fun | 31 => 25 | 9 => 9 | 3 => 3 | 46 => 65 | 0 => 0 | 51 => 83 | 53 => 85 | 4 => 4 | 183 => 75 | 182 => 74 | 131 => 80 | 5 => 5 | 218 => 89 | 222 => 93 | 228 => 102 | 229 => 103 | n => n, fun n => n⟩
theorem laysSortS : Lays.n190 Try.prog laysSortS_ren where
  mixed := by kernel_rfl
  f125 := Try.func49.trans (congrArg some (by kernel_rfl))
  f128 := Try.func69.trans (congrArg some (by kernel_rfl))
  f129 := Try.func70.trans (congrArg some (by kernel_rfl))
  f190 := Try.func25.trans (congrArg some (by kernel_rfl))
  f258 := Try.func48.trans (congrArg some (by kernel_rfl))
  f302 := Try.func60.trans (congrArg some (by kernel_rfl))
  f303 := Try.func61.trans (congrArg some (by kernel_rfl))
  f304 := Try.func62.trans (congrArg some (by kernel_rfl))
  f305 := Try.func63.trans (congrArg some (by kernel_rfl))
  f306 := Try.func64.trans (congrArg some (by kernel_rfl))
  f307 := Try.func65.trans (congrArg some (by kernel_rfl))
  f308 := Try.func66.trans (congrArg some (by kernel_rfl))
  f309 := Try.func67.trans (congrArg some (by kernel_rfl))
  f310 := Try.func68.trans (congrArg some (by kernel_rfl))
  f329 := Try.func78.trans (congrArg some (by kernel_rfl))
  f330 := Try.func79.trans (congrArg some (by kernel_rfl))
  f333 := Try.func77.trans (congrArg some (by kernel_rfl))
  f334 := Try.func80.trans (congrArg some (by kernel_rfl))
  f335 := Try.func81.trans (congrArg some (by kernel_rfl))
  f336 := Try.func82.trans (congrArg some (by kernel_rfl))
  f344 := Try.func87.trans (congrArg some (by kernel_rfl))
  t0 := Try.underlying0
  a0 := Try.isAgg0
  z0 := Try.sizeOf0
  v0 := Try.zeroValue0
  t3 := Try.underlying3
  a3 := Try.isAgg3
  z3 := Try.sizeOf3
  v3 := Try.zeroValue3
  t4 := Try.underlying4
  a4 := Try.isAgg4
  z4 := Try.sizeOf4
  v4 := Try.zeroValue4
  t5 := Try.underlying5
  a5 := Try.isAgg5
  z5 := Try.sizeOf5
  v5 := Try.zeroValue5
  t9 := Try.underlying9
  a9 := Try.isAgg9
  z9 := Try.sizeOf9
  v9 := Try.zeroValue9
  t31 := Try.underlying25
  a31 := Try.isAgg25
  z31 := Try.sizeOf25
  v31 := Try.zeroValue25
  t46 := Try.underlying65
  a46 := Try.isAgg65
  z46 := Try.sizeOf65
  v46 := Try.zeroValue65
  t51 := Try.underlying83
  a51 := Try.isAgg83
  z51 := Try.sizeOf83
  v51 := Try.zeroValue83
  t53 := Try.underlying85
  a53 := Try.isAgg85
  z53 := Try.sizeOf85
  v53 := Try.zeroValue85
  t131 := Try.underlying80
  a131 := Try.isAgg80
  z131 := Try.sizeOf80
  v131 := Try.zeroValue80
  t182 := Try.underlying74
  a182 := Try.isAgg74
  z182 := Try.sizeOf74
  v182 := Try.zeroValue74
  t183 := Try.underlying75
  a183 := Try.isAgg75
  z183 := Try.sizeOf75
  v183 := Try.zeroValue75
  t218 := Try.underlying89
  a218 := Try.isAgg89
  z218 := Try.sizeOf89
  v218 := Try.zeroValue89
  t222 := Try.underlying93
  a222 := Try.isAgg93
  z222 := Try.sizeOf93
  v222 := Try.zeroValue93
  t228 := Try.underlying102
  a228 := Try.isAgg102
  z228 := Try.sizeOf102
  v228 := Try.zeroValue102
  t229 := Try.underlying103
  a229 := Try.isAgg103
  z229 := Try.sizeOf103
  v229 := Try.zeroValue103
theorem calleeSortS : V.Callee Try.prog 25 := ⟨_, _, Try.func25, rfl, by kernel_rfl⟩
theorem sortS_t {l : List Tx} (hl : l.length ≤ 9000000) {b cap : Nat} {sp : List Value} {G : PHeap} {H : Heap} {R : Value → PHeap → Heap → Prop}
    (hR : R (.tuple #[]) G ((b, .cells ((sortS l).map str) sp 9) :: H)) : FnT Try.prog 25 [.slice (some ⟨b, 0, none⟩) l.length cap] G ((b, .cells (l.map str) sp 9) :: H) R :=
  FnT.sort calleeSortS (sortS_len l) (fun w hH hb => Any.slices_Sort_string laysSortS b 0 cap l w hH hb (by omega)) hR
theorem sortS0_t {a : Option Addr} {cap : Nat} {G : PHeap} {H : Heap} {R : Value → PHeap → Heap → Prop} (hR : R (.tuple #[]) G H) : FnT Try.prog 25 [.slice a 0 cap] G H R :=
  FnT.sort0 calleeSortS (fun w => Any.slices_Sort_string_none laysSortS a cap w) hR
end Go.Proofs.Ytpagkndgjihbbaa
