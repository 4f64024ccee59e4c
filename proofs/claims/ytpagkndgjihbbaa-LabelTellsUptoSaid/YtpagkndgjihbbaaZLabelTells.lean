/- Law 22, LabelTells: with other names a machine tells the same name of each word, with one alone just that one, without a label of the empty word else the same: the law answers true. -/
import Derived.Test.YtpagkndgjihbbaaRows
import Derived.Test.YtpagkndgjihbbaaDa
import Derived.Test.YtpagkndgjihbbaaFe
import Derived.Test.YtpagkndgjihbbaaVeM
set_option linter.unusedSimpArgs false
set_option linter.unusedVariables false
namespace Go.Proofs.Ytpagkndgjihbbaa.lawLabelTells
open Go Go.V Go.Proofs Go.ChangeShapes Go.WideShapes Go.RowKit

theorem own : ownKnob Try.prog.godebug = none := by kernel_rfl

mutual
theorem bulk {H : Type} : ∀ d : DataW H, bulkV d ≤ Rows.uptoBulk d
  | .lit l => by cases l <;> simp [bulkV, Rows.uptoBulk]
  | .nil => by simp [bulkV, Rows.uptoBulk]
  | .ptr d => by have := bulk d; simp only [bulkV, Rows.uptoBulk]; omega
  | .slice elems spare => by have := bulks elems; have := bulks spare; simp only [bulkV, Rows.uptoBulk]; omega
  | .agg parts => by have := bulks parts; simp only [bulkV, Rows.uptoBulk]; omega
  | .iface _ d => by have := bulk d; simp only [bulkV, Rows.uptoBulk]; omega
  | .map entries => by simp [bulkV]
  | .held _ => by simp [bulkV, Rows.uptoBulk]
theorem bulks {H : Type} : ∀ l : List (DataW H), bulkVs l ≤ Rows.uptoBulkAll l
  | [] => by simp [bulkVs]
  | d :: l => by have := bulk d; have := bulks l; simp only [bulkVs, Rows.uptoBulkAll]; omega
end

set_option maxRecDepth 100000 in
theorem contract (H : Type) (enc : TypeId × Value → H) (W : World) (base : Nat) (args : Array Value) (ds gs : List (DataW H)) (before : List MemPlace)
    (hval : ∀ (j : Nat) t v, Try.f6.params[j]? = some t → args[j]? = some v → Value.okWide Try.prog W .any base t v)
    (hW : DataW.Whole enc Try.prog Try.f6.params.toList Rows.labelTellsSpec.vars false W args.toList ds gs before) (hk : Rows.uptoSmall H (ds ++ gs) = true) :
    Calls Try.prog 6 args W fun e W' => ∃ v, e = .returned v ∧ Rows.labelTellsSpec.post enc Try.prog Try.f6 false true false false W args v W' := by
  refine door (tb := 4) seatok ⟨_, _, Try.func6, rfl, by kernel_rfl⟩ rfl (by kernel_rfl) Try.underlying4 (fun t ht => ?_) (fun ds hd => ?_) hW ?_
  · have := List.all_eq_true.1 (show (Try.f6.params.toList.all fun t => decide (t < Try.prog.types.size)) = true by kernel_rfl) t ht
    simpa using this
  · rw [Try.params6] at hd
    rcases ds with _ | ⟨e0, _ | ⟨e1, _ | ⟨e2, _ | ⟨e9, ds⟩⟩⟩⟩ <;> first | rfl | (simp at hd)
  obtain ⟨p, q, hA, hV, rfl, hfz, hnd⟩ := hW
  rw [Try.params6] at hA hval
  obtain ⟨v0, vs0, d0, ds0, p0, q0, hargs0, rfl, rfl, h0, r_0⟩ := trodAll_cons hA
  obtain ⟨v1, vs1, d1, ds1, p1, q1, hargs1, rfl, rfl, h1, r_1⟩ := trodAll_cons r_0
  obtain ⟨v2, vs2, d2, ds2, p2, q2, hargs2, rfl, rfl, h2, r_2⟩ := trodAll_cons r_1
  obtain ⟨rfl, rfl, rfl⟩ := trodAll_nil r_2
  obtain rfl : args = #[v0, v1, v2] := by cases args; simp_all
  obtain ⟨rfl, rfl⟩ := trodVars_none hV
  have hb : bulkVs [d0, d1, d2] ≤ 1048576 := Nat.le_trans (bulks _) (of_decide_eq_true hk)
  simp only [bulkVs] at hb
  obtain ⟨a0, s0, w0⟩ := rd_dfa (hval 0 27 v0 rfl rfl) h0
  obtain ⟨a1, s1, w1⟩ := rd_bytes tok (t := 43) rfl (e := 5) rfl (by kernel_rfl) (hval 1 43 v1 rfl rfl) h1
  obtain ⟨a2, rfl, w2⟩ := rd_str tok (t := 9) rfl (hval 2 9 v2 rfl rfl) h2
  exact labelTells_t (w0 (by omega)) (by omega) (by omega) s0 s1 fun _ _ => rfl

set_option maxRecDepth 100000 in
theorem lifted (os : Os) (started : os.Started) (H : Type) (enc : TypeId × Value → H) (F : Stop.Interp) :
    ReturnsInHanded {} Try.checked os 6 .any ((Rows.OpenSpec.upto Rows.labelTellsSpec).pre6 enc Try.prog Try.f6 Rows.labelTellsUptoRow.domain false) (((Rows.OpenSpec.upto Rows.labelTellsSpec).at F).post enc Try.prog Try.f6 false true false false) := by
  refine returnsInHanded_of_cond (C := Try.checked) (s := Rows.OpenSpec.upto Rows.labelTellsSpec) (k := Rows.uptoSmall) rfl own started (by kernel_rfl) Try.func6
    (OpenSpec.witness (enc := enc) (C := Try.checked) (s := Rows.OpenSpec.upto Rows.labelTellsSpec) (k := Rows.uptoSmall) rfl false ⟨#[], #[.agg (List.replicate 256 (Value.int .u8 0) ++ [Value.int .i64 0, Value.slice none 0 0, Value.slice none 0 0, Value.slice none 0 0]).toArray, .slice none 0 0, .string ⟨#[]⟩], []⟩ 8 (by kernel_rfl) (by kernel_rfl) (by kernel_rfl)
      (x := ([.agg [.agg (List.replicate 256 (.lit (.int .u8 0))), .lit (.int .i64 0), .nil, .nil, .nil], .nil, .lit (.string [])], [], [])) (by kernel_rfl) rfl (by kernel_rfl)) ?_
  intro W base args ds gs before hval hW _ hk _
  exact contract H enc W base args ds gs before hval hW hk

theorem over : Rows.labelTellsUptoRow.holds Try.pinned (Rows.OpenSpec.upto Rows.labelTellsSpec) :=
  OpenClaim.holds_of_cond 6 Try.f6 rfl rfl rfl rfl rfl rfl rfl ⟨rfl, rfl, rfl, rfl, rfl⟩ rfl rfl rfl rfl rfl (by kernel_rfl) Try.func6 (by kernel_rfl)
    (of_decide_eq_true (by kernel_rfl)) (by unfold Func.isWrapper; first | (rw [if_pos (by decide +kernel)]; kernel_rfl) | (rw [if_neg (by decide +kernel)]; exact ⟨rfl, rfl⟩))
    (fun os started H enc _ F => lifted os started H enc F)

theorem proved : Rows.LabelTellsUptoSaid :=
  over
end Go.Proofs.Ytpagkndgjihbbaa.lawLabelTells
