/-
  The verification layer: what comes in, and the way out to the statement.
-/
import Derived.Test.YtmlmhcejdlljjaaVeM
import Derived.ReadAgain
import Derived.ChangeArms
import Derived.JoinedCond
import Derived.RowKit
import Derived.ChangeOld
import Derived.ChangeCalls
set_option linter.unusedSimpArgs false
set_option linter.unusedVariables false
namespace Go.V
open Go.ChangeShapes Go.WideShapes Go.RowKit

/-- what the program's own tables must say -/
structure SeatOk (P : Program) : Prop where
  laid : laidOutB P = true
  maps : mapsRowed P = true
  full : ((List.range P.types.size).all fun t => match P.underlying t with | some (.slice e) => decide (0 < P.cellsOf e) | _ => true) = true

section
variable {H : Type} {enc : TypeId × Value → H} {P : Program} {W W' : World}

theorem trodAll_carry {base : Nat} {sp : Nat → Bool} {held : Bool} : ∀ {ts : List TypeId} {vs : List Value} {ds : List (DataW H)} {ps : List MemPlace},
    DataW.TrodAll enc P W base sp held ts vs ds ps → (∀ p ∈ ps, W.sameAt W' p) → DataW.TrodAll enc P W' base sp held ts vs ds ps
  | [], [], [], _, h, _ => h
  | t :: ts, v :: vs, d :: ds, _, ⟨p, q, ⟨n, h1⟩, h2, e⟩, hs => ⟨p, q, ⟨n, DataW.trod_carry n _ _ _ h1 fun x hx => hs x (by rw [e]; exact List.mem_append_left _ hx)⟩, trodAll_carry h2 (fun x hx => hs x (by rw [e]; exact List.mem_append_right _ hx)), e⟩

theorem sameAt_of_kept (hk : Kept W W') {p : MemPlace} (h : p.block < W.heap.size) : W.sameAt W' p := by
  have := hk.old p.block h
  cases p with
  | cell b o => simp only [World.sameAt, World.cell?]; rw [show W'.heap[b]? = W.heap[b]? from this]
  | map b => exact this

/-- FROM A CONTRACT TO WHAT A LAW'S ROW ASKS -/
theorem door {f : FuncId} {fn : Func} {s : ChangeSpec} {tb : TypeId} (hP : SeatOk P) (hvars : s.vars = []) (hres : fn.resultTypes = #[tb]) (hb : P.underlying tb = some .bool)
    (hp : ∀ t ∈ fn.params.toList, t < P.types.size) (hs : ∀ ds : List (DataW H), ds.length = fn.params.size → s.fn H ds = { results := [.lit (.bool true)], args := ds })
    {apart fresh handsOn again : Bool} {args : Array Value} {ds gs : List (DataW H)} {before : List MemPlace} (hW : DataW.Whole enc P fn.params.toList s.vars apart W args.toList ds gs before)
    (h : FnT P f args.toList (fun b => W.heap[b]?) [] fun v _ _ => v = .bool true) :
    Calls P f args W fun e W' => ∃ v, e = .returned v ∧ s.post enc P fn apart fresh handsOn again W args v W' := by
  have hW' := hW
  obtain ⟨p, q, hA, hV, rfl, hfz, hnd⟩ := hW
  rw [hvars] at hV
  obtain ⟨rfl, rfl⟩ := trodVars_none hV
  simp only [List.append_nil] at hW' ⊢
  have hlen := (trodAll_length hA).2
  have e := hs ds (by simpa using hlen)
  have he : args.toList.toArray = args := rfl
  rw [← he]
  refine (calls_of W h).mono ?_
  rintro _ W' ⟨v, rfl, rfl, hk⟩
  have hlt := hA.lt
  refine ⟨_, rfl, post_of_kept (pa := p) (pv := []) (by simpa using hW') (fun _ _ _ => ?_) (fun sp hsp => ?_) (fun sp _ => ?_) rfl hk (ok_one hres rfl (okWide_bool_mk hb _))⟩
  · rw [List.append_nil, e, hres]
    exact ⟨[], [], shut_bool hb true, rfl, rfl⟩
  · rw [List.append_nil, e]
    exact trodAll_carry (DataW.TrodAll.respare (kids_rows hP.laid hP.maps) (fun t e ht hu => slices_full_of P hP.full t e ht hu) hp hA (fun p hp => hsp p (by simpa using hp))) fun x hx => sameAt_of_kept hk (hlt x hx)
  · rw [List.append_nil, e, hvars]
    exact rfl
end

end Go.V
