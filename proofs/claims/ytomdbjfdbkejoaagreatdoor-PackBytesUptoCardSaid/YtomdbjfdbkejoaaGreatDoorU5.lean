/- A part of the proof, joined of several texts: the verification layer, contracts of functions, plain law. -/
import Derived.Test.YtomdbjfdbkejoaaGreatDoorU4
import Derived.Shelf.Sort.Plain
import Derived.Shelf.Slices.In.SortNone
set_option maxHeartbeats 64000000
set_option linter.unusedSimpArgs false
set_option linter.unusedVariables false
set_option linter.unusedSectionVars false
namespace Go.V
open Go.Sort Go.Proofs
variable {α:Type} [Inhabited α]
theorem HeapOk.sorted {E:Env} {G:zb} {H:za} {w:World} {b n:Nat} {enc:α→Value} {xs ys:List α} {sp:List Value} {e:TypeId} {os:Array Obj} (hl:ys.length=xs.length) (h:HeapOk E G ((b, .cells (xs.map enc) sp e)::H) w):
  HeapOk E G ((b, .cells (ys.map enc) sp e)::H) (grow (putRow enc (Go.Sort.ahead w n) b 0 ys.toArray) os):=by
 obtain⟨o,ho,fr,rfl,hfr⟩:=h.own _ (List.mem_cons_self ..)
 simp only at ho
 have hsep:=za7.1 h.sep
 simp only[zm,List.map_cons,List.mem_cons,forall_eq_or_imp,List.nodup_cons] at hsep
 have old: ∀k,k≠b→ ∀o,w.heap[k]? =some o→(grow (putRow enc (Go.Sort.ahead w n) b 0 ys.toArray) os).heap[k]? =some o:=fun k hk o hko=>by
  have hlt:=(Array.getElem?_eq_some_iff.1 hko).1
  rw[heap_grow_old _ _ (by simp only[putRow,mapBlock,Array.size_modify];exact hlt)]
  simp only[putRow,mapBlock,Array.getElem?_modify,if_neg (Ne.symm hk)]
  exact hko
 refine⟨h.env,fun k o hk=>?_,fun p hp=>?_,h.sep,h.dfr.1,fun D hD=>?_⟩
 ·exact old k (fun e=>by subst e;rw[hsep.1.1] at hk;cases hk) o (h.pers k o hk)
 ·rcases List.mem_cons.1 hp with rfl|hp
  ·have hlt:=(Array.getElem?_eq_some_iff.1 ho).1
   refine⟨.cells (ys.map enc++sp).toArray e fr,?_,fr,rfl,?_⟩
   ·show(grow _ os).heap[b]? =_
    rw[heap_grow_old _ _ (by simp only[putRow,mapBlock,Array.size_modify];exact hlt)]
    simp only[putRow,mapBlock,Array.getElem?_modify,if_true]
    rw[show(Go.Sort.ahead w n).heap[b]? =w.heap[b]? from rfl,ho]
    simp only[Option.map_some,onCells,Option.some.injEq,Obj.cells.injEq,and_true]
    unfold putCells
    apply Array.ext
    ·simp [hl]
    ·intro i h1 h2
     simp only[Array.getElem_mapIdx,Nat.zero_le,true_and,Nat.zero_add,List.size_toArray,Nat.sub_zero]
     simp at h1
     split
     ·rename_i hi
      rw[List.getElem_toArray,List.getElem_append_left (by simpa using hi),List.getElem_map,getElem!_pos ys.toArray i (by simpa using hi),List.getElem_toArray]
     ·rename_i hi
      rw[List.getElem_toArray,List.getElem_toArray,List.getElem_append_right (by simp;omega),List.getElem_append_right (by simp;omega)]
      simp [hl]
   ·simp only[List.length_map] at hfr⊢
    rw[hl];exact hfr
  ·obtain⟨o,h1,h2⟩:=h.own p (List.mem_cons_of_mem _ hp)
   exact⟨o,old p.1 (fun e=>hsep.2.1 (by rw[←e];exact List.mem_map.2 ⟨p,hp,rfl⟩)) o h1,h2⟩
 ·obtain⟨h1,h2⟩:=h.dfr.2 D hD
  exact⟨old D (fun e=>by subst e;rw[ho] at h1;cases h1) _ h1,h2⟩
theorem HeapOk.holds {E:Env} {G:zb} {H:za} {w:World} {b:Nat} {enc:α→Value} {xs:List α} {sp:List Value} {e:TypeId} (h:HeapOk E G ((b, .cells (xs.map enc) sp e)::H) w):Holds enc w b 0 xs.toArray∧b<w.heap.size:=by
 obtain⟨o,ho,fr,rfl,hfr⟩:=h.own _ (List.mem_cons_self ..)
 simp only at ho
 refine⟨fun j hj=>?_,(Array.getElem?_eq_some_iff.1 ho).1⟩
 simp only[List.size_toArray] at hj
 refine⟨?_,?_⟩
 ·simp only[World.cell?,ho,Nat.zero_add,List.getElem?_toArray]
  rw[if_neg (by simp),List.getElem?_append_left (by simpa using hj),List.getElem?_map,List.getElem?_eq_getElem hj,getElem!_pos xs.toArray j (by simpa using hj)]
  rfl
 ·simp only[World.frozen?,ho]
  rcases hfr with rfl|hfr
  ·simp
  ·simp only[List.length_map] at hfr
   simp;omega
theorem FnT.sort {P:Program} {f:FuncId} (hc:Callee P f) {enc:α→Value} {xs ys:List α} {cap:Nat} {b:Nat} {sp:List Value} {e:TypeId} {G:zb} {H:za} {R:Value→zb→za→Prop} (hl:ys.length=xs.length)
  (hS: ∀w:World,Holds enc w b 0 xs.toArray→b<w.heap.size→Calls P f #[.slice (some ⟨b,0,none⟩) xs.length cap] w fun e w'=>e= .returned (.tuple #[])∧ ∃n os,w'=grow (putRow enc (Go.Sort.ahead w n) b 0 ys.toArray) os)
  (hR:R (.tuple #[]) G ((b, .cells (ys.map enc) sp e)::H)):FnT P f [.slice (some ⟨b,0,none⟩) xs.length cap] G ((b, .cells (xs.map enc) sp e)::H) R:=
 FnT.own hc fun E w hw=>(hS w hw.holds.1 hw.holds.2).mono fun _ _ ⟨he,n,os,hw'⟩=>⟨.tuple #[],G,_,he,PLe.refl _,hw'▸HeapOk.sorted hl hw,hR⟩
theorem FnT.sort0 {P:Program} {f:FuncId} (hc:Callee P f) {a:Option Addr} {cap:Nat} {G:zb} {H:za} {R:Value→zb→za→Prop}
  (hS: ∀w:World,Calls P f #[.slice a 0 cap] w fun e w'=>e= .returned (.tuple #[])∧w'=w) (hR:R (.tuple #[]) G H):FnT P f [.slice a 0 cap] G H R:=
 FnT.own hc fun E w hw=>(hS w).mono fun _ _ ⟨he,hw'⟩=>⟨.tuple #[],G,H,he,PLe.refl _,hw'▸hw,hR⟩
def zf1 (e:TypeId) (vs:List Value) (M:List (List Value)) (F:za):Prop:=
 ∃Fs:List za,F=Fs.flatten∧Fs.length=M.length∧vs.length=M.length∧ ∀i (h:i<M.length) (h1:i<vs.length) (h2:i<Fs.length),zO [] e 1 vs[i] M[i].length M[i] Fs[i]
theorem zf1.lenv {e:TypeId} {vs:List Value} {M:List (List Value)} {F:za} (h:zf1 e vs M F):vs.length=M.length:=by
 obtain⟨_,_,_,h,_⟩:=h;exact h
theorem zf1.zero (e:TypeId) (n:Nat):zf1 e (List.replicate n (.slice none 0 0)) (List.replicate n []) []:=by
 refine⟨List.replicate n [],?_,by simp,by simp,fun i h h1 h2=>?_⟩
 ·induction n with
  |zero=>rfl
  |succ n ih=>rw[List.replicate_succ,List.flatten_cons,←ih];rfl
 ·simp only[List.getElem_replicate]
  exact .inl ⟨none,rfl,rfl,rfl,rfl⟩
theorem ziE (f:Nat×Res→Nat): ∀ (Fs:List za) (i:Nat) (h:i<Fs.length),(Fs.flatten.map f).sum=(Fs[i].map f).sum+((Fs.eraseIdx i).flatten.map f).sum
 | [],i,h=>by cases h
 |p::Fs,0,h=>by simp [List.map_append,List.sum_append]
 |p::Fs,i+1,h=>by
  have:=ziE f Fs i (by simpa using h)
  simp only[List.flatten_cons,List.map_append,List.sum_append,List.getElem_cons_succ,List.eraseIdx_cons_succ]
  omega
theorem ziF (f:Nat×Res→Nat) (x:za): ∀ (Fs:List za) (i:Nat) (h:i<Fs.length),((Fs.set i x).flatten.map f).sum=(x.map f).sum+((Fs.eraseIdx i).flatten.map f).sum
 | [],i,h=>by cases h
 |p::Fs,0,h=>by simp [List.map_append,List.sum_append]
 |p::Fs,i+1,h=>by
  have:=ziF f x Fs i (by simpa using h)
  simp only[List.set_cons_succ,List.flatten_cons,List.map_append,List.sum_append,List.eraseIdx_cons_succ]
  omega
theorem zf1.out {e:TypeId} {vs:List Value} {M:List (List Value)} {F:za} (h:zf1 e vs M F) {i:Nat} (hi:i<M.length):
  ∃ (kb F':za),zO [] e 1 (vs[i]'(by rw[h.lenv];exact hi)) M[i].length M[i] kb∧(∀f:Nat×Res→Nat,(F.map f).sum=(kb.map f).sum+(F'.map f).sum)∧
   ∀ (v:Value) (r:List Value) (kb':za),zO [] e 1 v r.length r kb'→ ∃F'':za,zf1 e (vs.set i v) (M.set i r) F''∧ ∀f:Nat×Res→Nat,(F''.map f).sum=(kb'.map f).sum+(F'.map f).sum:=by
 obtain⟨Fs,rfl,h1,h2,h3⟩:=h
 refine⟨Fs[i]'Ko,(Fs.eraseIdx i).flatten,h3 i hi Ko Ko,fun f=>ziE f Fs i Ko,fun v r kb' hk=>⟨(Fs.set i kb').flatten,⟨Fs.set i kb',rfl,by simp [h1],by simp [h2],fun j hj g1 g2=>?_⟩,fun f=>ziF f kb' Fs i Ko⟩⟩
 rw[List.length_set] at hj g1 g2
 by_cases hij:i=j
 ·subst hij
  simp only[List.getElem_set_self]
  exact hk
 ·simp only[List.getElem_set_ne hij]
  exact h3 j hj g1 g2
theorem zf1.share {e:TypeId} {vs:List Value} {M:List (List Value)} {F:za} (h:zf1 e vs M F) {G:zb} {H:za} {k:zb→za→Prop} (hs:Sep G (zm (F++H)))
  (hk: ∀G',PLe G G'→Sep G' (zm H)→(∀i (hi:i<M.length) (h1:i<vs.length),∃a c,vs[i]= .slice a M[i].length c∧Row G' a M[i]∧M[i].length≤c)→k G' H):Upd G (F++H) k:=by
 obtain⟨Fs,rfl,h1,h2,h3⟩:=h
 refine Upd.shareAll Fs.flatten (fun p hp=>?_) hs fun G' hle hs' hall=>hk G' hle hs' fun i hi g1=>?_
 ·obtain⟨F1,hF1,hp1⟩:=List.mem_flatten.1 hp
  obtain⟨i,hi,rfl⟩:=List.getElem_of_mem hF1
  rcases h3 i Ko Ko hi with ⟨_,_,_,_,e0⟩| ⟨b,c,sp,_,e0,_,_⟩
  ·rw[e0] at hp1;cases hp1
  ·rw[e0,List.mem_singleton] at hp1
   subst hp1
   exact⟨_,_,_,rfl⟩
 ·rcases h3 i hi g1 Ko with ⟨a,e1,e2,e3,e4⟩| ⟨b,c,sp,e1,e2,e3,e4⟩
  ·exact⟨a,0,by rw[e1,e2],by rw[e3];exact Row.nil _ _,by omega⟩
  ·refine⟨some ⟨b,0,none⟩,c,e1,?_,by omega⟩
   refine hall (b, .cells M[i] sp e) (List.mem_flatten.2 ⟨Fs[i]'Ko,List.getElem_mem _,?_⟩) M[i] sp e rfl
   rw[e2]
   exact List.mem_singleton.2 rfl
theorem Upd.sepI {G:zb} {H:za} {k:zb→za→Prop} (h:Sep G (zm H)→Upd G H k):Upd G H k:=fun E w hw=>h hw.sep w hw
theorem zO.shareApp {G:zb} {H kb:za} {e:TypeId} {v:Value} {n:Nat} {xs:List Value} (h:zO [] e 1 v n xs kb) {k:zb→za→Prop} (hsep:Sep G (zm (kb++H)))
  (hk: ∀G' a cap,PLe G G'→Sep G' (zm H)→v= .slice a n cap→Row G' a xs→n≤cap→k G' H):Upd G (kb++H) k:=by
 rcases h with ⟨a,rfl,rfl,rfl,rfl⟩| ⟨b,cap,sp,rfl,rfl,hc,hd⟩
 ·exact Upd.now (hk G a 0 (PLe.refl _) hsep rfl (Row.nil _ _) (Nat.le_refl _))
 ·exact Upd.shareRow hsep.1.1 fun G' hle hs hr=>hk G' _ cap hle hs rfl hr Ko
theorem zkP {vs:List Value} {t:Nat} (h:t<vs.length) (v:Value):zf vs t [v]=vs.set t v:=by
 unfold zf
 rw[List.set_eq_take_append_cons_drop,if_pos h]
 simp
def onlyR (M:zb→Fr→za→Prop) (_:Tok M:= .mk):zaO:=fun e G l H=>match e with
 | .ret=>Upd G H fun G' H'=>M G' l H'
 |_=>False
theorem ztc {M:zb→Fr→za→Prop} {G:zb} {l:Fr} {H:za}:onlyR M .mk .ret G l H=Upd G H fun G' H'=>M G' l H':=rfl
theorem Tri.onlyR {P:Program} {sz:Nat} {c:Code} {G:zb} {l:Fr} {H:za} {K:zaO} {M:zb→Fr→za→Prop} (h:Tri P sz c G l H (V.onlyR M))
  (hk: ∀G' l' H',PLe G G'→Sep G' (zm H')→M G' l' H'→K .ret G' l' H'):Tri P sz c G l H K:=by
 intro E a w Q hs hq
 refine h a w Q hs fun E' e G' l' H' a' w' hE hle hs' hk'=>?_
 cases e with
 |ret=>
  obtain⟨G2,H2,q1,q2,q3⟩:=hk' w' hs'.heap
  exact hq E' .ret G2 l' H2 a' w' hE (hle.trans q1) ⟨hs'.size,hs'.defers,hs'.fr,q2⟩ (hk G2 l' H2 (hle.trans q1) q2.sep q3)
 |exit id=>exact hk'.elim
 |normal=>exact hk'.elim
attribute [go_sem] ztc
end Go.V
