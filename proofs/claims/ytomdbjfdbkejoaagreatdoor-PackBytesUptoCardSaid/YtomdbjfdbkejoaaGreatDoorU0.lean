/- A part of the proof, joined of several texts: the verification layer, contracts of functions, plain law. -/
import Derived.WalkKit
import Derived.Lib.Strings
import Derived.MapKept
set_option maxHeartbeats 64000000
set_option linter.unusedSimpArgs false
set_option linter.unusedVariables false
set_option linter.unusedSectionVars false
namespace Go.V
universe u
abbrev zb:=Nat→Option Obj
inductive Res where
 |cells (xs sp:List Value) (e:TypeId)
 |map (es:List (Value×Value))
 |inv (I:Obj→Prop)
def zeB:Obj→Prop
 | .cells .. =>False
 | .deferred _=>False
 |_=>True
def zqF (es:List (Value×Value)) (o:Obj):Prop:=
 ∃ (a:Array MapEntry) (c:Nat),o= .map a c∧a.toList.map (fun e=>(e.key,e.val))=es∧(a.toList.map (·.born)).Pairwise (· < ·)∧ ∀e∈a.toList,e.born<c
def Res.holds:Res→Obj→Prop
 | .cells xs sp e,o=> ∃fr:Nat×Nat,o= .cells (xs++sp).toArray e fr∧(fr=(0,0)∨(xs.length+sp.length≤fr.1∧e=5))
 | .map es,o=>zqF es o
 | .inv I,o=>I o∧zeB o
abbrev za:=List (Nat×Res)
def zU (b:Nat):List Nat→Prop
 | []=>True
 |c::cs=>b≠c∧zU b cs
def Sep (G:zb):List Nat→Prop
 | []=>True
 |b::bs=>(G b=none∧zU b bs)∧Sep G bs
def zm (H:za):List Nat:=H.map (·.1)
def zq:za→Nat→Option Res
 | [],_=>none
 | (k,r)::H,b=>if k=b then some r else zq H b
def zab:za→Nat→Res→za
 | [],_,_=>[]
 | (k,r)::H,b,r'=>if k=b then(k,r')::H else(k,r)::zab H b r'
structure Env where
 os:Os
 out:Array (Nat×ByteArray)
 mine:List Nat
 outer:List Nat
variable {E:Env}
structure HeapOk (E:Env) (G:zb) (H:za) (w:World):Prop where
 env:w.os=E.os∧w.output=E.out
 pers: ∀b o,G b=some o→w.heap[b]? =some o
 own: ∀p∈H,∃o,w.heap[p.1]? =some o∧p.2.holds o
 sep:Sep G (zm H)
 dfr:(E.mine++E.outer).Nodup∧ ∀D∈E.mine++E.outer,w.heap[D]? =some (.deferred (some []))∧G D=none
theorem Res.not_deferred {r:Res} {x:Option (List Deferred)} (h:r.holds (.deferred x)):False:=by
 cases r with
 |cells xs sp e=>obtain⟨fr,h,_⟩:=h;cases h
 |map es=>obtain⟨a,c,h,_⟩:=h;cases h
 |inv I=>exact h.2
theorem zim {b:Nat} {bs:List Nat}:zU b bs↔b∉bs:=by
 induction bs with
 |nil=>simp [zU]
 |cons c cs ih=>simp [zU,ih]
theorem za7 {G:zb} {bs:List Nat}:Sep G bs↔(∀b∈bs,G b=none)∧bs.Nodup:=by
 induction bs with
 |nil=>simp [Sep]
 |cons c cs ih=>simp only[Sep,ih,zim,List.mem_cons,forall_eq_or_imp,List.nodup_cons];constructor <;> (intro h;simp_all)
theorem zgo {H:za} {b:Nat} {r:Res} (h:zq H b=some r):(b,r)∈H:=by
 induction H with
 |nil=>simp [zq] at h
 |cons p H ih=>
  obtain⟨k,s⟩:=p
  simp only[zq] at h
  split at h
  ·rename_i hk;subst hk;cases h;exact List.mem_cons_self ..
  ·exact List.mem_cons_of_mem _ (ih h)
theorem zin (H:za) (b:Nat) (r:Res):zm (zab H b r)=zm H:=by
 induction H with
 |nil=>rfl
 |cons p H ih=>
  obtain⟨k,s⟩:=p
  simp only[zab]
  split
  ·rfl
  ·simp only[zm,List.map_cons,List.cons.injEq,true_and];exact ih
theorem zuw {H:za} {b:Nat} {r r0:Res} (hf:zq H b=some r0) (hn:(zm H).Nodup) {p:Nat×Res} (hp:p∈zab H b r):p=(b,r)∨(p∈H∧p.1≠b):=by
 induction H with
 |nil=>simp [zq] at hf
 |cons q H ih=>
  obtain⟨k,s⟩:=q
  simp only[zm,List.map_cons,List.nodup_cons] at hn
  simp only[zq] at hf
  simp only[zab] at hp
  split at hp
  ·rename_i hk
   subst hk
   rcases List.mem_cons.1 hp with rfl|hp
   ·exact .inl rfl
   ·refine .inr ⟨List.mem_cons_of_mem _ hp,fun h=>hn.1 (h▸List.mem_map_of_mem hp)⟩
  ·rename_i hk
   rw[if_neg hk] at hf
   rcases List.mem_cons.1 hp with rfl|hp
   ·exact .inr ⟨List.mem_cons_self ..,hk⟩
   ·rcases ih hf hn.2 hp with h|h
    ·exact .inl h
    ·exact .inr ⟨List.mem_cons_of_mem _ h.1,h.2⟩
theorem HeapOk.find {G:zb} {H:za} {w:World} (h:HeapOk E G H w) {b:Nat} {r:Res} (hf:zq H b=some r): ∃o,w.heap[b]? =some o∧r.holds o:=
 h.own _ (zgo hf)
theorem HeapOk.none {G:zb} {H:za} {w:World} (h:HeapOk E G H w) {b:Nat} {r:Res} (hf:zq H b=some r):G b=none:=
 (za7.1 h.sep).1 b (List.mem_map_of_mem (f:=(·.1)) (zgo hf))
theorem HeapOk.set {G:zb} {H:za} {w w':World} (h:HeapOk E G H w) {b:Nat} {r r':Res} (hf:zq H b=some r)
  {o':Obj} (ho:w'.heap[b]? =some o') (hr:r'.holds o') (hoth: ∀c,c≠b→w'.heap[c]? =w.heap[c]?) (henv:w'.os=w.os∧w'.output=w.output):HeapOk E G (zab H b r') w':=by
 refine⟨⟨henv.1.trans h.env.1,henv.2.trans h.env.2⟩,fun c o hc=>?_,fun p hp=>?_,by rw[zin];exact h.sep,h.dfr.1,fun D hD=>⟨?_,(h.dfr.2 D hD).2⟩⟩
 ·have hcb:c≠b:=fun e=>by subst e;rw[h.none hf] at hc;cases hc
  rw[hoth c hcb];exact h.pers c o hc
 ·rcases zuw hf (za7.1 h.sep).2 hp with rfl| ⟨hm,hne⟩
  ·exact⟨o',ho,hr⟩
  ·rw[hoth _ hne];exact h.own _ hm
 ·have h1:=(h.dfr.2 D hD).1
  refine(hoth D fun e=>?_).trans h1
  obtain⟨o,h2,h3⟩:=h.find hf
  rw[←e,h1] at h2
  cases h2
  exact Res.not_deferred h3
theorem HeapOk.lt {G:zb} {H:za} {w:World} (h:HeapOk E G H w) {b:Nat} (hb:b∈zm H):b<w.heap.size:=by
 obtain⟨p,hp,rfl⟩:=List.mem_map.1 hb
 obtain⟨o,ho,_⟩:=h.own p hp
 exact(Array.getElem?_eq_some_iff.1 ho).1
theorem HeapOk.fresh {G:zb} {H:za} {w:World} (h:HeapOk E G H w):Sep G (w.heap.size::zm H):=by
 refine⟨⟨?_,zim.2 fun hm=>Nat.lt_irrefl _ (h.lt hm)⟩,h.sep⟩
 cases hp:G w.heap.size with
 |none=>rfl
 |some o=>have:=h.pers _ _ hp;simp at this
theorem zfu (w:World) (o:Obj):(w.alloc o).heap=w.heap.push o:=rfl
theorem HeapOk.new {G:zb} {H:za} {w:World} (h:HeapOk E G H w) {o:Obj} {r:Res} (hr:r.holds o):HeapOk E G ((w.heap.size,r)::H) (w.alloc o):=by
 have hold: ∀b,b<w.heap.size→(w.alloc o).heap[b]? =w.heap[b]? :=fun b hb=>by
  rw[zfu,Array.getElem?_push,if_neg (Nat.ne_of_lt hb)]
 refine⟨h.env,fun b x hb=>?_,fun p hp=>?_,h.fresh,h.dfr.1,fun D hD=>⟨?_,(h.dfr.2 D hD).2⟩⟩
 ·have:=h.pers b x hb
  rw[hold b (Array.getElem?_eq_some_iff.1 this).1];exact this
 ·rcases List.mem_cons.1 hp with rfl|hp
  ·exact⟨o,by rw[zfu,Array.getElem?_push,if_pos rfl],hr⟩
  ·obtain⟨x,hx,hh⟩:=h.own p hp
   exact⟨x,by rw[hold _ (Array.getElem?_eq_some_iff.1 hx).1];exact hx,hh⟩
 ·have h1:=(h.dfr.2 D hD).1
  rw[hold _ (Array.getElem?_eq_some_iff.1 h1).1];exact h1
theorem HeapOk.sub {G:zb} {H H':za} {w:World} (h:HeapOk E G H w) (hs:H'.Sublist H):HeapOk E G H' w:=
 ⟨h.env,h.pers,fun p hp=>h.own p (hs.subset hp),za7.2 ⟨fun b hb=>(za7.1 h.sep).1 b ((hs.map _).subset hb),(za7.1 h.sep).2.sublist (hs.map _)⟩,h.dfr⟩
theorem HeapOk.perm {G:zb} {H H':za} {w:World} (h:HeapOk E G H w) (hs:H.Perm H'):HeapOk E G H' w:=
 ⟨h.env,h.pers,fun p hp=>h.own p (hs.mem_iff.2 hp),za7.2 ⟨fun b hb=>(za7.1 h.sep).1 b ((hs.map _).mem_iff.2 hb),(hs.map _).nodup_iff.1 (za7.1 h.sep).2⟩,h.dfr⟩
theorem HeapOk.drew {G:zb} {H:za} {w:World} (h:HeapOk E G H w) (n:Nat):HeapOk E G H {w with drawn:=n}:=⟨h.env,h.pers,h.own,h.sep,h.dfr⟩
theorem zbT {xs sp:List Value} {e:TypeId} {o:Obj} (h:(Res.cells xs sp e).holds o): ∃fr:Nat×Nat,o= .cells (xs++sp).toArray e fr∧(fr=(0,0)∨(xs.length+sp.length≤fr.1∧e=5)):=h
inductive Tok {α:Sort u} (a:α):Type where
 |mk
def zC (o:Option Value) (k:Value→Prop) (_:Tok k:= .mk):Prop:=match o with|some v=>k v|none=>False
def zc9 (G:zb) (H:za) (a:Addr) (k:Value→Prop) (_:Tok k:= .mk):Prop:=
 if a.spot.isSome then False else
 match G a.block with
 |some (.cells c _ _)=>zC (c[a.off]?) k
 |some _=>False
 |none=>match zq H a.block with
  |some (.cells xs sp _)=>zC ((xs++sp)[a.off]?) k
  |_=>False
theorem znl {G:zb} {H:za} {w:World} (h:HeapOk E G H w) {a:Addr} {k:Value→Prop} (hr:zc9 G H a k): ∃v,w.cell? a=some v∧k v:=by
 unfold zc9 at hr
 split at hr
 ·exact hr.elim
 rename_i hs
 split at hr
 ·rename_i c e f hp
  have:=h.pers _ _ hp
  simp only[World.cell?,this,hs]
  unfold zC at hr
  split at hr
  ·rename_i v hv;exact⟨v,by simpa using hv,hr⟩
  ·exact hr.elim
 ·exact hr.elim
 ·split at hr
  ·rename_i xs sp e hf
   obtain⟨o,ho,hh⟩:=h.find hf
   obtain⟨fr,rfl,_⟩:=zbT hh
   simp only[World.cell?,ho,hs]
   unfold zC at hr
   split at hr
   ·rename_i v hv;exact⟨v,by simpa using hv,hr⟩
   ·exact hr.elim
  ·exact hr.elim
def zax (v:Value):Bool:=match v with| .agg _| .tuple _=>false|_=>true
def zio (H:za) (a:Addr) (v:Value) (k:za→Prop):Prop:=
 if a.spot.isSome then False else
 match zq H a.block with
 |some (.cells xs sp e)=>zax v=true∧((a.off<xs.length∧k (zab H a.block (.cells (xs.set a.off v) sp e)))∨(xs.length≤a.off∧a.off<xs.length+sp.length∧k (zab H a.block (.cells xs (sp.set (a.off - xs.length) v) e))))
 |_=>False
theorem zwY (v:Value):v.oneCell'=zax v:=by cases v <;> rfl
theorem znm {G:zb} {H:za} {w:World} (h:HeapOk E G H w) {a:Addr} {v:Value} {k:za→Prop} (hr:zio H a v k):
  v.oneCell'=true∧(∃u,w.cell? a=some u)∧w.frozen? a=false∧ ∃H',HeapOk E G H' (w.setCell a v)∧k H':=by
 unfold zio at hr
 split at hr
 ·exact hr.elim
 rename_i hs
 split at hr
 ·rename_i xs sp e hf
  obtain⟨o,ho,hh⟩:=h.find hf
  obtain⟨fr,rfl,hfr⟩:=zbT hh
  obtain⟨h1,hr⟩:=hr
  have hset: ∀c,c≠a.block→(w.setCell a v).heap[c]? =w.heap[c]? :=fun c hc=>by
   simp only[World.setCell,Array.getElem?_modify];rw[if_neg (Ne.symm hc)]
  have hnew:(w.setCell a v).heap[a.block]? =some (.cells ((xs++sp).set a.off v).toArray e fr):=by
   simp only[World.setCell,Array.getElem?_modify,ho,if_true,Option.map_some,hs]
   simp
  have hlt:a.off< (xs++sp).length:=by rcases hr with hr|hr <;> simp <;> omega
  refine⟨by rw[zwY];exact h1,?_,?_,?_⟩
  ·simp only[World.cell?,ho,hs]
   exact⟨(xs++sp)[a.off],by simp only[List.getElem?_toArray];rw[if_neg (by simp)];exact List.getElem?_eq_getElem hlt⟩
  ·simp only[World.frozen?,ho]
   rcases hfr with rfl| ⟨hfr,_⟩
   ·simp
   ·simp at hlt;simp;omega
  ·rcases hr with ⟨hl,hk⟩| ⟨hl,hl2,hk⟩
   ·refine⟨_,h.set (r':= .cells (xs.set a.off v) sp e) hf hnew ⟨fr,?_,?_⟩ hset ⟨rfl,rfl⟩,hk⟩
    ·rw[List.set_append_left _ _ hl]
    ·simpa using hfr
   ·refine⟨_,h.set (r':= .cells xs (sp.set (a.off - xs.length) v) e) hf hnew ⟨fr,?_,?_⟩ hset ⟨rfl,rfl⟩,hk⟩
    ·rw[List.set_append_right _ _ hl]
    ·simpa using hfr
 ·exact hr.elim
def zeh:Obj→Res
 | .cells c e fr=>if fr=(0,0) then .cells c.toList [] e else .inv fun _=>False
 | .map a c=>if a.toList=[] then .map [] else .inv (· = .map a c)
 |o=> .inv (· =o)
def zbt:Obj→Bool
 | .deferred _=>false
 | .cells _ _ fr=>decide (fr=(0,0))
 |_=>true
theorem zo3 (o:Obj) (h:zbt o=true):(zeh o).holds o:=by
 cases o <;> simp only[zeh,Res.holds,zeB,and_true]
 case deferred x=>simp [zbt] at h
 case map a c=>
  by_cases h0:a.toList=[]
  ·rw[if_pos h0];exact⟨a,c,rfl,by rw[h0];rfl,by rw[h0];exact List.Pairwise.nil,by rw[h0];simp⟩
  ·rw[if_neg h0];exact⟨rfl,trivial⟩
 case cells c e fr=>
  simp only[zbt,decide_eq_true_eq] at h
  subst h
  simp only[if_true]
  exact⟨(0,0),by simp, .inl rfl⟩
def runS {α:Type} (q:Bool) (P:Program) (G:zb):Sem α→za→(α→za→Prop)→Prop
 | .pure a,H,k=>k a H
 | .load _ a c,H,k=>zc9 G H a fun v=>runS q P G (c v) H k
 | .store _ a v c,H,k=>q=false∧zio H a v fun H'=>runS q P G c H' k
 | .new o c,H,k=>q=false∧zbt o=true∧ ∀b,Sep G (b::zm H)→runS q P G (c b) ((b,zeh o)::H) k
 | .shape r c,H,k=>match G r with
  |some (.cells cs e _)=>runS q P G (c (some (e,cs.size))) H k
  |some _=>runS q P G (c none) H k
  |none=>match zq H r with
   |some (.cells xs sp e)=>runS q P G (c (some (e,xs.length+sp.length))) H k
   |some (.map _)=>runS q P G (c none) H k
   |some (.inv _)=>runS q P G (c none) H k
   |none=>False
 | .freeze a n c,H,k=>match zq H a.block with
   |some (.cells xs sp e)=>q=false∧(xs.length+sp.length≤a.off∧e=5)∧n=1∧runS q P G c H k
   |_=>False
 | .frozen a c,H,k=>match zq H a.block with
   |some (.cells xs sp _)=>if a.off<xs.length+sp.length then runS q P G (c false) H k else q=false∧ ∀b,runS q P G (c b) H k
   |_=>q=false∧ ∀b,runS q P G (c b) H k
 | .getObj r c,H,k=>match G r with
  |some o=>zeB o∧runS q P G (c o) H k
  |none=>match zq H r with
   |some (.inv I)=>q=false∧ ∀o,I o→runS q P G (c o) H k
   |some (.map es)=>q=false∧ ∀o,zqF es o→runS q P G (c o) H k
   |_=>False
 | .setObj r o c,H,k=>match zq H r with
   |some (.inv _)=>q=false∧zeB o∧runS q P G c (zab H r (.inv (· =o))) k
   |some (.map _)=>q=false∧ ∃es,zqF es o∧runS q P G c (zab H r (.map es)) k
   |_=>False
 | .choose u c,H,k=>if u.forced then runS q P G (c 0) H k else q=false∧ ∀t,runS q P G (c (u.cut t)) H k
 | .sys _ _,_,_=>False
 | .program c,H,k=>runS q P G (c P) H k
 | .mark _ c,H,k=>runS q P G c H k
 | .halt _,_,_=>False
theorem znn {G:zb} {H:za} {w:World} (h:HeapOk E G H w) {a:Addr} {xs sp:List Value} {e:TypeId} (hf:zq H a.block=some (.cells xs sp e)) (hl:xs.length+sp.length≤a.off∧e=5):
  HeapOk E G H (w.freeze a 1):=by
 obtain⟨o,ho,hh⟩:=h.find hf
 obtain⟨fr,rfl,hfr⟩:=zbT hh
 have hoth: ∀c,c≠a.block→(w.freeze a 1).heap[c]? =w.heap[c]? :=fun c hc=>by
  simp only[World.freeze,if_neg (by decide: ¬(1=0)),Array.getElem?_modify];rw[if_neg (Ne.symm hc)]
 have hset:zab H a.block (.cells xs sp e)=H:=by
  clear h ho hh hfr hoth
  induction H with
  |nil=>rfl
  |cons p H ih=>
   obtain⟨k,s⟩:=p
   simp only[zq] at hf
   simp only[zab]
   split at hf
   ·rename_i hk;rw[if_pos hk];cases hf;rfl
   ·rename_i hk;rw[if_neg hk,ih hf]
 have hnew:(w.freeze a 1).heap[a.block]? =some (.cells (xs++sp).toArray e (if fr.1==fr.2 then(a.off,a.off+1) else(min fr.1 a.off,max fr.2 (a.off+1)))):=by
  simp only[World.freeze,if_neg (by decide: ¬(1=0)),Array.getElem?_modify,ho,if_true,Option.map_some]
 have:=h.set (r':= .cells xs sp e) hf hnew ⟨_,rfl,?_⟩ hoth (by simp only[World.freeze,if_neg (by decide: ¬(1=0))];exact⟨trivial,trivial⟩)
 ·rw[hset] at this;exact this
 ·right
  refine⟨?_,hl.2⟩
  have hl:=hl.1
  rcases hfr with rfl| ⟨hfr,_⟩
  ·simpa using hl
  ·split
   ·exact hl
   ·show _≤min fr.1 a.off;omega
theorem zks {α:Type} {q:Bool} {P:Program} {G:zb} (s:Sem α): ∀ {H:za} {w:World} {k:α→za→Prop},HeapOk E G H w→runS q P G s H k→
  ∃x w' H',s.run P w= .ok x w'∧HeapOk E G H' w'∧k x H':=by
 induction s with
 |pure a=>intro H w k h hr;exact⟨a,w,H,rfl,h,hr⟩
 |load m a c ih=>
  intro H w k h hr
  obtain⟨v,hv,hk⟩:=znl h hr
  obtain⟨x,w',H',h1,h2,h3⟩:=ih v h hk
  exact⟨x,w',H',by simp only[Sem.run,hv];exact h1,h2,h3⟩
 |store m a v c ih=>
  intro H w k h hr
  obtain⟨h1,⟨u,hu⟩,h2,H1,h3,hk⟩:=znm h hr.2
  obtain⟨x,w',H',e1,e2,e3⟩:=ih h3 hk
  refine⟨x,w',H',?_,e2,e3⟩
  cases v <;> first| (simp [Value.oneCell'] at h1;done)| (simp only[Sem.run,hu,h2];exact e1)
 |new o c ih=>
  intro H w k h hr
  obtain⟨_,h1,hr⟩:=hr
  obtain⟨x,w',H',e1,e2,e3⟩:=ih w.heap.size (h.new (zo3 o h1)) (hr _ h.fresh)
  exact⟨x,w',H',by simp only[Sem.run];exact e1,e2,e3⟩
 |shape r c ih=>
  intro H w k h hr
  simp only[runS] at hr
  have key: ∀y,w.shape? r=y→runS q P G (c y) H k→ ∃x w' H',(Sem.shape r c).run P w= .ok x w'∧HeapOk E G H' w'∧k x H':=fun y hy hr=>by
   obtain⟨x,w',H',e1,e2,e3⟩:=ih y h hr
   exact⟨x,w',H',by simp only[Sem.run,hy];exact e1,e2,e3⟩
  split at hr
  ·rename_i cs e fr hp
   exact key _ (by simp only[World.shape?,h.pers _ _ hp]) hr
  ·rename_i o hno hp
   refine key _ ?_ hr
   simp only[World.shape?,h.pers _ _ hp]
   split
   ·rename_i hx;exact(hno _ _ _ (Option.some.inj hx)).elim
   ·rfl
  ·split at hr
   ·rename_i xs sp e hf
    obtain⟨o,ho,hh⟩:=h.find hf
    obtain⟨fr,rfl,_⟩:=zbT hh
    exact key _ (by simp [World.shape?,ho]) hr
   ·rename_i es hf
    obtain⟨o,ho,a,cl,rfl,_⟩:=h.find hf
    refine key _ ?_ hr
    simp only[World.shape?,ho]
   ·rename_i I hf
    obtain⟨o,ho,hh⟩:=h.find hf
    refine key _ ?_ hr
    simp only[World.shape?,ho]
    cases o <;> first|rfl|exact hh.2.elim
   ·exact hr.elim
 |freeze a n c ih=>
  intro H w k h hr
  simp only[runS] at hr
  split at hr
  ·rename_i xs sp e hf
   obtain⟨_,h1,rfl,hr⟩:=hr
   obtain⟨x,w',H',e1,e2,e3⟩:=ih (znn h hf h1) hr
   exact⟨x,w',H',by simp only[Sem.run];exact e1,e2,e3⟩
  ·exact hr.elim
 |frozen a c ih=>
  intro H w k h hr
  simp only[runS] at hr
  have key: ∀y,w.frozen? a=y→runS q P G (c y) H k→ ∃x w' H',(Sem.frozen a c).run P w= .ok x w'∧HeapOk E G H' w'∧k x H':=fun y hy hr=>by
   obtain⟨x,w',H',e1,e2,e3⟩:=ih y h hr
   exact⟨x,w',H',by simp only[Sem.run,hy];exact e1,e2,e3⟩
  split at hr
  ·rename_i xs sp e hf
   split at hr
   ·rename_i hl
    obtain⟨o,ho,hh⟩:=h.find hf
    obtain⟨fr,rfl,hfr⟩:=zbT hh
    refine key _ ?_ hr
    simp only[World.frozen?,ho]
    rcases hfr with rfl| ⟨hfr,_⟩
    ·simp
    ·simp;omega
   ·exact key _ rfl (hr.2 _)
  ·exact key _ rfl (hr.2 _)
 |getObj r c ih=>
  intro H w k h hr
  simp only[runS] at hr
  have key: ∀y,w.heap[r]? =some y→zeB y→runS q P G (c y) H k→ ∃x w' H',(Sem.getObj r c).run P w= .ok x w'∧HeapOk E G H' w'∧k x H':=fun y hy hn hr=>by
   obtain⟨x,w',H',e1,e2,e3⟩:=ih y h hr
   refine⟨x,w',H',?_,e2,e3⟩
   cases y <;> first|exact hn.elim| (simp only[Sem.run,hy];exact e1)
  split at hr
  ·rename_i o hp
   exact key o (h.pers _ _ hp) hr.1 hr.2
  ·split at hr
   ·rename_i I hf
    obtain⟨o,ho,hh⟩:=h.find hf
    exact key o ho hh.2 (hr.2 o hh.1)
   ·rename_i es hf
    obtain⟨o,ho,hh⟩:=h.find hf
    exact key o ho (by obtain⟨a,cl,rfl,_⟩:=hh;trivial) (hr.2 o hh)
   ·exact hr.elim
 |setObj r o c ih=>
  intro H w k h hr
  simp only[runS] at hr
  split at hr
  ·rename_i I hf
   obtain⟨o0,ho,hh⟩:=h.find hf
   have hlt:r<w.heap.size:=(Array.getElem?_eq_some_iff.1 ho).1
   have:=h.set (w':={w with heap:=w.heap.setIfInBounds r o}) (o':=o) (r':= .inv (· =o)) hf (by simp [hlt]) ⟨rfl,hr.2.1⟩ (fun c hc=>by simp [Ne.symm hc])
   obtain⟨x,w',H',e1,e2,e3⟩:=ih (this ⟨rfl,rfl⟩) hr.2.2
   refine⟨x,w',H',?_,e2,e3⟩
   cases o0 <;> first|exact hh.2.elim| (simp only[Sem.run,ho];exact e1)
  ·rename_i es hf
   obtain⟨o0,ho,a0,c0,rfl,_⟩:=h.find hf
   obtain⟨_,es',hes,hr⟩:=hr
   have hlt:r<w.heap.size:=(Array.getElem?_eq_some_iff.1 ho).1
   have:=h.set (w':={w with heap:=w.heap.setIfInBounds r o}) (o':=o) (r':= .map es') hf (by simp [hlt]) hes (fun c hc=>by simp [Ne.symm hc])
   obtain⟨x,w',H',e1,e2,e3⟩:=ih (this ⟨rfl,rfl⟩) hr
   exact⟨x,w',H',by simp only[Sem.run,ho];exact e1,e2,e3⟩
  ·exact hr.elim
 |choose u c ih=>
  intro H w k h hr
  simp only[runS] at hr
  split at hr
  ·rename_i hq
   obtain⟨x,w',H',e1,e2,e3⟩:=ih 0 h hr
   exact⟨x,w',H',by simp only[Sem.run,hq,if_true];exact e1,e2,e3⟩
  ·rename_i hq
   obtain⟨x,w',H',e1,e2,e3⟩:=ih _ (h.drew (w.drawn+1)) (hr.2 (w.tape w.drawn u))
   refine⟨x,w',H',?_,e2,e3⟩
   simp only[Sem.run]
   rw[if_neg hq]
   exact e1
 |sys c k ih=>intro H w k h hr;exact hr.elim
 |program c ih=>
  intro H w k h hr
  obtain⟨x,w',H',e1,e2,e3⟩:=ih P h hr
  exact⟨x,w',H',by simp only[Sem.run];exact e1,e2,e3⟩
 |mark m c ih=>
  intro H w k h hr
  obtain⟨x,w',H',e1,e2,e3⟩:=ih h hr
  exact⟨x,w',H',by simp only[Sem.run];exact e1,e2,e3⟩
 |halt hh=>intro H w k h hr;exact hr.elim
theorem ze {α β:Type} (q:Bool) (P:Program) (G:zb) (s:Sem α) (f:α→Sem β): ∀ (H:za) (k:β→za→Prop),
  runS q P G (s >>=f) H k=runS q P G s H (fun x H'=>runS q P G (f x) H' k):=by
 show ∀ (H:za) (k:β→za→Prop),runS q P G (s.bind f) H k=runS q P G s H (fun x H'=>runS q P G (f x) H' k)
 induction s with
 |pure a=>intro H k;rfl
 |load m a c ih=>
  intro H k
  simp only[Sem.bind,runS]
  have:(fun v=>runS q P G ((c v).bind f) H k)=(fun v=>runS q P G (c v) H fun x H'=>runS q P G (f x) H' k):=funext fun v=>ih v H k
  rw[this]
 |store m a v c ih=>
  intro H k
  simp only[Sem.bind,runS]
  have:(fun H'=>runS q P G (c.bind f) H' k)=(fun H'=>runS q P G c H' fun x H'=>runS q P G (f x) H' k):=funext fun H'=>ih H' k
  rw[this]
 |new o c ih=>intro H k;simp only[Sem.bind,runS,ih]
 |shape r c ih=>intro H k;simp only[Sem.bind,runS,ih]
 |freeze a n c ih=>intro H k;simp only[Sem.bind,runS,ih]
 |frozen a c ih=>intro H k;simp only[Sem.bind,runS,ih]
 |getObj r c ih=>intro H k;simp only[Sem.bind,runS,ih]
 |setObj r o c ih=>intro H k;simp only[Sem.bind,runS,ih]
 |choose q c ih=>intro H k;simp only[Sem.bind,runS,ih]
 |sys c k ih=>intro H k;rfl
 |program c ih=>intro H k;simp only[Sem.bind,runS,ih]
 |mark m c ih=>intro H k;simp only[Sem.bind,runS,ih]
 |halt hh=>intro H k;rfl
theorem zh {α:Type} (q:Bool) (P:Program) (G:zb) (a:α) (H:za) (k:α→za→Prop):runS q P G (pure a) H k=k a H:=rfl
theorem zdU {α β:Type} (q:Bool) (P:Program) (G:zb) (s:Sem α) (f:α→β) (H:za) (k:β→za→Prop):
  runS q P G (f<$> s) H k=runS q P G s H (fun x H'=>k (f x) H'):=ze q P G s _ H k
theorem zqG {G:zb} {H:za} {a:Addr} {k:Value→Prop} (hr:zc9 G H a k): ∃v,k v∧ ∀ {E:Env} w,HeapOk E G H w→w.cell? a=some v:=by
 unfold zc9 at hr
 split at hr
 ·exact hr.elim
 rename_i hs
 split at hr
 ·rename_i c e f hp
  unfold zC at hr
  split at hr
  ·rename_i v hv
   refine⟨v,hr,fun w h=>?_⟩
   have:=h.pers _ _ hp
   simp only[World.cell?,this,hs]
   simpa using hv
  ·exact hr.elim
 ·exact hr.elim
 ·split at hr
  ·rename_i xs sp e hf
   unfold zC at hr
   split at hr
   ·rename_i v hv
    refine⟨v,hr,fun w h=>?_⟩
    obtain⟨o,ho,hh⟩:=h.find hf
    obtain⟨fr,rfl,_⟩:=zbT hh
    simp only[World.cell?,ho,hs]
    simpa using hv
   ·exact hr.elim
  ·exact hr.elim
theorem zhn {α:Type} {P:Program} {G:zb} (s:Sem α): ∀ {H:za} {k:α→za→Prop},runS true P G s H k→ ∃x,k x H∧ ∀ {E:Env} w,HeapOk E G H w→s.run P w= .ok x w:=by
 induction s with
 |pure a=>intro H k h;exact⟨a,h,fun _ _=>rfl⟩
 |load m a c ih=>
  intro H k h
  obtain⟨v,h1,h2⟩:=zqG h
  obtain⟨x,h3,h4⟩:=ih v h1
  exact⟨x,h3,fun w hw=>by simp only[Sem.run,h2 w hw];exact h4 w hw⟩
 |store m a v c ih=>intro H k h;exact absurd h.1 (by simp)
 |new o c ih=>intro H k h;exact absurd h.1 (by simp)
 |shape r c ih=>
  intro H k h
  simp only[runS] at h
  split at h
  ·rename_i cs e fr hp
   obtain⟨x,h3,h4⟩:=ih _ h
   exact⟨x,h3,fun w hw=>by simp only[Sem.run,World.shape?,hw.pers _ _ hp];exact h4 w hw⟩
  ·rename_i o hno hp
   obtain⟨x,h3,h4⟩:=ih _ h
   refine⟨x,h3,fun w hw=>?_⟩
   have:w.shape? r=none:=by
    simp only[World.shape?,hw.pers _ _ hp]
    split
    ·rename_i hx;exact(hno _ _ _ (Option.some.inj hx)).elim
    ·rfl
   simp only[Sem.run,this];exact h4 w hw
  ·split at h
   ·rename_i xs sp e hf
    obtain⟨x,h3,h4⟩:=ih _ h
    refine⟨x,h3,fun w hw=>?_⟩
    obtain⟨o,ho,hh⟩:=hw.find hf
    obtain⟨fr,rfl,_⟩:=zbT hh
    have:w.shape? r=some (e,xs.length+sp.length):=by simp [World.shape?,ho]
    simp only[Sem.run,this];exact h4 w hw
   ·rename_i es hf
    obtain⟨x,h3,h4⟩:=ih _ h
    refine⟨x,h3,fun w hw=>?_⟩
    obtain⟨o,ho,a,cl,rfl,_⟩:=hw.find hf
    have:w.shape? r=none:=by simp only[World.shape?,ho]
    simp only[Sem.run,this];exact h4 w hw
   ·rename_i I hf
    obtain⟨x,h3,h4⟩:=ih _ h
    refine⟨x,h3,fun w hw=>?_⟩
    obtain⟨o,ho,hh⟩:=hw.find hf
    have:w.shape? r=none:=by
     simp only[World.shape?,ho]
     cases o <;> first|rfl|exact hh.2.elim
    simp only[Sem.run,this];exact h4 w hw
   ·exact h.elim
 |freeze a n c ih=>intro H k h;simp only[runS] at h;split at h <;> first|exact absurd h.1 (by simp)|exact h.elim
 |frozen a c ih=>
  intro H k h
  simp only[runS] at h
  split at h
  ·rename_i xs sp e hf
   split at h
   ·rename_i hl
    obtain⟨x,h3,h4⟩:=ih _ h
    refine⟨x,h3,fun w hw=>?_⟩
    obtain⟨o,ho,hh⟩:=hw.find hf
    obtain⟨fr,rfl,hfr⟩:=zbT hh
    have:w.frozen? a=false:=by
     simp only[World.frozen?,ho]
     rcases hfr with rfl| ⟨hfr,_⟩
     ·simp
     ·simp;omega
    simp only[Sem.run,this];exact h4 w hw
   ·exact absurd h.1 (by simp)
  ·exact absurd h.1 (by simp)
 |getObj r c ih=>
  intro H k h
  simp only[runS] at h
  split at h
  ·rename_i o hp
   obtain⟨x,h3,h4⟩:=ih _ h.2
   refine⟨x,h3,fun w hw=>?_⟩
   have:=hw.pers _ _ hp
   cases o <;> first|exact h.1.elim| (simp only[Sem.run,this];exact h4 w hw)
  ·split at h
   ·exact absurd h.1 (by simp)
   ·exact absurd h.1 (by simp)
   ·exact h.elim
 |setObj r o c ih=>intro H k h;simp only[runS] at h;split at h <;> first|exact absurd h.1 (by simp)|exact h.elim
 |choose u c ih=>
  intro H k h
  simp only[runS] at h
  split at h
  ·rename_i hu
   obtain⟨x,h3,h4⟩:=ih _ h
   exact⟨x,h3,fun w hw=>by simp only[Sem.run,hu,if_true];exact h4 w hw⟩
  ·exact absurd h.1 (by simp)
 |sys c k ih=>intro H k h;exact h.elim
 |program c ih=>
  intro H k h
  obtain⟨x,h3,h4⟩:=ih _ h
  exact⟨x,h3,fun w hw=>by simp only[Sem.run];exact h4 w hw⟩
 |mark m c ih=>
  intro H k h
  obtain⟨x,h3,h4⟩:=ih h
  exact⟨x,h3,fun w hw=>by simp only[Sem.run];exact h4 w hw⟩
 |halt hh=>intro H k h;exact h.elim
variable {E:Env}
abbrev Fr:=List (Nat×Value)
def look:Fr→Nat→Option Value
 | [],_=>none
 | (t,v)::l,u=>if t=u then some v else look l u
def put (l:Fr) (d:Option Nat) (v:Value):Fr:=
 match d with
 |some d=>(d,v)::l
 |none=>l
def ev (l:Fr):Operand→Option Value
 | .tmp t=>look l t
 | .const v=>some v
 | .global g=>some (.pointer (some ⟨g,0,none⟩))
 | .func f=>some (.func (.func f) #[] #[])
def zy (keep:List Nat) (l:Fr):Fr:=
 match keep with
 | []=>[]
 |t::ts=>match look l t with
  |some v=>(t,v)::zy ts l
  |none=>zy ts l
def zqH (D:Nat):Deferred:={target:= .collected D,args:= #[]}
structure Sim (E:Env) (sz:Nat) (G:zb) (l:Fr) (H:za) (a:Act) (w:World):Prop where
 size:a.tmps.size=sz
 defers:a.defers=E.mine.map zqH
 fr: ∀t v,look l t=some v→a.tmps.getD t undef=v
 heap:HeapOk E G H w
theorem Sim.ev {sz:Nat} {G:zb} {l:Fr} {H:za} {a:Act} {w:World} (h:Sim E sz G l H a w) {x:Operand} {v:Value} (hx:ev l x=some v):a.eval x=v:=by
 cases x with
 |tmp t=>exact h.fr t v hx
 |const u=>exact Option.some.inj hx
 |global g=>exact Option.some.inj hx
 |func f=>exact Option.some.inj hx
theorem Sim.put {sz:Nat} {G G':zb} {l:Fr} {H H':za} {a:Act} {w w':World} (h:Sim E sz G l H a w) (hw:HeapOk E G' H' w') {d:Option Nat} {v:Value}
  (hd: ∀t,d=some t→t<sz):Sim E sz G' (V.put l d v) H' (a.put d v) w':=by
 cases d with
 |none=>exact⟨h.size,h.defers,h.fr,hw⟩
 |some d=>
  have hlt:d<a.tmps.size:=by rw[h.size];exact hd d rfl
  refine⟨by simp [Act.put,h.size],h.defers,fun t u ht=>?_,hw⟩
  simp only[V.put,look] at ht
  by_cases e:d=t
  ·subst e
   rw[if_pos rfl] at ht
   cases ht
   simp [Act.put,hlt]
  ·rw[if_neg e] at ht
   have:=h.fr t u ht
   simpa [Act.put,Array.getElem?_setIfInBounds_ne e] using this
theorem zaX (keep:List Nat) (l:Fr) (t:Nat) (v:Value) (h:look (zy keep l) t=some v):look l t=some v:=by
 induction keep with
 |nil=>simp [zy,look] at h
 |cons u us ih=>
  simp only[zy] at h
  split at h
  ·rename_i x hx
   simp only[look] at h
   split at h
   ·rename_i e;subst e;rw[hx];exact h
   ·exact ih h
  ·exact ih h
theorem Sim.weak {sz:Nat} {G:zb} {l l':Fr} {H:za} {a:Act} {w:World} (h:Sim E sz G l H a w) (hl: ∀t v,look l' t=some v→look l t=some v):Sim E sz G l' H a w:=
 ⟨h.size,h.defers,fun t v ht=>h.fr t v (hl t v ht),h.heap⟩
inductive TK where
 |none|bool|int (k:IntKind)|string|ptr (e:Nat)|slice (e:Nat)|arr (n e:Nat)|struct (fs:List (Nat×Nat))|map (k v:Nat)|func|iface
structure TI where
 k:TK
 size:Nat
 bytes:Nat
 zero:List Value
 eq:Bool
instance:Inhabited TI:=⟨⟨.none,0,0,[],false⟩⟩
def zdz (i:TI):Value:=match i.k with
 | .struct _| .arr .. => .agg i.zero.toArray
 |_=>i.zero.headD undef
def eqB (P:Program) (t:TypeId) (d:TypeDesc):Bool:= !P.eqGuardType P.depth t&&match d with
 | .struct fs=> !P.stoodInHeld t&&fs.all (·.name != "_")
 |_=>true
abbrev Tys:=TypeId→TI
def TK.fits:TK→TypeDesc→Prop
 | .none,_=>True
 | .bool,d=>d= .bool
 | .int k,d=>d= .int k
 | .string,d=>d= .string
 | .ptr e,d=>d= .pointer e
 | .slice e,d=>d= .slice e
 | .arr n e,d=>d= .array n e
 | .struct fs,d=> ∃f:Array Field,d= .struct f∧f.toList.map (fun x=>(x.offset,x.type))=fs
 | .map k v,d=>d= .map k v
 | .func,d=> ∃a b c,d= .func a b c
 | .iface,d=> ∃m,d= .interface m
def zT (P:Program) (T:Tys):Prop:= ∀t,(T t).k= .none∨
 ∃d i z,P.underlying t=some d∧(T t).k.fits d∧P.info? t=some i∧i.size=(T t).size∧i.bytes=(T t).bytes∧i.zero=some z∧z.cells.toList=(T t).zero∧z=zdz (T t)∧((T t).eq=true→eqB P t d=true)
section ty
variable {P:Program} {T:Tys} (hT:zT P T) {G:zb} {H:za}
include hT
theorem zT.und {t:TypeId} {k:TK} (h:(T t).k=k) (hk:k≠ .none): ∃d,P.underlying t=some d∧k.fits d:=by
 rcases hT t with h0| ⟨d,i,z,h1,h2,_⟩
 ·exact absurd (h.symm.trans h0) hk
 ·exact⟨d,h1,h▸h2⟩
theorem zT.info {t:TypeId} (hk:(T t).k≠ .none): ∃i z,P.info? t=some i∧i.size=(T t).size∧i.bytes=(T t).bytes∧i.zero=some z∧z.cells.toList=(T t).zero:=by
 rcases hT t with h0| ⟨d,i,z,_,_,h1,h2,h3,h4,h5,_⟩
 ·exact absurd h0 hk
 ·exact⟨i,z,h1,h2,h3,h4,h5⟩
theorem zT.zero {t:TypeId} (hk:(T t).k≠ .none): ∃i,P.info? t=some i∧i.size=(T t).size∧i.zero=some (zdz (T t)):=by
 rcases hT t with h0| ⟨d,i,z,_,_,h1,h2,h3,h4,h5,rfl,_⟩
 ·exact absurd h0 hk
 ·exact⟨i,h1,h2,h4⟩
theorem zT.eqd {t:TypeId} (hk:(T t).k≠ .none) (he:(T t).eq=true): ∃d,P.underlying t=some d∧(T t).k.fits d∧eqB P t d=true:=by
 rcases hT t with h0| ⟨d,i,z,h1,h2,_,_,_,_,_,_,h⟩
 ·exact absurd h0 hk
 ·exact⟨d,h1,h2,h he⟩
end ty
theorem zi {q:Bool} {P:Program} {G:zb} {t:TypeId} {d:TypeDesc} (h:P.underlying t=some d) (H:za) (k:TypeDesc→za→Prop):
  runS q P G (underlying t) H k=k d H:=by
 unfold underlying program
 simp only[ze,runS,h,zh]
theorem zdO {q:Bool} {P:Program} {G:zb} {t:TypeId} {i:TypeInfo} (h:P.info? t=some i) (H:za) (k:TypeInfo→za→Prop):
  runS q P G (typeInfo t) H k=k i H:=by
 unfold typeInfo program
 simp only[ze,runS,h,zh]
theorem zam {q:Bool} {P:Program} {G:zb} {t:TypeId} {i:TypeInfo} (h:P.info? t=some i) (H:za) (k:Nat→za→Prop):
  runS q P G (sizeOf t) H k=k i.size H:=by
 unfold sizeOf
 simp only[ze,zdO h,zh]
theorem za8 {q:Bool} {P:Program} {G:zb} {t:TypeId} {i:TypeInfo} {z:Value} (h:P.info? t=some i) (hz:i.zero=some z) (H:za) (k:Value→za→Prop):
  runS q P G (zeroValue t) H k=k z H:=by
 unfold zeroValue
 simp only[ze,zdO h,hz,zh]
def TK.agg:TK→Bool
 | .struct _| .arr .. =>true
 |_=>false
theorem zho {q:Bool} {P:Program} {T:Tys} (hT:zT P T) {G:zb} {t:TypeId} (hk:(T t).k≠ .none) (H:za) (k:Bool→za→Prop):
  runS q P G (isAgg t) H k=k (T t).k.agg H:=by
 obtain⟨d,hd,hf⟩:=hT.und rfl hk
 unfold isAgg
 simp only[ze,zi hd]
 cases hkk:(T t).k <;> rw[hkk] at hf hk
 case none=>exact absurd rfl hk
 all_goals simp only[TK.fits] at hf
 case struct fs=>obtain⟨f,rfl,_⟩:=hf;rfl
 case func=>obtain⟨a,b,c,rfl⟩:=hf;rfl
 case iface=>obtain⟨m,rfl⟩:=hf;rfl
 all_goals (subst hf;rfl)
def Ob (p:Prop) (k:Prop) (_:Tok k:= .mk):Prop:=p∧k
theorem zwO {p k:Prop} (h:p):Ob p k=k:=by simp [Ob,h]
def Br (b:Bool) (x y:Prop) (_:Tok x:= .mk) (_:Tok y:= .mk):Prop:=(b=true→x)∧(b=false→y)
theorem zi6 {x y:Prop}:Br true x y=x:=by simp [Br]
theorem zhp {x y:Prop}:Br false x y=y:=by simp [Br]
theorem zzA {p:Prop} [Decidable p] {x y:Prop} (h:p):Br (decide p) x y=x:=by simp [Br,h]
theorem zzB {p:Prop} [Decidable p] {x y:Prop} (h: ¬p):Br (decide p) x y=y:=by simp [Br,h]
theorem Br.mk {b:Bool} {x y:Prop} (h1:b=true→x) (h2:b=false→y):Br b x y:=⟨h1,h2⟩
theorem Br.dec {p:Prop} [Decidable p] {x y:Prop} (h1:p→x) (h2: ¬p→y):Br (decide p) x y:=⟨fun h=>h1 (by simpa using h),fun h=>h2 (by simpa using h)⟩
def zda (G:zb) (ks:List Nat) (k:Nat→Prop) (_:Tok k:= .mk):Prop:= ∀b,Sep G (b::ks)→k b
theorem zqI (v:Value) (k:Value→Prop):zC (some v) k=k v:=rfl
theorem zsq (t:Nat) (v:Value) (l:Fr) (u:Nat):look ((t,v)::l) u=if t=u then some v else look l u:=rfl
theorem zyf (l:Fr) (t:Nat):ev l (.tmp t)=look l t:=rfl
theorem zux (l:Fr) (v:Value):ev l (.const v)=some v:=rfl
theorem zsr (l:Fr) (g:Nat):ev l (.global g)=some (.pointer (some ⟨g,0,none⟩)):=rfl
theorem zwZ (l:Fr) (f:FuncId):ev l (.func f)=some (.func (.func f) #[] #[]):=rfl
theorem zuy (l:Fr) (d:Nat) (v:Value):put l (some d) v=(d,v)::l:=rfl
theorem zuz (l:Fr) (v:Value):put l none v=l:=rfl
theorem zno (l:Fr):zy [] l=[]:=rfl
def zgp (t:Nat) (o:Option Value) (r:Fr):Fr:=match o with|some v=>(t,v)::r|none=>r
theorem zmU (t:Nat) (ts:List Nat) (l:Fr):zy (t::ts) l=zgp t (look l t) (zy ts l):=by
 simp only[zy,zgp]
theorem zlj (t:Nat) (v:Value) (r:Fr):zgp t (some v) r=(t,v)::r:=rfl
theorem zlk (t:Nat) (r:Fr):zgp t none r=r:=rfl
theorem zuA (u:Nat):look [] u=none:=rfl
def zay (op:BinOp) (k:IntKind) (x y:Int):Int:=
 let a:=BitVec.ofInt k.bits x
 let b:=BitVec.ofInt k.bits y
 k.wrap (match op with| .and=>a&&& b| .or=>a|||b| .xor=>a ^^^ b|_=>a&&& ~~~b).toNat
def zm9 (op:BinOp) (a:IntKind) (m n:Int) (k:Value→Prop) (_:Tok k:= .mk):Prop:=
 match op with
 | .add=>k (.int a (a.wrap (m+n)))
 | .sub=>k (.int a (a.wrap (m - n)))
 | .mul=>k (.int a (a.wrap (m * n)))
 | .quo=>Ob (n≠0) (k (.int a (a.wrap (m.tdiv n))))
 | .rem=>Ob (n≠0) (k (.int a (m.tmod n)))
 | .and=>k (.int a (zay .and a m n))
 | .or=>k (.int a (zay .or a m n))
 | .xor=>k (.int a (zay .xor a m n))
 | .andNot=>k (.int a (zay .andNot a m n))
 | .eql=>k (.bool (decide (m=n)))
 | .neq=>k (.bool (!decide (m=n)))
 | .lss=>k (.bool (decide (m<n)))
 | .leq=>k (.bool (decide (m≤n)))
 | .gtr=>k (.bool (decide (n<m)))
 | .geq=>k (.bool (decide (n≤m)))
 | .shl=>False
 | .shr=>False
def zna (op:BinOp) (x y:List UInt8) (k:Value→Prop) (_:Tok k:= .mk):Prop:=
 match op with
 | .add=>Ob (((x.length+y.length:Nat):Int)≤9223372036854775807) (k (.string ⟨(x++y).toArray⟩))
 | .eql=>k (.bool (x==y))
 | .neq=>k (.bool (!(x==y)))
 | .lss=>k (.bool (Op.bytesLess x y))
 | .leq=>k (.bool (Op.bytesLess x y||x==y))
 | .gtr=>k (.bool (!(Op.bytesLess x y||x==y)))
 | .geq=>k (.bool (!Op.bytesLess x y))
 |_=>False
def TK.known:TK→Bool
 | .none=>false
 |_=>true
def zei {α:Type}:List α→(α→Option Bool)→Option Bool
 | [],_=>some true
 |a::l,f=>match f a with
  |some true=>zei l f
  |r=>r
def zc6 (T:Tys) (t:TypeId) (cs:List Value) (off:Nat):Option Value:=
 match (T t).k with
 | .none=>none
 | .struct _| .arr .. =>some (.agg ((cs.drop off).take (T t).size).toArray)
 |_=>cs[off]?
def eqT (T:Tys):Nat→TypeId→Value→Value→Option Bool
 |0,_,_,_=>none
 |d+1,t,x,y=>match (T t).k,x,y with
  | .bool, .bool a, .bool b=>some (a==b)
  | .int _, .int a m, .int b n=>if a=b then some (decide (m=n)) else none
  | .string, .string a, .string b=>some (a.data.toList==b.data.toList)
  | .arr n e, .agg xs, .agg ys=>if (T e).k.known then zei (List.range' 0 n) fun i=>match zc6 T e xs.toList (i * (T e).size),zc6 T e ys.toList (i * (T e).size) with
   |some u,some v=>eqT T d e u v
   |_,_=>none
   else none
  | .struct fs, .agg xs, .agg ys=>if (T t).eq then zei fs fun f=>match zc6 T f.2 xs.toList f.1,zc6 T f.2 ys.toList f.1 with
   |some u,some v=>eqT T d f.2 u v
   |_,_=>none
   else none
  |_,_,_=>none
def eqK (o:Option Bool) (k:Bool→Prop) (_:Tok k:= .mk):Prop:=match o with|some b=>k b|none=>False
theorem zuB (b:Bool) (k:Bool→Prop):eqK (some b) k=k b:=rfl
theorem ze7 {q:Bool} {P:Program} {T:Tys} (hT:zT P T) {G:zb} {t:TypeId} {cs:Array Value} {off:Nat} {v:Value} (h:zc6 T t cs.toList off=some v) (H:za) (k:Value→za→Prop):
  runS q P G (part t cs off) H k=k v H:=by
 unfold zc6 at h
 have hk:(T t).k≠ .none:=by intro e;simp only[e] at h;cases h
 obtain⟨i,z,hi,hs,_⟩:=hT.info hk
 unfold part
 rw[ze,zho hT hk]
 have agg: ∀other:Sem Value,(T t).k.agg=true→some (Value.agg ((cs.toList.drop off).take (T t).size).toArray)=some v→
   runS q P G (if (T t).k.agg=true then do pure (.agg (cs.extract off (off+(←sizeOf t)))) else other) H k=k v H:=fun other ha h=>by
  rw[if_pos ha,ze,zam hi,hs]
  have:cs.extract off (off+(T t).size)=((cs.toList.drop off).take (T t).size).toArray:=by
   apply Array.ext'
   simp [List.extract_eq_take_drop]
  rw[this,Option.some.inj h];rfl
 split at h
 ·cases h
 ·rename_i fs hf;exact agg _ (by rw[hf];rfl) h
 ·rename_i n e hf;exact agg _ (by rw[hf];rfl) h
 ·have:(T t).k.agg=false:=by
   cases hkk:(T t).k <;> simp only[TK.agg] <;> simp_all
  rw[if_neg (by simp [this])]
  rw[show cs[off]? =some v by simpa using h]
  rfl
theorem zkt {α:Type} {q:Bool} {P:Program} {G:zb} {f:α→Option Bool} {g:α→Unit→Sem (ForInStep (Option Bool×Unit))} (l:List α)
  (hg: ∀a∈l,∀b,f a=some b→ ∀ (H:za) k,runS q P G (g a ()) H k=k (if b=false then .done (some false,()) else .yield (none,())) H) {b:Bool} (h:zei l f=some b) (H:za) (k:(Option Bool×Unit)→za→Prop):
  runS q P G (forIn l ((none,()):Option Bool×Unit) fun a s=>g a s.2) H k=k (if b=false then(some false,()) else(none,())) H:=by
 induction l with
 |nil=>simp only[zei,Option.some.injEq] at h;subst h;simp [zh]
 |cons a l ih=>
  simp only[zei] at h
  rw[List.forIn_cons,ze]
  cases hf:f a with
  |none=>rw[hf] at h;cases h
  |some c=>
   rw[hf] at h
   rw[hg a (List.mem_cons_self ..) c hf]
   cases c with
   |true=>exact ih (fun a ha=>hg a (List.mem_cons_of_mem _ ha)) h
   |false=>cases h;rfl
theorem ziq {q:Bool} {P:Program} {T:Tys} (hT:zT P T) {G:zb}: ∀ (d D:Nat) (t:TypeId) (x y:Value) (b:Bool),d≤D→eqT T d t x y=some b→ ∀ (H:za) (k:Bool→za→Prop),
  runS q P G (Op.equalIn D t x y) H k=k b H:=by
 intro d
 induction d with
 |zero=>intro D t x y b _ h;simp [eqT] at h
 |succ d ih=>
  intro D t x y b hD h H k
  obtain⟨D,rfl⟩: ∃n,D=n+1:=⟨D - 1,by omega⟩
  have hD':d≤D:=by omega
  simp only[eqT] at h
  split at h
  ·rename_i hk
   obtain⟨ds,hd,hf⟩:=hT.und hk (by simp)
   simp only[TK.fits] at hf;subst hf
   cases h
   simp only[Op.equalIn,ze,zi hd,zh]
  ·rename_i hk
   obtain⟨ds,hd,hf⟩:=hT.und hk (by simp)
   simp only[TK.fits] at hf;subst hf
   split at h
   ·rename_i e;subst e
    cases h
    simp only[Op.equalIn,ze,zi hd,if_true,zh]
    rfl
   ·cases h
  ·rename_i hk
   obtain⟨ds,hd,hf⟩:=hT.und hk (by simp)
   simp only[TK.fits] at hf;subst hf
   cases h
   simp only[Op.equalIn,ze,zi hd,zh]
   congr 1
   rw[Bool.eq_iff_iff,MapKept.bytes_beq,beq_iff_eq]
   constructor
   ·intro h;rw[h]
   ·intro h;exact ByteArray.ext (Array.ext' h)
  ·rename_i n e xs ys hk
   obtain⟨ds,hd,hf⟩:=hT.und hk (by simp)
   simp only[TK.fits] at hf;subst hf
   split at h
   ·rename_i hkn
    have hke:(T e).k≠ .none:=by intro e';rw[e'] at hkn;cases hkn
    obtain⟨i,z,hi,hs,_⟩:=hT.info hke
    unfold Op.equalIn
    simp only[ze,zi hd,zam hi,Std.Legacy.Range.forIn_eq_forIn_range',Std.Legacy.Range.size,Nat.sub_zero,Nat.add_sub_cancel,Nat.div_one]
    rw[hs]
    have key:=zkt (q:=q) (P:=P) (G:=G) (g:=fun i _=>(do
       let u ←part e xs (i * (T e).size)
       let v ←part e ys (i * (T e).size)
       let r ←Op.equalIn D e u v
       if (!r)=true then pure (ForInStep.done (some false,())) else pure (ForInStep.yield (none,())):Sem (ForInStep (Option Bool×Unit)))) (List.range' 0 n) (fun i _ b hb H k=>by
      split at hb
      ·rename_i u v hu hv
       simp only[ze,ze7 hT hu,ze7 hT hv,ih D e u v b hD' hb]
       cases b <;> rfl
      ·cases hb) h H
    rw[key]
    cases b <;> rfl
   ·cases h
  ·rename_i fs xs ys hk
   split at h
   ·rename_i heq
    obtain⟨ds,hd,hf,hq⟩:=hT.eqd (by rw[hk];simp) heq
    rw[hk] at hf
    obtain⟨fa,rfl,rfl⟩:=hf
    simp only[eqB,Bool.and_eq_true,Bool.not_eq_true'] at hq
    obtain⟨_,hq1,hq2⟩:=hq
    unfold Op.equalIn
    simp only[ze,zi hd]
    unfold program
    simp only[runS,hq1,Bool.false_eq_true,if_false,ze]
    rw[←Array.forIn_toList]
    have hall: ∀f∈fa.toList,f.name≠ "_" :=fun f hf=>by
     have:=Array.all_eq_true_iff_forall_mem.1 hq2 f (by simpa using hf)
     simpa using this
    have h':zei fa.toList (fun f=>match zc6 T f.type xs.toList f.offset,zc6 T f.type ys.toList f.offset with|some u,some v=>eqT T d f.type u v|_,_=>none)=some b:=by
     clear hall
     rw[←h]
     generalize fa.toList=l
     induction l with
     |nil=>rfl
     |cons f l ihl=>simp only[List.map_cons,zei];split <;> simp_all
    have key:=zkt (q:=q) (P:=P) (G:=G) (g:=fun(f:Field) _=>(do
       if f.name≠ "_" then
        let u ←part f.type xs f.offset
        let v ←part f.type ys f.offset
        let r ←Op.equalIn D f.type u v
        if (!r)=true then pure (ForInStep.done (some false,())) else pure (ForInStep.yield (none,()))
       else pure (ForInStep.yield (none,())):Sem (ForInStep (Option Bool×Unit)))) fa.toList (fun f hf b hb H k=>by
      split at hb
      ·rename_i u v hu hv
       simp only[if_pos (hall f hf),ze,ze7 hT hu,ze7 hT hv,ih D f.type u v b hD' hb]
       cases b <;> rfl
      ·cases hb) h' H
    rw[key]
    cases b <;> rfl
   ·cases h
  ·cases h
def zku (T:Tys) (op:BinOp) (t:TypeId) (x y:Value) (k:Value→Prop) (_:Tok k:= .mk):Prop:=
 match x,y with
 | .int a m, .int b n=>match op with
  | .shl=>Ob (0≤n) (k (.int a (a.wrap (m * 2 ^ (min n.toNat a.bits)))))
  | .shr=>Ob (0≤n) (k (.int a (m.fdiv (2 ^ (min n.toNat a.bits)))))
  |op=>a=b∧zm9 op a m n k
 | .string x, .string y=>zna op x.data.toList y.data.toList k
 | .bool x, .bool y=>match op,(T t).k with
  | .eql, .bool=>k (.bool (x==y))
  | .neq, .bool=>k (.bool (!(x==y)))
  |_,_=>False
 | .pointer x, .pointer none=>match op,(T t).k with
  | .eql, .ptr _=>k (.bool x.isNone)
  | .neq, .ptr _=>k (.bool (!x.isNone))
  |_,_=>False
 | .pointer none, .pointer y=>match op,(T t).k with
  | .eql, .ptr _=>k (.bool y.isNone)
  | .neq, .ptr _=>k (.bool (!y.isNone))
  |_,_=>False
 | .slice x _ _, .slice none _ _=>match op,(T t).k with
  | .eql, .slice _=>k (.bool x.isNone)
  | .neq, .slice _=>k (.bool (!x.isNone))
  |_,_=>False
 | .map x, .map none=>match op,(T t).k with
  | .eql, .map .. =>k (.bool x.isNone)
  | .neq, .map .. =>k (.bool (!x.isNone))
  |_,_=>False
 | .agg xs, .agg ys=>match op with
  | .eql=>(T t).eq=true∧eqK (eqT T 9 t (.agg xs) (.agg ys)) fun b=>k (.bool b)
  | .neq=>(T t).eq=true∧eqK (eqT T 9 t (.agg xs) (.agg ys)) fun b=>k (.bool (!b))
  |_=>False
 |_,_=>False
theorem zo4 {q:Bool} {P:Program} {G:zb} {H:za} {op:BinOp} {t:TypeId} {a:IntKind} {m n:Int} {kk:Value→za→Prop} (h1:op≠ .shl) (h2:op≠ .shr)
  (h:zm9 op a m n fun v=>kk v H):runS q P G (binOp op t (.int a m) (.int a n)) H kk:=by
 cases op <;> simp only[zm9,Ob] at h <;> simp only[binOp,ne_eq,not_true_eq_false,if_false,Op.intArith,Op.intDiv,Op.intBits,Op.intCmp,zh]
 case quo=>rw[if_neg h.1];exact h.2
 case rem=>rw[if_neg h.1];exact h.2
 case eql=>rw[show(m==n)=decide (m=n) from by rw[Bool.eq_iff_iff];simp];exact h
 case neq=>rw[show(m != n)= !decide (m=n) from by rw[Bool.eq_iff_iff];simp];exact h
 all_goals first|exact absurd rfl h1|exact absurd rfl h2|exact h
theorem zo5 {q:Bool} {P:Program} {G:zb} {H:za} {op:BinOp} {t:TypeId} {x y:ByteArray} {kk:Value→za→Prop}
  (h:zna op x.data.toList y.data.toList fun v=>kk v H):runS q P G (binOp op t (.string x) (.string y)) H kk:=by
 have e1:=Lib.toList_data x
 have e2:=Lib.toList_data y
 cases op <;> simp only[zna,Ob] at h <;> simp only[binOp,Op.stringOp,e1,e2,zh]
 all_goals first|exact h.elim|exact h|skip
 case add=>
  have hm:IntKind.i64.max=9223372036854775807:=by decide
  have hs:x.data.toList.length+y.data.toList.length=x.size+y.size:=by simp
  rw[if_neg (by rw[hm];have:=h.1;rw[hs] at this;omega)]
  have hx:x++y=⟨(x.data.toList++y.data.toList).toArray⟩:=by
   apply ByteArray.ext;simp
  rw[zh,hx];exact h.2
section eqs
variable {q:Bool} {P:Program} {G:zb} {H:za} {t:TypeId} {kk:Bool→za→Prop} (d:Nat)
theorem znp (hd:P.underlying t=some .bool) (x y:Bool):runS q P G (Op.equalIn (d+1) t (.bool x) (.bool y)) H kk=kk (x==y) H:=by
 simp only[Op.equalIn,ze,zi hd,zh]
theorem zp4 {e:TypeId} (hd:P.underlying t=some (.pointer e)) (x:Option Addr):runS q P G (Op.equalIn (d+1) t (.pointer x) (.pointer none)) H kk=kk x.isNone H:=by
 cases x <;> simp only[Op.equalIn,ze,zi hd,zh] <;> rfl
theorem znq {e:TypeId} (hd:P.underlying t=some (.pointer e)) (x:Option Addr):runS q P G (Op.equalIn (d+1) t (.pointer none) (.pointer x)) H kk=kk x.isNone H:=by
 cases x <;> simp only[Op.equalIn,ze,zi hd,zh]
theorem zl7 {e:TypeId} (hd:P.underlying t=some (.slice e)) (x:Option Addr) (a b c f:Nat):runS q P G (Op.equalIn (d+1) t (.slice x a b) (.slice none c f)) H kk=kk x.isNone H:=by
 cases x <;> simp only[Op.equalIn,ze,zi hd,zh] <;> rfl
theorem zp5 {e f:TypeId} (hd:P.underlying t=some (.map e f)) (x:Option Nat):runS q P G (Op.equalIn (d+1) t (.map x) (.map none)) H kk=kk x.isNone H:=by
 cases x <;> simp only[Op.equalIn,ze,zi hd,zh] <;> rfl
end eqs
theorem zjv {q:Bool} {P:Program} {T:Tys} (hT:zT P T) {G:zb} {H:za} {op:BinOp} {t:TypeId} {x y:Value} {kk:Value→za→Prop}
  (h:zku T op t x y fun v=>kk v H):runS q P G (binOp op t x y) H kk:=by
 unfold zku at h
 split at h
 ·rename_i a m b n
  split at h
  ·simp only[binOp,Op.shift];rw[if_neg (by have:=h.1;omega)];exact h.2
  ·simp only[binOp,Op.shift];rw[if_neg (by have:=h.1;omega)];exact h.2
  ·rename_i h1 h2
   obtain⟨rfl,h⟩:=h
   exact zo4 (fun e=>h1 e) (fun e=>h2 e) h
 ·exact zo5 h
 ·rename_i x y
  split at h
  ·rename_i hk
   obtain⟨d,hd,hf⟩:=hT.und hk (by simp)
   subst hf
   show runS q P G (Op.equalIn (9999+1) t (.bool x) (.bool y) >>=fun r=>pure (.bool r)) H kk
   rw[ze,znp _ hd];exact h
  ·rename_i hk
   obtain⟨d,hd,hf⟩:=hT.und hk (by simp)
   subst hf
   show runS q P G (Op.equalIn (9999+1) t (.bool x) (.bool y) >>=fun r=>pure (.bool (!r))) H kk
   rw[ze,znp _ hd];exact h
  ·exact h.elim
 ·rename_i x
  split at h
  ·rename_i hk
   obtain⟨d,hd,hf⟩:=hT.und hk (by simp)
   subst hf
   have:binOp .eql t (.pointer x) (.pointer none)=(Op.equalIn (9999+1) t (.pointer x) (.pointer none) >>=fun r=>pure (.bool r)):=by cases x <;> rfl
   rw[this,ze,zp4 _ hd];exact h
  ·rename_i hk
   obtain⟨d,hd,hf⟩:=hT.und hk (by simp)
   subst hf
   have:binOp .neq t (.pointer x) (.pointer none)=(Op.equalIn (9999+1) t (.pointer x) (.pointer none) >>=fun r=>pure (.bool (!r))):=by cases x <;> rfl
   rw[this,ze,zp4 _ hd];exact h
  ·exact h.elim
 ·rename_i x _
  split at h
  ·rename_i hk
   obtain⟨d,hd,hf⟩:=hT.und hk (by simp)
   subst hf
   have:binOp .eql t (.pointer none) (.pointer x)=(Op.equalIn (9999+1) t (.pointer none) (.pointer x) >>=fun r=>pure (.bool r)):=by cases x <;> rfl
   rw[this,ze,znq _ hd];exact h
  ·rename_i hk
   obtain⟨d,hd,hf⟩:=hT.und hk (by simp)
   subst hf
   have:binOp .neq t (.pointer none) (.pointer x)=(Op.equalIn (9999+1) t (.pointer none) (.pointer x) >>=fun r=>pure (.bool (!r))):=by cases x <;> rfl
   rw[this,ze,znq _ hd];exact h
  ·exact h.elim
 ·rename_i x a b c f
  split at h
  ·rename_i hk
   obtain⟨d,hd,hf⟩:=hT.und hk (by simp)
   subst hf
   have:binOp .eql t (.slice x a b) (.slice none c f)=(Op.equalIn (9999+1) t (.slice x a b) (.slice none c f) >>=fun r=>pure (.bool r)):=by cases x <;> rfl
   rw[this,ze,zl7 _ hd];exact h
  ·rename_i hk
   obtain⟨d,hd,hf⟩:=hT.und hk (by simp)
   subst hf
   have:binOp .neq t (.slice x a b) (.slice none c f)=(Op.equalIn (9999+1) t (.slice x a b) (.slice none c f) >>=fun r=>pure (.bool (!r))):=by cases x <;> rfl
   rw[this,ze,zl7 _ hd];exact h
  ·exact h.elim
 ·rename_i x
  split at h
  ·rename_i hk
   obtain⟨d,hd,hf⟩:=hT.und hk (by simp)
   subst hf
   have:binOp .eql t (.map x) (.map none)=(Op.equalIn (9999+1) t (.map x) (.map none) >>=fun r=>pure (.bool r)):=by cases x <;> rfl
   rw[this,ze,zp5 _ hd];exact h
  ·rename_i hk
   obtain⟨d,hd,hf⟩:=hT.und hk (by simp)
   subst hf
   have:binOp .neq t (.map x) (.map none)=(Op.equalIn (9999+1) t (.map x) (.map none) >>=fun r=>pure (.bool (!r))):=by cases x <;> rfl
   rw[this,ze,zp5 _ hd];exact h
  ·exact h.elim
 ·rename_i xs ys
  have ag: ∀b,eqT T 9 t (.agg xs) (.agg ys)=some b→ ∀kk,runS q P G (Op.equal t (.agg xs) (.agg ys)) H kk=kk b H:=fun b hb kk=>ziq hT 9 Op.maxDepth t _ _ b (by decide) hb H kk
  split at h
  ·obtain⟨_,h⟩:=h
   unfold eqK at h
   split at h
   ·rename_i b hb
    have:binOp .eql t (.agg xs) (.agg ys)=(Op.equal t (.agg xs) (.agg ys) >>=fun r=>pure (.bool r)):=rfl
    rw[this,ze,ag b hb];exact h
   ·exact h.elim
  ·obtain⟨_,h⟩:=h
   unfold eqK at h
   split at h
   ·rename_i b hb
    have:binOp .neq t (.agg xs) (.agg ys)=(Op.equal t (.agg xs) (.agg ys) >>=fun r=>pure (.bool (!r))):=rfl
    rw[this,ze,ag b hb];exact h
   ·exact h.elim
  ·exact h.elim
 ·exact h.elim
end Go.V
