/- A part of the proof, joined of several texts: the verification layer, contracts of functions, plain law. -/
import Derived.Test.YtefkpedhbijhkaaGreatDoorW1
import Derived.Laws.IdiomRangeMap
set_option maxHeartbeats 64000000
set_option linter.unusedSimpArgs false
set_option linter.unusedVariables false
set_option linter.unusedSectionVars false
namespace Go.V
variable {E:Env}
def zf0 (k:IntKind):List Value→Option (List Int)
 | []=>some []
 | .int a n::vs=>if a=k then(zf0 k vs).map (n:: ·) else none
 |_::_=>none
theorem zdQ {k:IntKind}: ∀ {vs:List Value} {ns:List Int},zf0 k vs=some ns→vs=ns.map (Value.int k)
 | [],ns,h=>by cases h;rfl
 |v::vs,ns,h=>by
  cases v <;> simp only[zf0] at h <;> try(cases h;done)
  rename_i a n
  split at h
  ·rename_i e;subst e
   cases hv:zf0 a vs with
   |none=>rw[hv] at h;cases h
   |some ms=>rw[hv] at h;cases h;rw[zdQ hv];rfl
  ·cases h
theorem zly (k:IntKind) (ns:List Int):zf0 k (ns.map (Value.int k))=some ns:=by
 induction ns with
 |nil=>rfl
 |cons n ns ih=>simp [zf0,ih]
def zbl (T:Tys) (t:TypeId) (x y:Value):Option Bool:=
 match (T t).k,x,y with
 | .bool, .bool a, .bool b=>some (a==b)
 | .int k, .int a m, .int b n=>if a=k∧b=k then some (decide (m=n)) else none
 | .string, .string a, .string b=>some (a.data.toList==b.data.toList)
 | .arr n e, .agg xs, .agg ys=>match (T e).k with
  | .int k=>if (T e).size=1 then match zf0 k xs.toList,zf0 k ys.toList with
   |some ms,some ns=>if ms.length=n∧ns.length=n then some (decide (ms=ns)) else none
   |_,_=>none
   else none
  |_=>none
 |_,_,_=>none
def zeA (T:Tys) (t:TypeId) (x:Value):Prop:=zbl T t x x=some true
theorem zgX {T:Tys} {d:Nat} {e:TypeId} {k:IntKind} (he:(T e).k= .int k) (hs:(T e).size=1): ∀ (ms ns pre pre':List Int),ms.length=ns.length→pre.length=pre'.length→
  zdU (List.range' pre.length ms.length) (fun i=>match zcO T e ((pre++ms).map (Value.int k)) (i * (T e).size),zcO T e ((pre'++ns).map (Value.int k)) (i * (T e).size) with
   |some u,some v=>eqT T (d+1) e u v
   |_,_=>none)=some (decide (ms=ns))
 | [],ns,pre,pre',h,_=>by
  obtain rfl:ns=[]:=List.eq_nil_of_length_eq_zero h.symm
  simp [zdU]
 |m::ms,[],pre,pre',h,_=>by simp at h
 |m::ms,n::ns,pre,pre',h,hp=>by
  have ih:=zgX (d:=d) he hs ms ns (pre++[m]) (pre'++[n]) (by simpa using h) (by simp [hp])
  have hone: ∀ (cs:List Value) i,zcO T e cs (i * (T e).size)=cs[i]? :=fun cs i=>by simp only[zcO,he,hs,Nat.mul_one]
  simp only[hone] at ih⊢
  simp only[List.length_cons,List.range'_succ,zdU]
  have e1:((pre++m::ms).map (Value.int k))[pre.length]? =some (.int k m):=by simp
  have e2:((pre'++n::ns).map (Value.int k))[pre.length]? =some (.int k n):=by rw[hp];simp
  have heq:eqT T (d+1) e (.int k m) (.int k n)=some (decide (m=n)):=by simp only[eqT,he,if_true]
  simp only[e1,e2,heq]
  by_cases hmn:m=n
  ·subst hmn
   simp only[decide_true]
   simp only[List.length_append,List.length_cons,List.length_nil,Nat.zero_add,List.append_assoc,List.cons_append,List.nil_append] at ih
   rw[ih];simp
  ·simp [hmn]
theorem zrx {T:Tys} {t:TypeId} {x y:Value} {b:Bool} (h:zbl T t x y=some b):eqT T 3 t x y=some b:=by
 unfold zbl at h
 split at h
 ·rename_i hk;simp only[eqT,hk];exact h
 ·rename_i hk
  simp only[eqT,hk]
  split at h
  ·rename_i e;obtain⟨rfl,rfl⟩:=e;simpa using h
  ·cases h
 ·rename_i hk;simp only[eqT,hk];exact h
 ·rename_i n e xs ys hk
  split at h
  ·rename_i k he
   split at h
   ·rename_i hs
    split at h
    ·rename_i ms ns hm hn
     split at h
     ·rename_i hl
      have:=zgX (d:=1) he hs ms ns [] [] (by omega) rfl
      simp only[List.length_nil,List.nil_append] at this
      rw[show(3 :Nat)=2+1 from rfl]
      unfold eqT
      rw[hk]
      show(if (T e).k.known then _ else none)=_
      rw[if_pos (by rw[he];rfl),←h,←this,zdQ hm,zdQ hn,hl.1]
      rfl
     ·cases h
    ·cases h
   ·cases h
  ·cases h
 ·cases h
theorem zj7 {q:Bool} {P:Program} {T:Tys} (hT:zM P T) {G:za} {t:TypeId} {x y:Value} {b:Bool} (h:zbl T t x y=some b) (H:zb) (k:Bool→zb→Prop):
  runS q P G (Op.equal t x y) H k=k b H:=zhV hT 3 Op.maxDepth t x y b (by decide) (zrx h) H k
theorem zmP {q:Bool} {P:Program} {G:za} {α:Type} (l:List α) {f:α→Unit→Sem (ForInStep Unit)} (hf: ∀a∈l,∀ (H:zb) k,runS q P G (f a ()) H k=k (.yield ()) H) (H:zb) (k:Unit→zb→Prop):
  runS q P G (forIn l () f) H k=k () H:=by
 induction l with
 |nil=>simp [zg]
 |cons a l ih=>
  rw[List.forIn_cons,ze,hf a (List.mem_cons_self ..)]
  exact ih fun a ha=>hf a (List.mem_cons_of_mem _ ha)
theorem zk3 {q:Bool} {P:Program} {T:Tys} (hT:zM P T) {G:za} {t:TypeId} {x y:Value} {b0:Bool} (h:zbl T t x y=some b0) (D:Nat) (b:Bool) (H:zb) (k:Unit→zb→Prop):
  runS q P G (Instr.checkKey b (D+1+1) t x) H k=k () H:=by
 unfold zbl at h
 split at h
 ·rename_i hk
  obtain⟨ds,hd,hf⟩:=hT.und hk (by simp)
  simp only[TK.fits] at hf;subst hf
  simp only[Instr.checkKey,ze,zh hd,zg]
 ·rename_i hk
  obtain⟨ds,hd,hf⟩:=hT.und hk (by simp)
  simp only[TK.fits] at hf;subst hf
  simp only[Instr.checkKey,ze,zh hd,zg]
 ·rename_i hk
  obtain⟨ds,hd,hf⟩:=hT.und hk (by simp)
  simp only[TK.fits] at hf;subst hf
  simp only[Instr.checkKey,ze,zh hd,zg]
 ·rename_i n e xs ys hk
  obtain⟨ds,hd,hf⟩:=hT.und hk (by simp)
  simp only[TK.fits] at hf;subst hf
  split at h
  ·rename_i k' he
   obtain⟨de,hde,hfe⟩:=hT.und he (by simp)
   simp only[TK.fits] at hfe;subst hfe
   obtain⟨i,z,hi,hsz,_⟩:=hT.info (t:=e) (by rw[he];simp)
   split at h
   ·rename_i hs
    split at h
    ·rename_i ms ns hm hn
     split at h
     ·rename_i hl
      have hxs:=zdQ hm
      unfold Instr.checkKey
      simp only[ze,zh hd,Std.Legacy.Range.forIn_eq_forIn_range',Std.Legacy.Range.size,Nat.sub_zero,Nat.add_sub_cancel,Nat.div_one]
      refine zmP _ (fun j hj H k=>?_) H _
      simp only[ze,zae hi,hsz,hs,Nat.mul_one]
      have hj':j<n:=by simpa using hj
      have hp:zcO T e xs.toList j=some (.int k' (ms[j]'(by omega))):=by
       simp only[zcO,he]
       rw[hxs,List.getElem?_map,List.getElem?_eq_getElem (by omega)];rfl
      rw[zeK hT hp]
      simp only[Instr.checkKey,ze,zh hde,zg]
     ·cases h
    ·cases h
   ·cases h
  ·cases h
 ·cases h
theorem zdu {q:Bool} {P:Program} {T:Tys} (hT:zM P T) {G:za} {t:TypeId} {x:Value} (h:zeA T t x) (b:Bool) (H:zb) (k:Unit→zb→Prop):
  runS q P G (Instr.checkKey b 10000 t x) H k=k () H:=zk3 hT h 9998 b H k
def zf1 (T:Tys) (t:TypeId) (k:Value):List (Value×Value)→Option (Option Value)
 | []=>some none
 |e::es=>match zbl T t k e.1 with
  |some true=>some (some e.2)
  |some false=>zf1 T t k es
  |none=>none
def zgY (T:Tys) (t:TypeId) (k v:Value):List (Value×Value)→Option (List (Value×Value))
 | []=>some [(k,v)]
 |e::es=>match zbl T t k e.1 with
  |some true=>some ((k,v)::es)
  |some false=>(zgY T t k v es).map (e:: ·)
  |none=>none
def zmQ (T:Tys) (t:TypeId) (k:Value):List (Value×Value)→Option (List (Value×Value))
 | []=>some []
 |e::es=>match zbl T t k e.1 with
  |some true=>some es
  |some false=>(zmQ T t k es).map (e:: ·)
  |none=>none
def zbV (T:Tys) (t:TypeId) (k:Value):List (Value×Value)→Nat→Option (Option (Nat×Value))
 | [],_=>some none
 |e::es,i=>match zbl T t k e.1 with
  |some true=>some (some (i,e.2))
  |some false=>zbV T t k es (i+1)
  |none=>none
theorem zf2 {q:Bool} {P:Program} {T:Tys} (hT:zM P T) {G:za} {t:TypeId} {x:Value}: ∀ (es:List MapEntry) (i:Nat) {r},zbV T t x (es.map fun e=>(e.key,e.val)) i=some r→ ∀ (H:zb) k,
  runS q P G (Instr.findAsking t x es i) H k=k r H
 | [],i,r,h,H,k=>by cases h;rfl
 |e::es,i,r,h,H,k=>by
  simp only[List.map_cons,zbV] at h
  unfold Instr.findAsking
  rw[ze]
  split at h
  ·rename_i hk;cases h;rw[zj7 hT hk];rfl
  ·rename_i hk;rw[zj7 hT hk];simp only[Bool.false_eq_true,if_false];exact zf2 hT es (i+1) h H k
  ·cases h
theorem zoc {P:Program} {T:Tys} (hT:zM P T) {t:TypeId} {d:TypeDesc} (hd:P.underlying t=some d) {x y:Value} {b:Bool} (h1:zbl T t x y=some b):Instr.sameNow d x y=some b∨Instr.sameNow d x y=none:=by
 unfold zbl at h1
 split at h1
 ·rename_i hk
  obtain⟨ds,hd',hf⟩:=hT.und hk (by simp)
  simp only[TK.fits] at hf;subst hf
  obtain rfl:=Option.some.inj (hd.symm.trans hd')
  exact .inl h1
 ·rename_i hk
  obtain⟨ds,hd',hf⟩:=hT.und hk (by simp)
  simp only[TK.fits] at hf;subst hf
  obtain rfl:=Option.some.inj (hd.symm.trans hd')
  split at h1
  ·rename_i e;obtain⟨rfl,rfl⟩:=e
   left
   simp only[Instr.sameNow,if_true];exact h1
  ·cases h1
 ·rename_i hk
  obtain⟨ds,hd',hf⟩:=hT.und hk (by simp)
  simp only[TK.fits] at hf;subst hf
  obtain rfl:=Option.some.inj (hd.symm.trans hd')
  left
  rw[←h1]
  simp only[Instr.sameNow,Option.some.injEq]
  rw[Bool.eq_iff_iff,MapKept.bytes_beq,beq_iff_eq]
  exact⟨fun h=>by rw[h],fun h=>ByteArray.ext (Array.ext' h)⟩
 ·rename_i hk
  obtain⟨ds,hd',hf⟩:=hT.und hk (by simp)
  simp only[TK.fits] at hf;subst hf
  obtain rfl:=Option.some.inj (hd.symm.trans hd')
  exact .inr rfl
 ·cases h1
theorem zhQ {P:Program} {T:Tys} (hT:zM P T) {t:TypeId} {d:TypeDesc} (hd:P.underlying t=some d) {x:Value}: ∀ (es:List MapEntry) (i:Nat) {r},zbV T t x (es.map fun e=>(e.key,e.val)) i=some r→
  ∀r',Instr.findNow d x es i=some r'→r'=r
 | [],i,r,h,r',h'=>by cases h;cases h';rfl
 |e::es,i,r,h,r',h'=>by
  simp only[List.map_cons,zbV] at h
  simp only[Instr.findNow] at h'
  cases hk:zbl T t x e.key with
  |none=>rw[hk] at h;cases h
  |some b=>
   rw[hk] at h
   rcases zoc hT hd hk with hs|hs
   ·rw[hs] at h'
    cases b with
    |true=>cases h;cases h';rfl
    |false=>exact zhQ hT hd es (i+1) h r' h'
   ·rw[hs] at h';cases h'
theorem zbJ {q:Bool} {P:Program} {T:Tys} (hT:zM P T) {G:za} {t:TypeId} {x:Value} (hk:zeA T t x) {es:List MapEntry} {r} (h:zbV T t x (es.map fun e=>(e.key,e.val)) 0=some r) (H:zb) (k:Option (Nat×Value)→zb→Prop):
  runS q P G (Instr.findKey t x es) H k=k r H:=by
 have hn:(T t).k≠ .none:=by intro e;unfold zeA zbl at hk;rw[e] at hk;cases hk
 obtain⟨d,hd,_⟩:=hT.und rfl hn
 unfold Instr.findKey
 rw[ze,zh hd]
 split
 ·rename_i r' hr'
  rw[zhQ hT hd es 0 h r' hr'];rfl
 ·exact zf2 hT es 0 h H k
theorem zgk {T:Tys} {t:TypeId} {k:Value}: ∀ {es:List (Value×Value)} {i:Nat} {o:Option Value},zf1 T t k es=some o→ ∃r,zbV T t k es i=some r∧r.map (·.2)=o
 | [],i,o,h=>by cases h;exact⟨none,rfl,rfl⟩
 |e::es,i,o,h=>by
  simp only[zf1] at h
  simp only[zbV]
  split at h
  ·rename_i hk;cases h;exact⟨_,rfl,rfl⟩
  ·rename_i hk;exact zgk h
  ·cases h
theorem zj8 {T:Tys} {t:TypeId} {k v:Value}: ∀ {es es':List (Value×Value)} {i:Nat},zgY T t k v es=some es'→
  (∃p w,zbV T t k es i=some (some (i+p,w))∧p<es.length∧es'=es.set p (k,v)∧ ∃k0,(es[p]?).map (·.1)=some k0∧zbl T t k k0=some true)∨(zbV T t k es i=some none∧es'=es++[(k,v)])
 | [],es',i,h=>by cases h;exact .inr ⟨rfl,rfl⟩
 |e::es,es',i,h=>by
  simp only[zgY] at h
  simp only[zbV]
  split at h
  ·rename_i hk;cases h;exact .inl ⟨0,e.2,by simp [hk],by simp,by simp,e.1,by simp,hk⟩
  ·rename_i hk
   cases hp:zgY T t k v es with
   |none=>rw[hp] at h;cases h
   |some l=>
    rw[hp] at h;cases h
    rcases zj8 (i:=i+1) hp with ⟨p,w,h1,h2,h3,k0,h4,h5⟩| ⟨h1,h2⟩
    ·exact .inl ⟨p+1,w,by rw[h1];congr 3;omega,by simpa using h2,by simp [h3],k0,by simpa using h4,h5⟩
    ·exact .inr ⟨h1,by simp [h2]⟩
  ·cases h
theorem zj9 {T:Tys} {t:TypeId} {k:Value}: ∀ {es es':List (Value×Value)} {i:Nat},zmQ T t k es=some es'→
  (∃p w,zbV T t k es i=some (some (i+p,w))∧p<es.length∧es'=es.eraseIdx p)∨(zbV T t k es i=some none∧es'=es)
 | [],es',i,h=>by cases h;exact .inr ⟨rfl,rfl⟩
 |e::es,es',i,h=>by
  simp only[zmQ] at h
  simp only[zbV]
  split at h
  ·rename_i hk;cases h;exact .inl ⟨0,e.2,by simp [hk],by simp,by simp⟩
  ·rename_i hk
   cases hp:zmQ T t k es with
   |none=>rw[hp] at h;cases h
   |some l=>
    rw[hp] at h;cases h
    rcases zj9 (i:=i+1) hp with ⟨p,w,h1,h2,h3⟩| ⟨h1,h2⟩
    ·exact .inl ⟨p+1,w,by rw[h1];congr 3;omega,by simpa using h2,by simp [h3]⟩
    ·exact .inr ⟨h1,by simp [h2]⟩
  ·cases h
def zfw (r:Option Res) (k:List (Value×Value)→Prop) (_:Tok k:= .mk):Prop:=match r with|some (.map es)=>k es|_=>False
theorem zry (es:List (Value×Value)) (k:List (Value×Value)→Prop):zfw (some (.map es)) k=k es:=rfl
def zh0 (o:Option (Option Value)) (yes:Value→Prop) (no:Prop) (_:Tok yes:= .mk) (_:Tok no:= .mk):Prop:=match o with
 |some (some v)=>yes v
 |some none=>no
 |none=>False
theorem zpY (v:Value) (yes:Value→Prop) (no:Prop):zh0 (some (some v)) yes no=yes v:=rfl
theorem zrz (yes:Value→Prop) (no:Prop):zh0 (some none) yes no=no:=rfl
def esK (o:Option (List (Value×Value))) (k:List (Value×Value)→Prop) (_:Tok k:= .mk):Prop:=match o with|some es=>k es|none=>False
theorem ztL (es:List (Value×Value)) (k:List (Value×Value)→Prop):esK (some es) k=k es:=rfl
def zgZ (T:Tys) (H:zb) (t:TypeId) (m key:Value) (ok:Bool) (k:Value→Prop) (_:Tok k:= .mk):Prop:=
 match (T t).k,m with
 | .map kt et, .map none=>(T et).k≠ .none∧Ob (zeA T kt key) (k (if ok then .tuple #[zc9 (T et), .bool false] else zc9 (T et)))
 | .map kt et, .map (some r)=>(T et).k≠ .none∧Ob (zeA T kt key) (zfw (zq H r) fun es=>
   zh0 (zf1 T kt key es) (fun v=>k (if ok then .tuple #[v, .bool true] else v)) (k (if ok then .tuple #[zc9 (T et), .bool false] else zc9 (T et))))
 |_,_=>False
theorem zk4 {P:Program} {T:Tys} (hT:zM P T) {G:za} {H:zb} {t:TypeId} {m key:Value} {ok:Bool} {kk:Value→zb→Prop} (h:zgZ T H t m key ok fun v=>kk v H):zO P G (Instr.lookup t m key ok) H kk:=by
 unfold zgZ at h
 split at h
 ·rename_i kt et hk
  obtain⟨he,hkey,h⟩:=h
  obtain⟨d,hd,hf⟩:=hT.und hk (by simp)
  simp only[TK.fits] at hf;subst hf
  obtain⟨i,hi,_,hz⟩:=hT.zero he
  refine zO.of ?_
  unfold Instr.lookup
  simp only[ze,zh hd,zg,zdu hT hkey]
  rw[zbJ hT hkey (es:=(#[]:Array MapEntry).toList) (r:=none) rfl]
  simp only[ze,zaT hi hz,zg]
  cases ok <;> exact h
 ·rename_i kt et r hk
  obtain⟨he,hkey,h⟩:=h
  obtain⟨d,hd,hf⟩:=hT.und hk (by simp)
  simp only[TK.fits] at hf;subst hf
  obtain⟨i,hi,_,hz⟩:=hT.zero he
  intro E w hw
  unfold zfw at h
  split at h
  ·rename_i es hes
   have hg:=hw.none hes
   refine zO.of (P:=P) (G:=G) ?_ w hw
   unfold Instr.lookup
   simp only[ze,zh hd,zg]
   simp only[getObj,runS,hg,hes]
   refine⟨trivial,fun o ho=>?_⟩
   obtain⟨a,c,rfl,ha,_⟩:=ho
   simp only[zg,ze,zdu hT hkey]
   unfold zh0 at h
   split at h
   ·rename_i v hv
    rw[←ha] at hv
    obtain⟨r,hr,hrv⟩:=zgk (i:=0) hv
    rw[zbJ hT hkey hr]
    cases r with
    |none=>cases hrv
    |some r=>cases hrv;cases ok <;> exact h
   ·rename_i hv
    rw[←ha] at hv
    obtain⟨r,hr,hrv⟩:=zgk (i:=0) hv
    rw[zbJ hT hkey hr]
    cases r with
    |some r=>cases hrv
    |none=>
     simp only[ze,zaT hi hz,zg]
     cases ok <;> exact h
   ·exact h.elim
  ·exact h.elim
 ·exact h.elim
theorem zmR {T:Tys} {t:TypeId} {x y:Value} (h:zbl T t x y=some true) (n:Nat):Instr.sameBits (n+1) y x=true:=by
 have ints: ∀ (k:IntKind) (l:List Int) (m:Nat),((l.map (Value.int k)).zip (l.map (Value.int k))).all (fun p=>Instr.sameBits m p.1 p.2)=true:=fun k l m=>by
  induction l with
  |nil=>rfl
  |cons a l ih=>simp only[List.map_cons,List.zip_cons_cons,List.all_cons,ih];cases m <;> simp [Instr.sameBits]
 unfold zbl at h
 split at h
 ·simp only[Option.some.injEq,beq_iff_eq] at h;subst h;simp [Instr.sameBits]
 ·split at h
  ·rename_i e;obtain⟨rfl,rfl⟩:=e
   simp only[Option.some.injEq,decide_eq_true_eq] at h;subst h;simp [Instr.sameBits]
  ·cases h
 ·simp only[Option.some.injEq,beq_iff_eq] at h
  rename_i a b _
  have:a=b:=ByteArray.ext (Array.ext' h)
  subst this
  simp only[Instr.sameBits]
  exact(MapKept.bytes_beq _ _).2 rfl
 ·split at h
  ·split at h
   ·split at h
    ·rename_i ms ns hm hn
     split at h
     ·simp only[Option.some.injEq,decide_eq_true_eq] at h;subst h
      simp only[Instr.sameBits,Bool.and_eq_true,beq_iff_eq]
      rename_i xs ys _ _ _ _ _ _
      have e1:=zdQ hm
      have e2:=zdQ hn
      refine⟨by rw[←Array.length_toList,←Array.length_toList,e1,e2],?_⟩
      rw[e1,e2]
      exact ints _ _ _
     ·cases h
    ·cases h
   ·cases h
  ·cases h
 ·cases h
theorem zmf (a:Array MapEntry) (p:Nat) (k v:Value):((a.modify p fun e=>{e with key:=k,val:=v}).toList.map fun e=>(e.key,e.val))=(a.toList.map fun e=>(e.key,e.val)).set p (k,v):=by
 rw[Array.toList_modify]
 apply List.ext_getElem?
 intro i
 simp only[List.getElem?_map,List.getElem?_modify,List.getElem?_set,List.length_map]
 by_cases h:p=i
 ·subst h
  by_cases hl:p<a.toList.length
  ·have:p<a.size:=by simpa using hl
   simp [this]
  ·have:a.size≤p:=by simpa using hl
   simp [this,Nat.not_lt.2 this]
 ·simp [h]
theorem zi7 (a:Array MapEntry) (p:Nat) (k v:Value):((a.modify p fun e=>{e with key:=k,val:=v}).toList.map (·.born))=a.toList.map (·.born):=by
 rw[Array.toList_modify]
 apply List.ext_getElem?
 intro i
 simp only[List.getElem?_map,List.getElem?_modify]
 by_cases h:p=i
 ·subst h;cases a.toList[p]? <;> simp
 ·simp [h]
def zdn (T:Tys) (H:zb) (t:TypeId) (m key v:Value) (k:zb→Prop) (_:Tok k:= .mk):Prop:=
 match (T t).k,m with
 | .map kt _, .map (some r)=>Ob (zeA T kt key) (zfw (zq H r) fun es=>esK (zgY T kt key v es) fun es'=>k (zW H r (.map es')))
 |_,_=>False
theorem ze6 {P:Program} {T:Tys} (hT:zM P T) {G:za} {H:zb} {t:TypeId} {m key v:Value} {kk:Unit→zb→Prop} (h:zdn T H t m key v fun H'=>kk () H'):zO P G (Instr.mapUpdate t m key v) H kk:=by
 unfold zdn at h
 split at h
 ·rename_i kt et r hk
  obtain⟨hkey,h⟩:=h
  obtain⟨d,hd,hf⟩:=hT.und hk (by simp)
  simp only[TK.fits] at hf;subst hf
  intro E w hw
  unfold zfw at h
  split at h
  ·rename_i es hes
   have hg:=hw.none hes
   unfold esK at h
   split at h
   ·rename_i es' hput
    refine zO.of (P:=P) (G:=G) ?_ w hw
    unfold Instr.mapUpdate
    simp only[ze,zh hd]
    simp only[getObj,runS,hg,hes]
    refine⟨trivial,fun o ho=>?_⟩
    obtain⟨a,c,rfl,ha,hb,hc⟩:=ho
    simp only[zg,ze,zdu hT hkey]
    rw[←ha] at hput
    rcases zj8 (i:=0) hput with ⟨p,w',h1,h2,h3,k0,h4,h5⟩| ⟨h1,h2⟩
    ·rw[zbJ hT hkey h1]
     simp only[Nat.zero_add]
     have hk0:((a[p]?).map (·.key)).getD key=k0:=by
      rw[List.getElem?_map,Array.getElem?_toList] at h4
      cases hap:a[p]? with
      |none=>rw[hap] at h4;cases h4
      |some e=>rw[hap] at h4;simpa using h4
     simp only[hk0,Instr.keyThatStays,zmR h5,if_true,zg,ze]
     simp only[setObj,runS,hes]
     refine⟨trivial,es',⟨_,c,rfl,?_,?_,?_⟩,h⟩
     ·rw[zmf,h3]
     ·rw[zi7];exact hb
     ·intro e he
      have:e.born∈(a.modify p fun e=>{e with key:=key,val:=v}).toList.map (·.born):=List.mem_map_of_mem he
      rw[zi7] at this
      obtain⟨e',he',heq⟩:=List.mem_map.1 this
      rw[←heq];exact hc e' he'
    ·rw[zbJ hT hkey h1]
     simp only[setObj,runS,hes]
     refine⟨trivial,es',⟨_,c+1,rfl,?_,?_,?_⟩,h⟩
     ·rw[h2];simp
     ·simp only[Array.toList_push,List.map_append,List.map_cons,List.map_nil,List.pairwise_append,List.pairwise_cons,List.not_mem_nil,false_imp_iff,implies_true,List.Pairwise.nil,and_true,List.mem_map,List.mem_singleton,forall_eq,true_and]
      refine⟨hb,?_⟩
      rintro _ ⟨e,he,rfl⟩;exact hc e he
     ·intro e he
      simp only[Array.toList_push,List.mem_append,List.mem_singleton] at he
      rcases he with he|rfl
      ·exact Nat.lt_succ_of_lt (hc e he)
      ·exact Nat.lt_succ_self c
   ·exact h.elim
  ·exact h.elim
 ·exact h.elim
theorem zfx {α β:Type} (f:α→β): ∀ (l:List α) (p:Nat),(l.eraseIdx p).map f=(l.map f).eraseIdx p
 | [],_=>rfl
 |a::l,0=>rfl
 |a::l,p+1=>by simp [zfx f l p]
def zg0 (T:Tys) (H:zb) (t:TypeId) (m key:Value) (k:zb→Prop) (_:Tok k:= .mk):Prop:=
 match (T t).k,m with
 | .map kt _, .map (some r)=>Ob (zeA T kt key) (zfw (zq H r) fun es=>esK (zmQ T kt key es) fun es'=>k (zW H r (.map es')))
 |_,_=>False
theorem zk5 {P:Program} {T:Tys} (hT:zM P T) {G:za} {H:zb} {t u ty:TypeId} {m key:Value} {kk:Value→zb→Prop} (h:zg0 T H t m key fun H'=>kk (.tuple #[]) H'):zO P G (Builtin.delete_ #[t,u] ty #[m,key]) H kk:=by
 unfold zg0 at h
 split at h
 ·rename_i kt et r hk
  obtain⟨hkey,h⟩:=h
  obtain⟨d,hd,hf⟩:=hT.und hk (by simp)
  simp only[TK.fits] at hf;subst hf
  intro E w hw
  unfold zfw at h
  split at h
  ·rename_i es hes
   have hg:=hw.none hes
   unfold esK at h
   split at h
   ·rename_i es' hput
    refine zO.of (P:=P) (G:=G) ?_ w hw
    have e0: ∃s1 s2,Builtin.delete_ #[t,u] ty #[.map (some r),key]=(do
      let .map keyType _ ←underlying t|stuck s1
      let .map es clock ←getObj r|stuck s2
      Instr.checkKey es.isEmpty 10000 keyType key
      match ←Instr.findKey keyType key es.toList with
      |some (i,_)=>setObj r (.map (es.eraseIdxIfInBounds i) clock)
      |none=>setObj r (.map es clock)
      pure (.tuple #[])):=by
     unfold Builtin.delete_;exact⟨_,_,rfl⟩
    obtain⟨s1,s2,e0⟩:=e0
    rw[e0]
    simp only[ze,zh hd]
    simp only[getObj,runS,hg,hes]
    refine⟨trivial,fun o ho=>?_⟩
    obtain⟨a,c,rfl,ha,hb,hc⟩:=ho
    simp only[zg,ze,zdu hT hkey]
    rw[←ha] at hput
    rcases zj9 (i:=0) hput with ⟨p,w',h1,h2,h3⟩| ⟨h1,h2⟩
    ·rw[zbJ hT hkey h1]
     simp only[Nat.zero_add,setObj,ze,runS,hes]
     have hp:p<a.size:=by simpa using h2
     refine⟨trivial,es',⟨_,c,rfl,?_,?_,?_⟩,h⟩
     ·rw[h3];simp [Array.eraseIdxIfInBounds,hp,zfx]
     ·simp only[Array.eraseIdxIfInBounds,hp,dif_pos,Array.toList_eraseIdx,zfx]
      exact hb.sublist (List.eraseIdx_sublist _ _)
     ·intro e he
      simp only[Array.eraseIdxIfInBounds,hp,dif_pos,Array.toList_eraseIdx] at he
      exact hc e ((List.eraseIdx_sublist _ _).subset he)
    ·rw[zbJ hT hkey h1]
     simp only[setObj,ze,runS,hes]
     refine⟨trivial,es',⟨_,c,rfl,by rw[h2,ha],hb,hc⟩,h⟩
   ·exact h.elim
  ·exact h.elim
 ·exact h.elim
theorem zka {P:Program} {T:Tys} (hT:zM P T) {G:za} {H:zb} {t:TypeId} {kk:Value→zb→Prop} (h:zcR G (zk H) fun b=>kk (.map (some b)) ((b, .map [])::H)):zO P G (Instr.makeMap t none) H kk:=by
 refine zO.of ?_
 simp only[Instr.makeMap,newObj,ze,runS,zg]
 refine⟨by trivial,rfl,fun b hb=>?_⟩
 exact h b hb
def zg1 (r:Option Res) (k:Value→Prop) (_:Tok k:= .mk):Prop:=zfw r fun es=>k (.int .i64 es.length)
theorem zk6 {P:Program} {T:Tys} (hT:zM P T) {G:za} {H:zb} {t ty:TypeId} {a b r:Nat} {kk:Value→zb→Prop} (hk:(T t).k= .map a b) (h:zg1 (zq H r) fun v=>kk v H):zO P G (Builtin.len_ #[t] ty #[.map (some r)]) H kk:=by
 obtain⟨d,hd,hf⟩:=hT.und hk (by simp)
 simp only[TK.fits] at hf;subst hf
 unfold zg1 zfw at h
 split at h
 ·rename_i es hes
  intro E w hw
  have hg:=hw.none hes
  refine zO.of (P:=P) (G:=G) ?_ w hw
  simp [Builtin.len_,ze,zh hd,zg,getObj,runS,hg,hes,goInt]
  intro o ho
  obtain⟨a,c,rfl,ha,_⟩:=ho
  have:es.length=a.size:=by rw[←ha];simp
  rw[this] at h
  exact h
 ·exact h.elim
end Go.V
namespace Go.V
variable {E:Env}
def zmS (a:Array MapEntry) (c:Nat):Res:= .inv fun o=>o= .map a c
def zg2 (m since:Nat) (seen:Array Nat) (last:Nat):Res:= .inv fun o=>o= .mapIter (some m) since seen last
theorem HeapOk.exact {G:za} {H:zb} {w:World} (h:HeapOk E G H w) {b:Nat} {r:Res} (hf:zq H b=some r) {o:Obj} (ho:w.heap[b]? =some o) (hn:zd8 o):HeapOk E G (zW H b (.inv fun o'=>o'=o)) w:=
 h.set (r':= .inv fun o'=>o'=o) hf ho ⟨rfl,hn⟩ (fun _ _=>rfl) ⟨rfl,rfl⟩
def ziO (T:Tys) (G:za) (H:zb) (t:TypeId) (v:Value) (k:Value→zb→Prop) (_:Tok k:= .mk):Prop:=
 match (T t).k,v with
 | .map _ _, .map (some m)=>zfw (zq H m) fun es=> ∀ (a:Array MapEntry) (c:Nat),a.toList.map (fun e=>(e.key,e.val))=es→(a.toList.map (·.born)).Nodup→(∀e∈a.toList,e.born<c)→
   zcR G (zk H) fun b=>k (.pointer (some ⟨b,0,none⟩)) ((b,zg2 m c #[] c)::zW H m (zmS a c))
 |_,_=>False
theorem zmg {P:Program} {T:Tys} (hT:zM P T) {G:za} {H:zb} {t:TypeId} {v:Value} {kk:Value→zb→Prop} (h:ziO T G H t v kk):zO P G (Instr.range t v) H kk:=by
 unfold ziO at h
 split at h
 ·rename_i kt et m hk
  obtain⟨d,hd,hf⟩:=hT.und hk (by simp)
  simp only[TK.fits] at hf;subst hf
  intro E w hw
  unfold zfw at h
  split at h
  ·rename_i es hes
   have hg:=hw.none hes
   obtain⟨o,ho,hh⟩:=hw.find hes
   obtain⟨a,c,rfl,ha,hb,hc⟩:=hh
   have hnd:(a.toList.map (·.born)).Nodup:=List.Pairwise.imp (fun{x y} hxy e=>by omega) hb
   have h:=h a c ha hnd hc
   have hw2:=hw.exact hes ho (by trivial)
   have hfm:zq (zW H m (.inv fun o'=>o'=Obj.map a c)) m=some (.inv fun o'=>o'=Obj.map a c):=ze8 hes
   refine zO.of (P:=P) (G:=G) ?_ w hw2
   unfold Instr.range
   simp only[ze,zh hd,zg]
   simp only[getObj,runS,hg,hfm,newObj]
   refine⟨trivial,fun o ho=>?_⟩
   subst ho
   simp only[zg,ze,runS]
   refine⟨trivial,rfl,fun b hb=>?_⟩
   rw[zhT] at hb
   exact h b hb
  ·exact h.elim
 ·exact h.elim
def zrA (H:zb) (v:Value) (k:Value→zb→Prop) (_:Tok k:= .mk):Prop:=
 ∃b m since seen last a c,v= .pointer (some ⟨b,0,none⟩)∧zq H b=some (zg2 m since seen last)∧zq H m=some (zmS a c)∧(∀x∈a.toList,x.born<since)∧since≤last∧
  ((leftOf a seen).size=0→k (.tuple #[.bool false]) H)∧ ∀e∈(leftOf a seen).toList,k (.tuple #[.bool true,e.key,e.val]) (zW H b (zg2 m since (seen.push e.born) c))
theorem zmT {P:Program} {G:za} {H:zb} {v:Value} {ty:TypeId} {kk:Value→zb→Prop} (h:zrA H v kk):zO P G (Instr.next v false ty) H kk:=by
 obtain⟨b,m,since,seen,last,a,c,rfl,hb,hm,hold,hsc,h0,h1⟩:=h
 intro E w hw
 have hgb:=hw.none hb
 have hgm:=hw.none hm
 refine zO.of (P:=P) (G:=G) ?_ w hw
 unfold Instr.next
 simp only[ze,zg,getObj,runS,hgb,hb,zg2]
 refine⟨trivial,fun o ho=>?_⟩
 subst ho
 simp only[ze,zg,getObj,runS,hgm,hm,zmS]
 refine⟨trivial,fun o ho=>?_⟩
 subst ho
 simp only[next_test_false seen a since last hold hsc,Bool.false_eq_true,if_false,ze,zg]
 have hmem: ∀x∈(leftOf a seen).toList,x.born<since:=fun x hx=>hold x (mem_left hx).1
 show runS false P G (do
  let left:=leftOf a seen
  let old:=left.filter (·.born<since)
  let new:=left.filter (·.born≥since)
  let candidates:=(if old.isEmpty then #[none] else #[])++(old++new).map some
  match candidates[←choose (.mapNext candidates.size)]? with
  |some (some e)=>
   setObj b (.mapIter (some m) since (seen.push e.born) c)
   pure (.tuple #[.bool true,e.key,e.val])
  |some none=>pure (.tuple #[.bool false])
  |none=>stuck "Next: no such candidate") H kk
 generalize leftOf a seen=L at hmem h0 h1⊢
 have e1:L.filter (fun x=>decide (x.born<since))=L:=Array.filter_eq_self.2 (fun x hx=>by simpa using hmem x (by simpa using hx))
 have e2:L.filter (fun x=>decide (x.born≥since))= #[]:=by
  rw[Array.filter_eq_empty_iff]
  intro x hx
  have:=hmem x (by simpa using hx)
  simp
  omega
 simp only[e1,e2,Array.append_empty]
 by_cases hz:L.size=0
 ·have:L= #[]:=Array.eq_empty_of_size_eq_zero hz
  subst this
  simp [choose,runS,ze,Question.forced,zg]
  exact h0 rfl
 ·have hne:L.isEmpty=false:=by simp [Array.isEmpty,hz]
  simp only[hne,Bool.false_eq_true,if_false,Array.empty_append,Array.size_map]
  have key: ∀j,j<L.size→runS false P G (match (L.map some)[j]? with
    |some (some e)=>do
     setObj b (.mapIter (some m) since (seen.push e.born) c)
     pure (.tuple #[.bool true,e.key,e.val])
    |some none=>pure (.tuple #[.bool false])
    |none=>stuck "Next: no such candidate") H kk:=fun j hj=>by
   rw[Array.getElem?_map,Array.getElem?_eq_getElem hj]
   simp only[Option.map_some,setObj,runS,ze,hb,zg2,zg]
   exact⟨trivial,trivial,h1 L[j] (by simp)⟩
  simp only[choose,ze,runS]
  split
  ·exact key 0 (by omega)
  ·exact⟨trivial,fun t=>key _ (Nat.mod_lt _ (by omega))⟩
def zpc (H:zb) (v:Value) (k:Value→Prop) (_:Tok k:= .mk):Prop:=
 ∃b m since seen c a e,v= .pointer (some ⟨b,0,none⟩)∧zq H b=some (zg2 m since (Array.push seen e.born) c)∧zq H m=some (zmS a c)∧e∈a.toList∧(a.toList.map (·.born)).Nodup∧k (.tuple #[e.key,e.val])
theorem zmh {P:Program} {G:za} {H:zb} {v:Value} {kk:Value→zb→Prop} (h:zpc H v fun v=>kk v H):zO P G (Instr.entry v) H kk:=by
 obtain⟨b,m,since,seen,c,a,e,rfl,hb,hm,he,hn,h⟩:=h
 intro E w hw
 have hgb:=hw.none hb
 have hgm:=hw.none hm
 have hf:a.find? (·.born==e.born)=some e:=by rw[←Array.find?_toList];exact find_born e a.toList hn he
 refine zO.of (P:=P) (G:=G) ?_ w hw
 unfold Instr.entry
 simp only[ze,zg,getObj,runS,hgb,hb,zg2]
 refine⟨trivial,fun o ho=>?_⟩
 subst ho
 simp only[Array.back?_push,ze,zg,getObj,runS,hgm,hm,zmS]
 refine⟨trivial,fun o ho=>?_⟩
 subst ho
 simp only[bne_self_eq_false,Bool.false_eq_true,if_false,ze,zg,hf]
 exact h
end Go.V
namespace Go.V
variable {E:Env}
def PLe (G G':za):Prop:= ∀b o,G b=some o→G' b=some o
theorem PLe.refl (G:za):PLe G G:=fun _ _ h=>h
theorem PLe.trans {G G' G'':za} (h:PLe G G') (h':PLe G' G''):PLe G G'':=fun b o hb=>h' b o (h b o hb)
def Callee (P:Program) (f:FuncId):Prop:= ∃fn c,P.funcs[f]? =some fn∧fn.body=some c∧(fn.name== "runtime.NumGoroutine")=false
def zk7 (P:Program) (f:FuncId) (args:List Value) (w:World) (Q:Value→World→Prop):Prop:=
 (Callee P f∧Calls P f args.toArray w fun e w'=> ∃v,e= .returned v∧Q v w')∨ ∃v w',(callFunc f args.toArray).run P w= .ok (.value v) w'∧Q v w'
theorem zk7.mono {P:Program} {f:FuncId} {args:List Value} {w:World} {Q Q':Value→World→Prop} (h:zk7 P f args w Q) (hq: ∀v w',Q v w'→Q' v w'):zk7 P f args w Q':=by
 rcases h with ⟨h1,h2⟩| ⟨v,w',h1,h2⟩
 ·exact .inl ⟨h1,h2.mono fun _ _ ⟨v,e,h⟩=>⟨v,e,hq v _ h⟩⟩
 ·exact .inr ⟨v,w',h1,hq v w' h2⟩
theorem zk7.calls {P:Program} {f:FuncId} {args:List Value} {w:World} {Q:Value→World→Prop} (hc:Callee P f) (h:zk7 P f args w Q):Calls P f args.toArray w fun e w'=> ∃v,e= .returned v∧Q v w':=by
 rcases h with ⟨_,h2⟩| ⟨v,w',h1,h2⟩
 ·exact h2
 ·obtain⟨fn,c,hfn,hbody,hname⟩:=hc
  have hname': ¬fn.name= "runtime.NumGoroutine" :=by simpa using hname
  have hr:(callFunc f args.toArray).run P w= .ok (.enter f args.toArray) w:=by simp [callFunc,hfn,hname',hbody]
  rw[hr] at h1
  cases h1
def FnT (P:Program) (f:FuncId) (args:List Value) (G:za) (H:zb) (R:Value→za→zb→Prop) (_:Tok R:= .mk):Prop:=
 ∀ ⦃E:Env⦄ w,HeapOk E G H w→zk7 P f args w fun v w'=> ∃G' H',PLe G G'∧HeapOk E G' H' w'∧R v G' H'
theorem FnT.mono {P:Program} {f:FuncId} {args:List Value} {G:za} {H:zb} {R R':Value→za→zb→Prop} (h:FnT P f args G H R)
  (hr: ∀v G' H',PLe G G'→Sep G' (zk H')→R v G' H'→R' v G' H'):FnT P f args G H R':=
 fun _ w hw=>(h w hw).mono fun v _ ⟨G',H',h1,h2,h3⟩=>⟨G',H',h1,h2,hr v G' H' h1 h2.sep h3⟩
theorem FnT.own {P:Program} {f:FuncId} {args:List Value} {G:za} {H:zb} {R:Value→za→zb→Prop} (hc:Callee P f)
  (h: ∀ ⦃E:Env⦄ w,HeapOk E G H w→Calls P f args.toArray w fun e w'=> ∃v G' H',e= .returned v∧PLe G G'∧HeapOk E G' H' w'∧R v G' H'):FnT P f args G H R:=
 fun _ w hw=> .inl ⟨hc,(h w hw).mono fun _ _ ⟨v,G',H',e,h1,h2,h3⟩=>⟨v,e,G',H',h1,h2,h3⟩⟩
theorem FnT.calls {P:Program} {f:FuncId} {args:List Value} {G:za} {H:zb} {R:Value→za→zb→Prop} (hc:Callee P f) (h:FnT P f args G H R) {w:World} (hw:HeapOk E G H w):
  Calls P f args.toArray w fun e w'=> ∃v G' H',e= .returned v∧PLe G G'∧HeapOk E G' H' w'∧R v G' H':=
 ((h w hw).calls hc).mono fun _ _ ⟨v,e,G',H',h1,h2,h3⟩=>⟨v,G',H',e,h1,h2,h3⟩
theorem FnT.ext {P:Program} {f:FuncId} {args:List Value} {G:za} {H:zb} {R:Value→za→zb→Prop} {v:Value} (h: ∀ ⦃E:Env⦄ w,HeapOk E G H w→(callFunc f args.toArray).run P w= .ok (.value v) w) (hR:R v G H):FnT P f args G H R:=
 fun _ w hw=> .inr ⟨v,w,h w hw,G,H,PLe.refl _,hw,hR⟩
def evK (l:Fr) (xs:List Operand) (k:List Value→Prop) (_:Tok k:= .mk):Prop:=
 match xs with
 | []=>k []
 |x::xs=>zA (ev l x) fun v=>evK l xs fun vs=>k (v::vs)
theorem zvP (l:Fr) (k:List Value→Prop):evK l [] k=k []:=rfl
theorem ztM (l:Fr) (x:Operand) (xs:List Operand) (k:List Value→Prop):evK l (x::xs) k=zA (ev l x) fun v=>evK l xs fun vs=>k (v::vs):=rfl
def zjl (l:Fr) (xs:List (Nat×Operand)) (k:List (Nat×Value)→Prop) (_:Tok k:= .mk):Prop:=
 match xs with
 | []=>k []
 |x::xs=>zA (ev l x.2) fun v=>zjl l xs fun vs=>k ((x.1,v)::vs)
theorem ztN (l:Fr) (k:List (Nat×Value)→Prop):zjl l [] k=k []:=rfl
theorem zrB (l:Fr) (i:Nat) (x:Operand) (xs:List (Nat×Operand)) (k:List (Nat×Value)→Prop):zjl l ((i,x)::xs) k=zA (ev l x) fun v=>zjl l xs fun vs=>k ((i,v)::vs):=rfl
def evO (l:Fr) (x:Option Operand) (k:Option Value→Prop) (_:Tok k:= .mk):Prop:=
 match x with
 |none=>k none
 |some x=>zA (ev l x) fun v=>k (some v)
theorem ztO (l:Fr) (k:Option Value→Prop):evO l none k=k none:=rfl
theorem ztP (l:Fr) (x:Operand) (k:Option Value→Prop):evO l (some x) k=zA (ev l x) fun v=>k (some v):=rfl
section evs
variable {sz:Nat} {G:za} {l:Fr} {H:zb} {a:Act} {w:World} (h:Sim E sz G l H a w)
include h
theorem zu {x:Operand} {k:Value→Prop} (hk:zA (ev l x) k):k (a.eval x):=by
 unfold zA at hk
 split at hk
 ·rename_i v hv;rw[h.ev hv];exact hk
 ·exact hk.elim
theorem zgG {x:Option Operand} {k:Option Value→Prop} (hk:evO l x k):k (x.map a.eval):=by
 cases x with
 |none=>exact hk
 |some x=>exact zu h hk
end evs
theorem zdX {sz:Nat} {G:za} {l:Fr} {H:zb} {a:Act} {w:World} (h:Sim E sz G l H a w): ∀ {xs:List Operand} {k:List Value→Prop},evK l xs k→k (xs.map a.eval)
 | [],k,hk=>hk
 |x::xs,k,hk=>by
  have h1:=zu h hk
  exact zdX (xs:=xs) (k:=fun vs=>k (a.eval x::vs)) h h1
theorem ziP {sz:Nat} {G:za} {l:Fr} {H:zb} {a:Act} {w:World} (h:Sim E sz G l H a w): ∀ {xs:List (Nat×Operand)} {k:List (Nat×Value)→Prop},zjl l xs k→k (xs.map fun p=>(p.1,a.eval p.2))
 | [],k,hk=>hk
 |x::xs,k,hk=>by
  have h1:=zu h hk
  exact ziP (xs:=xs) (k:=fun vs=>k ((x.1,a.eval x.2)::vs)) h h1
def ziQ (t:Bool) (a b:Value):Value:=
 match a,b with
 | .bool x, .bool y=> .bool (if t then x else y)
 |a,b=>if t then a else b
theorem zg3 (t:Bool) (a b:Value):ziQ t a b=if t then a else b:=by
 unfold ziQ;split
 ·split <;> rfl
 ·rfl
theorem zpZ (a b:Value):ziQ true a b=a:=by rw[zg3];rfl
theorem zod (a b:Value):ziQ false a b=b:=by rw[zg3];rfl
theorem zp0 (t x y:Bool):ziQ t (.bool x) (.bool y)= .bool (if t then x else y):=rfl
def zmy (c a b:Value) (k:Value→Prop) (_:Tok k:= .mk):Prop:=
 match c with
 | .bool t=>k (ziQ t a b)
 |_=>False
def zk8 (v:Value) (k:Value→Prop) (_:Tok k:= .mk):Prop:=
 match v with
 | .pointer (some _)=>k v
 | .func (.func _) _ _=>k v
 | .iface .. =>k v
 |_=>False
def ziR (P:Program) (fv:Value) (vs:List Value) (G:za) (H:zb) (k:Value→za→zb→Prop) (_:Tok k:= .mk):Prop:=
 match fv with
 | .func (.func f) first caps=>FnT P f (first.toList++vs++caps.toList) G H k
 |_=>False
def zkb (T:Tys) (G:za) (H:zb) (t:TypeId) (d s:Value) (k:Value→zb→Prop) (_:Tok k:= .mk):Prop:=
 match (T t).k,d,s with
 | .slice e, .slice (some ⟨b,o,none⟩) n _, .slice a n' _=>(T e).k≠ .none∧rdSl G H a (min n' n * (T e).size) fun cs=>zda H b o cs fun H'=>k (.int .i64 (min n' n:Nat)) H'
 |_,_,_=>False
theorem zmU {P:Program} {T:Tys} (hT:zM P T) {G:za} {H:zb} {t u ty:TypeId} {d s:Value} {kk:Value→zb→Prop} (h:zkb T G H t d s kk):
  runS false P G (Builtin.copy_ #[t,u] ty #[d,s]) H kk:=by
 unfold zkb at h
 split at h
 ·rename_i e b o n c a n' c' hf
  obtain⟨hk,h⟩:=h
  obtain⟨d,hd,hfit⟩:=hT.und hf (by simp)
  simp only[TK.fits] at hfit
  subst hfit
  obtain⟨i,z,hi,hs,_⟩:=hT.info hk
  have hr:runS false P G (Builtin.firstCells i.size (Nat.min n' n) (.slice a n' c')) H fun new H'=>runS false P G (storeCells ⟨b,o,none⟩ new.toList) H' fun _ H''=>kk (.int .i64 (min n' n:Nat)) H'':=by
   rw[hs]
   unfold rdSl at h
   split at h
   ·rename_i b' o'
    refine zbF ?_
    obtain⟨cs,h1,h2,h3⟩:=zfu h
    refine h3 _ ?_
    exact zbU cs 0 h1
   ·have h0:Nat.min n' n * (T e).size=0:=h.1
    have h1:runS false P G (storeCells ⟨b,o,none⟩ ([]:List Value)) H fun _ H''=>kk (.int .i64 (min n' n:Nat)) H'':=zbU [] 0 h.2
    cases a with
    |none=>exact h1
    |some a=>
     simp only[Builtin.firstCells,h0]
     exact h1
  simp [Builtin.copy_,ze,zh hd,zae hi,zg,zdD,Builtin.lenOf,goInt] at hr⊢
  exact hr
 ·exact h.elim
def zp1 (T:Tys) (H:zb) (t:TypeId) (x:Value) (k:Value→Prop) (_:Tok k:= .mk):Prop:=
 match x with
 | .map (some r)=>match (T t).k with
  | .map .. =>zg1 (zq H r) k
  |_=>False
 |x=>zmu T t x k
def zg4 (T:Tys) (G:za) (H:zb) (b:Builtin) (ts:List TypeId) (vs:List Value) (k:Value→zb→Prop) (_:Tok k:= .mk):Prop:=
 match b,ts,vs with
 | .len,[t],[x]=>zp1 T H t x fun v=>k v H
 | .delete,[t,_],[m,key]=>zg0 T H t m key fun H'=>k (.tuple #[]) H'
 | .append,[t,u],[s,x]=>zgU T G H t u s x k
 | .min,_,vs=>zmw vs fun v=>k v H
 | .max,_,vs=>zmx vs fun v=>k v H
 | .copy,[t,_],[d,s]=>zkb T G H t d s k
 | .cap,[t],[x]=>zmv T t x fun v=>k v H
 |_,_,_=>False
def zai (P:Program) (T:Tys) (op:Op) (G:za) (l:Fr) (H:zb) (k:Value→za→zb→Prop) (_:Tok k:= .mk):Prop:=
 match op with
 | .move x| .assign x=>zA (ev l x) fun v=>k v G H
 | .pick c a b=>zA (ev l c) fun cv=>zA (ev l a) fun av=>zA (ev l b) fun bv=>zmy cv av bv fun v=>k v G H
 | .alloc e=>(T e).k≠ .none∧zcR G (zk H) fun b=>k (.pointer (some ⟨b,0,none⟩)) G ((b, .cells (T e).zero [] e)::H)
 | .box e x=>zA (ev l x) fun v=>zcR G (zk H) fun b=>k (.pointer (some ⟨b,0,none⟩)) G ((b, .cells (zck v) [] e)::H)
 | .build t parts=>zjl l parts.toList fun ps=>zfl T t ps fun v=>k v G H
 | .buildSlice t n parts=>zjl l parts.toList fun ps=>zcS T t n ps fun e cs=>zcR G (zk H) fun b=>k (.slice (some ⟨b,0,none⟩) n n) G ((b, .cells cs [] e)::H)
 | .load t x=>zA (ev l x) fun v=>zdV T G H t v fun v=>k v G H
 | .store t x y=>zA (ev l x) fun av=>zA (ev l y) fun v=>ziK T H t av v fun H'=>k undef G H'
 | .nilCheck x=>zA (ev l x) fun v=>zk8 v fun v=>k v G H
 | .binOp op t x y _=>zA (ev l x) fun xv=>zA (ev l y) fun yv=>zj5 T op t xv yv fun v=>k v G H
 | .unOp op _ x=>zA (ev l x) fun v=>zpS op v fun v=>k v G H
 | .convert s d x=>zA (ev l x) fun v=>zhY T G H s d v fun v H'=>k v G H'
 | .makeFunc fn first caps=>evK l first.toList fun fs=>evK l caps.toList fun cs=>k (.func fn fs.toArray cs.toArray) G H
 | .makeMap t none=>zcR G (zk H) fun b=>k (.map (some b)) G ((b, .map [])::H)
 | .makeMap t (some r)=>zA (ev l r) fun _=>False
 | .lookup t x i ok=>zA (ev l x) fun m=>zA (ev l i) fun key=>zgZ T H t m key ok fun v=>k v G H
 | .mapUpdate t x i y=>zA (ev l x) fun m=>zA (ev l i) fun key=>zA (ev l y) fun v=>zdn T H t m key v fun H'=>k undef G H'
 | .insert t x i y=>zA (ev l x) fun m=>zA (ev l i) fun key=>zA (ev l y) fun v=>zdn T H t m key v fun H'=>k undef G H'
 | .makeSlice t n c=>zA (ev l n) fun nv=>zA (ev l c) fun cv=>zey T G H t nv cv fun v H'=>k v G H'
 | .slice t x lo hi mx=>zA (ev l x) fun xv=>evO l lo fun lv=>evO l hi fun hv=>evO l mx fun mv=>ziN T t xv lv hv mv fun v=>k v G H
 | .fieldAddr t x f=>zA (ev l x) fun v=>ziL T t v f fun v=>k v G H
 | .field t x f=>zA (ev l x) fun v=>zgS T t v f fun v=>k v G H
 | .indexAddr t x i=>zA (ev l x) fun xv=>zA (ev l i) fun iv=>zex T t xv iv fun v=>k v G H
 | .index t x i=>zA (ev l x) fun xv=>zA (ev l i) fun iv=>ziM T t xv iv fun v=>k v G H
 | .extract x i=>zA (ev l x) fun v=>zfW v i fun v=>k v G H
 | .range t x=>zA (ev l x) fun v=>ziO T G H t v fun v H'=>k v G H'
 | .next x isS=>zA (ev l x) fun v=>isS=false∧zrA H v fun v H'=>k v G H'
 | .entry x=>zA (ev l x) fun v=>zpc H v fun v=>k v G H
 | .call c=>match c.callee with
  | .value f=>zA (ev l f) fun fv=>evK l c.args.toList fun vs=>ziR P fv vs G H k
  | .builtin b=>evK l c.args.toList fun vs=>zg4 T G H b c.argTypes.toList vs fun v H'=>k v G H'
  | .invoke .. =>False
 |_=>False
theorem zO.wp {P:Program} {G:za} {H:zb} {s:Sem Value} {kk:Value→zb→Prop} (h:zO P G s H kk) {o:Oper} {a:Act} {w:World} (hw:HeapOk E G H w)
  {next:Act→World→Prop} {Q:Exit→Act→World→Prop} (he:execOp a.eval o=(do pure (.value (←s)))) (hk: ∀v H' w',HeapOk E G H' w'→kk v H'→next (a.put o.dst v) w'):o.wp P a w next Q:=by
 obtain⟨v,w',H',h1,h2,h3⟩:=h w hw
 unfold Oper.wp
 rw[he,Sem.run_bind,h1]
 exact hk v H' w' h2 h3
theorem zO.wpU {P:Program} {G:za} {H:zb} {s:Sem Unit} {kk:Unit→zb→Prop} (h:zO P G s H kk) {o:Oper} {a:Act} {w:World} (hw:HeapOk E G H w)
  {next:Act→World→Prop} {Q:Exit→Act→World→Prop} (he:execOp a.eval o=(do s;pure .skip)) (hk: ∀H' w',HeapOk E G H' w'→kk () H'→next (a.put o.dst undef) w'):o.wp P a w next Q:=by
 obtain⟨v,w',H',h1,h2,h3⟩:=h w hw
 unfold Oper.wp
 rw[he,Sem.run_bind,h1]
 exact hk H' w' h2 h3
theorem zi8 {q:Bool} {P:Program} {T:Tys} (hT:zM P T) {G:za} {H:zb} {op:BinOp} {t:TypeId} {x y:Operand} {a b:Value} {k:Value→Prop} (h:zj5 T op t a b k) (K:Unit→zb→Prop):runS q P G (eqGuard op t x y a b) H K=K () H:=by
 unfold eqGuard
 cases a <;> cases b <;> try first|exact h.elim| (cases op <;> rfl)
 rename_i xs ys
 have key: ∀other:Sem Unit,(T t).eq=true→(T t).k≠ .none→runS q P G (do
   if !(←program).eqGuardType (←program).depth t then return
   other:Sem Unit) H K=K () H:=fun other he hk=>by
  obtain⟨d,hd,_,hq⟩:=hT.eqd hk he
  simp only[eqB,Bool.and_eq_true,Bool.not_eq_true'] at hq
  unfold program
  simp only[ze,runS,hq.1,zg]
  rfl
 have kn: ∀b,eqT T 9 t (.agg xs) (.agg ys)=some b→(T t).k≠ .none:=fun b hb e=>by simp [eqT,e] at hb
 cases op <;> try exact h.elim
 ·obtain⟨he,h⟩:=h
  unfold eqK at h
  split at h
  ·rename_i b hb;exact key _ he (kn b hb)
  ·exact h.elim
 ·obtain⟨he,h⟩:=h
  unfold eqK at h
  split at h
  ·rename_i b hb;exact key _ he (kn b hb)
  ·exact h.elim
theorem zgl {P:Program} {T:Tys} (hT:zM P T) {o:Oper} {sz:Nat} {G:za} {l:Fr} {H:zb} {a:Act} {w:World} {k:Value→za→zb→Prop}
  {next:Act→World→Prop} {Q:Exit→Act→World→Prop} (h:zai P T o.op G l H k) (hs:Sim E sz G l H a w)
  (hk: ∀v G' H' w',PLe G G'→HeapOk E G' H' w'→k v G' H'→next (a.put o.dst v) w'):o.wp P a w next Q:=by
 obtain⟨dst,op,ty,pos,after,guard⟩:=o
 have hw:=hs.heap
 have val: ∀ (s:Sem Value) {kk:Value→zb→Prop},zO P G s H kk→execOp a.eval ⟨dst,op,ty,pos,after,guard⟩=(do pure (.value (←s)))→(∀v H',kk v H'→k v G H')→
   Oper.wp P ⟨dst,op,ty,pos,after,guard⟩ a w next Q:=fun s kk hd he hkk=>hd.wp hw he fun v H' w' h1 h2=>hk v G H' w' (PLe.refl _) h1 (hkk v H' h2)
 cases op <;> simp only[zai] at h <;> try exact h.elim
 case move x=>
  have h1:=zu hs h
  exact val (pure (a.eval x)) (kk:=fun v H'=>k v G H') (zO.of (by rw[zg];exact h1)) rfl (fun _ _ h=>h)
 case assign x=>
  have h1:=zu hs h
  exact val (pure (a.eval x)) (kk:=fun v H'=>k v G H') (zO.of (by rw[zg];exact h1)) rfl (fun _ _ h=>h)
 case pick c x y=>
  have h1:=zu hs (zu hs (zu hs h))
  unfold zmy at h1
  split at h1
  ·rename_i t hc
   refine val (pure (if t then a.eval x else a.eval y)) (kk:=fun v H'=>k v G H') (zO.of (by rw[zg,←zg3];exact h1)) ?_ (fun _ _ h=>h)
   simp only[execOp,hc,asBool]
   cases t <;> rfl
  ·exact h1.elim
 case alloc e=>
  obtain⟨hke,h⟩:=h
  obtain⟨i,z,hi,hsz,_,hz,hzc⟩:=hT.info hke
  refine val _ (kk:=fun v H'=>k v G H') (zO.of ?_) rfl (fun _ _ h=>h)
  simp only[Instr.alloc,ze,zaT hi hz,newVar,newRow,newObj,runS,zg]
  refine⟨by trivial,by simp [zbc],fun b hb=>?_⟩
  simp only[zdT,if_true,hzc]
  exact h b hb
 case box e x=>
  have h1:=zu hs h
  refine val _ (kk:=fun v H'=>k v G H') (zO.of ?_) rfl (fun _ _ h=>h)
  simp only[Instr.box,ze,newVar,newRow,newObj,runS,zg]
  refine⟨by trivial,by simp [zbc],fun b hb=>?_⟩
  simp only[zdT,if_true,zeL]
  exact h1 b hb
 case build t parts=>
  have h1:=ziP hs h
  have h2:zfl T t (parts.map fun p=>(p.1,a.eval p.2)).toList fun v=>k v G H:=by rw[Array.toList_map];exact h1
  exact val (Instr.build t (parts.map fun p=>(p.1,a.eval p.2))) (kk:=fun v H'=>k v G H') (zO.of (zhP hT h2)) (by simp only[execOp]) (fun _ _ h=>h)
 case buildSlice t n parts=>
  have h1:=ziP hs h
  have h2:zcS T t n (parts.map fun p=>(p.1,a.eval p.2)).toList fun e cs=>zcR G (zk H) fun b=>k (.slice (some ⟨b,0,none⟩) n n) G ((b, .cells cs [] e)::H):=by rw[Array.toList_map];exact h1
  exact val (Instr.buildSlice t n (parts.map fun p=>(p.1,a.eval p.2))) (kk:=fun v H'=>k v G H') (zO.of (zhZ hT (kk:=fun v H'=>k v G H') h2)) (by simp only[execOp]) (fun _ _ h=>h)
 case load t x=>exact val _ (kk:=fun v H'=>k v G H') (zO.of (zfs hT (zu hs h))) rfl (fun _ _ h=>h)
 case store t x y=>
  have h1:=zu hs (zu hs h)
  exact(zO.of (zmd hT (kk:=fun _ H'=>k undef G H') h1)).wpU hw rfl fun H' w' h2 h3=>hk undef G H' w' (PLe.refl _) h2 h3
 case nilCheck x=>
  have h1:=zu hs h
  refine val (pure (a.eval x)) (kk:=fun v H'=>k v G H') (zO.of (by rw[zg];unfold zk8 at h1;split at h1 <;> first|exact h1|exact h1.elim)) ?_ (fun _ _ h=>h)
  unfold zk8 at h1
  simp only[execOp]
  split at h1
  ·rename_i v p hp;rw[hp];rfl
  ·rename_i v f fs cs hp;rw[hp];rfl
  ·rename_i v p hp;rw[hp];rfl
  ·exact h1.elim
 case binOp op t x y u=>
  have h1:=zu hs (zu hs h)
  refine val (do eqGuard op t x y (a.eval x) (a.eval y);binOp op t (a.eval x) (a.eval y)) (kk:=fun v H'=>k v G H') (zO.of ?_) ?_ (fun _ _ h=>h)
  ·rw[ze,zi8 hT h1];exact zi1 hT h1
  ·simp only[execOp]
 case unOp op t x=>exact val _ (kk:=fun v H'=>k v G H') (zO.of (zj6 (zu hs h))) rfl (fun _ _ h=>h)
 case convert s d x=>exact val _ (kk:=fun v H'=>k v G H') (zmN hT (zu hs h)) rfl (fun _ _ h=>h)
 case fieldAddr t x f=>exact val _ (kk:=fun v H'=>k v G H') (zO.of (zhM hT (zu hs h))) rfl (fun _ _ h=>h)
 case field t x f=>exact val _ (kk:=fun v H'=>k v G H') (zO.of (zgE hT (zu hs h))) rfl (fun _ _ h=>h)
 case indexAddr t x i=>exact val _ (kk:=fun v H'=>k v G H') (zO.of (ze5 hT (zu hs (zu hs h)))) rfl (fun _ _ h=>h)
 case index t x i=>exact val _ (kk:=fun v H'=>k v G H') (zO.of (zhN hT (zu hs (zu hs h)))) rfl (fun _ _ h=>h)
 case extract x i=>exact val _ (kk:=fun v H'=>k v G H') (zO.of (zfX (zu hs h))) rfl (fun _ _ h=>h)
 case makeFunc fn first caps=>
  have h1:=zdX hs (zdX hs h)
  refine val _ (kk:=fun v H'=>k v G H') (zO.of ?_) rfl (fun _ _ h=>h)
  simp only[Instr.makeFunc,zg]
  have e1:(first.toList.map a.eval).toArray=first.map a.eval:=by apply Array.ext';simp
  have e2:(caps.toList.map a.eval).toArray=caps.map a.eval:=by apply Array.ext';simp
  rw[e1,e2] at h1;exact h1
 case makeMap t r=>
  cases r with
  |none=>exact val _ (kk:=fun v H'=>k v G H') (zka hT (t:=t) h) rfl (fun _ _ h=>h)
  |some r=>exact(zu hs h).elim
 case lookup t x i ok=>exact val _ (kk:=fun v H'=>k v G H') (zk4 hT (zu hs (zu hs h))) rfl (fun _ _ h=>h)
 case mapUpdate t x i y=>exact(ze6 hT (kk:=fun _ H'=>k undef G H') (zu hs (zu hs (zu hs h)))).wpU hw rfl fun H' w' h2 h3=>hk undef G H' w' (PLe.refl _) h2 h3
 case insert t x i y=>exact(ze6 hT (kk:=fun _ H'=>k undef G H') (zu hs (zu hs (zu hs h)))).wpU hw rfl fun H' w' h2 h3=>hk undef G H' w' (PLe.refl _) h2 h3
 case makeSlice t n c=>exact val _ (kk:=fun v H'=>k v G H') (zi0 hT (zu hs (zu hs h))) rfl (fun _ _ h=>h)
 case slice t x lo hi mx=>exact val _ (kk:=fun v H'=>k v G H') (zO.of (zhO hT (zgG hs (zgG hs (zgG hs (zu hs h)))))) rfl (fun _ _ h=>h)
 case range t x=>exact val _ (kk:=fun v H'=>k v G H') (zmg hT (zu hs h)) rfl (fun _ _ h=>h)
 case next x isS=>
  obtain⟨rfl,h1⟩:=zu hs h
  exact val _ (kk:=fun v H'=>k v G H') (zmT h1) rfl (fun _ _ h=>h)
 case entry x=>exact val _ (kk:=fun v H'=>k v G H') (zmh (zu hs h)) rfl (fun _ _ h=>h)
 case call c=>
  obtain⟨callee,args,ats⟩:=c
  cases callee with
  |invoke r m=>exact h.elim
  |value f=>
   have h1:=zdX hs (zu hs h)
   unfold ziR at h1
   split at h1
   ·rename_i fv g first caps hf
    have hgo:=h1 w hw
    have he:execOp a.eval ⟨dst, .call {callee:= .value f,args:=args,argTypes:=ats},ty,pos,after,guard⟩=callFunc g (first++args.map a.eval++caps):=by
     simp only[execOp,resolve,hf,Deferred.ofValue,pure_bind,invoke]
    unfold Oper.wp
    rw[he]
    have hargs:(first.toList++args.toList.map a.eval++caps.toList).toArray=first++args.map a.eval++caps:=by apply Array.ext';simp
    rcases hgo with ⟨⟨fn,c,hfn,hbody,hname⟩,hcall⟩| ⟨v,w',hrun,G',H',h2,h3,h4⟩
    ·have hr:(callFunc g (first++args.map a.eval++caps)).run P w= .ok (.enter g (first++args.map a.eval++caps)) w:=by
      have hname': ¬fn.name= "runtime.NumGoroutine" :=by simpa using hname
      simp [callFunc,hfn,hname',hbody]
     rw[hr,Oper.upon_enter]
     rw[hargs] at hcall
     refine hcall.mono fun e w' ⟨v,he,G',H',h2,h3,h4⟩=>?_
     subst he
     exact hk v G' H' w' h2 h3 h4
    ·rw[hargs] at hrun
     rw[hrun,Oper.upon_value]
     exact hk v G' H' w' h2 h3 h4
   ·exact h1.elim
  |builtin b=>
   have h1:=zdX hs h
   unfold zg4 at h1
   have hex: ∀ (s:Sem Value),builtin b ats ty (args.map fun| .const _=>true|_=>false) (args.map a.eval)=(do pure (.value (←s)))→
     execOp a.eval ⟨dst, .call {callee:= .builtin b,args:=args,argTypes:=ats},ty,pos,after,guard⟩=(do pure (.value (←s))):=fun s hb=>by
    simp only[execOp,resolve,pure_bind,invoke]
    exact hb
   have harr: ∀vs:List Value,args.toList.map a.eval=vs→args.map a.eval=vs.toArray:=fun vs hv=>by apply Array.ext';simpa using hv
   have htys: ∀ts:List TypeId,ats.toList=ts→ats=ts.toArray:=fun ts hv=>by apply Array.ext';simpa using hv
   split at h1
   ·rename_i t x ht hx
    refine val (Builtin.len_ #[t] ty #[x]) (kk:=fun v H'=>k v G H') ?_ (hex _ ?_) (fun _ _ h=>h)
    ·unfold zp1 at h1
     split at h1
     ·split at h1
      ·rename_i hmk;exact zk6 hT hmk h1
      ·exact h1.elim
     ·exact zO.of (zi4 hT h1)
    ·rw[harr _ hx,htys _ ht]
     exact rfl
   ·rename_i t u m key ht hx
    refine val (Builtin.delete_ #[t,u] ty #[m,key]) (kk:=fun v H'=>k v G H') (zk5 hT h1) (hex _ ?_) (fun _ _ h=>h)
    rw[harr _ hx,htys _ ht]
    exact rfl
   ·rename_i t u s x ht hx
    refine val (Builtin.append_ #[t,u] ty #[s,x]) (kk:=fun v H'=>k v G H') (zk1 hT (ty:=ty) h1) (hex _ ?_) (fun _ _ h=>h)
    rw[harr _ hx,htys _ ht]
    exact rfl
   ·refine val (Builtin.min_ ats ty (args.toList.map a.eval).toArray) (kk:=fun v H'=>k v G H') (zO.of (zi5 (ts:=ats) (ty:=ty) h1)) (hex _ ?_) (fun _ _ h=>h)
    rw[harr _ rfl]
    exact rfl
   ·refine val (Builtin.max_ ats ty (args.toList.map a.eval).toArray) (kk:=fun v H'=>k v G H') (zO.of (zi6 (ts:=ats) (ty:=ty) h1)) (hex _ ?_) (fun _ _ h=>h)
    rw[harr _ rfl]
    exact rfl
   ·rename_i t u d s ht hx
    refine val (Builtin.copy_ #[t,u] ty #[d,s]) (kk:=fun v H'=>k v G H') (zO.of (zmU hT (u:=u) (ty:=ty) h1)) (hex _ ?_) (fun _ _ h=>h)
    rw[harr _ hx,htys _ ht]
    exact rfl
   ·rename_i t x ht hx
    refine val (Builtin.cap_ #[t] ty #[x]) (kk:=fun v H'=>k v G H') (zO.of (zn9 hT (ty:=ty) h1)) (hex _ ?_) (fun _ _ h=>h)
    rw[harr _ hx,htys _ ht]
    exact rfl
   ·exact h1.elim
end Go.V
