/- A part of the proof, joined of several texts: the verification layer, contracts of functions, plain law. -/
import Derived.Test.YtomdbjfdbkejoaaGreatDoorW1
import Derived.Laws.IdiomRangeMap
set_option maxHeartbeats 64000000
set_option linter.unusedSimpArgs false
set_option linter.unusedVariables false
set_option linter.unusedSectionVars false
namespace Go.V
variable {E:Env}
def zgD (k:IntKind):List Value→Option (List Int)
 | []=>some []
 | .int a n::vs=>if a=k then(zgD k vs).map (n:: ·) else none
 |_::_=>none
theorem zem {k:IntKind}: ∀ {vs:List Value} {ns:List Int},zgD k vs=some ns→vs=ns.map (Value.int k)
 | [],ns,h=>by cases h;rfl
 |v::vs,ns,h=>by
  cases v <;> simp only[zgD] at h <;> try(cases h;done)
  rename_i a n
  split at h
  ·rename_i e;subst e
   cases hv:zgD a vs with
   |none=>rw[hv] at h;cases h
   |some ms=>rw[hv] at h;cases h;rw[zem hv];rfl
  ·cases h
theorem zmt (k:IntKind) (ns:List Int):zgD k (ns.map (Value.int k))=some ns:=by
 induction ns with
 |nil=>rfl
 |cons n ns ih=>simp [zgD,ih]
def zbI (T:Tys) (t:TypeId) (x y:Value):Option Bool:=
 match (T t).k,x,y with
 | .bool, .bool a, .bool b=>some (a==b)
 | .int k, .int a m, .int b n=>if a=k∧b=k then some (decide (m=n)) else none
 | .string, .string a, .string b=>some (a.data.toList==b.data.toList)
 | .arr n e, .agg xs, .agg ys=>match (T e).k with
  | .int k=>if (T e).size=1 then match zgD k xs.toList,zgD k ys.toList with
   |some ms,some ns=>if ms.length=n∧ns.length=n then some (decide (ms=ns)) else none
   |_,_=>none
   else none
  |_=>none
 |_,_,_=>none
def ze7 (T:Tys) (t:TypeId) (x:Value):Prop:=zbI T t x x=some true
theorem zhD {T:Tys} {d:Nat} {e:TypeId} {k:IntKind} (he:(T e).k= .int k) (hs:(T e).size=1): ∀ (ms ns pre pre':List Int),ms.length=ns.length→pre.length=pre'.length→
  zev (List.range' pre.length ms.length) (fun i=>match zdo T e ((pre++ms).map (Value.int k)) (i * (T e).size),zdo T e ((pre'++ns).map (Value.int k)) (i * (T e).size) with
   |some u,some v=>eqT T (d+1) e u v
   |_,_=>none)=some (decide (ms=ns))
 | [],ns,pre,pre',h,_=>by
  obtain rfl:ns=[]:=List.eq_nil_of_length_eq_zero h.symm
  simp [zev]
 |m::ms,[],pre,pre',h,_=>by simp at h
 |m::ms,n::ns,pre,pre',h,hp=>by
  have ih:=zhD (d:=d) he hs ms ns (pre++[m]) (pre'++[n]) (by simpa using h) (by simp [hp])
  have hone: ∀ (cs:List Value) i,zdo T e cs (i * (T e).size)=cs[i]? :=fun cs i=>by simp only[zdo,he,hs,Nat.mul_one]
  simp only[hone] at ih⊢
  simp only[List.length_cons,List.range'_succ,zev]
  have e1:((pre++m::ms).map (Value.int k))[pre.length]? =some (.int k m):=by simp
  have e2:((pre'++n::ns).map (Value.int k))[pre.length]? =some (.int k n):=by rw[hp];simp
  have heq:eqT T (d+1) e (.int k m) (.int k n)=some (decide (m=n)):=by simp only[eqT,he,if_true]
  simp only[e1,e2,heq]
  by_cases hmn:m=n
  ·subst hmn
   simp only[decide_true]
   simp only[List.length_append,List.length_cons,List.length_nil,Nat.zero_add,List.append_assoc,List.cons_append,List.nil_append] at ih
   rw[ih];simp
  ·simp [hmn]
theorem zsN {T:Tys} {t:TypeId} {x y:Value} {b:Bool} (h:zbI T t x y=some b):eqT T 3 t x y=some b:=by
 unfold zbI at h
 split at h
 ·rename_i hk;simp only[eqT,hk];exact h
 ·rename_i hk
  simp only[eqT,hk]
  split at h
  ·rename_i e;obtain⟨rfl,rfl⟩:=e;simpa using h
  ·cases h
 ·rename_i hk;simp only[eqT,hk];exact h
 ·rename_i n e xs ys hk
  split at h
  ·rename_i k he
   split at h
   ·rename_i hs
    split at h
    ·rename_i ms ns hm hn
     split at h
     ·rename_i hl
      have:=zhD (d:=1) he hs ms ns [] [] (by omega) rfl
      simp only[List.length_nil,List.nil_append] at this
      rw[show(3 :Nat)=2+1 from rfl]
      unfold eqT
      rw[hk]
      show(if (T e).k.known then _ else none)=_
      rw[if_pos (by rw[he];rfl),←h,←this,zem hm,zem hn,hl.1]
      rfl
     ·cases h
    ·cases h
   ·cases h
  ·cases h
 ·cases h
theorem zkV {q:Bool} {P:Program} {T:Tys} (hT:zR P T) {G:za} {t:TypeId} {x y:Value} {b:Bool} (h:zbI T t x y=some b) (H:zb) (k:Bool→zb→Prop):
  runS q P G (Op.equal t x y) H k=k b H:=zix hT 3 Op.maxDepth t x y b (by decide) (zsN h) H k
theorem znR {q:Bool} {P:Program} {G:za} {α:Type} (l:List α) {f:α→Unit→Sem (ForInStep Unit)} (hf: ∀a∈l,∀ (H:zb) k,runS q P G (f a ()) H k=k (.yield ()) H) (H:zb) (k:Unit→zb→Prop):
  runS q P G (forIn l () f) H k=k () H:=by
 induction l with
 |nil=>simp [zh]
 |cons a l ih=>
  rw[List.forIn_cons,ze,hf a (List.mem_cons_self ..)]
  exact ih fun a ha=>hf a (List.mem_cons_of_mem _ ha)
theorem zlT {q:Bool} {P:Program} {T:Tys} (hT:zR P T) {G:za} {t:TypeId} {x y:Value} {b0:Bool} (h:zbI T t x y=some b0) (D:Nat) (b:Bool) (H:zb) (k:Unit→zb→Prop):
  runS q P G (Instr.checkKey b (D+1+1) t x) H k=k () H:=by
 unfold zbI at h
 split at h
 ·rename_i hk
  obtain⟨ds,hd,hf⟩:=hT.und hk (by simp)
  simp only[TK.fits] at hf;subst hf
  simp only[Instr.checkKey,ze,zi hd,zh]
 ·rename_i hk
  obtain⟨ds,hd,hf⟩:=hT.und hk (by simp)
  simp only[TK.fits] at hf;subst hf
  simp only[Instr.checkKey,ze,zi hd,zh]
 ·rename_i hk
  obtain⟨ds,hd,hf⟩:=hT.und hk (by simp)
  simp only[TK.fits] at hf;subst hf
  simp only[Instr.checkKey,ze,zi hd,zh]
 ·rename_i n e xs ys hk
  obtain⟨ds,hd,hf⟩:=hT.und hk (by simp)
  simp only[TK.fits] at hf;subst hf
  split at h
  ·rename_i k' he
   obtain⟨de,hde,hfe⟩:=hT.und he (by simp)
   simp only[TK.fits] at hfe;subst hfe
   obtain⟨i,z,hi,hsz,_⟩:=hT.info (t:=e) (by rw[he];simp)
   split at h
   ·rename_i hs
    split at h
    ·rename_i ms ns hm hn
     split at h
     ·rename_i hl
      have hxs:=zem hm
      unfold Instr.checkKey
      simp only[ze,zi hd,Std.Legacy.Range.forIn_eq_forIn_range',Std.Legacy.Range.size,Nat.sub_zero,Nat.add_sub_cancel,Nat.div_one]
      refine znR _ (fun j hj H k=>?_) H _
      simp only[ze,zam hi,hsz,hs,Nat.mul_one]
      have hj':j<n:=by simpa using hj
      have hp:zdo T e xs.toList j=some (.int k' (ms[j]'(by omega))):=by
       simp only[zdo,he]
       rw[hxs,List.getElem?_map,List.getElem?_eq_getElem (by omega)];rfl
      rw[zfh hT hp]
      simp only[Instr.checkKey,ze,zi hde,zh]
     ·cases h
    ·cases h
   ·cases h
  ·cases h
 ·cases h
theorem zd0 {q:Bool} {P:Program} {T:Tys} (hT:zR P T) {G:za} {t:TypeId} {x:Value} (h:ze7 T t x) (b:Bool) (H:zb) (k:Unit→zb→Prop):
  runS q P G (Instr.checkKey b 10000 t x) H k=k () H:=zlT hT h 9998 b H k
def zhE (T:Tys) (t:TypeId) (k:Value):List (Value×Value)→Option (Option Value)
 | []=>some none
 |e::es=>match zbI T t k e.1 with
  |some true=>some (some e.2)
  |some false=>zhE T t k es
  |none=>none
def ziC (T:Tys) (t:TypeId) (k v:Value):List (Value×Value)→Option (List (Value×Value))
 | []=>some [(k,v)]
 |e::es=>match zbI T t k e.1 with
  |some true=>some ((k,v)::es)
  |some false=>(ziC T t k v es).map (e:: ·)
  |none=>none
def znS (T:Tys) (t:TypeId) (k:Value):List (Value×Value)→Option (List (Value×Value))
 | []=>some []
 |e::es=>match zbI T t k e.1 with
  |some true=>some es
  |some false=>(znS T t k es).map (e:: ·)
  |none=>none
def zcn (T:Tys) (t:TypeId) (k:Value):List (Value×Value)→Nat→Option (Option (Nat×Value))
 | [],_=>some none
 |e::es,i=>match zbI T t k e.1 with
  |some true=>some (some (i,e.2))
  |some false=>zcn T t k es (i+1)
  |none=>none
theorem zgE {q:Bool} {P:Program} {T:Tys} (hT:zR P T) {G:za} {t:TypeId} {x:Value}: ∀ (es:List MapEntry) (i:Nat) {r},zcn T t x (es.map fun e=>(e.key,e.val)) i=some r→ ∀ (H:zb) k,
  runS q P G (Instr.findAsking t x es i) H k=k r H
 | [],i,r,h,H,k=>by cases h;rfl
 |e::es,i,r,h,H,k=>by
  simp only[List.map_cons,zcn] at h
  unfold Instr.findAsking
  rw[ze]
  split at h
  ·rename_i hk;cases h;rw[zkV hT hk];rfl
  ·rename_i hk;rw[zkV hT hk];simp only[Bool.false_eq_true,if_false];exact zgE hT es (i+1) h H k
  ·cases h
theorem zpl {P:Program} {T:Tys} (hT:zR P T) {t:TypeId} {d:TypeDesc} (hd:P.underlying t=some d) {x y:Value} {b:Bool} (h1:zbI T t x y=some b):Instr.sameNow d x y=some b∨Instr.sameNow d x y=none:=by
 unfold zbI at h1
 split at h1
 ·rename_i hk
  obtain⟨ds,hd',hf⟩:=hT.und hk (by simp)
  simp only[TK.fits] at hf;subst hf
  obtain rfl:=Option.some.inj (hd.symm.trans hd')
  exact .inl h1
 ·rename_i hk
  obtain⟨ds,hd',hf⟩:=hT.und hk (by simp)
  simp only[TK.fits] at hf;subst hf
  obtain rfl:=Option.some.inj (hd.symm.trans hd')
  split at h1
  ·rename_i e;obtain⟨rfl,rfl⟩:=e
   left
   simp only[Instr.sameNow,if_true];exact h1
  ·cases h1
 ·rename_i hk
  obtain⟨ds,hd',hf⟩:=hT.und hk (by simp)
  simp only[TK.fits] at hf;subst hf
  obtain rfl:=Option.some.inj (hd.symm.trans hd')
  left
  rw[←h1]
  simp only[Instr.sameNow,Option.some.injEq]
  rw[Bool.eq_iff_iff,MapKept.bytes_beq,beq_iff_eq]
  exact⟨fun h=>by rw[h],fun h=>ByteArray.ext (Array.ext' h)⟩
 ·rename_i hk
  obtain⟨ds,hd',hf⟩:=hT.und hk (by simp)
  simp only[TK.fits] at hf;subst hf
  obtain rfl:=Option.some.inj (hd.symm.trans hd')
  exact .inr rfl
 ·cases h1
theorem zit {P:Program} {T:Tys} (hT:zR P T) {t:TypeId} {d:TypeDesc} (hd:P.underlying t=some d) {x:Value}: ∀ (es:List MapEntry) (i:Nat) {r},zcn T t x (es.map fun e=>(e.key,e.val)) i=some r→
  ∀r',Instr.findNow d x es i=some r'→r'=r
 | [],i,r,h,r',h'=>by cases h;cases h';rfl
 |e::es,i,r,h,r',h'=>by
  simp only[List.map_cons,zcn] at h
  simp only[Instr.findNow] at h'
  cases hk:zbI T t x e.key with
  |none=>rw[hk] at h;cases h
  |some b=>
   rw[hk] at h
   rcases zpl hT hd hk with hs|hs
   ·rw[hs] at h'
    cases b with
    |true=>cases h;cases h';rfl
    |false=>exact zit hT hd es (i+1) h r' h'
   ·rw[hs] at h';cases h'
theorem zb7 {q:Bool} {P:Program} {T:Tys} (hT:zR P T) {G:za} {t:TypeId} {x:Value} (hk:ze7 T t x) {es:List MapEntry} {r} (h:zcn T t x (es.map fun e=>(e.key,e.val)) 0=some r) (H:zb) (k:Option (Nat×Value)→zb→Prop):
  runS q P G (Instr.findKey t x es) H k=k r H:=by
 have hn:(T t).k≠ .none:=by intro e;unfold ze7 zbI at hk;rw[e] at hk;cases hk
 obtain⟨d,hd,_⟩:=hT.und rfl hn
 unfold Instr.findKey
 rw[ze,zi hd]
 split
 ·rename_i r' hr'
  rw[zit hT hd es 0 h r' hr'];rfl
 ·exact zgE hT es 0 h H k
theorem zg3 {T:Tys} {t:TypeId} {k:Value}: ∀ {es:List (Value×Value)} {i:Nat} {o:Option Value},zhE T t k es=some o→ ∃r,zcn T t k es i=some r∧r.map (·.2)=o
 | [],i,o,h=>by cases h;exact⟨none,rfl,rfl⟩
 |e::es,i,o,h=>by
  simp only[zhE] at h
  simp only[zcn]
  split at h
  ·rename_i hk;cases h;exact⟨_,rfl,rfl⟩
  ·rename_i hk;exact zg3 h
  ·cases h
theorem zkW {T:Tys} {t:TypeId} {k v:Value}: ∀ {es es':List (Value×Value)} {i:Nat},ziC T t k v es=some es'→
  (∃p w,zcn T t k es i=some (some (i+p,w))∧p<es.length∧es'=es.set p (k,v)∧ ∃k0,(es[p]?).map (·.1)=some k0∧zbI T t k k0=some true)∨(zcn T t k es i=some none∧es'=es++[(k,v)])
 | [],es',i,h=>by cases h;exact .inr ⟨rfl,rfl⟩
 |e::es,es',i,h=>by
  simp only[ziC] at h
  simp only[zcn]
  split at h
  ·rename_i hk;cases h;exact .inl ⟨0,e.2,by simp [hk],by simp,by simp,e.1,by simp,hk⟩
  ·rename_i hk
   cases hp:ziC T t k v es with
   |none=>rw[hp] at h;cases h
   |some l=>
    rw[hp] at h;cases h
    rcases zkW (i:=i+1) hp with ⟨p,w,h1,h2,h3,k0,h4,h5⟩| ⟨h1,h2⟩
    ·exact .inl ⟨p+1,w,by rw[h1];congr 3;omega,by simpa using h2,by simp [h3],k0,by simpa using h4,h5⟩
    ·exact .inr ⟨h1,by simp [h2]⟩
  ·cases h
theorem zkX {T:Tys} {t:TypeId} {k:Value}: ∀ {es es':List (Value×Value)} {i:Nat},znS T t k es=some es'→
  (∃p w,zcn T t k es i=some (some (i+p,w))∧p<es.length∧es'=es.eraseIdx p)∨(zcn T t k es i=some none∧es'=es)
 | [],es',i,h=>by cases h;exact .inr ⟨rfl,rfl⟩
 |e::es,es',i,h=>by
  simp only[znS] at h
  simp only[zcn]
  split at h
  ·rename_i hk;cases h;exact .inl ⟨0,e.2,by simp [hk],by simp,by simp⟩
  ·rename_i hk
   cases hp:znS T t k es with
   |none=>rw[hp] at h;cases h
   |some l=>
    rw[hp] at h;cases h
    rcases zkX (i:=i+1) hp with ⟨p,w,h1,h2,h3⟩| ⟨h1,h2⟩
    ·exact .inl ⟨p+1,w,by rw[h1];congr 3;omega,by simpa using h2,by simp [h3]⟩
    ·exact .inr ⟨h1,by simp [h2]⟩
  ·cases h
def zf9 (r:Option Res) (k:List (Value×Value)→Prop) (_:Tok k:= .mk):Prop:=match r with|some (.map es)=>k es|_=>False
theorem zsO (es:List (Value×Value)) (k:List (Value×Value)→Prop):zf9 (some (.map es)) k=k es:=rfl
def ziD (o:Option (Option Value)) (yes:Value→Prop) (no:Prop) (_:Tok yes:= .mk) (_:Tok no:= .mk):Prop:=match o with
 |some (some v)=>yes v
 |some none=>no
 |none=>False
theorem zrb (v:Value) (yes:Value→Prop) (no:Prop):ziD (some (some v)) yes no=yes v:=rfl
theorem zsP (yes:Value→Prop) (no:Prop):ziD (some none) yes no=no:=rfl
def esK (o:Option (List (Value×Value))) (k:List (Value×Value)→Prop) (_:Tok k:= .mk):Prop:=match o with|some es=>k es|none=>False
theorem zu7 (es:List (Value×Value)) (k:List (Value×Value)→Prop):esK (some es) k=k es:=rfl
def zhF (T:Tys) (H:zb) (t:TypeId) (m key:Value) (ok:Bool) (k:Value→Prop) (_:Tok k:= .mk):Prop:=
 match (T t).k,m with
 | .map kt et, .map none=>(T et).k≠ .none∧Ob (ze7 T kt key) (k (if ok then .tuple #[zdH (T et), .bool false] else zdH (T et)))
 | .map kt et, .map (some r)=>(T et).k≠ .none∧Ob (ze7 T kt key) (zf9 (zq H r) fun es=>
   ziD (zhE T kt key es) (fun v=>k (if ok then .tuple #[v, .bool true] else v)) (k (if ok then .tuple #[zdH (T et), .bool false] else zdH (T et))))
 |_,_=>False
theorem zlU {P:Program} {T:Tys} (hT:zR P T) {G:za} {H:zb} {t:TypeId} {m key:Value} {ok:Bool} {kk:Value→zb→Prop} (h:zhF T H t m key ok fun v=>kk v H):zT P G (Instr.lookup t m key ok) H kk:=by
 unfold zhF at h
 split at h
 ·rename_i kt et hk
  obtain⟨he,hkey,h⟩:=h
  obtain⟨d,hd,hf⟩:=hT.und hk (by simp)
  simp only[TK.fits] at hf;subst hf
  obtain⟨i,hi,_,hz⟩:=hT.zero he
  refine zT.of ?_
  unfold Instr.lookup
  simp only[ze,zi hd,zh,zd0 hT hkey]
  rw[zb7 hT hkey (es:=(#[]:Array MapEntry).toList) (r:=none) rfl]
  simp only[ze,za3 hi hz,zh]
  cases ok <;> exact h
 ·rename_i kt et r hk
  obtain⟨he,hkey,h⟩:=h
  obtain⟨d,hd,hf⟩:=hT.und hk (by simp)
  simp only[TK.fits] at hf;subst hf
  obtain⟨i,hi,_,hz⟩:=hT.zero he
  intro E w hw
  unfold zf9 at h
  split at h
  ·rename_i es hes
   have hg:=hw.none hes
   refine zT.of (P:=P) (G:=G) ?_ w hw
   unfold Instr.lookup
   simp only[ze,zi hd,zh]
   simp only[getObj,runS,hg,hes]
   refine⟨trivial,fun o ho=>?_⟩
   obtain⟨a,c,rfl,ha,_⟩:=ho
   simp only[zh,ze,zd0 hT hkey]
   unfold ziD at h
   split at h
   ·rename_i v hv
    rw[←ha] at hv
    obtain⟨r,hr,hrv⟩:=zg3 (i:=0) hv
    rw[zb7 hT hkey hr]
    cases r with
    |none=>cases hrv
    |some r=>cases hrv;cases ok <;> exact h
   ·rename_i hv
    rw[←ha] at hv
    obtain⟨r,hr,hrv⟩:=zg3 (i:=0) hv
    rw[zb7 hT hkey hr]
    cases r with
    |some r=>cases hrv
    |none=>
     simp only[ze,za3 hi hz,zh]
     cases ok <;> exact h
   ·exact h.elim
  ·exact h.elim
 ·exact h.elim
theorem znT {T:Tys} {t:TypeId} {x y:Value} (h:zbI T t x y=some true) (n:Nat):Instr.sameBits (n+1) y x=true:=by
 have ints: ∀ (k:IntKind) (l:List Int) (m:Nat),((l.map (Value.int k)).zip (l.map (Value.int k))).all (fun p=>Instr.sameBits m p.1 p.2)=true:=fun k l m=>by
  induction l with
  |nil=>rfl
  |cons a l ih=>simp only[List.map_cons,List.zip_cons_cons,List.all_cons,ih];cases m <;> simp [Instr.sameBits]
 unfold zbI at h
 split at h
 ·simp only[Option.some.injEq,beq_iff_eq] at h;subst h;simp [Instr.sameBits]
 ·split at h
  ·rename_i e;obtain⟨rfl,rfl⟩:=e
   simp only[Option.some.injEq,decide_eq_true_eq] at h;subst h;simp [Instr.sameBits]
  ·cases h
 ·simp only[Option.some.injEq,beq_iff_eq] at h
  rename_i a b _
  have:a=b:=ByteArray.ext (Array.ext' h)
  subst this
  simp only[Instr.sameBits]
  exact(MapKept.bytes_beq _ _).2 rfl
 ·split at h
  ·split at h
   ·split at h
    ·rename_i ms ns hm hn
     split at h
     ·simp only[Option.some.injEq,decide_eq_true_eq] at h;subst h
      simp only[Instr.sameBits,Bool.and_eq_true,beq_iff_eq]
      rename_i xs ys _ _ _ _ _ _
      have e1:=zem hm
      have e2:=zem hn
      refine⟨by rw[←Array.length_toList,←Array.length_toList,e1,e2],?_⟩
      rw[e1,e2]
      exact ints _ _ _
     ·cases h
    ·cases h
   ·cases h
  ·cases h
 ·cases h
theorem zng (a:Array MapEntry) (p:Nat) (k v:Value):((a.modify p fun e=>{e with key:=k,val:=v}).toList.map fun e=>(e.key,e.val))=(a.toList.map fun e=>(e.key,e.val)).set p (k,v):=by
 rw[Array.toList_modify]
 apply List.ext_getElem?
 intro i
 simp only[List.getElem?_map,List.getElem?_modify,List.getElem?_set,List.length_map]
 by_cases h:p=i
 ·subst h
  by_cases hl:p<a.toList.length
  ·have:p<a.size:=by simpa using hl
   simp [this]
  ·have:a.size≤p:=by simpa using hl
   simp [this,Nat.not_lt.2 this]
 ·simp [h]
theorem zjO (a:Array MapEntry) (p:Nat) (k v:Value):((a.modify p fun e=>{e with key:=k,val:=v}).toList.map (·.born))=a.toList.map (·.born):=by
 rw[Array.toList_modify]
 apply List.ext_getElem?
 intro i
 simp only[List.getElem?_map,List.getElem?_modify]
 by_cases h:p=i
 ·subst h;cases a.toList[p]? <;> simp
 ·simp [h]
def zdU (T:Tys) (H:zb) (t:TypeId) (m key v:Value) (k:zb→Prop) (_:Tok k:= .mk):Prop:=
 match (T t).k,m with
 | .map kt _, .map (some r)=>Ob (ze7 T kt key) (zf9 (zq H r) fun es=>esK (ziC T kt key v es) fun es'=>k (z7 H r (.map es')))
 |_,_=>False
theorem zfC {P:Program} {T:Tys} (hT:zR P T) {G:za} {H:zb} {t:TypeId} {m key v:Value} {kk:Unit→zb→Prop} (h:zdU T H t m key v fun H'=>kk () H'):zT P G (Instr.mapUpdate t m key v) H kk:=by
 unfold zdU at h
 split at h
 ·rename_i kt et r hk
  obtain⟨hkey,h⟩:=h
  obtain⟨d,hd,hf⟩:=hT.und hk (by simp)
  simp only[TK.fits] at hf;subst hf
  intro E w hw
  unfold zf9 at h
  split at h
  ·rename_i es hes
   have hg:=hw.none hes
   unfold esK at h
   split at h
   ·rename_i es' hput
    refine zT.of (P:=P) (G:=G) ?_ w hw
    unfold Instr.mapUpdate
    simp only[ze,zi hd]
    simp only[getObj,runS,hg,hes]
    refine⟨trivial,fun o ho=>?_⟩
    obtain⟨a,c,rfl,ha,hb,hc⟩:=ho
    simp only[zh,ze,zd0 hT hkey]
    rw[←ha] at hput
    rcases zkW (i:=0) hput with ⟨p,w',h1,h2,h3,k0,h4,h5⟩| ⟨h1,h2⟩
    ·rw[zb7 hT hkey h1]
     simp only[Nat.zero_add]
     have hk0:((a[p]?).map (·.key)).getD key=k0:=by
      rw[List.getElem?_map,Array.getElem?_toList] at h4
      cases hap:a[p]? with
      |none=>rw[hap] at h4;cases h4
      |some e=>rw[hap] at h4;simpa using h4
     simp only[hk0,Instr.keyThatStays,znT h5,if_true,zh,ze]
     simp only[setObj,runS,hes]
     refine⟨trivial,es',⟨_,c,rfl,?_,?_,?_⟩,h⟩
     ·rw[zng,h3]
     ·rw[zjO];exact hb
     ·intro e he
      have:e.born∈(a.modify p fun e=>{e with key:=key,val:=v}).toList.map (·.born):=List.mem_map_of_mem he
      rw[zjO] at this
      obtain⟨e',he',heq⟩:=List.mem_map.1 this
      rw[←heq];exact hc e' he'
    ·rw[zb7 hT hkey h1]
     simp only[setObj,runS,hes]
     refine⟨trivial,es',⟨_,c+1,rfl,?_,?_,?_⟩,h⟩
     ·rw[h2];simp
     ·simp only[Array.toList_push,List.map_append,List.map_cons,List.map_nil,List.pairwise_append,List.pairwise_cons,List.not_mem_nil,false_imp_iff,implies_true,List.Pairwise.nil,and_true,List.mem_map,List.mem_singleton,forall_eq,true_and]
      refine⟨hb,?_⟩
      rintro _ ⟨e,he,rfl⟩;exact hc e he
     ·intro e he
      simp only[Array.toList_push,List.mem_append,List.mem_singleton] at he
      rcases he with he|rfl
      ·exact Nat.lt_succ_of_lt (hc e he)
      ·exact Nat.lt_succ_self c
   ·exact h.elim
  ·exact h.elim
 ·exact h.elim
theorem zga {α β:Type} (f:α→β): ∀ (l:List α) (p:Nat),(l.eraseIdx p).map f=(l.map f).eraseIdx p
 | [],_=>rfl
 |a::l,0=>rfl
 |a::l,p+1=>by simp [zga f l p]
def zhG (T:Tys) (H:zb) (t:TypeId) (m key:Value) (k:zb→Prop) (_:Tok k:= .mk):Prop:=
 match (T t).k,m with
 | .map kt _, .map (some r)=>Ob (ze7 T kt key) (zf9 (zq H r) fun es=>esK (znS T kt key es) fun es'=>k (z7 H r (.map es')))
 |_,_=>False
theorem zlV {P:Program} {T:Tys} (hT:zR P T) {G:za} {H:zb} {t u ty:TypeId} {m key:Value} {kk:Value→zb→Prop} (h:zhG T H t m key fun H'=>kk (.tuple #[]) H'):zT P G (Builtin.delete_ #[t,u] ty #[m,key]) H kk:=by
 unfold zhG at h
 split at h
 ·rename_i kt et r hk
  obtain⟨hkey,h⟩:=h
  obtain⟨d,hd,hf⟩:=hT.und hk (by simp)
  simp only[TK.fits] at hf;subst hf
  intro E w hw
  unfold zf9 at h
  split at h
  ·rename_i es hes
   have hg:=hw.none hes
   unfold esK at h
   split at h
   ·rename_i es' hput
    refine zT.of (P:=P) (G:=G) ?_ w hw
    have e0: ∃s1 s2,Builtin.delete_ #[t,u] ty #[.map (some r),key]=(do
      let .map keyType _ ←underlying t|stuck s1
      let .map es clock ←getObj r|stuck s2
      Instr.checkKey es.isEmpty 10000 keyType key
      match ←Instr.findKey keyType key es.toList with
      |some (i,_)=>setObj r (.map (es.eraseIdxIfInBounds i) clock)
      |none=>setObj r (.map es clock)
      pure (.tuple #[])):=by
     unfold Builtin.delete_;exact⟨_,_,rfl⟩
    obtain⟨s1,s2,e0⟩:=e0
    rw[e0]
    simp only[ze,zi hd]
    simp only[getObj,runS,hg,hes]
    refine⟨trivial,fun o ho=>?_⟩
    obtain⟨a,c,rfl,ha,hb,hc⟩:=ho
    simp only[zh,ze,zd0 hT hkey]
    rw[←ha] at hput
    rcases zkX (i:=0) hput with ⟨p,w',h1,h2,h3⟩| ⟨h1,h2⟩
    ·rw[zb7 hT hkey h1]
     simp only[Nat.zero_add,setObj,ze,runS,hes]
     have hp:p<a.size:=by simpa using h2
     refine⟨trivial,es',⟨_,c,rfl,?_,?_,?_⟩,h⟩
     ·rw[h3];simp [Array.eraseIdxIfInBounds,hp,zga]
     ·simp only[Array.eraseIdxIfInBounds,hp,dif_pos,Array.toList_eraseIdx,zga]
      exact hb.sublist (List.eraseIdx_sublist _ _)
     ·intro e he
      simp only[Array.eraseIdxIfInBounds,hp,dif_pos,Array.toList_eraseIdx] at he
      exact hc e ((List.eraseIdx_sublist _ _).subset he)
    ·rw[zb7 hT hkey h1]
     simp only[setObj,ze,runS,hes]
     refine⟨trivial,es',⟨_,c,rfl,by rw[h2,ha],hb,hc⟩,h⟩
   ·exact h.elim
  ·exact h.elim
 ·exact h.elim
theorem zkY {P:Program} {T:Tys} (hT:zR P T) {G:za} {H:zb} {t:TypeId} {kk:Value→zb→Prop} (h:zdm G (zm H) fun b=>kk (.map (some b)) ((b, .map [])::H)):zT P G (Instr.makeMap t none) H kk:=by
 refine zT.of ?_
 simp only[Instr.makeMap,newObj,ze,runS,zh]
 refine⟨by trivial,rfl,fun b hb=>?_⟩
 exact h b hb
def zhH (r:Option Res) (k:Value→Prop) (_:Tok k:= .mk):Prop:=zf9 r fun es=>k (.int .i64 es.length)
theorem zlW {P:Program} {T:Tys} (hT:zR P T) {G:za} {H:zb} {t ty:TypeId} {a b r:Nat} {kk:Value→zb→Prop} (hk:(T t).k= .map a b) (h:zhH (zq H r) fun v=>kk v H):zT P G (Builtin.len_ #[t] ty #[.map (some r)]) H kk:=by
 obtain⟨d,hd,hf⟩:=hT.und hk (by simp)
 simp only[TK.fits] at hf;subst hf
 unfold zhH zf9 at h
 split at h
 ·rename_i es hes
  intro E w hw
  have hg:=hw.none hes
  refine zT.of (P:=P) (G:=G) ?_ w hw
  simp [Builtin.len_,ze,zi hd,zh,getObj,runS,hg,hes,goInt]
  intro o ho
  obtain⟨a,c,rfl,ha,_⟩:=ho
  have:es.length=a.size:=by rw[←ha];simp
  rw[this] at h
  exact h
 ·exact h.elim
end Go.V
namespace Go.V
variable {E:Env}
def znU (a:Array MapEntry) (c:Nat):Res:= .inv fun o=>o= .map a c
def zhI (m since:Nat) (seen:Array Nat) (last:Nat):Res:= .inv fun o=>o= .mapIter (some m) since seen last
theorem HeapOk.exact {G:za} {H:zb} {w:World} (h:HeapOk E G H w) {b:Nat} {r:Res} (hf:zq H b=some r) {o:Obj} (ho:w.heap[b]? =some o) (hn:zeM o):HeapOk E G (z7 H b (.inv fun o'=>o'=o)) w:=
 h.set (r':= .inv fun o'=>o'=o) hf ho ⟨rfl,hn⟩ (fun _ _=>rfl) ⟨rfl,rfl⟩
def zjp (T:Tys) (G:za) (H:zb) (t:TypeId) (v:Value) (k:Value→zb→Prop) (_:Tok k:= .mk):Prop:=
 match (T t).k,v with
 | .map _ _, .map (some m)=>zf9 (zq H m) fun es=> ∀ (a:Array MapEntry) (c:Nat),a.toList.map (fun e=>(e.key,e.val))=es→(a.toList.map (·.born)).Nodup→(∀e∈a.toList,e.born<c)→
   zdm G (zm H) fun b=>k (.pointer (some ⟨b,0,none⟩)) ((b,zhI m c #[] c)::z7 H m (znU a c))
 |_,_=>False
theorem znh {P:Program} {T:Tys} (hT:zR P T) {G:za} {H:zb} {t:TypeId} {v:Value} {kk:Value→zb→Prop} (h:zjp T G H t v kk):zT P G (Instr.range t v) H kk:=by
 unfold zjp at h
 split at h
 ·rename_i kt et m hk
  obtain⟨d,hd,hf⟩:=hT.und hk (by simp)
  simp only[TK.fits] at hf;subst hf
  intro E w hw
  unfold zf9 at h
  split at h
  ·rename_i es hes
   have hg:=hw.none hes
   obtain⟨o,ho,hh⟩:=hw.find hes
   obtain⟨a,c,rfl,ha,hb,hc⟩:=hh
   have hnd:(a.toList.map (·.born)).Nodup:=List.Pairwise.imp (fun{x y} hxy e=>by omega) hb
   have h:=h a c ha hnd hc
   have hw2:=hw.exact hes ho (by trivial)
   have hfm:zq (z7 H m (.inv fun o'=>o'=Obj.map a c)) m=some (.inv fun o'=>o'=Obj.map a c):=zfE hes
   refine zT.of (P:=P) (G:=G) ?_ w hw2
   unfold Instr.range
   simp only[ze,zi hd,zh]
   simp only[getObj,runS,hg,hfm,newObj]
   refine⟨trivial,fun o ho=>?_⟩
   subst ho
   simp only[zh,ze,runS]
   refine⟨trivial,rfl,fun b hb=>?_⟩
   rw[ziv] at hb
   exact h b hb
  ·exact h.elim
 ·exact h.elim
def zsQ (H:zb) (v:Value) (k:Value→zb→Prop) (_:Tok k:= .mk):Prop:=
 ∃b m since seen last a c,v= .pointer (some ⟨b,0,none⟩)∧zq H b=some (zhI m since seen last)∧zq H m=some (znU a c)∧(∀x∈a.toList,x.born<since)∧since≤last∧
  ((leftOf a seen).size=0→k (.tuple #[.bool false]) H)∧ ∀e∈(leftOf a seen).toList,k (.tuple #[.bool true,e.key,e.val]) (z7 H b (zhI m since (seen.push e.born) c))
theorem znV {P:Program} {G:za} {H:zb} {v:Value} {ty:TypeId} {kk:Value→zb→Prop} (h:zsQ H v kk):zT P G (Instr.next v false ty) H kk:=by
 obtain⟨b,m,since,seen,last,a,c,rfl,hb,hm,hold,hsc,h0,h1⟩:=h
 intro E w hw
 have hgb:=hw.none hb
 have hgm:=hw.none hm
 refine zT.of (P:=P) (G:=G) ?_ w hw
 unfold Instr.next
 simp only[ze,zh,getObj,runS,hgb,hb,zhI]
 refine⟨trivial,fun o ho=>?_⟩
 subst ho
 simp only[ze,zh,getObj,runS,hgm,hm,znU]
 refine⟨trivial,fun o ho=>?_⟩
 subst ho
 simp only[next_test_false seen a since last hold hsc,Bool.false_eq_true,if_false,ze,zh]
 have hmem: ∀x∈(leftOf a seen).toList,x.born<since:=fun x hx=>hold x (mem_left hx).1
 show runS false P G (do
  let left:=leftOf a seen
  let old:=left.filter (·.born<since)
  let new:=left.filter (·.born≥since)
  let candidates:=(if old.isEmpty then #[none] else #[])++(old++new).map some
  match candidates[←choose (.mapNext candidates.size)]? with
  |some (some e)=>
   setObj b (.mapIter (some m) since (seen.push e.born) c)
   pure (.tuple #[.bool true,e.key,e.val])
  |some none=>pure (.tuple #[.bool false])
  |none=>stuck "Next: no such candidate") H kk
 generalize leftOf a seen=L at hmem h0 h1⊢
 have e1:L.filter (fun x=>decide (x.born<since))=L:=Array.filter_eq_self.2 (fun x hx=>by simpa using hmem x (by simpa using hx))
 have e2:L.filter (fun x=>decide (x.born≥since))= #[]:=by
  rw[Array.filter_eq_empty_iff]
  intro x hx
  have:=hmem x (by simpa using hx)
  simp
  omega
 simp only[e1,e2,Array.append_empty]
 by_cases hz:L.size=0
 ·have:L= #[]:=Array.eq_empty_of_size_eq_zero hz
  subst this
  simp [choose,runS,ze,Question.forced,zh]
  exact h0 rfl
 ·have hne:L.isEmpty=false:=by simp [Array.isEmpty,hz]
  simp only[hne,Bool.false_eq_true,if_false,Array.empty_append,Array.size_map]
  have key: ∀j,j<L.size→runS false P G (match (L.map some)[j]? with
    |some (some e)=>do
     setObj b (.mapIter (some m) since (seen.push e.born) c)
     pure (.tuple #[.bool true,e.key,e.val])
    |some none=>pure (.tuple #[.bool false])
    |none=>stuck "Next: no such candidate") H kk:=fun j hj=>by
   rw[Array.getElem?_map,Array.getElem?_eq_getElem hj]
   simp only[Option.map_some,setObj,runS,ze,hb,zhI,zh]
   exact⟨trivial,trivial,h1 L[j] (by simp)⟩
  simp only[choose,ze,runS]
  split
  ·exact key 0 (by omega)
  ·exact⟨trivial,fun t=>key _ (Nat.mod_lt _ (by omega))⟩
def zqn (H:zb) (v:Value) (k:Value→Prop) (_:Tok k:= .mk):Prop:=
 ∃b m since seen c a e,v= .pointer (some ⟨b,0,none⟩)∧zq H b=some (zhI m since (Array.push seen e.born) c)∧zq H m=some (znU a c)∧e∈a.toList∧(a.toList.map (·.born)).Nodup∧k (.tuple #[e.key,e.val])
theorem zni {P:Program} {G:za} {H:zb} {v:Value} {kk:Value→zb→Prop} (h:zqn H v fun v=>kk v H):zT P G (Instr.entry v) H kk:=by
 obtain⟨b,m,since,seen,c,a,e,rfl,hb,hm,he,hn,h⟩:=h
 intro E w hw
 have hgb:=hw.none hb
 have hgm:=hw.none hm
 have hf:a.find? (·.born==e.born)=some e:=by rw[←Array.find?_toList];exact find_born e a.toList hn he
 refine zT.of (P:=P) (G:=G) ?_ w hw
 unfold Instr.entry
 simp only[ze,zh,getObj,runS,hgb,hb,zhI]
 refine⟨trivial,fun o ho=>?_⟩
 subst ho
 simp only[Array.back?_push,ze,zh,getObj,runS,hgm,hm,znU]
 refine⟨trivial,fun o ho=>?_⟩
 subst ho
 simp only[bne_self_eq_false,Bool.false_eq_true,if_false,ze,zh,hf]
 exact h
end Go.V
namespace Go.V
variable {E:Env}
def PLe (G G':za):Prop:= ∀b o,G b=some o→G' b=some o
theorem PLe.refl (G:za):PLe G G:=fun _ _ h=>h
theorem PLe.trans {G G' G'':za} (h:PLe G G') (h':PLe G' G''):PLe G G'':=fun b o hb=>h' b o (h b o hb)
def Callee (P:Program) (f:FuncId):Prop:= ∃fn c,P.funcs[f]? =some fn∧fn.body=some c∧(fn.name== "runtime.NumGoroutine")=false
def zlX (P:Program) (f:FuncId) (args:List Value) (w:World) (Q:Value→World→Prop):Prop:=
 (Callee P f∧Calls P f args.toArray w fun e w'=> ∃v,e= .returned v∧Q v w')∨ ∃v w',(callFunc f args.toArray).run P w= .ok (.value v) w'∧Q v w'
theorem zlX.mono {P:Program} {f:FuncId} {args:List Value} {w:World} {Q Q':Value→World→Prop} (h:zlX P f args w Q) (hq: ∀v w',Q v w'→Q' v w'):zlX P f args w Q':=by
 rcases h with ⟨h1,h2⟩| ⟨v,w',h1,h2⟩
 ·exact .inl ⟨h1,h2.mono fun _ _ ⟨v,e,h⟩=>⟨v,e,hq v _ h⟩⟩
 ·exact .inr ⟨v,w',h1,hq v w' h2⟩
theorem zlX.calls {P:Program} {f:FuncId} {args:List Value} {w:World} {Q:Value→World→Prop} (hc:Callee P f) (h:zlX P f args w Q):Calls P f args.toArray w fun e w'=> ∃v,e= .returned v∧Q v w':=by
 rcases h with ⟨_,h2⟩| ⟨v,w',h1,h2⟩
 ·exact h2
 ·obtain⟨fn,c,hfn,hbody,hname⟩:=hc
  have hname': ¬fn.name= "runtime.NumGoroutine" :=by simpa using hname
  have hr:(callFunc f args.toArray).run P w= .ok (.enter f args.toArray) w:=by simp [callFunc,hfn,hname',hbody]
  rw[hr] at h1
  cases h1
def FnT (P:Program) (f:FuncId) (args:List Value) (G:za) (H:zb) (R:Value→za→zb→Prop) (_:Tok R:= .mk):Prop:=
 ∀ ⦃E:Env⦄ w,HeapOk E G H w→zlX P f args w fun v w'=> ∃G' H',PLe G G'∧HeapOk E G' H' w'∧R v G' H'
theorem FnT.mono {P:Program} {f:FuncId} {args:List Value} {G:za} {H:zb} {R R':Value→za→zb→Prop} (h:FnT P f args G H R)
  (hr: ∀v G' H',PLe G G'→Sep G' (zm H')→R v G' H'→R' v G' H'):FnT P f args G H R':=
 fun _ w hw=>(h w hw).mono fun v _ ⟨G',H',h1,h2,h3⟩=>⟨G',H',h1,h2,hr v G' H' h1 h2.sep h3⟩
theorem FnT.own {P:Program} {f:FuncId} {args:List Value} {G:za} {H:zb} {R:Value→za→zb→Prop} (hc:Callee P f)
  (h: ∀ ⦃E:Env⦄ w,HeapOk E G H w→Calls P f args.toArray w fun e w'=> ∃v G' H',e= .returned v∧PLe G G'∧HeapOk E G' H' w'∧R v G' H'):FnT P f args G H R:=
 fun _ w hw=> .inl ⟨hc,(h w hw).mono fun _ _ ⟨v,G',H',e,h1,h2,h3⟩=>⟨v,e,G',H',h1,h2,h3⟩⟩
theorem FnT.calls {P:Program} {f:FuncId} {args:List Value} {G:za} {H:zb} {R:Value→za→zb→Prop} (hc:Callee P f) (h:FnT P f args G H R) {w:World} (hw:HeapOk E G H w):
  Calls P f args.toArray w fun e w'=> ∃v G' H',e= .returned v∧PLe G G'∧HeapOk E G' H' w'∧R v G' H':=
 ((h w hw).calls hc).mono fun _ _ ⟨v,e,G',H',h1,h2,h3⟩=>⟨v,G',H',e,h1,h2,h3⟩
theorem FnT.ext {P:Program} {f:FuncId} {args:List Value} {G:za} {H:zb} {R:Value→za→zb→Prop} {v:Value} (h: ∀ ⦃E:Env⦄ w,HeapOk E G H w→(callFunc f args.toArray).run P w= .ok (.value v) w) (hR:R v G H):FnT P f args G H R:=
 fun _ w hw=> .inr ⟨v,w,h w hw,G,H,PLe.refl _,hw,hR⟩
def evK (l:Fr) (xs:List Operand) (k:List Value→Prop) (_:Tok k:= .mk):Prop:=
 match xs with
 | []=>k []
 |x::xs=>zC (ev l x) fun v=>evK l xs fun vs=>k (v::vs)
theorem zxm (l:Fr) (k:List Value→Prop):evK l [] k=k []:=rfl
theorem zu8 (l:Fr) (x:Operand) (xs:List Operand) (k:List Value→Prop):evK l (x::xs) k=zC (ev l x) fun v=>evK l xs fun vs=>k (v::vs):=rfl
def zka (l:Fr) (xs:List (Nat×Operand)) (k:List (Nat×Value)→Prop) (_:Tok k:= .mk):Prop:=
 match xs with
 | []=>k []
 |x::xs=>zC (ev l x.2) fun v=>zka l xs fun vs=>k ((x.1,v)::vs)
theorem zu9 (l:Fr) (k:List (Nat×Value)→Prop):zka l [] k=k []:=rfl
theorem zsR (l:Fr) (i:Nat) (x:Operand) (xs:List (Nat×Operand)) (k:List (Nat×Value)→Prop):zka l ((i,x)::xs) k=zC (ev l x) fun v=>zka l xs fun vs=>k ((i,v)::vs):=rfl
def evO (l:Fr) (x:Option Operand) (k:Option Value→Prop) (_:Tok k:= .mk):Prop:=
 match x with
 |none=>k none
 |some x=>zC (ev l x) fun v=>k (some v)
theorem zva (l:Fr) (k:Option Value→Prop):evO l none k=k none:=rfl
theorem zvb (l:Fr) (x:Operand) (k:Option Value→Prop):evO l (some x) k=zC (ev l x) fun v=>k (some v):=rfl
section evs
variable {sz:Nat} {G:za} {l:Fr} {H:zb} {a:Act} {w:World} (h:Sim E sz G l H a w)
include h
theorem zt {x:Operand} {k:Value→Prop} (hk:zC (ev l x) k):k (a.eval x):=by
 unfold zC at hk
 split at hk
 ·rename_i v hv;rw[h.ev hv];exact hk
 ·exact hk.elim
theorem zhj {x:Option Operand} {k:Option Value→Prop} (hk:evO l x k):k (x.map a.eval):=by
 cases x with
 |none=>exact hk
 |some x=>exact zt h hk
end evs
theorem zey {sz:Nat} {G:za} {l:Fr} {H:zb} {a:Act} {w:World} (h:Sim E sz G l H a w): ∀ {xs:List Operand} {k:List Value→Prop},evK l xs k→k (xs.map a.eval)
 | [],k,hk=>hk
 |x::xs,k,hk=>by
  have h1:=zt h hk
  exact zey (xs:=xs) (k:=fun vs=>k (a.eval x::vs)) h h1
theorem zjq {sz:Nat} {G:za} {l:Fr} {H:zb} {a:Act} {w:World} (h:Sim E sz G l H a w): ∀ {xs:List (Nat×Operand)} {k:List (Nat×Value)→Prop},zka l xs k→k (xs.map fun p=>(p.1,a.eval p.2))
 | [],k,hk=>hk
 |x::xs,k,hk=>by
  have h1:=zt h hk
  exact zjq (xs:=xs) (k:=fun vs=>k ((x.1,a.eval x.2)::vs)) h h1
def zjr (t:Bool) (a b:Value):Value:=
 match a,b with
 | .bool x, .bool y=> .bool (if t then x else y)
 |a,b=>if t then a else b
theorem zhJ (t:Bool) (a b:Value):zjr t a b=if t then a else b:=by
 unfold zjr;split
 ·split <;> rfl
 ·rfl
theorem zrc (a b:Value):zjr true a b=a:=by rw[zhJ];rfl
theorem zpm (a b:Value):zjr false a b=b:=by rw[zhJ];rfl
theorem zrd (t x y:Bool):zjr t (.bool x) (.bool y)= .bool (if t then x else y):=rfl
def znz (c a b:Value) (k:Value→Prop) (_:Tok k:= .mk):Prop:=
 match c with
 | .bool t=>k (zjr t a b)
 |_=>False
def zlY (v:Value) (k:Value→Prop) (_:Tok k:= .mk):Prop:=
 match v with
 | .pointer (some _)=>k v
 | .func (.func _) _ _=>k v
 | .iface .. =>k v
 |_=>False
def zjs (P:Program) (fv:Value) (vs:List Value) (G:za) (H:zb) (k:Value→za→zb→Prop) (_:Tok k:= .mk):Prop:=
 match fv with
 | .func (.func f) first caps=>FnT P f (first.toList++vs++caps.toList) G H k
 |_=>False
def zkZ (T:Tys) (G:za) (H:zb) (t:TypeId) (d s:Value) (k:Value→zb→Prop) (_:Tok k:= .mk):Prop:=
 match (T t).k,d,s with
 | .slice e, .slice (some ⟨b,o,none⟩) n _, .slice a n' _=>(T e).k≠ .none∧rdSl G H a (min n' n * (T e).size) fun cs=>zdI H b o cs fun H'=>k (.int .i64 (min n' n:Nat)) H'
 |_,_,_=>False
theorem znW {P:Program} {T:Tys} (hT:zR P T) {G:za} {H:zb} {t u ty:TypeId} {d s:Value} {kk:Value→zb→Prop} (h:zkZ T G H t d s kk):
  runS false P G (Builtin.copy_ #[t,u] ty #[d,s]) H kk:=by
 unfold zkZ at h
 split at h
 ·rename_i e b o n c a n' c' hf
  obtain⟨hk,h⟩:=h
  obtain⟨d,hd,hfit⟩:=hT.und hf (by simp)
  simp only[TK.fits] at hfit
  subst hfit
  obtain⟨i,z,hi,hs,_⟩:=hT.info hk
  have hr:runS false P G (Builtin.firstCells i.size (Nat.min n' n) (.slice a n' c')) H fun new H'=>runS false P G (storeCells ⟨b,o,none⟩ new.toList) H' fun _ H''=>kk (.int .i64 (min n' n:Nat)) H'':=by
   rw[hs]
   unfold rdSl at h
   split at h
   ·rename_i b' o'
    refine zb5 ?_
    obtain⟨cs,h1,h2,h3⟩:=zf7 h
    refine h3 _ ?_
    exact zcm cs 0 h1
   ·have h0:Nat.min n' n * (T e).size=0:=h.1
    have h1:runS false P G (storeCells ⟨b,o,none⟩ ([]:List Value)) H fun _ H''=>kk (.int .i64 (min n' n:Nat)) H'':=zcm [] 0 h.2
    cases a with
    |none=>exact h1
    |some a=>
     simp only[Builtin.firstCells,h0]
     exact h1
  simp [Builtin.copy_,ze,zi hd,zam hi,zh,zd6,Builtin.lenOf,goInt] at hr⊢
  exact hr
 ·exact h.elim
def zre (T:Tys) (H:zb) (t:TypeId) (x:Value) (k:Value→Prop) (_:Tok k:= .mk):Prop:=
 match x with
 | .map (some r)=>match (T t).k with
  | .map .. =>zhH (zq H r) k
  |_=>False
 |x=>znv T t x k
def zhK (T:Tys) (G:za) (H:zb) (b:Builtin) (ts:List TypeId) (vs:List Value) (k:Value→zb→Prop) (_:Tok k:= .mk):Prop:=
 match b,ts,vs with
 | .len,[t],[x]=>zre T H t x fun v=>k v H
 | .delete,[t,_],[m,key]=>zhG T H t m key fun H'=>k (.tuple #[]) H'
 | .append,[t,u],[s,x]=>zhA T G H t u s x k
 | .min,_,vs=>znx vs fun v=>k v H
 | .max,_,vs=>zny vs fun v=>k v H
 | .copy,[t,_],[d,s]=>zkZ T G H t d s k
 | .cap,[t],[x]=>znw T t x fun v=>k v H
 |_,_,_=>False
def zar (P:Program) (T:Tys) (op:Op) (G:za) (l:Fr) (H:zb) (k:Value→za→zb→Prop) (_:Tok k:= .mk):Prop:=
 match op with
 | .move x| .assign x=>zC (ev l x) fun v=>k v G H
 | .pick c a b=>zC (ev l c) fun cv=>zC (ev l a) fun av=>zC (ev l b) fun bv=>znz cv av bv fun v=>k v G H
 | .alloc e=>(T e).k≠ .none∧zdm G (zm H) fun b=>k (.pointer (some ⟨b,0,none⟩)) G ((b, .cells (T e).zero [] e)::H)
 | .box e x=>zC (ev l x) fun v=>zdm G (zm H) fun b=>k (.pointer (some ⟨b,0,none⟩)) G ((b, .cells (zcP v) [] e)::H)
 | .build t parts=>zka l parts.toList fun ps=>zfU T t ps fun v=>k v G H
 | .buildSlice t n parts=>zka l parts.toList fun ps=>zdt T t n ps fun e cs=>zdm G (zm H) fun b=>k (.slice (some ⟨b,0,none⟩) n n) G ((b, .cells cs [] e)::H)
 | .load t x=>zC (ev l x) fun v=>zew T G H t v fun v=>k v G H
 | .store t x y=>zC (ev l x) fun av=>zC (ev l y) fun v=>zjl T H t av v fun H'=>k undef G H'
 | .nilCheck x=>zC (ev l x) fun v=>zlY v fun v=>k v G H
 | .binOp op t x y _=>zC (ev l x) fun xv=>zC (ev l y) fun yv=>zkT T op t xv yv fun v=>k v G H
 | .unOp op _ x=>zC (ev l x) fun v=>zq5 op v fun v=>k v G H
 | .convert s d x=>zC (ev l x) fun v=>ziA T G H s d v fun v H'=>k v G H'
 | .makeFunc fn first caps=>evK l first.toList fun fs=>evK l caps.toList fun cs=>k (.func fn fs.toArray cs.toArray) G H
 | .makeMap t none=>zdm G (zm H) fun b=>k (.map (some b)) G ((b, .map [])::H)
 | .makeMap t (some r)=>zC (ev l r) fun _=>False
 | .lookup t x i ok=>zC (ev l x) fun m=>zC (ev l i) fun key=>zhF T H t m key ok fun v=>k v G H
 | .mapUpdate t x i y=>zC (ev l x) fun m=>zC (ev l i) fun key=>zC (ev l y) fun v=>zdU T H t m key v fun H'=>k undef G H'
 | .insert t x i y=>zC (ev l x) fun m=>zC (ev l i) fun key=>zC (ev l y) fun v=>zdU T H t m key v fun H'=>k undef G H'
 | .makeSlice t n c=>zC (ev l n) fun nv=>zC (ev l c) fun cv=>ze6 T G H t nv cv fun v H'=>k v G H'
 | .slice t x lo hi mx=>zC (ev l x) fun xv=>evO l lo fun lv=>evO l hi fun hv=>evO l mx fun mv=>zjo T t xv lv hv mv fun v=>k v G H
 | .fieldAddr t x f=>zC (ev l x) fun v=>zjm T t v f fun v=>k v G H
 | .field t x f=>zC (ev l x) fun v=>zhy T t v f fun v=>k v G H
 | .indexAddr t x i=>zC (ev l x) fun xv=>zC (ev l i) fun iv=>ze5 T t xv iv fun v=>k v G H
 | .index t x i=>zC (ev l x) fun xv=>zC (ev l i) fun iv=>zjn T t xv iv fun v=>k v G H
 | .extract x i=>zC (ev l x) fun v=>zgz v i fun v=>k v G H
 | .range t x=>zC (ev l x) fun v=>zjp T G H t v fun v H'=>k v G H'
 | .next x isS=>zC (ev l x) fun v=>isS=false∧zsQ H v fun v H'=>k v G H'
 | .entry x=>zC (ev l x) fun v=>zqn H v fun v=>k v G H
 | .call c=>match c.callee with
  | .value f=>zC (ev l f) fun fv=>evK l c.args.toList fun vs=>zjs P fv vs G H k
  | .builtin b=>evK l c.args.toList fun vs=>zhK T G H b c.argTypes.toList vs fun v H'=>k v G H'
  | .invoke .. =>False
 |_=>False
theorem zT.wp {P:Program} {G:za} {H:zb} {s:Sem Value} {kk:Value→zb→Prop} (h:zT P G s H kk) {o:Oper} {a:Act} {w:World} (hw:HeapOk E G H w)
  {next:Act→World→Prop} {Q:Exit→Act→World→Prop} (he:execOp a.eval o=(do pure (.value (←s)))) (hk: ∀v H' w',HeapOk E G H' w'→kk v H'→next (a.put o.dst v) w'):o.wp P a w next Q:=by
 obtain⟨v,w',H',h1,h2,h3⟩:=h w hw
 unfold Oper.wp
 rw[he,Sem.run_bind,h1]
 exact hk v H' w' h2 h3
theorem zT.wpU {P:Program} {G:za} {H:zb} {s:Sem Unit} {kk:Unit→zb→Prop} (h:zT P G s H kk) {o:Oper} {a:Act} {w:World} (hw:HeapOk E G H w)
  {next:Act→World→Prop} {Q:Exit→Act→World→Prop} (he:execOp a.eval o=(do s;pure .skip)) (hk: ∀H' w',HeapOk E G H' w'→kk () H'→next (a.put o.dst undef) w'):o.wp P a w next Q:=by
 obtain⟨v,w',H',h1,h2,h3⟩:=h w hw
 unfold Oper.wp
 rw[he,Sem.run_bind,h1]
 exact hk H' w' h2 h3
theorem zjP {q:Bool} {P:Program} {T:Tys} (hT:zR P T) {G:za} {H:zb} {op:BinOp} {t:TypeId} {x y:Operand} {a b:Value} {k:Value→Prop} (h:zkT T op t a b k) (K:Unit→zb→Prop):runS q P G (eqGuard op t x y a b) H K=K () H:=by
 unfold eqGuard
 cases a <;> cases b <;> try first|exact h.elim| (cases op <;> rfl)
 rename_i xs ys
 have key: ∀other:Sem Unit,(T t).eq=true→(T t).k≠ .none→runS q P G (do
   if !(←program).eqGuardType (←program).depth t then return
   other:Sem Unit) H K=K () H:=fun other he hk=>by
  obtain⟨d,hd,_,hq⟩:=hT.eqd hk he
  simp only[eqB,Bool.and_eq_true,Bool.not_eq_true'] at hq
  unfold program
  simp only[ze,runS,hq.1,zh]
  rfl
 have kn: ∀b,eqT T 9 t (.agg xs) (.agg ys)=some b→(T t).k≠ .none:=fun b hb e=>by simp [eqT,e] at hb
 cases op <;> try exact h.elim
 ·obtain⟨he,h⟩:=h
  unfold eqK at h
  split at h
  ·rename_i b hb;exact key _ he (kn b hb)
  ·exact h.elim
 ·obtain⟨he,h⟩:=h
  unfold eqK at h
  split at h
  ·rename_i b hb;exact key _ he (kn b hb)
  ·exact h.elim
theorem zg4 {P:Program} {T:Tys} (hT:zR P T) {o:Oper} {sz:Nat} {G:za} {l:Fr} {H:zb} {a:Act} {w:World} {k:Value→za→zb→Prop}
  {next:Act→World→Prop} {Q:Exit→Act→World→Prop} (h:zar P T o.op G l H k) (hs:Sim E sz G l H a w)
  (hk: ∀v G' H' w',PLe G G'→HeapOk E G' H' w'→k v G' H'→next (a.put o.dst v) w'):o.wp P a w next Q:=by
 obtain⟨dst,op,ty,pos,after,guard⟩:=o
 have hw:=hs.heap
 have val: ∀ (s:Sem Value) {kk:Value→zb→Prop},zT P G s H kk→execOp a.eval ⟨dst,op,ty,pos,after,guard⟩=(do pure (.value (←s)))→(∀v H',kk v H'→k v G H')→
   Oper.wp P ⟨dst,op,ty,pos,after,guard⟩ a w next Q:=fun s kk hd he hkk=>hd.wp hw he fun v H' w' h1 h2=>hk v G H' w' (PLe.refl _) h1 (hkk v H' h2)
 cases op <;> simp only[zar] at h <;> try exact h.elim
 case move x=>
  have h1:=zt hs h
  exact val (pure (a.eval x)) (kk:=fun v H'=>k v G H') (zT.of (by rw[zh];exact h1)) rfl (fun _ _ h=>h)
 case assign x=>
  have h1:=zt hs h
  exact val (pure (a.eval x)) (kk:=fun v H'=>k v G H') (zT.of (by rw[zh];exact h1)) rfl (fun _ _ h=>h)
 case pick c x y=>
  have h1:=zt hs (zt hs (zt hs h))
  unfold znz at h1
  split at h1
  ·rename_i t hc
   refine val (pure (if t then a.eval x else a.eval y)) (kk:=fun v H'=>k v G H') (zT.of (by rw[zh,←zhJ];exact h1)) ?_ (fun _ _ h=>h)
   simp only[execOp,hc,asBool]
   cases t <;> rfl
  ·exact h1.elim
 case alloc e=>
  obtain⟨hke,h⟩:=h
  obtain⟨i,z,hi,hsz,_,hz,hzc⟩:=hT.info hke
  refine val _ (kk:=fun v H'=>k v G H') (zT.of ?_) rfl (fun _ _ h=>h)
  simp only[Instr.alloc,ze,za3 hi hz,newVar,newRow,newObj,runS,zh]
  refine⟨by trivial,by simp [zbw],fun b hb=>?_⟩
  simp only[zeu,if_true,hzc]
  exact h b hb
 case box e x=>
  have h1:=zt hs h
  refine val _ (kk:=fun v H'=>k v G H') (zT.of ?_) rfl (fun _ _ h=>h)
  simp only[Instr.box,ze,newVar,newRow,newObj,runS,zh]
  refine⟨by trivial,by simp [zbw],fun b hb=>?_⟩
  simp only[zeu,if_true,zfi]
  exact h1 b hb
 case build t parts=>
  have h1:=zjq hs h
  have h2:zfU T t (parts.map fun p=>(p.1,a.eval p.2)).toList fun v=>k v G H:=by rw[Array.toList_map];exact h1
  exact val (Instr.build t (parts.map fun p=>(p.1,a.eval p.2))) (kk:=fun v H'=>k v G H') (zT.of (zis hT h2)) (by simp only[execOp]) (fun _ _ h=>h)
 case buildSlice t n parts=>
  have h1:=zjq hs h
  have h2:zdt T t n (parts.map fun p=>(p.1,a.eval p.2)).toList fun e cs=>zdm G (zm H) fun b=>k (.slice (some ⟨b,0,none⟩) n n) G ((b, .cells cs [] e)::H):=by rw[Array.toList_map];exact h1
  exact val (Instr.buildSlice t n (parts.map fun p=>(p.1,a.eval p.2))) (kk:=fun v H'=>k v G H') (zT.of (ziB hT (kk:=fun v H'=>k v G H') h2)) (by simp only[execOp]) (fun _ _ h=>h)
 case load t x=>exact val _ (kk:=fun v H'=>k v G H') (zT.of (zf5 hT (zt hs h))) rfl (fun _ _ h=>h)
 case store t x y=>
  have h1:=zt hs (zt hs h)
  exact(zT.of (zne hT (kk:=fun _ H'=>k undef G H') h1)).wpU hw rfl fun H' w' h2 h3=>hk undef G H' w' (PLe.refl _) h2 h3
 case nilCheck x=>
  have h1:=zt hs h
  refine val (pure (a.eval x)) (kk:=fun v H'=>k v G H') (zT.of (by rw[zh];unfold zlY at h1;split at h1 <;> first|exact h1|exact h1.elim)) ?_ (fun _ _ h=>h)
  unfold zlY at h1
  simp only[execOp]
  split at h1
  ·rename_i v p hp;rw[hp];rfl
  ·rename_i v f fs cs hp;rw[hp];rfl
  ·rename_i v p hp;rw[hp];rfl
  ·exact h1.elim
 case binOp op t x y u=>
  have h1:=zt hs (zt hs h)
  refine val (do eqGuard op t x y (a.eval x) (a.eval y);binOp op t (a.eval x) (a.eval y)) (kk:=fun v H'=>k v G H') (zT.of ?_) ?_ (fun _ _ h=>h)
  ·rw[ze,zjP hT h1];exact zjH hT h1
  ·simp only[execOp]
 case unOp op t x=>exact val _ (kk:=fun v H'=>k v G H') (zT.of (zkU (zt hs h))) rfl (fun _ _ h=>h)
 case convert s d x=>exact val _ (kk:=fun v H'=>k v G H') (znP hT (zt hs h)) rfl (fun _ _ h=>h)
 case fieldAddr t x f=>exact val _ (kk:=fun v H'=>k v G H') (zT.of (zio hT (zt hs h))) rfl (fun _ _ h=>h)
 case field t x f=>exact val _ (kk:=fun v H'=>k v G H') (zT.of (zhh hT (zt hs h))) rfl (fun _ _ h=>h)
 case indexAddr t x i=>exact val _ (kk:=fun v H'=>k v G H') (zT.of (zfB hT (zt hs (zt hs h)))) rfl (fun _ _ h=>h)
 case index t x i=>exact val _ (kk:=fun v H'=>k v G H') (zT.of (ziq hT (zt hs (zt hs h)))) rfl (fun _ _ h=>h)
 case extract x i=>exact val _ (kk:=fun v H'=>k v G H') (zT.of (zgA (zt hs h))) rfl (fun _ _ h=>h)
 case makeFunc fn first caps=>
  have h1:=zey hs (zey hs h)
  refine val _ (kk:=fun v H'=>k v G H') (zT.of ?_) rfl (fun _ _ h=>h)
  simp only[Instr.makeFunc,zh]
  have e1:(first.toList.map a.eval).toArray=first.map a.eval:=by apply Array.ext';simp
  have e2:(caps.toList.map a.eval).toArray=caps.map a.eval:=by apply Array.ext';simp
  rw[e1,e2] at h1;exact h1
 case makeMap t r=>
  cases r with
  |none=>exact val _ (kk:=fun v H'=>k v G H') (zkY hT (t:=t) h) rfl (fun _ _ h=>h)
  |some r=>exact(zt hs h).elim
 case lookup t x i ok=>exact val _ (kk:=fun v H'=>k v G H') (zlU hT (zt hs (zt hs h))) rfl (fun _ _ h=>h)
 case mapUpdate t x i y=>exact(zfC hT (kk:=fun _ H'=>k undef G H') (zt hs (zt hs (zt hs h)))).wpU hw rfl fun H' w' h2 h3=>hk undef G H' w' (PLe.refl _) h2 h3
 case insert t x i y=>exact(zfC hT (kk:=fun _ H'=>k undef G H') (zt hs (zt hs (zt hs h)))).wpU hw rfl fun H' w' h2 h3=>hk undef G H' w' (PLe.refl _) h2 h3
 case makeSlice t n c=>exact val _ (kk:=fun v H'=>k v G H') (zjG hT (zt hs (zt hs h))) rfl (fun _ _ h=>h)
 case slice t x lo hi mx=>exact val _ (kk:=fun v H'=>k v G H') (zT.of (zir hT (zhj hs (zhj hs (zhj hs (zt hs h)))))) rfl (fun _ _ h=>h)
 case range t x=>exact val _ (kk:=fun v H'=>k v G H') (znh hT (zt hs h)) rfl (fun _ _ h=>h)
 case next x isS=>
  obtain⟨rfl,h1⟩:=zt hs h
  exact val _ (kk:=fun v H'=>k v G H') (znV h1) rfl (fun _ _ h=>h)
 case entry x=>exact val _ (kk:=fun v H'=>k v G H') (zni (zt hs h)) rfl (fun _ _ h=>h)
 case call c=>
  obtain⟨callee,args,ats⟩:=c
  cases callee with
  |invoke r m=>exact h.elim
  |value f=>
   have h1:=zey hs (zt hs h)
   unfold zjs at h1
   split at h1
   ·rename_i fv g first caps hf
    have hgo:=h1 w hw
    have he:execOp a.eval ⟨dst, .call {callee:= .value f,args:=args,argTypes:=ats},ty,pos,after,guard⟩=callFunc g (first++args.map a.eval++caps):=by
     simp only[execOp,resolve,hf,Deferred.ofValue,pure_bind,invoke]
    unfold Oper.wp
    rw[he]
    have hargs:(first.toList++args.toList.map a.eval++caps.toList).toArray=first++args.map a.eval++caps:=by apply Array.ext';simp
    rcases hgo with ⟨⟨fn,c,hfn,hbody,hname⟩,hcall⟩| ⟨v,w',hrun,G',H',h2,h3,h4⟩
    ·have hr:(callFunc g (first++args.map a.eval++caps)).run P w= .ok (.enter g (first++args.map a.eval++caps)) w:=by
      have hname': ¬fn.name= "runtime.NumGoroutine" :=by simpa using hname
      simp [callFunc,hfn,hname',hbody]
     rw[hr,Oper.upon_enter]
     rw[hargs] at hcall
     refine hcall.mono fun e w' ⟨v,he,G',H',h2,h3,h4⟩=>?_
     subst he
     exact hk v G' H' w' h2 h3 h4
    ·rw[hargs] at hrun
     rw[hrun,Oper.upon_value]
     exact hk v G' H' w' h2 h3 h4
   ·exact h1.elim
  |builtin b=>
   have h1:=zey hs h
   unfold zhK at h1
   have hex: ∀ (s:Sem Value),builtin b ats ty (args.map fun| .const _=>true|_=>false) (args.map a.eval)=(do pure (.value (←s)))→
     execOp a.eval ⟨dst, .call {callee:= .builtin b,args:=args,argTypes:=ats},ty,pos,after,guard⟩=(do pure (.value (←s))):=fun s hb=>by
    simp only[execOp,resolve,pure_bind,invoke]
    exact hb
   have harr: ∀vs:List Value,args.toList.map a.eval=vs→args.map a.eval=vs.toArray:=fun vs hv=>by apply Array.ext';simpa using hv
   have htys: ∀ts:List TypeId,ats.toList=ts→ats=ts.toArray:=fun ts hv=>by apply Array.ext';simpa using hv
   split at h1
   ·rename_i t x ht hx
    refine val (Builtin.len_ #[t] ty #[x]) (kk:=fun v H'=>k v G H') ?_ (hex _ ?_) (fun _ _ h=>h)
    ·unfold zre at h1
     split at h1
     ·split at h1
      ·rename_i hmk;exact zlW hT hmk h1
      ·exact h1.elim
     ·exact zT.of (zjL hT h1)
    ·rw[harr _ hx,htys _ ht]
     exact rfl
   ·rename_i t u m key ht hx
    refine val (Builtin.delete_ #[t,u] ty #[m,key]) (kk:=fun v H'=>k v G H') (zlV hT h1) (hex _ ?_) (fun _ _ h=>h)
    rw[harr _ hx,htys _ ht]
    exact rfl
   ·rename_i t u s x ht hx
    refine val (Builtin.append_ #[t,u] ty #[s,x]) (kk:=fun v H'=>k v G H') (zlR hT (ty:=ty) h1) (hex _ ?_) (fun _ _ h=>h)
    rw[harr _ hx,htys _ ht]
    exact rfl
   ·refine val (Builtin.min_ ats ty (args.toList.map a.eval).toArray) (kk:=fun v H'=>k v G H') (zT.of (zjM (ts:=ats) (ty:=ty) h1)) (hex _ ?_) (fun _ _ h=>h)
    rw[harr _ rfl]
    exact rfl
   ·refine val (Builtin.max_ ats ty (args.toList.map a.eval).toArray) (kk:=fun v H'=>k v G H') (zT.of (zjN (ts:=ats) (ty:=ty) h1)) (hex _ ?_) (fun _ _ h=>h)
    rw[harr _ rfl]
    exact rfl
   ·rename_i t u d s ht hx
    refine val (Builtin.copy_ #[t,u] ty #[d,s]) (kk:=fun v H'=>k v G H') (zT.of (znW hT (u:=u) (ty:=ty) h1)) (hex _ ?_) (fun _ _ h=>h)
    rw[harr _ hx,htys _ ht]
    exact rfl
   ·rename_i t x ht hx
    refine val (Builtin.cap_ #[t] ty #[x]) (kk:=fun v H'=>k v G H') (zT.of (zpi hT (ty:=ty) h1)) (hex _ ?_) (fun _ _ h=>h)
    rw[harr _ hx,htys _ ht]
    exact rfl
   ·exact h1.elim
end Go.V
