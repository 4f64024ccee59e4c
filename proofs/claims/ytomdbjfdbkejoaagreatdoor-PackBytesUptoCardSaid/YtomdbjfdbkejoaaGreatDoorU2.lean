/- A part of the proof, joined of several texts: the verification layer, contracts of functions, plain law. -/
import Derived.Test.YtomdbjfdbkejoaaGreatDoorU1
import Derived.Laws.IdiomRangeMap
set_option maxHeartbeats 64000000
set_option linter.unusedSimpArgs false
set_option linter.unusedVariables false
set_option linter.unusedSectionVars false
namespace Go.V
variable {E:Env}
def zgt (k:IntKind):List Value→Option (List Int)
 | []=>some []
 | .int a n::vs=>if a=k then(zgt k vs).map (n:: ·) else none
 |_::_=>none
theorem zd8 {k:IntKind}: ∀ {vs:List Value} {ns:List Int},zgt k vs=some ns→vs=ns.map (Value.int k)
 | [],ns,h=>by cases h;rfl
 |v::vs,ns,h=>by
  cases v <;> simp only[zgt] at h <;> try(cases h;done)
  rename_i a n
  split at h
  ·rename_i e;subst e
   cases hv:zgt a vs with
   |none=>rw[hv] at h;cases h
   |some ms=>rw[hv] at h;cases h;rw[zd8 hv];rfl
  ·cases h
theorem zmb (k:IntKind) (ns:List Int):zgt k (ns.map (Value.int k))=some ns:=by
 induction ns with
 |nil=>rfl
 |cons n ns ih=>simp [zgt,ih]
def zbE (T:Tys) (t:TypeId) (x y:Value):Option Bool:=
 match (T t).k,x,y with
 | .bool, .bool a, .bool b=>some (a==b)
 | .int k, .int a m, .int b n=>if a=k∧b=k then some (decide (m=n)) else none
 | .string, .string a, .string b=>some (a.data.toList==b.data.toList)
 | .arr n e, .agg xs, .agg ys=>match (T e).k with
  | .int k=>if (T e).size=1 then match zgt k xs.toList,zgt k ys.toList with
   |some ms,some ns=>if ms.length=n∧ns.length=n then some (decide (ms=ns)) else none
   |_,_=>none
   else none
  |_=>none
 |_,_,_=>none
def zeX (T:Tys) (t:TypeId) (x:Value):Prop:=zbE T t x x=some true
theorem zhw {T:Tys} {d:Nat} {e:TypeId} {k:IntKind} (he:(T e).k= .int k) (hs:(T e).size=1): ∀ (ms ns pre pre':List Int),ms.length=ns.length→pre.length=pre'.length→
  zei (List.range' pre.length ms.length) (fun i=>match zc6 T e ((pre++ms).map (Value.int k)) (i * (T e).size),zc6 T e ((pre'++ns).map (Value.int k)) (i * (T e).size) with
   |some u,some v=>eqT T (d+1) e u v
   |_,_=>none)=some (decide (ms=ns))
 | [],ns,pre,pre',h,_=>by
  obtain rfl:ns=[]:=List.eq_nil_of_length_eq_zero h.symm
  simp [zei]
 |m::ms,[],pre,pre',h,_=>by simp at h
 |m::ms,n::ns,pre,pre',h,hp=>by
  have ih:=zhw (d:=d) he hs ms ns (pre++[m]) (pre'++[n]) (by simpa using h) (by simp [hp])
  have hone: ∀ (cs:List Value) i,zc6 T e cs (i * (T e).size)=cs[i]? :=fun cs i=>by simp only[zc6,he,hs,Nat.mul_one]
  simp only[hone] at ih⊢
  simp only[List.length_cons,List.range'_succ,zei]
  have e1:((pre++m::ms).map (Value.int k))[pre.length]? =some (.int k m):=by simp
  have e2:((pre'++n::ns).map (Value.int k))[pre.length]? =some (.int k n):=by rw[hp];simp
  have heq:eqT T (d+1) e (.int k m) (.int k n)=some (decide (m=n)):=by simp only[eqT,he,if_true]
  simp only[e1,e2,heq]
  by_cases hmn:m=n
  ·subst hmn
   simp only[decide_true]
   simp only[List.length_append,List.length_cons,List.length_nil,Nat.zero_add,List.append_assoc,List.cons_append,List.nil_append] at ih
   rw[ih];simp
  ·simp [hmn]
theorem zsv {T:Tys} {t:TypeId} {x y:Value} {b:Bool} (h:zbE T t x y=some b):eqT T 3 t x y=some b:=by
 unfold zbE at h
 split at h
 ·rename_i hk;simp only[eqT,hk];exact h
 ·rename_i hk
  simp only[eqT,hk]
  split at h
  ·rename_i e;obtain⟨rfl,rfl⟩:=e;simpa using h
  ·cases h
 ·rename_i hk;simp only[eqT,hk];exact h
 ·rename_i n e xs ys hk
  split at h
  ·rename_i k he
   split at h
   ·rename_i hs
    split at h
    ·rename_i ms ns hm hn
     split at h
     ·rename_i hl
      have:=zhw (d:=1) he hs ms ns [] [] (by omega) rfl
      simp only[List.length_nil,List.nil_append] at this
      rw[show(3 :Nat)=2+1 from rfl]
      unfold eqT
      rw[hk]
      show(if (T e).k.known then _ else none)=_
      rw[if_pos (by rw[he];rfl),←h,←this,zd8 hm,zd8 hn,hl.1]
      rfl
     ·cases h
    ·cases h
   ·cases h
  ·cases h
 ·cases h
theorem zkw {q:Bool} {P:Program} {T:Tys} (hT:zT P T) {G:zb} {t:TypeId} {x y:Value} {b:Bool} (h:zbE T t x y=some b) (H:za) (k:Bool→za→Prop):
  runS q P G (Op.equal t x y) H k=k b H:=ziq hT 3 Op.maxDepth t x y b (by decide) (zsv h) H k
theorem znx {q:Bool} {P:Program} {G:zb} {α:Type} (l:List α) {f:α→Unit→Sem (ForInStep Unit)} (hf: ∀a∈l,∀ (H:za) k,runS q P G (f a ()) H k=k (.yield ()) H) (H:za) (k:Unit→za→Prop):
  runS q P G (forIn l () f) H k=k () H:=by
 induction l with
 |nil=>simp [zh]
 |cons a l ih=>
  rw[List.forIn_cons,ze,hf a (List.mem_cons_self ..)]
  exact ih fun a ha=>hf a (List.mem_cons_of_mem _ ha)
theorem zlp {q:Bool} {P:Program} {T:Tys} (hT:zT P T) {G:zb} {t:TypeId} {x y:Value} {b0:Bool} (h:zbE T t x y=some b0) (D:Nat) (b:Bool) (H:za) (k:Unit→za→Prop):
  runS q P G (Instr.checkKey b (D+1+1) t x) H k=k () H:=by
 unfold zbE at h
 split at h
 ·rename_i hk
  obtain⟨ds,hd,hf⟩:=hT.und hk (by simp)
  simp only[TK.fits] at hf;subst hf
  simp only[Instr.checkKey,ze,zi hd,zh]
 ·rename_i hk
  obtain⟨ds,hd,hf⟩:=hT.und hk (by simp)
  simp only[TK.fits] at hf;subst hf
  simp only[Instr.checkKey,ze,zi hd,zh]
 ·rename_i hk
  obtain⟨ds,hd,hf⟩:=hT.und hk (by simp)
  simp only[TK.fits] at hf;subst hf
  simp only[Instr.checkKey,ze,zi hd,zh]
 ·rename_i n e xs ys hk
  obtain⟨ds,hd,hf⟩:=hT.und hk (by simp)
  simp only[TK.fits] at hf;subst hf
  split at h
  ·rename_i k' he
   obtain⟨de,hde,hfe⟩:=hT.und he (by simp)
   simp only[TK.fits] at hfe;subst hfe
   obtain⟨i,z,hi,hsz,_⟩:=hT.info (t:=e) (by rw[he];simp)
   split at h
   ·rename_i hs
    split at h
    ·rename_i ms ns hm hn
     split at h
     ·rename_i hl
      have hxs:=zd8 hm
      unfold Instr.checkKey
      simp only[ze,zi hd,Std.Legacy.Range.forIn_eq_forIn_range',Std.Legacy.Range.size,Nat.sub_zero,Nat.add_sub_cancel,Nat.div_one]
      refine znx _ (fun j hj H k=>?_) H _
      simp only[ze,zam hi,hsz,hs,Nat.mul_one]
      have hj':j<n:=by simpa using hj
      have hp:zc6 T e xs.toList j=some (.int k' (ms[j]'(by omega))):=by
       simp only[zc6,he]
       rw[hxs,List.getElem?_map,List.getElem?_eq_getElem (by omega)];rfl
      rw[ze7 hT hp]
      simp only[Instr.checkKey,ze,zi hde,zh]
     ·cases h
    ·cases h
   ·cases h
  ·cases h
 ·cases h
theorem zdR {q:Bool} {P:Program} {T:Tys} (hT:zT P T) {G:zb} {t:TypeId} {x:Value} (h:zeX T t x) (b:Bool) (H:za) (k:Unit→za→Prop):
  runS q P G (Instr.checkKey b 10000 t x) H k=k () H:=zlp hT h 9998 b H k
def zhx (T:Tys) (t:TypeId) (k:Value):List (Value×Value)→Option (Option Value)
 | []=>some none
 |e::es=>match zbE T t k e.1 with
  |some true=>some (some e.2)
  |some false=>zhx T t k es
  |none=>none
def zix (T:Tys) (t:TypeId) (k v:Value):List (Value×Value)→Option (List (Value×Value))
 | []=>some [(k,v)]
 |e::es=>match zbE T t k e.1 with
  |some true=>some ((k,v)::es)
  |some false=>(zix T t k v es).map (e:: ·)
  |none=>none
def zny (T:Tys) (t:TypeId) (k:Value):List (Value×Value)→Option (List (Value×Value))
 | []=>some []
 |e::es=>match zbE T t k e.1 with
  |some true=>some es
  |some false=>(zny T t k es).map (e:: ·)
  |none=>none
def zcg (T:Tys) (t:TypeId) (k:Value):List (Value×Value)→Nat→Option (Option (Nat×Value))
 | [],_=>some none
 |e::es,i=>match zbE T t k e.1 with
  |some true=>some (some (i,e.2))
  |some false=>zcg T t k es (i+1)
  |none=>none
theorem zgu {q:Bool} {P:Program} {T:Tys} (hT:zT P T) {G:zb} {t:TypeId} {x:Value}: ∀ (es:List MapEntry) (i:Nat) {r},zcg T t x (es.map fun e=>(e.key,e.val)) i=some r→ ∀ (H:za) k,
  runS q P G (Instr.findAsking t x es i) H k=k r H
 | [],i,r,h,H,k=>by cases h;rfl
 |e::es,i,r,h,H,k=>by
  simp only[List.map_cons,zcg] at h
  unfold Instr.findAsking
  rw[ze]
  split at h
  ·rename_i hk;cases h;rw[zkw hT hk];rfl
  ·rename_i hk;rw[zkw hT hk];simp only[Bool.false_eq_true,if_false];exact zgu hT es (i+1) h H k
  ·cases h
theorem zpa {P:Program} {T:Tys} (hT:zT P T) {t:TypeId} {d:TypeDesc} (hd:P.underlying t=some d) {x y:Value} {b:Bool} (h1:zbE T t x y=some b):Instr.sameNow d x y=some b∨Instr.sameNow d x y=none:=by
 unfold zbE at h1
 split at h1
 ·rename_i hk
  obtain⟨ds,hd',hf⟩:=hT.und hk (by simp)
  simp only[TK.fits] at hf;subst hf
  obtain rfl:=Option.some.inj (hd.symm.trans hd')
  exact .inl h1
 ·rename_i hk
  obtain⟨ds,hd',hf⟩:=hT.und hk (by simp)
  simp only[TK.fits] at hf;subst hf
  obtain rfl:=Option.some.inj (hd.symm.trans hd')
  split at h1
  ·rename_i e;obtain⟨rfl,rfl⟩:=e
   left
   simp only[Instr.sameNow,if_true];exact h1
  ·cases h1
 ·rename_i hk
  obtain⟨ds,hd',hf⟩:=hT.und hk (by simp)
  simp only[TK.fits] at hf;subst hf
  obtain rfl:=Option.some.inj (hd.symm.trans hd')
  left
  rw[←h1]
  simp only[Instr.sameNow,Option.some.injEq]
  rw[Bool.eq_iff_iff,MapKept.bytes_beq,beq_iff_eq]
  exact⟨fun h=>by rw[h],fun h=>ByteArray.ext (Array.ext' h)⟩
 ·rename_i hk
  obtain⟨ds,hd',hf⟩:=hT.und hk (by simp)
  simp only[TK.fits] at hf;subst hf
  obtain rfl:=Option.some.inj (hd.symm.trans hd')
  exact .inr rfl
 ·cases h1
theorem zij {P:Program} {T:Tys} (hT:zT P T) {t:TypeId} {d:TypeDesc} (hd:P.underlying t=some d) {x:Value}: ∀ (es:List MapEntry) (i:Nat) {r},zcg T t x (es.map fun e=>(e.key,e.val)) i=some r→
  ∀r',Instr.findNow d x es i=some r'→r'=r
 | [],i,r,h,r',h'=>by cases h;cases h';rfl
 |e::es,i,r,h,r',h'=>by
  simp only[List.map_cons,zcg] at h
  simp only[Instr.findNow] at h'
  cases hk:zbE T t x e.key with
  |none=>rw[hk] at h;cases h
  |some b=>
   rw[hk] at h
   rcases zpa hT hd hk with hs|hs
   ·rw[hs] at h'
    cases b with
    |true=>cases h;cases h';rfl
    |false=>exact zij hT hd es (i+1) h r' h'
   ·rw[hs] at h';cases h'
theorem zbY {q:Bool} {P:Program} {T:Tys} (hT:zT P T) {G:zb} {t:TypeId} {x:Value} (hk:zeX T t x) {es:List MapEntry} {r} (h:zcg T t x (es.map fun e=>(e.key,e.val)) 0=some r) (H:za) (k:Option (Nat×Value)→za→Prop):
  runS q P G (Instr.findKey t x es) H k=k r H:=by
 have hn:(T t).k≠ .none:=by intro e;unfold zeX zbE at hk;rw[e] at hk;cases hk
 obtain⟨d,hd,_⟩:=hT.und rfl hn
 unfold Instr.findKey
 rw[ze,zi hd]
 split
 ·rename_i r' hr'
  rw[zij hT hd es 0 h r' hr'];rfl
 ·exact zgu hT es 0 h H k
theorem zgT {T:Tys} {t:TypeId} {k:Value}: ∀ {es:List (Value×Value)} {i:Nat} {o:Option Value},zhx T t k es=some o→ ∃r,zcg T t k es i=some r∧r.map (·.2)=o
 | [],i,o,h=>by cases h;exact⟨none,rfl,rfl⟩
 |e::es,i,o,h=>by
  simp only[zhx] at h
  simp only[zcg]
  split at h
  ·rename_i hk;cases h;exact⟨_,rfl,rfl⟩
  ·rename_i hk;exact zgT h
  ·cases h
theorem zkx {T:Tys} {t:TypeId} {k v:Value}: ∀ {es es':List (Value×Value)} {i:Nat},zix T t k v es=some es'→
  (∃p w,zcg T t k es i=some (some (i+p,w))∧p<es.length∧es'=es.set p (k,v)∧ ∃k0,(es[p]?).map (·.1)=some k0∧zbE T t k k0=some true)∨(zcg T t k es i=some none∧es'=es++[(k,v)])
 | [],es',i,h=>by cases h;exact .inr ⟨rfl,rfl⟩
 |e::es,es',i,h=>by
  simp only[zix] at h
  simp only[zcg]
  split at h
  ·rename_i hk;cases h;exact .inl ⟨0,e.2,by simp [hk],by simp,by simp,e.1,by simp,hk⟩
  ·rename_i hk
   cases hp:zix T t k v es with
   |none=>rw[hp] at h;cases h
   |some l=>
    rw[hp] at h;cases h
    rcases zkx (i:=i+1) hp with ⟨p,w,h1,h2,h3,k0,h4,h5⟩| ⟨h1,h2⟩
    ·exact .inl ⟨p+1,w,by rw[h1];congr 3;omega,by simpa using h2,by simp [h3],k0,by simpa using h4,h5⟩
    ·exact .inr ⟨h1,by simp [h2]⟩
  ·cases h
theorem zky {T:Tys} {t:TypeId} {k:Value}: ∀ {es es':List (Value×Value)} {i:Nat},zny T t k es=some es'→
  (∃p w,zcg T t k es i=some (some (i+p,w))∧p<es.length∧es'=es.eraseIdx p)∨(zcg T t k es i=some none∧es'=es)
 | [],es',i,h=>by cases h;exact .inr ⟨rfl,rfl⟩
 |e::es,es',i,h=>by
  simp only[zny] at h
  simp only[zcg]
  split at h
  ·rename_i hk;cases h;exact .inl ⟨0,e.2,by simp [hk],by simp,by simp⟩
  ·rename_i hk
   cases hp:zny T t k es with
   |none=>rw[hp] at h;cases h
   |some l=>
    rw[hp] at h;cases h
    rcases zky (i:=i+1) hp with ⟨p,w,h1,h2,h3⟩| ⟨h1,h2⟩
    ·exact .inl ⟨p+1,w,by rw[h1];congr 3;omega,by simpa using h2,by simp [h3]⟩
    ·exact .inr ⟨h1,by simp [h2]⟩
  ·cases h
def zfU (r:Option Res) (k:List (Value×Value)→Prop) (_:Tok k:= .mk):Prop:=match r with|some (.map es)=>k es|_=>False
theorem zsw (es:List (Value×Value)) (k:List (Value×Value)→Prop):zfU (some (.map es)) k=k es:=rfl
def ziy (o:Option (Option Value)) (yes:Value→Prop) (no:Prop) (_:Tok yes:= .mk) (_:Tok no:= .mk):Prop:=match o with
 |some (some v)=>yes v
 |some none=>no
 |none=>False
theorem zqQ (v:Value) (yes:Value→Prop) (no:Prop):ziy (some (some v)) yes no=yes v:=rfl
theorem zsx (yes:Value→Prop) (no:Prop):ziy (some none) yes no=no:=rfl
def esK (o:Option (List (Value×Value))) (k:List (Value×Value)→Prop) (_:Tok k:= .mk):Prop:=match o with|some es=>k es|none=>False
theorem zuD (es:List (Value×Value)) (k:List (Value×Value)→Prop):esK (some es) k=k es:=rfl
def zhy (T:Tys) (H:za) (t:TypeId) (m key:Value) (ok:Bool) (k:Value→Prop) (_:Tok k:= .mk):Prop:=
 match (T t).k,m with
 | .map kt et, .map none=>(T et).k≠ .none∧Ob (zeX T kt key) (k (if ok then .tuple #[zdz (T et), .bool false] else zdz (T et)))
 | .map kt et, .map (some r)=>(T et).k≠ .none∧Ob (zeX T kt key) (zfU (zq H r) fun es=>
   ziy (zhx T kt key es) (fun v=>k (if ok then .tuple #[v, .bool true] else v)) (k (if ok then .tuple #[zdz (T et), .bool false] else zdz (T et))))
 |_,_=>False
theorem zlq {P:Program} {T:Tys} (hT:zT P T) {G:zb} {H:za} {t:TypeId} {m key:Value} {ok:Bool} {kk:Value→za→Prop} (h:zhy T H t m key ok fun v=>kk v H):zQ P G (Instr.lookup t m key ok) H kk:=by
 unfold zhy at h
 split at h
 ·rename_i kt et hk
  obtain⟨he,hkey,h⟩:=h
  obtain⟨d,hd,hf⟩:=hT.und hk (by simp)
  simp only[TK.fits] at hf;subst hf
  obtain⟨i,hi,_,hz⟩:=hT.zero he
  refine zQ.of ?_
  unfold Instr.lookup
  simp only[ze,zi hd,zh,zdR hT hkey]
  rw[zbY hT hkey (es:=(#[]:Array MapEntry).toList) (r:=none) rfl]
  simp only[ze,za8 hi hz,zh]
  cases ok <;> exact h
 ·rename_i kt et r hk
  obtain⟨he,hkey,h⟩:=h
  obtain⟨d,hd,hf⟩:=hT.und hk (by simp)
  simp only[TK.fits] at hf;subst hf
  obtain⟨i,hi,_,hz⟩:=hT.zero he
  intro E w hw
  unfold zfU at h
  split at h
  ·rename_i es hes
   have hg:=hw.none hes
   refine zQ.of (P:=P) (G:=G) ?_ w hw
   unfold Instr.lookup
   simp only[ze,zi hd,zh]
   simp only[getObj,runS,hg,hes]
   refine⟨trivial,fun o ho=>?_⟩
   obtain⟨a,c,rfl,ha,_⟩:=ho
   simp only[zh,ze,zdR hT hkey]
   unfold ziy at h
   split at h
   ·rename_i v hv
    rw[←ha] at hv
    obtain⟨r,hr,hrv⟩:=zgT (i:=0) hv
    rw[zbY hT hkey hr]
    cases r with
    |none=>cases hrv
    |some r=>cases hrv;cases ok <;> exact h
   ·rename_i hv
    rw[←ha] at hv
    obtain⟨r,hr,hrv⟩:=zgT (i:=0) hv
    rw[zbY hT hkey hr]
    cases r with
    |some r=>cases hrv
    |none=>
     simp only[ze,za8 hi hz,zh]
     cases ok <;> exact h
   ·exact h.elim
  ·exact h.elim
 ·exact h.elim
theorem znz {T:Tys} {t:TypeId} {x y:Value} (h:zbE T t x y=some true) (n:Nat):Instr.sameBits (n+1) y x=true:=by
 have ints: ∀ (k:IntKind) (l:List Int) (m:Nat),((l.map (Value.int k)).zip (l.map (Value.int k))).all (fun p=>Instr.sameBits m p.1 p.2)=true:=fun k l m=>by
  induction l with
  |nil=>rfl
  |cons a l ih=>simp only[List.map_cons,List.zip_cons_cons,List.all_cons,ih];cases m <;> simp [Instr.sameBits]
 unfold zbE at h
 split at h
 ·simp only[Option.some.injEq,beq_iff_eq] at h;subst h;simp [Instr.sameBits]
 ·split at h
  ·rename_i e;obtain⟨rfl,rfl⟩:=e
   simp only[Option.some.injEq,decide_eq_true_eq] at h;subst h;simp [Instr.sameBits]
  ·cases h
 ·simp only[Option.some.injEq,beq_iff_eq] at h
  rename_i a b _
  have:a=b:=ByteArray.ext (Array.ext' h)
  subst this
  simp only[Instr.sameBits]
  exact(MapKept.bytes_beq _ _).2 rfl
 ·split at h
  ·split at h
   ·split at h
    ·rename_i ms ns hm hn
     split at h
     ·simp only[Option.some.injEq,decide_eq_true_eq] at h;subst h
      simp only[Instr.sameBits,Bool.and_eq_true,beq_iff_eq]
      rename_i xs ys _ _ _ _ _ _
      have e1:=zd8 hm
      have e2:=zd8 hn
      refine⟨by rw[←Array.length_toList,←Array.length_toList,e1,e2],?_⟩
      rw[e1,e2]
      exact ints _ _ _
     ·cases h
    ·cases h
   ·cases h
  ·cases h
 ·cases h
theorem zmX (a:Array MapEntry) (p:Nat) (k v:Value):((a.modify p fun e=>{e with key:=k,val:=v}).toList.map fun e=>(e.key,e.val))=(a.toList.map fun e=>(e.key,e.val)).set p (k,v):=by
 rw[Array.toList_modify]
 apply List.ext_getElem?
 intro i
 simp only[List.getElem?_map,List.getElem?_modify,List.getElem?_set,List.length_map]
 by_cases h:p=i
 ·subst h
  by_cases hl:p<a.toList.length
  ·have:p<a.size:=by simpa using hl
   simp [this]
  ·have:a.size≤p:=by simpa using hl
   simp [this,Nat.not_lt.2 this]
 ·simp [h]
theorem zjC (a:Array MapEntry) (p:Nat) (k v:Value):((a.modify p fun e=>{e with key:=k,val:=v}).toList.map (·.born))=a.toList.map (·.born):=by
 rw[Array.toList_modify]
 apply List.ext_getElem?
 intro i
 simp only[List.getElem?_map,List.getElem?_modify]
 by_cases h:p=i
 ·subst h;cases a.toList[p]? <;> simp
 ·simp [h]
def zdI (T:Tys) (H:za) (t:TypeId) (m key v:Value) (k:za→Prop) (_:Tok k:= .mk):Prop:=
 match (T t).k,m with
 | .map kt _, .map (some r)=>Ob (zeX T kt key) (zfU (zq H r) fun es=>esK (zix T kt key v es) fun es'=>k (zab H r (.map es')))
 |_,_=>False
theorem zft {P:Program} {T:Tys} (hT:zT P T) {G:zb} {H:za} {t:TypeId} {m key v:Value} {kk:Unit→za→Prop} (h:zdI T H t m key v fun H'=>kk () H'):zQ P G (Instr.mapUpdate t m key v) H kk:=by
 unfold zdI at h
 split at h
 ·rename_i kt et r hk
  obtain⟨hkey,h⟩:=h
  obtain⟨d,hd,hf⟩:=hT.und hk (by simp)
  simp only[TK.fits] at hf;subst hf
  intro E w hw
  unfold zfU at h
  split at h
  ·rename_i es hes
   have hg:=hw.none hes
   unfold esK at h
   split at h
   ·rename_i es' hput
    refine zQ.of (P:=P) (G:=G) ?_ w hw
    unfold Instr.mapUpdate
    simp only[ze,zi hd]
    simp only[getObj,runS,hg,hes]
    refine⟨trivial,fun o ho=>?_⟩
    obtain⟨a,c,rfl,ha,hb,hc⟩:=ho
    simp only[zh,ze,zdR hT hkey]
    rw[←ha] at hput
    rcases zkx (i:=0) hput with ⟨p,w',h1,h2,h3,k0,h4,h5⟩| ⟨h1,h2⟩
    ·rw[zbY hT hkey h1]
     simp only[Nat.zero_add]
     have hk0:((a[p]?).map (·.key)).getD key=k0:=by
      rw[List.getElem?_map,Array.getElem?_toList] at h4
      cases hap:a[p]? with
      |none=>rw[hap] at h4;cases h4
      |some e=>rw[hap] at h4;simpa using h4
     simp only[hk0,Instr.keyThatStays,znz h5,if_true,zh,ze]
     simp only[setObj,runS,hes]
     refine⟨trivial,es',⟨_,c,rfl,?_,?_,?_⟩,h⟩
     ·rw[zmX,h3]
     ·rw[zjC];exact hb
     ·intro e he
      have:e.born∈(a.modify p fun e=>{e with key:=key,val:=v}).toList.map (·.born):=List.mem_map_of_mem he
      rw[zjC] at this
      obtain⟨e',he',heq⟩:=List.mem_map.1 this
      rw[←heq];exact hc e' he'
    ·rw[zbY hT hkey h1]
     simp only[setObj,runS,hes]
     refine⟨trivial,es',⟨_,c+1,rfl,?_,?_,?_⟩,h⟩
     ·rw[h2];simp
     ·simp only[Array.toList_push,List.map_append,List.map_cons,List.map_nil,List.pairwise_append,List.pairwise_cons,List.not_mem_nil,false_imp_iff,implies_true,List.Pairwise.nil,and_true,List.mem_map,List.mem_singleton,forall_eq,true_and]
      refine⟨hb,?_⟩
      rintro _ ⟨e,he,rfl⟩;exact hc e he
     ·intro e he
      simp only[Array.toList_push,List.mem_append,List.mem_singleton] at he
      rcases he with he|rfl
      ·exact Nat.lt_succ_of_lt (hc e he)
      ·exact Nat.lt_succ_self c
   ·exact h.elim
  ·exact h.elim
 ·exact h.elim
theorem zfV {α β:Type} (f:α→β): ∀ (l:List α) (p:Nat),(l.eraseIdx p).map f=(l.map f).eraseIdx p
 | [],_=>rfl
 |a::l,0=>rfl
 |a::l,p+1=>by simp [zfV f l p]
def zhz (T:Tys) (H:za) (t:TypeId) (m key:Value) (k:za→Prop) (_:Tok k:= .mk):Prop:=
 match (T t).k,m with
 | .map kt _, .map (some r)=>Ob (zeX T kt key) (zfU (zq H r) fun es=>esK (zny T kt key es) fun es'=>k (zab H r (.map es')))
 |_,_=>False
theorem zlr {P:Program} {T:Tys} (hT:zT P T) {G:zb} {H:za} {t u ty:TypeId} {m key:Value} {kk:Value→za→Prop} (h:zhz T H t m key fun H'=>kk (.tuple #[]) H'):zQ P G (Builtin.delete_ #[t,u] ty #[m,key]) H kk:=by
 unfold zhz at h
 split at h
 ·rename_i kt et r hk
  obtain⟨hkey,h⟩:=h
  obtain⟨d,hd,hf⟩:=hT.und hk (by simp)
  simp only[TK.fits] at hf;subst hf
  intro E w hw
  unfold zfU at h
  split at h
  ·rename_i es hes
   have hg:=hw.none hes
   unfold esK at h
   split at h
   ·rename_i es' hput
    refine zQ.of (P:=P) (G:=G) ?_ w hw
    have e0: ∃s1 s2,Builtin.delete_ #[t,u] ty #[.map (some r),key]=(do
      let .map keyType _ ←underlying t|stuck s1
      let .map es clock ←getObj r|stuck s2
      Instr.checkKey es.isEmpty 10000 keyType key
      match ←Instr.findKey keyType key es.toList with
      |some (i,_)=>setObj r (.map (es.eraseIdxIfInBounds i) clock)
      |none=>setObj r (.map es clock)
      pure (.tuple #[])):=by
     unfold Builtin.delete_;exact⟨_,_,rfl⟩
    obtain⟨s1,s2,e0⟩:=e0
    rw[e0]
    simp only[ze,zi hd]
    simp only[getObj,runS,hg,hes]
    refine⟨trivial,fun o ho=>?_⟩
    obtain⟨a,c,rfl,ha,hb,hc⟩:=ho
    simp only[zh,ze,zdR hT hkey]
    rw[←ha] at hput
    rcases zky (i:=0) hput with ⟨p,w',h1,h2,h3⟩| ⟨h1,h2⟩
    ·rw[zbY hT hkey h1]
     simp only[Nat.zero_add,setObj,ze,runS,hes]
     have hp:p<a.size:=by simpa using h2
     refine⟨trivial,es',⟨_,c,rfl,?_,?_,?_⟩,h⟩
     ·rw[h3];simp [Array.eraseIdxIfInBounds,hp,zfV]
     ·simp only[Array.eraseIdxIfInBounds,hp,dif_pos,Array.toList_eraseIdx,zfV]
      exact hb.sublist (List.eraseIdx_sublist _ _)
     ·intro e he
      simp only[Array.eraseIdxIfInBounds,hp,dif_pos,Array.toList_eraseIdx] at he
      exact hc e ((List.eraseIdx_sublist _ _).subset he)
    ·rw[zbY hT hkey h1]
     simp only[setObj,ze,runS,hes]
     refine⟨trivial,es',⟨_,c,rfl,by rw[h2,ha],hb,hc⟩,h⟩
   ·exact h.elim
  ·exact h.elim
 ·exact h.elim
theorem zkz {P:Program} {T:Tys} (hT:zT P T) {G:zb} {H:za} {t:TypeId} {kk:Value→za→Prop} (h:zda G (zm H) fun b=>kk (.map (some b)) ((b, .map [])::H)):zQ P G (Instr.makeMap t none) H kk:=by
 refine zQ.of ?_
 simp only[Instr.makeMap,newObj,ze,runS,zh]
 refine⟨by trivial,rfl,fun b hb=>?_⟩
 exact h b hb
def zhA (r:Option Res) (k:Value→Prop) (_:Tok k:= .mk):Prop:=zfU r fun es=>k (.int .i64 es.length)
theorem zls {P:Program} {T:Tys} (hT:zT P T) {G:zb} {H:za} {t ty:TypeId} {a b r:Nat} {kk:Value→za→Prop} (hk:(T t).k= .map a b) (h:zhA (zq H r) fun v=>kk v H):zQ P G (Builtin.len_ #[t] ty #[.map (some r)]) H kk:=by
 obtain⟨d,hd,hf⟩:=hT.und hk (by simp)
 simp only[TK.fits] at hf;subst hf
 unfold zhA zfU at h
 split at h
 ·rename_i es hes
  intro E w hw
  have hg:=hw.none hes
  refine zQ.of (P:=P) (G:=G) ?_ w hw
  simp [Builtin.len_,ze,zi hd,zh,getObj,runS,hg,hes,goInt]
  intro o ho
  obtain⟨a,c,rfl,ha,_⟩:=ho
  have:es.length=a.size:=by rw[←ha];simp
  rw[this] at h
  exact h
 ·exact h.elim
variable {E:Env}
def znA (a:Array MapEntry) (c:Nat):Res:= .inv fun o=>o= .map a c
def zhB (m since:Nat) (seen:Array Nat) (last:Nat):Res:= .inv fun o=>o= .mapIter (some m) since seen last
theorem HeapOk.exact {G:zb} {H:za} {w:World} (h:HeapOk E G H w) {b:Nat} {r:Res} (hf:zq H b=some r) {o:Obj} (ho:w.heap[b]? =some o) (hn:zeB o):HeapOk E G (zab H b (.inv fun o'=>o'=o)) w:=
 h.set (r':= .inv fun o'=>o'=o) hf ho ⟨rfl,hn⟩ (fun _ _=>rfl) ⟨rfl,rfl⟩
def zjb (T:Tys) (G:zb) (H:za) (t:TypeId) (v:Value) (k:Value→za→Prop) (_:Tok k:= .mk):Prop:=
 match (T t).k,v with
 | .map _ _, .map (some m)=>zfU (zq H m) fun es=> ∀ (a:Array MapEntry) (c:Nat),a.toList.map (fun e=>(e.key,e.val))=es→(a.toList.map (·.born)).Nodup→(∀e∈a.toList,e.born<c)→
   zda G (zm H) fun b=>k (.pointer (some ⟨b,0,none⟩)) ((b,zhB m c #[] c)::zab H m (znA a c))
 |_,_=>False
theorem zmY {P:Program} {T:Tys} (hT:zT P T) {G:zb} {H:za} {t:TypeId} {v:Value} {kk:Value→za→Prop} (h:zjb T G H t v kk):zQ P G (Instr.range t v) H kk:=by
 unfold zjb at h
 split at h
 ·rename_i kt et m hk
  obtain⟨d,hd,hf⟩:=hT.und hk (by simp)
  simp only[TK.fits] at hf;subst hf
  intro E w hw
  unfold zfU at h
  split at h
  ·rename_i es hes
   have hg:=hw.none hes
   obtain⟨o,ho,hh⟩:=hw.find hes
   obtain⟨a,c,rfl,ha,hb,hc⟩:=hh
   have hnd:(a.toList.map (·.born)).Nodup:=List.Pairwise.imp (fun{x y} hxy e=>by omega) hb
   have h:=h a c ha hnd hc
   have hw2:=hw.exact hes ho (by trivial)
   have hfm:zq (zab H m (.inv fun o'=>o'=Obj.map a c)) m=some (.inv fun o'=>o'=Obj.map a c):=zfv hes
   refine zQ.of (P:=P) (G:=G) ?_ w hw2
   unfold Instr.range
   simp only[ze,zi hd,zh]
   simp only[getObj,runS,hg,hfm,newObj]
   refine⟨trivial,fun o ho=>?_⟩
   subst ho
   simp only[zh,ze,runS]
   refine⟨trivial,rfl,fun b hb=>?_⟩
   rw[zin] at hb
   exact h b hb
  ·exact h.elim
 ·exact h.elim
def zsy (H:za) (v:Value) (k:Value→za→Prop) (_:Tok k:= .mk):Prop:=
 ∃b m since seen last a c,v= .pointer (some ⟨b,0,none⟩)∧zq H b=some (zhB m since seen last)∧zq H m=some (znA a c)∧(∀x∈a.toList,x.born<since)∧since≤last∧
  ((leftOf a seen).size=0→k (.tuple #[.bool false]) H)∧ ∀e∈(leftOf a seen).toList,k (.tuple #[.bool true,e.key,e.val]) (zab H b (zhB m since (seen.push e.born) c))
theorem znB {P:Program} {G:zb} {H:za} {v:Value} {ty:TypeId} {kk:Value→za→Prop} (h:zsy H v kk):zQ P G (Instr.next v false ty) H kk:=by
 obtain⟨b,m,since,seen,last,a,c,rfl,hb,hm,hold,hsc,h0,h1⟩:=h
 intro E w hw
 have hgb:=hw.none hb
 have hgm:=hw.none hm
 refine zQ.of (P:=P) (G:=G) ?_ w hw
 unfold Instr.next
 simp only[ze,zh,getObj,runS,hgb,hb,zhB]
 refine⟨trivial,fun o ho=>?_⟩
 subst ho
 simp only[ze,zh,getObj,runS,hgm,hm,znA]
 refine⟨trivial,fun o ho=>?_⟩
 subst ho
 simp only[next_test_false seen a since last hold hsc,Bool.false_eq_true,if_false,ze,zh]
 have hmem: ∀x∈(leftOf a seen).toList,x.born<since:=fun x hx=>hold x (mem_left hx).1
 show runS false P G (do
  let left:=leftOf a seen
  let old:=left.filter (·.born<since)
  let new:=left.filter (·.born≥since)
  let candidates:=(if old.isEmpty then #[none] else #[])++(old++new).map some
  match candidates[←choose (.mapNext candidates.size)]? with
  |some (some e)=>
   setObj b (.mapIter (some m) since (seen.push e.born) c)
   pure (.tuple #[.bool true,e.key,e.val])
  |some none=>pure (.tuple #[.bool false])
  |none=>stuck "Next: no such candidate") H kk
 generalize leftOf a seen=L at hmem h0 h1⊢
 have e1:L.filter (fun x=>decide (x.born<since))=L:=Array.filter_eq_self.2 (fun x hx=>by simpa using hmem x (by simpa using hx))
 have e2:L.filter (fun x=>decide (x.born≥since))= #[]:=by
  rw[Array.filter_eq_empty_iff]
  intro x hx
  have:=hmem x (by simpa using hx)
  simp
  omega
 simp only[e1,e2,Array.append_empty]
 by_cases hz:L.size=0
 ·have:L= #[]:=Array.eq_empty_of_size_eq_zero hz
  subst this
  simp [choose,runS,ze,Question.forced,zh]
  exact h0 rfl
 ·have hne:L.isEmpty=false:=by simp [Array.isEmpty,hz]
  simp only[hne,Bool.false_eq_true,if_false,Array.empty_append,Array.size_map]
  have key: ∀j,j<L.size→runS false P G (match (L.map some)[j]? with
    |some (some e)=>do
     setObj b (.mapIter (some m) since (seen.push e.born) c)
     pure (.tuple #[.bool true,e.key,e.val])
    |some none=>pure (.tuple #[.bool false])
    |none=>stuck "Next: no such candidate") H kk:=fun j hj=>by
   rw[Array.getElem?_map,Array.getElem?_eq_getElem hj]
   simp only[Option.map_some,setObj,runS,ze,hb,zhB,zh]
   exact⟨trivial,trivial,h1 L[j] (by simp)⟩
  simp only[choose,ze,runS]
  split
  ·exact key 0 (by omega)
  ·exact⟨trivial,fun t=>key _ (Nat.mod_lt _ (by omega))⟩
def zp9 (H:za) (v:Value) (k:Value→Prop) (_:Tok k:= .mk):Prop:=
 ∃b m since seen c a e,v= .pointer (some ⟨b,0,none⟩)∧zq H b=some (zhB m since (Array.push seen e.born) c)∧zq H m=some (znA a c)∧e∈a.toList∧(a.toList.map (·.born)).Nodup∧k (.tuple #[e.key,e.val])
theorem zmZ {P:Program} {G:zb} {H:za} {v:Value} {kk:Value→za→Prop} (h:zp9 H v fun v=>kk v H):zQ P G (Instr.entry v) H kk:=by
 obtain⟨b,m,since,seen,c,a,e,rfl,hb,hm,he,hn,h⟩:=h
 intro E w hw
 have hgb:=hw.none hb
 have hgm:=hw.none hm
 have hf:a.find? (·.born==e.born)=some e:=by rw[←Array.find?_toList];exact find_born e a.toList hn he
 refine zQ.of (P:=P) (G:=G) ?_ w hw
 unfold Instr.entry
 simp only[ze,zh,getObj,runS,hgb,hb,zhB]
 refine⟨trivial,fun o ho=>?_⟩
 subst ho
 simp only[Array.back?_push,ze,zh,getObj,runS,hgm,hm,znA]
 refine⟨trivial,fun o ho=>?_⟩
 subst ho
 simp only[bne_self_eq_false,Bool.false_eq_true,if_false,ze,zh,hf]
 exact h
variable {E:Env}
def PLe (G G':zb):Prop:= ∀b o,G b=some o→G' b=some o
theorem PLe.refl (G:zb):PLe G G:=fun _ _ h=>h
theorem PLe.trans {G G' G'':zb} (h:PLe G G') (h':PLe G' G''):PLe G G'':=fun b o hb=>h' b o (h b o hb)
def Callee (P:Program) (f:FuncId):Prop:= ∃fn c,P.funcs[f]? =some fn∧fn.body=some c∧(fn.name== "runtime.NumGoroutine")=false
def zlt (P:Program) (f:FuncId) (args:List Value) (w:World) (Q:Value→World→Prop):Prop:=
 (Callee P f∧Calls P f args.toArray w fun e w'=> ∃v,e= .returned v∧Q v w')∨ ∃v w',(callFunc f args.toArray).run P w= .ok (.value v) w'∧Q v w'
theorem zlt.mono {P:Program} {f:FuncId} {args:List Value} {w:World} {Q Q':Value→World→Prop} (h:zlt P f args w Q) (hq: ∀v w',Q v w'→Q' v w'):zlt P f args w Q':=by
 rcases h with ⟨h1,h2⟩| ⟨v,w',h1,h2⟩
 ·exact .inl ⟨h1,h2.mono fun _ _ ⟨v,e,h⟩=>⟨v,e,hq v _ h⟩⟩
 ·exact .inr ⟨v,w',h1,hq v w' h2⟩
theorem zlt.calls {P:Program} {f:FuncId} {args:List Value} {w:World} {Q:Value→World→Prop} (hc:Callee P f) (h:zlt P f args w Q):Calls P f args.toArray w fun e w'=> ∃v,e= .returned v∧Q v w':=by
 rcases h with ⟨_,h2⟩| ⟨v,w',h1,h2⟩
 ·exact h2
 ·obtain⟨fn,c,hfn,hbody,hname⟩:=hc
  have hname': ¬fn.name= "runtime.NumGoroutine" :=by simpa using hname
  have hr:(callFunc f args.toArray).run P w= .ok (.enter f args.toArray) w:=by simp [callFunc,hfn,hname',hbody]
  rw[hr] at h1
  cases h1
def FnT (P:Program) (f:FuncId) (args:List Value) (G:zb) (H:za) (R:Value→zb→za→Prop) (_:Tok R:= .mk):Prop:=
 ∀ ⦃E:Env⦄ w,HeapOk E G H w→zlt P f args w fun v w'=> ∃G' H',PLe G G'∧HeapOk E G' H' w'∧R v G' H'
theorem FnT.mono {P:Program} {f:FuncId} {args:List Value} {G:zb} {H:za} {R R':Value→zb→za→Prop} (h:FnT P f args G H R)
  (hr: ∀v G' H',PLe G G'→Sep G' (zm H')→R v G' H'→R' v G' H'):FnT P f args G H R':=
 fun _ w hw=>(h w hw).mono fun v _ ⟨G',H',h1,h2,h3⟩=>⟨G',H',h1,h2,hr v G' H' h1 h2.sep h3⟩
theorem FnT.own {P:Program} {f:FuncId} {args:List Value} {G:zb} {H:za} {R:Value→zb→za→Prop} (hc:Callee P f)
  (h: ∀ ⦃E:Env⦄ w,HeapOk E G H w→Calls P f args.toArray w fun e w'=> ∃v G' H',e= .returned v∧PLe G G'∧HeapOk E G' H' w'∧R v G' H'):FnT P f args G H R:=
 fun _ w hw=> .inl ⟨hc,(h w hw).mono fun _ _ ⟨v,G',H',e,h1,h2,h3⟩=>⟨v,e,G',H',h1,h2,h3⟩⟩
theorem FnT.calls {P:Program} {f:FuncId} {args:List Value} {G:zb} {H:za} {R:Value→zb→za→Prop} (hc:Callee P f) (h:FnT P f args G H R) {w:World} (hw:HeapOk E G H w):
  Calls P f args.toArray w fun e w'=> ∃v G' H',e= .returned v∧PLe G G'∧HeapOk E G' H' w'∧R v G' H':=
 ((h w hw).calls hc).mono fun _ _ ⟨v,e,G',H',h1,h2,h3⟩=>⟨v,G',H',e,h1,h2,h3⟩
def evK (l:Fr) (xs:List Operand) (k:List Value→Prop) (_:Tok k:= .mk):Prop:=
 match xs with
 | []=>k []
 |x::xs=>zC (ev l x) fun v=>evK l xs fun vs=>k (v::vs)
theorem zw1 (l:Fr) (k:List Value→Prop):evK l [] k=k []:=rfl
theorem zuE (l:Fr) (x:Operand) (xs:List Operand) (k:List Value→Prop):evK l (x::xs) k=zC (ev l x) fun v=>evK l xs fun vs=>k (v::vs):=rfl
def zjU (l:Fr) (xs:List (Nat×Operand)) (k:List (Nat×Value)→Prop) (_:Tok k:= .mk):Prop:=
 match xs with
 | []=>k []
 |x::xs=>zC (ev l x.2) fun v=>zjU l xs fun vs=>k ((x.1,v)::vs)
theorem zuF (l:Fr) (k:List (Nat×Value)→Prop):zjU l [] k=k []:=rfl
theorem zsz (l:Fr) (i:Nat) (x:Operand) (xs:List (Nat×Operand)) (k:List (Nat×Value)→Prop):zjU l ((i,x)::xs) k=zC (ev l x) fun v=>zjU l xs fun vs=>k ((i,v)::vs):=rfl
def evO (l:Fr) (x:Option Operand) (k:Option Value→Prop) (_:Tok k:= .mk):Prop:=
 match x with
 |none=>k none
 |some x=>zC (ev l x) fun v=>k (some v)
theorem zuG (l:Fr) (k:Option Value→Prop):evO l none k=k none:=rfl
theorem zuH (l:Fr) (x:Operand) (k:Option Value→Prop):evO l (some x) k=zC (ev l x) fun v=>k (some v):=rfl
section evs
variable {sz:Nat} {G:zb} {l:Fr} {H:za} {a:Act} {w:World} (h:Sim E sz G l H a w)
include h
theorem zx {x:Operand} {k:Value→Prop} (hk:zC (ev l x) k):k (a.eval x):=by
 unfold zC at hk
 split at hk
 ·rename_i v hv;rw[h.ev hv];exact hk
 ·exact hk.elim
theorem zhc {x:Option Operand} {k:Option Value→Prop} (hk:evO l x k):k (x.map a.eval):=by
 cases x with
 |none=>exact hk
 |some x=>exact zx h hk
end evs
theorem zel {sz:Nat} {G:zb} {l:Fr} {H:za} {a:Act} {w:World} (h:Sim E sz G l H a w): ∀ {xs:List Operand} {k:List Value→Prop},evK l xs k→k (xs.map a.eval)
 | [],k,hk=>hk
 |x::xs,k,hk=>by
  have h1:=zx h hk
  exact zel (xs:=xs) (k:=fun vs=>k (a.eval x::vs)) h h1
theorem zjc {sz:Nat} {G:zb} {l:Fr} {H:za} {a:Act} {w:World} (h:Sim E sz G l H a w): ∀ {xs:List (Nat×Operand)} {k:List (Nat×Value)→Prop},zjU l xs k→k (xs.map fun p=>(p.1,a.eval p.2))
 | [],k,hk=>hk
 |x::xs,k,hk=>by
  have h1:=zx h hk
  exact zjc (xs:=xs) (k:=fun vs=>k ((x.1,a.eval x.2)::vs)) h h1
def zjd (t:Bool) (a b:Value):Value:=
 match a,b with
 | .bool x, .bool y=> .bool (if t then x else y)
 |a,b=>if t then a else b
theorem zhC (t:Bool) (a b:Value):zjd t a b=if t then a else b:=by
 unfold zjd;split
 ·split <;> rfl
 ·rfl
theorem zqR (a b:Value):zjd true a b=a:=by rw[zhC];rfl
theorem zpb (a b:Value):zjd false a b=b:=by rw[zhC];rfl
theorem zqS (t x y:Bool):zjd t (.bool x) (.bool y)= .bool (if t then x else y):=rfl
def zng (c a b:Value) (k:Value→Prop) (_:Tok k:= .mk):Prop:=
 match c with
 | .bool t=>k (zjd t a b)
 |_=>False
def zlu (v:Value) (k:Value→Prop) (_:Tok k:= .mk):Prop:=
 match v with
 | .pointer (some _)=>k v
 | .func (.func _) _ _=>k v
 | .iface .. =>k v
 |_=>False
def zje (P:Program) (fv:Value) (vs:List Value) (G:zb) (H:za) (k:Value→zb→za→Prop) (_:Tok k:= .mk):Prop:=
 match fv with
 | .func (.func f) first caps=>FnT P f (first.toList++vs++caps.toList) G H k
 |_=>False
def zkA (T:Tys) (G:zb) (H:za) (t:TypeId) (d s:Value) (k:Value→za→Prop) (_:Tok k:= .mk):Prop:=
 match (T t).k,d,s with
 | .slice e, .slice (some ⟨b,o,none⟩) n _, .slice a n' _=>(T e).k≠ .none∧rdSl G H a (min n' n * (T e).size) fun cs=>zdA H b o cs fun H'=>k (.int .i64 (min n' n:Nat)) H'
 |_,_,_=>False
theorem znC {P:Program} {T:Tys} (hT:zT P T) {G:zb} {H:za} {t u ty:TypeId} {d s:Value} {kk:Value→za→Prop} (h:zkA T G H t d s kk):
  runS false P G (Builtin.copy_ #[t,u] ty #[d,s]) H kk:=by
 unfold zkA at h
 split at h
 ·rename_i e b o n c a n' c' hf
  obtain⟨hk,h⟩:=h
  obtain⟨d,hd,hfit⟩:=hT.und hf (by simp)
  simp only[TK.fits] at hfit
  subst hfit
  obtain⟨i,z,hi,hs,_⟩:=hT.info hk
  have hr:runS false P G (Builtin.firstCells i.size (Nat.min n' n) (.slice a n' c')) H fun new H'=>runS false P G (storeCells ⟨b,o,none⟩ new.toList) H' fun _ H''=>kk (.int .i64 (min n' n:Nat)) H'':=by
   rw[hs]
   unfold rdSl at h
   split at h
   ·rename_i b' o'
    refine zbU ?_
    obtain⟨cs,h1,h2,h3⟩:=zfS h
    refine h3 _ ?_
    exact zcf cs 0 h1
   ·have h0:Nat.min n' n * (T e).size=0:=h.1
    have h1:runS false P G (storeCells ⟨b,o,none⟩ ([]:List Value)) H fun _ H''=>kk (.int .i64 (min n' n:Nat)) H'':=zcf [] 0 h.2
    cases a with
    |none=>exact h1
    |some a=>
     simp only[Builtin.firstCells,h0]
     exact h1
  simp [Builtin.copy_,ze,zi hd,zam hi,zh,zdU,Builtin.lenOf,goInt] at hr⊢
  exact hr
 ·exact h.elim
def zqT (T:Tys) (H:za) (t:TypeId) (x:Value) (k:Value→Prop) (_:Tok k:= .mk):Prop:=
 match x with
 | .map (some r)=>match (T t).k with
  | .map .. =>zhA (zq H r) k
  |_=>False
 |x=>znc T t x k
def zhD (T:Tys) (G:zb) (H:za) (b:Builtin) (ts:List TypeId) (vs:List Value) (k:Value→za→Prop) (_:Tok k:= .mk):Prop:=
 match b,ts,vs with
 | .len,[t],[x]=>zqT T H t x fun v=>k v H
 | .delete,[t,_],[m,key]=>zhz T H t m key fun H'=>k (.tuple #[]) H'
 | .append,[t,u],[s,x]=>zht T G H t u s x k
 | .min,_,vs=>zne vs fun v=>k v H
 | .max,_,vs=>znf vs fun v=>k v H
 | .copy,[t,_],[d,s]=>zkA T G H t d s k
 | .cap,[t],[x]=>znd T t x fun v=>k v H
 |_,_,_=>False
def zaq (P:Program) (T:Tys) (op:Op) (G:zb) (l:Fr) (H:za) (k:Value→zb→za→Prop) (_:Tok k:= .mk):Prop:=
 match op with
 | .move x| .assign x=>zC (ev l x) fun v=>k v G H
 | .pick c a b=>zC (ev l c) fun cv=>zC (ev l a) fun av=>zC (ev l b) fun bv=>zng cv av bv fun v=>k v G H
 | .alloc e=>(T e).k≠ .none∧zda G (zm H) fun b=>k (.pointer (some ⟨b,0,none⟩)) G ((b, .cells (T e).zero [] e)::H)
 | .box e x=>zC (ev l x) fun v=>zda G (zm H) fun b=>k (.pointer (some ⟨b,0,none⟩)) G ((b, .cells (zcF v) [] e)::H)
 | .build t parts=>zjU l parts.toList fun ps=>zfH T t ps fun v=>k v G H
 | .buildSlice t n parts=>zjU l parts.toList fun ps=>zdb T t n ps fun e cs=>zda G (zm H) fun b=>k (.slice (some ⟨b,0,none⟩) n n) G ((b, .cells cs [] e)::H)
 | .load t x=>zC (ev l x) fun v=>zej T G H t v fun v=>k v G H
 | .store t x y=>zC (ev l x) fun av=>zC (ev l y) fun v=>zi7 T H t av v fun H'=>k undef G H'
 | .nilCheck x=>zC (ev l x) fun v=>zlu v fun v=>k v G H
 | .binOp op t x y _=>zC (ev l x) fun xv=>zC (ev l y) fun yv=>zku T op t xv yv fun v=>k v G H
 | .unOp op _ x=>zC (ev l x) fun v=>zqK op v fun v=>k v G H
 | .convert s d x=>zC (ev l x) fun v=>ziv T G H s d v fun v H'=>k v G H'
 | .makeFunc fn first caps=>evK l first.toList fun fs=>evK l caps.toList fun cs=>k (.func fn fs.toArray cs.toArray) G H
 | .makeMap t none=>zda G (zm H) fun b=>k (.map (some b)) G ((b, .map [])::H)
 | .makeMap t (some r)=>zC (ev l r) fun _=>False
 | .lookup t x i ok=>zC (ev l x) fun m=>zC (ev l i) fun key=>zhy T H t m key ok fun v=>k v G H
 | .mapUpdate t x i y=>zC (ev l x) fun m=>zC (ev l i) fun key=>zC (ev l y) fun v=>zdI T H t m key v fun H'=>k undef G H'
 | .insert t x i y=>zC (ev l x) fun m=>zC (ev l i) fun key=>zC (ev l y) fun v=>zdI T H t m key v fun H'=>k undef G H'
 | .makeSlice t n c=>zC (ev l n) fun nv=>zC (ev l c) fun cv=>zeW T G H t nv cv fun v H'=>k v G H'
 | .slice t x lo hi mx=>zC (ev l x) fun xv=>evO l lo fun lv=>evO l hi fun hv=>evO l mx fun mv=>zja T t xv lv hv mv fun v=>k v G H
 | .fieldAddr t x f=>zC (ev l x) fun v=>zi8 T t v f fun v=>k v G H
 | .field t x f=>zC (ev l x) fun v=>zhr T t v f fun v=>k v G H
 | .indexAddr t x i=>zC (ev l x) fun xv=>zC (ev l i) fun iv=>zeV T t xv iv fun v=>k v G H
 | .index t x i=>zC (ev l x) fun xv=>zC (ev l i) fun iv=>zi9 T t xv iv fun v=>k v G H
 | .extract x i=>zC (ev l x) fun v=>zgq v i fun v=>k v G H
 | .range t x=>zC (ev l x) fun v=>zjb T G H t v fun v H'=>k v G H'
 | .next x isS=>zC (ev l x) fun v=>isS=false∧zsy H v fun v H'=>k v G H'
 | .entry x=>zC (ev l x) fun v=>zp9 H v fun v=>k v G H
 | .call c=>match c.callee with
  | .value f=>zC (ev l f) fun fv=>evK l c.args.toList fun vs=>zje P fv vs G H k
  | .builtin b=>evK l c.args.toList fun vs=>zhD T G H b c.argTypes.toList vs fun v H'=>k v G H'
  | .invoke .. =>False
 |_=>False
theorem zQ.wp {P:Program} {G:zb} {H:za} {s:Sem Value} {kk:Value→za→Prop} (h:zQ P G s H kk) {o:Oper} {a:Act} {w:World} (hw:HeapOk E G H w)
  {next:Act→World→Prop} {Q:Exit→Act→World→Prop} (he:execOp a.eval o=(do pure (.value (←s)))) (hk: ∀v H' w',HeapOk E G H' w'→kk v H'→next (a.put o.dst v) w'):o.wp P a w next Q:=by
 obtain⟨v,w',H',h1,h2,h3⟩:=h w hw
 unfold Oper.wp
 rw[he,Sem.run_bind,h1]
 exact hk v H' w' h2 h3
theorem zQ.wpU {P:Program} {G:zb} {H:za} {s:Sem Unit} {kk:Unit→za→Prop} (h:zQ P G s H kk) {o:Oper} {a:Act} {w:World} (hw:HeapOk E G H w)
  {next:Act→World→Prop} {Q:Exit→Act→World→Prop} (he:execOp a.eval o=(do s;pure .skip)) (hk: ∀H' w',HeapOk E G H' w'→kk () H'→next (a.put o.dst undef) w'):o.wp P a w next Q:=by
 obtain⟨v,w',H',h1,h2,h3⟩:=h w hw
 unfold Oper.wp
 rw[he,Sem.run_bind,h1]
 exact hk H' w' h2 h3
theorem zjD {q:Bool} {P:Program} {T:Tys} (hT:zT P T) {G:zb} {H:za} {op:BinOp} {t:TypeId} {x y:Operand} {a b:Value} {k:Value→Prop} (h:zku T op t a b k) (K:Unit→za→Prop):runS q P G (eqGuard op t x y a b) H K=K () H:=by
 unfold eqGuard
 cases a <;> cases b <;> try first|exact h.elim| (cases op <;> rfl)
 rename_i xs ys
 have key: ∀other:Sem Unit,(T t).eq=true→(T t).k≠ .none→runS q P G (do
   if !(←program).eqGuardType (←program).depth t then return
   other:Sem Unit) H K=K () H:=fun other he hk=>by
  obtain⟨d,hd,_,hq⟩:=hT.eqd hk he
  simp only[eqB,Bool.and_eq_true,Bool.not_eq_true'] at hq
  unfold program
  simp only[ze,runS,hq.1,zh]
  rfl
 have kn: ∀b,eqT T 9 t (.agg xs) (.agg ys)=some b→(T t).k≠ .none:=fun b hb e=>by simp [eqT,e] at hb
 cases op <;> try exact h.elim
 ·obtain⟨he,h⟩:=h
  unfold eqK at h
  split at h
  ·rename_i b hb;exact key _ he (kn b hb)
  ·exact h.elim
 ·obtain⟨he,h⟩:=h
  unfold eqK at h
  split at h
  ·rename_i b hb;exact key _ he (kn b hb)
  ·exact h.elim
theorem zjE {P:Program} {T:Tys} (hT:zT P T) {o:Oper} {sz:Nat} {G:zb} {l:Fr} {H:za} {a:Act} {w:World} {k:Value→zb→za→Prop}
  {next:Act→World→Prop} {Q:Exit→Act→World→Prop} (h:zaq P T o.op G l H k) (hs:Sim E sz G l H a w)
  (hk: ∀v G' H' w',PLe G G'→HeapOk E G' H' w'→k v G' H'→next (a.put o.dst v) w'):o.wp P a w next Q:=by
 obtain⟨dst,op,ty,pos,after,guard⟩:=o
 have hw:=hs.heap
 have val: ∀ (s:Sem Value) {kk:Value→za→Prop},zQ P G s H kk→execOp a.eval ⟨dst,op,ty,pos,after,guard⟩=(do pure (.value (←s)))→(∀v H',kk v H'→k v G H')→
   Oper.wp P ⟨dst,op,ty,pos,after,guard⟩ a w next Q:=fun s kk hd he hkk=>hd.wp hw he fun v H' w' h1 h2=>hk v G H' w' (PLe.refl _) h1 (hkk v H' h2)
 cases op <;> simp only[zaq] at h <;> try exact h.elim
 case move x=>
  have h1:=zx hs h
  exact val (pure (a.eval x)) (kk:=fun v H'=>k v G H') (zQ.of (by rw[zh];exact h1)) rfl (fun _ _ h=>h)
 case assign x=>
  have h1:=zx hs h
  exact val (pure (a.eval x)) (kk:=fun v H'=>k v G H') (zQ.of (by rw[zh];exact h1)) rfl (fun _ _ h=>h)
 case pick c x y=>
  have h1:=zx hs (zx hs (zx hs h))
  unfold zng at h1
  split at h1
  ·rename_i t hc
   refine val (pure (if t then a.eval x else a.eval y)) (kk:=fun v H'=>k v G H') (zQ.of (by rw[zh,←zhC];exact h1)) ?_ (fun _ _ h=>h)
   simp only[execOp,hc,asBool]
   cases t <;> rfl
  ·exact h1.elim
 case alloc e=>
  obtain⟨hke,h⟩:=h
  obtain⟨i,z,hi,hsz,_,hz,hzc⟩:=hT.info hke
  refine val _ (kk:=fun v H'=>k v G H') (zQ.of ?_) rfl (fun _ _ h=>h)
  simp only[Instr.alloc,ze,za8 hi hz,newVar,newRow,newObj,runS,zh]
  refine⟨by trivial,by simp [zbt],fun b hb=>?_⟩
  simp only[zeh,if_true,hzc]
  exact h b hb
 case box e x=>
  have h1:=zx hs h
  refine val _ (kk:=fun v H'=>k v G H') (zQ.of ?_) rfl (fun _ _ h=>h)
  simp only[Instr.box,ze,newVar,newRow,newObj,runS,zh]
  refine⟨by trivial,by simp [zbt],fun b hb=>?_⟩
  simp only[zeh,if_true,ze8]
  exact h1 b hb
 case build t parts=>
  have h1:=zjc hs h
  have h2:zfH T t (parts.map fun p=>(p.1,a.eval p.2)).toList fun v=>k v G H:=by rw[Array.toList_map];exact h1
  exact val (Instr.build t (parts.map fun p=>(p.1,a.eval p.2))) (kk:=fun v H'=>k v G H') (zQ.of (zii hT h2)) (by simp only[execOp]) (fun _ _ h=>h)
 case buildSlice t n parts=>
  have h1:=zjc hs h
  have h2:zdb T t n (parts.map fun p=>(p.1,a.eval p.2)).toList fun e cs=>zda G (zm H) fun b=>k (.slice (some ⟨b,0,none⟩) n n) G ((b, .cells cs [] e)::H):=by rw[Array.toList_map];exact h1
  exact val (Instr.buildSlice t n (parts.map fun p=>(p.1,a.eval p.2))) (kk:=fun v H'=>k v G H') (zQ.of (ziw hT (kk:=fun v H'=>k v G H') h2)) (by simp only[execOp]) (fun _ _ h=>h)
 case load t x=>exact val _ (kk:=fun v H'=>k v G H') (zQ.of (zfQ hT (zx hs h))) rfl (fun _ _ h=>h)
 case store t x y=>
  have h1:=zx hs (zx hs h)
  exact(zQ.of (zmV hT (kk:=fun _ H'=>k undef G H') h1)).wpU hw rfl fun H' w' h2 h3=>hk undef G H' w' (PLe.refl _) h2 h3
 case nilCheck x=>
  have h1:=zx hs h
  refine val (pure (a.eval x)) (kk:=fun v H'=>k v G H') (zQ.of (by rw[zh];unfold zlu at h1;split at h1 <;> first|exact h1|exact h1.elim)) ?_ (fun _ _ h=>h)
  unfold zlu at h1
  simp only[execOp]
  split at h1
  ·rename_i v p hp;rw[hp];rfl
  ·rename_i v f fs cs hp;rw[hp];rfl
  ·rename_i v p hp;rw[hp];rfl
  ·exact h1.elim
 case binOp op t x y u=>
  have h1:=zx hs (zx hs h)
  refine val (do eqGuard op t x y (a.eval x) (a.eval y);binOp op t (a.eval x) (a.eval y)) (kk:=fun v H'=>k v G H') (zQ.of ?_) ?_ (fun _ _ h=>h)
  ·rw[ze,zjD hT h1];exact zjv hT h1
  ·simp only[execOp]
 case unOp op t x=>exact val _ (kk:=fun v H'=>k v G H') (zQ.of (zkv (zx hs h))) rfl (fun _ _ h=>h)
 case convert s d x=>exact val _ (kk:=fun v H'=>k v G H') (znv hT (zx hs h)) rfl (fun _ _ h=>h)
 case fieldAddr t x f=>exact val _ (kk:=fun v H'=>k v G H') (zQ.of (zif hT (zx hs h))) rfl (fun _ _ h=>h)
 case field t x f=>exact val _ (kk:=fun v H'=>k v G H') (zQ.of (zha hT (zx hs h))) rfl (fun _ _ h=>h)
 case indexAddr t x i=>exact val _ (kk:=fun v H'=>k v G H') (zQ.of (zfs hT (zx hs (zx hs h)))) rfl (fun _ _ h=>h)
 case index t x i=>exact val _ (kk:=fun v H'=>k v G H') (zQ.of (zig hT (zx hs (zx hs h)))) rfl (fun _ _ h=>h)
 case extract x i=>exact val _ (kk:=fun v H'=>k v G H') (zQ.of (zgr (zx hs h))) rfl (fun _ _ h=>h)
 case makeFunc fn first caps=>
  have h1:=zel hs (zel hs h)
  refine val _ (kk:=fun v H'=>k v G H') (zQ.of ?_) rfl (fun _ _ h=>h)
  simp only[Instr.makeFunc,zh]
  have e1:(first.toList.map a.eval).toArray=first.map a.eval:=by apply Array.ext';simp
  have e2:(caps.toList.map a.eval).toArray=caps.map a.eval:=by apply Array.ext';simp
  rw[e1,e2] at h1;exact h1
 case makeMap t r=>
  cases r with
  |none=>exact val _ (kk:=fun v H'=>k v G H') (zkz hT (t:=t) h) rfl (fun _ _ h=>h)
  |some r=>exact(zx hs h).elim
 case lookup t x i ok=>exact val _ (kk:=fun v H'=>k v G H') (zlq hT (zx hs (zx hs h))) rfl (fun _ _ h=>h)
 case mapUpdate t x i y=>exact(zft hT (kk:=fun _ H'=>k undef G H') (zx hs (zx hs (zx hs h)))).wpU hw rfl fun H' w' h2 h3=>hk undef G H' w' (PLe.refl _) h2 h3
 case insert t x i y=>exact(zft hT (kk:=fun _ H'=>k undef G H') (zx hs (zx hs (zx hs h)))).wpU hw rfl fun H' w' h2 h3=>hk undef G H' w' (PLe.refl _) h2 h3
 case makeSlice t n c=>exact val _ (kk:=fun v H'=>k v G H') (zju hT (zx hs (zx hs h))) rfl (fun _ _ h=>h)
 case slice t x lo hi mx=>exact val _ (kk:=fun v H'=>k v G H') (zQ.of (zih hT (zhc hs (zhc hs (zhc hs (zx hs h)))))) rfl (fun _ _ h=>h)
 case range t x=>exact val _ (kk:=fun v H'=>k v G H') (zmY hT (zx hs h)) rfl (fun _ _ h=>h)
 case next x isS=>
  obtain⟨rfl,h1⟩:=zx hs h
  exact val _ (kk:=fun v H'=>k v G H') (znB h1) rfl (fun _ _ h=>h)
 case entry x=>exact val _ (kk:=fun v H'=>k v G H') (zmZ (zx hs h)) rfl (fun _ _ h=>h)
 case call c=>
  obtain⟨callee,args,ats⟩:=c
  cases callee with
  |invoke r m=>exact h.elim
  |value f=>
   have h1:=zel hs (zx hs h)
   unfold zje at h1
   split at h1
   ·rename_i fv g first caps hf
    have hgo:=h1 w hw
    have he:execOp a.eval ⟨dst, .call {callee:= .value f,args:=args,argTypes:=ats},ty,pos,after,guard⟩=callFunc g (first++args.map a.eval++caps):=by
     simp only[execOp,resolve,hf,Deferred.ofValue,pure_bind,invoke]
    unfold Oper.wp
    rw[he]
    have hargs:(first.toList++args.toList.map a.eval++caps.toList).toArray=first++args.map a.eval++caps:=by apply Array.ext';simp
    rcases hgo with ⟨⟨fn,c,hfn,hbody,hname⟩,hcall⟩| ⟨v,w',hrun,G',H',h2,h3,h4⟩
    ·have hr:(callFunc g (first++args.map a.eval++caps)).run P w= .ok (.enter g (first++args.map a.eval++caps)) w:=by
      have hname': ¬fn.name= "runtime.NumGoroutine" :=by simpa using hname
      simp [callFunc,hfn,hname',hbody]
     rw[hr,Oper.upon_enter]
     rw[hargs] at hcall
     refine hcall.mono fun e w' ⟨v,he,G',H',h2,h3,h4⟩=>?_
     subst he
     exact hk v G' H' w' h2 h3 h4
    ·rw[hargs] at hrun
     rw[hrun,Oper.upon_value]
     exact hk v G' H' w' h2 h3 h4
   ·exact h1.elim
  |builtin b=>
   have h1:=zel hs h
   unfold zhD at h1
   have hex: ∀ (s:Sem Value),builtin b ats ty (args.map fun| .const _=>true|_=>false) (args.map a.eval)=(do pure (.value (←s)))→
     execOp a.eval ⟨dst, .call {callee:= .builtin b,args:=args,argTypes:=ats},ty,pos,after,guard⟩=(do pure (.value (←s))):=fun s hb=>by
    simp only[execOp,resolve,pure_bind,invoke]
    exact hb
   have harr: ∀vs:List Value,args.toList.map a.eval=vs→args.map a.eval=vs.toArray:=fun vs hv=>by apply Array.ext';simpa using hv
   have htys: ∀ts:List TypeId,ats.toList=ts→ats=ts.toArray:=fun ts hv=>by apply Array.ext';simpa using hv
   split at h1
   ·rename_i t x ht hx
    refine val (Builtin.len_ #[t] ty #[x]) (kk:=fun v H'=>k v G H') ?_ (hex _ ?_) (fun _ _ h=>h)
    ·unfold zqT at h1
     split at h1
     ·split at h1
      ·rename_i hmk;exact zls hT hmk h1
      ·exact h1.elim
     ·exact zQ.of (zjz hT h1)
    ·rw[harr _ hx,htys _ ht]
     exact rfl
   ·rename_i t u m key ht hx
    refine val (Builtin.delete_ #[t,u] ty #[m,key]) (kk:=fun v H'=>k v G H') (zlr hT h1) (hex _ ?_) (fun _ _ h=>h)
    rw[harr _ hx,htys _ ht]
    exact rfl
   ·rename_i t u s x ht hx
    refine val (Builtin.append_ #[t,u] ty #[s,x]) (kk:=fun v H'=>k v G H') (zln hT (ty:=ty) h1) (hex _ ?_) (fun _ _ h=>h)
    rw[harr _ hx,htys _ ht]
    exact rfl
   ·refine val (Builtin.min_ ats ty (args.toList.map a.eval).toArray) (kk:=fun v H'=>k v G H') (zQ.of (zjA (ts:=ats) (ty:=ty) h1)) (hex _ ?_) (fun _ _ h=>h)
    rw[harr _ rfl]
    exact rfl
   ·refine val (Builtin.max_ ats ty (args.toList.map a.eval).toArray) (kk:=fun v H'=>k v G H') (zQ.of (zjB (ts:=ats) (ty:=ty) h1)) (hex _ ?_) (fun _ _ h=>h)
    rw[harr _ rfl]
    exact rfl
   ·rename_i t u d s ht hx
    refine val (Builtin.copy_ #[t,u] ty #[d,s]) (kk:=fun v H'=>k v G H') (zQ.of (znC hT (u:=u) (ty:=ty) h1)) (hex _ ?_) (fun _ _ h=>h)
    rw[harr _ hx,htys _ ht]
    exact rfl
   ·rename_i t x ht hx
    refine val (Builtin.cap_ #[t] ty #[x]) (kk:=fun v H'=>k v G H') (zQ.of (zo7 hT (ty:=ty) h1)) (hex _ ?_) (fun _ _ h=>h)
    rw[harr _ hx,htys _ ht]
    exact rfl
   ·exact h1.elim
end Go.V
