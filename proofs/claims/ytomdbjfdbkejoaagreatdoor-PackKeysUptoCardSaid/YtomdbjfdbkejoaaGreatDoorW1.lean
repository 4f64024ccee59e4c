/- A part of the proof, joined of several texts: the verification layer, contracts of functions, plain law. -/
import Derived.Test.YtomdbjfdbkejoaaGreatDoorW0
set_option maxHeartbeats 64000000
set_option linter.unusedSimpArgs false
set_option linter.unusedVariables false
set_option linter.unusedSectionVars false
namespace Go.V
def zB (c:UInt8):Value:= .int .u8 c.toNat
def zaH (G:za) (H:zb) (b off n:Nat) (k:List Value→Prop) (_:Tok k:= .mk):Prop:=
 match G b with
 |some (.cells c _ _)=>Ob (n=0∨off+n≤c.size) (k ((c.toList.drop off).take n))
 |some _=>n=0∧k []
 |none=>match zq H b with
  |some (.cells xs sp _)=>Ob (n=0∨off+n≤xs.length+sp.length) (k (((xs++sp).drop off).take n))
  |_=>n=0∧k []
theorem zf4 {G:za} {H:zb} {b off:Nat} {k:List Value→Prop}:zaH G H b off 0 k↔k []:=by
 unfold zaH Ob
 split <;> (try split) <;> simp
theorem zmp {G:za} {H:zb} {b off:Nat} {v:Value} {k:Value→Prop}
  (h:zaH G H b off 1 fun l=>l=[v]) (hk:k v):zds G H ⟨b,off,none⟩ k:=by
 unfold zaH Ob at h
 unfold zds
 rw[if_neg (by simp)]
 have key: ∀l:List Value,off+1≤l.length→(l.drop off).take 1=[v]→l[off]? =some v:=fun l hl h=>by
  have:=congrArg (·[0]?) h
  simpa [List.getElem?_take] using this
 split at h
 ·rename_i c e f hp
  simp only[hp]
  have:=key c.toList (by have:=h.1;simp;omega) h.2
  rw[show c[off]? =some v by simpa using this];exact hk
 ·exact absurd h.1 (by simp)
 ·rename_i hp
  simp only[hp]
  split at h
  ·rename_i xs sp e hf
   simp only[hf]
   have:=key (xs++sp) (by have:=h.1;simp;omega) h.2
   simp only[this];exact hk
  ·exact absurd h.1 (by simp)
theorem zb6 (b o n:Nat):(⟨b,o,none⟩:Addr).add n=⟨b,o+n,none⟩:=by
 unfold Addr.add;split <;> simp_all
theorem zmq {q:Bool} {P:Program} {G:za} (a:Addr) (m:Mode) (H:zb) (k:Value→zb→Prop):runS q P G (load a m) H k=zds G H a fun v=>k v H:=rfl
theorem zfp {q:Bool} {P:Program} {G:za} {H:zb} {b off:Nat}: ∀ (n i:Nat) (acc:Array Value) {k:Array Value→zb→Prop},
  zaH G H b (off+i) n (fun cs=>k (acc++cs.toArray) H)→runS q P G (loadCellsFrom ⟨b,off,none⟩ i n acc) H k
 |0,i,acc,k,h=>by
  have:k acc H:=by
   have:=zf4.1 h
   simpa using this
  exact this
 |n+1,i,acc,k,h=>by
  unfold loadCellsFrom
  rw[ze,zmq,zb6]
  have step: ∀l:List Value,off+i+(n+1)≤l.length→ ∃v,(l.drop (off+i)).take 1=[v]∧(l.drop (off+i)).take (n+1)=v:: (l.drop (off+(i+1))).take n:=fun l hl=>by
   have hlt:off+i<l.length:=by omega
   refine⟨l[off+i],?_,?_⟩
   ·rw[List.drop_eq_getElem_cons hlt,List.take_succ_cons,List.take_zero]
   ·rw[List.drop_eq_getElem_cons hlt,List.take_succ_cons,Nat.add_assoc]
  unfold zaH Ob at h
  split at h
  ·rename_i c e f hp
   have hle:off+i+(n+1)≤c.size:=by have:=h.1;omega
   obtain⟨v,h1,h2⟩:=step c.toList (by simpa using hle)
   refine zmp (v:=v) ?_ (zfp n (i+1) (acc.push v) ?_)
   ·unfold zaH Ob;simp only[hp];exact⟨by omega,h1⟩
   ·unfold zaH Ob;simp only[hp]
    refine⟨by omega,?_⟩
    have:=h.2;rw[h2] at this;simpa using this
  ·exact absurd h.1 (by simp)
  ·rename_i hp
   split at h
   ·rename_i xs sp e hf
    have hle:off+i+(n+1)≤xs.length+sp.length:=by have:=h.1;omega
    obtain⟨v,h1,h2⟩:=step (xs++sp) (by simpa using hle)
    refine zmp (v:=v) ?_ (zfp n (i+1) (acc.push v) ?_)
    ·unfold zaH Ob;simp only[hp,hf];exact⟨by omega,h1⟩
    ·unfold zaH Ob;simp only[hp,hf]
     refine⟨by omega,?_⟩
     have:=h.2;rw[h2] at this;simpa using this
   ·exact absurd h.1 (by simp)
def blk (a:Option Addr):Nat:=match a with|some a=>a.block|none=>0
def ofs (a:Option Addr):Nat:=match a with|some a=>a.off|none=>0
def Adr (a:Option Addr):Prop:=a=some ⟨blk a,ofs a,none⟩
theorem zqk (b o:Nat) (s:Option Nat):blk (some ⟨b,o,s⟩)=b:=rfl
theorem zql (b o:Nat) (s:Option Nat):ofs (some ⟨b,o,s⟩)=o:=rfl
theorem zqm (b o:Nat):Adr (some ⟨b,o,none⟩)=True:=eq_true rfl
def rdSl (G:za) (H:zb) (a:Option Addr) (n:Nat) (k:List Value→Prop) (_:Tok k:= .mk):Prop:=
 match a with
 |some ⟨b,o,none⟩=>zaH G H b o n k
 |_=>n=0∧k []
theorem zj8 (G:za) (H:zb) (b o n:Nat) (k:List Value→Prop):rdSl G H (some ⟨b,o,none⟩) n k=zaH G H b o n k:=rfl
theorem zmr (G:za) (H:zb) (n:Nat) (k:List Value→Prop):rdSl G H none n k=(n=0∧k []):=rfl
theorem zb5 {q:Bool} {P:Program} {G:za} {H:zb} {b off n:Nat} {k:Array Value→zb→Prop}
  (h:zaH G H b off n fun cs=>k cs.toArray H):runS q P G (loadCells ⟨b,off,none⟩ n) H k:=by
 unfold loadCells
 refine zfp n 0 #[] ?_
 have:(fun cs:List Value=>k (#[]++cs.toArray) H)=fun cs=>k cs.toArray H:=by funext cs;simp
 rw[this]
 exact h
def zf (xs:List Value) (off:Nat) (vs:List Value):List Value:=xs.take off++vs++xs.drop (off+vs.length)
def zdI (H:zb) (b off:Nat) (vs:List Value) (k:zb→Prop) (_:Tok k:= .mk):Prop:=
 match zq H b with
 |some (.cells xs sp e)=>Ob (off+vs.length≤xs.length∧vs.all zaL=true) (k (z7 H b (.cells (zf xs off vs) sp e)))
 |_=>False
theorem zfE {H:zb} {b:Nat} {r r':Res} (h:zq H b=some r):zq (z7 H b r') b=some r':=by
 induction H with
 |nil=>simp [zq] at h
 |cons p H ih=>
  obtain⟨k,s⟩:=p
  simp only[zq] at h
  simp only[z7]
  split at h
  ·rename_i hk;rw[if_pos hk];simp [zq,hk]
  ·rename_i hk;rw[if_neg hk];simp only[zq,if_neg hk];exact ih h
theorem zms {H:zb} {b:Nat} {r r':Res}:z7 (z7 H b r) b r'=z7 H b r':=by
 induction H with
 |nil=>rfl
 |cons p H ih=>
  obtain⟨k,s⟩:=p
  simp only[z7]
  by_cases hk:k=b
  ·rw[if_pos hk,if_pos hk];simp only[z7,if_pos hk]
  ·rw[if_neg hk,if_neg hk];simp only[z7,if_neg hk,ih]
theorem zq4 {P:Program} {G:za} (a:Addr) (v:Value) (m:Mode) (H:zb) (k:Unit→zb→Prop) (h:ziw H a v fun H'=>k () H'):runS false P G (store a v m) H k:=⟨rfl,h⟩
theorem zjI {xs:List Value} {off:Nat} {v:Value} {vs:List Value} (h:off<xs.length):zf (xs.set off v) (off+1) vs=zf xs off (v::vs):=by
 unfold zf
 rw[List.take_set,List.drop_set_of_lt (by omega)]
 simp only[List.length_cons]
 rw[show off+1+vs.length=off+(vs.length+1) by omega]
 congr 1
 rw[List.take_succ_eq_append_getElem h,List.set_append_right _ _ (by simp;omega)]
 simp [Nat.min_eq_left (Nat.le_of_lt h)]
theorem zcm {P:Program} {G:za} {b off:Nat}: ∀ (vs:List Value) (i:Nat) {H:zb} {k:Unit→zb→Prop},
  zdI H b (off+i) vs (fun H'=>k () H')→runS false P G (storeCells ⟨b,off,none⟩ vs i) H k
 | [],i,H,k,h=>by
  have:k () H:=by
   unfold zdI Ob at h
   split at h
   ·rename_i xs sp e hf
    have h2:=h.2
    have e1:zf xs (off+i) []=xs:=by simp [zf]
    rw[e1] at h2
    have e2:z7 H b (.cells xs sp e)=H:=by
     clear h h2 e1
     induction H with
     |nil=>rfl
     |cons p H ih=>
      obtain⟨c,s⟩:=p
      simp only[zq] at hf
      simp only[z7]
      split at hf
      ·rename_i hk;rw[if_pos hk];cases hf;rfl
      ·rename_i hk;rw[if_neg hk,ih hf]
    rw[e2] at h2;exact h2
   ·exact h.elim
  exact this
 |v::vs,i,H,k,h=>by
  unfold storeCells
  rw[ze,zb6]
  refine zq4 _ _ _ _ _ ?_
  unfold zdI Ob at h
  unfold ziw
  rw[if_neg (by simp)]
  split at h
  ·rename_i xs sp e hf
   simp only[hf]
   obtain⟨⟨h1,h2⟩,h3⟩:=h
   simp only[List.length_cons] at h1
   simp only[List.all_cons,Bool.and_eq_true] at h2
   refine⟨h2.1, .inl ⟨by omega,zcm vs (i+1) ?_⟩⟩
   unfold zdI Ob
   simp only[zfE hf,zms]
   refine⟨⟨by simp;omega,h2.2⟩,?_⟩
   rw[←Nat.add_assoc,zjI (by omega)]
   exact h3
  ·exact h.elim
def zew (T:Tys) (G:za) (H:zb) (t:TypeId) (a:Value) (k:Value→Prop) (_:Tok k:= .mk):Prop:=
 match a with
 | .pointer (some ⟨b,o,none⟩)=>match (T t).k with
  | .none=>False
  | .struct _| .arr .. =>zaH G H b o (T t).size fun cs=>k (.agg cs.toArray)
  |_=>zds G H ⟨b,o,none⟩ k
 |_=>False
theorem zf5 {q:Bool} {P:Program} {T:Tys} (hT:zR P T) {G:za} {H:zb} {t:TypeId} {a:Value} {kk:Value→zb→Prop}
  (h:zew T G H t a fun v=>kk v H):runS q P G (Instr.loadAt t a) H kk:=by
 unfold zew at h
 split at h
 ·rename_i b o
  simp only[Instr.loadAt,Instr.sureAddr,ze,zh,loadVar]
  have hk:(T t).k≠ .none:=by intro e;simp only[e] at h
  obtain⟨i,z,hi,hs,_⟩:=hT.info hk
  rw[zhv hT hk]
  have agg:(T t).k.agg=true→(zaH G H b o (T t).size fun cs=>kk (.agg cs.toArray) H)→
    runS q P G (if (T t).k.agg=true then do pure (.agg (←loadCells ⟨b,o,none⟩ (←sizeOf t))) else load ⟨b,o,none⟩) H kk:=fun ha h=>by
   rw[if_pos ha,ze,zam hi,ze,hs]
   exact zb5 h
  split at h
  ·exact h.elim
  ·rename_i fs hf;exact agg (by rw[hf];rfl) h
  ·rename_i n e hf;exact agg (by rw[hf];rfl) h
  ·rename_i hn1 hn2 hn3
   have:(T t).k.agg=false:=by
    cases hkk:(T t).k <;> simp only[TK.agg] <;> simp_all
   rw[if_neg (by simp [this]),zmq]
   exact h
 ·exact h.elim
def zcP (v:Value):List Value:=match v with| .agg cs=>cs.toList|v=>[v]
theorem zfi (v:Value):v.cells.toList=zcP v:=by cases v <;> rfl
def zjl (T:Tys) (H:zb) (t:TypeId) (a v:Value) (k:zb→Prop) (_:Tok k:= .mk):Prop:=
 match a with
 | .pointer (some ⟨b,o,none⟩)=>(T t).k≠ .none∧Ob ((zcP v).length=(T t).size) (zdI H b o (zcP v) k)
 |_=>False
theorem zne {P:Program} {T:Tys} (hT:zR P T) {G:za} {H:zb} {t:TypeId} {a v:Value} {kk:Unit→zb→Prop}
  (h:zjl T H t a v fun H'=>kk () H'):runS false P G (Instr.storeAt t a v) H kk:=by
 unfold zjl at h
 split at h
 ·rename_i b o
  obtain⟨hk,hl,h⟩:=h
  simp only[Instr.storeAt,Instr.sureAddr,ze,zh,storeVar]
  obtain⟨i,z,hi,hs,_⟩:=hT.info hk
  rw[zam hi]
  have hc:v.cells.size=i.size:=by rw[hs,←hl,←zfi];simp
  rw[if_neg (by simp [hc]),zfi]
  exact zcm _ 0 h
 ·exact h.elim
def zjm (T:Tys) (s:TypeId) (x:Value) (f:Nat) (k:Value→Prop) (_:Tok k:= .mk):Prop:=
 match x with
 | .pointer (some ⟨b,o,none⟩)=>match (T s).k with
  | .struct fs=>match fs[f]? with
   |some (off,t)=>(T t).k≠ .none∧(T t).size≠0∧k (.pointer (some ⟨b,o+off,none⟩))
   |none=>False
  |_=>False
 |_=>False
theorem zio {q:Bool} {P:Program} {T:Tys} (hT:zR P T) {G:za} {H:zb} {s:TypeId} {x:Value} {f:Nat} {kk:Value→zb→Prop}
  (h:zjm T s x f fun v=>kk v H):runS q P G (Instr.fieldAt s x f) H kk:=by
 unfold zjm at h
 split at h
 ·rename_i b o
  split at h
  ·rename_i fs hf
   split at h
   ·rename_i off t hft
    obtain⟨hk,hs0,h⟩:=h
    obtain⟨d,hd,hfit⟩:=hT.und hf (by simp)
    obtain⟨fa,rfl,rfl⟩:=hfit
    obtain⟨i,z,hi,hs,_⟩:=hT.info hk
    have hfa: ∃fd,fa[f]? =some fd∧fd.offset=off∧fd.type=t:=by
     rw[List.getElem?_map] at hft
     simp only[Option.map_eq_some_iff,Prod.mk.injEq] at hft
     obtain⟨fd,h1,h2,h3⟩:=hft
     exact⟨fd,by simpa using h1,h2,h3⟩
    obtain⟨fd,hfd,rfl,rfl⟩:=hfa
    simp only[Instr.fieldAt,ze,zi hd,hfd,Instr.sureAddr,zh,fieldPlace,zam hi]
    rw[if_neg (by rw[hs];exact hs0),zh,zb6]
    exact h
   ·exact h.elim
  ·exact h.elim
 ·exact h.elim
def ze5 (T:Tys) (t:TypeId) (x i:Value) (k:Value→Prop) (_:Tok k:= .mk):Prop:=
 match i with
 | .int _ n=>match x,(T t).k with
  | .slice a len _, .slice e=>(T e).k≠ .none∧Ob (0≤n∧n< (len:Int)) (Ob (Adr a) (k (.pointer (some ⟨blk a,ofs a+n.toNat * (T e).size,none⟩))))
  | .pointer (some ⟨b,o,none⟩), .arr len e=>(T e).k≠ .none∧Ob (0≤n∧n< (len:Int)) (k (.pointer (some ⟨b,o+n.toNat * (T e).size,none⟩)))
  |_,_=>False
 |_=>False
theorem zfB {q:Bool} {P:Program} {T:Tys} (hT:zR P T) {G:za} {H:zb} {t:TypeId} {x i:Value} {kk:Value→zb→Prop}
  (h:ze5 T t x i fun v=>kk v H):runS q P G (Instr.indexAt t x i) H kk:=by
 unfold ze5 at h
 split at h
 ·rename_i kd n
  split at h
  ·rename_i ad len cap e hf
   obtain⟨hk,hn,had,h⟩:=h
   unfold Adr at had
   rw[had]
   obtain⟨d,hd,hfit⟩:=hT.und hf (by simp)
   simp only[TK.fits] at hfit
   subst hfit
   obtain⟨i,z,hi,hs,_⟩:=hT.info hk
   simp only[Instr.indexAt,asIntOf,ze,zi hd,zh,bind_pure_comp]
   simp only[hn,and_self,if_true]
   cases decide (len≤1) <;> simp only[Bool.false_and,Bool.true_and,zd6,zam hi,zb6,hs] <;> exact h
  ·rename_i b o len e hf
   obtain⟨hk,hn,h⟩:=h
   obtain⟨d,hd,hfit⟩:=hT.und hf (by simp)
   simp only[TK.fits] at hfit
   subst hfit
   obtain⟨i,z,hi,hs,_⟩:=hT.info hk
   simp only[Instr.indexAt,asIntOf,ze,zi hd,zh,bind_pure_comp,Instr.sureAddr]
   simp only[hn,and_self,if_true]
   cases decide (len≤1) <;> simp only[Bool.false_and,Bool.true_and,zd6,zam hi,zb6,hs] <;> exact h
  ·exact h.elim
 ·exact h.elim
end Go.V
namespace Go.V
variable {E:Env}
def zhx (T:Tys) (t:TypeId) (cs:List Value) (off:Nat) (k:Value→Prop) (_:Tok k:= .mk):Prop:=
 match (T t).k with
 | .none=>False
 | .struct _| .arr .. =>k (.agg ((cs.drop off).take (T t).size).toArray)
 |_=>zC (cs[off]?) k
theorem zjJ {q:Bool} {P:Program} {T:Tys} (hT:zR P T) {G:za} {H:zb} {t:TypeId} {cs:Array Value} {off:Nat} {kk:Value→zb→Prop}
  (h:zhx T t cs.toList off fun v=>kk v H):runS q P G (part t cs off) H kk:=by
 unfold zhx at h
 have hk:(T t).k≠ .none:=by intro e;simp only[e] at h
 obtain⟨i,z,hi,hs,_⟩:=hT.info hk
 unfold part
 rw[ze,zhv hT hk]
 have agg: ∀other:Sem Value,(T t).k.agg=true→kk (.agg ((cs.toList.drop off).take (T t).size).toArray) H→
   runS q P G (if (T t).k.agg=true then do pure (.agg (cs.extract off (off+(←sizeOf t)))) else other) H kk:=fun other ha h=>by
  rw[if_pos ha,ze,zam hi,hs]
  have:cs.extract off (off+(T t).size)=((cs.toList.drop off).take (T t).size).toArray:=by
   apply Array.ext'
   simp [List.extract_eq_take_drop]
  rw[this];exact h
 split at h
 ·exact h.elim
 ·rename_i fs hf;exact agg _ (by rw[hf];rfl) h
 ·rename_i n e hf;exact agg _ (by rw[hf];rfl) h
 ·have:(T t).k.agg=false:=by
   cases hkk:(T t).k <;> simp only[TK.agg] <;> simp_all
  rw[if_neg (by simp [this])]
  unfold zC at h
  split at h
  ·rename_i v hv
   rw[show cs[off]? =some v by simpa using hv];exact h
  ·exact h.elim
def zhy (T:Tys) (t:TypeId) (x:Value) (f:Nat) (k:Value→Prop) (_:Tok k:= .mk):Prop:=
 match x,(T t).k with
 | .agg cs, .struct fs=>match fs[f]? with
  |some (off,u)=>zhx T u cs.toList off k
  |none=>False
 |_,_=>False
theorem zhh {q:Bool} {P:Program} {T:Tys} (hT:zR P T) {G:za} {H:zb} {t:TypeId} {x:Value} {f:Nat} {kk:Value→zb→Prop}
  (h:zhy T t x f fun v=>kk v H):runS q P G (Instr.field t x f) H kk:=by
 unfold zhy at h
 split at h
 ·rename_i cs fs hf
  obtain⟨d,hd,hfit⟩:=hT.und hf (by simp)
  obtain⟨fa,rfl,rfl⟩:=hfit
  split at h
  ·rename_i off u hfu
   rw[List.getElem?_map] at hfu
   simp only[Option.map_eq_some_iff,Prod.mk.injEq] at hfu
   obtain⟨fd,h1,rfl,rfl⟩:=hfu
   simp only[Instr.field,ze,zi hd]
   rw[show fa[f]? =some fd by simpa using h1]
   simp only[ze,asAgg,zh]
   exact zjJ hT h
  ·exact h.elim
 ·exact h.elim
def zjn (T:Tys) (t:TypeId) (x i:Value) (k:Value→Prop) (_:Tok k:= .mk):Prop:=
 match i with
 | .int _ n=>match x with
  | .string s=>(T t).k= .string∧Ob (0≤n∧n< (s.data.toList.length:Int)) (zC (s.data.toList[n.toNat]?.map zB) k)
  | .agg cs=>match (T t).k with
   | .arr len e=>(T e).k≠ .none∧Ob (0≤n∧n< (len:Int)) (zhx T e cs.toList (n.toNat * (T e).size) k)
   |_=>False
  |_=>False
 |_=>False
theorem ziq {q:Bool} {P:Program} {T:Tys} (hT:zR P T) {G:za} {H:zb} {t:TypeId} {x i:Value} {kk:Value→zb→Prop}
  (h:zjn T t x i fun v=>kk v H):runS q P G (Instr.index t x i) H kk:=by
 unfold zjn at h
 split at h
 ·rename_i kd n
  split at h
  ·rename_i s
   obtain⟨hk,hn,h⟩:=h
   obtain⟨d,hd,hfit⟩:=hT.und hk (by simp)
   simp only[TK.fits] at hfit
   subst hfit
   simp only[Instr.index,ze,asIntOf,zh,zi hd]
   rw[if_pos hn.1]
   unfold zC at h
   split at h
   ·rename_i v hv
    simp only[Option.map_eq_some_iff] at hv
    obtain⟨c,hc,rfl⟩:=hv
    have hlt:n.toNat<s.size:=by
     have:=(List.getElem?_eq_some_iff.1 hc).1
     simpa using this
    have hs:s[n.toNat]? =some c:=by
     rw[getElem?_pos s n.toNat hlt]
     have h2:=(List.getElem?_eq_some_iff.1 hc).2
     rw[←h2]
     rfl
    simp only[hs,zh]
    exact h
   ·exact h.elim
  ·rename_i cs
   split at h
   ·rename_i len e hf
    obtain⟨hk,hn,h⟩:=h
    obtain⟨d,hd,hfit⟩:=hT.und hf (by simp)
    simp only[TK.fits] at hfit
    subst hfit
    obtain⟨j,z,hj,hs,_⟩:=hT.info hk
    simp only[Instr.index,ze,asIntOf,zh,zi hd]
    rw[if_pos hn,ze,zam hj,hs]
    exact zjJ hT h
   ·exact h.elim
  ·exact h.elim
 ·exact h.elim
def zq5 (op:UnOp) (x:Value) (k:Value→Prop) (_:Tok k:= .mk):Prop:=
 match op,x with
 | .not, .bool b=>k (.bool !b)
 | .neg, .int a n=>k (.int a (a.wrap (0 - n)))
 | .xor, .int a n=>k (.int a (zaB .xor a (if a.signed then -1 else a.max) n))
 |_,_=>False
theorem zkU {q:Bool} {P:Program} {G:za} {H:zb} {op:UnOp} {x:Value} {kk:Value→zb→Prop} (h:zq5 op x fun v=>kk v H):runS q P G (Op.unary op x) H kk:=by
 unfold zq5 at h
 split at h
 ·exact h
 ·exact h
 ·exact h
 ·exact h.elim
def zgz (x:Value) (i:Nat) (k:Value→Prop) (_:Tok k:= .mk):Prop:=
 match x with
 | .tuple vs=>zC (vs.toList[i]?) k
 |_=>False
theorem zgA {q:Bool} {P:Program} {G:za} {H:zb} {x:Value} {i:Nat} {kk:Value→zb→Prop} (h:zgz x i fun v=>kk v H):runS q P G (Instr.extract x i) H kk:=by
 unfold zgz at h
 split at h
 ·rename_i vs
  unfold zC at h
  split at h
  ·rename_i v hv
   simp only[Instr.extract]
   rw[show vs[i]? =some v by simpa using hv];exact h
  ·exact h.elim
 ·exact h.elim
def zbV (G:za) (ks:List Nat) (n E:Nat) (k:Nat→List Value→Nat→Prop) (_:Tok k:= .mk):Prop:=
 ∀b sp cap,Sep G (b::ks)→n * E+sp.length=cap * E→k b sp cap
def rep (n:Nat) (z:List Value):List Value:=
 match z with
 | [v]=>List.replicate n v
 |z=>(List.replicate n z).flatten
theorem zfF (n:Nat) (z:List Value):(rep n z).length=n * z.length:=by
 unfold rep
 split
 ·simp
 ·simp
theorem ziy (n:Nat) (z:List Value):rep n z=(List.replicate n z).flatten:=by
 unfold rep
 split
 ·rename_i v
  induction n with
  |zero=>rfl
  |succ n ih=>rw[List.replicate_succ,List.replicate_succ,List.flatten_cons,←ih];rfl
 ·rfl
theorem zph (n:Nat) (z:List Value) (hz:0<z.length) (i:Nat) (hi:i<n * z.length):((List.replicate n z).flatten)[i]? =z[i % z.length]? :=by
 induction n generalizing i with
 |zero=>simp at hi
 |succ n ih=>
  rw[List.replicate_succ,List.flatten_cons]
  by_cases h:i<z.length
  ·rw[List.getElem?_append_left h,Nat.mod_eq_of_lt h]
  ·rw[List.getElem?_append_right (by omega),ih (i - z.length) (by have:=Nat.succ_mul n z.length;rw[Nat.succ_eq_add_one] at this;omega)]
   rw[Nat.mod_eq_sub_mod (a:=i) (by omega)]
theorem zlP (z:Array Value) (n:Nat) (hz:n=0∨0<z.size):((Array.range (n * z.size)).map (z[· % z.size]!)).toList=rep n z.toList:=by
 rw[ziy]
 rcases hz with rfl|hz
 ·simp
 ·apply List.ext_getElem?
  intro i
  by_cases hi:i<n * z.size
  ·rw[zph n z.toList (by simpa using hz) i (by simpa using hi)]
   have hm:i % z.size<z.size:=Nat.mod_lt _ hz
   simp [hi,hm,getElem!_pos]
  ·rw[List.getElem?_eq_none (by simp;omega),List.getElem?_eq_none (by simp;omega)]
def zT {α:Type} (P:Program) (G:za) (s:Sem α) (H:zb) (k:α→zb→Prop):Prop:=
 ∀ ⦃E:Env⦄ w,HeapOk E G H w→ ∃x w' H',s.run P w= .ok x w'∧HeapOk E G H' w'∧k x H'
theorem zT.of {α:Type} {P:Program} {G:za} {s:Sem α} {H:zb} {k:α→zb→Prop} (h:runS false P G s H k):zT P G s H k:=
 fun _ _ hw=>zkR s hw h
theorem zT.weak {α:Type} {P:Program} {G:za} {s:Sem α} {H:zb} {k k':α→zb→Prop} (h:zT P G s H k)
  (hk: ∀x H',k x H'→ ∃H'',(∀ ⦃E:Env⦄ w,HeapOk E G H' w→HeapOk E G H'' w)∧k' x H''):zT P G s H k':=fun E w hw=>
 let ⟨x,w',H',h1,h2,h3⟩:=h w hw
 let ⟨H'',h4,h5⟩:=hk x H' h3
 ⟨x,w',H'',h1,h4 w' h2,h5⟩
def ze6 (T:Tys) (G:za) (H:zb) (t:TypeId) (l c:Value) (k:Value→zb→Prop) (_:Tok k:= .mk):Prop:=
 match (T t).k,l,c with
 | .slice e, .int _ l, .int _ c=>((T e).k≠ .none∧(T e).zero.length=(T e).size∧(T e).size≠0)∧Ob (0≤l∧l≤c∧(T e).bytes * c≤281474976710656∧c≤9223372036854775807)
   (zdm G (zm H) fun b=>k (.slice (some ⟨b,0,none⟩) l.toNat c.toNat) ((b, .cells (rep l.toNat (T e).zero) (rep (c.toNat - l.toNat) (T e).zero) e)::H))
 |_,_,_=>False
theorem HeapOk.resplit {G:za} {H:zb} {w:World} {b:Nat} {xs sp xs' sp':List Value} {e:TypeId} (he:xs++sp=xs'++sp') (h:HeapOk E G ((b, .cells xs sp e)::H) w):
  HeapOk E G ((b, .cells xs' sp' e)::H) w:=by
 refine⟨h.env,h.pers,fun p hp=>?_,h.sep,h.dfr⟩
 rcases List.mem_cons.1 hp with rfl|hp
 ·obtain⟨o,ho,fr,hfr,hl⟩:=h.own _ (List.mem_cons_self ..)
  refine⟨o,ho,fr,by rw[hfr,he],?_⟩
  have:=congrArg List.length he
  simp only[List.length_append] at this
  rw[←this];exact hl
 ·exact h.own p (List.mem_cons_of_mem _ hp)
theorem zxl (n m:Nat) (z:List Value):rep n z++rep m z=rep (n+m) z:=by
 simp only[ziy]
 rw[←List.flatten_append,List.replicate_append_replicate]
theorem zjG {P:Program} {T:Tys} (hT:zR P T) {G:za} {H:zb} {t:TypeId} {l c:Value} {kk:Value→zb→Prop}
  (h:ze6 T G H t l c kk):zT P G (Instr.makeSlice t l c) H kk:=by
 unfold ze6 at h
 split at h
 ·rename_i e kl l kc c hf
  obtain⟨⟨hk,hzl,hs0⟩,⟨h0,hlc,hb,h63⟩,h⟩:=h
  obtain⟨d,hd,hfit⟩:=hT.und hf (by simp)
  simp only[TK.fits] at hfit
  subst hfit
  obtain⟨i,z,hi,hs,hby,hz,hzc⟩:=hT.info hk
  intro E w hw
  have hrun:=run_make (P:=P) w t e i z hd hi hz kl kc l c h0 hlc (by rw[hby];exact hb) h63
  refine⟨_,_,_,hrun,?_,h _ hw.fresh⟩
  have hzs:z.cells.size=i.size:=by rw[←Array.length_toList,hzc,hzl,hs]
  have hm:(madeCells z.cells (c.toNat * i.size)).toList=rep c.toNat (T e).zero:=by
   unfold madeCells
   rw[←hzs,zlP z.cells c.toNat (.inr (by rw[hzs,hs];omega)),hzc]
  refine HeapOk.resplit (xs:=rep c.toNat (T e).zero) (sp:=[]) ?_ (hw.new ?_)
  ·rw[zxl,List.append_nil];congr 1;omega
  ·exact⟨(0,0),by rw[List.append_nil,←hm], .inl rfl⟩
 ·exact h.elim
end Go.V
namespace Go.V
variable {E:Env}
def zex (o:Option Value) (d:Int) (k:Int→Prop) (_:Tok k:= .mk):Prop:=
 match o with
 |none=>k d
 |some (.int _ n)=>k n
 |some _=>False
theorem zq6 (d:Int) (k:Int→Prop):zex none d k=k d:=rfl
theorem zq7 (a:IntKind) (n d:Int) (k:Int→Prop):zex (some (.int a n)) d k=k n:=rfl
def zbC (b o:Nat) (l m n:Nat):Addr:=if m=l then⟨b,o,none⟩ else⟨b,o+n,none⟩
def zbH (a:Option Addr) (l m n:Nat):Option Addr:=if m=l then a else a.map (·.add n)
def zjo (T:Tys) (t:TypeId) (x:Value) (lo hi mx:Option Value) (k:Value→Prop) (_:Tok k:= .mk):Prop:=
 match x with
 | .string s=>(T t).k= .string∧mx=none∧zex hi s.data.toList.length fun h=>zex lo 0 fun l=>
   Ob (0≤l∧l≤h∧h≤s.data.toList.length) (k (.string ⟨((s.data.toList.drop l.toNat).take (h.toNat - l.toNat)).toArray⟩))
 | .slice a len cap=>match (T t).k with
  | .slice e=>(T e).k≠ .none∧(mx=none∨hi.isSome=true)∧zex mx cap fun m=>zex hi len fun h=>zex lo 0 fun l=>
    Ob (0≤l∧l≤h∧h≤m∧m≤cap) (k (.slice (zbH a l.toNat m.toNat (l.toNat * (T e).size)) (h.toNat - l.toNat) (m.toNat - l.toNat)))
  |_=>False
 | .pointer (some ⟨b,o,none⟩)=>match (T t).k with
  | .arr n e=>(T e).k≠ .none∧mx=none∧zex hi n fun h=>zex lo 0 fun l=>
    Ob (0≤l∧l≤h∧h≤(n:Int)) (k (.slice (some (zbC b o l.toNat n (l.toNat * (T e).size))) (h.toNat - l.toNat) (n - l.toNat)))
  |_=>False
 |_=>False
theorem zci {a:IntKind} {n:Int} {y:Nat} (code:BoundsCode) (h0:0≤n) (h1:n≤y):Instr.sliceBound (.int a n) y code=pure n.toNat:=by
 unfold Instr.sliceBound asIntOf
 simp only[pure_bind]
 rw[if_pos ⟨h0,h1⟩]
theorem zc1 {o:Option Value} {d:Int} {k:Int→Prop} (h:zex o d k): ∃n,k n∧((o=none∧n=d)∨ ∃a,o=some (.int a n)):=by
 unfold zex at h
 split at h
 ·exact⟨d,h, .inl ⟨rfl,rfl⟩⟩
 ·rename_i a n;exact⟨n,h, .inr ⟨a,rfl⟩⟩
 ·exact h.elim
theorem zd7 {q:Bool} {P:Program} {G:za} {H:zb} {isS:Bool} {len cap:Nat} {lo hi mx:Option Value} {l h m:Int} {k:Nat×Nat×Nat→zb→Prop}
  (hm:(mx=none∧m=cap)∨ ∃a,mx=some (.int a m)) (hh:(hi=none∧h=len)∨ ∃a,hi=some (.int a h)) (hl:(lo=none∧l=0)∨ ∃a,lo=some (.int a l))
  (hmh:mx=none∨hi.isSome=true) (h0:0≤l) (h1:l≤h) (h2:h≤m) (h3:m≤cap) (hk:k (l.toNat,h.toNat,m.toNat) H):runS q P G (Instr.sliceBounds isS len cap lo hi mx) H k:=by
 unfold Instr.sliceBounds
 rcases hm with ⟨rfl,rfl⟩| ⟨am,rfl⟩
 ·rcases hh with ⟨rfl,rfl⟩| ⟨ah,rfl⟩
  ·rcases hl with ⟨rfl,rfl⟩| ⟨al,rfl⟩
   ·simp only[pure_bind,zh]
    simpa using hk
   ·simp only[pure_bind,zci _ h0 h1,zh]
    simpa using hk
  ·have e1:=fun code=>zci (a:=ah) (y:=cap) code (by omega:0≤h) h2
   rcases hl with ⟨rfl,rfl⟩| ⟨al,rfl⟩
   ·simp only[pure_bind,e1,zh]
    simpa using hk
   ·have e2:=fun code=>zci (a:=al) (y:=h.toNat) code h0 (by omega)
    simp only[pure_bind,e1,e2,zh]
    simpa using hk
 ·have e0:=fun code=>zci (a:=am) (y:=cap) code (by omega:0≤m) h3
  rcases hh with ⟨rfl,rfl⟩| ⟨ah,rfl⟩
  ·simp at hmh
  ·have e1:=fun code=>zci (a:=ah) (y:=m.toNat) code (by omega:0≤h) (by omega)
   rcases hl with ⟨rfl,rfl⟩| ⟨al,rfl⟩
   ·simp only[pure_bind,e0,e1,zh]
    exact hk
   ·have e2:=fun code=>zci (a:=al) (y:=h.toNat) code h0 (by omega)
    simp only[pure_bind,e0,e1,e2,zh]
    exact hk
theorem zir {q:Bool} {P:Program} {T:Tys} (hT:zR P T) {G:za} {H:zb} {t:TypeId} {x:Value} {lo hi mx:Option Value} {kk:Value→zb→Prop}
  (h:zjo T t x lo hi mx fun v=>kk v H):runS q P G (Instr.sliceAt t x lo hi mx) H kk:=by
 unfold zjo at h
 split at h
 ·rename_i s
  obtain⟨hk,rfl,h⟩:=h
  obtain⟨d,hd,hfit⟩:=hT.und hk (by simp)
  simp only[TK.fits] at hfit
  subst hfit
  obtain⟨h',h,hh⟩:=zc1 h
  obtain⟨l',h,hl⟩:=zc1 h
  obtain⟨⟨h0,h1,h2⟩,h⟩:=h
  have hlen:s.data.toList.length=s.size:=by simp
  rw[hlen] at h2 hh
  simp only[Instr.sliceAt,ze,zi hd,Instr.slice]
  rw[if_neg (by simp),ze]
  refine zd7 (m:=s.size) (.inl ⟨rfl,rfl⟩) hh hl (.inl rfl) h0 h1 h2 (Int.le_refl _) ?_
  simp only[zh]
  have:s.extract l'.toNat h'.toNat=⟨((s.data.toList.drop l'.toNat).take (h'.toNat - l'.toNat)).toArray⟩:=by
   apply ByteArray.ext
   apply Array.ext'
   simp [ByteArray.data_extract,List.extract_eq_take_drop]
  rw[this];exact h
 ·rename_i a len cap
  split at h
  ·rename_i e hf
   obtain⟨hk,hmx,h⟩:=h
   obtain⟨d,hd,hfit⟩:=hT.und hf (by simp)
   simp only[TK.fits] at hfit
   subst hfit
   obtain⟨i,z,hi',hs,_⟩:=hT.info hk
   obtain⟨m,h,hm⟩:=zc1 h
   obtain⟨h',h,hh⟩:=zc1 h
   obtain⟨l',h,hl⟩:=zc1 h
   obtain⟨⟨h0,h1,h2,h3⟩,h⟩:=h
   simp only[Instr.sliceAt,ze,zi hd,Instr.slice]
   refine zd7 hm hh hl hmx h0 h1 h2 h3 ?_
   simp only[zam hi',zh,ze,hs]
   exact h
  ·exact h.elim
 ·rename_i b o
  split at h
  ·rename_i n e hf
   obtain⟨hk,rfl,h⟩:=h
   obtain⟨d,hd,hfit⟩:=hT.und hf (by simp)
   simp only[TK.fits] at hfit
   subst hfit
   obtain⟨i,z,hi',hs,_⟩:=hT.info hk
   obtain⟨h',h,hh⟩:=zc1 h
   obtain⟨l',h,hl⟩:=zc1 h
   obtain⟨⟨h0,h1,h2⟩,h⟩:=h
   simp only[Instr.sliceAt,ze,zi hd,Instr.sureAddr,zh]
   refine zd7 (m:=n) (.inl ⟨rfl,rfl⟩) hh hl (.inl rfl) h0 h1 h2 (Int.le_refl _) ?_
   simp only[zam hi',zh,ze,hs,zb6]
   rw[show((n:Int)).toNat=n by omega]
   have:(if n=l'.toNat then(⟨b,o,none⟩:Addr) else⟨b,o+l'.toNat * (T e).size,none⟩)=zbC b o l'.toNat n (l'.toNat * (T e).size):=by
    unfold zbC;split <;> rfl
   rw[this];exact h
  ·exact h.elim
 ·exact h.elim
def z8:zb→Nat→zb
 | [],_=>[]
 | (k,r)::H,b=>if k=b then H else(k,r)::z8 H b
theorem zfG (H:zb) (b:Nat):(z8 H b).Sublist H:=by
 induction H with
 |nil=>exact List.Sublist.refl _
 |cons p H ih=>
  obtain⟨k,r⟩:=p
  simp only[z8]
  split
  ·exact List.sublist_cons_self _ _
  ·exact ih.cons_cons _
def zf6 (T:Tys) (G:za) (H:zb) (e:TypeId) (x:Value) (k:Nat→List Value→Prop) (_:Tok k:= .mk):Prop:=
 match x with
 | .slice a n _=>rdSl G H a (n * (T e).size) fun cs=>k n cs
 | .string s=>(T e).size=1∧k s.data.toList.length (s.data.toList.map zB)
 |_=>False
def znM (vs:List Value):Bool:=vs.all zaL
def zhi (T:Tys) (G:za) (H:zb) (e:TypeId) (a:Option Addr) (k:Value→zb→Prop) (n:Nat) (new:List Value) (_:Tok k:= .mk):Prop:=
 Br (decide (n=0)) (k (.slice a 0 0) H) (Ob (n * (T e).bytes≤140737488355328∧n≤9223372036854775807)
   (zbV G (zm H) n (T e).size fun b sp cap=>k (.slice (some ⟨b,0,none⟩) n cap) ((b, .cells new sp e)::H)))
def ziz (T:Tys) (G:za) (H:zb) (e:TypeId) (b len cap:Nat) (r:Option Res) (k:Value→zb→Prop) (n:Nat) (new:List Value) (_:Tok k:= .mk):Prop:=
 match r with
 |some (.cells xs sp e')=>e'=e∧Ob (xs.length=len * (T e).size∧xs.length+sp.length=cap * (T e).size∧(len+n) * (T e).bytes≤140737488355328∧len+n≤9223372036854775807∧znM new=true)
    (zbV G (zm (z8 H b)) (len+n) (T e).size fun b' sp' cap'=>k (.slice (some ⟨b',0,none⟩) (len+n) cap') ((b', .cells (xs++new) sp' e)::z8 H b))
 |_=>False
def zhz (T:Tys) (G:za) (H:zb) (e:TypeId) (b len cap:Nat) (r:Option Res) (k:Value→zb→Prop) (n:Nat) (new:List Value) (_:Tok k:= .mk):Prop:=
 match r with
 |some (.cells xs sp e')=>e'=e∧Ob (xs.length=len * (T e).size∧cap<len+n∧(len+n) * (T e).bytes≤140737488355328∧len+n≤9223372036854775807)
    (zbV G (zm (z8 H b)) (len+n) (T e).size fun b' sp' cap'=>k (.slice (some ⟨b',0,none⟩) (len+n) cap') ((b', .cells (xs++new) sp' e)::z8 H b))
 |_=>False
def zd8 (T:Tys) (G:za) (H:zb) (e:TypeId) (a:Option Addr) (len cap:Nat) (k:Value→zb→Prop) (n:Nat) (new:List Value) (_:Tok k:= .mk):Prop:=
 (len=0∧cap=0∧zhi T G H e a k n new)∨ ∃b,a=some ⟨b,0,none⟩∧(ziz T G H e b len cap (zq H b) k n new∨zhz T G H e b len cap (zq H b) k n new)
theorem zd8.zero {T:Tys} {G:za} {H:zb} {e:TypeId} {a:Option Addr} {k:Value→zb→Prop} {n:Nat} {new:List Value} (h:zhi T G H e a k n new):zd8 T G H e a 0 0 k n new:= .inl ⟨rfl,rfl,h⟩
theorem zd8.own {T:Tys} {G:za} {H:zb} {e:TypeId} {b len cap:Nat} {k:Value→zb→Prop} {n:Nat} {new:List Value} (h:ziz T G H e b len cap (zq H b) k n new):zd8 T G H e (some ⟨b,0,none⟩) len cap k n new:= .inr ⟨b,rfl, .inl h⟩
theorem zd8.tight {T:Tys} {G:za} {H:zb} {e:TypeId} {b len cap:Nat} {k:Value→zb→Prop} {n:Nat} {new:List Value} (h:zhz T G H e b len cap (zq H b) k n new):zd8 T G H e (some ⟨b,0,none⟩) len cap k n new:= .inr ⟨b,rfl, .inr h⟩
theorem zlQ {T:Tys} {G:za} {H:zb} {e:TypeId} {b len cap:Nat} {xs sp:List Value} {e':TypeId} {k:Value→zb→Prop} {n:Nat} {new:List Value}:
  zhz T G H e b len cap (some (.cells xs sp e')) k n new=(e'=e∧Ob (xs.length=len * (T e).size∧cap<len+n∧(len+n) * (T e).bytes≤140737488355328∧len+n≤9223372036854775807)
    (zbV G (zm (z8 H b)) (len+n) (T e).size fun b' sp' cap'=>k (.slice (some ⟨b',0,none⟩) (len+n) cap') ((b', .cells (xs++new) sp' e)::z8 H b))):=rfl
theorem znN {T:Tys} {G:za} {H:zb} {e:TypeId} {b len cap:Nat} {xs sp:List Value} {e':TypeId} {k:Value→zb→Prop} {n:Nat} {new:List Value}:
  ziz T G H e b len cap (some (.cells xs sp e')) k n new=(e'=e∧Ob (xs.length=len * (T e).size∧xs.length+sp.length=cap * (T e).size∧(len+n) * (T e).bytes≤140737488355328∧len+n≤9223372036854775807∧znM new=true)
    (zbV G (zm (z8 H b)) (len+n) (T e).size fun b' sp' cap'=>k (.slice (some ⟨b',0,none⟩) (len+n) cap') ((b', .cells (xs++new) sp' e)::z8 H b))):=rfl
def znu (T:Tys) (G:za) (H:zb) (e:TypeId) (s:Value) (k:Value→zb→Prop) (n:Nat) (new:List Value) (_:Tok k:= .mk):Prop:=
 match s with
 | .slice a len cap=>zd8 T G H e a len cap k n new
 |_=>False
def zj9 (T:Tys) (G:za) (H:zb) (e:TypeId) (s x:Value) (k:Value→zb→Prop) (_:Tok k:= .mk):Prop:=
 match s,x with
 | .slice _ len cap, .int .i64 n=>Ob (len=0∧(cap:Int) <n∧n.toNat * (T e).bytes≤140737488355328∧n≤9223372036854775807)
   (zbV G (zm H) n.toNat (T e).size fun b sp cap=>k (.slice (some ⟨b,0,none⟩) n.toNat cap) ((b, .cells (rep n.toNat (T e).zero) sp e)::H))
 |_,_=>False
def zhA (T:Tys) (G:za) (H:zb) (t u:TypeId) (s x:Value) (k:Value→zb→Prop) (_:Tok k:= .mk):Prop:=
 match (T t).k,(T u).k with
 | .slice e, .slice _| .slice e, .string=>((T e).k≠ .none∧(T e).zero.length=(T e).size∧(T e).size≠0)∧zf6 T G H e x fun n new=>znu T G H e s k n new
 | .slice e, .int _=>((T e).k≠ .none∧(T e).zero.length=(T e).size∧(T e).size≠0)∧zj9 T G H e s x k
 |_,_=>False
def zaa:Value→Nat
 | .slice _ n _=>n
 | .string s=>s.size
 |_=>0
theorem zf7 {G:za} {H:zb} {b o n:Nat} {k:List Value→Prop} (h:zaH G H b o n k): ∃cs,k cs∧cs.length=n∧ ∀k':List Value→Prop,k' cs→zaH G H b o n k':=by
 unfold zaH Ob at *
 split at h
 ·exact⟨_,h.2,by have:=h.1;simp;omega,fun k' hk=>⟨h.1,hk⟩⟩
 ·exact⟨_,h.2,h.1.symm,fun k' hk=>⟨h.1,hk⟩⟩
 ·split at h
  ·exact⟨_,h.2,by have:=h.1;simp;omega,fun k' hk=>⟨h.1,hk⟩⟩
  ·exact⟨_,h.2,h.1.symm,fun k' hk=>⟨h.1,hk⟩⟩
def zdh (G:za) (H H':zb):Prop:= ∀b o n (k:List Value→Prop),zaH G H b o n k→zaH G H' b o n k
theorem znf {q:Bool} {P:Program} {T:Tys} {G:za} {H:zb} {e:TypeId} {x:Value} {K:Nat→List Value→Prop} (hs0:(T e).size≠0) (h:zf6 T G H e x K):
  ∃new,K (zaa x) new∧new.length=zaa x * (T e).size∧Builtin.lenOf x=pure (zaa x)∧
   ∀H',zdh G H H'→ ∀k:Array Value→zb→Prop,k new.toArray H'→runS q P G (Builtin.firstCells (T e).size (zaa x) x) H' k:=by
 unfold zf6 at h
 split at h
 ·rename_i a n c
  have zero:n * (T e).size=0∧K n []→(∀s:Nat,∀a',a=some a'→n * s=0→True)→ ∃new,K (zaa (.slice a n c)) new∧new.length=zaa (.slice a n c) * (T e).size∧Builtin.lenOf (.slice a n c)=pure (zaa (.slice a n c))∧
    ∀H',zdh G H H'→ ∀k:Array Value→zb→Prop,k new.toArray H'→runS q P G (Builtin.firstCells (T e).size (zaa (.slice a n c)) (.slice a n c)) H' k:=by
   rintro⟨h0,h⟩ _
   obtain rfl:n=0:=by
    rcases Nat.mul_eq_zero.1 h0 with h|h
    ·exact h
    ·exact absurd h hs0
   refine⟨[],h,by simp [zaa],rfl,fun H' _ k hk=>?_⟩
   cases a with
   |none=>exact hk
   |some a=>
    simp only[Builtin.firstCells,zaa,Nat.zero_mul]
    exact hk
  unfold rdSl at h
  split at h
  ·rename_i b o
   obtain⟨cs,h1,h2,h3⟩:=zf7 h
   exact⟨cs,h1,h2,rfl,fun H' hr k hk=>zb5 (hr _ _ _ _ (h3 _ hk))⟩
  ·exact zero h (fun _ _ _ _=>trivial)
 ·rename_i s
  obtain⟨hs,h⟩:=h
  have hl:s.data.toList.length=s.size:=by simp
  refine⟨_,by rw[hl] at h;exact h,by simp [zaa,hs],rfl,fun H' _ k hk=>?_⟩
  simp only[Builtin.firstCells,zaa,zh]
  have:(s.extract 0 s.size).data.map (fun b=>Value.int .u8 b.toNat)=(s.data.toList.map zB).toArray:=by
   apply Array.ext'
   simp only[ByteArray.data_extract,Array.toList_map,Array.toList_extract,List.extract_eq_take_drop,List.drop_zero,Nat.sub_zero]
   rw[List.take_of_length_le (by simp)]
   rfl
  rw[this];exact hk
 ·exact h.elim
theorem zdh.refl (G:za) (H:zb):zdh G H H:=fun _ _ _ _ h=>h
theorem zq8 {G:za} {H:zb} {b:Nat} {xs sp xs' sp':List Value} {e:TypeId} (hf:zq H b=some (.cells xs sp e)) (he:xs++sp=xs'++sp'):zdh G H (z7 H b (.cells xs' sp' e)):=by
 intro c o n k h
 unfold zaH Ob at *
 split at h
 ·exact h
 ·exact h
 ·have key: ∀H:zb,zq H b=some (.cells xs sp e)→zq (z7 H b (.cells xs' sp' e)) c=if c=b then some (.cells xs' sp' e) else zq H c:=fun H hf=>by
   by_cases hcb:c=b
   ·subst hcb;rw[if_pos rfl];exact zfE hf
   ·rw[if_neg hcb]
    clear h hf
    induction H with
    |nil=>rfl
    |cons p H ih=>
     obtain⟨q,r⟩:=p
     simp only[z7]
     split
     ·rename_i hq;subst hq;simp only[zq,if_neg (Ne.symm hcb)]
     ·simp only[zq];split
      ·rfl
      ·exact ih
  rw[key H hf]
  by_cases hcb:c=b
  ·subst hcb
   rw[if_pos rfl]
   rw[hf] at h
   have:=congrArg List.length he
   simp only[List.length_append] at this
   simp only[] at h⊢
   rw[←he,←this];exact h
  ·rw[if_neg hcb];exact h
theorem HeapOk.refind {G:za} {H:zb} {w:World} {b:Nat} {xs sp xs' sp':List Value} {e:TypeId} (h:HeapOk E G H w) (hf:zq H b=some (.cells xs sp e)) (he:xs++sp=xs'++sp'):
  HeapOk E G (z7 H b (.cells xs' sp' e)) w:=by
 obtain⟨o,ho,fr,hfr,hl⟩:=h.find hf
 refine h.set (r':= .cells xs' sp' e) hf ho ⟨fr,by rw[hfr,he],?_⟩ (fun c _=>rfl) ⟨rfl,rfl⟩
 have:=congrArg List.length he
 simp only[List.length_append] at this
 rw[←this];exact hl
theorem zgB {H:zb} {b:Nat} {r r':Res} (h:zq H b=some r):(z7 H b r').Perm ((b,r')::z8 H b):=by
 induction H with
 |nil=>simp [zq] at h
 |cons p H ih=>
  obtain⟨k,s⟩:=p
  simp only[zq] at h
  simp only[z7,z8]
  split at h
  ·rename_i hk;subst hk;rw[if_pos rfl,if_pos rfl]
  ·rename_i hk
   rw[if_neg hk,if_neg hk]
   exact((ih h).cons _).trans (List.Perm.swap _ _ _)
theorem zfq (need old:Nat) (e:TypeId) (t:Nat):need≤(Question.appendCap need old e).cut t:=by simp [Question.cut]
section app
variable {q:Bool} {P:Program} {G:za} {e t u ty:TypeId} {i:TypeInfo} {z s x:Value} {n:Nat} {new:List Value}
theorem zjK (hd:P.underlying t=some (.slice e)) (hu:(∃v,P.underlying u=some (.slice v))∨P.underlying u=some .string) (hi:P.info? e=some i)
  (hlen:Builtin.lenOf x=pure n) {H:zb} {k:Value→zb→Prop} {base:Option Addr} {sLen sCap:Nat} (hfit:sLen+n≤sCap)
  (hr:runS q P G (Builtin.firstCells i.size n x) H fun new H'=>runS q P G (match base with|some a=>storeCells (a.add (sLen * i.size)) new.toList|none=>pure ()) H' fun _ H''=>k (.slice base (sLen+n) sCap) H''):
  runS q P G (Builtin.append_ #[t,u] ty #[.slice base sLen sCap,x]) H k:=by
 rcases hu with ⟨v,hu⟩|hu <;> cases base <;>
  simp [Builtin.append_,ze,zi hd,zi hu,zam hi,zh,zd6,hlen,hfit] at hr⊢ <;> exact hr
theorem zf8 (hd:P.underlying t=some (.slice e)) (hu:(∃v,P.underlying u=some (.slice v))∨P.underlying u=some .string) (hi:P.info? e=some i) (hz:i.zero=some z)
  (hlen:Builtin.lenOf x=pure n) {H:zb} {k:Value→zb→Prop} {base:Option Addr} {sLen sCap:Nat} (hfit:sCap<sLen+n) (h63:sLen+n≤9223372036854775807)
  (h48:Builtin.nextslicecap (sLen+n) sCap * i.bytes≤281474976710656)
  (hr: ∀c,sLen+n≤c→runS false P G (Builtin.firstCells i.size sLen (.slice base sLen sCap)) H fun old H'=>runS false P G (Builtin.firstCells i.size n x) H' fun new H''=>
   runS false P G (newRow e (old++new++Builtin.zeroCells z.cells (c - (sLen+n)))) H'' fun a H3=>k (.slice (some a) (sLen+n) c) H3):
  runS false P G (Builtin.append_ #[t,u] ty #[.slice base sLen sCap,x]) H k:=by
 have h1: ¬(sLen+n≤sCap):=by omega
 have hm:IntKind.i64.max=9223372036854775807:=by decide
 have h2: ¬((9223372036854775807 :Int) < (sLen:Int)+(n:Int)):=by omega
 have h3: ¬(281474976710656<Builtin.nextslicecap (sLen+n) sCap * i.bytes):=by omega
 rcases hu with ⟨v,hu⟩|hu <;>
  simp [Builtin.append_,ze,zi hd,zi hu,zam hi,zdX hi,za3 hi hz,zh,hlen,h1,h2,h3,hm,choose,runS,Question.forced,askRoom,mark] <;>
  (intro tt;have:=hr _ (zfq (sLen+n) sCap e tt);split <;> simpa [runS,zh,zd6,List.append_assoc] using this)
end app
theorem zdY {T:Tys} {e:TypeId} {z:Value} (h:z.cells.toList=(T e).zero) (n:Nat) (hs:(T e).zero.length≠0):(Builtin.zeroCells z.cells n).toList=rep n (T e).zero:=by
 unfold Builtin.zeroCells
 rw[zlP z.cells n (.inr (by rw[←Array.length_toList,h];omega)),h]
theorem zsL {G:za} {H:zb} {b:Nat} {r:Res} (hs:Sep G (zm H)) (hf:zq H b=some r):Sep G (b::zm (z8 H b)):=by
 have hp:(b::zm (z8 H b)).Perm (zm H):=by
  have h1:=(zgB (r':=r) hf).map (·.1)
  have h2:(z7 H b r).map (·.1)=zm H:=ziv H b r
  rw[h2] at h1
  exact h1.symm
 rw[zaY] at hs⊢
 exact⟨fun c hc=>hs.1 c (hp.mem_iff.1 hc),hp.nodup_iff.2 hs.2⟩
theorem znO {P:Program} {G:za} {e t u ty:TypeId} {i:TypeInfo} {z:Value} {kd:IntKind} (hd:P.underlying t=some (.slice e)) (hu:P.underlying u=some (.int kd)) (hi:P.info? e=some i) (hz:i.zero=some z)
  {H:zb} {k:Value→zb→Prop} {base:Option Addr} {sCap n:Nat} (hn:n * i.size≠0) (hfit:sCap<n) (h63:(n:Int)≤9223372036854775807) (hby:n * i.bytes≤281474976710656)
  (h48:Builtin.nextslicecap n sCap * i.bytes≤281474976710656)
  (hr: ∀c,n≤c→runS false P G (newRow e (Builtin.zeroCells z.cells n++Builtin.zeroCells z.cells (c - n))) H fun a H3=>k (.slice (some a) n c) H3):
  runS false P G (Builtin.append_ #[t,u] ty #[.slice base 0 sCap, .int .i64 n]) H k:=by
 have h1: ¬(n≤sCap):=by omega
 have hm:IntKind.i64.max=9223372036854775807:=by decide
 have h2: ¬((9223372036854775807 :Int) < (n:Int)):=by omega
 have h3: ¬(281474976710656<Builtin.nextslicecap n sCap * i.bytes):=by omega
 have h4: ¬((281474976710656 :Int) < (n:Int) * (i.bytes:Int)):=by
  rw[←Int.natCast_mul];omega
 have hw:IntKind.i64.wrap (n:Int)=n:=by unfold IntKind.wrap;simp [IntKind.bits,IntKind.signed];omega
 have h5: ¬((n:Int) <0):=by omega
 cases base <;>
 simp [Builtin.append_,Builtin.firstCells,asInt,asIntOf,hw,h4,h5,hn,ze,zi hd,zi hu,zam hi,zdX hi,za3 hi hz,zh,h1,h2,h3,hm,choose,runS,Question.forced,askRoom,mark] <;>
  (intro tt;have:=hr _ (zfq n sCap e tt);split <;> simpa [runS,ze,zh,zd6,za3 hi hz,loadCells,loadCellsFrom,List.append_assoc] using this)
theorem zlR {P:Program} {T:Tys} (hT:zR P T) {G:za} {H:zb} {t u ty:TypeId} {s x:Value} {kk:Value→zb→Prop}
  (h:zhA T G H t u s x kk):zT P G (Builtin.append_ #[t,u] ty #[s,x]) H kk:=by
 unfold zhA at h
 have key: ∀e,(T t).k= .slice e→((∃v,P.underlying u=some (.slice v))∨P.underlying u=some .string)→((T e).k≠ .none∧(T e).zero.length=(T e).size∧(T e).size≠0)→(zf6 T G H e x fun n new=>znu T G H e s kk n new)→
   zT P G (Builtin.append_ #[t,u] ty #[s,x]) H kk:=by
  clear h
  intro e hf hu ⟨hk,hzl,hs0⟩ h
  obtain⟨d,hd,hfit⟩:=hT.und hf (by simp)
  simp only[TK.fits] at hfit
  subst hfit
  obtain⟨i,z,hi,hs,hby,hz,hzc⟩:=hT.info hk
  have hz0:(T e).zero.length≠0:=by rw[hzl];exact hs0
  obtain⟨new,h2,hnl,hlen,hread⟩:=znf (q:=false) (P:=P) hs0 h
  clear h
  have h:=h2
  clear h2
  rw[←hs] at hread
  unfold znu at h
  split at h
  ·rename_i a len cap
   rcases h with ⟨rfl,rfl,h⟩| ⟨b,rfl,h|h⟩
   · -- a slice without room
    unfold zhi at h
    by_cases hn:zaa x=0
    ·replace h:=h.1 (by simp [hn])
     refine zT.of (zjK hd hu hi hlen (by omega) ?_)
     refine hread H (zdh.refl _ _) _ ?_
     have hnew:new=[]:=List.eq_nil_of_length_eq_zero (by rw[hnl,hn,Nat.zero_mul])
     subst hnew
     cases a with
     |none=>simp only[zh,hn];exact h
     |some a=>
      simp only[hn]
      exact h
    ·obtain⟨⟨hb,h63⟩,h⟩:=h.2 (by simp [hn])
     refine zT.weak (k:=fun v H'=> ∃b c,zaa x≤c∧Sep G (b::zm H)∧v= .slice (some ⟨b,0,none⟩) (zaa x) c∧H'=(b, .cells (new++rep (c - zaa x) (T e).zero) [] e)::H) (zT.of ?_) ?_
     ·have hg:=growslice_fits (need:=zaa x) (old:=0) (bytes:=i.bytes) (by omega) (by rw[hby];exact hb)
      refine zf8 hd hu hi hz hlen (by omega) (by omega) (by simpa using hg) fun c hc=>?_
      have rest:runS false P G (Builtin.firstCells i.size (zaa x) x) H fun new' H''=>runS false P G (newRow e (#[]++new'++Builtin.zeroCells z.cells (c - (0+zaa x)))) H'' fun a' H3=>
        ∃b c',zaa x≤c'∧Sep G (b::zm H)∧(Value.slice (some a') (0+zaa x) c)= .slice (some ⟨b,0,none⟩) (zaa x) c'∧H3=(b, .cells (new++rep (c' - zaa x) (T e).zero) [] e)::H:=by
       refine hread H (zdh.refl _ _) _ ?_
       simp only[newRow,newObj,ze,runS,zh]
       refine⟨by trivial,by simp [zbw],fun b hb=>⟨b,c,by omega,hb,by simp,?_⟩⟩
       simp only[zeu,if_true]
       congr 2
       simp [zdY hzc _ hz0]
      cases a with
      |none=>simp only[Builtin.firstCells,zh];exact rest
      |some a=>
       simp only[Builtin.firstCells,Nat.zero_mul]
       exact rest
     ·rintro v H' ⟨b,c,hc,hsep,rfl,rfl⟩
      refine⟨_,fun E w hw=>hw.resplit (xs':=new) (sp':=rep (c - zaa x) (T e).zero) (by simp),h b _ c hsep ?_⟩
      rw[zfF,hzl,←Nat.add_mul];congr 1;omega
   ·generalize hfb:zq H b=fb at h
    unfold ziz at h
    split at h
    ·rename_i xs sp e'
     obtain⟨rfl,⟨hxl,hcl,hb,h63,hone⟩,h⟩:=h
     by_cases hfits:len+zaa x≤cap
     · -- there is room
      have hr1:zdh G H (z7 H b (.cells (xs++sp) [] e')):=zq8 hfb (by simp)
      have hfb1:zq (z7 H b (.cells (xs++sp) [] e')) b=some (.cells (xs++sp) [] e'):=zfE hfb
      have hnsp:new.length≤sp.length:=by
       have:(len+zaa x) * (T e').size≤cap * (T e').size:=Nat.mul_le_mul_right _ hfits
       rw[Nat.add_mul] at this;omega
      intro E w hw
      have hw1:=hw.refind (xs':=xs++sp) (sp':=[]) hfb (by simp)
      have hrun:runS false P G (Builtin.append_ #[t,u] ty #[.slice (some ⟨b,0,none⟩) len cap,x]) (z7 H b (.cells (xs++sp) [] e'))
        (fun v H'=>v= .slice (some ⟨b,0,none⟩) (len+zaa x) cap∧H'=z7 H b (.cells (xs++new++sp.drop new.length) [] e')):=by
       refine zjK hd hu hi hlen hfits ?_
       refine hread _ hr1 _ ?_
       simp only[zb6,Nat.zero_add]
       refine zcm _ 0 ?_
       unfold zdI Ob
       simp only[Nat.add_zero,hfb1,zms]
       refine⟨⟨by simp;rw[hs];omega,hone⟩,trivial,?_⟩
       congr 2
       unfold zf
       rw[hs,←hxl,List.take_left',List.drop_append]
       ·simp
       ·rfl
      obtain⟨v,w',H',e1,e2,rfl,rfl⟩:=zkR _ hw1 hrun
      refine⟨_,w',_,e1,?_,h b (sp.drop new.length) cap (zsL hw.sep hfb) ?_⟩
      ·have hp:=e2.perm (zgB (r':= .cells (xs++new++sp.drop new.length) [] e') hfb)
       exact hp.resplit (by simp)
      ·rw[List.length_drop,Nat.add_mul,←hnl];omega
     · -- it grows
      intro E w hw
      have hg0:=hw.none hfb
      refine zT.weak (k:=fun v H'=> ∃b' c,len+zaa x≤c∧Sep G (b'::zm H)∧v= .slice (some ⟨b',0,none⟩) (len+zaa x) c∧H'=(b', .cells (xs++new++rep (c - (len+zaa x)) (T e').zero) [] e')::H) (zT.of ?_) ?_ w hw
      ·have hg:=growslice_fits (need:=len+zaa x) (old:=cap) (bytes:=i.bytes) (by omega) (by rw[hby];exact hb)
       refine zf8 hd hu hi hz hlen (by omega) h63 hg fun c hc=>?_
       simp only[Builtin.firstCells]
       refine zb5 ?_
       unfold zaH Ob
       simp only[hg0,hfb]
       refine⟨by rw[hs];omega,?_⟩
       have ht:List.take (len * i.size) (List.drop 0 (xs++sp))=xs:=by
        rw[List.drop_zero,hs,←hxl,List.take_left']
        rfl
       rw[ht]
       refine hread H (zdh.refl _ _) _ ?_
       simp only[newRow,newObj,ze,runS,zh]
       refine⟨by trivial,by simp [zbw],fun b' hb'=>⟨b',c,hc,hb',rfl,?_⟩⟩
       simp only[zeu,if_true]
       congr 2
       simp [zdY hzc _ hz0]
      ·rintro v H' ⟨b',c,hc,hsep,rfl,rfl⟩
       refine⟨(b', .cells (xs++new) (rep (c - (len+zaa x)) (T e').zero) e')::z8 H b,fun E w hw=>?_,h b' _ c ?_ ?_⟩
       ·exact(hw.resplit (xs':=xs++new) (sp':=rep (c - (len+zaa x)) (T e').zero) (by simp)).sub ((zfG H b).cons_cons _)
       ·rw[zaY] at hsep⊢
        have hsub:(b'::zm (z8 H b)).Sublist (b'::zm H):=((zfG H b).map _).cons_cons _
        exact⟨fun c hc=>hsep.1 c (hsub.subset hc),hsep.2.sublist hsub⟩
       ·rw[zfF,hzl,←Nat.add_mul];congr 1;omega
    ·exact h.elim
   ·generalize hfb:zq H b=fb at h
    unfold zhz at h
    split at h
    ·rename_i xs sp e'
     obtain⟨rfl,⟨hxl,hfits,hb,h63⟩,h⟩:=h
     intro E w hw
     have hg0:=hw.none hfb
     refine zT.weak (k:=fun v H'=> ∃b' c,len+zaa x≤c∧Sep G (b'::zm H)∧v= .slice (some ⟨b',0,none⟩) (len+zaa x) c∧H'=(b', .cells (xs++new++rep (c - (len+zaa x)) (T e').zero) [] e')::H) (zT.of ?_) ?_ w hw
     ·have hg:=growslice_fits (need:=len+zaa x) (old:=cap) (bytes:=i.bytes) (by omega) (by rw[hby];exact hb)
      refine zf8 hd hu hi hz hlen (by omega) h63 hg fun c hc=>?_
      simp only[Builtin.firstCells]
      refine zb5 ?_
      unfold zaH Ob
      simp only[hg0,hfb]
      refine⟨by rw[hs];omega,?_⟩
      have ht:List.take (len * i.size) (List.drop 0 (xs++sp))=xs:=by
       rw[List.drop_zero,hs,←hxl,List.take_left']
       rfl
      rw[ht]
      refine hread H (zdh.refl _ _) _ ?_
      simp only[newRow,newObj,ze,runS,zh]
      refine⟨by trivial,by simp [zbw],fun b' hb'=>⟨b',c,hc,hb',rfl,?_⟩⟩
      simp only[zeu,if_true]
      congr 2
      simp [zdY hzc _ hz0]
     ·rintro v H' ⟨b',c,hc,hsep,rfl,rfl⟩
      refine⟨(b', .cells (xs++new) (rep (c - (len+zaa x)) (T e').zero) e')::z8 H b,fun E w hw=>?_,h b' _ c ?_ ?_⟩
      ·exact(hw.resplit (xs':=xs++new) (sp':=rep (c - (len+zaa x)) (T e').zero) (by simp)).sub ((zfG H b).cons_cons _)
      ·rw[zaY] at hsep⊢
       have hsub:(b'::zm (z8 H b)).Sublist (b'::zm H):=((zfG H b).map _).cons_cons _
       exact⟨fun c hc=>hsep.1 c (hsub.subset hc),hsep.2.sublist hsub⟩
      ·rw[zfF,hzl,←Nat.add_mul];congr 1;omega
    ·exact h.elim
  ·exact h.elim
 split at h
 ·rename_i e v hf hu
  obtain⟨d,hd,hfit⟩:=hT.und hu (by simp)
  simp only[TK.fits] at hfit
  subst hfit
  exact key e hf (.inl ⟨v,hd⟩) h.1 h.2
 ·rename_i e hf hu
  obtain⟨d,hd,hfit⟩:=hT.und hu (by simp)
  simp only[TK.fits] at hfit
  subst hfit
  exact key e hf (.inr hd) h.1 h.2
 ·rename_i e kd hf hu
  obtain⟨d2,hd2,hfit2⟩:=hT.und hu (by simp)
  simp only[TK.fits] at hfit2
  subst hfit2
  obtain⟨⟨hk,hzl,hs0⟩,h⟩:=h
  obtain⟨d,hd,hfit⟩:=hT.und hf (by simp)
  simp only[TK.fits] at hfit
  subst hfit
  obtain⟨i,z,hi,hs,hby,hz,hzc⟩:=hT.info hk
  have hz0:(T e).zero.length≠0:=by rw[hzl];exact hs0
  unfold zj9 at h
  split at h
  ·rename_i a len cap n
   obtain⟨⟨rfl,hcn,hb,h63⟩,h⟩:=h
   obtain⟨m,rfl⟩: ∃m:Nat,n=m:=⟨n.toNat,by omega⟩
   simp only[Int.toNat_natCast] at hb h
   refine zT.weak (k:=fun v H'=> ∃b c,m≤c∧Sep G (b::zm H)∧v= .slice (some ⟨b,0,none⟩) m c∧H'=(b, .cells (rep m (T e).zero++rep (c - m) (T e).zero) [] e)::H) (zT.of ?_) ?_
   ·have hg:=growslice_fits (need:=m) (old:=cap) (bytes:=i.bytes) (by omega) (by rw[hby];exact hb)
    refine znO hd hd2 hi hz (Nat.mul_ne_zero (by omega) (by rw[hs];exact hs0)) (by omega) h63 (by rw[hby];omega) hg fun c hc=>?_
    simp only[newRow,newObj,ze,runS,zh]
    refine⟨by trivial,by simp [zbw],fun b hb=>⟨b,c,hc,hb,rfl,?_⟩⟩
    simp only[zeu,if_true]
    congr 2
    simp [zdY hzc _ hz0]
   ·rintro v H' ⟨b,c,hc,hsep,rfl,rfl⟩
    refine⟨_,fun E w hw=>hw.resplit (xs':=rep m (T e).zero) (sp':=rep (c - m) (T e).zero) (by simp),h b _ c hsep ?_⟩
    rw[zfF,hzl,←Nat.add_mul];congr 1;omega
  ·exact h.elim
 ·exact h.elim
end Go.V
namespace Go.V
def znv (T:Tys) (t:TypeId) (x:Value) (k:Value→Prop) (_:Tok k:= .mk):Prop:=
 match x with
 | .string s=>(T t).k= .string∧k (.int .i64 s.data.toList.length)
 | .slice _ n _=>match (T t).k with
  | .slice _=>k (.int .i64 n)
  |_=>False
 | .map none=>match (T t).k with
  | .map .. =>k (.int .i64 0)
  |_=>False
 |_=>match (T t).k with
  | .arr n _=>k (.int .i64 n)
  |_=>False
def znw (T:Tys) (t:TypeId) (x:Value) (k:Value→Prop) (_:Tok k:= .mk):Prop:=
 match x with
 | .slice _ _ c=>match (T t).k with
  | .slice _=>k (.int .i64 c)
  |_=>False
 |_=>False
theorem zpi {q:Bool} {P:Program} {T:Tys} (hT:zR P T) {G:za} {H:zb} {t ty:TypeId} {x:Value} {kk:Value→zb→Prop}
  (h:znw T t x fun v=>kk v H):runS q P G (Builtin.cap_ #[t] ty #[x]) H kk:=by
 unfold znw at h
 split at h
 ·split at h
  ·rename_i n c e hf
   obtain⟨d,hd,hfit⟩:=hT.und hf (by simp)
   simp only[TK.fits] at hfit
   subst hfit
   simp [Builtin.cap_,ze,zi hd,zh,goInt]
   exact h
  ·exact h.elim
 ·exact h.elim
theorem zjL {q:Bool} {P:Program} {T:Tys} (hT:zR P T) {G:za} {H:zb} {t ty:TypeId} {x:Value} {kk:Value→zb→Prop}
  (h:znv T t x fun v=>kk v H):runS q P G (Builtin.len_ #[t] ty #[x]) H kk:=by
 unfold znv at h
 split at h
 ·rename_i s
  obtain⟨hk,h⟩:=h
  obtain⟨d,hd,hfit⟩:=hT.und hk (by simp)
  simp only[TK.fits] at hfit
  subst hfit
  simp [Builtin.len_,ze,zi hd,zh,goInt]
  simpa using h
 ·split at h
  ·rename_i n c e hf
   obtain⟨d,hd,hfit⟩:=hT.und hf (by simp)
   simp only[TK.fits] at hfit
   subst hfit
   simp [Builtin.len_,ze,zi hd,zh,goInt]
   exact h
  ·exact h.elim
 ·split at h
  ·rename_i a b hf
   obtain⟨d,hd,hfit⟩:=hT.und hf (by simp)
   simp only[TK.fits] at hfit
   subst hfit
   simp [Builtin.len_,ze,zi hd,zh,goInt]
   exact h
  ·exact h.elim
 ·split at h
  ·rename_i n e hf
   obtain⟨d,hd,hfit⟩:=hT.und hf (by simp)
   simp only[TK.fits] at hfit
   subst hfit
   simp [Builtin.len_,ze,zi hd,zh,goInt]
   exact h
  ·exact h.elim
def zu5 (a b:Int):Int:=if b<a then b else a
def zu6 (a b:Int):Int:=if a<b then b else a
def znx (vs:List Value) (k:Value→Prop) (_:Tok k:= .mk):Prop:=
 match vs with
 | [.int a m, .int b n]=>k (.int a (zu5 m n))
 |_=>False
def zny (vs:List Value) (k:Value→Prop) (_:Tok k:= .mk):Prop:=
 match vs with
 | [.int a m, .int b n]=>k (.int a (zu6 m n))
 |_=>False
theorem zjM {q:Bool} {P:Program} {G:za} {H:zb} {ts:Array TypeId} {ty:TypeId} {vs:List Value} {kk:Value→zb→Prop} (h:znx vs fun v=>kk v H):
  runS q P G (Builtin.min_ ts ty vs.toArray) H kk:=by
 unfold znx at h
 split at h
 ·simp [Builtin.min_,Builtin.min2,zh];exact h
 ·exact h.elim
theorem zjN {q:Bool} {P:Program} {G:za} {H:zb} {ts:Array TypeId} {ty:TypeId} {vs:List Value} {kk:Value→zb→Prop} (h:zny vs fun v=>kk v H):
  runS q P G (Builtin.max_ ts ty vs.toArray) H kk:=by
 unfold zny at h
 split at h
 ·simp [Builtin.max_,Builtin.max2,zh];exact h
 ·exact h.elim
def zdi (cs:List Value) (k:List UInt8→Prop) (_:Tok k:= .mk):Prop:= ∃bs:List UInt8,cs=bs.map zB∧k bs
theorem zg2 (bs:List UInt8) (k:List UInt8→Prop):zdi (bs.map zB) k=k bs:=by
 apply propext
 constructor
 ·rintro⟨cs,h,hk⟩
  have:bs=cs:=by
   have hinj: ∀a b:UInt8,zB a=zB b→a=b:=fun a b h=>by
    simp only[zB,Value.int.injEq,true_and] at h
    exact UInt8.toNat_inj.1 (by omega)
   exact(List.map_inj_right fun{a b} h=>hinj a b h).1 h
  subst this;exact hk
 ·intro h;exact⟨bs,rfl,h⟩
theorem zpj (k:List UInt8→Prop):zdi [] k=k []:=zg2 [] k
def zq9 (r:Option Res) (k:Unit→Prop) (_:Tok k:= .mk):Prop:=match r with
 |some (.cells _ _ e)=>e=5∧k ()
 |_=>False
theorem zpk {xs sp:List Value} {e:TypeId} {k:Unit→Prop}:zq9 (some (.cells xs sp e)) k=(e=5∧k ()):=rfl
def ziA (T:Tys) (G:za) (H:zb) (src dst:TypeId) (x:Value) (k:Value→zb→Prop) (_:Tok k:= .mk):Prop:=
 match x with
 | .int _ n=>match (T src).k,(T dst).k with
  | .int _, .int a=>k (.int a (a.wrap n)) H
  |_,_=>False
 | .string s=>match (T src).k,(T dst).k with
  | .string, .string=>k (.string s) H
  | .string, .slice e=>e=5∧(T e).k= .int .u8∧(T e).size=1∧zbV G (zm H) s.data.toList.length 1 fun b sp cap=>k (.slice (some ⟨b,0,none⟩) s.data.toList.length cap) ((b, .cells (s.data.toList.map zB) sp e)::H)
  |_,_=>False
 | .slice a n _=>match (T src).k,(T dst).k with
  | .slice e, .string=>(T e).k= .int .u8∧rdSl G H a n fun cs=>zdi cs fun bs=>k (.string ⟨bs.toArray⟩) H
  | .slice _, .slice e=>src=dst∧(T e).k= .int .u8∧Ob (Adr a∧G (blk a)=none) (zq9 (zq H (blk a)) fun _=>k x H)
  |_,_=>False
 |_=>False
theorem zsM {q:Bool} {P:Program} {G:za} (bad:Value→ByteArray→Sem (ForInStep ByteArray)) (bs:List UInt8): ∀ (acc:ByteArray) (H:zb) (k:ByteArray→zb→Prop),k ⟨acc.data++bs.toArray⟩ H→
  runS q P G (forIn (bs.map zB) acc fun c r=>(match c with| .int .u8 n=>pure (ForInStep.yield (r.push (UInt8.ofNat n.toNat)))|c=>bad c r:Sem (ForInStep ByteArray))) H k:=by
 induction bs with
 |nil=>intro acc H k h;simpa [zh] using h
 |cons c bs ih=>
  intro acc H k h
  simp only[List.map_cons,List.forIn_cons,zB,ze,zh]
  refine ih _ H k ?_
  have:(⟨(acc.push (UInt8.ofNat ((c.toNat:Int)).toNat)).data++bs.toArray⟩:ByteArray)=⟨acc.data++(c::bs).toArray⟩:=by
   congr 1
   apply Array.ext'
   simp
  rw[this];exact h
theorem znP {P:Program} {T:Tys} (hT:zR P T) {G:za} {H:zb} {src dst:TypeId} {x:Value} {kk:Value→zb→Prop}
  (h:ziA T G H src dst x kk):zT P G (convert src dst x) H kk:=by
 unfold ziA at h
 split at h
 ·split at h
  ·rename_i a n j b hs hd
   obtain⟨d1,hd1,hf1⟩:=hT.und hs (by simp)
   obtain⟨d2,hd2,hf2⟩:=hT.und hd (by simp)
   simp only[TK.fits] at hf1 hf2
   subst hf1;subst hf2
   refine zT.of ?_
   simp only[convert,ze,zi hd1,zi hd2,Conv.intToInt,zh]
   exact h
  ·exact h.elim
 ·rename_i s
  split at h
  ·rename_i hs hd
   obtain⟨d1,hd1,hf1⟩:=hT.und hs (by simp)
   obtain⟨d2,hd2,hf2⟩:=hT.und hd (by simp)
   simp only[TK.fits] at hf1 hf2
   subst hf1;subst hf2
   refine zT.of ?_
   simp only[convert,ze,zi hd1,zi hd2,zh]
   exact h
  ·rename_i e hs hd
   obtain⟨he5,he,hsz,h⟩:=h
   obtain⟨d1,hd1,hf1⟩:=hT.und hs (by simp)
   obtain⟨d2,hd2,hf2⟩:=hT.und hd (by simp)
   obtain⟨d3,hd3,hf3⟩:=hT.und he (by simp)
   simp only[TK.fits] at hf1 hf2 hf3
   subst hf1;subst hf2;subst hf3
   have hl:s.data.toList.length=s.size:=by simp
   refine zT.weak (k:=fun v H'=> ∃b c,s.size≤c∧Sep G (b::zm H)∧v= .slice (some ⟨b,0,none⟩) s.size c∧H'=(b, .cells (s.data.toList.map zB++List.replicate (c - s.size) (.int .u8 0)) [] e)::H) (zT.of ?_) ?_
   ·simp only[convert,ze,zi hd1,zi hd2,zi hd3,Conv.stringToBytes,choose,runS,Question.forced,Bool.false_eq_true,if_false]
    refine⟨trivial,fun tt=>?_⟩
    have hc:=zfq s.size 0 e tt
    simp only[newRow,newObj,ze,runS,zh]
    refine⟨by trivial,by simp [zbw],fun b hb=>?_⟩
    have hb0:G b=none:=hb.1.1
    simp only[markStringish,shape,freeze,ze,runS,hb0,zeu,if_true,zq,zh]
    refine⟨trivial,⟨by simp,he5⟩,trivial,b,_,hc,hb,rfl,?_⟩
    congr 2
    simp
    exact fun _ _=>rfl
   ·rintro v H' ⟨b,c,hc,hsep,rfl,rfl⟩
    refine⟨_,fun E w hw=>hw.resplit (xs':=s.data.toList.map zB) (sp':=List.replicate (c - s.size) (.int .u8 0)) (by simp),?_⟩
    rw[hl] at h
    refine h b _ c hsep ?_
    simp;omega
  ·exact h.elim
 ·rename_i a n c
  split at h
  ·rename_i e hs hd
   obtain⟨he,h⟩:=h
   obtain⟨d1,hd1,hf1⟩:=hT.und hs (by simp)
   obtain⟨d2,hd2,hf2⟩:=hT.und hd (by simp)
   obtain⟨d3,hd3,hf3⟩:=hT.und he (by simp)
   simp only[TK.fits] at hf1 hf2 hf3
   subst hf1;subst hf2;subst hf3
   refine zT.of ?_
   simp only[convert,ze,zi hd1,zi hd2,zi hd3]
   unfold rdSl at h
   split at h
   ·rename_i b o
    simp only[Conv.bytesToString,ze]
    refine zb5 ?_
    obtain⟨cs,⟨bs,rfl,hk⟩,_,hrd⟩:=zf7 h
    refine hrd _ ?_
    have hq:=fun bad=>zsM (q:=false) (P:=P) (G:=G) bad bs ByteArray.empty H (fun r H'=>kk (.string r) H') (by simpa using hk)
    rw[←Array.forIn_toList]
    exact hq _
   ·obtain⟨rfl,bs,hbs,hk⟩:=h
    obtain rfl:bs=[]:=by simpa using hbs.symm
    cases a with
    |none=>exact hk
    |some a=>exact hk
  ·rename_i e0 e hs hd
   obtain⟨rfl,he,h⟩:=h
   obtain⟨d1,hd1,hf1⟩:=hT.und hs (by simp)
   obtain⟨d3,hd3,hf3⟩:=hT.und he (by simp)
   rw[hs] at hd
   cases hd
   simp only[TK.fits] at hf1 hf3
   subst hf1;subst hf3
   unfold Ob at h
   obtain⟨⟨had,hg⟩,h⟩:=h
   unfold zq9 at h
   split at h
   ·rename_i xs sp e' hf
    cases a with
    |none=>cases had
    |some a=>
     refine zT.of ?_
     simp only[convert,ze,zi hd1,zi hd3,beq_self_eq_true,markStringish,shape,freeze,runS]
     simp only[blk] at hg hf
     simp only[hg,hf,ze,runS,zh]
     exact⟨trivial,⟨Nat.le_refl _,h.1⟩,trivial,h.2⟩
   ·exact h.elim
  ·exact h.elim
 ·exact h.elim
def zdZ (place:Nat→Option (Nat×Nat)) (cells:List Value):List (Nat×Value)→Option (List Value)
 | []=>some cells
 | (i,v)::rest=>
  match place i with
  |none=>none
  |some (off,size)=>if (zcP v).length=size∧off+size≤cells.length then zdZ place (zf cells off (zcP v)) rest else none
theorem znQ (vs:List Value): ∀ (cells:Array Value) (off j:Nat),off+j+vs.length≤cells.size→
  ((vs.zipIdx j).foldl (fun cs (p:Value×Nat)=>cs.setIfInBounds (off+p.2) p.1) cells).toList=zf cells.toList (off+j) vs:=by
 induction vs with
 |nil=>intro cells off j _;simp [zf]
 |cons v vs ih=>
  intro cells off j h
  simp only[List.length_cons] at h
  simp only[List.zipIdx_cons,List.foldl_cons]
  rw[ih (cells.setIfInBounds (off+j) v) off (j+1) (by simp;omega)]
  rw[Array.toList_setIfInBounds,←Nat.add_assoc,zjI (by simp;omega)]
theorem zlS (place:Nat→Option (Nat×Nat)): ∀ (parts:List (Nat×Value)) (cells:Array Value) (r:List Value),zdZ place cells.toList parts=some r→Instr.fill place cells parts=some r.toArray:=by
 intro parts
 induction parts with
 |nil=>intro cells r h;simp only[zdZ,Option.some.injEq] at h;subst h;simp [Instr.fill]
 |cons p parts ih=>
  obtain⟨i,v⟩:=p
  intro cells r h
  simp only[zdZ] at h
  unfold Instr.fill
  split at h
  ·cases h
  ·rename_i off size hp
   split at h
   ·rename_i hc
    have hl:v.cells.size=size:=by rw[←hc.1,←zfi];simp
    have h2:off+v.cells.size≤cells.size:=by have:=hc.2;simp at this;omega
    have h4:(decide (v.cells.size≠size)||decide (off+v.cells.size > cells.size))=false:=by simp;omega
    simp only[hp]
    rw[if_neg (by rw[h4];simp)]
    refine ih _ r ?_
    have:(Array.foldl (fun cs (x:Value×Nat)=>cs.setIfInBounds (off+x.2) x.1) cells v.cells.zipIdx).toList=zf cells.toList off (zcP v):=by
     rw[←Array.foldl_toList,Array.toList_zipIdx,zfi]
     have:=znQ (zcP v) cells off 0 (by rw[hc.1];simpa using hc.2)
     simpa using this
    rw[←h,←this]
   ·cases h
def zhB (o:Option (List Value)) (k:List Value→Prop) (_:Tok k:= .mk):Prop:=match o with|some v=>k v|none=>False
theorem zra (v:List Value) (k:List Value→Prop):zhB (some v) k=k v:=rfl
def zhC (T:Tys) (fs:List (Nat×Nat)) (i:Nat):Option (Nat×Nat):=(fs[i]?).map fun f=>(f.1,(T f.2).size)
def zfU (T:Tys) (t:TypeId) (parts:List (Nat×Value)) (k:Value→Prop) (_:Tok k:= .mk):Prop:=
 match (T t).k with
 | .struct fs=>(fs.all fun f=>match (T f.2).k with| .none=>false|_=>true)=true∧zhB (zdZ (zhC T fs) (T t).zero parts) fun cs=>k (.agg cs.toArray)
 | .arr _ e=>(T e).k≠ .none∧zhB (zdZ (fun i=>some (i * (T e).size,(T e).size)) (T t).zero parts) fun cs=>k (.agg cs.toArray)
 |_=>False
theorem zgC {q:Bool} {P:Program} {T:Tys} (hT:zR P T) {G:za} {H:zb}: ∀ (fs:List Field) (k:List (Nat×Nat)→zb→Prop),
  (fs.all fun f=>match (T f.type).k with| .none=>false|_=>true)=true→k (fs.map fun f=>(f.offset,(T f.type).size)) H→
  runS q P G (fs.mapM fun f=>do pure (f.offset,←sizeOf f.type)) H k
 | [],k,_,h=>by simpa [zh] using h
 |f::fs,k,hall,h=>by
  simp only[List.all_cons,Bool.and_eq_true] at hall
  have hk:(T f.type).k≠ .none:=by intro e;rw[e] at hall;exact absurd hall.1 (by simp)
  obtain⟨i,z,hi,hs,_⟩:=hT.info hk
  simp only[List.mapM_cons,ze,zam hi,zh,hs]
  refine zgC hT fs _ hall.2 ?_
  exact h
theorem zis {q:Bool} {P:Program} {T:Tys} (hT:zR P T) {G:za} {H:zb} {t:TypeId} {parts:Array (Nat×Value)} {kk:Value→zb→Prop}
  (h:zfU T t parts.toList fun v=>kk v H):runS q P G (Instr.build t parts) H kk:=by
 unfold zfU at h
 split at h
 ·rename_i fs hf
  obtain⟨hall,h⟩:=h
  obtain⟨d,hd,hfit⟩:=hT.und hf (by simp)
  obtain⟨fa,rfl,rfl⟩:=hfit
  have hk:(T t).k≠ .none:=by rw[hf];simp
  obtain⟨i,z,hi,hs,_,hz,hzc⟩:=hT.info hk
  simp only[Instr.build,ze,za3 hi hz,zi hd]
  rw[Array.mapM_eq_mapM_toList,zd6]
  refine zgC hT fa.toList _ (by simpa [List.all_map] using hall) ?_
  unfold zhB at h
  split at h
  ·rename_i r hr
   rw[←hzc] at hr
   have hfe:=zlS _ parts.toList z.cells r hr
   have hp:(fun x=>((List.map (fun f:Field=>(f.offset,(T f.type).size)) fa.toList).toArray)[x]?)=zhC T (List.map (fun x:Field=>(x.offset,x.type)) fa.toList):=by
    funext x
    simp [zhC]
    cases fa[x]? <;> simp
   rw[←hp] at hfe
   simp only[hfe,zh]
   exact h
  ·exact h.elim
 ·rename_i n e hf
  obtain⟨hk2,h⟩:=h
  obtain⟨d,hd,hfit⟩:=hT.und hf (by simp)
  simp only[TK.fits] at hfit
  subst hfit
  have hk:(T t).k≠ .none:=by rw[hf];simp
  obtain⟨i,z,hi,hs,_,hz,hzc⟩:=hT.info hk
  obtain⟨i2,z2,hi2,hs2,_⟩:=hT.info hk2
  simp only[Instr.build,ze,za3 hi hz,zi hd,zam hi2,hs2]
  unfold zhB at h
  split at h
  ·rename_i r hr
   rw[←hzc] at hr
   have hfe:=zlS _ parts.toList z.cells r hr
   simp only[hfe,zh]
   exact h
  ·exact h.elim
 ·exact h.elim
def zdt (T:Tys) (t:TypeId) (len:Nat) (parts:List (Nat×Value)) (k:TypeId→List Value→Prop) (_:Tok k:= .mk):Prop:=
 match (T t).k with
 | .slice e=>((T e).k≠ .none∧(T e).zero.length=(T e).size∧(T e).size≠0∧len * (T e).size≤16777216)∧
   zhB (zdZ (fun i=>some (i * (T e).size,(T e).size)) (rep len (T e).zero) parts) fun cs=>k e cs
 |_=>False
theorem ziB {P:Program} {T:Tys} (hT:zR P T) {G:za} {H:zb} {t:TypeId} {len:Nat} {parts:Array (Nat×Value)} {kk:Value→zb→Prop}
  (h:zdt T t len parts.toList fun e cs=>zdm G (zm H) fun b=>kk (.slice (some ⟨b,0,none⟩) len len) ((b, .cells cs [] e)::H)):runS false P G (Instr.buildSlice t len parts) H kk:=by
 unfold zdt at h
 split at h
 ·rename_i e hf
  obtain⟨⟨hk,hzl,hs0,hsm⟩,h⟩:=h
  obtain⟨d,hd,hfit⟩:=hT.und hf (by simp)
  simp only[TK.fits] at hfit
  subst hfit
  obtain⟨i,z,hi,hs,_,hz,hzc⟩:=hT.info hk
  have hzs:z.cells.size=(T e).size:=by rw[←Array.length_toList,hzc,hzl]
  unfold zhB at h
  split at h
  ·rename_i r hr
   have hrow:((Array.range (len * i.size)).map (z.cells[· % z.cells.size]!)).toList=rep len (T e).zero:=by
    rw[hs,←hzs,zlP z.cells len (.inr (by rw[hzs];omega)),hzc]
   have hfe: ∀ (cells:Array Value),cells.toList=rep len (T e).zero→Instr.fill (fun j=>some (j * i.size,i.size)) cells parts.toList=some r.toArray:=fun cells hc=>by
    rw[←hc] at hr
    rw[hs]
    exact zlS _ parts.toList cells r hr
   have hfin:runS false P G (do pure (.slice (some (←newRow e r.toArray)) len len):Sem Value) H kk:=by
    simp only[newRow,newObj,ze,runS,zh]
    refine⟨by trivial,by simp [zbw],fun b hb=>?_⟩
    simp only[zeu,if_true]
    exact h b hb
   simp only[Instr.buildSlice,ze,zi hd,zam hi]
   rw[if_neg (by rw[hs];omega)]
   by_cases h0:len * i.size=0
   ·have hl0:len=0:=by
     rcases Nat.mul_eq_zero.1 h0 with h|h
     ·exact h
     ·rw[hs] at h;exact absurd h hs0
    simp only[h0,if_true,ze,zh]
    rw[hfe _ (by subst hl0;rw[ziy];simp)]
    exact hfin
   ·simp only[h0,if_false,ze,za3 hi hz,zh]
    rw[hfe _ hrow]
    exact hfin
  ·exact h.elim
 ·exact h.elim
end Go.V
