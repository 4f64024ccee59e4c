/- A part of the proof, joined of several texts: the verification layer, contracts of functions, plain law. -/
import Derived.Test.YtomdbjfdbkejoaaGreatDoorU0
set_option maxHeartbeats 64000000
set_option linter.unusedSimpArgs false
set_option linter.unusedVariables false
set_option linter.unusedSectionVars false
namespace Go.V
def zp (c:UInt8):Value:= .int .u8 c.toNat
def zaE (G:zb) (H:za) (b off n:Nat) (k:List Value→Prop) (_:Tok k:= .mk):Prop:=
 match G b with
 |some (.cells c _ _)=>Ob (n=0∨off+n≤c.size) (k ((c.toList.drop off).take n))
 |some _=>n=0∧k []
 |none=>match zq H b with
  |some (.cells xs sp _)=>Ob (n=0∨off+n≤xs.length+sp.length) (k (((xs++sp).drop off).take n))
  |_=>n=0∧k []
theorem zir {G:zb} {H:za} {b off:Nat} {k:List Value→Prop}:zaE G H b off 0 k↔k []:=by
 unfold zaE Ob
 split <;> (try split) <;> simp
theorem zl8 {G:zb} {H:za} {b off:Nat} {v:Value} {k:Value→Prop}
  (h:zaE G H b off 1 fun l=>l=[v]) (hk:k v):zc9 G H ⟨b,off,none⟩ k:=by
 unfold zaE Ob at h
 unfold zc9
 rw[if_neg (by simp)]
 have key: ∀l:List Value,off+1≤l.length→(l.drop off).take 1=[v]→l[off]? =some v:=fun l hl h=>by
  have:=congrArg (·[0]?) h
  simpa [List.getElem?_take] using this
 split at h
 ·rename_i c e f hp
  simp only[hp]
  have:=key c.toList (by have:=h.1;simp;omega) h.2
  rw[show c[off]? =some v by simpa using this];exact hk
 ·exact absurd h.1 (by simp)
 ·rename_i hp
  simp only[hp]
  split at h
  ·rename_i xs sp e hf
   simp only[hf]
   have:=key (xs++sp) (by have:=h.1;simp;omega) h.2
   simp only[this];exact hk
  ·exact absurd h.1 (by simp)
theorem zbW (b o n:Nat):(⟨b,o,none⟩:Addr).add n=⟨b,o+n,none⟩:=by
 unfold Addr.add;split <;> simp_all
theorem zl9 {q:Bool} {P:Program} {G:zb} (a:Addr) (m:Mode) (H:za) (k:Value→za→Prop):runS q P G (load a m) H k=zc9 G H a fun v=>k v H:=rfl
theorem zfi {q:Bool} {P:Program} {G:zb} {H:za} {b off:Nat}: ∀ (n i:Nat) (acc:Array Value) {k:Array Value→za→Prop},
  zaE G H b (off+i) n (fun cs=>k (acc++cs.toArray) H)→runS q P G (loadCellsFrom ⟨b,off,none⟩ i n acc) H k
 |0,i,acc,k,h=>by
  have:k acc H:=by
   have:=zir.1 h
   simpa using this
  exact this
 |n+1,i,acc,k,h=>by
  unfold loadCellsFrom
  rw[ze,zl9,zbW]
  have step: ∀l:List Value,off+i+(n+1)≤l.length→ ∃v,(l.drop (off+i)).take 1=[v]∧(l.drop (off+i)).take (n+1)=v:: (l.drop (off+(i+1))).take n:=fun l hl=>by
   have hlt:off+i<l.length:=by omega
   refine⟨l[off+i],?_,?_⟩
   ·rw[List.drop_eq_getElem_cons hlt,List.take_succ_cons,List.take_zero]
   ·rw[List.drop_eq_getElem_cons hlt,List.take_succ_cons,Nat.add_assoc]
  unfold zaE Ob at h
  split at h
  ·rename_i c e f hp
   have hle:off+i+(n+1)≤c.size:=by have:=h.1;omega
   obtain⟨v,h1,h2⟩:=step c.toList (by simpa using hle)
   refine zl8 (v:=v) ?_ (zfi n (i+1) (acc.push v) ?_)
   ·unfold zaE Ob;simp only[hp];exact⟨by omega,h1⟩
   ·unfold zaE Ob;simp only[hp]
    refine⟨by omega,?_⟩
    have:=h.2;rw[h2] at this;simpa using this
  ·exact absurd h.1 (by simp)
  ·rename_i hp
   split at h
   ·rename_i xs sp e hf
    have hle:off+i+(n+1)≤xs.length+sp.length:=by have:=h.1;omega
    obtain⟨v,h1,h2⟩:=step (xs++sp) (by simpa using hle)
    refine zl8 (v:=v) ?_ (zfi n (i+1) (acc.push v) ?_)
    ·unfold zaE Ob;simp only[hp,hf];exact⟨by omega,h1⟩
    ·unfold zaE Ob;simp only[hp,hf]
     refine⟨by omega,?_⟩
     have:=h.2;rw[h2] at this;simpa using this
   ·exact absurd h.1 (by simp)
def blk (a:Option Addr):Nat:=match a with|some a=>a.block|none=>0
def ofs (a:Option Addr):Nat:=match a with|some a=>a.off|none=>0
def Adr (a:Option Addr):Prop:=a=some ⟨blk a,ofs a,none⟩
theorem zp6 (b o:Nat) (s:Option Nat):blk (some ⟨b,o,s⟩)=b:=rfl
theorem zp7 (b o:Nat) (s:Option Nat):ofs (some ⟨b,o,s⟩)=o:=rfl
theorem zp8 (b o:Nat):Adr (some ⟨b,o,none⟩)=True:=eq_true rfl
def rdSl (G:zb) (H:za) (a:Option Addr) (n:Nat) (k:List Value→Prop) (_:Tok k:= .mk):Prop:=
 match a with
 |some ⟨b,o,none⟩=>zaE G H b o n k
 |_=>n=0∧k []
theorem znr (G:zb) (H:za) (b o n:Nat) (k:List Value→Prop):rdSl G H (some ⟨b,o,none⟩) n k=zaE G H b o n k:=rfl
theorem zss (G:zb) (H:za) (n:Nat) (k:List Value→Prop):rdSl G H none n k=(n=0∧k []):=rfl
theorem zbU {q:Bool} {P:Program} {G:zb} {H:za} {b off n:Nat} {k:Array Value→za→Prop}
  (h:zaE G H b off n fun cs=>k cs.toArray H):runS q P G (loadCells ⟨b,off,none⟩ n) H k:=by
 unfold loadCells
 refine zfi n 0 #[] ?_
 have:(fun cs:List Value=>k (#[]++cs.toArray) H)=fun cs=>k cs.toArray H:=by funext cs;simp
 rw[this]
 exact h
def zf (xs:List Value) (off:Nat) (vs:List Value):List Value:=xs.take off++vs++xs.drop (off+vs.length)
def zdA (H:za) (b off:Nat) (vs:List Value) (k:za→Prop) (_:Tok k:= .mk):Prop:=
 match zq H b with
 |some (.cells xs sp e)=>Ob (off+vs.length≤xs.length∧vs.all zax=true) (k (zab H b (.cells (zf xs off vs) sp e)))
 |_=>False
theorem zfv {H:za} {b:Nat} {r r':Res} (h:zq H b=some r):zq (zab H b r') b=some r':=by
 induction H with
 |nil=>simp [zq] at h
 |cons p H ih=>
  obtain⟨k,s⟩:=p
  simp only[zq] at h
  simp only[zab]
  split at h
  ·rename_i hk;rw[if_pos hk];simp [zq,hk]
  ·rename_i hk;rw[if_neg hk];simp only[zq,if_neg hk];exact ih h
theorem zma {H:za} {b:Nat} {r r':Res}:zab (zab H b r) b r'=zab H b r':=by
 induction H with
 |nil=>rfl
 |cons p H ih=>
  obtain⟨k,s⟩:=p
  simp only[zab]
  by_cases hk:k=b
  ·rw[if_pos hk,if_pos hk];simp only[zab,if_pos hk]
  ·rw[if_neg hk,if_neg hk];simp only[zab,if_neg hk,ih]
theorem zqJ {P:Program} {G:zb} (a:Addr) (v:Value) (m:Mode) (H:za) (k:Unit→za→Prop) (h:zio H a v fun H'=>k () H'):runS false P G (store a v m) H k:=⟨rfl,h⟩
theorem zjw {xs:List Value} {off:Nat} {v:Value} {vs:List Value} (h:off<xs.length):zf (xs.set off v) (off+1) vs=zf xs off (v::vs):=by
 unfold zf
 rw[List.take_set,List.drop_set_of_lt (by omega)]
 simp only[List.length_cons]
 rw[show off+1+vs.length=off+(vs.length+1) by omega]
 congr 1
 rw[List.take_succ_eq_append_getElem h,List.set_append_right _ _ (by simp;omega)]
 simp [Nat.min_eq_left (Nat.le_of_lt h)]
theorem zcf {P:Program} {G:zb} {b off:Nat}: ∀ (vs:List Value) (i:Nat) {H:za} {k:Unit→za→Prop},
  zdA H b (off+i) vs (fun H'=>k () H')→runS false P G (storeCells ⟨b,off,none⟩ vs i) H k
 | [],i,H,k,h=>by
  have:k () H:=by
   unfold zdA Ob at h
   split at h
   ·rename_i xs sp e hf
    have h2:=h.2
    have e1:zf xs (off+i) []=xs:=by simp [zf]
    rw[e1] at h2
    have e2:zab H b (.cells xs sp e)=H:=by
     clear h h2 e1
     induction H with
     |nil=>rfl
     |cons p H ih=>
      obtain⟨c,s⟩:=p
      simp only[zq] at hf
      simp only[zab]
      split at hf
      ·rename_i hk;rw[if_pos hk];cases hf;rfl
      ·rename_i hk;rw[if_neg hk,ih hf]
    rw[e2] at h2;exact h2
   ·exact h.elim
  exact this
 |v::vs,i,H,k,h=>by
  unfold storeCells
  rw[ze,zbW]
  refine zqJ _ _ _ _ _ ?_
  unfold zdA Ob at h
  unfold zio
  rw[if_neg (by simp)]
  split at h
  ·rename_i xs sp e hf
   simp only[hf]
   obtain⟨⟨h1,h2⟩,h3⟩:=h
   simp only[List.length_cons] at h1
   simp only[List.all_cons,Bool.and_eq_true] at h2
   refine⟨h2.1, .inl ⟨by omega,zcf vs (i+1) ?_⟩⟩
   unfold zdA Ob
   simp only[zfv hf,zma]
   refine⟨⟨by simp;omega,h2.2⟩,?_⟩
   rw[←Nat.add_assoc,zjw (by omega)]
   exact h3
  ·exact h.elim
def zej (T:Tys) (G:zb) (H:za) (t:TypeId) (a:Value) (k:Value→Prop) (_:Tok k:= .mk):Prop:=
 match a with
 | .pointer (some ⟨b,o,none⟩)=>match (T t).k with
  | .none=>False
  | .struct _| .arr .. =>zaE G H b o (T t).size fun cs=>k (.agg cs.toArray)
  |_=>zc9 G H ⟨b,o,none⟩ k
 |_=>False
theorem zfQ {q:Bool} {P:Program} {T:Tys} (hT:zT P T) {G:zb} {H:za} {t:TypeId} {a:Value} {kk:Value→za→Prop}
  (h:zej T G H t a fun v=>kk v H):runS q P G (Instr.loadAt t a) H kk:=by
 unfold zej at h
 split at h
 ·rename_i b o
  simp only[Instr.loadAt,Instr.sureAddr,ze,zh,loadVar]
  have hk:(T t).k≠ .none:=by intro e;simp only[e] at h
  obtain⟨i,z,hi,hs,_⟩:=hT.info hk
  rw[zho hT hk]
  have agg:(T t).k.agg=true→(zaE G H b o (T t).size fun cs=>kk (.agg cs.toArray) H)→
    runS q P G (if (T t).k.agg=true then do pure (.agg (←loadCells ⟨b,o,none⟩ (←sizeOf t))) else load ⟨b,o,none⟩) H kk:=fun ha h=>by
   rw[if_pos ha,ze,zam hi,ze,hs]
   exact zbU h
  split at h
  ·exact h.elim
  ·rename_i fs hf;exact agg (by rw[hf];rfl) h
  ·rename_i n e hf;exact agg (by rw[hf];rfl) h
  ·rename_i hn1 hn2 hn3
   have:(T t).k.agg=false:=by
    cases hkk:(T t).k <;> simp only[TK.agg] <;> simp_all
   rw[if_neg (by simp [this]),zl9]
   exact h
 ·exact h.elim
def zcF (v:Value):List Value:=match v with| .agg cs=>cs.toList|v=>[v]
theorem ze8 (v:Value):v.cells.toList=zcF v:=by cases v <;> rfl
def zi7 (T:Tys) (H:za) (t:TypeId) (a v:Value) (k:za→Prop) (_:Tok k:= .mk):Prop:=
 match a with
 | .pointer (some ⟨b,o,none⟩)=>(T t).k≠ .none∧Ob ((zcF v).length=(T t).size) (zdA H b o (zcF v) k)
 |_=>False
theorem zmV {P:Program} {T:Tys} (hT:zT P T) {G:zb} {H:za} {t:TypeId} {a v:Value} {kk:Unit→za→Prop}
  (h:zi7 T H t a v fun H'=>kk () H'):runS false P G (Instr.storeAt t a v) H kk:=by
 unfold zi7 at h
 split at h
 ·rename_i b o
  obtain⟨hk,hl,h⟩:=h
  simp only[Instr.storeAt,Instr.sureAddr,ze,zh,storeVar]
  obtain⟨i,z,hi,hs,_⟩:=hT.info hk
  rw[zam hi]
  have hc:v.cells.size=i.size:=by rw[hs,←hl,←ze8];simp
  rw[if_neg (by simp [hc]),ze8]
  exact zcf _ 0 h
 ·exact h.elim
def zi8 (T:Tys) (s:TypeId) (x:Value) (f:Nat) (k:Value→Prop) (_:Tok k:= .mk):Prop:=
 match x with
 | .pointer (some ⟨b,o,none⟩)=>match (T s).k with
  | .struct fs=>match fs[f]? with
   |some (off,t)=>(T t).k≠ .none∧(T t).size≠0∧k (.pointer (some ⟨b,o+off,none⟩))
   |none=>False
  |_=>False
 |_=>False
theorem zif {q:Bool} {P:Program} {T:Tys} (hT:zT P T) {G:zb} {H:za} {s:TypeId} {x:Value} {f:Nat} {kk:Value→za→Prop}
  (h:zi8 T s x f fun v=>kk v H):runS q P G (Instr.fieldAt s x f) H kk:=by
 unfold zi8 at h
 split at h
 ·rename_i b o
  split at h
  ·rename_i fs hf
   split at h
   ·rename_i off t hft
    obtain⟨hk,hs0,h⟩:=h
    obtain⟨d,hd,hfit⟩:=hT.und hf (by simp)
    obtain⟨fa,rfl,rfl⟩:=hfit
    obtain⟨i,z,hi,hs,_⟩:=hT.info hk
    have hfa: ∃fd,fa[f]? =some fd∧fd.offset=off∧fd.type=t:=by
     rw[List.getElem?_map] at hft
     simp only[Option.map_eq_some_iff,Prod.mk.injEq] at hft
     obtain⟨fd,h1,h2,h3⟩:=hft
     exact⟨fd,by simpa using h1,h2,h3⟩
    obtain⟨fd,hfd,rfl,rfl⟩:=hfa
    simp only[Instr.fieldAt,ze,zi hd,hfd,Instr.sureAddr,zh,fieldPlace,zam hi]
    rw[if_neg (by rw[hs];exact hs0),zh,zbW]
    exact h
   ·exact h.elim
  ·exact h.elim
 ·exact h.elim
def zeV (T:Tys) (t:TypeId) (x i:Value) (k:Value→Prop) (_:Tok k:= .mk):Prop:=
 match i with
 | .int _ n=>match x,(T t).k with
  | .slice a len _, .slice e=>(T e).k≠ .none∧Ob (0≤n∧n< (len:Int)) (Ob (Adr a) (k (.pointer (some ⟨blk a,ofs a+n.toNat * (T e).size,none⟩))))
  | .pointer (some ⟨b,o,none⟩), .arr len e=>(T e).k≠ .none∧Ob (0≤n∧n< (len:Int)) (k (.pointer (some ⟨b,o+n.toNat * (T e).size,none⟩)))
  |_,_=>False
 |_=>False
theorem zfs {q:Bool} {P:Program} {T:Tys} (hT:zT P T) {G:zb} {H:za} {t:TypeId} {x i:Value} {kk:Value→za→Prop}
  (h:zeV T t x i fun v=>kk v H):runS q P G (Instr.indexAt t x i) H kk:=by
 unfold zeV at h
 split at h
 ·rename_i kd n
  split at h
  ·rename_i ad len cap e hf
   obtain⟨hk,hn,had,h⟩:=h
   unfold Adr at had
   rw[had]
   obtain⟨d,hd,hfit⟩:=hT.und hf (by simp)
   simp only[TK.fits] at hfit
   subst hfit
   obtain⟨i,z,hi,hs,_⟩:=hT.info hk
   simp only[Instr.indexAt,asIntOf,ze,zi hd,zh,bind_pure_comp]
   simp only[hn,and_self,if_true]
   cases decide (len≤1) <;> simp only[Bool.false_and,Bool.true_and,zdU,zam hi,zbW,hs] <;> exact h
  ·rename_i b o len e hf
   obtain⟨hk,hn,h⟩:=h
   obtain⟨d,hd,hfit⟩:=hT.und hf (by simp)
   simp only[TK.fits] at hfit
   subst hfit
   obtain⟨i,z,hi,hs,_⟩:=hT.info hk
   simp only[Instr.indexAt,asIntOf,ze,zi hd,zh,bind_pure_comp,Instr.sureAddr]
   simp only[hn,and_self,if_true]
   cases decide (len≤1) <;> simp only[Bool.false_and,Bool.true_and,zdU,zam hi,zbW,hs] <;> exact h
  ·exact h.elim
 ·exact h.elim
variable {E:Env}
def zhq (T:Tys) (t:TypeId) (cs:List Value) (off:Nat) (k:Value→Prop) (_:Tok k:= .mk):Prop:=
 match (T t).k with
 | .none=>False
 | .struct _| .arr .. =>k (.agg ((cs.drop off).take (T t).size).toArray)
 |_=>zC (cs[off]?) k
theorem zjx {q:Bool} {P:Program} {T:Tys} (hT:zT P T) {G:zb} {H:za} {t:TypeId} {cs:Array Value} {off:Nat} {kk:Value→za→Prop}
  (h:zhq T t cs.toList off fun v=>kk v H):runS q P G (part t cs off) H kk:=by
 unfold zhq at h
 have hk:(T t).k≠ .none:=by intro e;simp only[e] at h
 obtain⟨i,z,hi,hs,_⟩:=hT.info hk
 unfold part
 rw[ze,zho hT hk]
 have agg: ∀other:Sem Value,(T t).k.agg=true→kk (.agg ((cs.toList.drop off).take (T t).size).toArray) H→
   runS q P G (if (T t).k.agg=true then do pure (.agg (cs.extract off (off+(←sizeOf t)))) else other) H kk:=fun other ha h=>by
  rw[if_pos ha,ze,zam hi,hs]
  have:cs.extract off (off+(T t).size)=((cs.toList.drop off).take (T t).size).toArray:=by
   apply Array.ext'
   simp [List.extract_eq_take_drop]
  rw[this];exact h
 split at h
 ·exact h.elim
 ·rename_i fs hf;exact agg _ (by rw[hf];rfl) h
 ·rename_i n e hf;exact agg _ (by rw[hf];rfl) h
 ·have:(T t).k.agg=false:=by
   cases hkk:(T t).k <;> simp only[TK.agg] <;> simp_all
  rw[if_neg (by simp [this])]
  unfold zC at h
  split at h
  ·rename_i v hv
   rw[show cs[off]? =some v by simpa using hv];exact h
  ·exact h.elim
def zhr (T:Tys) (t:TypeId) (x:Value) (f:Nat) (k:Value→Prop) (_:Tok k:= .mk):Prop:=
 match x,(T t).k with
 | .agg cs, .struct fs=>match fs[f]? with
  |some (off,u)=>zhq T u cs.toList off k
  |none=>False
 |_,_=>False
theorem zha {q:Bool} {P:Program} {T:Tys} (hT:zT P T) {G:zb} {H:za} {t:TypeId} {x:Value} {f:Nat} {kk:Value→za→Prop}
  (h:zhr T t x f fun v=>kk v H):runS q P G (Instr.field t x f) H kk:=by
 unfold zhr at h
 split at h
 ·rename_i cs fs hf
  obtain⟨d,hd,hfit⟩:=hT.und hf (by simp)
  obtain⟨fa,rfl,rfl⟩:=hfit
  split at h
  ·rename_i off u hfu
   rw[List.getElem?_map] at hfu
   simp only[Option.map_eq_some_iff,Prod.mk.injEq] at hfu
   obtain⟨fd,h1,rfl,rfl⟩:=hfu
   simp only[Instr.field,ze,zi hd]
   rw[show fa[f]? =some fd by simpa using h1]
   simp only[ze,asAgg,zh]
   exact zjx hT h
  ·exact h.elim
 ·exact h.elim
def zi9 (T:Tys) (t:TypeId) (x i:Value) (k:Value→Prop) (_:Tok k:= .mk):Prop:=
 match i with
 | .int _ n=>match x with
  | .string s=>(T t).k= .string∧Ob (0≤n∧n< (s.data.toList.length:Int)) (zC (s.data.toList[n.toNat]?.map zp) k)
  | .agg cs=>match (T t).k with
   | .arr len e=>(T e).k≠ .none∧Ob (0≤n∧n< (len:Int)) (zhq T e cs.toList (n.toNat * (T e).size) k)
   |_=>False
  |_=>False
 |_=>False
theorem zig {q:Bool} {P:Program} {T:Tys} (hT:zT P T) {G:zb} {H:za} {t:TypeId} {x i:Value} {kk:Value→za→Prop}
  (h:zi9 T t x i fun v=>kk v H):runS q P G (Instr.index t x i) H kk:=by
 unfold zi9 at h
 split at h
 ·rename_i kd n
  split at h
  ·rename_i s
   obtain⟨hk,hn,h⟩:=h
   obtain⟨d,hd,hfit⟩:=hT.und hk (by simp)
   simp only[TK.fits] at hfit
   subst hfit
   simp only[Instr.index,ze,asIntOf,zh,zi hd]
   rw[if_pos hn.1]
   unfold zC at h
   split at h
   ·rename_i v hv
    simp only[Option.map_eq_some_iff] at hv
    obtain⟨c,hc,rfl⟩:=hv
    have hlt:n.toNat<s.size:=by
     have:=(List.getElem?_eq_some_iff.1 hc).1
     simpa using this
    have hs:s[n.toNat]? =some c:=by
     rw[getElem?_pos s n.toNat hlt]
     have h2:=(List.getElem?_eq_some_iff.1 hc).2
     rw[←h2]
     rfl
    simp only[hs,zh]
    exact h
   ·exact h.elim
  ·rename_i cs
   split at h
   ·rename_i len e hf
    obtain⟨hk,hn,h⟩:=h
    obtain⟨d,hd,hfit⟩:=hT.und hf (by simp)
    simp only[TK.fits] at hfit
    subst hfit
    obtain⟨j,z,hj,hs,_⟩:=hT.info hk
    simp only[Instr.index,ze,asIntOf,zh,zi hd]
    rw[if_pos hn,ze,zam hj,hs]
    exact zjx hT h
   ·exact h.elim
  ·exact h.elim
 ·exact h.elim
def zqK (op:UnOp) (x:Value) (k:Value→Prop) (_:Tok k:= .mk):Prop:=
 match op,x with
 | .not, .bool b=>k (.bool !b)
 | .neg, .int a n=>k (.int a (a.wrap (0 - n)))
 | .xor, .int a n=>k (.int a (zay .xor a (if a.signed then -1 else a.max) n))
 |_,_=>False
theorem zkv {q:Bool} {P:Program} {G:zb} {H:za} {op:UnOp} {x:Value} {kk:Value→za→Prop} (h:zqK op x fun v=>kk v H):runS q P G (Op.unary op x) H kk:=by
 unfold zqK at h
 split at h
 ·exact h
 ·exact h
 ·exact h
 ·exact h.elim
def zgq (x:Value) (i:Nat) (k:Value→Prop) (_:Tok k:= .mk):Prop:=
 match x with
 | .tuple vs=>zC (vs.toList[i]?) k
 |_=>False
theorem zgr {q:Bool} {P:Program} {G:zb} {H:za} {x:Value} {i:Nat} {kk:Value→za→Prop} (h:zgq x i fun v=>kk v H):runS q P G (Instr.extract x i) H kk:=by
 unfold zgq at h
 split at h
 ·rename_i vs
  unfold zC at h
  split at h
  ·rename_i v hv
   simp only[Instr.extract]
   rw[show vs[i]? =some v by simpa using hv];exact h
  ·exact h.elim
 ·exact h.elim
def zbX (G:zb) (ks:List Nat) (n E:Nat) (k:Nat→List Value→Nat→Prop) (_:Tok k:= .mk):Prop:=
 ∀b sp cap,Sep G (b::ks)→n * E+sp.length=cap * E→k b sp cap
def rep (n:Nat) (z:List Value):List Value:=
 match z with
 | [v]=>List.replicate n v
 |z=>(List.replicate n z).flatten
theorem zfw (n:Nat) (z:List Value):(rep n z).length=n * z.length:=by
 unfold rep
 split
 ·simp
 ·simp
theorem zis (n:Nat) (z:List Value):rep n z=(List.replicate n z).flatten:=by
 unfold rep
 split
 ·rename_i v
  induction n with
  |zero=>rfl
  |succ n ih=>rw[List.replicate_succ,List.replicate_succ,List.flatten_cons,←ih];rfl
 ·rfl
theorem zo6 (n:Nat) (z:List Value) (hz:0<z.length) (i:Nat) (hi:i<n * z.length):((List.replicate n z).flatten)[i]? =z[i % z.length]? :=by
 induction n generalizing i with
 |zero=>simp at hi
 |succ n ih=>
  rw[List.replicate_succ,List.flatten_cons]
  by_cases h:i<z.length
  ·rw[List.getElem?_append_left h,Nat.mod_eq_of_lt h]
  ·rw[List.getElem?_append_right (by omega),ih (i - z.length) (by have:=Nat.succ_mul n z.length;rw[Nat.succ_eq_add_one] at this;omega)]
   rw[Nat.mod_eq_sub_mod (a:=i) (by omega)]
theorem zll (z:Array Value) (n:Nat) (hz:n=0∨0<z.size):((Array.range (n * z.size)).map (z[· % z.size]!)).toList=rep n z.toList:=by
 rw[zis]
 rcases hz with rfl|hz
 ·simp
 ·apply List.ext_getElem?
  intro i
  by_cases hi:i<n * z.size
  ·rw[zo6 n z.toList (by simpa using hz) i (by simpa using hi)]
   have hm:i % z.size<z.size:=Nat.mod_lt _ hz
   simp [hi,hm,getElem!_pos]
  ·rw[List.getElem?_eq_none (by simp;omega),List.getElem?_eq_none (by simp;omega)]
def zQ {α:Type} (P:Program) (G:zb) (s:Sem α) (H:za) (k:α→za→Prop):Prop:=
 ∀ ⦃E:Env⦄ w,HeapOk E G H w→ ∃x w' H',s.run P w= .ok x w'∧HeapOk E G H' w'∧k x H'
theorem zQ.of {α:Type} {P:Program} {G:zb} {s:Sem α} {H:za} {k:α→za→Prop} (h:runS false P G s H k):zQ P G s H k:=
 fun _ _ hw=>zks s hw h
theorem zQ.weak {α:Type} {P:Program} {G:zb} {s:Sem α} {H:za} {k k':α→za→Prop} (h:zQ P G s H k)
  (hk: ∀x H',k x H'→ ∃H'',(∀ ⦃E:Env⦄ w,HeapOk E G H' w→HeapOk E G H'' w)∧k' x H''):zQ P G s H k':=fun E w hw=>
 let ⟨x,w',H',h1,h2,h3⟩:=h w hw
 let ⟨H'',h4,h5⟩:=hk x H' h3
 ⟨x,w',H'',h1,h4 w' h2,h5⟩
def zeW (T:Tys) (G:zb) (H:za) (t:TypeId) (l c:Value) (k:Value→za→Prop) (_:Tok k:= .mk):Prop:=
 match (T t).k,l,c with
 | .slice e, .int _ l, .int _ c=>((T e).k≠ .none∧(T e).zero.length=(T e).size∧(T e).size≠0)∧Ob (0≤l∧l≤c∧(T e).bytes * c≤281474976710656∧c≤9223372036854775807)
   (zda G (zm H) fun b=>k (.slice (some ⟨b,0,none⟩) l.toNat c.toNat) ((b, .cells (rep l.toNat (T e).zero) (rep (c.toNat - l.toNat) (T e).zero) e)::H))
 |_,_,_=>False
theorem HeapOk.resplit {G:zb} {H:za} {w:World} {b:Nat} {xs sp xs' sp':List Value} {e:TypeId} (he:xs++sp=xs'++sp') (h:HeapOk E G ((b, .cells xs sp e)::H) w):
  HeapOk E G ((b, .cells xs' sp' e)::H) w:=by
 refine⟨h.env,h.pers,fun p hp=>?_,h.sep,h.dfr⟩
 rcases List.mem_cons.1 hp with rfl|hp
 ·obtain⟨o,ho,fr,hfr,hl⟩:=h.own _ (List.mem_cons_self ..)
  refine⟨o,ho,fr,by rw[hfr,he],?_⟩
  have:=congrArg List.length he
  simp only[List.length_append] at this
  rw[←this];exact hl
 ·exact h.own p (List.mem_cons_of_mem _ hp)
theorem zw0 (n m:Nat) (z:List Value):rep n z++rep m z=rep (n+m) z:=by
 simp only[zis]
 rw[←List.flatten_append,List.replicate_append_replicate]
theorem zju {P:Program} {T:Tys} (hT:zT P T) {G:zb} {H:za} {t:TypeId} {l c:Value} {kk:Value→za→Prop}
  (h:zeW T G H t l c kk):zQ P G (Instr.makeSlice t l c) H kk:=by
 unfold zeW at h
 split at h
 ·rename_i e kl l kc c hf
  obtain⟨⟨hk,hzl,hs0⟩,⟨h0,hlc,hb,h63⟩,h⟩:=h
  obtain⟨d,hd,hfit⟩:=hT.und hf (by simp)
  simp only[TK.fits] at hfit
  subst hfit
  obtain⟨i,z,hi,hs,hby,hz,hzc⟩:=hT.info hk
  intro E w hw
  have hrun:=run_make (P:=P) w t e i z hd hi hz kl kc l c h0 hlc (by rw[hby];exact hb) h63
  refine⟨_,_,_,hrun,?_,h _ hw.fresh⟩
  have hzs:z.cells.size=i.size:=by rw[←Array.length_toList,hzc,hzl,hs]
  have hm:(madeCells z.cells (c.toNat * i.size)).toList=rep c.toNat (T e).zero:=by
   unfold madeCells
   rw[←hzs,zll z.cells c.toNat (.inr (by rw[hzs,hs];omega)),hzc]
  refine HeapOk.resplit (xs:=rep c.toNat (T e).zero) (sp:=[]) ?_ (hw.new ?_)
  ·rw[zw0,List.append_nil];congr 1;omega
  ·exact⟨(0,0),by rw[List.append_nil,←hm], .inl rfl⟩
 ·exact h.elim
variable {E:Env}
def zek (o:Option Value) (d:Int) (k:Int→Prop) (_:Tok k:= .mk):Prop:=
 match o with
 |none=>k d
 |some (.int _ n)=>k n
 |some _=>False
theorem zqL (d:Int) (k:Int→Prop):zek none d k=k d:=rfl
theorem zqM (a:IntKind) (n d:Int) (k:Int→Prop):zek (some (.int a n)) d k=k n:=rfl
def zby (b o:Nat) (l m n:Nat):Addr:=if m=l then⟨b,o,none⟩ else⟨b,o+n,none⟩
def zbn (a:Option Addr) (l m n:Nat):Option Addr:=if m=l then a else a.map (·.add n)
def zja (T:Tys) (t:TypeId) (x:Value) (lo hi mx:Option Value) (k:Value→Prop) (_:Tok k:= .mk):Prop:=
 match x with
 | .string s=>(T t).k= .string∧mx=none∧zek hi s.data.toList.length fun h=>zek lo 0 fun l=>
   Ob (0≤l∧l≤h∧h≤s.data.toList.length) (k (.string ⟨((s.data.toList.drop l.toNat).take (h.toNat - l.toNat)).toArray⟩))
 | .slice a len cap=>match (T t).k with
  | .slice e=>(T e).k≠ .none∧(mx=none∨hi.isSome=true)∧zek mx cap fun m=>zek hi len fun h=>zek lo 0 fun l=>
    Ob (0≤l∧l≤h∧h≤m∧m≤cap) (k (.slice (zbn a l.toNat m.toNat (l.toNat * (T e).size)) (h.toNat - l.toNat) (m.toNat - l.toNat)))
  |_=>False
 | .pointer (some ⟨b,o,none⟩)=>match (T t).k with
  | .arr n e=>(T e).k≠ .none∧mx=none∧zek hi n fun h=>zek lo 0 fun l=>
    Ob (0≤l∧l≤h∧h≤(n:Int)) (k (.slice (some (zby b o l.toNat n (l.toNat * (T e).size))) (h.toNat - l.toNat) (n - l.toNat)))
  |_=>False
 |_=>False
theorem zcc {a:IntKind} {n:Int} {y:Nat} (code:BoundsCode) (h0:0≤n) (h1:n≤y):Instr.sliceBound (.int a n) y code=pure n.toNat:=by
 unfold Instr.sliceBound asIntOf
 simp only[pure_bind]
 rw[if_pos ⟨h0,h1⟩]
theorem zcM {o:Option Value} {d:Int} {k:Int→Prop} (h:zek o d k): ∃n,k n∧((o=none∧n=d)∨ ∃a,o=some (.int a n)):=by
 unfold zek at h
 split at h
 ·exact⟨d,h, .inl ⟨rfl,rfl⟩⟩
 ·rename_i a n;exact⟨n,h, .inr ⟨a,rfl⟩⟩
 ·exact h.elim
theorem zdV {q:Bool} {P:Program} {G:zb} {H:za} {isS:Bool} {len cap:Nat} {lo hi mx:Option Value} {l h m:Int} {k:Nat×Nat×Nat→za→Prop}
  (hm:(mx=none∧m=cap)∨ ∃a,mx=some (.int a m)) (hh:(hi=none∧h=len)∨ ∃a,hi=some (.int a h)) (hl:(lo=none∧l=0)∨ ∃a,lo=some (.int a l))
  (hmh:mx=none∨hi.isSome=true) (h0:0≤l) (h1:l≤h) (h2:h≤m) (h3:m≤cap) (hk:k (l.toNat,h.toNat,m.toNat) H):runS q P G (Instr.sliceBounds isS len cap lo hi mx) H k:=by
 unfold Instr.sliceBounds
 rcases hm with ⟨rfl,rfl⟩| ⟨am,rfl⟩
 ·rcases hh with ⟨rfl,rfl⟩| ⟨ah,rfl⟩
  ·rcases hl with ⟨rfl,rfl⟩| ⟨al,rfl⟩
   ·simp only[pure_bind,zh]
    simpa using hk
   ·simp only[pure_bind,zcc _ h0 h1,zh]
    simpa using hk
  ·have e1:=fun code=>zcc (a:=ah) (y:=cap) code (by omega:0≤h) h2
   rcases hl with ⟨rfl,rfl⟩| ⟨al,rfl⟩
   ·simp only[pure_bind,e1,zh]
    simpa using hk
   ·have e2:=fun code=>zcc (a:=al) (y:=h.toNat) code h0 (by omega)
    simp only[pure_bind,e1,e2,zh]
    simpa using hk
 ·have e0:=fun code=>zcc (a:=am) (y:=cap) code (by omega:0≤m) h3
  rcases hh with ⟨rfl,rfl⟩| ⟨ah,rfl⟩
  ·simp at hmh
  ·have e1:=fun code=>zcc (a:=ah) (y:=m.toNat) code (by omega:0≤h) (by omega)
   rcases hl with ⟨rfl,rfl⟩| ⟨al,rfl⟩
   ·simp only[pure_bind,e0,e1,zh]
    exact hk
   ·have e2:=fun code=>zcc (a:=al) (y:=h.toNat) code h0 (by omega)
    simp only[pure_bind,e0,e1,e2,zh]
    exact hk
theorem zih {q:Bool} {P:Program} {T:Tys} (hT:zT P T) {G:zb} {H:za} {t:TypeId} {x:Value} {lo hi mx:Option Value} {kk:Value→za→Prop}
  (h:zja T t x lo hi mx fun v=>kk v H):runS q P G (Instr.sliceAt t x lo hi mx) H kk:=by
 unfold zja at h
 split at h
 ·rename_i s
  obtain⟨hk,rfl,h⟩:=h
  obtain⟨d,hd,hfit⟩:=hT.und hk (by simp)
  simp only[TK.fits] at hfit
  subst hfit
  obtain⟨h',h,hh⟩:=zcM h
  obtain⟨l',h,hl⟩:=zcM h
  obtain⟨⟨h0,h1,h2⟩,h⟩:=h
  have hlen:s.data.toList.length=s.size:=by simp
  rw[hlen] at h2 hh
  simp only[Instr.sliceAt,ze,zi hd,Instr.slice]
  rw[if_neg (by simp),ze]
  refine zdV (m:=s.size) (.inl ⟨rfl,rfl⟩) hh hl (.inl rfl) h0 h1 h2 (Int.le_refl _) ?_
  simp only[zh]
  have:s.extract l'.toNat h'.toNat=⟨((s.data.toList.drop l'.toNat).take (h'.toNat - l'.toNat)).toArray⟩:=by
   apply ByteArray.ext
   apply Array.ext'
   simp [ByteArray.data_extract,List.extract_eq_take_drop]
  rw[this];exact h
 ·rename_i a len cap
  split at h
  ·rename_i e hf
   obtain⟨hk,hmx,h⟩:=h
   obtain⟨d,hd,hfit⟩:=hT.und hf (by simp)
   simp only[TK.fits] at hfit
   subst hfit
   obtain⟨i,z,hi',hs,_⟩:=hT.info hk
   obtain⟨m,h,hm⟩:=zcM h
   obtain⟨h',h,hh⟩:=zcM h
   obtain⟨l',h,hl⟩:=zcM h
   obtain⟨⟨h0,h1,h2,h3⟩,h⟩:=h
   simp only[Instr.sliceAt,ze,zi hd,Instr.slice]
   refine zdV hm hh hl hmx h0 h1 h2 h3 ?_
   simp only[zam hi',zh,ze,hs]
   exact h
  ·exact h.elim
 ·rename_i b o
  split at h
  ·rename_i n e hf
   obtain⟨hk,rfl,h⟩:=h
   obtain⟨d,hd,hfit⟩:=hT.und hf (by simp)
   simp only[TK.fits] at hfit
   subst hfit
   obtain⟨i,z,hi',hs,_⟩:=hT.info hk
   obtain⟨h',h,hh⟩:=zcM h
   obtain⟨l',h,hl⟩:=zcM h
   obtain⟨⟨h0,h1,h2⟩,h⟩:=h
   simp only[Instr.sliceAt,ze,zi hd,Instr.sureAddr,zh]
   refine zdV (m:=n) (.inl ⟨rfl,rfl⟩) hh hl (.inl rfl) h0 h1 h2 (Int.le_refl _) ?_
   simp only[zam hi',zh,ze,hs,zbW]
   rw[show((n:Int)).toNat=n by omega]
   have:(if n=l'.toNat then(⟨b,o,none⟩:Addr) else⟨b,o+l'.toNat * (T e).size,none⟩)=zby b o l'.toNat n (l'.toNat * (T e).size):=by
    unfold zby;split <;> rfl
   rw[this];exact h
  ·exact h.elim
 ·exact h.elim
def zac:za→Nat→za
 | [],_=>[]
 | (k,r)::H,b=>if k=b then H else(k,r)::zac H b
theorem zfx (H:za) (b:Nat):(zac H b).Sublist H:=by
 induction H with
 |nil=>exact List.Sublist.refl _
 |cons p H ih=>
  obtain⟨k,r⟩:=p
  simp only[zac]
  split
  ·exact List.sublist_cons_self _ _
  ·exact ih.cons_cons _
def zfR (T:Tys) (G:zb) (H:za) (e:TypeId) (x:Value) (k:Nat→List Value→Prop) (_:Tok k:= .mk):Prop:=
 match x with
 | .slice a n _=>rdSl G H a (n * (T e).size) fun cs=>k n cs
 | .string s=>(T e).size=1∧k s.data.toList.length (s.data.toList.map zp)
 |_=>False
def zns (vs:List Value):Bool:=vs.all zax
def zhb (T:Tys) (G:zb) (H:za) (e:TypeId) (a:Option Addr) (k:Value→za→Prop) (n:Nat) (new:List Value) (_:Tok k:= .mk):Prop:=
 Br (decide (n=0)) (k (.slice a 0 0) H) (Ob (n * (T e).bytes≤140737488355328∧n≤9223372036854775807)
   (zbX G (zm H) n (T e).size fun b sp cap=>k (.slice (some ⟨b,0,none⟩) n cap) ((b, .cells new sp e)::H)))
def zit (T:Tys) (G:zb) (H:za) (e:TypeId) (b len cap:Nat) (r:Option Res) (k:Value→za→Prop) (n:Nat) (new:List Value) (_:Tok k:= .mk):Prop:=
 match r with
 |some (.cells xs sp e')=>e'=e∧Ob (xs.length=len * (T e).size∧xs.length+sp.length=cap * (T e).size∧(len+n) * (T e).bytes≤140737488355328∧len+n≤9223372036854775807∧zns new=true)
    (zbX G (zm (zac H b)) (len+n) (T e).size fun b' sp' cap'=>k (.slice (some ⟨b',0,none⟩) (len+n) cap') ((b', .cells (xs++new) sp' e)::zac H b))
 |_=>False
def zhs (T:Tys) (G:zb) (H:za) (e:TypeId) (b len cap:Nat) (r:Option Res) (k:Value→za→Prop) (n:Nat) (new:List Value) (_:Tok k:= .mk):Prop:=
 match r with
 |some (.cells xs sp e')=>e'=e∧Ob (xs.length=len * (T e).size∧cap<len+n∧(len+n) * (T e).bytes≤140737488355328∧len+n≤9223372036854775807)
    (zbX G (zm (zac H b)) (len+n) (T e).size fun b' sp' cap'=>k (.slice (some ⟨b',0,none⟩) (len+n) cap') ((b', .cells (xs++new) sp' e)::zac H b))
 |_=>False
def zeC (T:Tys) (G:zb) (H:za) (e:TypeId) (a:Option Addr) (len cap:Nat) (k:Value→za→Prop) (n:Nat) (new:List Value) (_:Tok k:= .mk):Prop:=
 (len=0∧cap=0∧zhb T G H e a k n new)∨ ∃b,a=some ⟨b,0,none⟩∧(zit T G H e b len cap (zq H b) k n new∨zhs T G H e b len cap (zq H b) k n new)
theorem zeC.zero {T:Tys} {G:zb} {H:za} {e:TypeId} {a:Option Addr} {k:Value→za→Prop} {n:Nat} {new:List Value} (h:zhb T G H e a k n new):zeC T G H e a 0 0 k n new:= .inl ⟨rfl,rfl,h⟩
theorem zeC.own {T:Tys} {G:zb} {H:za} {e:TypeId} {b len cap:Nat} {k:Value→za→Prop} {n:Nat} {new:List Value} (h:zit T G H e b len cap (zq H b) k n new):zeC T G H e (some ⟨b,0,none⟩) len cap k n new:= .inr ⟨b,rfl, .inl h⟩
theorem zeC.tight {T:Tys} {G:zb} {H:za} {e:TypeId} {b len cap:Nat} {k:Value→za→Prop} {n:Nat} {new:List Value} (h:zhs T G H e b len cap (zq H b) k n new):zeC T G H e (some ⟨b,0,none⟩) len cap k n new:= .inr ⟨b,rfl, .inr h⟩
theorem zlm {T:Tys} {G:zb} {H:za} {e:TypeId} {b len cap:Nat} {xs sp:List Value} {e':TypeId} {k:Value→za→Prop} {n:Nat} {new:List Value}:
  zhs T G H e b len cap (some (.cells xs sp e')) k n new=(e'=e∧Ob (xs.length=len * (T e).size∧cap<len+n∧(len+n) * (T e).bytes≤140737488355328∧len+n≤9223372036854775807)
    (zbX G (zm (zac H b)) (len+n) (T e).size fun b' sp' cap'=>k (.slice (some ⟨b',0,none⟩) (len+n) cap') ((b', .cells (xs++new) sp' e)::zac H b))):=rfl
theorem znt {T:Tys} {G:zb} {H:za} {e:TypeId} {b len cap:Nat} {xs sp:List Value} {e':TypeId} {k:Value→za→Prop} {n:Nat} {new:List Value}:
  zit T G H e b len cap (some (.cells xs sp e')) k n new=(e'=e∧Ob (xs.length=len * (T e).size∧xs.length+sp.length=cap * (T e).size∧(len+n) * (T e).bytes≤140737488355328∧len+n≤9223372036854775807∧zns new=true)
    (zbX G (zm (zac H b)) (len+n) (T e).size fun b' sp' cap'=>k (.slice (some ⟨b',0,none⟩) (len+n) cap') ((b', .cells (xs++new) sp' e)::zac H b))):=rfl
def znb (T:Tys) (G:zb) (H:za) (e:TypeId) (s:Value) (k:Value→za→Prop) (n:Nat) (new:List Value) (_:Tok k:= .mk):Prop:=
 match s with
 | .slice a len cap=>zeC T G H e a len cap k n new
 |_=>False
def zjT (T:Tys) (G:zb) (H:za) (e:TypeId) (s x:Value) (k:Value→za→Prop) (_:Tok k:= .mk):Prop:=
 match s,x with
 | .slice _ len cap, .int .i64 n=>Ob (len=0∧(cap:Int) <n∧n.toNat * (T e).bytes≤140737488355328∧n≤9223372036854775807)
   (zbX G (zm H) n.toNat (T e).size fun b sp cap=>k (.slice (some ⟨b,0,none⟩) n.toNat cap) ((b, .cells (rep n.toNat (T e).zero) sp e)::H))
 |_,_=>False
def zht (T:Tys) (G:zb) (H:za) (t u:TypeId) (s x:Value) (k:Value→za→Prop) (_:Tok k:= .mk):Prop:=
 match (T t).k,(T u).k with
 | .slice e, .slice _| .slice e, .string=>((T e).k≠ .none∧(T e).zero.length=(T e).size∧(T e).size≠0)∧zfR T G H e x fun n new=>znb T G H e s k n new
 | .slice e, .int _=>((T e).k≠ .none∧(T e).zero.length=(T e).size∧(T e).size≠0)∧zjT T G H e s x k
 |_,_=>False
def zad:Value→Nat
 | .slice _ n _=>n
 | .string s=>s.size
 |_=>0
theorem zfS {G:zb} {H:za} {b o n:Nat} {k:List Value→Prop} (h:zaE G H b o n k): ∃cs,k cs∧cs.length=n∧ ∀k':List Value→Prop,k' cs→zaE G H b o n k':=by
 unfold zaE Ob at *
 split at h
 ·exact⟨_,h.2,by have:=h.1;simp;omega,fun k' hk=>⟨h.1,hk⟩⟩
 ·exact⟨_,h.2,h.1.symm,fun k' hk=>⟨h.1,hk⟩⟩
 ·split at h
  ·exact⟨_,h.2,by have:=h.1;simp;omega,fun k' hk=>⟨h.1,hk⟩⟩
  ·exact⟨_,h.2,h.1.symm,fun k' hk=>⟨h.1,hk⟩⟩
def zcZ (G:zb) (H H':za):Prop:= ∀b o n (k:List Value→Prop),zaE G H b o n k→zaE G H' b o n k
theorem zmW {q:Bool} {P:Program} {T:Tys} {G:zb} {H:za} {e:TypeId} {x:Value} {K:Nat→List Value→Prop} (hs0:(T e).size≠0) (h:zfR T G H e x K):
  ∃new,K (zad x) new∧new.length=zad x * (T e).size∧Builtin.lenOf x=pure (zad x)∧
   ∀H',zcZ G H H'→ ∀k:Array Value→za→Prop,k new.toArray H'→runS q P G (Builtin.firstCells (T e).size (zad x) x) H' k:=by
 unfold zfR at h
 split at h
 ·rename_i a n c
  have zero:n * (T e).size=0∧K n []→(∀s:Nat,∀a',a=some a'→n * s=0→True)→ ∃new,K (zad (.slice a n c)) new∧new.length=zad (.slice a n c) * (T e).size∧Builtin.lenOf (.slice a n c)=pure (zad (.slice a n c))∧
    ∀H',zcZ G H H'→ ∀k:Array Value→za→Prop,k new.toArray H'→runS q P G (Builtin.firstCells (T e).size (zad (.slice a n c)) (.slice a n c)) H' k:=by
   rintro⟨h0,h⟩ _
   obtain rfl:n=0:=by
    rcases Nat.mul_eq_zero.1 h0 with h|h
    ·exact h
    ·exact absurd h hs0
   refine⟨[],h,by simp [zad],rfl,fun H' _ k hk=>?_⟩
   cases a with
   |none=>exact hk
   |some a=>
    simp only[Builtin.firstCells,zad,Nat.zero_mul]
    exact hk
  unfold rdSl at h
  split at h
  ·rename_i b o
   obtain⟨cs,h1,h2,h3⟩:=zfS h
   exact⟨cs,h1,h2,rfl,fun H' hr k hk=>zbU (hr _ _ _ _ (h3 _ hk))⟩
  ·exact zero h (fun _ _ _ _=>trivial)
 ·rename_i s
  obtain⟨hs,h⟩:=h
  have hl:s.data.toList.length=s.size:=by simp
  refine⟨_,by rw[hl] at h;exact h,by simp [zad,hs],rfl,fun H' _ k hk=>?_⟩
  simp only[Builtin.firstCells,zad,zh]
  have:(s.extract 0 s.size).data.map (fun b=>Value.int .u8 b.toNat)=(s.data.toList.map zp).toArray:=by
   apply Array.ext'
   simp only[ByteArray.data_extract,Array.toList_map,Array.toList_extract,List.extract_eq_take_drop,List.drop_zero,Nat.sub_zero]
   rw[List.take_of_length_le (by simp)]
   rfl
  rw[this];exact hk
 ·exact h.elim
theorem zcZ.refl (G:zb) (H:za):zcZ G H H:=fun _ _ _ _ h=>h
theorem zqN {G:zb} {H:za} {b:Nat} {xs sp xs' sp':List Value} {e:TypeId} (hf:zq H b=some (.cells xs sp e)) (he:xs++sp=xs'++sp'):zcZ G H (zab H b (.cells xs' sp' e)):=by
 intro c o n k h
 unfold zaE Ob at *
 split at h
 ·exact h
 ·exact h
 ·have key: ∀H:za,zq H b=some (.cells xs sp e)→zq (zab H b (.cells xs' sp' e)) c=if c=b then some (.cells xs' sp' e) else zq H c:=fun H hf=>by
   by_cases hcb:c=b
   ·subst hcb;rw[if_pos rfl];exact zfv hf
   ·rw[if_neg hcb]
    clear h hf
    induction H with
    |nil=>rfl
    |cons p H ih=>
     obtain⟨q,r⟩:=p
     simp only[zab]
     split
     ·rename_i hq;subst hq;simp only[zq,if_neg (Ne.symm hcb)]
     ·simp only[zq];split
      ·rfl
      ·exact ih
  rw[key H hf]
  by_cases hcb:c=b
  ·subst hcb
   rw[if_pos rfl]
   rw[hf] at h
   have:=congrArg List.length he
   simp only[List.length_append] at this
   simp only[] at h⊢
   rw[←he,←this];exact h
  ·rw[if_neg hcb];exact h
theorem HeapOk.refind {G:zb} {H:za} {w:World} {b:Nat} {xs sp xs' sp':List Value} {e:TypeId} (h:HeapOk E G H w) (hf:zq H b=some (.cells xs sp e)) (he:xs++sp=xs'++sp'):
  HeapOk E G (zab H b (.cells xs' sp' e)) w:=by
 obtain⟨o,ho,fr,hfr,hl⟩:=h.find hf
 refine h.set (r':= .cells xs' sp' e) hf ho ⟨fr,by rw[hfr,he],?_⟩ (fun c _=>rfl) ⟨rfl,rfl⟩
 have:=congrArg List.length he
 simp only[List.length_append] at this
 rw[←this];exact hl
theorem ziu {H:za} {b:Nat} {r r':Res} (h:zq H b=some r):(zab H b r').Perm ((b,r')::zac H b):=by
 induction H with
 |nil=>simp [zq] at h
 |cons p H ih=>
  obtain⟨k,s⟩:=p
  simp only[zq] at h
  simp only[zab,zac]
  split at h
  ·rename_i hk;subst hk;rw[if_pos rfl,if_pos rfl]
  ·rename_i hk
   rw[if_neg hk,if_neg hk]
   exact((ih h).cons _).trans (List.Perm.swap _ _ _)
theorem zfj (need old:Nat) (e:TypeId) (t:Nat):need≤(Question.appendCap need old e).cut t:=by simp [Question.cut]
section app
variable {q:Bool} {P:Program} {G:zb} {e t u ty:TypeId} {i:TypeInfo} {z s x:Value} {n:Nat} {new:List Value}
theorem zjy (hd:P.underlying t=some (.slice e)) (hu:(∃v,P.underlying u=some (.slice v))∨P.underlying u=some .string) (hi:P.info? e=some i)
  (hlen:Builtin.lenOf x=pure n) {H:za} {k:Value→za→Prop} {base:Option Addr} {sLen sCap:Nat} (hfit:sLen+n≤sCap)
  (hr:runS q P G (Builtin.firstCells i.size n x) H fun new H'=>runS q P G (match base with|some a=>storeCells (a.add (sLen * i.size)) new.toList|none=>pure ()) H' fun _ H''=>k (.slice base (sLen+n) sCap) H''):
  runS q P G (Builtin.append_ #[t,u] ty #[.slice base sLen sCap,x]) H k:=by
 rcases hu with ⟨v,hu⟩|hu <;> cases base <;>
  simp [Builtin.append_,ze,zi hd,zi hu,zam hi,zh,zdU,hlen,hfit] at hr⊢ <;> exact hr
theorem zfT (hd:P.underlying t=some (.slice e)) (hu:(∃v,P.underlying u=some (.slice v))∨P.underlying u=some .string) (hi:P.info? e=some i) (hz:i.zero=some z)
  (hlen:Builtin.lenOf x=pure n) {H:za} {k:Value→za→Prop} {base:Option Addr} {sLen sCap:Nat} (hfit:sCap<sLen+n) (h63:sLen+n≤9223372036854775807)
  (h48:Builtin.nextslicecap (sLen+n) sCap * i.bytes≤281474976710656)
  (hr: ∀c,sLen+n≤c→runS false P G (Builtin.firstCells i.size sLen (.slice base sLen sCap)) H fun old H'=>runS false P G (Builtin.firstCells i.size n x) H' fun new H''=>
   runS false P G (newRow e (old++new++Builtin.zeroCells z.cells (c - (sLen+n)))) H'' fun a H3=>k (.slice (some a) (sLen+n) c) H3):
  runS false P G (Builtin.append_ #[t,u] ty #[.slice base sLen sCap,x]) H k:=by
 have h1: ¬(sLen+n≤sCap):=by omega
 have hm:IntKind.i64.max=9223372036854775807:=by decide
 have h2: ¬((9223372036854775807 :Int) < (sLen:Int)+(n:Int)):=by omega
 have h3: ¬(281474976710656<Builtin.nextslicecap (sLen+n) sCap * i.bytes):=by omega
 rcases hu with ⟨v,hu⟩|hu <;>
  simp [Builtin.append_,ze,zi hd,zi hu,zam hi,zdO hi,za8 hi hz,zh,hlen,h1,h2,h3,hm,choose,runS,Question.forced,askRoom,mark] <;>
  (intro tt;have:=hr _ (zfj (sLen+n) sCap e tt);split <;> simpa [runS,zh,zdU,List.append_assoc] using this)
end app
theorem zdP {T:Tys} {e:TypeId} {z:Value} (h:z.cells.toList=(T e).zero) (n:Nat) (hs:(T e).zero.length≠0):(Builtin.zeroCells z.cells n).toList=rep n (T e).zero:=by
 unfold Builtin.zeroCells
 rw[zll z.cells n (.inr (by rw[←Array.length_toList,h];omega)),h]
theorem zst {G:zb} {H:za} {b:Nat} {r:Res} (hs:Sep G (zm H)) (hf:zq H b=some r):Sep G (b::zm (zac H b)):=by
 have hp:(b::zm (zac H b)).Perm (zm H):=by
  have h1:=(ziu (r':=r) hf).map (·.1)
  have h2:(zab H b r).map (·.1)=zm H:=zin H b r
  rw[h2] at h1
  exact h1.symm
 rw[za7] at hs⊢
 exact⟨fun c hc=>hs.1 c (hp.mem_iff.1 hc),hp.nodup_iff.2 hs.2⟩
theorem znu {P:Program} {G:zb} {e t u ty:TypeId} {i:TypeInfo} {z:Value} {kd:IntKind} (hd:P.underlying t=some (.slice e)) (hu:P.underlying u=some (.int kd)) (hi:P.info? e=some i) (hz:i.zero=some z)
  {H:za} {k:Value→za→Prop} {base:Option Addr} {sCap n:Nat} (hn:n * i.size≠0) (hfit:sCap<n) (h63:(n:Int)≤9223372036854775807) (hby:n * i.bytes≤281474976710656)
  (h48:Builtin.nextslicecap n sCap * i.bytes≤281474976710656)
  (hr: ∀c,n≤c→runS false P G (newRow e (Builtin.zeroCells z.cells n++Builtin.zeroCells z.cells (c - n))) H fun a H3=>k (.slice (some a) n c) H3):
  runS false P G (Builtin.append_ #[t,u] ty #[.slice base 0 sCap, .int .i64 n]) H k:=by
 have h1: ¬(n≤sCap):=by omega
 have hm:IntKind.i64.max=9223372036854775807:=by decide
 have h2: ¬((9223372036854775807 :Int) < (n:Int)):=by omega
 have h3: ¬(281474976710656<Builtin.nextslicecap n sCap * i.bytes):=by omega
 have h4: ¬((281474976710656 :Int) < (n:Int) * (i.bytes:Int)):=by
  rw[←Int.natCast_mul];omega
 have hw:IntKind.i64.wrap (n:Int)=n:=by unfold IntKind.wrap;simp [IntKind.bits,IntKind.signed];omega
 have h5: ¬((n:Int) <0):=by omega
 cases base <;>
 simp [Builtin.append_,Builtin.firstCells,asInt,asIntOf,hw,h4,h5,hn,ze,zi hd,zi hu,zam hi,zdO hi,za8 hi hz,zh,h1,h2,h3,hm,choose,runS,Question.forced,askRoom,mark] <;>
  (intro tt;have:=hr _ (zfj n sCap e tt);split <;> simpa [runS,ze,zh,zdU,za8 hi hz,loadCells,loadCellsFrom,List.append_assoc] using this)
theorem zln {P:Program} {T:Tys} (hT:zT P T) {G:zb} {H:za} {t u ty:TypeId} {s x:Value} {kk:Value→za→Prop}
  (h:zht T G H t u s x kk):zQ P G (Builtin.append_ #[t,u] ty #[s,x]) H kk:=by
 unfold zht at h
 have key: ∀e,(T t).k= .slice e→((∃v,P.underlying u=some (.slice v))∨P.underlying u=some .string)→((T e).k≠ .none∧(T e).zero.length=(T e).size∧(T e).size≠0)→(zfR T G H e x fun n new=>znb T G H e s kk n new)→
   zQ P G (Builtin.append_ #[t,u] ty #[s,x]) H kk:=by
  clear h
  intro e hf hu ⟨hk,hzl,hs0⟩ h
  obtain⟨d,hd,hfit⟩:=hT.und hf (by simp)
  simp only[TK.fits] at hfit
  subst hfit
  obtain⟨i,z,hi,hs,hby,hz,hzc⟩:=hT.info hk
  have hz0:(T e).zero.length≠0:=by rw[hzl];exact hs0
  obtain⟨new,h2,hnl,hlen,hread⟩:=zmW (q:=false) (P:=P) hs0 h
  clear h
  have h:=h2
  clear h2
  rw[←hs] at hread
  unfold znb at h
  split at h
  ·rename_i a len cap
   rcases h with ⟨rfl,rfl,h⟩| ⟨b,rfl,h|h⟩
   · -- a slice without room
    unfold zhb at h
    by_cases hn:zad x=0
    ·replace h:=h.1 (by simp [hn])
     refine zQ.of (zjy hd hu hi hlen (by omega) ?_)
     refine hread H (zcZ.refl _ _) _ ?_
     have hnew:new=[]:=List.eq_nil_of_length_eq_zero (by rw[hnl,hn,Nat.zero_mul])
     subst hnew
     cases a with
     |none=>simp only[zh,hn];exact h
     |some a=>
      simp only[hn]
      exact h
    ·obtain⟨⟨hb,h63⟩,h⟩:=h.2 (by simp [hn])
     refine zQ.weak (k:=fun v H'=> ∃b c,zad x≤c∧Sep G (b::zm H)∧v= .slice (some ⟨b,0,none⟩) (zad x) c∧H'=(b, .cells (new++rep (c - zad x) (T e).zero) [] e)::H) (zQ.of ?_) ?_
     ·have hg:=growslice_fits (need:=zad x) (old:=0) (bytes:=i.bytes) (by omega) (by rw[hby];exact hb)
      refine zfT hd hu hi hz hlen (by omega) (by omega) (by simpa using hg) fun c hc=>?_
      have rest:runS false P G (Builtin.firstCells i.size (zad x) x) H fun new' H''=>runS false P G (newRow e (#[]++new'++Builtin.zeroCells z.cells (c - (0+zad x)))) H'' fun a' H3=>
        ∃b c',zad x≤c'∧Sep G (b::zm H)∧(Value.slice (some a') (0+zad x) c)= .slice (some ⟨b,0,none⟩) (zad x) c'∧H3=(b, .cells (new++rep (c' - zad x) (T e).zero) [] e)::H:=by
       refine hread H (zcZ.refl _ _) _ ?_
       simp only[newRow,newObj,ze,runS,zh]
       refine⟨by trivial,by simp [zbt],fun b hb=>⟨b,c,by omega,hb,by simp,?_⟩⟩
       simp only[zeh,if_true]
       congr 2
       simp [zdP hzc _ hz0]
      cases a with
      |none=>simp only[Builtin.firstCells,zh];exact rest
      |some a=>
       simp only[Builtin.firstCells,Nat.zero_mul]
       exact rest
     ·rintro v H' ⟨b,c,hc,hsep,rfl,rfl⟩
      refine⟨_,fun E w hw=>hw.resplit (xs':=new) (sp':=rep (c - zad x) (T e).zero) (by simp),h b _ c hsep ?_⟩
      rw[zfw,hzl,←Nat.add_mul];congr 1;omega
   ·generalize hfb:zq H b=fb at h
    unfold zit at h
    split at h
    ·rename_i xs sp e'
     obtain⟨rfl,⟨hxl,hcl,hb,h63,hone⟩,h⟩:=h
     by_cases hfits:len+zad x≤cap
     · -- there is room
      have hr1:zcZ G H (zab H b (.cells (xs++sp) [] e')):=zqN hfb (by simp)
      have hfb1:zq (zab H b (.cells (xs++sp) [] e')) b=some (.cells (xs++sp) [] e'):=zfv hfb
      have hnsp:new.length≤sp.length:=by
       have:(len+zad x) * (T e').size≤cap * (T e').size:=Nat.mul_le_mul_right _ hfits
       rw[Nat.add_mul] at this;omega
      intro E w hw
      have hw1:=hw.refind (xs':=xs++sp) (sp':=[]) hfb (by simp)
      have hrun:runS false P G (Builtin.append_ #[t,u] ty #[.slice (some ⟨b,0,none⟩) len cap,x]) (zab H b (.cells (xs++sp) [] e'))
        (fun v H'=>v= .slice (some ⟨b,0,none⟩) (len+zad x) cap∧H'=zab H b (.cells (xs++new++sp.drop new.length) [] e')):=by
       refine zjy hd hu hi hlen hfits ?_
       refine hread _ hr1 _ ?_
       simp only[zbW,Nat.zero_add]
       refine zcf _ 0 ?_
       unfold zdA Ob
       simp only[Nat.add_zero,hfb1,zma]
       refine⟨⟨by simp;rw[hs];omega,hone⟩,trivial,?_⟩
       congr 2
       unfold zf
       rw[hs,←hxl,List.take_left',List.drop_append]
       ·simp
       ·rfl
      obtain⟨v,w',H',e1,e2,rfl,rfl⟩:=zks _ hw1 hrun
      refine⟨_,w',_,e1,?_,h b (sp.drop new.length) cap (zst hw.sep hfb) ?_⟩
      ·have hp:=e2.perm (ziu (r':= .cells (xs++new++sp.drop new.length) [] e') hfb)
       exact hp.resplit (by simp)
      ·rw[List.length_drop,Nat.add_mul,←hnl];omega
     · -- it grows
      intro E w hw
      have hg0:=hw.none hfb
      refine zQ.weak (k:=fun v H'=> ∃b' c,len+zad x≤c∧Sep G (b'::zm H)∧v= .slice (some ⟨b',0,none⟩) (len+zad x) c∧H'=(b', .cells (xs++new++rep (c - (len+zad x)) (T e').zero) [] e')::H) (zQ.of ?_) ?_ w hw
      ·have hg:=growslice_fits (need:=len+zad x) (old:=cap) (bytes:=i.bytes) (by omega) (by rw[hby];exact hb)
       refine zfT hd hu hi hz hlen (by omega) h63 hg fun c hc=>?_
       simp only[Builtin.firstCells]
       refine zbU ?_
       unfold zaE Ob
       simp only[hg0,hfb]
       refine⟨by rw[hs];omega,?_⟩
       have ht:List.take (len * i.size) (List.drop 0 (xs++sp))=xs:=by
        rw[List.drop_zero,hs,←hxl,List.take_left']
        rfl
       rw[ht]
       refine hread H (zcZ.refl _ _) _ ?_
       simp only[newRow,newObj,ze,runS,zh]
       refine⟨by trivial,by simp [zbt],fun b' hb'=>⟨b',c,hc,hb',rfl,?_⟩⟩
       simp only[zeh,if_true]
       congr 2
       simp [zdP hzc _ hz0]
      ·rintro v H' ⟨b',c,hc,hsep,rfl,rfl⟩
       refine⟨(b', .cells (xs++new) (rep (c - (len+zad x)) (T e').zero) e')::zac H b,fun E w hw=>?_,h b' _ c ?_ ?_⟩
       ·exact(hw.resplit (xs':=xs++new) (sp':=rep (c - (len+zad x)) (T e').zero) (by simp)).sub ((zfx H b).cons_cons _)
       ·rw[za7] at hsep⊢
        have hsub:(b'::zm (zac H b)).Sublist (b'::zm H):=((zfx H b).map _).cons_cons _
        exact⟨fun c hc=>hsep.1 c (hsub.subset hc),hsep.2.sublist hsub⟩
       ·rw[zfw,hzl,←Nat.add_mul];congr 1;omega
    ·exact h.elim
   ·generalize hfb:zq H b=fb at h
    unfold zhs at h
    split at h
    ·rename_i xs sp e'
     obtain⟨rfl,⟨hxl,hfits,hb,h63⟩,h⟩:=h
     intro E w hw
     have hg0:=hw.none hfb
     refine zQ.weak (k:=fun v H'=> ∃b' c,len+zad x≤c∧Sep G (b'::zm H)∧v= .slice (some ⟨b',0,none⟩) (len+zad x) c∧H'=(b', .cells (xs++new++rep (c - (len+zad x)) (T e').zero) [] e')::H) (zQ.of ?_) ?_ w hw
     ·have hg:=growslice_fits (need:=len+zad x) (old:=cap) (bytes:=i.bytes) (by omega) (by rw[hby];exact hb)
      refine zfT hd hu hi hz hlen (by omega) h63 hg fun c hc=>?_
      simp only[Builtin.firstCells]
      refine zbU ?_
      unfold zaE Ob
      simp only[hg0,hfb]
      refine⟨by rw[hs];omega,?_⟩
      have ht:List.take (len * i.size) (List.drop 0 (xs++sp))=xs:=by
       rw[List.drop_zero,hs,←hxl,List.take_left']
       rfl
      rw[ht]
      refine hread H (zcZ.refl _ _) _ ?_
      simp only[newRow,newObj,ze,runS,zh]
      refine⟨by trivial,by simp [zbt],fun b' hb'=>⟨b',c,hc,hb',rfl,?_⟩⟩
      simp only[zeh,if_true]
      congr 2
      simp [zdP hzc _ hz0]
     ·rintro v H' ⟨b',c,hc,hsep,rfl,rfl⟩
      refine⟨(b', .cells (xs++new) (rep (c - (len+zad x)) (T e').zero) e')::zac H b,fun E w hw=>?_,h b' _ c ?_ ?_⟩
      ·exact(hw.resplit (xs':=xs++new) (sp':=rep (c - (len+zad x)) (T e').zero) (by simp)).sub ((zfx H b).cons_cons _)
      ·rw[za7] at hsep⊢
       have hsub:(b'::zm (zac H b)).Sublist (b'::zm H):=((zfx H b).map _).cons_cons _
       exact⟨fun c hc=>hsep.1 c (hsub.subset hc),hsep.2.sublist hsub⟩
      ·rw[zfw,hzl,←Nat.add_mul];congr 1;omega
    ·exact h.elim
  ·exact h.elim
 split at h
 ·rename_i e v hf hu
  obtain⟨d,hd,hfit⟩:=hT.und hu (by simp)
  simp only[TK.fits] at hfit
  subst hfit
  exact key e hf (.inl ⟨v,hd⟩) h.1 h.2
 ·rename_i e hf hu
  obtain⟨d,hd,hfit⟩:=hT.und hu (by simp)
  simp only[TK.fits] at hfit
  subst hfit
  exact key e hf (.inr hd) h.1 h.2
 ·rename_i e kd hf hu
  obtain⟨d2,hd2,hfit2⟩:=hT.und hu (by simp)
  simp only[TK.fits] at hfit2
  subst hfit2
  obtain⟨⟨hk,hzl,hs0⟩,h⟩:=h
  obtain⟨d,hd,hfit⟩:=hT.und hf (by simp)
  simp only[TK.fits] at hfit
  subst hfit
  obtain⟨i,z,hi,hs,hby,hz,hzc⟩:=hT.info hk
  have hz0:(T e).zero.length≠0:=by rw[hzl];exact hs0
  unfold zjT at h
  split at h
  ·rename_i a len cap n
   obtain⟨⟨rfl,hcn,hb,h63⟩,h⟩:=h
   obtain⟨m,rfl⟩: ∃m:Nat,n=m:=⟨n.toNat,by omega⟩
   simp only[Int.toNat_natCast] at hb h
   refine zQ.weak (k:=fun v H'=> ∃b c,m≤c∧Sep G (b::zm H)∧v= .slice (some ⟨b,0,none⟩) m c∧H'=(b, .cells (rep m (T e).zero++rep (c - m) (T e).zero) [] e)::H) (zQ.of ?_) ?_
   ·have hg:=growslice_fits (need:=m) (old:=cap) (bytes:=i.bytes) (by omega) (by rw[hby];exact hb)
    refine znu hd hd2 hi hz (Nat.mul_ne_zero (by omega) (by rw[hs];exact hs0)) (by omega) h63 (by rw[hby];omega) hg fun c hc=>?_
    simp only[newRow,newObj,ze,runS,zh]
    refine⟨by trivial,by simp [zbt],fun b hb=>⟨b,c,hc,hb,rfl,?_⟩⟩
    simp only[zeh,if_true]
    congr 2
    simp [zdP hzc _ hz0]
   ·rintro v H' ⟨b,c,hc,hsep,rfl,rfl⟩
    refine⟨_,fun E w hw=>hw.resplit (xs':=rep m (T e).zero) (sp':=rep (c - m) (T e).zero) (by simp),h b _ c hsep ?_⟩
    rw[zfw,hzl,←Nat.add_mul];congr 1;omega
  ·exact h.elim
 ·exact h.elim
def znc (T:Tys) (t:TypeId) (x:Value) (k:Value→Prop) (_:Tok k:= .mk):Prop:=
 match x with
 | .string s=>(T t).k= .string∧k (.int .i64 s.data.toList.length)
 | .slice _ n _=>match (T t).k with
  | .slice _=>k (.int .i64 n)
  |_=>False
 | .map none=>match (T t).k with
  | .map .. =>k (.int .i64 0)
  |_=>False
 |_=>match (T t).k with
  | .arr n _=>k (.int .i64 n)
  |_=>False
def znd (T:Tys) (t:TypeId) (x:Value) (k:Value→Prop) (_:Tok k:= .mk):Prop:=
 match x with
 | .slice _ _ c=>match (T t).k with
  | .slice _=>k (.int .i64 c)
  |_=>False
 |_=>False
theorem zo7 {q:Bool} {P:Program} {T:Tys} (hT:zT P T) {G:zb} {H:za} {t ty:TypeId} {x:Value} {kk:Value→za→Prop}
  (h:znd T t x fun v=>kk v H):runS q P G (Builtin.cap_ #[t] ty #[x]) H kk:=by
 unfold znd at h
 split at h
 ·split at h
  ·rename_i n c e hf
   obtain⟨d,hd,hfit⟩:=hT.und hf (by simp)
   simp only[TK.fits] at hfit
   subst hfit
   simp [Builtin.cap_,ze,zi hd,zh,goInt]
   exact h
  ·exact h.elim
 ·exact h.elim
theorem zjz {q:Bool} {P:Program} {T:Tys} (hT:zT P T) {G:zb} {H:za} {t ty:TypeId} {x:Value} {kk:Value→za→Prop}
  (h:znc T t x fun v=>kk v H):runS q P G (Builtin.len_ #[t] ty #[x]) H kk:=by
 unfold znc at h
 split at h
 ·rename_i s
  obtain⟨hk,h⟩:=h
  obtain⟨d,hd,hfit⟩:=hT.und hk (by simp)
  simp only[TK.fits] at hfit
  subst hfit
  simp [Builtin.len_,ze,zi hd,zh,goInt]
  simpa using h
 ·split at h
  ·rename_i n c e hf
   obtain⟨d,hd,hfit⟩:=hT.und hf (by simp)
   simp only[TK.fits] at hfit
   subst hfit
   simp [Builtin.len_,ze,zi hd,zh,goInt]
   exact h
  ·exact h.elim
 ·split at h
  ·rename_i a b hf
   obtain⟨d,hd,hfit⟩:=hT.und hf (by simp)
   simp only[TK.fits] at hfit
   subst hfit
   simp [Builtin.len_,ze,zi hd,zh,goInt]
   exact h
  ·exact h.elim
 ·split at h
  ·rename_i n e hf
   obtain⟨d,hd,hfit⟩:=hT.und hf (by simp)
   simp only[TK.fits] at hfit
   subst hfit
   simp [Builtin.len_,ze,zi hd,zh,goInt]
   exact h
  ·exact h.elim
def zAq (a b:Int):Int:=if b<a then b else a
def zuC (a b:Int):Int:=if a<b then b else a
def zne (vs:List Value) (k:Value→Prop) (_:Tok k:= .mk):Prop:=
 match vs with
 | [.int a m, .int b n]=>k (.int a (zAq m n))
 |_=>False
def znf (vs:List Value) (k:Value→Prop) (_:Tok k:= .mk):Prop:=
 match vs with
 | [.int a m, .int b n]=>k (.int a (zuC m n))
 |_=>False
theorem zjA {q:Bool} {P:Program} {G:zb} {H:za} {ts:Array TypeId} {ty:TypeId} {vs:List Value} {kk:Value→za→Prop} (h:zne vs fun v=>kk v H):
  runS q P G (Builtin.min_ ts ty vs.toArray) H kk:=by
 unfold zne at h
 split at h
 ·simp [Builtin.min_,Builtin.min2,zh];exact h
 ·exact h.elim
theorem zjB {q:Bool} {P:Program} {G:zb} {H:za} {ts:Array TypeId} {ty:TypeId} {vs:List Value} {kk:Value→za→Prop} (h:znf vs fun v=>kk v H):
  runS q P G (Builtin.max_ ts ty vs.toArray) H kk:=by
 unfold znf at h
 split at h
 ·simp [Builtin.max_,Builtin.max2,zh];exact h
 ·exact h.elim
def zc0 (cs:List Value) (k:List UInt8→Prop) (_:Tok k:= .mk):Prop:= ∃bs:List UInt8,cs=bs.map zp∧k bs
theorem zgS (bs:List UInt8) (k:List UInt8→Prop):zc0 (bs.map zp) k=k bs:=by
 apply propext
 constructor
 ·rintro⟨cs,h,hk⟩
  have:bs=cs:=by
   have hinj: ∀a b:UInt8,zp a=zp b→a=b:=fun a b h=>by
    simp only[zp,Value.int.injEq,true_and] at h
    exact UInt8.toNat_inj.1 (by omega)
   exact(List.map_inj_right fun{a b} h=>hinj a b h).1 h
  subst this;exact hk
 ·intro h;exact⟨bs,rfl,h⟩
theorem zo8 (k:List UInt8→Prop):zc0 [] k=k []:=zgS [] k
def zqO (r:Option Res) (k:Unit→Prop) (_:Tok k:= .mk):Prop:=match r with
 |some (.cells _ _ e)=>e=5∧k ()
 |_=>False
theorem zo9 {xs sp:List Value} {e:TypeId} {k:Unit→Prop}:zqO (some (.cells xs sp e)) k=(e=5∧k ()):=rfl
def ziv (T:Tys) (G:zb) (H:za) (src dst:TypeId) (x:Value) (k:Value→za→Prop) (_:Tok k:= .mk):Prop:=
 match x with
 | .int _ n=>match (T src).k,(T dst).k with
  | .int _, .int a=>k (.int a (a.wrap n)) H
  |_,_=>False
 | .string s=>match (T src).k,(T dst).k with
  | .string, .string=>k (.string s) H
  | .string, .slice e=>e=5∧(T e).k= .int .u8∧(T e).size=1∧zbX G (zm H) s.data.toList.length 1 fun b sp cap=>k (.slice (some ⟨b,0,none⟩) s.data.toList.length cap) ((b, .cells (s.data.toList.map zp) sp e)::H)
  |_,_=>False
 | .slice a n _=>match (T src).k,(T dst).k with
  | .slice e, .string=>(T e).k= .int .u8∧rdSl G H a n fun cs=>zc0 cs fun bs=>k (.string ⟨bs.toArray⟩) H
  | .slice _, .slice e=>src=dst∧(T e).k= .int .u8∧Ob (Adr a∧G (blk a)=none) (zqO (zq H (blk a)) fun _=>k x H)
  |_,_=>False
 |_=>False
theorem zsu {q:Bool} {P:Program} {G:zb} (bad:Value→ByteArray→Sem (ForInStep ByteArray)) (bs:List UInt8): ∀ (acc:ByteArray) (H:za) (k:ByteArray→za→Prop),k ⟨acc.data++bs.toArray⟩ H→
  runS q P G (forIn (bs.map zp) acc fun c r=>(match c with| .int .u8 n=>pure (ForInStep.yield (r.push (UInt8.ofNat n.toNat)))|c=>bad c r:Sem (ForInStep ByteArray))) H k:=by
 induction bs with
 |nil=>intro acc H k h;simpa [zh] using h
 |cons c bs ih=>
  intro acc H k h
  simp only[List.map_cons,List.forIn_cons,zp,ze,zh]
  refine ih _ H k ?_
  have:(⟨(acc.push (UInt8.ofNat ((c.toNat:Int)).toNat)).data++bs.toArray⟩:ByteArray)=⟨acc.data++(c::bs).toArray⟩:=by
   congr 1
   apply Array.ext'
   simp
  rw[this];exact h
theorem znv {P:Program} {T:Tys} (hT:zT P T) {G:zb} {H:za} {src dst:TypeId} {x:Value} {kk:Value→za→Prop}
  (h:ziv T G H src dst x kk):zQ P G (convert src dst x) H kk:=by
 unfold ziv at h
 split at h
 ·split at h
  ·rename_i a n j b hs hd
   obtain⟨d1,hd1,hf1⟩:=hT.und hs (by simp)
   obtain⟨d2,hd2,hf2⟩:=hT.und hd (by simp)
   simp only[TK.fits] at hf1 hf2
   subst hf1;subst hf2
   refine zQ.of ?_
   simp only[convert,ze,zi hd1,zi hd2,Conv.intToInt,zh]
   exact h
  ·exact h.elim
 ·rename_i s
  split at h
  ·rename_i hs hd
   obtain⟨d1,hd1,hf1⟩:=hT.und hs (by simp)
   obtain⟨d2,hd2,hf2⟩:=hT.und hd (by simp)
   simp only[TK.fits] at hf1 hf2
   subst hf1;subst hf2
   refine zQ.of ?_
   simp only[convert,ze,zi hd1,zi hd2,zh]
   exact h
  ·rename_i e hs hd
   obtain⟨he5,he,hsz,h⟩:=h
   obtain⟨d1,hd1,hf1⟩:=hT.und hs (by simp)
   obtain⟨d2,hd2,hf2⟩:=hT.und hd (by simp)
   obtain⟨d3,hd3,hf3⟩:=hT.und he (by simp)
   simp only[TK.fits] at hf1 hf2 hf3
   subst hf1;subst hf2;subst hf3
   have hl:s.data.toList.length=s.size:=by simp
   refine zQ.weak (k:=fun v H'=> ∃b c,s.size≤c∧Sep G (b::zm H)∧v= .slice (some ⟨b,0,none⟩) s.size c∧H'=(b, .cells (s.data.toList.map zp++List.replicate (c - s.size) (.int .u8 0)) [] e)::H) (zQ.of ?_) ?_
   ·simp only[convert,ze,zi hd1,zi hd2,zi hd3,Conv.stringToBytes,choose,runS,Question.forced,Bool.false_eq_true,if_false]
    refine⟨trivial,fun tt=>?_⟩
    have hc:=zfj s.size 0 e tt
    simp only[newRow,newObj,ze,runS,zh]
    refine⟨by trivial,by simp [zbt],fun b hb=>?_⟩
    have hb0:G b=none:=hb.1.1
    simp only[markStringish,shape,freeze,ze,runS,hb0,zeh,if_true,zq,zh]
    refine⟨trivial,⟨by simp,he5⟩,trivial,b,_,hc,hb,rfl,?_⟩
    congr 2
    simp
    exact fun _ _=>rfl
   ·rintro v H' ⟨b,c,hc,hsep,rfl,rfl⟩
    refine⟨_,fun E w hw=>hw.resplit (xs':=s.data.toList.map zp) (sp':=List.replicate (c - s.size) (.int .u8 0)) (by simp),?_⟩
    rw[hl] at h
    refine h b _ c hsep ?_
    simp;omega
  ·exact h.elim
 ·rename_i a n c
  split at h
  ·rename_i e hs hd
   obtain⟨he,h⟩:=h
   obtain⟨d1,hd1,hf1⟩:=hT.und hs (by simp)
   obtain⟨d2,hd2,hf2⟩:=hT.und hd (by simp)
   obtain⟨d3,hd3,hf3⟩:=hT.und he (by simp)
   simp only[TK.fits] at hf1 hf2 hf3
   subst hf1;subst hf2;subst hf3
   refine zQ.of ?_
   simp only[convert,ze,zi hd1,zi hd2,zi hd3]
   unfold rdSl at h
   split at h
   ·rename_i b o
    simp only[Conv.bytesToString,ze]
    refine zbU ?_
    obtain⟨cs,⟨bs,rfl,hk⟩,_,hrd⟩:=zfS h
    refine hrd _ ?_
    have hq:=fun bad=>zsu (q:=false) (P:=P) (G:=G) bad bs ByteArray.empty H (fun r H'=>kk (.string r) H') (by simpa using hk)
    rw[←Array.forIn_toList]
    exact hq _
   ·obtain⟨rfl,bs,hbs,hk⟩:=h
    obtain rfl:bs=[]:=by simpa using hbs.symm
    cases a with
    |none=>exact hk
    |some a=>exact hk
  ·rename_i e0 e hs hd
   obtain⟨rfl,he,h⟩:=h
   obtain⟨d1,hd1,hf1⟩:=hT.und hs (by simp)
   obtain⟨d3,hd3,hf3⟩:=hT.und he (by simp)
   rw[hs] at hd
   cases hd
   simp only[TK.fits] at hf1 hf3
   subst hf1;subst hf3
   unfold Ob at h
   obtain⟨⟨had,hg⟩,h⟩:=h
   unfold zqO at h
   split at h
   ·rename_i xs sp e' hf
    cases a with
    |none=>cases had
    |some a=>
     refine zQ.of ?_
     simp only[convert,ze,zi hd1,zi hd3,beq_self_eq_true,markStringish,shape,freeze,runS]
     simp only[blk] at hg hf
     simp only[hg,hf,ze,runS,zh]
     exact⟨trivial,⟨Nat.le_refl _,h.1⟩,trivial,h.2⟩
   ·exact h.elim
  ·exact h.elim
 ·exact h.elim
def zdQ (place:Nat→Option (Nat×Nat)) (cells:List Value):List (Nat×Value)→Option (List Value)
 | []=>some cells
 | (i,v)::rest=>
  match place i with
  |none=>none
  |some (off,size)=>if (zcF v).length=size∧off+size≤cells.length then zdQ place (zf cells off (zcF v)) rest else none
theorem znw (vs:List Value): ∀ (cells:Array Value) (off j:Nat),off+j+vs.length≤cells.size→
  ((vs.zipIdx j).foldl (fun cs (p:Value×Nat)=>cs.setIfInBounds (off+p.2) p.1) cells).toList=zf cells.toList (off+j) vs:=by
 induction vs with
 |nil=>intro cells off j _;simp [zf]
 |cons v vs ih=>
  intro cells off j h
  simp only[List.length_cons] at h
  simp only[List.zipIdx_cons,List.foldl_cons]
  rw[ih (cells.setIfInBounds (off+j) v) off (j+1) (by simp;omega)]
  rw[Array.toList_setIfInBounds,←Nat.add_assoc,zjw (by simp;omega)]
theorem zlo (place:Nat→Option (Nat×Nat)): ∀ (parts:List (Nat×Value)) (cells:Array Value) (r:List Value),zdQ place cells.toList parts=some r→Instr.fill place cells parts=some r.toArray:=by
 intro parts
 induction parts with
 |nil=>intro cells r h;simp only[zdQ,Option.some.injEq] at h;subst h;simp [Instr.fill]
 |cons p parts ih=>
  obtain⟨i,v⟩:=p
  intro cells r h
  simp only[zdQ] at h
  unfold Instr.fill
  split at h
  ·cases h
  ·rename_i off size hp
   split at h
   ·rename_i hc
    have hl:v.cells.size=size:=by rw[←hc.1,←ze8];simp
    have h2:off+v.cells.size≤cells.size:=by have:=hc.2;simp at this;omega
    have h4:(decide (v.cells.size≠size)||decide (off+v.cells.size > cells.size))=false:=by simp;omega
    simp only[hp]
    rw[if_neg (by rw[h4];simp)]
    refine ih _ r ?_
    have:(Array.foldl (fun cs (x:Value×Nat)=>cs.setIfInBounds (off+x.2) x.1) cells v.cells.zipIdx).toList=zf cells.toList off (zcF v):=by
     rw[←Array.foldl_toList,Array.toList_zipIdx,ze8]
     have:=znw (zcF v) cells off 0 (by rw[hc.1];simpa using hc.2)
     simpa using this
    rw[←h,←this]
   ·cases h
def zhu (o:Option (List Value)) (k:List Value→Prop) (_:Tok k:= .mk):Prop:=match o with|some v=>k v|none=>False
theorem zqP (v:List Value) (k:List Value→Prop):zhu (some v) k=k v:=rfl
def zhv (T:Tys) (fs:List (Nat×Nat)) (i:Nat):Option (Nat×Nat):=(fs[i]?).map fun f=>(f.1,(T f.2).size)
def zfH (T:Tys) (t:TypeId) (parts:List (Nat×Value)) (k:Value→Prop) (_:Tok k:= .mk):Prop:=
 match (T t).k with
 | .struct fs=>(fs.all fun f=>match (T f.2).k with| .none=>false|_=>true)=true∧zhu (zdQ (zhv T fs) (T t).zero parts) fun cs=>k (.agg cs.toArray)
 | .arr _ e=>(T e).k≠ .none∧zhu (zdQ (fun i=>some (i * (T e).size,(T e).size)) (T t).zero parts) fun cs=>k (.agg cs.toArray)
 |_=>False
theorem zgs {q:Bool} {P:Program} {T:Tys} (hT:zT P T) {G:zb} {H:za}: ∀ (fs:List Field) (k:List (Nat×Nat)→za→Prop),
  (fs.all fun f=>match (T f.type).k with| .none=>false|_=>true)=true→k (fs.map fun f=>(f.offset,(T f.type).size)) H→
  runS q P G (fs.mapM fun f=>do pure (f.offset,←sizeOf f.type)) H k
 | [],k,_,h=>by simpa [zh] using h
 |f::fs,k,hall,h=>by
  simp only[List.all_cons,Bool.and_eq_true] at hall
  have hk:(T f.type).k≠ .none:=by intro e;rw[e] at hall;exact absurd hall.1 (by simp)
  obtain⟨i,z,hi,hs,_⟩:=hT.info hk
  simp only[List.mapM_cons,ze,zam hi,zh,hs]
  refine zgs hT fs _ hall.2 ?_
  exact h
theorem zii {q:Bool} {P:Program} {T:Tys} (hT:zT P T) {G:zb} {H:za} {t:TypeId} {parts:Array (Nat×Value)} {kk:Value→za→Prop}
  (h:zfH T t parts.toList fun v=>kk v H):runS q P G (Instr.build t parts) H kk:=by
 unfold zfH at h
 split at h
 ·rename_i fs hf
  obtain⟨hall,h⟩:=h
  obtain⟨d,hd,hfit⟩:=hT.und hf (by simp)
  obtain⟨fa,rfl,rfl⟩:=hfit
  have hk:(T t).k≠ .none:=by rw[hf];simp
  obtain⟨i,z,hi,hs,_,hz,hzc⟩:=hT.info hk
  simp only[Instr.build,ze,za8 hi hz,zi hd]
  rw[Array.mapM_eq_mapM_toList,zdU]
  refine zgs hT fa.toList _ (by simpa [List.all_map] using hall) ?_
  unfold zhu at h
  split at h
  ·rename_i r hr
   rw[←hzc] at hr
   have hfe:=zlo _ parts.toList z.cells r hr
   have hp:(fun x=>((List.map (fun f:Field=>(f.offset,(T f.type).size)) fa.toList).toArray)[x]?)=zhv T (List.map (fun x:Field=>(x.offset,x.type)) fa.toList):=by
    funext x
    simp [zhv]
    cases fa[x]? <;> simp
   rw[←hp] at hfe
   simp only[hfe,zh]
   exact h
  ·exact h.elim
 ·rename_i n e hf
  obtain⟨hk2,h⟩:=h
  obtain⟨d,hd,hfit⟩:=hT.und hf (by simp)
  simp only[TK.fits] at hfit
  subst hfit
  have hk:(T t).k≠ .none:=by rw[hf];simp
  obtain⟨i,z,hi,hs,_,hz,hzc⟩:=hT.info hk
  obtain⟨i2,z2,hi2,hs2,_⟩:=hT.info hk2
  simp only[Instr.build,ze,za8 hi hz,zi hd,zam hi2,hs2]
  unfold zhu at h
  split at h
  ·rename_i r hr
   rw[←hzc] at hr
   have hfe:=zlo _ parts.toList z.cells r hr
   simp only[hfe,zh]
   exact h
  ·exact h.elim
 ·exact h.elim
def zdb (T:Tys) (t:TypeId) (len:Nat) (parts:List (Nat×Value)) (k:TypeId→List Value→Prop) (_:Tok k:= .mk):Prop:=
 match (T t).k with
 | .slice e=>((T e).k≠ .none∧(T e).zero.length=(T e).size∧(T e).size≠0∧len * (T e).size≤16777216)∧
   zhu (zdQ (fun i=>some (i * (T e).size,(T e).size)) (rep len (T e).zero) parts) fun cs=>k e cs
 |_=>False
theorem ziw {P:Program} {T:Tys} (hT:zT P T) {G:zb} {H:za} {t:TypeId} {len:Nat} {parts:Array (Nat×Value)} {kk:Value→za→Prop}
  (h:zdb T t len parts.toList fun e cs=>zda G (zm H) fun b=>kk (.slice (some ⟨b,0,none⟩) len len) ((b, .cells cs [] e)::H)):runS false P G (Instr.buildSlice t len parts) H kk:=by
 unfold zdb at h
 split at h
 ·rename_i e hf
  obtain⟨⟨hk,hzl,hs0,hsm⟩,h⟩:=h
  obtain⟨d,hd,hfit⟩:=hT.und hf (by simp)
  simp only[TK.fits] at hfit
  subst hfit
  obtain⟨i,z,hi,hs,_,hz,hzc⟩:=hT.info hk
  have hzs:z.cells.size=(T e).size:=by rw[←Array.length_toList,hzc,hzl]
  unfold zhu at h
  split at h
  ·rename_i r hr
   have hrow:((Array.range (len * i.size)).map (z.cells[· % z.cells.size]!)).toList=rep len (T e).zero:=by
    rw[hs,←hzs,zll z.cells len (.inr (by rw[hzs];omega)),hzc]
   have hfe: ∀ (cells:Array Value),cells.toList=rep len (T e).zero→Instr.fill (fun j=>some (j * i.size,i.size)) cells parts.toList=some r.toArray:=fun cells hc=>by
    rw[←hc] at hr
    rw[hs]
    exact zlo _ parts.toList cells r hr
   have hfin:runS false P G (do pure (.slice (some (←newRow e r.toArray)) len len):Sem Value) H kk:=by
    simp only[newRow,newObj,ze,runS,zh]
    refine⟨by trivial,by simp [zbt],fun b hb=>?_⟩
    simp only[zeh,if_true]
    exact h b hb
   simp only[Instr.buildSlice,ze,zi hd,zam hi]
   rw[if_neg (by rw[hs];omega)]
   by_cases h0:len * i.size=0
   ·have hl0:len=0:=by
     rcases Nat.mul_eq_zero.1 h0 with h|h
     ·exact h
     ·rw[hs] at h;exact absurd h hs0
    simp only[h0,if_true,ze,zh]
    rw[hfe _ (by subst hl0;rw[zis];simp)]
    exact hfin
   ·simp only[h0,if_false,ze,za8 hi hz,zh]
    rw[hfe _ hrow]
    exact hfin
  ·exact h.elim
 ·exact h.elim
end Go.V
