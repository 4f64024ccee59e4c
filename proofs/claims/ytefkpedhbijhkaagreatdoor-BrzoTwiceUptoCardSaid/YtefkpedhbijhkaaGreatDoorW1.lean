/- A part of the proof, joined of several texts: the verification layer, contracts of functions, plain law. -/
import Derived.Test.YtefkpedhbijhkaaGreatDoorW0
set_option maxHeartbeats 64000000
set_option linter.unusedSimpArgs false
set_option linter.unusedVariables false
set_option linter.unusedSectionVars false
namespace Go.V
def z7 (c:UInt8):Value:= .int .u8 c.toNat
def zaw (G:za) (H:zb) (b off n:Nat) (k:List Value→Prop) (_:Tok k:= .mk):Prop:=
 match G b with
 |some (.cells c _ _)=>Ob (n=0∨off+n≤c.size) (k ((c.toList.drop off).take n))
 |some _=>n=0∧k []
 |none=>match zq H b with
  |some (.cells xs sp _)=>Ob (n=0∨off+n≤xs.length+sp.length) (k (((xs++sp).drop off).take n))
  |_=>n=0∧k []
theorem zfr {G:za} {H:zb} {b off:Nat} {k:List Value→Prop}:zaw G H b off 0 k↔k []:=by
 unfold zaw Ob
 split <;> (try split) <;> simp
theorem zlu {G:za} {H:zb} {b off:Nat} {v:Value} {k:Value→Prop}
  (h:zaw G H b off 1 fun l=>l=[v]) (hk:k v):zcQ G H ⟨b,off,none⟩ k:=by
 unfold zaw Ob at h
 unfold zcQ
 rw[if_neg (by simp)]
 have key: ∀l:List Value,off+1≤l.length→(l.drop off).take 1=[v]→l[off]? =some v:=fun l hl h=>by
  have:=congrArg (·[0]?) h
  simpa [List.getElem?_take] using this
 split at h
 ·rename_i c e f hp
  simp only[hp]
  have:=key c.toList (by have:=h.1;simp;omega) h.2
  rw[show c[off]? =some v by simpa using this];exact hk
 ·exact absurd h.1 (by simp)
 ·rename_i hp
  simp only[hp]
  split at h
  ·rename_i xs sp e hf
   simp only[hf]
   have:=key (xs++sp) (by have:=h.1;simp;omega) h.2
   simp only[this];exact hk
  ·exact absurd h.1 (by simp)
theorem zbH (b o n:Nat):(⟨b,o,none⟩:Addr).add n=⟨b,o+n,none⟩:=by
 unfold Addr.add;split <;> simp_all
theorem zlv {q:Bool} {P:Program} {G:za} (a:Addr) (m:Mode) (H:zb) (k:Value→zb→Prop):runS q P G (load a m) H k=zcQ G H a fun v=>k v H:=rfl
theorem zeW {q:Bool} {P:Program} {G:za} {H:zb} {b off:Nat}: ∀ (n i:Nat) (acc:Array Value) {k:Array Value→zb→Prop},
  zaw G H b (off+i) n (fun cs=>k (acc++cs.toArray) H)→runS q P G (loadCellsFrom ⟨b,off,none⟩ i n acc) H k
 |0,i,acc,k,h=>by
  have:k acc H:=by
   have:=zfr.1 h
   simpa using this
  exact this
 |n+1,i,acc,k,h=>by
  unfold loadCellsFrom
  rw[ze,zlv,zbH]
  have step: ∀l:List Value,off+i+(n+1)≤l.length→ ∃v,(l.drop (off+i)).take 1=[v]∧(l.drop (off+i)).take (n+1)=v:: (l.drop (off+(i+1))).take n:=fun l hl=>by
   have hlt:off+i<l.length:=by omega
   refine⟨l[off+i],?_,?_⟩
   ·rw[List.drop_eq_getElem_cons hlt,List.take_succ_cons,List.take_zero]
   ·rw[List.drop_eq_getElem_cons hlt,List.take_succ_cons,Nat.add_assoc]
  unfold zaw Ob at h
  split at h
  ·rename_i c e f hp
   have hle:off+i+(n+1)≤c.size:=by have:=h.1;omega
   obtain⟨v,h1,h2⟩:=step c.toList (by simpa using hle)
   refine zlu (v:=v) ?_ (zeW n (i+1) (acc.push v) ?_)
   ·unfold zaw Ob;simp only[hp];exact⟨by omega,h1⟩
   ·unfold zaw Ob;simp only[hp]
    refine⟨by omega,?_⟩
    have:=h.2;rw[h2] at this;simpa using this
  ·exact absurd h.1 (by simp)
  ·rename_i hp
   split at h
   ·rename_i xs sp e hf
    have hle:off+i+(n+1)≤xs.length+sp.length:=by have:=h.1;omega
    obtain⟨v,h1,h2⟩:=step (xs++sp) (by simpa using hle)
    refine zlu (v:=v) ?_ (zeW n (i+1) (acc.push v) ?_)
    ·unfold zaw Ob;simp only[hp,hf];exact⟨by omega,h1⟩
    ·unfold zaw Ob;simp only[hp,hf]
     refine⟨by omega,?_⟩
     have:=h.2;rw[h2] at this;simpa using this
   ·exact absurd h.1 (by simp)
def blk (a:Option Addr):Nat:=match a with|some a=>a.block|none=>0
def ofs (a:Option Addr):Nat:=match a with|some a=>a.off|none=>0
def Adr (a:Option Addr):Prop:=a=some ⟨blk a,ofs a,none⟩
theorem zo9 (b o:Nat) (s:Option Nat):blk (some ⟨b,o,s⟩)=b:=rfl
theorem zpa (b o:Nat) (s:Option Nat):ofs (some ⟨b,o,s⟩)=o:=rfl
theorem zpb (b o:Nat):Adr (some ⟨b,o,none⟩)=True:=eq_true rfl
def rdSl (G:za) (H:zb) (a:Option Addr) (n:Nat) (k:List Value→Prop) (_:Tok k:= .mk):Prop:=
 match a with
 |some ⟨b,o,none⟩=>zaw G H b o n k
 |_=>n=0∧k []
theorem zjj (G:za) (H:zb) (b o n:Nat) (k:List Value→Prop):rdSl G H (some ⟨b,o,none⟩) n k=zaw G H b o n k:=rfl
theorem zlw (G:za) (H:zb) (n:Nat) (k:List Value→Prop):rdSl G H none n k=(n=0∧k []):=rfl
theorem zbF {q:Bool} {P:Program} {G:za} {H:zb} {b off n:Nat} {k:Array Value→zb→Prop}
  (h:zaw G H b off n fun cs=>k cs.toArray H):runS q P G (loadCells ⟨b,off,none⟩ n) H k:=by
 unfold loadCells
 refine zeW n 0 #[] ?_
 have:(fun cs:List Value=>k (#[]++cs.toArray) H)=fun cs=>k cs.toArray H:=by funext cs;simp
 rw[this]
 exact h
def zi (xs:List Value) (off:Nat) (vs:List Value):List Value:=xs.take off++vs++xs.drop (off+vs.length)
def zda (H:zb) (b off:Nat) (vs:List Value) (k:zb→Prop) (_:Tok k:= .mk):Prop:=
 match zq H b with
 |some (.cells xs sp e)=>Ob (off+vs.length≤xs.length∧vs.all zax=true) (k (zW H b (.cells (zi xs off vs) sp e)))
 |_=>False
theorem ze8 {H:zb} {b:Nat} {r r':Res} (h:zq H b=some r):zq (zW H b r') b=some r':=by
 induction H with
 |nil=>simp [zq] at h
 |cons p H ih=>
  obtain⟨k,s⟩:=p
  simp only[zq] at h
  simp only[zW]
  split at h
  ·rename_i hk;rw[if_pos hk];simp [zq,hk]
  ·rename_i hk;rw[if_neg hk];simp only[zq,if_neg hk];exact ih h
theorem zlx {H:zb} {b:Nat} {r r':Res}:zW (zW H b r) b r'=zW H b r':=by
 induction H with
 |nil=>rfl
 |cons p H ih=>
  obtain⟨k,s⟩:=p
  simp only[zW]
  by_cases hk:k=b
  ·rw[if_pos hk,if_pos hk];simp only[zW,if_pos hk]
  ·rw[if_neg hk,if_neg hk];simp only[zW,if_neg hk,ih]
theorem zpQ {P:Program} {G:za} (a:Addr) (v:Value) (m:Mode) (H:zb) (k:Unit→zb→Prop) (h:zhU H a v fun H'=>k () H'):runS false P G (store a v m) H k:=⟨rfl,h⟩
theorem zgi {xs:List Value} {off:Nat} {v:Value} {vs:List Value} (h:off<xs.length):zi (xs.set off v) (off+1) vs=zi xs off (v::vs):=by
 unfold zi
 rw[List.take_set,List.drop_set_of_lt (by omega)]
 simp only[List.length_cons]
 rw[show off+1+vs.length=off+(vs.length+1) by omega]
 congr 1
 rw[List.take_succ_eq_append_getElem h,List.set_append_right _ _ (by simp;omega)]
 simp [Nat.min_eq_left (Nat.le_of_lt h)]
theorem zbU {P:Program} {G:za} {b off:Nat}: ∀ (vs:List Value) (i:Nat) {H:zb} {k:Unit→zb→Prop},
  zda H b (off+i) vs (fun H'=>k () H')→runS false P G (storeCells ⟨b,off,none⟩ vs i) H k
 | [],i,H,k,h=>by
  have:k () H:=by
   unfold zda Ob at h
   split at h
   ·rename_i xs sp e hf
    have h2:=h.2
    have e1:zi xs (off+i) []=xs:=by simp [zi]
    rw[e1] at h2
    have e2:zW H b (.cells xs sp e)=H:=by
     clear h h2 e1
     induction H with
     |nil=>rfl
     |cons p H ih=>
      obtain⟨c,s⟩:=p
      simp only[zq] at hf
      simp only[zW]
      split at hf
      ·rename_i hk;rw[if_pos hk];cases hf;rfl
      ·rename_i hk;rw[if_neg hk,ih hf]
    rw[e2] at h2;exact h2
   ·exact h.elim
  exact this
 |v::vs,i,H,k,h=>by
  unfold storeCells
  rw[ze,zbH]
  refine zpQ _ _ _ _ _ ?_
  unfold zda Ob at h
  unfold zhU
  rw[if_neg (by simp)]
  split at h
  ·rename_i xs sp e hf
   simp only[hf]
   obtain⟨⟨h1,h2⟩,h3⟩:=h
   simp only[List.length_cons] at h1
   simp only[List.all_cons,Bool.and_eq_true] at h2
   refine⟨h2.1, .inl ⟨by omega,zbU vs (i+1) ?_⟩⟩
   unfold zda Ob
   simp only[ze8 hf,zlx]
   refine⟨⟨by simp;omega,h2.2⟩,?_⟩
   rw[←Nat.add_assoc,zgi (by omega)]
   exact h3
  ·exact h.elim
theorem zpR {xs:List Value} {off:Nat} {v:Value} (h:off<xs.length):zi xs off [v]=xs.set off v:=by
 rw[←zgi h];simp [zi]
def zdV (T:Tys) (G:za) (H:zb) (t:TypeId) (a:Value) (k:Value→Prop) (_:Tok k:= .mk):Prop:=
 match a with
 | .pointer (some ⟨b,o,none⟩)=>match (T t).k with
  | .none=>False
  | .struct _| .arr .. =>zaw G H b o (T t).size fun cs=>k (.agg cs.toArray)
  |_=>zcQ G H ⟨b,o,none⟩ k
 |_=>False
theorem zfs {q:Bool} {P:Program} {T:Tys} (hT:zM P T) {G:za} {H:zb} {t:TypeId} {a:Value} {kk:Value→zb→Prop}
  (h:zdV T G H t a fun v=>kk v H):runS q P G (Instr.loadAt t a) H kk:=by
 unfold zdV at h
 split at h
 ·rename_i b o
  simp only[Instr.loadAt,Instr.sureAddr,ze,zg,loadVar]
  have hk:(T t).k≠ .none:=by intro e;simp only[e] at h
  obtain⟨i,z,hi,hs,_⟩:=hT.info hk
  rw[zgP hT hk]
  have agg:(T t).k.agg=true→(zaw G H b o (T t).size fun cs=>kk (.agg cs.toArray) H)→
    runS q P G (if (T t).k.agg=true then do pure (.agg (←loadCells ⟨b,o,none⟩ (←sizeOf t))) else load ⟨b,o,none⟩) H kk:=fun ha h=>by
   rw[if_pos ha,ze,zae hi,ze,hs]
   exact zbF h
  split at h
  ·exact h.elim
  ·rename_i fs hf;exact agg (by rw[hf];rfl) h
  ·rename_i n e hf;exact agg (by rw[hf];rfl) h
  ·rename_i hn1 hn2 hn3
   have:(T t).k.agg=false:=by
    cases hkk:(T t).k <;> simp only[TK.agg] <;> simp_all
   rw[if_neg (by simp [this]),zlv]
   exact h
 ·exact h.elim
def zck (v:Value):List Value:=match v with| .agg cs=>cs.toList|v=>[v]
theorem zeL (v:Value):v.cells.toList=zck v:=by cases v <;> rfl
def ziK (T:Tys) (H:zb) (t:TypeId) (a v:Value) (k:zb→Prop) (_:Tok k:= .mk):Prop:=
 match a with
 | .pointer (some ⟨b,o,none⟩)=>(T t).k≠ .none∧Ob ((zck v).length=(T t).size) (zda H b o (zck v) k)
 |_=>False
theorem zmd {P:Program} {T:Tys} (hT:zM P T) {G:za} {H:zb} {t:TypeId} {a v:Value} {kk:Unit→zb→Prop}
  (h:ziK T H t a v fun H'=>kk () H'):runS false P G (Instr.storeAt t a v) H kk:=by
 unfold ziK at h
 split at h
 ·rename_i b o
  obtain⟨hk,hl,h⟩:=h
  simp only[Instr.storeAt,Instr.sureAddr,ze,zg,storeVar]
  obtain⟨i,z,hi,hs,_⟩:=hT.info hk
  rw[zae hi]
  have hc:v.cells.size=i.size:=by rw[hs,←hl,←zeL];simp
  rw[if_neg (by simp [hc]),zeL]
  exact zbU _ 0 h
 ·exact h.elim
def ziL (T:Tys) (s:TypeId) (x:Value) (f:Nat) (k:Value→Prop) (_:Tok k:= .mk):Prop:=
 match x with
 | .pointer (some ⟨b,o,none⟩)=>match (T s).k with
  | .struct fs=>match fs[f]? with
   |some (off,t)=>(T t).k≠ .none∧(T t).size≠0∧k (.pointer (some ⟨b,o+off,none⟩))
   |none=>False
  |_=>False
 |_=>False
theorem zhM {q:Bool} {P:Program} {T:Tys} (hT:zM P T) {G:za} {H:zb} {s:TypeId} {x:Value} {f:Nat} {kk:Value→zb→Prop}
  (h:ziL T s x f fun v=>kk v H):runS q P G (Instr.fieldAt s x f) H kk:=by
 unfold ziL at h
 split at h
 ·rename_i b o
  split at h
  ·rename_i fs hf
   split at h
   ·rename_i off t hft
    obtain⟨hk,hs0,h⟩:=h
    obtain⟨d,hd,hfit⟩:=hT.und hf (by simp)
    obtain⟨fa,rfl,rfl⟩:=hfit
    obtain⟨i,z,hi,hs,_⟩:=hT.info hk
    have hfa: ∃fd,fa[f]? =some fd∧fd.offset=off∧fd.type=t:=by
     rw[List.getElem?_map] at hft
     simp only[Option.map_eq_some_iff,Prod.mk.injEq] at hft
     obtain⟨fd,h1,h2,h3⟩:=hft
     exact⟨fd,by simpa using h1,h2,h3⟩
    obtain⟨fd,hfd,rfl,rfl⟩:=hfa
    simp only[Instr.fieldAt,ze,zh hd,hfd,Instr.sureAddr,zg,fieldPlace,zae hi]
    rw[if_neg (by rw[hs];exact hs0),zg,zbH]
    exact h
   ·exact h.elim
  ·exact h.elim
 ·exact h.elim
def zex (T:Tys) (t:TypeId) (x i:Value) (k:Value→Prop) (_:Tok k:= .mk):Prop:=
 match i with
 | .int _ n=>match x,(T t).k with
  | .slice a len _, .slice e=>(T e).k≠ .none∧Ob (0≤n∧n< (len:Int)) (Ob (Adr a) (k (.pointer (some ⟨blk a,ofs a+n.toNat * (T e).size,none⟩))))
  | .pointer (some ⟨b,o,none⟩), .arr len e=>(T e).k≠ .none∧Ob (0≤n∧n< (len:Int)) (k (.pointer (some ⟨b,o+n.toNat * (T e).size,none⟩)))
  |_,_=>False
 |_=>False
theorem ze5 {q:Bool} {P:Program} {T:Tys} (hT:zM P T) {G:za} {H:zb} {t:TypeId} {x i:Value} {kk:Value→zb→Prop}
  (h:zex T t x i fun v=>kk v H):runS q P G (Instr.indexAt t x i) H kk:=by
 unfold zex at h
 split at h
 ·rename_i kd n
  split at h
  ·rename_i ad len cap e hf
   obtain⟨hk,hn,had,h⟩:=h
   unfold Adr at had
   rw[had]
   obtain⟨d,hd,hfit⟩:=hT.und hf (by simp)
   simp only[TK.fits] at hfit
   subst hfit
   obtain⟨i,z,hi,hs,_⟩:=hT.info hk
   simp only[Instr.indexAt,asIntOf,ze,zh hd,zg,bind_pure_comp]
   simp only[hn,and_self,if_true]
   cases decide (len≤1) <;> simp only[Bool.false_and,Bool.true_and,zdD,zae hi,zbH,hs] <;> exact h
  ·rename_i b o len e hf
   obtain⟨hk,hn,h⟩:=h
   obtain⟨d,hd,hfit⟩:=hT.und hf (by simp)
   simp only[TK.fits] at hfit
   subst hfit
   obtain⟨i,z,hi,hs,_⟩:=hT.info hk
   simp only[Instr.indexAt,asIntOf,ze,zh hd,zg,bind_pure_comp,Instr.sureAddr]
   simp only[hn,and_self,if_true]
   cases decide (len≤1) <;> simp only[Bool.false_and,Bool.true_and,zdD,zae hi,zbH,hs] <;> exact h
  ·exact h.elim
 ·exact h.elim
end Go.V
namespace Go.V
variable {E:Env}
def zgR (T:Tys) (t:TypeId) (cs:List Value) (off:Nat) (k:Value→Prop) (_:Tok k:= .mk):Prop:=
 match (T t).k with
 | .none=>False
 | .struct _| .arr .. =>k (.agg ((cs.drop off).take (T t).size).toArray)
 |_=>zA (cs[off]?) k
theorem zi2 {q:Bool} {P:Program} {T:Tys} (hT:zM P T) {G:za} {H:zb} {t:TypeId} {cs:Array Value} {off:Nat} {kk:Value→zb→Prop}
  (h:zgR T t cs.toList off fun v=>kk v H):runS q P G (part t cs off) H kk:=by
 unfold zgR at h
 have hk:(T t).k≠ .none:=by intro e;simp only[e] at h
 obtain⟨i,z,hi,hs,_⟩:=hT.info hk
 unfold part
 rw[ze,zgP hT hk]
 have agg: ∀other:Sem Value,(T t).k.agg=true→kk (.agg ((cs.toList.drop off).take (T t).size).toArray) H→
   runS q P G (if (T t).k.agg=true then do pure (.agg (cs.extract off (off+(←sizeOf t)))) else other) H kk:=fun other ha h=>by
  rw[if_pos ha,ze,zae hi,hs]
  have:cs.extract off (off+(T t).size)=((cs.toList.drop off).take (T t).size).toArray:=by
   apply Array.ext'
   simp [List.extract_eq_take_drop]
  rw[this];exact h
 split at h
 ·exact h.elim
 ·rename_i fs hf;exact agg _ (by rw[hf];rfl) h
 ·rename_i n e hf;exact agg _ (by rw[hf];rfl) h
 ·have:(T t).k.agg=false:=by
   cases hkk:(T t).k <;> simp only[TK.agg] <;> simp_all
  rw[if_neg (by simp [this])]
  unfold zA at h
  split at h
  ·rename_i v hv
   rw[show cs[off]? =some v by simpa using hv];exact h
  ·exact h.elim
def zgS (T:Tys) (t:TypeId) (x:Value) (f:Nat) (k:Value→Prop) (_:Tok k:= .mk):Prop:=
 match x,(T t).k with
 | .agg cs, .struct fs=>match fs[f]? with
  |some (off,u)=>zgR T u cs.toList off k
  |none=>False
 |_,_=>False
theorem zgE {q:Bool} {P:Program} {T:Tys} (hT:zM P T) {G:za} {H:zb} {t:TypeId} {x:Value} {f:Nat} {kk:Value→zb→Prop}
  (h:zgS T t x f fun v=>kk v H):runS q P G (Instr.field t x f) H kk:=by
 unfold zgS at h
 split at h
 ·rename_i cs fs hf
  obtain⟨d,hd,hfit⟩:=hT.und hf (by simp)
  obtain⟨fa,rfl,rfl⟩:=hfit
  split at h
  ·rename_i off u hfu
   rw[List.getElem?_map] at hfu
   simp only[Option.map_eq_some_iff,Prod.mk.injEq] at hfu
   obtain⟨fd,h1,rfl,rfl⟩:=hfu
   simp only[Instr.field,ze,zh hd]
   rw[show fa[f]? =some fd by simpa using h1]
   simp only[ze,asAgg,zg]
   exact zi2 hT h
  ·exact h.elim
 ·exact h.elim
def ziM (T:Tys) (t:TypeId) (x i:Value) (k:Value→Prop) (_:Tok k:= .mk):Prop:=
 match i with
 | .int _ n=>match x with
  | .string s=>(T t).k= .string∧Ob (0≤n∧n< (s.data.toList.length:Int)) (zA (s.data.toList[n.toNat]?.map z7) k)
  | .agg cs=>match (T t).k with
   | .arr len e=>(T e).k≠ .none∧Ob (0≤n∧n< (len:Int)) (zgR T e cs.toList (n.toNat * (T e).size) k)
   |_=>False
  |_=>False
 |_=>False
theorem zhN {q:Bool} {P:Program} {T:Tys} (hT:zM P T) {G:za} {H:zb} {t:TypeId} {x i:Value} {kk:Value→zb→Prop}
  (h:ziM T t x i fun v=>kk v H):runS q P G (Instr.index t x i) H kk:=by
 unfold ziM at h
 split at h
 ·rename_i kd n
  split at h
  ·rename_i s
   obtain⟨hk,hn,h⟩:=h
   obtain⟨d,hd,hfit⟩:=hT.und hk (by simp)
   simp only[TK.fits] at hfit
   subst hfit
   simp only[Instr.index,ze,asIntOf,zg,zh hd]
   rw[if_pos hn.1]
   unfold zA at h
   split at h
   ·rename_i v hv
    simp only[Option.map_eq_some_iff] at hv
    obtain⟨c,hc,rfl⟩:=hv
    have hlt:n.toNat<s.size:=by
     have:=(List.getElem?_eq_some_iff.1 hc).1
     simpa using this
    have hs:s[n.toNat]? =some c:=by
     rw[getElem?_pos s n.toNat hlt]
     have h2:=(List.getElem?_eq_some_iff.1 hc).2
     rw[←h2]
     rfl
    simp only[hs,zg]
    exact h
   ·exact h.elim
  ·rename_i cs
   split at h
   ·rename_i len e hf
    obtain⟨hk,hn,h⟩:=h
    obtain⟨d,hd,hfit⟩:=hT.und hf (by simp)
    simp only[TK.fits] at hfit
    subst hfit
    obtain⟨j,z,hj,hs,_⟩:=hT.info hk
    simp only[Instr.index,ze,asIntOf,zg,zh hd]
    rw[if_pos hn,ze,zae hj,hs]
    exact zi2 hT h
   ·exact h.elim
  ·exact h.elim
 ·exact h.elim
def zpS (op:UnOp) (x:Value) (k:Value→Prop) (_:Tok k:= .mk):Prop:=
 match op,x with
 | .not, .bool b=>k (.bool !b)
 | .neg, .int a n=>k (.int a (a.wrap (0 - n)))
 | .xor, .int a n=>k (.int a (zaC .xor a (if a.signed then -1 else a.max) n))
 |_,_=>False
theorem zj6 {q:Bool} {P:Program} {G:za} {H:zb} {op:UnOp} {x:Value} {kk:Value→zb→Prop} (h:zpS op x fun v=>kk v H):runS q P G (Op.unary op x) H kk:=by
 unfold zpS at h
 split at h
 ·exact h
 ·exact h
 ·exact h
 ·exact h.elim
def zfW (x:Value) (i:Nat) (k:Value→Prop) (_:Tok k:= .mk):Prop:=
 match x with
 | .tuple vs=>zA (vs.toList[i]?) k
 |_=>False
theorem zfX {q:Bool} {P:Program} {G:za} {H:zb} {x:Value} {i:Nat} {kk:Value→zb→Prop} (h:zfW x i fun v=>kk v H):runS q P G (Instr.extract x i) H kk:=by
 unfold zfW at h
 split at h
 ·rename_i vs
  unfold zA at h
  split at h
  ·rename_i v hv
   simp only[Instr.extract]
   rw[show vs[i]? =some v by simpa using hv];exact h
  ·exact h.elim
 ·exact h.elim
def zbI (G:za) (ks:List Nat) (n E:Nat) (k:Nat→List Value→Nat→Prop) (_:Tok k:= .mk):Prop:=
 ∀b sp cap,Sep G (b::ks)→n * E+sp.length=cap * E→k b sp cap
def rep (n:Nat) (z:List Value):List Value:=
 match z with
 | [v]=>List.replicate n v
 |z=>(List.replicate n z).flatten
theorem ze9 (n:Nat) (z:List Value):(rep n z).length=n * z.length:=by
 unfold rep
 split
 ·simp
 ·simp
theorem zhW (n:Nat) (z:List Value):rep n z=(List.replicate n z).flatten:=by
 unfold rep
 split
 ·rename_i v
  induction n with
  |zero=>rfl
  |succ n ih=>rw[List.replicate_succ,List.replicate_succ,List.flatten_cons,←ih];rfl
 ·rfl
theorem zn8 (n:Nat) (z:List Value) (hz:0<z.length) (i:Nat) (hi:i<n * z.length):((List.replicate n z).flatten)[i]? =z[i % z.length]? :=by
 induction n generalizing i with
 |zero=>simp at hi
 |succ n ih=>
  rw[List.replicate_succ,List.flatten_cons]
  by_cases h:i<z.length
  ·rw[List.getElem?_append_left h,Nat.mod_eq_of_lt h]
  ·rw[List.getElem?_append_right (by omega),ih (i - z.length) (by have:=Nat.succ_mul n z.length;rw[Nat.succ_eq_add_one] at this;omega)]
   rw[Nat.mod_eq_sub_mod (a:=i) (by omega)]
theorem zkZ (z:Array Value) (n:Nat) (hz:n=0∨0<z.size):((Array.range (n * z.size)).map (z[· % z.size]!)).toList=rep n z.toList:=by
 rw[zhW]
 rcases hz with rfl|hz
 ·simp
 ·apply List.ext_getElem?
  intro i
  by_cases hi:i<n * z.size
  ·rw[zn8 n z.toList (by simpa using hz) i (by simpa using hi)]
   have hm:i % z.size<z.size:=Nat.mod_lt _ hz
   simp [hi,hm,getElem!_pos]
  ·rw[List.getElem?_eq_none (by simp;omega),List.getElem?_eq_none (by simp;omega)]
def zO {α:Type} (P:Program) (G:za) (s:Sem α) (H:zb) (k:α→zb→Prop):Prop:=
 ∀ ⦃E:Env⦄ w,HeapOk E G H w→ ∃x w' H',s.run P w= .ok x w'∧HeapOk E G H' w'∧k x H'
theorem zO.of {α:Type} {P:Program} {G:za} {s:Sem α} {H:zb} {k:α→zb→Prop} (h:runS false P G s H k):zO P G s H k:=
 fun _ _ hw=>zj3 s hw h
theorem zO.weak {α:Type} {P:Program} {G:za} {s:Sem α} {H:zb} {k k':α→zb→Prop} (h:zO P G s H k)
  (hk: ∀x H',k x H'→ ∃H'',(∀ ⦃E:Env⦄ w,HeapOk E G H' w→HeapOk E G H'' w)∧k' x H''):zO P G s H k':=fun E w hw=>
 let ⟨x,w',H',h1,h2,h3⟩:=h w hw
 let ⟨H'',h4,h5⟩:=hk x H' h3
 ⟨x,w',H'',h1,h4 w' h2,h5⟩
def zey (T:Tys) (G:za) (H:zb) (t:TypeId) (l c:Value) (k:Value→zb→Prop) (_:Tok k:= .mk):Prop:=
 match (T t).k,l,c with
 | .slice e, .int _ l, .int _ c=>((T e).k≠ .none∧(T e).zero.length=(T e).size∧(T e).size≠0)∧Ob (0≤l∧l≤c∧(T e).bytes * c≤281474976710656∧c≤9223372036854775807)
   (zcR G (zk H) fun b=>k (.slice (some ⟨b,0,none⟩) l.toNat c.toNat) ((b, .cells (rep l.toNat (T e).zero) (rep (c.toNat - l.toNat) (T e).zero) e)::H))
 |_,_,_=>False
theorem HeapOk.resplit {G:za} {H:zb} {w:World} {b:Nat} {xs sp xs' sp':List Value} {e:TypeId} (he:xs++sp=xs'++sp') (h:HeapOk E G ((b, .cells xs sp e)::H) w):
  HeapOk E G ((b, .cells xs' sp' e)::H) w:=by
 refine⟨h.env,h.pers,fun p hp=>?_,h.sep,h.dfr⟩
 rcases List.mem_cons.1 hp with rfl|hp
 ·obtain⟨o,ho,fr,hfr,hl⟩:=h.own _ (List.mem_cons_self ..)
  refine⟨o,ho,fr,by rw[hfr,he],?_⟩
  have:=congrArg List.length he
  simp only[List.length_append] at this
  rw[←this];exact hl
 ·exact h.own p (List.mem_cons_of_mem _ hp)
theorem zvO (n m:Nat) (z:List Value):rep n z++rep m z=rep (n+m) z:=by
 simp only[zhW]
 rw[←List.flatten_append,List.replicate_append_replicate]
theorem zi0 {P:Program} {T:Tys} (hT:zM P T) {G:za} {H:zb} {t:TypeId} {l c:Value} {kk:Value→zb→Prop}
  (h:zey T G H t l c kk):zO P G (Instr.makeSlice t l c) H kk:=by
 unfold zey at h
 split at h
 ·rename_i e kl l kc c hf
  obtain⟨⟨hk,hzl,hs0⟩,⟨h0,hlc,hb,h63⟩,h⟩:=h
  obtain⟨d,hd,hfit⟩:=hT.und hf (by simp)
  simp only[TK.fits] at hfit
  subst hfit
  obtain⟨i,z,hi,hs,hby,hz,hzc⟩:=hT.info hk
  intro E w hw
  have hrun:=run_make (P:=P) w t e i z hd hi hz kl kc l c h0 hlc (by rw[hby];exact hb) h63
  refine⟨_,_,_,hrun,?_,h _ hw.fresh⟩
  have hzs:z.cells.size=i.size:=by rw[←Array.length_toList,hzc,hzl,hs]
  have hm:(madeCells z.cells (c.toNat * i.size)).toList=rep c.toNat (T e).zero:=by
   unfold madeCells
   rw[←hzs,zkZ z.cells c.toNat (.inr (by rw[hzs,hs];omega)),hzc]
  refine HeapOk.resplit (xs:=rep c.toNat (T e).zero) (sp:=[]) ?_ (hw.new ?_)
  ·rw[zvO,List.append_nil];congr 1;omega
  ·exact⟨(0,0),by rw[List.append_nil,←hm], .inl rfl⟩
 ·exact h.elim
end Go.V
namespace Go.V
variable {E:Env}
def zdW (o:Option Value) (d:Int) (k:Int→Prop) (_:Tok k:= .mk):Prop:=
 match o with
 |none=>k d
 |some (.int _ n)=>k n
 |some _=>False
theorem zpT (d:Int) (k:Int→Prop):zdW none d k=k d:=rfl
theorem zpU (a:IntKind) (n d:Int) (k:Int→Prop):zdW (some (.int a n)) d k=k n:=rfl
def zbg (b o:Nat) (l m n:Nat):Addr:=if m=l then⟨b,o,none⟩ else⟨b,o+n,none⟩
def zez (a:Option Addr) (l m n:Nat):Option Addr:=if m=l then a else a.map (·.add n)
def ziN (T:Tys) (t:TypeId) (x:Value) (lo hi mx:Option Value) (k:Value→Prop) (_:Tok k:= .mk):Prop:=
 match x with
 | .string s=>(T t).k= .string∧mx=none∧zdW hi s.data.toList.length fun h=>zdW lo 0 fun l=>
   Ob (0≤l∧l≤h∧h≤s.data.toList.length) (k (.string ⟨((s.data.toList.drop l.toNat).take (h.toNat - l.toNat)).toArray⟩))
 | .slice a len cap=>match (T t).k with
  | .slice e=>(T e).k≠ .none∧(mx=none∨hi.isSome=true)∧zdW mx cap fun m=>zdW hi len fun h=>zdW lo 0 fun l=>
    Ob (0≤l∧l≤h∧h≤m∧m≤cap) (k (.slice (zez a l.toNat m.toNat (l.toNat * (T e).size)) (h.toNat - l.toNat) (m.toNat - l.toNat)))
  |_=>False
 | .pointer (some ⟨b,o,none⟩)=>match (T t).k with
  | .arr n e=>(T e).k≠ .none∧mx=none∧zdW hi n fun h=>zdW lo 0 fun l=>
    Ob (0≤l∧l≤h∧h≤(n:Int)) (k (.slice (some (zbg b o l.toNat n (l.toNat * (T e).size))) (h.toNat - l.toNat) (n - l.toNat)))
  |_=>False
 |_=>False
theorem zbS {a:IntKind} {n:Int} {y:Nat} (code:BoundsCode) (h0:0≤n) (h1:n≤y):Instr.sliceBound (.int a n) y code=pure n.toNat:=by
 unfold Instr.sliceBound asIntOf
 simp only[pure_bind]
 rw[if_pos ⟨h0,h1⟩]
theorem zct {o:Option Value} {d:Int} {k:Int→Prop} (h:zdW o d k): ∃n,k n∧((o=none∧n=d)∨ ∃a,o=some (.int a n)):=by
 unfold zdW at h
 split at h
 ·exact⟨d,h, .inl ⟨rfl,rfl⟩⟩
 ·rename_i a n;exact⟨n,h, .inr ⟨a,rfl⟩⟩
 ·exact h.elim
theorem zdE {q:Bool} {P:Program} {G:za} {H:zb} {isS:Bool} {len cap:Nat} {lo hi mx:Option Value} {l h m:Int} {k:Nat×Nat×Nat→zb→Prop}
  (hm:(mx=none∧m=cap)∨ ∃a,mx=some (.int a m)) (hh:(hi=none∧h=len)∨ ∃a,hi=some (.int a h)) (hl:(lo=none∧l=0)∨ ∃a,lo=some (.int a l))
  (hmh:mx=none∨hi.isSome=true) (h0:0≤l) (h1:l≤h) (h2:h≤m) (h3:m≤cap) (hk:k (l.toNat,h.toNat,m.toNat) H):runS q P G (Instr.sliceBounds isS len cap lo hi mx) H k:=by
 unfold Instr.sliceBounds
 rcases hm with ⟨rfl,rfl⟩| ⟨am,rfl⟩
 ·rcases hh with ⟨rfl,rfl⟩| ⟨ah,rfl⟩
  ·rcases hl with ⟨rfl,rfl⟩| ⟨al,rfl⟩
   ·simp only[pure_bind,zg]
    simpa using hk
   ·simp only[pure_bind,zbS _ h0 h1,zg]
    simpa using hk
  ·have e1:=fun code=>zbS (a:=ah) (y:=cap) code (by omega:0≤h) h2
   rcases hl with ⟨rfl,rfl⟩| ⟨al,rfl⟩
   ·simp only[pure_bind,e1,zg]
    simpa using hk
   ·have e2:=fun code=>zbS (a:=al) (y:=h.toNat) code h0 (by omega)
    simp only[pure_bind,e1,e2,zg]
    simpa using hk
 ·have e0:=fun code=>zbS (a:=am) (y:=cap) code (by omega:0≤m) h3
  rcases hh with ⟨rfl,rfl⟩| ⟨ah,rfl⟩
  ·simp at hmh
  ·have e1:=fun code=>zbS (a:=ah) (y:=m.toNat) code (by omega:0≤h) (by omega)
   rcases hl with ⟨rfl,rfl⟩| ⟨al,rfl⟩
   ·simp only[pure_bind,e0,e1,zg]
    exact hk
   ·have e2:=fun code=>zbS (a:=al) (y:=h.toNat) code h0 (by omega)
    simp only[pure_bind,e0,e1,e2,zg]
    exact hk
theorem zhO {q:Bool} {P:Program} {T:Tys} (hT:zM P T) {G:za} {H:zb} {t:TypeId} {x:Value} {lo hi mx:Option Value} {kk:Value→zb→Prop}
  (h:ziN T t x lo hi mx fun v=>kk v H):runS q P G (Instr.sliceAt t x lo hi mx) H kk:=by
 unfold ziN at h
 split at h
 ·rename_i s
  obtain⟨hk,rfl,h⟩:=h
  obtain⟨d,hd,hfit⟩:=hT.und hk (by simp)
  simp only[TK.fits] at hfit
  subst hfit
  obtain⟨h',h,hh⟩:=zct h
  obtain⟨l',h,hl⟩:=zct h
  obtain⟨⟨h0,h1,h2⟩,h⟩:=h
  have hlen:s.data.toList.length=s.size:=by simp
  rw[hlen] at h2 hh
  simp only[Instr.sliceAt,ze,zh hd,Instr.slice]
  rw[if_neg (by simp),ze]
  refine zdE (m:=s.size) (.inl ⟨rfl,rfl⟩) hh hl (.inl rfl) h0 h1 h2 (Int.le_refl _) ?_
  simp only[zg]
  have:s.extract l'.toNat h'.toNat=⟨((s.data.toList.drop l'.toNat).take (h'.toNat - l'.toNat)).toArray⟩:=by
   apply ByteArray.ext
   apply Array.ext'
   simp [ByteArray.data_extract,List.extract_eq_take_drop]
  rw[this];exact h
 ·rename_i a len cap
  split at h
  ·rename_i e hf
   obtain⟨hk,hmx,h⟩:=h
   obtain⟨d,hd,hfit⟩:=hT.und hf (by simp)
   simp only[TK.fits] at hfit
   subst hfit
   obtain⟨i,z,hi',hs,_⟩:=hT.info hk
   obtain⟨m,h,hm⟩:=zct h
   obtain⟨h',h,hh⟩:=zct h
   obtain⟨l',h,hl⟩:=zct h
   obtain⟨⟨h0,h1,h2,h3⟩,h⟩:=h
   simp only[Instr.sliceAt,ze,zh hd,Instr.slice]
   refine zdE hm hh hl hmx h0 h1 h2 h3 ?_
   simp only[zae hi',zg,ze,hs]
   exact h
  ·exact h.elim
 ·rename_i b o
  split at h
  ·rename_i n e hf
   obtain⟨hk,rfl,h⟩:=h
   obtain⟨d,hd,hfit⟩:=hT.und hf (by simp)
   simp only[TK.fits] at hfit
   subst hfit
   obtain⟨i,z,hi',hs,_⟩:=hT.info hk
   obtain⟨h',h,hh⟩:=zct h
   obtain⟨l',h,hl⟩:=zct h
   obtain⟨⟨h0,h1,h2⟩,h⟩:=h
   simp only[Instr.sliceAt,ze,zh hd,Instr.sureAddr,zg]
   refine zdE (m:=n) (.inl ⟨rfl,rfl⟩) hh hl (.inl rfl) h0 h1 h2 (Int.le_refl _) ?_
   simp only[zae hi',zg,ze,hs,zbH]
   rw[show((n:Int)).toNat=n by omega]
   have:(if n=l'.toNat then(⟨b,o,none⟩:Addr) else⟨b,o+l'.toNat * (T e).size,none⟩)=zbg b o l'.toNat n (l'.toNat * (T e).size):=by
    unfold zbg;split <;> rfl
   rw[this];exact h
  ·exact h.elim
 ·exact h.elim
def zY:zb→Nat→zb
 | [],_=>[]
 | (k,r)::H,b=>if k=b then H else(k,r)::zY H b
theorem zfa (H:zb) (b:Nat):(zY H b).Sublist H:=by
 induction H with
 |nil=>exact List.Sublist.refl _
 |cons p H ih=>
  obtain⟨k,r⟩:=p
  simp only[zY]
  split
  ·exact List.sublist_cons_self _ _
  ·exact ih.cons_cons _
def zft (T:Tys) (G:za) (H:zb) (e:TypeId) (x:Value) (k:Nat→List Value→Prop) (_:Tok k:= .mk):Prop:=
 match x with
 | .slice a n _=>rdSl G H a (n * (T e).size) fun cs=>k n cs
 | .string s=>(T e).size=1∧k s.data.toList.length (s.data.toList.map z7)
 |_=>False
def zmK (vs:List Value):Bool:=vs.all zax
def zgF (T:Tys) (G:za) (H:zb) (e:TypeId) (a:Option Addr) (k:Value→zb→Prop) (n:Nat) (new:List Value) (_:Tok k:= .mk):Prop:=
 Br (decide (n=0)) (k (.slice a 0 0) H) (Ob (n * (T e).bytes≤140737488355328∧n≤9223372036854775807)
   (zbI G (zk H) n (T e).size fun b sp cap=>k (.slice (some ⟨b,0,none⟩) n cap) ((b, .cells new sp e)::H)))
def zhX (T:Tys) (G:za) (H:zb) (e:TypeId) (b len cap:Nat) (r:Option Res) (k:Value→zb→Prop) (n:Nat) (new:List Value) (_:Tok k:= .mk):Prop:=
 match r with
 |some (.cells xs sp e')=>e'=e∧Ob (xs.length=len * (T e).size∧xs.length+sp.length=cap * (T e).size∧(len+n) * (T e).bytes≤140737488355328∧len+n≤9223372036854775807∧zmK new=true)
    (zbI G (zk (zY H b)) (len+n) (T e).size fun b' sp' cap'=>k (.slice (some ⟨b',0,none⟩) (len+n) cap') ((b', .cells (xs++new) sp' e)::zY H b))
 |_=>False
def zgT (T:Tys) (G:za) (H:zb) (e:TypeId) (b len cap:Nat) (r:Option Res) (k:Value→zb→Prop) (n:Nat) (new:List Value) (_:Tok k:= .mk):Prop:=
 match r with
 |some (.cells xs sp e')=>e'=e∧Ob (xs.length=len * (T e).size∧cap<len+n∧(len+n) * (T e).bytes≤140737488355328∧len+n≤9223372036854775807)
    (zbI G (zk (zY H b)) (len+n) (T e).size fun b' sp' cap'=>k (.slice (some ⟨b',0,none⟩) (len+n) cap') ((b', .cells (xs++new) sp' e)::zY H b))
 |_=>False
def zd9 (T:Tys) (G:za) (H:zb) (e:TypeId) (a:Option Addr) (len cap:Nat) (k:Value→zb→Prop) (n:Nat) (new:List Value) (_:Tok k:= .mk):Prop:=
 (len=0∧cap=0∧zgF T G H e a k n new)∨ ∃b,a=some ⟨b,0,none⟩∧(zhX T G H e b len cap (zq H b) k n new∨zgT T G H e b len cap (zq H b) k n new)
theorem zd9.zero {T:Tys} {G:za} {H:zb} {e:TypeId} {a:Option Addr} {k:Value→zb→Prop} {n:Nat} {new:List Value} (h:zgF T G H e a k n new):zd9 T G H e a 0 0 k n new:= .inl ⟨rfl,rfl,h⟩
theorem zd9.own {T:Tys} {G:za} {H:zb} {e:TypeId} {b len cap:Nat} {k:Value→zb→Prop} {n:Nat} {new:List Value} (h:zhX T G H e b len cap (zq H b) k n new):zd9 T G H e (some ⟨b,0,none⟩) len cap k n new:= .inr ⟨b,rfl, .inl h⟩
theorem zd9.tight {T:Tys} {G:za} {H:zb} {e:TypeId} {b len cap:Nat} {k:Value→zb→Prop} {n:Nat} {new:List Value} (h:zgT T G H e b len cap (zq H b) k n new):zd9 T G H e (some ⟨b,0,none⟩) len cap k n new:= .inr ⟨b,rfl, .inr h⟩
theorem zk0 {T:Tys} {G:za} {H:zb} {e:TypeId} {b len cap:Nat} {xs sp:List Value} {e':TypeId} {k:Value→zb→Prop} {n:Nat} {new:List Value}:
  zgT T G H e b len cap (some (.cells xs sp e')) k n new=(e'=e∧Ob (xs.length=len * (T e).size∧cap<len+n∧(len+n) * (T e).bytes≤140737488355328∧len+n≤9223372036854775807)
    (zbI G (zk (zY H b)) (len+n) (T e).size fun b' sp' cap'=>k (.slice (some ⟨b',0,none⟩) (len+n) cap') ((b', .cells (xs++new) sp' e)::zY H b))):=rfl
theorem zmL {T:Tys} {G:za} {H:zb} {e:TypeId} {b len cap:Nat} {xs sp:List Value} {e':TypeId} {k:Value→zb→Prop} {n:Nat} {new:List Value}:
  zhX T G H e b len cap (some (.cells xs sp e')) k n new=(e'=e∧Ob (xs.length=len * (T e).size∧xs.length+sp.length=cap * (T e).size∧(len+n) * (T e).bytes≤140737488355328∧len+n≤9223372036854775807∧zmK new=true)
    (zbI G (zk (zY H b)) (len+n) (T e).size fun b' sp' cap'=>k (.slice (some ⟨b',0,none⟩) (len+n) cap') ((b', .cells (xs++new) sp' e)::zY H b))):=rfl
def zmt (T:Tys) (G:za) (H:zb) (e:TypeId) (s:Value) (k:Value→zb→Prop) (n:Nat) (new:List Value) (_:Tok k:= .mk):Prop:=
 match s with
 | .slice a len cap=>zd9 T G H e a len cap k n new
 |_=>False
def zjk (T:Tys) (G:za) (H:zb) (e:TypeId) (s x:Value) (k:Value→zb→Prop) (_:Tok k:= .mk):Prop:=
 match s,x with
 | .slice _ len cap, .int .i64 n=>Ob (len=0∧(cap:Int) <n∧n.toNat * (T e).bytes≤140737488355328∧n≤9223372036854775807)
   (zbI G (zk H) n.toNat (T e).size fun b sp cap=>k (.slice (some ⟨b,0,none⟩) n.toNat cap) ((b, .cells (rep n.toNat (T e).zero) sp e)::H))
 |_,_=>False
def zgU (T:Tys) (G:za) (H:zb) (t u:TypeId) (s x:Value) (k:Value→zb→Prop) (_:Tok k:= .mk):Prop:=
 match (T t).k,(T u).k with
 | .slice e, .slice _| .slice e, .string=>((T e).k≠ .none∧(T e).zero.length=(T e).size∧(T e).size≠0)∧zft T G H e x fun n new=>zmt T G H e s k n new
 | .slice e, .int _=>((T e).k≠ .none∧(T e).zero.length=(T e).size∧(T e).size≠0)∧zjk T G H e s x k
 |_,_=>False
def zZ:Value→Nat
 | .slice _ n _=>n
 | .string s=>s.size
 |_=>0
theorem zfu {G:za} {H:zb} {b o n:Nat} {k:List Value→Prop} (h:zaw G H b o n k): ∃cs,k cs∧cs.length=n∧ ∀k':List Value→Prop,k' cs→zaw G H b o n k':=by
 unfold zaw Ob at *
 split at h
 ·exact⟨_,h.2,by have:=h.1;simp;omega,fun k' hk=>⟨h.1,hk⟩⟩
 ·exact⟨_,h.2,h.1.symm,fun k' hk=>⟨h.1,hk⟩⟩
 ·split at h
  ·exact⟨_,h.2,by have:=h.1;simp;omega,fun k' hk=>⟨h.1,hk⟩⟩
  ·exact⟨_,h.2,h.1.symm,fun k' hk=>⟨h.1,hk⟩⟩
def zcI (G:za) (H H':zb):Prop:= ∀b o n (k:List Value→Prop),zaw G H b o n k→zaw G H' b o n k
theorem zme {q:Bool} {P:Program} {T:Tys} {G:za} {H:zb} {e:TypeId} {x:Value} {K:Nat→List Value→Prop} (hs0:(T e).size≠0) (h:zft T G H e x K):
  ∃new,K (zZ x) new∧new.length=zZ x * (T e).size∧Builtin.lenOf x=pure (zZ x)∧
   ∀H',zcI G H H'→ ∀k:Array Value→zb→Prop,k new.toArray H'→runS q P G (Builtin.firstCells (T e).size (zZ x) x) H' k:=by
 unfold zft at h
 split at h
 ·rename_i a n c
  have zero:n * (T e).size=0∧K n []→(∀s:Nat,∀a',a=some a'→n * s=0→True)→ ∃new,K (zZ (.slice a n c)) new∧new.length=zZ (.slice a n c) * (T e).size∧Builtin.lenOf (.slice a n c)=pure (zZ (.slice a n c))∧
    ∀H',zcI G H H'→ ∀k:Array Value→zb→Prop,k new.toArray H'→runS q P G (Builtin.firstCells (T e).size (zZ (.slice a n c)) (.slice a n c)) H' k:=by
   rintro⟨h0,h⟩ _
   obtain rfl:n=0:=by
    rcases Nat.mul_eq_zero.1 h0 with h|h
    ·exact h
    ·exact absurd h hs0
   refine⟨[],h,by simp [zZ],rfl,fun H' _ k hk=>?_⟩
   cases a with
   |none=>exact hk
   |some a=>
    simp only[Builtin.firstCells,zZ,Nat.zero_mul]
    exact hk
  unfold rdSl at h
  split at h
  ·rename_i b o
   obtain⟨cs,h1,h2,h3⟩:=zfu h
   exact⟨cs,h1,h2,rfl,fun H' hr k hk=>zbF (hr _ _ _ _ (h3 _ hk))⟩
  ·exact zero h (fun _ _ _ _=>trivial)
 ·rename_i s
  obtain⟨hs,h⟩:=h
  have hl:s.data.toList.length=s.size:=by simp
  refine⟨_,by rw[hl] at h;exact h,by simp [zZ,hs],rfl,fun H' _ k hk=>?_⟩
  simp only[Builtin.firstCells,zZ,zg]
  have:(s.extract 0 s.size).data.map (fun b=>Value.int .u8 b.toNat)=(s.data.toList.map z7).toArray:=by
   apply Array.ext'
   simp only[ByteArray.data_extract,Array.toList_map,Array.toList_extract,List.extract_eq_take_drop,List.drop_zero,Nat.sub_zero]
   rw[List.take_of_length_le (by simp)]
   rfl
  rw[this];exact hk
 ·exact h.elim
theorem zcI.refl (G:za) (H:zb):zcI G H H:=fun _ _ _ _ h=>h
theorem zpV {G:za} {H:zb} {b:Nat} {xs sp xs' sp':List Value} {e:TypeId} (hf:zq H b=some (.cells xs sp e)) (he:xs++sp=xs'++sp'):zcI G H (zW H b (.cells xs' sp' e)):=by
 intro c o n k h
 unfold zaw Ob at *
 split at h
 ·exact h
 ·exact h
 ·have key: ∀H:zb,zq H b=some (.cells xs sp e)→zq (zW H b (.cells xs' sp' e)) c=if c=b then some (.cells xs' sp' e) else zq H c:=fun H hf=>by
   by_cases hcb:c=b
   ·subst hcb;rw[if_pos rfl];exact ze8 hf
   ·rw[if_neg hcb]
    clear h hf
    induction H with
    |nil=>rfl
    |cons p H ih=>
     obtain⟨q,r⟩:=p
     simp only[zW]
     split
     ·rename_i hq;subst hq;simp only[zq,if_neg (Ne.symm hcb)]
     ·simp only[zq];split
      ·rfl
      ·exact ih
  rw[key H hf]
  by_cases hcb:c=b
  ·subst hcb
   rw[if_pos rfl]
   rw[hf] at h
   have:=congrArg List.length he
   simp only[List.length_append] at this
   simp only[] at h⊢
   rw[←he,←this];exact h
  ·rw[if_neg hcb];exact h
theorem HeapOk.refind {G:za} {H:zb} {w:World} {b:Nat} {xs sp xs' sp':List Value} {e:TypeId} (h:HeapOk E G H w) (hf:zq H b=some (.cells xs sp e)) (he:xs++sp=xs'++sp'):
  HeapOk E G (zW H b (.cells xs' sp' e)) w:=by
 obtain⟨o,ho,fr,hfr,hl⟩:=h.find hf
 refine h.set (r':= .cells xs' sp' e) hf ho ⟨fr,by rw[hfr,he],?_⟩ (fun c _=>rfl) ⟨rfl,rfl⟩
 have:=congrArg List.length he
 simp only[List.length_append] at this
 rw[←this];exact hl
theorem zfY {H:zb} {b:Nat} {r r':Res} (h:zq H b=some r):(zW H b r').Perm ((b,r')::zY H b):=by
 induction H with
 |nil=>simp [zq] at h
 |cons p H ih=>
  obtain⟨k,s⟩:=p
  simp only[zq] at h
  simp only[zW,zY]
  split at h
  ·rename_i hk;subst hk;rw[if_pos rfl,if_pos rfl]
  ·rename_i hk
   rw[if_neg hk,if_neg hk]
   exact((ih h).cons _).trans (List.Perm.swap _ _ _)
theorem zeX (need old:Nat) (e:TypeId) (t:Nat):need≤(Question.appendCap need old e).cut t:=by simp [Question.cut]
section app
variable {q:Bool} {P:Program} {G:za} {e t u ty:TypeId} {i:TypeInfo} {z s x:Value} {n:Nat} {new:List Value}
theorem zi3 (hd:P.underlying t=some (.slice e)) (hu:(∃v,P.underlying u=some (.slice v))∨P.underlying u=some .string) (hi:P.info? e=some i)
  (hlen:Builtin.lenOf x=pure n) {H:zb} {k:Value→zb→Prop} {base:Option Addr} {sLen sCap:Nat} (hfit:sLen+n≤sCap)
  (hr:runS q P G (Builtin.firstCells i.size n x) H fun new H'=>runS q P G (match base with|some a=>storeCells (a.add (sLen * i.size)) new.toList|none=>pure ()) H' fun _ H''=>k (.slice base (sLen+n) sCap) H''):
  runS q P G (Builtin.append_ #[t,u] ty #[.slice base sLen sCap,x]) H k:=by
 rcases hu with ⟨v,hu⟩|hu <;> cases base <;>
  simp [Builtin.append_,ze,zh hd,zh hu,zae hi,zg,zdD,hlen,hfit] at hr⊢ <;> exact hr
theorem zfv (hd:P.underlying t=some (.slice e)) (hu:(∃v,P.underlying u=some (.slice v))∨P.underlying u=some .string) (hi:P.info? e=some i) (hz:i.zero=some z)
  (hlen:Builtin.lenOf x=pure n) {H:zb} {k:Value→zb→Prop} {base:Option Addr} {sLen sCap:Nat} (hfit:sCap<sLen+n) (h63:sLen+n≤9223372036854775807)
  (h48:Builtin.nextslicecap (sLen+n) sCap * i.bytes≤281474976710656)
  (hr: ∀c,sLen+n≤c→runS false P G (Builtin.firstCells i.size sLen (.slice base sLen sCap)) H fun old H'=>runS false P G (Builtin.firstCells i.size n x) H' fun new H''=>
   runS false P G (newRow e (old++new++Builtin.zeroCells z.cells (c - (sLen+n)))) H'' fun a H3=>k (.slice (some a) (sLen+n) c) H3):
  runS false P G (Builtin.append_ #[t,u] ty #[.slice base sLen sCap,x]) H k:=by
 have h1: ¬(sLen+n≤sCap):=by omega
 have hm:IntKind.i64.max=9223372036854775807:=by decide
 have h2: ¬((9223372036854775807 :Int) < (sLen:Int)+(n:Int)):=by omega
 have h3: ¬(281474976710656<Builtin.nextslicecap (sLen+n) sCap * i.bytes):=by omega
 rcases hu with ⟨v,hu⟩|hu <;>
  simp [Builtin.append_,ze,zh hd,zh hu,zae hi,zdr hi,zaT hi hz,zg,hlen,h1,h2,h3,hm,choose,runS,Question.forced,askRoom,mark] <;>
  (intro tt;have:=hr _ (zeX (sLen+n) sCap e tt);split <;> simpa [runS,zg,zdD,List.append_assoc] using this)
end app
theorem zds {T:Tys} {e:TypeId} {z:Value} (h:z.cells.toList=(T e).zero) (n:Nat) (hs:(T e).zero.length≠0):(Builtin.zeroCells z.cells n).toList=rep n (T e).zero:=by
 unfold Builtin.zeroCells
 rw[zkZ z.cells n (.inr (by rw[←Array.length_toList,h];omega)),h]
theorem zrv {G:za} {H:zb} {b:Nat} {r:Res} (hs:Sep G (zk H)) (hf:zq H b=some r):Sep G (b::zk (zY H b)):=by
 have hp:(b::zk (zY H b)).Perm (zk H):=by
  have h1:=(zfY (r':=r) hf).map (·.1)
  have h2:(zW H b r).map (·.1)=zk H:=zhT H b r
  rw[h2] at h1
  exact h1.symm
 rw[zaO] at hs⊢
 exact⟨fun c hc=>hs.1 c (hp.mem_iff.1 hc),hp.nodup_iff.2 hs.2⟩
theorem zmM {P:Program} {G:za} {e t u ty:TypeId} {i:TypeInfo} {z:Value} {kd:IntKind} (hd:P.underlying t=some (.slice e)) (hu:P.underlying u=some (.int kd)) (hi:P.info? e=some i) (hz:i.zero=some z)
  {H:zb} {k:Value→zb→Prop} {base:Option Addr} {sCap n:Nat} (hn:n * i.size≠0) (hfit:sCap<n) (h63:(n:Int)≤9223372036854775807) (hby:n * i.bytes≤281474976710656)
  (h48:Builtin.nextslicecap n sCap * i.bytes≤281474976710656)
  (hr: ∀c,n≤c→runS false P G (newRow e (Builtin.zeroCells z.cells n++Builtin.zeroCells z.cells (c - n))) H fun a H3=>k (.slice (some a) n c) H3):
  runS false P G (Builtin.append_ #[t,u] ty #[.slice base 0 sCap, .int .i64 n]) H k:=by
 have h1: ¬(n≤sCap):=by omega
 have hm:IntKind.i64.max=9223372036854775807:=by decide
 have h2: ¬((9223372036854775807 :Int) < (n:Int)):=by omega
 have h3: ¬(281474976710656<Builtin.nextslicecap n sCap * i.bytes):=by omega
 have h4: ¬((281474976710656 :Int) < (n:Int) * (i.bytes:Int)):=by
  rw[←Int.natCast_mul];omega
 have hw:IntKind.i64.wrap (n:Int)=n:=by unfold IntKind.wrap;simp [IntKind.bits,IntKind.signed];omega
 have h5: ¬((n:Int) <0):=by omega
 cases base <;>
 simp [Builtin.append_,Builtin.firstCells,asInt,asIntOf,hw,h4,h5,hn,ze,zh hd,zh hu,zae hi,zdr hi,zaT hi hz,zg,h1,h2,h3,hm,choose,runS,Question.forced,askRoom,mark] <;>
  (intro tt;have:=hr _ (zeX n sCap e tt);split <;> simpa [runS,ze,zg,zdD,zaT hi hz,loadCells,loadCellsFrom,List.append_assoc] using this)
theorem zk1 {P:Program} {T:Tys} (hT:zM P T) {G:za} {H:zb} {t u ty:TypeId} {s x:Value} {kk:Value→zb→Prop}
  (h:zgU T G H t u s x kk):zO P G (Builtin.append_ #[t,u] ty #[s,x]) H kk:=by
 unfold zgU at h
 have key: ∀e,(T t).k= .slice e→((∃v,P.underlying u=some (.slice v))∨P.underlying u=some .string)→((T e).k≠ .none∧(T e).zero.length=(T e).size∧(T e).size≠0)→(zft T G H e x fun n new=>zmt T G H e s kk n new)→
   zO P G (Builtin.append_ #[t,u] ty #[s,x]) H kk:=by
  clear h
  intro e hf hu ⟨hk,hzl,hs0⟩ h
  obtain⟨d,hd,hfit⟩:=hT.und hf (by simp)
  simp only[TK.fits] at hfit
  subst hfit
  obtain⟨i,z,hi,hs,hby,hz,hzc⟩:=hT.info hk
  have hz0:(T e).zero.length≠0:=by rw[hzl];exact hs0
  obtain⟨new,h2,hnl,hlen,hread⟩:=zme (q:=false) (P:=P) hs0 h
  clear h
  have h:=h2
  clear h2
  rw[←hs] at hread
  unfold zmt at h
  split at h
  ·rename_i a len cap
   rcases h with ⟨rfl,rfl,h⟩| ⟨b,rfl,h|h⟩
   · -- a slice without room
    unfold zgF at h
    by_cases hn:zZ x=0
    ·replace h:=h.1 (by simp [hn])
     refine zO.of (zi3 hd hu hi hlen (by omega) ?_)
     refine hread H (zcI.refl _ _) _ ?_
     have hnew:new=[]:=List.eq_nil_of_length_eq_zero (by rw[hnl,hn,Nat.zero_mul])
     subst hnew
     cases a with
     |none=>simp only[zg,hn];exact h
     |some a=>
      simp only[hn]
      exact h
    ·obtain⟨⟨hb,h63⟩,h⟩:=h.2 (by simp [hn])
     refine zO.weak (k:=fun v H'=> ∃b c,zZ x≤c∧Sep G (b::zk H)∧v= .slice (some ⟨b,0,none⟩) (zZ x) c∧H'=(b, .cells (new++rep (c - zZ x) (T e).zero) [] e)::H) (zO.of ?_) ?_
     ·have hg:=growslice_fits (need:=zZ x) (old:=0) (bytes:=i.bytes) (by omega) (by rw[hby];exact hb)
      refine zfv hd hu hi hz hlen (by omega) (by omega) (by simpa using hg) fun c hc=>?_
      have rest:runS false P G (Builtin.firstCells i.size (zZ x) x) H fun new' H''=>runS false P G (newRow e (#[]++new'++Builtin.zeroCells z.cells (c - (0+zZ x)))) H'' fun a' H3=>
        ∃b c',zZ x≤c'∧Sep G (b::zk H)∧(Value.slice (some a') (0+zZ x) c)= .slice (some ⟨b,0,none⟩) (zZ x) c'∧H3=(b, .cells (new++rep (c' - zZ x) (T e).zero) [] e)::H:=by
       refine hread H (zcI.refl _ _) _ ?_
       simp only[newRow,newObj,ze,runS,zg]
       refine⟨by trivial,by simp [zbc],fun b hb=>⟨b,c,by omega,hb,by simp,?_⟩⟩
       simp only[zdT,if_true]
       congr 2
       simp [zds hzc _ hz0]
      cases a with
      |none=>simp only[Builtin.firstCells,zg];exact rest
      |some a=>
       simp only[Builtin.firstCells,Nat.zero_mul]
       exact rest
     ·rintro v H' ⟨b,c,hc,hsep,rfl,rfl⟩
      refine⟨_,fun E w hw=>hw.resplit (xs':=new) (sp':=rep (c - zZ x) (T e).zero) (by simp),h b _ c hsep ?_⟩
      rw[ze9,hzl,←Nat.add_mul];congr 1;omega
   ·generalize hfb:zq H b=fb at h
    unfold zhX at h
    split at h
    ·rename_i xs sp e'
     obtain⟨rfl,⟨hxl,hcl,hb,h63,hone⟩,h⟩:=h
     by_cases hfits:len+zZ x≤cap
     · -- there is room
      have hr1:zcI G H (zW H b (.cells (xs++sp) [] e')):=zpV hfb (by simp)
      have hfb1:zq (zW H b (.cells (xs++sp) [] e')) b=some (.cells (xs++sp) [] e'):=ze8 hfb
      have hnsp:new.length≤sp.length:=by
       have:(len+zZ x) * (T e').size≤cap * (T e').size:=Nat.mul_le_mul_right _ hfits
       rw[Nat.add_mul] at this;omega
      intro E w hw
      have hw1:=hw.refind (xs':=xs++sp) (sp':=[]) hfb (by simp)
      have hrun:runS false P G (Builtin.append_ #[t,u] ty #[.slice (some ⟨b,0,none⟩) len cap,x]) (zW H b (.cells (xs++sp) [] e'))
        (fun v H'=>v= .slice (some ⟨b,0,none⟩) (len+zZ x) cap∧H'=zW H b (.cells (xs++new++sp.drop new.length) [] e')):=by
       refine zi3 hd hu hi hlen hfits ?_
       refine hread _ hr1 _ ?_
       simp only[zbH,Nat.zero_add]
       refine zbU _ 0 ?_
       unfold zda Ob
       simp only[Nat.add_zero,hfb1,zlx]
       refine⟨⟨by simp;rw[hs];omega,hone⟩,trivial,?_⟩
       congr 2
       unfold zi
       rw[hs,←hxl,List.take_left',List.drop_append]
       ·simp
       ·rfl
      obtain⟨v,w',H',e1,e2,rfl,rfl⟩:=zj3 _ hw1 hrun
      refine⟨_,w',_,e1,?_,h b (sp.drop new.length) cap (zrv hw.sep hfb) ?_⟩
      ·have hp:=e2.perm (zfY (r':= .cells (xs++new++sp.drop new.length) [] e') hfb)
       exact hp.resplit (by simp)
      ·rw[List.length_drop,Nat.add_mul,←hnl];omega
     · -- it grows
      intro E w hw
      have hg0:=hw.none hfb
      refine zO.weak (k:=fun v H'=> ∃b' c,len+zZ x≤c∧Sep G (b'::zk H)∧v= .slice (some ⟨b',0,none⟩) (len+zZ x) c∧H'=(b', .cells (xs++new++rep (c - (len+zZ x)) (T e').zero) [] e')::H) (zO.of ?_) ?_ w hw
      ·have hg:=growslice_fits (need:=len+zZ x) (old:=cap) (bytes:=i.bytes) (by omega) (by rw[hby];exact hb)
       refine zfv hd hu hi hz hlen (by omega) h63 hg fun c hc=>?_
       simp only[Builtin.firstCells]
       refine zbF ?_
       unfold zaw Ob
       simp only[hg0,hfb]
       refine⟨by rw[hs];omega,?_⟩
       have ht:List.take (len * i.size) (List.drop 0 (xs++sp))=xs:=by
        rw[List.drop_zero,hs,←hxl,List.take_left']
        rfl
       rw[ht]
       refine hread H (zcI.refl _ _) _ ?_
       simp only[newRow,newObj,ze,runS,zg]
       refine⟨by trivial,by simp [zbc],fun b' hb'=>⟨b',c,hc,hb',rfl,?_⟩⟩
       simp only[zdT,if_true]
       congr 2
       simp [zds hzc _ hz0]
      ·rintro v H' ⟨b',c,hc,hsep,rfl,rfl⟩
       refine⟨(b', .cells (xs++new) (rep (c - (len+zZ x)) (T e').zero) e')::zY H b,fun E w hw=>?_,h b' _ c ?_ ?_⟩
       ·exact(hw.resplit (xs':=xs++new) (sp':=rep (c - (len+zZ x)) (T e').zero) (by simp)).sub ((zfa H b).cons_cons _)
       ·rw[zaO] at hsep⊢
        have hsub:(b'::zk (zY H b)).Sublist (b'::zk H):=((zfa H b).map _).cons_cons _
        exact⟨fun c hc=>hsep.1 c (hsub.subset hc),hsep.2.sublist hsub⟩
       ·rw[ze9,hzl,←Nat.add_mul];congr 1;omega
    ·exact h.elim
   ·generalize hfb:zq H b=fb at h
    unfold zgT at h
    split at h
    ·rename_i xs sp e'
     obtain⟨rfl,⟨hxl,hfits,hb,h63⟩,h⟩:=h
     intro E w hw
     have hg0:=hw.none hfb
     refine zO.weak (k:=fun v H'=> ∃b' c,len+zZ x≤c∧Sep G (b'::zk H)∧v= .slice (some ⟨b',0,none⟩) (len+zZ x) c∧H'=(b', .cells (xs++new++rep (c - (len+zZ x)) (T e').zero) [] e')::H) (zO.of ?_) ?_ w hw
     ·have hg:=growslice_fits (need:=len+zZ x) (old:=cap) (bytes:=i.bytes) (by omega) (by rw[hby];exact hb)
      refine zfv hd hu hi hz hlen (by omega) h63 hg fun c hc=>?_
      simp only[Builtin.firstCells]
      refine zbF ?_
      unfold zaw Ob
      simp only[hg0,hfb]
      refine⟨by rw[hs];omega,?_⟩
      have ht:List.take (len * i.size) (List.drop 0 (xs++sp))=xs:=by
       rw[List.drop_zero,hs,←hxl,List.take_left']
       rfl
      rw[ht]
      refine hread H (zcI.refl _ _) _ ?_
      simp only[newRow,newObj,ze,runS,zg]
      refine⟨by trivial,by simp [zbc],fun b' hb'=>⟨b',c,hc,hb',rfl,?_⟩⟩
      simp only[zdT,if_true]
      congr 2
      simp [zds hzc _ hz0]
     ·rintro v H' ⟨b',c,hc,hsep,rfl,rfl⟩
      refine⟨(b', .cells (xs++new) (rep (c - (len+zZ x)) (T e').zero) e')::zY H b,fun E w hw=>?_,h b' _ c ?_ ?_⟩
      ·exact(hw.resplit (xs':=xs++new) (sp':=rep (c - (len+zZ x)) (T e').zero) (by simp)).sub ((zfa H b).cons_cons _)
      ·rw[zaO] at hsep⊢
       have hsub:(b'::zk (zY H b)).Sublist (b'::zk H):=((zfa H b).map _).cons_cons _
       exact⟨fun c hc=>hsep.1 c (hsub.subset hc),hsep.2.sublist hsub⟩
      ·rw[ze9,hzl,←Nat.add_mul];congr 1;omega
    ·exact h.elim
  ·exact h.elim
 split at h
 ·rename_i e v hf hu
  obtain⟨d,hd,hfit⟩:=hT.und hu (by simp)
  simp only[TK.fits] at hfit
  subst hfit
  exact key e hf (.inl ⟨v,hd⟩) h.1 h.2
 ·rename_i e hf hu
  obtain⟨d,hd,hfit⟩:=hT.und hu (by simp)
  simp only[TK.fits] at hfit
  subst hfit
  exact key e hf (.inr hd) h.1 h.2
 ·rename_i e kd hf hu
  obtain⟨d2,hd2,hfit2⟩:=hT.und hu (by simp)
  simp only[TK.fits] at hfit2
  subst hfit2
  obtain⟨⟨hk,hzl,hs0⟩,h⟩:=h
  obtain⟨d,hd,hfit⟩:=hT.und hf (by simp)
  simp only[TK.fits] at hfit
  subst hfit
  obtain⟨i,z,hi,hs,hby,hz,hzc⟩:=hT.info hk
  have hz0:(T e).zero.length≠0:=by rw[hzl];exact hs0
  unfold zjk at h
  split at h
  ·rename_i a len cap n
   obtain⟨⟨rfl,hcn,hb,h63⟩,h⟩:=h
   obtain⟨m,rfl⟩: ∃m:Nat,n=m:=⟨n.toNat,by omega⟩
   simp only[Int.toNat_natCast] at hb h
   refine zO.weak (k:=fun v H'=> ∃b c,m≤c∧Sep G (b::zk H)∧v= .slice (some ⟨b,0,none⟩) m c∧H'=(b, .cells (rep m (T e).zero++rep (c - m) (T e).zero) [] e)::H) (zO.of ?_) ?_
   ·have hg:=growslice_fits (need:=m) (old:=cap) (bytes:=i.bytes) (by omega) (by rw[hby];exact hb)
    refine zmM hd hd2 hi hz (Nat.mul_ne_zero (by omega) (by rw[hs];exact hs0)) (by omega) h63 (by rw[hby];omega) hg fun c hc=>?_
    simp only[newRow,newObj,ze,runS,zg]
    refine⟨by trivial,by simp [zbc],fun b hb=>⟨b,c,hc,hb,rfl,?_⟩⟩
    simp only[zdT,if_true]
    congr 2
    simp [zds hzc _ hz0]
   ·rintro v H' ⟨b,c,hc,hsep,rfl,rfl⟩
    refine⟨_,fun E w hw=>hw.resplit (xs':=rep m (T e).zero) (sp':=rep (c - m) (T e).zero) (by simp),h b _ c hsep ?_⟩
    rw[ze9,hzl,←Nat.add_mul];congr 1;omega
  ·exact h.elim
 ·exact h.elim
end Go.V
namespace Go.V
def zmu (T:Tys) (t:TypeId) (x:Value) (k:Value→Prop) (_:Tok k:= .mk):Prop:=
 match x with
 | .string s=>(T t).k= .string∧k (.int .i64 s.data.toList.length)
 | .slice _ n _=>match (T t).k with
  | .slice _=>k (.int .i64 n)
  |_=>False
 | .map none=>match (T t).k with
  | .map .. =>k (.int .i64 0)
  |_=>False
 |_=>match (T t).k with
  | .arr n _=>k (.int .i64 n)
  |_=>False
def zmv (T:Tys) (t:TypeId) (x:Value) (k:Value→Prop) (_:Tok k:= .mk):Prop:=
 match x with
 | .slice _ _ c=>match (T t).k with
  | .slice _=>k (.int .i64 c)
  |_=>False
 |_=>False
theorem zn9 {q:Bool} {P:Program} {T:Tys} (hT:zM P T) {G:za} {H:zb} {t ty:TypeId} {x:Value} {kk:Value→zb→Prop}
  (h:zmv T t x fun v=>kk v H):runS q P G (Builtin.cap_ #[t] ty #[x]) H kk:=by
 unfold zmv at h
 split at h
 ·split at h
  ·rename_i n c e hf
   obtain⟨d,hd,hfit⟩:=hT.und hf (by simp)
   simp only[TK.fits] at hfit
   subst hfit
   simp [Builtin.cap_,ze,zh hd,zg,goInt]
   exact h
  ·exact h.elim
 ·exact h.elim
theorem zi4 {q:Bool} {P:Program} {T:Tys} (hT:zM P T) {G:za} {H:zb} {t ty:TypeId} {x:Value} {kk:Value→zb→Prop}
  (h:zmu T t x fun v=>kk v H):runS q P G (Builtin.len_ #[t] ty #[x]) H kk:=by
 unfold zmu at h
 split at h
 ·rename_i s
  obtain⟨hk,h⟩:=h
  obtain⟨d,hd,hfit⟩:=hT.und hk (by simp)
  simp only[TK.fits] at hfit
  subst hfit
  simp [Builtin.len_,ze,zh hd,zg,goInt]
  simpa using h
 ·split at h
  ·rename_i n c e hf
   obtain⟨d,hd,hfit⟩:=hT.und hf (by simp)
   simp only[TK.fits] at hfit
   subst hfit
   simp [Builtin.len_,ze,zh hd,zg,goInt]
   exact h
  ·exact h.elim
 ·split at h
  ·rename_i a b hf
   obtain⟨d,hd,hfit⟩:=hT.und hf (by simp)
   simp only[TK.fits] at hfit
   subst hfit
   simp [Builtin.len_,ze,zh hd,zg,goInt]
   exact h
  ·exact h.elim
 ·split at h
  ·rename_i n e hf
   obtain⟨d,hd,hfit⟩:=hT.und hf (by simp)
   simp only[TK.fits] at hfit
   subst hfit
   simp [Builtin.len_,ze,zh hd,zg,goInt]
   exact h
  ·exact h.elim
def zyJ (a b:Int):Int:=if b<a then b else a
def zyK (a b:Int):Int:=if a<b then b else a
def zmw (vs:List Value) (k:Value→Prop) (_:Tok k:= .mk):Prop:=
 match vs with
 | [.int a m, .int b n]=>k (.int a (zyJ m n))
 |_=>False
def zmx (vs:List Value) (k:Value→Prop) (_:Tok k:= .mk):Prop:=
 match vs with
 | [.int a m, .int b n]=>k (.int a (zyK m n))
 |_=>False
theorem zi5 {q:Bool} {P:Program} {G:za} {H:zb} {ts:Array TypeId} {ty:TypeId} {vs:List Value} {kk:Value→zb→Prop} (h:zmw vs fun v=>kk v H):
  runS q P G (Builtin.min_ ts ty vs.toArray) H kk:=by
 unfold zmw at h
 split at h
 ·simp [Builtin.min_,Builtin.min2,zg];exact h
 ·exact h.elim
theorem zi6 {q:Bool} {P:Program} {G:za} {H:zb} {ts:Array TypeId} {ty:TypeId} {vs:List Value} {kk:Value→zb→Prop} (h:zmx vs fun v=>kk v H):
  runS q P G (Builtin.max_ ts ty vs.toArray) H kk:=by
 unfold zmx at h
 split at h
 ·simp [Builtin.max_,Builtin.max2,zg];exact h
 ·exact h.elim
def zcJ (cs:List Value) (k:List UInt8→Prop) (_:Tok k:= .mk):Prop:= ∃bs:List UInt8,cs=bs.map z7∧k bs
theorem zgj (bs:List UInt8) (k:List UInt8→Prop):zcJ (bs.map z7) k=k bs:=by
 apply propext
 constructor
 ·rintro⟨cs,h,hk⟩
  have:bs=cs:=by
   have hinj: ∀a b:UInt8,z7 a=z7 b→a=b:=fun a b h=>by
    simp only[z7,Value.int.injEq,true_and] at h
    exact UInt8.toNat_inj.1 (by omega)
   exact(List.map_inj_right fun{a b} h=>hinj a b h).1 h
  subst this;exact hk
 ·intro h;exact⟨bs,rfl,h⟩
theorem zoa (k:List UInt8→Prop):zcJ [] k=k []:=zgj [] k
def zpW (r:Option Res) (k:Unit→Prop) (_:Tok k:= .mk):Prop:=match r with
 |some (.cells _ _ e)=>e=5∧k ()
 |_=>False
theorem zob {xs sp:List Value} {e:TypeId} {k:Unit→Prop}:zpW (some (.cells xs sp e)) k=(e=5∧k ()):=rfl
def zhY (T:Tys) (G:za) (H:zb) (src dst:TypeId) (x:Value) (k:Value→zb→Prop) (_:Tok k:= .mk):Prop:=
 match x with
 | .int _ n=>match (T src).k,(T dst).k with
  | .int _, .int a=>k (.int a (a.wrap n)) H
  |_,_=>False
 | .string s=>match (T src).k,(T dst).k with
  | .string, .string=>k (.string s) H
  | .string, .slice e=>e=5∧(T e).k= .int .u8∧(T e).size=1∧zbI G (zk H) s.data.toList.length 1 fun b sp cap=>k (.slice (some ⟨b,0,none⟩) s.data.toList.length cap) ((b, .cells (s.data.toList.map z7) sp e)::H)
  |_,_=>False
 | .slice a n _=>match (T src).k,(T dst).k with
  | .slice e, .string=>(T e).k= .int .u8∧rdSl G H a n fun cs=>zcJ cs fun bs=>k (.string ⟨bs.toArray⟩) H
  | .slice _, .slice e=>src=dst∧(T e).k= .int .u8∧Ob (Adr a∧G (blk a)=none) (zpW (zq H (blk a)) fun _=>k x H)
  |_,_=>False
 |_=>False
theorem zrw {q:Bool} {P:Program} {G:za} (bad:Value→ByteArray→Sem (ForInStep ByteArray)) (bs:List UInt8): ∀ (acc:ByteArray) (H:zb) (k:ByteArray→zb→Prop),k ⟨acc.data++bs.toArray⟩ H→
  runS q P G (forIn (bs.map z7) acc fun c r=>(match c with| .int .u8 n=>pure (ForInStep.yield (r.push (UInt8.ofNat n.toNat)))|c=>bad c r:Sem (ForInStep ByteArray))) H k:=by
 induction bs with
 |nil=>intro acc H k h;simpa [zg] using h
 |cons c bs ih=>
  intro acc H k h
  simp only[List.map_cons,List.forIn_cons,z7,ze,zg]
  refine ih _ H k ?_
  have:(⟨(acc.push (UInt8.ofNat ((c.toNat:Int)).toNat)).data++bs.toArray⟩:ByteArray)=⟨acc.data++(c::bs).toArray⟩:=by
   congr 1
   apply Array.ext'
   simp
  rw[this];exact h
theorem zmN {P:Program} {T:Tys} (hT:zM P T) {G:za} {H:zb} {src dst:TypeId} {x:Value} {kk:Value→zb→Prop}
  (h:zhY T G H src dst x kk):zO P G (convert src dst x) H kk:=by
 unfold zhY at h
 split at h
 ·split at h
  ·rename_i a n j b hs hd
   obtain⟨d1,hd1,hf1⟩:=hT.und hs (by simp)
   obtain⟨d2,hd2,hf2⟩:=hT.und hd (by simp)
   simp only[TK.fits] at hf1 hf2
   subst hf1;subst hf2
   refine zO.of ?_
   simp only[convert,ze,zh hd1,zh hd2,Conv.intToInt,zg]
   exact h
  ·exact h.elim
 ·rename_i s
  split at h
  ·rename_i hs hd
   obtain⟨d1,hd1,hf1⟩:=hT.und hs (by simp)
   obtain⟨d2,hd2,hf2⟩:=hT.und hd (by simp)
   simp only[TK.fits] at hf1 hf2
   subst hf1;subst hf2
   refine zO.of ?_
   simp only[convert,ze,zh hd1,zh hd2,zg]
   exact h
  ·rename_i e hs hd
   obtain⟨he5,he,hsz,h⟩:=h
   obtain⟨d1,hd1,hf1⟩:=hT.und hs (by simp)
   obtain⟨d2,hd2,hf2⟩:=hT.und hd (by simp)
   obtain⟨d3,hd3,hf3⟩:=hT.und he (by simp)
   simp only[TK.fits] at hf1 hf2 hf3
   subst hf1;subst hf2;subst hf3
   have hl:s.data.toList.length=s.size:=by simp
   refine zO.weak (k:=fun v H'=> ∃b c,s.size≤c∧Sep G (b::zk H)∧v= .slice (some ⟨b,0,none⟩) s.size c∧H'=(b, .cells (s.data.toList.map z7++List.replicate (c - s.size) (.int .u8 0)) [] e)::H) (zO.of ?_) ?_
   ·simp only[convert,ze,zh hd1,zh hd2,zh hd3,Conv.stringToBytes,choose,runS,Question.forced,Bool.false_eq_true,if_false]
    refine⟨trivial,fun tt=>?_⟩
    have hc:=zeX s.size 0 e tt
    simp only[newRow,newObj,ze,runS,zg]
    refine⟨by trivial,by simp [zbc],fun b hb=>?_⟩
    have hb0:G b=none:=hb.1.1
    simp only[markStringish,shape,freeze,ze,runS,hb0,zdT,if_true,zq,zg]
    refine⟨trivial,⟨by simp,he5⟩,trivial,b,_,hc,hb,rfl,?_⟩
    congr 2
    simp
    exact fun _ _=>rfl
   ·rintro v H' ⟨b,c,hc,hsep,rfl,rfl⟩
    refine⟨_,fun E w hw=>hw.resplit (xs':=s.data.toList.map z7) (sp':=List.replicate (c - s.size) (.int .u8 0)) (by simp),?_⟩
    rw[hl] at h
    refine h b _ c hsep ?_
    simp;omega
  ·exact h.elim
 ·rename_i a n c
  split at h
  ·rename_i e hs hd
   obtain⟨he,h⟩:=h
   obtain⟨d1,hd1,hf1⟩:=hT.und hs (by simp)
   obtain⟨d2,hd2,hf2⟩:=hT.und hd (by simp)
   obtain⟨d3,hd3,hf3⟩:=hT.und he (by simp)
   simp only[TK.fits] at hf1 hf2 hf3
   subst hf1;subst hf2;subst hf3
   refine zO.of ?_
   simp only[convert,ze,zh hd1,zh hd2,zh hd3]
   unfold rdSl at h
   split at h
   ·rename_i b o
    simp only[Conv.bytesToString,ze]
    refine zbF ?_
    obtain⟨cs,⟨bs,rfl,hk⟩,_,hrd⟩:=zfu h
    refine hrd _ ?_
    have hq:=fun bad=>zrw (q:=false) (P:=P) (G:=G) bad bs ByteArray.empty H (fun r H'=>kk (.string r) H') (by simpa using hk)
    rw[←Array.forIn_toList]
    exact hq _
   ·obtain⟨rfl,bs,hbs,hk⟩:=h
    obtain rfl:bs=[]:=by simpa using hbs.symm
    cases a with
    |none=>exact hk
    |some a=>exact hk
  ·rename_i e0 e hs hd
   obtain⟨rfl,he,h⟩:=h
   obtain⟨d1,hd1,hf1⟩:=hT.und hs (by simp)
   obtain⟨d3,hd3,hf3⟩:=hT.und he (by simp)
   rw[hs] at hd
   cases hd
   simp only[TK.fits] at hf1 hf3
   subst hf1;subst hf3
   unfold Ob at h
   obtain⟨⟨had,hg⟩,h⟩:=h
   unfold zpW at h
   split at h
   ·rename_i xs sp e' hf
    cases a with
    |none=>cases had
    |some a=>
     refine zO.of ?_
     simp only[convert,ze,zh hd1,zh hd3,beq_self_eq_true,markStringish,shape,freeze,runS]
     simp only[blk] at hg hf
     simp only[hg,hf,ze,runS,zg]
     exact⟨trivial,⟨Nat.le_refl _,h.1⟩,trivial,h.2⟩
   ·exact h.elim
  ·exact h.elim
 ·exact h.elim
def zdt (place:Nat→Option (Nat×Nat)) (cells:List Value):List (Nat×Value)→Option (List Value)
 | []=>some cells
 | (i,v)::rest=>
  match place i with
  |none=>none
  |some (off,size)=>if (zck v).length=size∧off+size≤cells.length then zdt place (zi cells off (zck v)) rest else none
theorem zmO (vs:List Value): ∀ (cells:Array Value) (off j:Nat),off+j+vs.length≤cells.size→
  ((vs.zipIdx j).foldl (fun cs (p:Value×Nat)=>cs.setIfInBounds (off+p.2) p.1) cells).toList=zi cells.toList (off+j) vs:=by
 induction vs with
 |nil=>intro cells off j _;simp [zi]
 |cons v vs ih=>
  intro cells off j h
  simp only[List.length_cons] at h
  simp only[List.zipIdx_cons,List.foldl_cons]
  rw[ih (cells.setIfInBounds (off+j) v) off (j+1) (by simp;omega)]
  rw[Array.toList_setIfInBounds,←Nat.add_assoc,zgi (by simp;omega)]
theorem zk2 (place:Nat→Option (Nat×Nat)): ∀ (parts:List (Nat×Value)) (cells:Array Value) (r:List Value),zdt place cells.toList parts=some r→Instr.fill place cells parts=some r.toArray:=by
 intro parts
 induction parts with
 |nil=>intro cells r h;simp only[zdt,Option.some.injEq] at h;subst h;simp [Instr.fill]
 |cons p parts ih=>
  obtain⟨i,v⟩:=p
  intro cells r h
  simp only[zdt] at h
  unfold Instr.fill
  split at h
  ·cases h
  ·rename_i off size hp
   split at h
   ·rename_i hc
    have hl:v.cells.size=size:=by rw[←hc.1,←zeL];simp
    have h2:off+v.cells.size≤cells.size:=by have:=hc.2;simp at this;omega
    have h4:(decide (v.cells.size≠size)||decide (off+v.cells.size > cells.size))=false:=by simp;omega
    simp only[hp]
    rw[if_neg (by rw[h4];simp)]
    refine ih _ r ?_
    have:(Array.foldl (fun cs (x:Value×Nat)=>cs.setIfInBounds (off+x.2) x.1) cells v.cells.zipIdx).toList=zi cells.toList off (zck v):=by
     rw[←Array.foldl_toList,Array.toList_zipIdx,zeL]
     have:=zmO (zck v) cells off 0 (by rw[hc.1];simpa using hc.2)
     simpa using this
    rw[←h,←this]
   ·cases h
def zgV (o:Option (List Value)) (k:List Value→Prop) (_:Tok k:= .mk):Prop:=match o with|some v=>k v|none=>False
theorem zpX (v:List Value) (k:List Value→Prop):zgV (some v) k=k v:=rfl
def zgW (T:Tys) (fs:List (Nat×Nat)) (i:Nat):Option (Nat×Nat):=(fs[i]?).map fun f=>(f.1,(T f.2).size)
def zfl (T:Tys) (t:TypeId) (parts:List (Nat×Value)) (k:Value→Prop) (_:Tok k:= .mk):Prop:=
 match (T t).k with
 | .struct fs=>(fs.all fun f=>match (T f.2).k with| .none=>false|_=>true)=true∧zgV (zdt (zgW T fs) (T t).zero parts) fun cs=>k (.agg cs.toArray)
 | .arr _ e=>(T e).k≠ .none∧zgV (zdt (fun i=>some (i * (T e).size,(T e).size)) (T t).zero parts) fun cs=>k (.agg cs.toArray)
 |_=>False
theorem zfZ {q:Bool} {P:Program} {T:Tys} (hT:zM P T) {G:za} {H:zb}: ∀ (fs:List Field) (k:List (Nat×Nat)→zb→Prop),
  (fs.all fun f=>match (T f.type).k with| .none=>false|_=>true)=true→k (fs.map fun f=>(f.offset,(T f.type).size)) H→
  runS q P G (fs.mapM fun f=>do pure (f.offset,←sizeOf f.type)) H k
 | [],k,_,h=>by simpa [zg] using h
 |f::fs,k,hall,h=>by
  simp only[List.all_cons,Bool.and_eq_true] at hall
  have hk:(T f.type).k≠ .none:=by intro e;rw[e] at hall;exact absurd hall.1 (by simp)
  obtain⟨i,z,hi,hs,_⟩:=hT.info hk
  simp only[List.mapM_cons,ze,zae hi,zg,hs]
  refine zfZ hT fs _ hall.2 ?_
  exact h
theorem zhP {q:Bool} {P:Program} {T:Tys} (hT:zM P T) {G:za} {H:zb} {t:TypeId} {parts:Array (Nat×Value)} {kk:Value→zb→Prop}
  (h:zfl T t parts.toList fun v=>kk v H):runS q P G (Instr.build t parts) H kk:=by
 unfold zfl at h
 split at h
 ·rename_i fs hf
  obtain⟨hall,h⟩:=h
  obtain⟨d,hd,hfit⟩:=hT.und hf (by simp)
  obtain⟨fa,rfl,rfl⟩:=hfit
  have hk:(T t).k≠ .none:=by rw[hf];simp
  obtain⟨i,z,hi,hs,_,hz,hzc⟩:=hT.info hk
  simp only[Instr.build,ze,zaT hi hz,zh hd]
  rw[Array.mapM_eq_mapM_toList,zdD]
  refine zfZ hT fa.toList _ (by simpa [List.all_map] using hall) ?_
  unfold zgV at h
  split at h
  ·rename_i r hr
   rw[←hzc] at hr
   have hfe:=zk2 _ parts.toList z.cells r hr
   have hp:(fun x=>((List.map (fun f:Field=>(f.offset,(T f.type).size)) fa.toList).toArray)[x]?)=zgW T (List.map (fun x:Field=>(x.offset,x.type)) fa.toList):=by
    funext x
    simp [zgW]
    cases fa[x]? <;> simp
   rw[←hp] at hfe
   simp only[hfe,zg]
   exact h
  ·exact h.elim
 ·rename_i n e hf
  obtain⟨hk2,h⟩:=h
  obtain⟨d,hd,hfit⟩:=hT.und hf (by simp)
  simp only[TK.fits] at hfit
  subst hfit
  have hk:(T t).k≠ .none:=by rw[hf];simp
  obtain⟨i,z,hi,hs,_,hz,hzc⟩:=hT.info hk
  obtain⟨i2,z2,hi2,hs2,_⟩:=hT.info hk2
  simp only[Instr.build,ze,zaT hi hz,zh hd,zae hi2,hs2]
  unfold zgV at h
  split at h
  ·rename_i r hr
   rw[←hzc] at hr
   have hfe:=zk2 _ parts.toList z.cells r hr
   simp only[hfe,zg]
   exact h
  ·exact h.elim
 ·exact h.elim
def zcS (T:Tys) (t:TypeId) (len:Nat) (parts:List (Nat×Value)) (k:TypeId→List Value→Prop) (_:Tok k:= .mk):Prop:=
 match (T t).k with
 | .slice e=>((T e).k≠ .none∧(T e).zero.length=(T e).size∧(T e).size≠0∧len * (T e).size≤16777216)∧
   zgV (zdt (fun i=>some (i * (T e).size,(T e).size)) (rep len (T e).zero) parts) fun cs=>k e cs
 |_=>False
theorem zhZ {P:Program} {T:Tys} (hT:zM P T) {G:za} {H:zb} {t:TypeId} {len:Nat} {parts:Array (Nat×Value)} {kk:Value→zb→Prop}
  (h:zcS T t len parts.toList fun e cs=>zcR G (zk H) fun b=>kk (.slice (some ⟨b,0,none⟩) len len) ((b, .cells cs [] e)::H)):runS false P G (Instr.buildSlice t len parts) H kk:=by
 unfold zcS at h
 split at h
 ·rename_i e hf
  obtain⟨⟨hk,hzl,hs0,hsm⟩,h⟩:=h
  obtain⟨d,hd,hfit⟩:=hT.und hf (by simp)
  simp only[TK.fits] at hfit
  subst hfit
  obtain⟨i,z,hi,hs,_,hz,hzc⟩:=hT.info hk
  have hzs:z.cells.size=(T e).size:=by rw[←Array.length_toList,hzc,hzl]
  unfold zgV at h
  split at h
  ·rename_i r hr
   have hrow:((Array.range (len * i.size)).map (z.cells[· % z.cells.size]!)).toList=rep len (T e).zero:=by
    rw[hs,←hzs,zkZ z.cells len (.inr (by rw[hzs];omega)),hzc]
   have hfe: ∀ (cells:Array Value),cells.toList=rep len (T e).zero→Instr.fill (fun j=>some (j * i.size,i.size)) cells parts.toList=some r.toArray:=fun cells hc=>by
    rw[←hc] at hr
    rw[hs]
    exact zk2 _ parts.toList cells r hr
   have hfin:runS false P G (do pure (.slice (some (←newRow e r.toArray)) len len):Sem Value) H kk:=by
    simp only[newRow,newObj,ze,runS,zg]
    refine⟨by trivial,by simp [zbc],fun b hb=>?_⟩
    simp only[zdT,if_true]
    exact h b hb
   simp only[Instr.buildSlice,ze,zh hd,zae hi]
   rw[if_neg (by rw[hs];omega)]
   by_cases h0:len * i.size=0
   ·have hl0:len=0:=by
     rcases Nat.mul_eq_zero.1 h0 with h|h
     ·exact h
     ·rw[hs] at h;exact absurd h hs0
    simp only[h0,if_true,ze,zg]
    rw[hfe _ (by subst hl0;rw[zhW];simp)]
    exact hfin
   ·simp only[h0,if_false,ze,zaT hi hz,zg]
    rw[hfe _ hrow]
    exact hfin
  ·exact h.elim
 ·exact h.elim
end Go.V
