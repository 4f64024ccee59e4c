/- A part of the proof, joined of several texts: the verification layer, contracts of functions, plain law. -/
import Derived.Test.YtomdbjfdbkejoaaGreatDoorW3
import Derived.ReadAgain
import Derived.ChangeArms
import Derived.JoinedCond
import Derived.RowKit
import Derived.ChangeOld
import Derived.ChangeCalls
import Derived.WalkKit
import Derived.ProofKit
import Derived.OpenShut
set_option maxHeartbeats 64000000
set_option linter.unusedSimpArgs false
set_option linter.unusedVariables false
set_option linter.unusedSectionVars false
namespace Go.V
def Row (G:za) (a:Option Addr) (vs:List Value):Prop:=vs=[]∨(Adr a∧zbX G (blk a) (ofs a) vs)
theorem Row.nil (G:za) (a:Option Addr):Row G a []:= .inl rfl
theorem Row.mono {G G':za} (hle:PLe G G') {a:Option Addr} {vs:List Value} (h:Row G a vs):Row G' a vs:=
 match h with
 | .inl h=> .inl h
 | .inr h=> .inr ⟨h.1,h.2.mono hle⟩
theorem Row.adr {G:za} {a:Option Addr} {vs:List Value} (h:Row G a vs) (hl:0<vs.length):Adr a:=by
 rcases h with rfl|h
 ·simp at hl
 ·exact h.1
theorem Row.at {G:za} {a:Option Addr} {vs:List Value} (h:Row G a vs) (hl:0<vs.length):zbX G (blk a) (ofs a) vs:=by
 rcases h with rfl|h
 ·simp at hl
 ·exact h.2
theorem Row.obj {G:za} {a:Option Addr} {vs:List Value} (h:Row G a vs) {i:Nat} (hi:i<vs.length) (H:zb) (k:Value→Prop):zez G H (blk a) (G (blk a)) (ofs a+i) k=k vs[i]:=
 (h.at (by omega)).obj hi H k
theorem Row.obj0 {G:za} {a:Option Addr} {vs:List Value} (h:Row G a vs) (hi:0<vs.length) (H:zb) (k:Value→Prop):zez G H (blk a) (G (blk a)) (ofs a) k=k vs[0]:=by
 have:=h.obj hi H k
 rwa [Nat.add_zero] at this
theorem Row.objs {G:za} {a:Option Addr} {vs:List Value} (h:Row G a vs) {i n:Nat} (hn:0<n) (hi:i+n≤vs.length) (H:zb) (k:List Value→Prop):zgG G H (blk a) (G (blk a)) (ofs a+i) n k=k ((vs.drop i).take n):=
 (h.at (by omega)).objs hi H k
theorem Row.rdSl {G:za} {a:Option Addr} {vs:List Value} (h:Row G a vs) {n:Nat} (hn:n≤vs.length) (H:zb) (k:List Value→Prop):V.rdSl G H a n k=k (vs.take n):=by
 by_cases h0:n=0
 ·subst h0
  unfold V.rdSl
  split
  ·rw[List.take_zero];exact propext zf4
  ·simp
 ·have had:=h.adr (by omega)
  unfold Adr at had
  rw[had,zj8,zg5]
  have:=(h.at (by omega)).objs (i:=0) (n:=n) (by omega) H k
  rw[Nat.add_zero] at this
  rw[this,List.drop_zero]
theorem Row.rdSlAll {G:za} {a:Option Addr} {vs:List Value} (h:Row G a vs) {n:Nat} (hn:n=vs.length) (H:zb) (k:List Value→Prop):V.rdSl G H a n k=k vs:=by
 rw[h.rdSl (by omega),List.take_of_length_le (by omega)]
theorem Row.drop {G:za} {a:Option Addr} {vs:List Value} (h:Row G a vs) {l m s:Nat} (hc:m=l→vs.length≤l * s):Row G (zbH a l m (l * s)) (vs.drop (l * s)):=by
 by_cases hl:vs.length≤l * s
 ·exact .inl (List.drop_eq_nil_of_le hl)
 ·have had:=h.adr (by omega)
  have hrow:=h.at (by omega)
  have hml: ¬m=l:=fun e=>hl (hc e)
  right
  unfold Adr at had
  unfold zbH
  rw[if_neg hml,had]
  simp only[Option.map_some,zb6,zqk,zql,zqm,true_and]
  obtain⟨cs,e,fr,h1,h2,h3⟩:=hrow
  refine⟨cs,e,fr,h1,by simp;omega,?_⟩
  rw[←List.drop_drop]
  simp only[List.length_drop]
  rw[←List.drop_take,h3]
theorem Row.take {G:za} {a:Option Addr} {vs:List Value} (h:Row G a vs) (n:Nat):Row G a (vs.take n):=by
 by_cases h0:(vs.take n).length=0
 ·exact .inl (List.eq_nil_of_length_eq_zero h0)
 ·have hv:0<vs.length:=by rw[List.length_take] at h0;omega
  obtain⟨cs,e,fr,h1,h2,h3⟩:=h.at hv
  refine .inr ⟨h.adr hv,cs,e,fr,h1,by simp;omega,?_⟩
  have:=congrArg (·.take n) h3
  simp only[List.take_take] at this
  rw[List.length_take]
  rw[this]
theorem zbX.row {G:za} {b off:Nat} {vs:List Value} (h:zbX G b off vs):Row G (some ⟨b,off,none⟩) vs:= .inr ⟨rfl,h⟩
def Sl {α:Type} (G:za) (enc:α→Value) (v:Value) (xs:List α):Prop:= ∃a cap,v= .slice a xs.length cap∧Row G a (xs.map enc)∧xs.length≤cap
def SlM {α:Type} (G:za) (enc:α→List Value) (v:Value) (xs:List α):Prop:= ∃a cap,v= .slice a xs.length cap∧Row G a (xs.flatMap enc)∧xs.length≤cap
theorem Sl.mono {α:Type} {G G':za} (hle:PLe G G') {enc:α→Value} {v:Value} {xs:List α} (h:Sl G enc v xs):Sl G' enc v xs:=
 let ⟨a,cap,h1,h2,h3⟩:=h;⟨a,cap,h1,h2.mono hle,h3⟩
theorem SlM.mono {α:Type} {G G':za} (hle:PLe G G') {enc:α→List Value} {v:Value} {xs:List α} (h:SlM G enc v xs):SlM G' enc v xs:=
 let ⟨a,cap,h1,h2,h3⟩:=h;⟨a,cap,h1,h2.mono hle,h3⟩
theorem Sl.nil {α:Type} (G:za) (enc:α→Value):Sl G enc (.slice none 0 0) ([]:List α):=⟨none,0,rfl,Row.nil _ _,Nat.le_refl _⟩
theorem SlM.nil {α:Type} (G:za) (enc:α→List Value):SlM G enc (.slice none 0 0) ([]:List α):=⟨none,0,rfl,Row.nil _ _,Nat.le_refl _⟩
theorem zgd {α:Type} {enc:α→List Value} {m:Nat} (hm: ∀x,(enc x).length=m): ∀ (xs:List α) (i:Nat),(xs.flatMap enc).drop (i * m)=(xs.drop i).flatMap enc
 | [],i=>by simp
 |x::xs,0=>by simp
 |x::xs,i+1=>by
  rw[List.flatMap_cons,List.drop_append,List.drop_succ_cons,hm]
  rw[List.drop_eq_nil_of_le (by rw[hm,Nat.succ_mul];omega),List.nil_append]
  rw[show(i+1) * m - m=i * m by rw[Nat.succ_mul];omega]
  exact zgd hm xs i
theorem zbq {α:Type} {enc:α→List Value} {m:Nat} (hm: ∀x,(enc x).length=m) (xs:List α):(xs.flatMap enc).length=xs.length * m:=by
 induction xs with
 |nil=>simp
 |cons x xs ih=>rw[List.flatMap_cons,List.length_append,ih,hm,List.length_cons,Nat.succ_mul];omega
theorem zg6 {α:Type} {enc:α→List Value} {m:Nat} (hm: ∀x,(enc x).length=m) (xs:List α) (i:Nat) (hi:i<xs.length):((xs.flatMap enc).drop (i * m)).take m=enc xs[i]:=by
 rw[zgd hm,List.drop_eq_getElem_cons hi,List.flatMap_cons,List.take_append_of_le_length (by rw[hm];exact Nat.le_refl _),List.take_of_length_le (by rw[hm];exact Nat.le_refl _)]
theorem Row.objsM {α:Type} {G:za} {a:Option Addr} {enc:α→List Value} {m:Nat} {xs:List α} (h:Row G a (xs.flatMap enc)) (hm: ∀x,(enc x).length=m) (hm0:0<m) {i:Nat} (hi:i<xs.length) (H:zb) (k:List Value→Prop):zgG G H (blk a) (G (blk a)) (ofs a+i * m) m k=k (enc xs[i]):=by
 have hl:=zbq hm xs
 have:(i+1) * m≤xs.length * m:=Nat.mul_le_mul_right _ hi
 rw[Nat.succ_mul] at this
 rw[h.objs hm0 (by omega),zg6 hm xs i hi]
theorem Upd.shareRow {G:za} {H:zb} {b:Nat} {xs sp:List Value} {e:TypeId} {k:za→zb→Prop} (hb:G b=none)
  (h: ∀G',PLe G G'→Sep G' (zm H)→Row G' (some ⟨b,0,none⟩) xs→k G' H):Upd G ((b, .cells xs sp e)::H) k:=
 Upd.share fun fr hs=>h _ (fun c o hc=>by rw[zjt (fun e=>by subst e;rw[hb] at hc;cases hc)];exact hc) hs (zbX.row ⟨_,_,_,zto _ _ _,by simp,by simp⟩)
theorem FnT.share {P:Program} {f:FuncId} {args:List Value} {G:za} {H:zb} {R:Value→za→zb→Prop} {b:Nat} {xs sp:List Value} {e:TypeId} (hc:Callee P f) (hb:G b=none)
  (h: ∀G',PLe G G'→Sep G' (zm H)→Row G' (some ⟨b,0,none⟩) xs→FnT P f args G' H R):FnT P f args G ((b, .cells xs sp e)::H) R:=FnT.pre hc (Upd.shareRow hb h)
def zS (H:zb) (e:TypeId) (m:Nat) (v:Value) (n:Nat) (xs:List Value) (H':zb):Prop:=
 (∃a,v= .slice a 0 0∧n=0∧xs=[]∧H'=H)∨ ∃b cap sp,v= .slice (some ⟨b,0,none⟩) n cap∧H'=(b, .cells xs sp e)::H∧xs.length=n * m∧xs.length+sp.length=cap * m
theorem zS.share {G:za} {H H':zb} {e:TypeId} {m:Nat} {v:Value} {n:Nat} {xs:List Value} (hm:0<m) (h:zS H e m v n xs H') {k:za→zb→Prop} (hsep:Sep G (zm H'))
  (hk: ∀G' a cap,PLe G G'→Sep G' (zm H)→v= .slice a n cap→Row G' a xs→n≤cap→k G' H):Upd G H' k:=by
 rcases h with ⟨a,rfl,rfl,rfl,rfl⟩| ⟨b,cap,sp,rfl,rfl,hc,hd⟩
 ·exact Upd.now (hk G a 0 (PLe.refl _) hsep rfl (Row.nil _ _) (Nat.le_refl _))
 ·refine Upd.shareRow hsep.1.1 fun G' hle hs hr=>hk G' _ cap hle hs rfl hr ?_
  have:n * m≤cap * m:=by omega
  exact Nat.le_of_mul_le_mul_right this hm
theorem zS.sub {H H':zb} {e:TypeId} {m:Nat} {v:Value} {n:Nat} {xs:List Value} (h:zS H e m v n xs H'):H.Sublist H':=by
 rcases h with ⟨_,_,_,_,rfl⟩| ⟨_,_,_,_,rfl,_⟩
 ·exact List.Sublist.refl _
 ·exact List.sublist_cons_self _ _
theorem zju {α:Type} {f:α→Value} (h: ∀x,zaL (f x)=true) (l:List α):(l.map f).all zaL=true:=by simp [h]
theorem zvC (l:List UInt8):(l.map zB).all zaL=true:=zju (fun _=>rfl) l
theorem zxC (k:IntKind) (l:List Int):(l.map (Value.int k)).all zaL=true:=zju (fun _=>rfl) l
theorem zvD (l:List Bool):(l.map Value.bool).all zaL=true:=zju (fun _=>rfl) l
abbrev str (bs:List UInt8):Value:= .string ⟨bs.toArray⟩
theorem zxD (l:List (List UInt8)):(l.map str).all zaL=true:=zju (fun _=>rfl) l
theorem zxE (z:List Value):rep 1 z=z:=by rw[ziy];simp
theorem zvE (z:List Value):rep 0 z=[]:=by rw[ziy];simp
attribute [go_sem] zxE zvE zvC zxC zvD zxD
theorem zk9 {α:Type}: ∀ {l1 l2:List α},(∀f:α→Nat,(l1.map f).sum≤(l2.map f).sum)→ ∃r,l2.Perm (l1++r):=by
 intro l1
 classical
 induction l1 with
 |nil=>intro l2 _;exact⟨l2,List.Perm.refl _⟩
 |cons a l1 ih=>
  intro l2 h
  have hm:a∈l2:=by
   have h1:=h fun x=>if x=a then 1 else 0
   apply Classical.byContradiction
   intro hn
   have:(l2.map fun x=>if x=a then 1 else 0).sum=0:=by
    clear h h1 ih
    induction l2 with
    |nil=>rfl
    |cons b l2 ih2=>
     simp only[List.mem_cons,not_or] at hn
     simp only[List.map_cons,List.sum_cons,if_neg (Ne.symm hn.1),Nat.zero_add]
     exact ih2 hn.2
   rw[this] at h1
   simp at h1
  have hp:=List.perm_cons_erase hm
  obtain⟨r,hr⟩:=ih (l2:=l2.erase a) fun f=>by
   have h1:=h f
   have h2:(l2.map f).sum=((a::l2.erase a).map f).sum:=(hp.map f).sum_nat
   rw[h2] at h1
   simp only[List.map_cons,List.sum_cons] at h1
   omega
  exact⟨r,hp.trans (hr.cons a)⟩
theorem HeapOk.leave {E:Env} {G:za} {H H':zb} {w:World} (h:HeapOk E G H w) (hs: ∀f:Nat×Res→Nat,(H'.map f).sum≤(H.map f).sum):HeapOk E G H' w:=by
 obtain⟨r,hr⟩:=zk9 hs
 exact(h.perm hr).sub (List.sublist_append_left _ _)
theorem Upd.leave {G:za} {H H':zb} {k:za→zb→Prop} (hs: ∀f:Nat×Res→Nat,(H'.map f).sum≤(H.map f).sum) (h:k G H'):Upd G H k:=fun E w hw=>⟨G,H',PLe.refl _,hw.leave hs,h⟩
theorem Upd.go {G:za} {H H':zb} {k:za→zb→Prop} (hs: ∀f:Nat×Res→Nat,(H'.map f).sum≤(H.map f).sum) (h:Upd G H' k):Upd G H k:=fun E w hw=>h w (hw.leave hs)
theorem Upd.finL {G:za} {H H':zb} {R:Value→za→zb→Prop} {v v':Value} (hs: ∀f:Nat×Res→Nat,(H.map f).sum≤(H'.map f).sum) (h:R v G H) (e:v'=v):zv R v' G H':=Upd.leave hs (e▸h)
theorem Tri.drawS {P:Program} {T:Tys} (hT:zR P T) (hm:P.follows .mixedOrders=true) {sz:Nat} (keep:List Nat) (id:Nat) {ops:List Oper} {G:za} {l:Fr} {H:zb} {K:zaI} (L:List Nat) (t:DM)
  (hok:zk7 T sz ops L t=true) (Hs:zb) (hs: ∀f:Nat×Res→Nat,(Hs.map f).sum≤(H.map f).sum)
  (h:wpM P T ops G Hs t G l H fun G' l' H'=>K .normal G' (zD keep l') H'):Tri P sz (.region id ops.toArray true) G l H K:=
 Tri.drawG hT hm keep id L t hok Hs (fun h=>h.leave hs) h
theorem FnT.leave {P:Program} {f:FuncId} {args:List Value} {G:za} {H H':zb} {R:Value→za→zb→Prop} (h:FnT P f args G H' R) (hs: ∀f:Nat×Res→Nat,(H'.map f).sum≤(H.map f).sum):FnT P f args G H R:=
 fun _ w hw=>h w (hw.leave hs)
theorem FnT.sep {P:Program} {f:FuncId} {args:List Value} {G:za} {H:zb} {R:Value→za→zb→Prop} (h:FnT P f args G H fun v G' H'=>PLe G G'→Sep G' (zm H')→R v G' H'):FnT P f args G H R:=
 h.mono fun v G' H' hle hs hr=>hr hle hs
def zeA:List Nat→zb→zb
 | [],H=>H
 |b::bs,H=>match zq H b with
  |some r=>(b,r)::zeA bs (z8 H b)
  |none=>zeA bs H
def zoa (b:Nat) (bs:List Nat) (H:zb):Option Res→zb
 |some r=>(b,r)::zeA bs (z8 H b)
 |none=>zeA bs H
theorem ztp (H:zb):zeA [] H=H:=rfl
theorem zrP (b:Nat) (bs:List Nat) (H:zb):zeA (b::bs) H=zoa b bs H (zq H b):=by
 simp only[zeA,zoa]
theorem zpQ (b:Nat) (bs:List Nat) (H:zb) (r:Res):zoa b bs H (some r)=(b,r)::zeA bs (z8 H b):=rfl
theorem ztq {H:zb} {b:Nat} {r:Res} (hf:zq H b=some r):z7 H b r=H:=by
 induction H with
 |nil=>rfl
 |cons p H ih=>
  obtain⟨k,s⟩:=p
  simp only[zq] at hf
  simp only[z7]
  split at hf
  ·rename_i hk;rw[if_pos hk];cases hf;rfl
  ·rename_i hk;rw[if_neg hk,ih hf]
theorem zhO: ∀ (bs:List Nat) (H:zb),H.Perm (zeA bs H)
 | [],H=>List.Perm.refl _
 |b::bs,H=>by
  simp only[zeA]
  split
  ·rename_i r hr
   have h1:=zgB (r':=r) hr
   rw[ztq hr] at h1
   exact h1.trans ((zhO bs _).cons _)
  ·exact zhO bs H
theorem Upd.pick (bs:List Nat) {G:za} {H:zb} {k:za→zb→Prop} (h:Upd G (zeA bs H) k):Upd G H k:=fun E w hw=>h w (hw.perm (zhO bs H))
attribute [go_sem] ztp zrP zpQ
theorem Upd.refind (b:Nat) {G:za} {H:zb} {xs sp:List Value} {e:TypeId} (xs' sp':List Value) {k:za→zb→Prop} (hf:zq H b=some (.cells xs sp e)) (he:xs++sp=xs'++sp') (h:Upd G (z7 H b (.cells xs' sp' e)) k):Upd G H k:=
 fun E w hw=>h w (hw.refind hf he)
theorem zrQ {α:Type} {f:α→Value} {xs:List α} {sp:List Value} {i:Nat} (h:i<xs.length) (k:Value→Prop):zC ((xs.flatMap (fun x=>[f x])++sp)[i]?) k=k (f xs[i]):=by
 rw[←List.map_eq_flatMap,List.getElem?_append_left (by simpa using h),List.getElem?_map,List.getElem?_eq_getElem h];rfl
attribute [go_sem] zrQ
def zd2 (G:za) (H:zb) (a:Option Addr) (n:Nat) (cs:List Value):Prop:= ∀H',(∀b r,zq H b=some r→zq H' b=some r)→ ∀k:List Value→Prop,rdSl G H' a n k=k cs
theorem zd2.now {G:za} {H:zb} {a:Option Addr} {n:Nat} {cs:List Value} (h:zd2 G H a n cs) (k:List Value→Prop):rdSl G H a n k=k cs:=h H (fun _ _ h=>h) k
theorem zd2.later {G:za} {H:zb} {a:Option Addr} {n:Nat} {cs:List Value} (h:zd2 G H a n cs) (b:Nat) (r:Res) (hb:zQ b (zm H)):zd2 G ((b,r)::H) a n cs:=fun H' hH k=>h H' (fun c s hc=>hH c s (by
 have:b≠c:=fun e=>by
  subst e
  exact zgx.1 hb (List.mem_map_of_mem (f:=(·.1)) (zfg hc))
 rw[zkd this];exact hc)) k
theorem Row.reads {G:za} {a:Option Addr} {vs:List Value} (h:Row G a vs) {n:Nat} (hn:n=vs.length) (H:zb):zd2 G H a n vs:=fun _ _ k=>h.rdSlAll hn _ k
theorem zd2.own {G:za} {H:zb} {b:Nat} {xs sp:List Value} {e:TypeId} (hg:G b=none) (hf:zq H b=some (.cells xs sp e)) {n:Nat} (hn:n=xs.length):zd2 G H (some ⟨b,0,none⟩) n xs:=fun H' hH k=>by
 subst hn
 rw[zj8,zg5,zk0 hg,hH _ _ hf,zjT,zq2 (by omega)]
 simp
theorem zd2.nil (G:za) (H:zb) (a:Option Addr):zd2 G H a 0 []:=fun _ _ k=>by
 unfold rdSl
 split
 ·exact propext zf4
 ·simp
theorem zd2.none {G:za} {H:zb} {n:Nat} {cs:List Value} (h:zd2 G H Option.none n cs):n=0:=by
 have:=h.now fun _=>True
 rw[zmr] at this
 simpa using this
theorem zrR (b o l m n:Nat) (h: ¬m=l):zbC b o l m n=⟨b,o+n,Option.none⟩:=by unfold zbC;rw[if_neg h]
theorem zrS (a:Option Addr) (l n:Nat):zbH a l l n=a:=by unfold zbH;rw[if_pos rfl]
attribute [go_sem] zrS zrR
theorem zbS (H H':zb):zm (H++H')=zm H++zm H':=by simp [zm]
theorem zb1 {b:Nat}: ∀ {xs ys:List Nat},zQ b (xs++ys)=(zQ b xs∧zQ b ys)
 | [],ys=>by simp [zQ]
 |x::xs,ys=>by
  have ih:=zb1 (b:=b) (xs:=xs) (ys:=ys)
  simp only[List.cons_append,zQ,ih,and_assoc]
theorem Sep.mid {G:za} {b:Nat} {r:Res} {H:zb}: ∀ {tb:zb},Sep G (zm (tb++(b,r)::H))→zQ b (zm tb)
 | [],_=>by simp [zQ,zm]
 | (c,q)::tb,h=>by
  rw[List.cons_append,zbl,zhN,zbS,zbl,zb1,zbc] at h
  have ih:=Sep.mid (G:=G) (b:=b) (r:=r) (H:=H) (tb:=tb) (by rw[zbS,zbl];exact h.2)
  rw[zbl,zbc]
  exact⟨fun e=>h.1.2.2.1 e.symm,ih⟩
theorem ztr {H H':zb} {b:Nat} (h:zQ b (zm H)):zq (H++H') b=zq H' b:=by
 induction H with
 |nil=>rfl
 |cons p H ih=>
  obtain⟨c,r⟩:=p
  have h':b≠c∧zQ b (zm H):=h
  simp only[List.cons_append,zq,if_neg (Ne.symm h'.1)]
  exact ih h'.2
theorem zvF {H H':zb} {b:Nat} {r:Res} (h:zQ b (zm H)):z7 (H++H') b r=H++z7 H' b r:=by
 induction H with
 |nil=>rfl
 |cons p H ih=>
  obtain⟨c,r'⟩:=p
  have h':b≠c∧zQ b (zm H):=h
  simp only[List.cons_append,z7,if_neg (Ne.symm h'.1)]
  rw[ih h'.2]
theorem zrT {H H':zb} {b:Nat} (h:zQ b (zm H)):z8 (H++H') b=H++z8 H' b:=by
 induction H with
 |nil=>rfl
 |cons p H ih=>
  obtain⟨c,r'⟩:=p
  have h':b≠c∧zQ b (zm H):=h
  simp only[List.cons_append,z8,if_neg (Ne.symm h'.1)]
  rw[ih h'.2]
theorem Sep.none {G:za} {H:zb} {b:Nat} (h:Sep G (zm H)) (hb:b∈zm H):G b=Option.none:=(zaY.1 h).1 b hb
attribute [go_sem] ztr zvF zrT zbS zb1
section assoc
variable {α β:Type} [DecidableEq α]
def zb9 (k:α):List (α×β)→Option β
 | []=>none
 |e::es=>if k=e.1 then some e.2 else zb9 k es
def zcA (k:α) (v:β):List (α×β)→List (α×β)
 | []=>[(k,v)]
 |e::es=>if k=e.1 then(k,v)::es else e::zcA k v es
end assoc
def zeB {α:Type} [DecidableEq α] (T:Tys) (t:TypeId) (enc:α→Value):Prop:= ∀a b,zbI T t (enc a) (enc b)=some (decide (a=b))
section enc
variable {α β:Type} [DecidableEq α] {T:Tys} {t:TypeId} {enc:α→Value} (he:zeB T t enc) (f:β→Value)
include he
theorem zb2 (k:α) (l:List (α×β)):zhE T t (enc k) (l.map fun p=>(enc p.1,f p.2))=some ((zb9 k l).map f):=by
 induction l with
 |nil=>rfl
 |cons e l ih=>
  have hke:=he k e.1
  simp only[List.map_cons,zhE,hke,zb9]
  by_cases h:k=e.1
  ·simp [h]
  ·simp [h,ih]
theorem zcB (k:α) (v:β) (l:List (α×β)):ziC T t (enc k) (f v) (l.map fun p=>(enc p.1,f p.2))=some ((zcA k v l).map fun p=>(enc p.1,f p.2)):=by
 induction l with
 |nil=>rfl
 |cons e l ih=>
  have hke:=he k e.1
  simp only[List.map_cons,ziC,hke,zcA]
  by_cases h:k=e.1
  ·simp [h]
  ·simp [h,ih]
theorem zb3 (k:α):ze7 T t (enc k):=by unfold ze7;rw[he k k];simp
end enc
theorem zla {T:Tys} {t:TypeId} {k:IntKind} (h:(T t).k= .int k):zeB T t (Value.int k):=fun a b=>by
 unfold zbI;rw[h];simp
theorem zrU {T:Tys} {t:TypeId} (h:(T t).k= .string):zeB T t str:=fun a b=>by
 unfold zbI str;rw[h]
 simp only[Option.some.injEq]
 rw[Bool.eq_iff_iff];simp
theorem zlb {T:Tys} {t e:TypeId} {k:IntKind} (h:(T t).k= .arr 2 e) (he:(T e).k= .int k) (hs:(T e).size=1):zeB T t (fun p:Int×Int=> .agg #[.int k p.1, .int k p.2]):=fun a b=>by
 unfold zbI
 simp only[h,he,hs,if_true]
 have:=zmt k [a.1,a.2]
 have h2:=zmt k [b.1,b.2]
 simp only[List.map_cons,List.map_nil] at this h2
 rw[this,h2]
 simp only[List.length_cons,List.length_nil,and_self,if_true,Option.some.injEq,decide_eq_decide,List.cons.injEq,and_true]
 rw[Prod.ext_iff]
end Go.V
namespace Go.V
/-! rewriting rules taken together -/
theorem zzs:(∀ (k:Nat) (r:Res) (H:zb),zm ((k,r)::H)=k::zm H)∧(∀ (H H':zb),zm (H++H')=zm H++zm H')∧(zm []=[])∧(∀ (G:za) (b:Nat) (bs:List Nat),Sep G (b::bs)=((G b=none∧zQ b bs)∧Sep G bs))∧(∀ (G:za),Sep G []=True)∧(∀ (b c:Nat) (cs:List Nat),zQ b (c::cs)=(b≠c∧zQ b cs))∧(∀ (b:Nat) (xs ys:List Nat),zQ b (xs++ys)=(zQ b xs∧zQ b ys))∧(∀ (b:Nat),zQ b []=True)∧(∀ (α:Type) (a:α) (xs ys:List α),(a::xs)++ys=a:: (xs++ys))∧(∀ (α:Type) (xs:List α),[]++xs=xs)∧(∀ (α:Type) (xs ys zs:List α),xs++ys++zs=xs++(ys++zs))∧(∀ (a b c:Prop),(a∧b)∧c↔a∧b∧c)∧(∀ (p:Prop),(p∧True)=p)∧(∀ (p:Prop),(True∧p)=p):=
 ⟨by intros;simp only[zbl],by intros;rw[zbS],by intros;simp only[zea],by intros;simp only[zhN],by intros;simp only[zqo],by intros;simp only[zbc],by intros;rw[zb1],by intros;simp only[zdu],by intros;simp only[List.cons_append],by intros;simp only[List.nil_append],by intros;simp only[List.append_assoc],by intros;rw[and_assoc],by intros;simp only[and_true],by intros;simp only[true_and]⟩
theorem zzn:(∀ (k:Nat) (r:Res) (H:zb),zm ((k,r)::H)=k::zm H)∧(∀ (H H':zb),zm (H++H')=zm H++zm H')∧(zm []=[])∧(∀ (b c:Nat) (cs:List Nat),zQ b (c::cs)=(b≠c∧zQ b cs))∧(∀ (b:Nat) (xs ys:List Nat),zQ b (xs++ys)=(zQ b xs∧zQ b ys))∧(∀ (b:Nat),zQ b []=True)∧(∀ (p:Prop),(p∧True)=p):=
 ⟨by intros;simp only[zbl],by intros;rw[zbS],by intros;simp only[zea],by intros;simp only[zbc],by intros;rw[zb1],by intros;simp only[zdu],by intros;simp only[and_true]⟩
theorem zzm:(∀ (α:Type) (b:α) (l:List α) (a:α),a∈b::l↔a=b∨a∈l)∧(∀ (α:Type) (a:α) (s t:List α),a∈s++t↔a∈s∨a∈t)∧(∀ (p:Prop),(True∨p)=True)∧(∀ (p:Prop),(p∨True)=True)∧(∀ (α:Type) (a:α),(a=a)=True):=
 ⟨by intros;rw[List.mem_cons],by intros;rw[List.mem_append],by intros;simp only[true_or],by intros;simp only[or_true],by intros;simp only[eq_self]⟩
theorem zzk:(∀ (α β:Type) (xs:List α) (f:α→β),(xs.map f).length=xs.length)∧(∀ (α:Type) (i:Nat) (l:List α),(l.take i).length=min i l.length)∧(∀ (α:Type) (i:Nat) (l:List α),(l.drop i).length=l.length - i):=
 ⟨by intros;simp only[List.length_map],by intros;simp only[List.length_take],by intros;simp only[List.length_drop]⟩
theorem zzl:(∀ (α:Type) (a:α) (xs:List α),(a::xs).length=xs.length+1)∧(∀ (α:Type),([]:List α).length=0)∧(∀ (α β:Type) (xs:List α) (f:α→β),(xs.map f).length=xs.length)∧(∀ (α:Type) (xs ys:List α),(xs++ys).length=xs.length+ys.length)∧(∀ (α:Type) (n:Nat) (a:α),(List.replicate n a).length=n)∧(∀ (p:Prop),(True∧p)=p)∧(∀ (p:Prop),(p∧True)=p)∧(∀ (p:Prop),(p∧p)=p)∧(∀ (α:Type) (i:Nat) (l:List α),(l.take i).length=min i l.length)∧(∀ (α:Type) (i:Nat) (l:List α),(l.drop i).length=l.length - i):=
 ⟨by intros;simp only[List.length_cons],by intros;simp only[List.length_nil],by intros;simp only[List.length_map],by intros;simp only[List.length_append],by intros;simp only[List.length_replicate],by intros;simp only[true_and],by intros;simp only[and_true],by intros;simp only[and_self],by intros;simp only[List.length_take],by intros;simp only[List.length_drop]⟩
theorem zzq:(∀ (α β:Type) (f:α→β) (xs ys:List α),(xs++ys).map f=xs.map f++ys.map f)∧(∀ (α β:Type) (f:α→β) (a:α) (l:List α),(a::l).map f=f a::l.map f)∧(∀ (α β:Type) (f:α→β),([]:List α).map f=[])∧(∀ (xs ys:List Nat),(xs++ys).sum=xs.sum+ys.sum)∧(∀ (a:Nat) (l:List Nat),(a::l).sum=a+l.sum)∧(([]:List Nat).sum=0)∧(∀ (α:Type) (a:α) (xs ys:List α),(a::xs)++ys=a:: (xs++ys))∧(∀ (α:Type) (xs:List α),[]++xs=xs):=
 ⟨by intros;simp only[List.map_append],by intros;simp only[List.map_cons],by intros;simp only[List.map_nil],by intros;simp only[List.sum_append_nat],by intros;simp only[List.sum_cons],by intros;simp only[List.sum_nil],by intros;simp only[List.cons_append],by intros;simp only[List.nil_append]⟩
end Go.V

namespace Go.V
theorem zdm.mk2 {G:za} {ks:List Nat} {k:Nat→Prop} (h: ∀b,Sep G (b::ks)→G b=none→zQ b ks→k b):zdm G ks k:=zdm.mk fun b s=>h b s s.1.1 s.1.2
theorem zbV.mk2 {G:za} {ks:List Nat} {n E:Nat} {k:Nat→List Value→Nat→Prop} (h: ∀b sp cap,Sep G (b::ks)→n * E+sp.length=cap * E→G b=none→zQ b ks→k b sp cap):zbV G ks n E k:=zbV.mk fun b sp cap s e=>h b sp cap s e s.1.1 s.1.2
class Nx (g:Prop) (p:outParam Prop):Prop where
  go:p→g
theorem Nx.go' {g p:Prop} [h:Nx g p] (x:p):g:=h.go x
instance {x y:Prop}:Nx (Br true x y) x:=⟨Br.yes⟩
instance {x y:Prop}:Nx (Br false x y) y:=⟨Br.no⟩
instance {T:Tys} {G:za} {H:zb} {e:TypeId} {a:Option Addr} {k:Value→zb→Prop} {n:Nat} {new:List Value}:Nx (zd8 T G H e a 0 0 k n new) (zhi T G H e a k n new):=⟨zd8.zero⟩
instance (priority:=low) {T:Tys} {G:za} {H:zb} {e:TypeId} {b len cap:Nat} {k:Value→zb→Prop} {n:Nat} {new:List Value}:Nx (zd8 T G H e (some ⟨b,0,none⟩) len cap k n new) (ziz T G H e b len cap (zq H b) k n new):=⟨zd8.own⟩
class Bk (b:Bool) (p q:outParam Prop):Prop where
  yes:b=true→p
  no:b=false→q
theorem Bk.go {b:Bool} {p q x y:Prop} [h:Bk b p q] (h1:p→x) (h2:q→y):Br b x y:=Br.mk (fun e=>h1 (h.yes e)) fun e=>h2 (h.no e)
instance (priority:=low) {b:Bool}:Bk b (b=true) (b=false):=⟨id,id⟩
instance {p:Prop} {d:Decidable p}:Bk (decide p) p (¬p):=⟨of_decide_eq_true,of_decide_eq_false⟩
instance {a b:List UInt8}:Bk (a==b) (a=b) (¬a=b):=⟨fun h=>by simpa using h,fun h=>by simpa using h⟩
instance {a b:Bool}:Bk (a==b) (a=b) (¬a=b):=⟨fun h=>by simpa using h,fun h=>by simpa using h⟩
end Go.V
namespace Go.V
theorem Ka {p:Prop} (h:p:=by assumption):p:=h
theorem Ko {p:Prop} (h:p:=by omega):p:=h
theorem Kk {p:Prop} (h:p:=by kernel_rfl):p:=h
theorem Ks {p:Prop} (h:p:=by intro fsum;first|exact Nat.le_refl _| (simp only[zzq];omega)):p:=h
theorem Kd {p:Prop} (h:p:=by first|assumption| (simp only[zzm];done)|omega| ((try with_reducible refine Row.adr (by assumption) ?_);simp only[zzl,Nat.reduceAdd];first|done|omega)):p:=h
class NIn (l:List Nat) (q:outParam (Nat→Prop)):Prop where
  to: ∀b,zQ b l→q b
instance (priority:=low) {l:List Nat}:NIn l (fun b=>zQ b l):=⟨fun _ h=>h⟩
instance:NIn [] (fun _=>True):=⟨fun _ _=>trivial⟩
instance:NIn (zm []) (fun _=>True):=⟨fun _ _=>trivial⟩
instance {c:Nat} {l:List Nat} {q:Nat→Prop} [h:NIn l q]:NIn (c::l) (fun b=>b≠c∧q b):=⟨fun b g=>by rw[zbc] at g;exact⟨g.1,h.to b g.2⟩⟩
instance {c:Nat} {r:Res} {l:zb} {q:Nat→Prop} [h:NIn (zm l) q]:NIn (zm ((c,r)::l)) (fun b=>b≠c∧q b):=⟨fun b g=>by rw[zbl,zbc] at g;exact⟨g.1,h.to b g.2⟩⟩
instance {l m:zb} {p q:Nat→Prop} [h:NIn (zm l) p] [k:NIn (zm m) q]:NIn (zm (l++m)) (fun b=>p b∧q b):=⟨fun b g=>by rw[zbS,zb1] at g;exact⟨h.to b g.1,k.to b g.2⟩⟩
theorem Nb {G:za} {ks:List Nat} {q:Nat→Prop} {k:Nat→Prop} [i:NIn ks q] (h: ∀b,Sep G (b::ks)→G b=none→q b→k b):zdm G ks k:=zdm.mk2 fun b s n m=>h b s n (i.to b m)
theorem Nr {G:za} {ks:List Nat} {n E:Nat} {q:Nat→Prop} {k:Nat→List Value→Nat→Prop} [i:NIn ks q] (h: ∀b sp cap,Sep G (b::ks)→n * E+sp.length=cap * E→G b=none→q b→k b sp cap):zbV G ks n E k:=zbV.mk2 fun b sp cap s e n m=>h b sp cap s e n (i.to b m)
end Go.V

namespace Go.V
open Go.ChangeShapes Go.WideShapes Go.RowKit
structure SeatOk (P:Program):Prop where
 laid:laidOutB P=true
 maps:mapsRowed P=true
 full:((List.range P.types.size).all fun t=>match P.underlying t with|some (.slice e)=>decide (0<P.cellsOf e)|_=>true)=true
section
variable {H:Type} {enc:TypeId×Value→H} {P:Program} {W W':World}
theorem ziu {base:Nat} {sp:Nat→Bool} {held:Bool}: ∀ {ts:List TypeId} {vs:List Value} {ds:List (DataW H)} {ps:List MemPlace},
  DataW.TrodAll enc P W base sp held ts vs ds ps→(∀p∈ps,W.sameAt W' p)→DataW.TrodAll enc P W' base sp held ts vs ds ps
 | [],[],[],_,h,_=>h
 |t::ts,v::vs,d::ds,_,⟨p,q,⟨n,h1⟩,h2,e⟩,hs=>⟨p,q,⟨n,DataW.trod_carry n _ _ _ h1 fun x hx=>hs x (by rw[e];exact List.mem_append_left _ hx)⟩,ziu h2 (fun x hx=>hs x (by rw[e];exact List.mem_append_right _ hx)),e⟩
theorem zl2 (hk:Kept W W') {p:MemPlace} (h:p.block<W.heap.size):W.sameAt W' p:=by
 have:=hk.old p.block h
 cases p with
 |cell b o=>simp only[World.sameAt,World.cell?];rw[show W'.heap[b]? =W.heap[b]? from this]
 |map b=>exact this
theorem zAJ {f:FuncId} {fn:Func} {s:ChangeSpec} {tb:TypeId} (hP:SeatOk P) (hc:Callee P f) (hvars:s.vars=[]) (hres:fn.resultTypes= #[tb]) (hb:P.underlying tb=some .bool)
  (hp: ∀t∈fn.params.toList,t<P.types.size) (hs: ∀ds:List (DataW H),ds.length=fn.params.size→s.fn H ds={results:=[.lit (.bool true)],args:=ds})
  {apart fresh handsOn again:Bool} {args:Array Value} {ds gs:List (DataW H)} {before:List MemPlace} (hW:DataW.Whole enc P fn.params.toList s.vars apart W args.toList ds gs before)
  (h:FnT P f args.toList (fun b=>W.heap[b]?) [] fun v _ _=>v= .bool true):
  Calls P f args W fun e W'=> ∃v,e= .returned v∧s.post enc P fn apart fresh handsOn again W args v W':=by
 have hW':=hW
 obtain⟨p,q,hA,hV,rfl,hfz,hnd⟩:=hW
 rw[hvars] at hV
 obtain⟨rfl,rfl⟩:=trodVars_none hV
 simp only[List.append_nil] at hW'⊢
 have hlen:=(trodAll_length hA).2
 have e:=hs ds (by simpa using hlen)
 have he:args.toList.toArray=args:=rfl
 rw[←he]
 refine(zvB W hc h).mono ?_
 rintro _ W' ⟨v,rfl,rfl,hk⟩
 have hlt:=hA.lt
 refine⟨_,rfl,zn9 (pa:=p) (pv:=[]) (by simpa using hW') (fun _ _ _=>?_) (fun sp hsp=>?_) (fun sp _=>?_) rfl hk (ok_one hres rfl (okWide_bool_mk hb _))⟩
 ·rw[List.append_nil,e,hres]
  exact⟨[],[],shut_bool hb true,rfl,rfl⟩
 ·rw[List.append_nil,e]
  exact ziu (DataW.TrodAll.respare (kids_rows hP.laid hP.maps) (fun t e ht hu=>slices_full_of P hP.full t e ht hu) hp hA (fun p hp=>hsp p (by simpa using hp))) fun x hx=>zl2 hk (hlt x hx)
 ·rw[List.append_nil,e,hvars]
  exact rfl
end
end Go.V
namespace Go.V
open Go.ChangeShapes Go.WideShapes Go.RowKit
mutual
def zaA {H:Type}:DataW H→Nat
 | .lit (.string bytes)=>bytes.length+1
 | .lit _=>1
 | .nil=>1
 | .ptr d=>zaA d+1
 | .slice elems spare=>bulkVs elems+bulkVs spare+1
 | .agg parts=>bulkVs parts+1
 | .iface _ d=>zaA d+1
 | .map entries=>0
 | .held _=>1
def bulkVs {H:Type}:List (DataW H)→Nat
 | []=>0
 |d::r=>zaA d+bulkVs r
end
theorem zlc {H:Type} {d:DataW H} {l:List (DataW H)} (h:d∈l):zaA d≤bulkVs l:=by
 induction l with
 |nil=>cases h
 |cons x r ih=>
  simp only[bulkVs]
  cases List.mem_cons.1 h with
  |inl e=>subst e;omega
  |inr e=>have:=ih e;omega
def zbP (W:World) (b off:Nat) (vs:List Value):Prop:= ∀j (h:j<vs.length),W.cell? ⟨b,off+j,none⟩=some vs[j]
theorem zbP.nil (W:World) (b off:Nat):zbP W b off []:=fun j h=>by simp at h
theorem zbP.append {W:World} {b off:Nat} {xs ys:List Value} (h1:zbP W b off xs) (h2:zbP W b (off+xs.length) ys):zbP W b off (xs++ys):=fun j h=>by
 by_cases hj:j<xs.length
 ·rw[List.getElem_append_left hj];exact h1 j hj
 ·rw[List.getElem_append_right Ko]
  have:=h2 (j - xs.length) (by simp at h;omega)
  rw[show off+xs.length+(j - xs.length)=off+j by omega] at this
  exact this
theorem zbP.rowAt {W:World} {b off:Nat} {vs:List Value} (h:zbP W b off vs) (hl:0<vs.length):zbX (fun b=>W.heap[b]?) b off vs:=by
 have h0:=h 0 hl
 unfold World.cell? at h0
 split at h0
 ·rename_i c e fr hb
  refine⟨c,e,fr,hb,?_,?_⟩
  ·have:=h (vs.length - 1) Ko
   unfold World.cell? at this
   rw[hb] at this
   simp only[Option.isSome_none,Bool.false_eq_true,if_false] at this
   have:=(Array.getElem?_eq_some_iff.1 this).1
   omega
  ·apply List.ext_getElem?
   intro i
   by_cases hi:i<vs.length
   ·rw[List.getElem?_take_of_lt hi,List.getElem?_drop,List.getElem?_eq_getElem hi]
    have:=h i hi
    unfold World.cell? at this
    rw[hb] at this
    simpa using this
   ·rw[List.getElem?_eq_none (by simp;omega),List.getElem?_eq_none Ko]
 ·cases h0
theorem zkg {W:World} {a:Addr} {n:Nat} {cs:List Value} (h:W.cells? 0 a n=some cs) (hs:a.spot=none):cs.length=n∧zbP W a.block a.off cs:=by
 unfold World.cells? at h
 rw[if_pos (Nat.zero_le _)] at h
 have hl:cs.length=n:=by have:=mapM_some_length h;simpa using this
 refine⟨hl,fun j hj=>?_⟩
 have:=mapM_some_get h j j (List.getElem?_range Ko)
 obtain⟨b,o,s⟩:=a
 subst hs
 rw[zb6] at this
 rw[this,List.getElem?_eq_getElem hj]
section
variable {H:Type} {enc:TypeId×Value→H} {P:Program} {W:World} {held:Bool} {sp:Nat→Bool}
theorem zob {α:Type} {t e:TypeId} (ht:P.underlying t=some (.slice e)) {m:Nat} (hm:P.cellsOf e=m) (hm0:0<m) (E:List Value→DataW H→α→Prop)
  (hel: ∀n cs y,cs.length=m→DataW.trod enc P W 0 sp held n e cs=some y→ ∃a:α,E cs y.1 a) {fuel:Nat} {cs:List Value} {x:DataW H×List MemPlace} (h:DataW.trod enc P W 0 sp held fuel t cs=some x):
  ∃ (a:Option Addr) (cap:Nat) (rows:List (List Value)) (ds spare:List (DataW H)) (xs:List α),cs=[.slice a xs.length cap]∧xs.length≤cap∧Row (fun b=>W.heap[b]?) a rows.flatten∧rows.length=xs.length∧ds.length=xs.length∧
   (∀i (h1:i<rows.length) (h2:i<ds.length) (h3:i<xs.length),rows[i].length=m∧E rows[i] ds[i] xs[i])∧(bulkVs ds+1≤zaA x.1):=by
 rcases DataW.trod_slice ht h with ⟨rfl,rfl⟩| ⟨a,len,cap,elems,rest,n,rfl,rfl,rfl,hb,hl,hc,hlen,hes,_,_⟩
 ·exact⟨none,0,[],[],[],[],rfl,Nat.le_refl _,Row.nil _ _,rfl,rfl,fun i h=>by simp at h,by simp [zaA,bulkVs]⟩
 ·rw[hm] at hes
  have key: ∀k,k≤len→ ∃ (rows:List (List Value)) (xs:List α),rows.length=k∧xs.length=k∧(0<k→a.spot=none∧zbP W a.block a.off rows.flatten)∧rows.flatten.length=k * m∧
    (∀i (h1:i<rows.length) (h2:i<elems.length) (h3:i<xs.length),rows[i].length=m∧E rows[i] elems[i].1 xs[i]):=by
   intro k
   induction k with
   |zero=>intro _;exact⟨[],[],rfl,rfl,fun h=>by omega,by simp,fun i h=>by simp at h⟩
   |succ k ih=>
    intro hk
    obtain⟨rows,xs,h1,h2,h3,h4,h5⟩:=ih Ko
    have hk':k<elems.length:=by omega
    have hx:=hes k Ko
    rw[List.getElem?_eq_getElem hk',Option.bind_eq_some_iff] at hx
    obtain⟨cs,hcs,hy⟩:=hx
    have hsp:a.spot=none:=by
     by_cases h0:0<k
     ·exact(h3 h0).1
     ·obtain rfl:k=0:=by omega
      unfold World.cells? at hcs
      rw[if_pos (by simp)] at hcs
      have hl:=mapM_some_length hcs
      have:=mapM_some_get hcs 0 0 (List.getElem?_range Ko)
      have hlc:0<cs.length:=by simp at hl;omega
      rw[List.getElem?_eq_getElem hlc] at this
      have:=World.cell?_spot this
      simpa [Addr.add] using this
    obtain⟨ab,ao,as⟩:=a
    subst hsp
    rw[zb6] at hcs
    obtain⟨hcl,hca⟩:=zkg hcs rfl
    obtain⟨z,hz⟩:=hel n cs _ hcl hy
    refine⟨rows++[cs],xs++[z],by simp [h1],by simp [h2],fun _=>⟨rfl,?_⟩,by simp [h4,hcl,Nat.succ_mul],fun i i1 i2 i3=>?_⟩
    ·rw[List.flatten_append]
     simp only[List.flatten_cons,List.flatten_nil,List.append_nil]
     refine zbP.append ?_ (by rw[h4];exact hca)
     by_cases h0:0<k
     ·exact(h3 h0).2
     ·have:rows=[]:=List.eq_nil_of_length_eq_zero Ko
      subst this;exact zbP.nil _ _ _
    ·by_cases hi:i<k
     ·rw[List.getElem_append_left Ko,List.getElem_append_left Ko]
      exact h5 i Ko i2 Ko
     ·obtain rfl:i=k:=by simp at i1;omega
      rw[List.getElem_append_right Ko,List.getElem_append_right Ko]
      simp only[h1,h2,Nat.sub_self,List.getElem_cons_zero]
      exact⟨hcl,hz⟩
  obtain⟨rows,xs,h1,h2,h3,h4,h5⟩:=key len (Nat.le_refl _)
  refine⟨some a,cap,rows,elems.map (·.1),rest.map (·.1),xs,by rw[h2],by omega,?_,by omega,by simp;omega,fun i i1 i2 i3=>?_,?_⟩
  ·by_cases h0:0<len
   ·obtain⟨hsp,hca⟩:=h3 h0
    obtain⟨ab,ao,as⟩:=a
    subst hsp
    exact zbX.row (zbP.rowAt hca (by rw[h4];exact Nat.mul_pos h0 hm0))
   ·obtain rfl:rows=[]:=List.eq_nil_of_length_eq_zero Ko
    exact Row.nil _ _
  ·have:=h5 i i1 (by simpa using i2) i3
   simpa using this
  ·simp only[zaA];omega
theorem ziJ {α:Type} {t e:TypeId} (ht:P.underlying t=some (.slice e)) {m:Nat} (hm:P.cellsOf e=m) (hm0:0<m) (encA:α→List Value) (Q:DataW H→α→Prop)
  (hel: ∀n cs y,cs.length=m→DataW.trod enc P W 0 sp held n e cs=some y→ ∃a:α,cs=encA a∧Q y.1 a) {fuel:Nat} {cs:List Value} {x:DataW H×List MemPlace} (h:DataW.trod enc P W 0 sp held fuel t cs=some x):
  ∃ (a:Option Addr) (cap:Nat) (ds:List (DataW H)) (xs:List α),cs=[.slice a xs.length cap]∧xs.length≤cap∧Row (fun b=>W.heap[b]?) a (xs.flatMap encA)∧ds.length=xs.length∧
   (∀i (h2:i<ds.length) (h3:i<xs.length),Q ds[i] xs[i])∧(bulkVs ds+1≤zaA x.1):=by
 obtain⟨a,cap,rows,ds,spare,xs,h1,h2,h3,h4,h5,h6,h7⟩:=zob ht hm hm0 (fun cs d a=>cs=encA a∧Q d a) hel h
 refine⟨a,cap,ds,xs,h1,h2,?_,h5,fun i i2 i3=>(h6 i Ko i2 i3).2.2,h7⟩
 have:rows=xs.map encA:=by
  apply List.ext_getElem (by simp [h4])
  intro i i1 i2
  rw[List.getElem_map]
  exact(h6 i i1 Ko Ko).2.1
 rw[List.flatMap_def,←this];exact h3
end
theorem zhP {H:Type} (l:List (DataW H)) (h: ∀d∈l,1≤zaA d):l.length≤bulkVs l:=by
 induction l with
 |nil=>simp [bulkVs]
 |cons d l ih=>
  have:=h d (List.mem_cons_self ..)
  have:=ih fun d hd=>h d (List.mem_cons_of_mem _ hd)
  simp only[bulkVs,List.length_cons];omega
section
variable {H:Type} {enc:TypeId×Value→H} {P:Program} {T:Tys} (hT:zR P T) {W:World} {held:Bool} {sp:Nat→Bool} {r:Reach} {b0:Nat} {t:TypeId} {v:Value} {d:DataW H} {ps:List MemPlace}
include hT
theorem zge {fs:List (Nat×Nat)} (hk:(T t).k= .struct fs) {i o e:Nat} (hi:fs[i]? =some (o,e)) {n:Nat} {cs:List Value} {x:DataW H×List MemPlace} (h:DataW.trod enc P W 0 sp held n t cs=some x):
  ∃m y,DataW.trod enc P W 0 sp held m e ((cs.drop o).take (P.cellsOf e))=some y∧zaA y.1+1≤zaA x.1:=by
 obtain⟨d1,hd1,f,rfl,hf1⟩:=hT.und hk (by simp)
 obtain⟨xs,m,rfl,rfl,hl,hxl,hx⟩:=DataW.trod_struct hd1 h
 rw[←hf1,List.getElem?_map,Option.map_eq_some_iff] at hi
 obtain⟨g,hg,e2⟩:=hi
 simp only[Prod.mk.injEq] at e2
 obtain⟨rfl,rfl⟩:=e2
 have hlt:i<f.size:=by
  rw[Array.getElem?_toList] at hg
  exact(Array.getElem?_eq_some_iff.1 hg).1
 have h1:=hx i g (by rw[Array.getElem?_toList] at hg;exact hg)
 rw[List.getElem?_eq_getElem Ko] at h1
 refine⟨m,_,h1,?_⟩
 simp only[zaA]
 have:=zlc (l:=xs.map (·.1)) (List.mem_map.2 ⟨xs[i],List.getElem_mem _,rfl⟩)
 omega
theorem zl3 {k:IntKind} (hk:(T t).k= .int k) {n:Nat} {cs:List Value} {x:DataW H×List MemPlace} (h:DataW.trod enc P W 0 sp held n t cs=some x): ∃z:Int,cs=[.int k z]∧k.min≤z∧z≤k.max∧zaA x.1=1:=by
 obtain⟨d2,hd2,hf2⟩:=hT.und hk (by simp)
 simp only[TK.fits] at hf2;subst hf2
 obtain⟨m,rfl,rfl,hw⟩:=DataW.trod_int hd2 h
 have:k.min≤m∧m≤k.max:=by simpa [Lit.wf] using hw
 exact⟨m,rfl,this.1,this.2,by simp [zaA]⟩
theorem zxF (hk:(T t).k= .string) {n:Nat} {cs:List Value} {x:DataW H×List MemPlace} (h:DataW.trod enc P W 0 sp held n t cs=some x): ∃s:List UInt8,cs=[str s]∧zaA x.1=s.length+1:=by
 obtain⟨d2,hd2,hf2⟩:=hT.und hk (by simp)
 simp only[TK.fits] at hf2;subst hf2
 obtain⟨s,rfl,rfl,hw⟩:=DataW.trod_string hd2 h
 exact⟨s.data.toList,by simp [str],by simp [zaA]⟩
theorem zxG {e m:Nat} (hk:(T t).k= .arr m e) {n:Nat} {cs:List Value} {x:DataW H×List MemPlace} (h:DataW.trod enc P W 0 sp held n t cs=some x) {i:Nat} (hi:i<m):
  ∃q y,DataW.trod enc P W 0 sp held q e ((cs.drop (i * P.cellsOf e)).take (P.cellsOf e))=some y∧zaA y.1+1≤zaA x.1:=by
 obtain⟨d1,hd1,hf1⟩:=hT.und hk (by simp)
 simp only[TK.fits] at hf1;subst hf1
 obtain⟨xs,q,rfl,rfl,hl,hxl,hx⟩:=DataW.trod_array hd1 h
 have h1:=hx i hi
 rw[List.getElem?_eq_getElem Ko] at h1
 refine⟨q,_,h1,?_⟩
 simp only[zaA]
 have:=zlc (l:=xs.map (·.1)) (List.mem_map.2 ⟨xs[i],List.getElem_mem _,rfl⟩)
 omega
end
end Go.V
namespace Go.V
variable {E:Env}
def XE.jump:XE→Option Code
 | .normal=>none
 | .exit id=>some (.exit id)
 | .ret=>some .ret
def zw8 (st:LoopState) (pe:Option Code) (ps:Array Tmp) (as body:Code) (D sz:Nat) (l:Fr) (o:Obj):Prop:=
 ∃fn tmps,o= .loop {state:=st,pending:=pe,fn:=fn,tmps:=tmps,params:=ps,assign:=as,body:=body,defers:=D}∧tmps.size=sz∧ ∀t v,look l t=some v→tmps.getD t undef=v
def zrV (ps:Array Tmp) (as body:Code) (D sz:Nat) (l:Fr):Res:= .inv (zw8 .busy none ps as body D sz l)
def zhQ (e:XE) (ps:Array Tmp) (as body:Code) (D sz:Nat) (l:Fr):Res:= .inv (zw8 (if e.jump.isNone then .ready else .done) e.jump ps as body D sz l)
def zgf:List Nat→List Value→Fr→Fr
 |p::ps,v::vs,l=>zgf ps vs ((p,v)::l)
 |_,_,l=>l
theorem zts (sz:Nat): ∀ (ps:List Nat) (vs:List Value) (l:Fr) (tmps:Array Value),tmps.size=sz→(∀p∈ps,p<sz)→(∀t v,look l t=some v→tmps.getD t undef=v)→
  ((ps.zip vs).foldl (fun t (p:Nat×Value)=>t.setIfInBounds p.1 p.2) tmps).size=sz∧ ∀t v,look (zgf ps vs l) t=some v→((ps.zip vs).foldl (fun t (p:Nat×Value)=>t.setIfInBounds p.1 p.2) tmps).getD t undef=v:=by
 intro ps
 induction ps with
 |nil=>intro vs l tmps h1 _ h3;exact⟨h1,h3⟩
 |cons p ps ih=>
  intro vs l tmps h1 h2 h3
  cases vs with
  |nil=>exact⟨h1,h3⟩
  |cons v vs=>
   refine ih vs ((p,v)::l) (tmps.setIfInBounds p v) (by simpa using h1) (fun q hq=>h2 q (List.mem_cons_of_mem _ hq)) fun t u ht=>?_
   simp only[look] at ht
   have hp:=h2 p (List.mem_cons_self ..)
   by_cases e:p=t
   ·subst e
    rw[if_pos rfl] at ht
    cases ht
    simp [Array.getElem?_setIfInBounds,h1,hp]
   ·rw[if_neg e] at ht
    have:=h3 t u ht
    simp only[Array.getD_eq_getD_getElem?] at this⊢
    rw[Array.getElem?_setIfInBounds_ne e]
    exact this
def zrW (b:Nat) (r r':Res) (k:za→Fr→zb→Prop) (G:za) (l:Fr) (H:zb):Prop:=zq H b=some r∧k G l (z7 H b r')
def zyN (lr:Nat) (ps:Array Tmp) (as body:Code) (D sz:Nat) (l0:Fr) (R:Value→za→zb→Prop) (_:Tok R) (e:XE) (G:za) (l:Fr) (H:zb):Prop:=
 zq H lr=some (zrV ps as body D sz l0)∧R (.bool e.jump.isNone) G (z7 H lr (zhQ e ps as body D sz l0))
theorem zb8.of {P:Program} {T:Tys} (hT:zR P T) (keep:List Nat) {sz lr:Nat} {ps:Array Tmp} {as body:Code} {D:Nat} {l:Fr} {args:List Value} {G:za} {H:zb} {R:Value→za→zb→Prop}
  (hps:args.length=ps.size) (hok:(ps.toList.all (fun p=>decide (p<sz))&&zfr as&&zfr body&&zaM sz as&&zaM sz body)=true)
  (hf:zq H lr=some (zhQ .normal ps as body D sz l))
  (h:wpC P T sz keep as G (zgf ps.toList args l) H (zdJ (zrW lr (zhQ .normal ps as body D sz l) (zrV ps as body D sz l) fun G1 l1 H1=>wpC P T sz keep body G1 l1 H1 (zyN lr ps as body D sz l R .mk)) (fun _ _ _ _=>False) .mk .mk)):zb8 P lr args G H R:=by
 intro E w hw
 simp only[Bool.and_eq_true] at hok
 obtain⟨⟨⟨⟨hplt,hc1⟩,hc2⟩,hl1⟩,hl2⟩:=hok
 obtain⟨o,ho,⟨fn,tmps,rfl,hsz,hfr⟩,hnc⟩:=hw.find hf
 obtain⟨hsz2,hfr2⟩:=zts sz ps.toList args l tmps hsz (fun p hp=>by simpa using List.all_eq_true.1 hplt p hp) hfr
 have htm:(ps.zip args.toArray).foldl (fun t (p:Nat×Value)=>t.setIfInBounds p.1 p.2) tmps=(ps.toList.zip args).foldl (fun t (p:Nat×Value)=>t.setIfInBounds p.1 p.2) tmps:=by
  rw[←Array.foldl_toList]
  simp
 have hw0:HeapOk ⟨E.os,E.out,[],E.mine++E.outer⟩ G H w:=⟨hw.env,hw.pers,hw.own,hw.sep,by simpa using hw.dfr⟩
 refine⟨fn,_,as,body,run_yield ho (by simpa using hps),roundIn_of_wpIn trivial ?_⟩
 show as.wpIn (FF (some lr)) 0 P _ _ w
 refine zhM hT as (fun _=>hc1) hl1 h _ w _ (E:=⟨E.os,E.out,[],E.mine++E.outer⟩) ⟨by rw[show((ps.zip args.toArray).foldl _ tmps)=_ from htm];exact hsz2,rfl,by rw[show((ps.zip args.toArray).foldl _ tmps)=_ from htm];exact hfr2,hw0⟩ ?_
 intro E1 e G1 l1 H1 a1 w1 _ hE1 hle1 hs1 hk1
 have hE1:=hE1 rfl
 subst hE1
 cases e with
 |exit id=>exact hk1.elim
 |ret=>exact hk1.elim
 |normal=>
  obtain⟨hf1,hk1⟩:=hk1
  obtain⟨o1,ho1,⟨fn1,tmps1,rfl,hsz1,hfr1⟩,hnc1⟩:=hs1.heap.find hf1
  refine⟨_,run_beginRound ho1 rfl,?_⟩
  have hlt1:=(Array.getElem?_eq_some_iff.1 ho1).1
  have hw2:=hs1.heap.set (w':=w1.putObj lr (.loop {state:= .busy,pending:=none,fn:=fn1,tmps:=tmps1,params:=ps,assign:=as,body:=body,defers:=D})) hf1 (World.putObj_heap_same hlt1) (r':=zrV ps as body D sz l) ⟨⟨fn1,tmps1,rfl,hsz1,hfr1⟩,trivial⟩ (fun c hc=>World.putObj_heap_other hc) ⟨rfl,rfl⟩
  show body.wpIn (FF (some lr)) 0 P _ _ _
  refine zhM hT body (fun _=>hc2) hl2 hk1 _ _ _ (E:=⟨E.os,E.out,[],E.mine++E.outer⟩) ⟨hs1.size,hs1.defers,hs1.fr,hw2⟩ ?_
  intro E2 e2 G2 l2 H2 a2 w2 _ hE2 hle2 hs2 hk2
  have hE2:=hE2 rfl
  subst hE2
  obtain⟨hf2,hk2⟩:=hk2
  obtain⟨o2,ho2,⟨fn2,tmps2,rfl,hsz3,hfr3⟩,hnc2⟩:=hs2.heap.find hf2
  have hlt2:=(Array.getElem?_eq_some_iff.1 ho2).1
  have hw3:=hs2.heap.set (w':=w2.putObj lr (.loop {state:=if e2.jump.isNone then .ready else .done,pending:=e2.jump,fn:=fn2,tmps:=tmps2,params:=ps,assign:=as,body:=body,defers:=D})) hf2 (World.putObj_heap_same hlt2) (r':=zhQ e2 ps as body D sz l) ⟨⟨fn2,tmps2,rfl,hsz3,hfr3⟩,trivial⟩ (fun c hc=>World.putObj_heap_other hc) ⟨rfl,rfl⟩
  have fin: ∃v w',(Instr.endRound lr e2.jump).run P w2= .ok v w'∧ ∃v' G' H',Ending.returned v= .returned v'∧PLe G G'∧HeapOk E G' H' w'∧R v' G' H':=
   ⟨_,_,run_endRound e2.jump ho2,_,G2,_,rfl,hle1.trans hle2,⟨hw3.env,hw3.pers,hw3.own,hw3.sep,by simpa using hw3.dfr⟩,hk2⟩
  cases e2 with
  |normal=>exact fin
  |exit id=>exact fin
  |ret=>exact fin
theorem zl4 (H:zb) (b:Nat) (r:Res):(z8 H b).Sublist (z7 H b r):=by
 induction H with
 |nil=>exact List.Sublist.refl _
 |cons p H ih=>
  obtain⟨k,s⟩:=p
  simp only[z8,z7]
  split
  ·exact List.Sublist.cons _ (List.Sublist.refl _)
  ·exact ih.cons_cons _
def zyO (lr:Nat) (ps:Array Tmp) (as body:Code) (D sz:Nat) (l:Fr) (K:zaI) (_:Tok K) (G:za) (H:zb):Prop:=
 ∃e:XE,zq H lr=some (zhQ e ps as body D sz l)∧K e G l (z8 H lr)
theorem Tri.rangeF {P:Program} {sz:Nat} {g:Operand} {ps:Array Tmp} {as body:Code} {G:za} {l:Fr} {H:zb} {K:zaI} {gf:FuncId} {caps:Array Value}
  (hg:ev l g=some (.func (.func gf) #[] caps)) (hc:Callee P gf)
  (h: ∀lr D,Sep G (lr::zm H)→FnT P gf (.func (.yield lr) #[] #[]::caps.toList) G ((lr,zhQ .normal ps as body D sz l)::H) fun _ G' H'=>zyO lr ps as body D sz l K .mk G' H'):Tri P sz (.rangeFunc g ps as body) G l H K:=by
 intro E a w Q hs hk
 refine(wpIn_wide (n:=0)).1 (wpIn_rangeFunc ?_)
 intro fn _
 have hga:a.eval g= .func (.func gf) #[] caps:=hs.ev hg
 obtain⟨W1,hW1⟩: ∃W1,(w.alloc (.deferred (some []))).alloc (.loop {state:= .ready,pending:=none,fn:=fn,tmps:=a.tmps,params:=ps,assign:=as,body:=body,defers:=w.heap.size})=W1:=⟨_,rfl⟩
 have hw:=hs.heap
 have hsz:(w.alloc (.deferred (some []))).heap.size=w.heap.size+1:=by simp [zfD]
 have hD1:(w.alloc (.deferred (some []))).heap[w.heap.size]? =some (.deferred (some [])):=World.alloc_heap_new w _
 have hold: ∀b,b<w.heap.size→(w.alloc (.deferred (some []))).heap[b]? =w.heap[b]? :=fun b hb=>by
  rw[zfD,Array.getElem?_push,if_neg (Nat.ne_of_lt hb)]
 have hw1:HeapOk ⟨E.os,E.out,w.heap.size::E.mine,E.outer⟩ G H (w.alloc (.deferred (some []))):=by
  refine⟨hw.env,fun b o hb=>?_,fun p hp=>?_,hw.sep,?_,fun D hD=>?_⟩
  ·have h1:=hw.pers b o hb
   rw[hold b (Array.getElem?_eq_some_iff.1 h1).1];exact h1
  ·obtain⟨o,h1,h2⟩:=hw.own p hp
   exact⟨o,by rw[hold _ (Array.getElem?_eq_some_iff.1 h1).1];exact h1,h2⟩
  ·simp only[List.cons_append,List.nodup_cons]
   refine⟨fun hm=>?_,hw.dfr.1⟩
   exact Nat.lt_irrefl _ (Array.getElem?_eq_some_iff.1 (hw.dfr.2 _ hm).1).1
  ·simp only[List.cons_append,List.mem_cons] at hD
   rcases hD with rfl|hD
   ·exact⟨hD1,hw.fresh.1.1⟩
   ·have h1:=(hw.dfr.2 D hD).1
    exact⟨by rw[hold _ (Array.getElem?_eq_some_iff.1 h1).1];exact h1,(hw.dfr.2 D hD).2⟩
 have hw2:HeapOk ⟨E.os,E.out,w.heap.size::E.mine,E.outer⟩ G ((w.heap.size+1,zhQ .normal ps as body w.heap.size sz l)::H) W1:=by
  have:=hw1.new (o:= .loop {state:= .ready,pending:=none,fn:=fn,tmps:=a.tmps,params:=ps,assign:=as,body:=body,defers:=w.heap.size}) (r:=zhQ .normal ps as body w.heap.size sz l) ⟨⟨fn,a.tmps,rfl,hs.size,hs.fr⟩,trivial⟩
  rw[hsz,hW1] at this
  exact this
 have hF:=h (w.heap.size+1) w.heap.size hw2.sep
 have hcall:=hF.calls hc hw2
 have hinv:(callFunc gf (#[.func (.yield (w.heap.size+1)) #[] #[]]++caps)).run P W1= .ok (.enter gf (#[.func (.yield (w.heap.size+1)) #[] #[]]++caps)) W1:=by
  obtain⟨fn',c',hfn,hbody,hname⟩:=hc
  have hname': ¬fn'.name= "runtime.NumGoroutine" :=by simpa using hname
  simp [callFunc,hfn,hname',hbody]
 refine⟨w.heap.size+1,[zq1 w.heap.size],W1,{target:= .fn (.func gf) caps,args:= #[.func (.yield (w.heap.size+1)) #[] #[]]},W1,gf,
  #[.func (.yield (w.heap.size+1)) #[] #[]]++caps,W1,?_,?_,fun _ _=>trivial,?_,fun hx=>by simp [Fence.wide] at hx,?_⟩
 ·rw[←hW1];exact run_enterLoop_outer _ _ _ _ _
 ·simp only[resolve,hga]
  simp [go_sem]
 ·simp only[invoke];exact hinv
 ·refine callsIn_wide.2 ?_
  have hargs:(Value.func (.yield (w.heap.size+1)) #[] #[]::caps.toList).toArray= #[.func (.yield (w.heap.size+1)) #[] #[]]++caps:=by apply Array.ext';simp
  rw[hargs] at hcall
  refine hcall.mono ?_
  rintro _ W3 ⟨v,G',H',rfl,hle,hok,e,hf,hk3⟩
  obtain⟨o,ho,⟨fn3,tmps3,rfl,hsz3,hfr3⟩,hnc3⟩:=hok.find hf
  have hlt:=(Array.getElem?_eq_some_iff.1 ho).1
  have hst:(if e.jump.isNone then LoopState.ready else LoopState.done)≠ .busy:=by split <;> simp
  have hw4:=hok.set (w':=W3.putObj (w.heap.size+1) (.loop {state:= .exhausted,pending:=e.jump,fn:=fn3,tmps:=tmps3,params:=ps,assign:=as,body:=body,defers:=w.heap.size})) hf (World.putObj_heap_same hlt) (r':= .inv fun _=>True) ⟨trivial,trivial⟩ (fun c hc=>World.putObj_heap_other hc) ⟨rfl,rfl⟩
  have hw5:=hw4.sub (zl4 H' (w.heap.size+1) _)
  have hsim:Sim ⟨E.os,E.out,w.heap.size::E.mine,E.outer⟩ sz G' l (z8 H' (w.heap.size+1)) {a with defers:=[zq1 w.heap.size]++a.defers} (W3.putObj (w.heap.size+1) (.loop {state:= .exhausted,pending:=e.jump,fn:=fn3,tmps:=tmps3,params:=ps,assign:=as,body:=body,defers:=w.heap.size})):=
   ⟨hs.size,by simp [hs.defers],hs.fr,hw5⟩
  have hq:=hk ⟨E.os,E.out,w.heap.size::E.mine,E.outer⟩ e G' l _ _ _ ⟨rfl,rfl,rfl⟩ hle hsim hk3
  refine⟨e.jump,_,run_endLoop ho hst,?_⟩
  cases e with
  |normal=>exact hq
  |exit id=>exact wpIn_exit hq
  |ret=>exact wpIn_ret hq
theorem zb8.mono {P:Program} {lr:Nat} {args:List Value} {G:za} {H:zb} {R R':Value→za→zb→Prop} (h:zb8 P lr args G H R) (hr: ∀v G' H',PLe G G'→Sep G' (zm H')→R v G' H'→R' v G' H'):zb8 P lr args G H R':=by
 intro E w hw
 obtain⟨fn,tmps,as,body,hy,hF,hround⟩:=h w hw
 refine⟨fn,tmps,as,body,hy,hF,fun c cs hroom=>?_⟩
 obtain⟨e,w',⟨v,G',H',rfl,h1,h2,h3⟩,hcomes⟩:=hround c cs hroom
 exact⟨.returned v,w',⟨v,G',H',rfl,h1,h2,hr v G' H' h1 h2.sep h3⟩,hcomes⟩
theorem zb8.upd {P:Program} {lr:Nat} {args:List Value} {G:za} {H:zb} {R:Value→za→zb→Prop} (h:zb8 P lr args G H fun v G' H'=>Upd G' H' fun G2 H2=>R v G2 H2):zb8 P lr args G H R:=by
 intro E w hw
 obtain⟨fn,tmps,as,body,hy,hF,hround⟩:=h w hw
 refine⟨fn,tmps,as,body,hy,hF,fun c cs hroom=>?_⟩
 obtain⟨e,w',⟨v,G',H',rfl,h1,h2,h3⟩,hcomes⟩:=hround c cs hroom
 obtain⟨G2,H2,g1,g2,g3⟩:=h3 w' h2
 exact⟨.returned v,w',⟨v,G2,H2,rfl,h1.trans g1,g2,g3⟩,hcomes⟩
def zld (lr:Nat) (Rr:XE→Res) (Rb:Res) (R:Value→za→zb→Prop) (_:Tok R) (e:XE) (G:za) (l:Fr) (H:zb):Prop:=
 zq H lr=some Rb∧R (.bool e.jump.isNone) G (z7 H lr (Rr e))
def noK (_:XE) (_:za) (_:Fr) (_:zb):Prop:=False
theorem Tri.rangeF2 {P:Program} {T:Tys} (hT:zR P T) (keep:List Nat) {sz:Nat} {g:Operand} {ps:Array Tmp} {as body:Code} {G:za} {l:Fr} {H:zb} {K:zaI} {gf:FuncId} {caps:Array Value}
  (hg:ev l g=some (.func (.func gf) #[] caps)) (hc:Callee P gf) (hok:(ps.toList.all (fun p=>decide (p<sz))&&zfr as&&zfr body&&zaM sz as&&zaM sz body)=true)
  (h: ∀ (lr:Nat) (Rr:XE→Res) (Rb:Res),Sep G (lr::zm H)→
   (∀ {args:List Value} {G1:za} {H1:zb} {R1:Value→za→zb→Prop},args.length=ps.size→zq H1 lr=some (Rr .normal)→
    wpC P T sz keep as G1 (zgf ps.toList args l) H1 (zdJ (zrW lr (Rr .normal) Rb fun G2 l2 H2=>wpC P T sz keep body G2 l2 H2 (zld lr Rr Rb R1 .mk)) noK .mk .mk)→zb8 P lr args G1 H1 R1)→
   FnT P gf (.func (.yield lr) #[] #[]::caps.toList) G ((lr,Rr .normal)::H) fun _ G' H'=> ∃e:XE,zq H' lr=some (Rr e)∧K e G' l (z8 H' lr)):Tri P sz (.rangeFunc g ps as body) G l H K:=by
 refine Tri.rangeF hg hc fun lr D hs=>?_
 refine h lr (fun e=>zhQ e ps as body D sz l) (zrV ps as body D sz l) hs fun h1 h2 h3=>?_
 exact zb8.of hT keep h1 hok h2 h3
section
variable (b lr:Nat) (r r' Rb:Res) (Rr:XE→Res) (R:Value→za→zb→Prop) (k:za→Fr→zb→Prop) (G:za) (l:Fr) (H:zb)
theorem zvG:zrW b r r' k G l H=(zq H b=some r∧k G l (z7 H b r')):=rfl
theorem znq:zld lr Rr Rb R .mk .normal G l H=(zq H lr=some Rb∧R (.bool true) G (z7 H lr (Rr .normal))):=rfl
theorem zrX:zld lr Rr Rb R .mk .ret G l H=(zq H lr=some Rb∧R (.bool false) G (z7 H lr (Rr .ret))):=rfl
theorem zpR (id:Nat):zld lr Rr Rb R .mk (.exit id) G l H=(zq H lr=some Rb∧R (.bool false) G (z7 H lr (Rr (.exit id)))):=rfl
theorem zpS (p:Nat) (ps:List Nat) (v:Value) (vs:List Value):zgf (p::ps) (v::vs) l=zgf ps vs ((p,v)::l):=rfl
theorem zrY (vs:List Value):zgf [] vs l=l:=by cases vs <;> rfl
end
attribute [go_sem] zvG znq zrX zpR zpS zrY
end Go.V
namespace Go.V
variable {E:Env}
inductive Sk where
 |run
 |cut
 |seq (a b:Sk)
 |cond (a b:Sk)
 |block (a:Sk)
def wpS (P:Program) (T:Tys) (sz:Nat) (keep:List Nat) (s:Sk) (c:Code) (G:za) (l:Fr) (H:zb) (K:zaI) (_:Tok c:= .mk) (_:Tok K:= .mk):Prop:=
 match s,c with
 | .cut,c=>Tri P sz c G l H K
 | .seq a b, .seq x y=>wpS P T sz keep a x G l H (zdJ (fun G' l' H'=>wpS P T sz keep b y G' l' H' K) K .mk .mk)
 | .cond a b, .cond e x y=>zC (ev l e) fun v=>zhL v (wpS P T sz keep a x G l H K) (wpS P T sz keep b y G l H K)
 | .block a, .block id c=>wpS P T sz keep a c G l H (zdV id K .mk)
 |_,c=>wpC P T sz keep c G l H K
theorem ziK {P:Program} {T:Tys} (hT:zR P T) {sz:Nat} {keep:List Nat}: ∀ (s:Sk) (c:Code) {G:za} {l:Fr} {H:zb} {K:zaI},zaM sz c=true→wpS P T sz keep s c G l H K→Tri P sz c G l H K:=by
 intro s
 induction s with
 |run=>intro c G l H K hlt h;unfold wpS at h;exact zcY hT c hlt h
 |cut=>intro c G l H K hlt h;unfold wpS at h;exact h
 |seq a b iha ihb=>
  intro c G l H K hlt h
  cases c with
  |seq x y=>
   simp only[zaM,Bool.and_eq_true] at hlt
   unfold wpS at h
   intro E a w Q hs hk
   refine wp_seq (iha x hlt.1 h a w _ hs fun E' e G' l' H' a' w' hE hle hs' hk'=>?_)
   cases e with
   |normal=>exact ihb y hlt.2 hk' a' w' Q hs' fun E2 e G2 l2 H2 a2 w2 hE2 hle2 hs2 hk2=>hk E2 e G2 l2 H2 a2 w2 (hE.trans hE2) (hle.trans hle2) hs2 hk2
   |exit id=>exact hk E' (.exit id) G' l' H' a' w' hE hle hs' hk'
   |ret=>exact hk E' .ret G' l' H' a' w' hE hle hs' hk'
  |_=>unfold wpS at h;exact zcY hT _ hlt h
 |cond a b iha ihb=>
  intro c G l H K hlt h
  cases c with
  |cond e x y=>
   simp only[zaM,Bool.and_eq_true] at hlt
   unfold wpS at h
   intro E a w Q hs hk
   have h1:=zt hs h
   unfold zhL at h1
   split at h1
   ·rename_i b hb
    exact wpIn_wide.1 (wpIn_cond_split (n:=0) hb (fun e=>wpIn_wide.2 (iha x hlt.1 (h1.1 e) a w Q hs hk)) (fun e=>wpIn_wide.2 (ihb y hlt.2 (h1.2 e) a w Q hs hk)))
   ·exact h1.elim
  |_=>unfold wpS at h;exact zcY hT _ hlt h
 |block a iha=>
  intro c G l H K hlt h
  cases c with
  |block id c=>
   unfold wpS at h
   exact Tri.block (iha c hlt h)
  |_=>unfold wpS at h;exact zcY hT _ hlt h
theorem zxH {P:Program} {T:Tys} {sz:Nat} {keep:List Nat} {c:Code} {G:za} {l:Fr} {H:zb} {K:zaI}:wpS P T sz keep .cut c G l H K=Tri P sz c G l H K:=by unfold wpS;rfl
theorem zxI {P:Program} {T:Tys} {sz:Nat} {keep:List Nat} {c:Code} {G:za} {l:Fr} {H:zb} {K:zaI}:wpS P T sz keep .run c G l H K=wpC P T sz keep c G l H K:=by unfold wpS;rfl
theorem zxJ {P:Program} {T:Tys} {sz:Nat} {keep:List Nat} {a b:Sk} {x y:Code} {G:za} {l:Fr} {H:zb} {K:zaI}:wpS P T sz keep (.seq a b) (.seq x y) G l H K=wpS P T sz keep a x G l H (zdJ (fun G' l' H'=>wpS P T sz keep b y G' l' H' K) K .mk .mk):=by rw[wpS]
theorem zvH {P:Program} {T:Tys} {sz:Nat} {keep:List Nat} {a b:Sk} {e:Operand} {x y:Code} {G:za} {l:Fr} {H:zb} {K:zaI}:wpS P T sz keep (.cond a b) (.cond e x y) G l H K=zC (ev l e) fun v=>zhL v (wpS P T sz keep a x G l H K) (wpS P T sz keep b y G l H K):=by rw[wpS]
theorem ztt {P:Program} {T:Tys} {sz:Nat} {keep:List Nat} {a:Sk} {id:Nat} {c:Code} {G:za} {l:Fr} {H:zb} {K:zaI}:wpS P T sz keep (.block a) (.block id c) G l H K=wpS P T sz keep a c G l H (zdV id K .mk):=by rw[wpS]
attribute [go_sem] zxH zxI zxJ zvH ztt
theorem Tri.runS {P:Program} {T:Tys} (hT:zR P T) {sz:Nat} (keep:List Nat) (s:Sk) {c:Code} {G:za} {l:Fr} {H:zb} {K:zaI} (hlt:zaM sz c=true) (h:wpS P T sz keep s c G l H K):Tri P sz c G l H K:=
 fun E a w Q hs hk=>ziK hT s c hlt h a w Q hs hk
theorem Tri.sepT {P:Program} {sz:Nat} {c:Code} {G:za} {l:Fr} {H:zb} {K:zaI} (h:Sep G (zm H)→Tri P sz c G l H K):Tri P sz c G l H K:=fun E a w Q hs hk=>h hs.heap.sep a w Q hs hk
theorem Sep.suf {G:za} {H':zb}: ∀ {H:zb},Sep G (zm (H++H'))→Sep G (zm H')
 | [],h=>h
 |_::H,h=>Sep.suf (H:=H) h.2
theorem zQ.neFind {H:zb} {b n:Nat} {r:Res} (h:zQ n (zm H)) (hf:zq H b=some r):n≠b:=by
 have:=zfg hf
 intro e;subst e
 have hm:n∈zm H:=List.mem_map.2 ⟨_,this,rfl⟩
 clear this hf
 induction H with
 |nil=>cases hm
 |cons p H ih=>
  rcases List.mem_cons.1 hm with e|e
  ·exact h.1 e
  ·exact ih h.2 e
theorem Tri.live {P:Program} {sz:Nat} (live:List Nat) {c:Code} {G:za} {l:Fr} {H:zb} {K:zaI} (h:Tri P sz c G (zD live l) H K):Tri P sz c G l H K:=
 fun E a w Q hs hk=>h a w Q (hs.weak (zaP live l)) hk
def onlyN (M:za→Fr→zb→Prop) (_:Tok M:= .mk):zaI:=fun e G l H=>match e with
 | .normal=>Upd G H fun G' H'=>M G' l H'
 |_=>False
theorem zdv {M:za→Fr→zb→Prop} {G:za} {l:Fr} {H:zb}:onlyN M .mk .normal G l H=Upd G H fun G' H'=>M G' l H':=rfl
theorem Tri.onlyN {P:Program} {sz:Nat} {c:Code} {G:za} {l:Fr} {H:zb} {K:zaI} {M:za→Fr→zb→Prop} (h:Tri P sz c G l H (V.onlyN M))
  (hk: ∀G' l' H',PLe G G'→Sep G' (zm H')→M G' l' H'→K .normal G' l' H'):Tri P sz c G l H K:=by
 intro E a w Q hs hq
 refine h a w Q hs fun E' e G' l' H' a' w' hE hle hs' hk'=>?_
 cases e with
 |normal=>
  obtain⟨G2,H2,q1,q2,q3⟩:=hk' w' hs'.heap
  exact hq E' .normal G2 l' H2 a' w' hE (hle.trans q1) ⟨hs'.size,hs'.defers,hs'.fr,q2⟩ (hk G2 l' H2 (hle.trans q1) q2.sep q3)
 |exit id=>exact hk'.elim
 |ret=>exact hk'.elim
theorem zpT (l:Fr) (ts:List Nat) (H:zb) (a:Option Addr) (n c:Nat):znB l ts H (some (.slice a n c))=zcN l ts H:=rfl
attribute [go_sem] zdv zpT
theorem FnT.rd {P:Program} {f:FuncId} {args:List Value} {G:za} {H:zb} (H':zb) {v:Value} {R:Value→za→zb→Prop} (h: ∀R':Value→za→zb→Prop,R' v G H'→FnT P f args G H' R')
  (hs1: ∀f:Nat×Res→Nat,(H'.map f).sum≤(H.map f).sum) (hs2: ∀f:Nat×Res→Nat,(H.map f).sum≤(H'.map f).sum) (hR:R v G H):FnT P f args G H R:=
 FnT.upd (FnT.leave (h _ (Upd.go (H':=H) hs2 (Upd.now hR))) hs1)
def zfs:List Nat→Option Code→Option Code
 | [],c=>c
 |0::p,some (.seq x _)=>zfs p (some x)
 |_::p,some (.seq _ y)=>zfs p (some y)
 |0::p,some (.cond _ x _)=>zfs p (some x)
 |_::p,some (.cond _ _ y)=>zfs p (some y)
 |_::p,some (.block _ c)=>zfs p (some c)
 |_::p,some (.loop c)=>zfs p (some c)
 |_::p,some (.scope c)=>zfs p (some c)
 |0::p,some (.rangeFunc _ _ x _)=>zfs p (some x)
 |_::p,some (.rangeFunc _ _ _ y)=>zfs p (some y)
 |_,_=>none
def piece (p:List Nat) (f:Func):Code:=(zfs p f.body).getD .skip
theorem zvI {p:List Nat} {f:Func} {c:Code} (h:zfs p f.body=some c):piece p f=c:=by unfold piece;rw[h];rfl
theorem Tri.piece {P:Program} {sz:Nat} {p:List Nat} {f:Func} {c:Code} (hb:zfs p f.body=some c) {G:za} {l:Fr} {H:zb} {K:zaI} (h:Tri P sz c G l H K):Tri P sz (V.piece p f) G l H K:=zvI hb▸h
theorem Tri.isPiece {P:Program} {sz:Nat} (p:List Nat) (f:Func) {c:Code} (hb:(V.piece p f)=c) {G:za} {l:Fr} {H:zb} {K:zaI} (h:Tri P sz (V.piece p f) G l H K):Tri P sz c G l H K:=hb▸h
theorem Tri.loopS {P:Program} {T:Tys} (hT:zR P T) {sz:Nat} (keep:List Nat) (s:Sk) {c:Code} {G:za} {l:Fr} {H:zb} {K:zaI} (hlt:zaM sz c=true) (live:List Nat)
  (I:Nat→za→Fr→zb→Prop) (n:Nat) (h0:Upd G H fun G' H'=>I n G' (zD live l) H')
  (round: ∀n G' l' H',PLe G G'→Sep G' (zm H')→I n G' l' H'→wpS P T sz keep s c G' l' H' (zdJ (fun G'' l'' H''=>Upd G'' H'' fun G0 H0=> ∃m,m<n∧I m G0 (zD live l'') H0) K .mk .mk)):
  Tri P sz (.loop c) G l H K:=by
 intro E a w Q hs hk
 obtain⟨G1,H1,g1,g2,g3⟩:=h0 w hs.heap
 refine zkb (fun n a w=> ∃E' G' l' H',Env.le E E'∧PLe G G'∧Sim E' sz G' l' H' a w∧I n G' l' H') ?_ n a w ⟨E,G1,_,H1,Env.le.refl E,g1,⟨hs.size,hs.defers,(hs.weak (zaP live l)).fr,g2⟩,g3⟩
 rintro n a w ⟨E',G',l',H',hE,hle,hs',hI⟩
 refine ziK hT s c hlt (round n G' l' H' hle hs'.heap.sep hI) a w _ hs' fun E2 e G2 l2 H2 a2 w2 hE2 hle2 hs2 hk2=>?_
 cases e with
 |normal=>
  obtain⟨G3,H3,q1,q2,m,hm,hI2⟩:=hk2 w2 hs2.heap
  exact⟨m,hm,E2,G3,_,H3,hE.trans hE2,(hle.trans hle2).trans q1,⟨hs2.size,hs2.defers,(hs2.weak (zaP live l2)).fr,q2⟩,hI2⟩
 |exit id=>exact hk E2 (.exit id) G2 l2 H2 a2 w2 (hE.trans hE2) (hle.trans hle2) hs2 hk2
 |ret=>exact hk E2 .ret G2 l2 H2 a2 w2 (hE.trans hE2) (hle.trans hle2) hs2 hk2
theorem FnT.bodyS {P:Program} {T:Tys} (hT:zR P T) {f:FuncId} {fn:Func} {c:Code} (keep:List Nat) (s:Sk) (hf:P.funcs[f]? =some fn) (hb:fn.body=some c) (hn:(fn.name== "runtime.NumGoroutine")=false)
  {args:List Value} {G:za} {H:zb} {R:Value→za→zb→Prop} (hlt:zaM fn.ntmps c=true) (hargs:args.length≤fn.ntmps)
  (h:Sep G (zm H)→wpS P T fn.ntmps keep s c G (zdW 0 args) H (zlZ T fn.results.toList (zv R) .mk)):FnT P f args G H R:=by
 exact FnT.upd (FnT.ofT hT hf hb hn hargs fun hs=>ziK hT s c hlt (h hs))
end Go.V
namespace Go.V
theorem Upd.shareAll: ∀ (F:zb) {G:za} {H:zb} {k:za→zb→Prop},(∀p∈F,∃xs sp e,p.2=Res.cells xs sp e)→Sep G (zm (F++H))→
  (∀G',PLe G G'→Sep G' (zm H)→(∀p∈F,∀xs sp e,p.2=Res.cells xs sp e→Row G' (some ⟨p.1,0,none⟩) xs)→k G' H)→Upd G (F++H) k
 | [],G,H,k,_,hs,h=>Upd.now (h G (PLe.refl _) hs fun p hp=>by cases hp)
 | (b,r)::F,G,H,k,hF,hs,h=>by
  obtain⟨xs,sp,e,hr⟩:=hF (b,r) (List.mem_cons_self ..)
  simp only at hr
  subst hr
  refine Upd.trans (Upd.shareRow hs.1.1 fun G1 hle1 hs1 hr1=>?_)
  refine Upd.shareAll F (fun p hp=>hF p (List.mem_cons_of_mem _ hp)) hs1 fun G2 hle2 hs2 hall=>h G2 (hle1.trans hle2) hs2 fun p hp xs' sp' e' hp'=>?_
  rcases List.mem_cons.1 hp with rfl|hp
  ·cases hp'
   exact hr1.mono hle2
  ·exact hall p hp xs' sp' e' hp'
structure Fam (e:TypeId) (vs:List Value) (M:List (List Value)) (F:zb):Prop where
 lenv:vs.length=M.length
 lenF:F.length=M.length
 get: ∀i (h:i<M.length) (h1:i<vs.length) (h2:i<F.length),∃b c sp,vs[i]= .slice (some ⟨b,0,none⟩) M[i].length c∧F[i]=(b, .cells M[i] sp e)∧M[i].length+sp.length=c
theorem Fam.nil (e:TypeId):Fam e [] [] []:=⟨rfl,rfl,fun i h=>by cases h⟩
theorem Fam.snoc {e:TypeId} {vs:List Value} {M:List (List Value)} {F:zb} (h:Fam e vs M F) {b c:Nat} {r sp:List Value} (hc:r.length+sp.length=c):
  Fam e (vs++[.slice (some ⟨b,0,none⟩) r.length c]) (M++[r]) (F++[(b, .cells r sp e)]):=by
 have h1:=h.lenv
 have h2:=h.lenF
 refine⟨by simp [h1],by simp [h2],fun i hi hi1 hi2=>?_⟩
 rcases Nat.lt_or_ge i M.length with g|g
 ·obtain⟨b',c',sp',e1,e2,e3⟩:=h.get i g Ko Ko
  refine⟨b',c',sp',?_,?_,?_⟩
  ·rw[List.getElem_append_left Ko,List.getElem_append_left g];exact e1
  ·rw[List.getElem_append_left Ko,List.getElem_append_left g];exact e2
  ·rw[List.getElem_append_left g];exact e3
 ·rw[List.length_append,List.length_singleton] at hi
  obtain rfl:i=M.length:=by omega
  refine⟨b,c,sp,?_,?_,?_⟩
  ·rw[List.getElem_append_right Ko,List.getElem_append_right Ko];simp [h1]
  ·rw[List.getElem_append_right Ko,List.getElem_append_right Ko];simp [h2]
  ·rw[List.getElem_append_right Ko];simp [hc]
theorem zqr (f:Nat×Res→Nat): ∀ (F:zb) (i:Nat) (h:i<F.length),(F.map f).sum=f F[i]+((F.eraseIdx i).map f).sum
 | [],i,h=>by cases h
 |p::F,0,h=>rfl
 |p::F,i+1,h=>by
  have:=zqr f F i (by simpa using h)
  simp only[List.map_cons,List.sum_cons,List.getElem_cons_succ,List.eraseIdx_cons_succ]
  omega
theorem zqs (f:Nat×Res→Nat) (x:Nat×Res): ∀ (F:zb) (i:Nat) (h:i<F.length),((F.set i x).map f).sum=f x+((F.eraseIdx i).map f).sum
 | [],i,h=>by cases h
 |p::F,0,h=>rfl
 |p::F,i+1,h=>by
  have:=zqs f x F i (by simpa using h)
  simp only[List.set_cons_succ,List.map_cons,List.sum_cons,List.eraseIdx_cons_succ]
  omega
theorem Fam.out {e:TypeId} {vs:List Value} {M:List (List Value)} {F:zb} (h:Fam e vs M F) {i:Nat} (hi:i<M.length):
  ∃ (b c:Nat) (sp:List Value) (F':zb),vs[i]'(by rw[h.lenv];exact hi)= .slice (some ⟨b,0,none⟩) M[i].length c∧M[i].length+sp.length=c∧(∀f:Nat×Res→Nat,(F.map f).sum=f (b, .cells M[i] sp e)+(F'.map f).sum)∧
   ∀r:List Value,r.length=M[i].length→ ∃F'':zb,Fam e vs (M.set i r) F''∧ ∀f:Nat×Res→Nat,(F''.map f).sum=f (b, .cells r sp e)+(F'.map f).sum:=by
 have hv:=h.lenv
 have hF:=h.lenF
 obtain⟨b,c,sp,e1,e2,e3⟩:=h.get i hi Ko Ko
 refine⟨b,c,sp,F.eraseIdx i,e1,e3,fun f=>?_,fun r hr=>⟨F.set i (b, .cells r sp e),⟨?_,?_,fun j hj h1 h2=>?_⟩,fun f=>zqs f _ F i Ko⟩⟩
 ·rw[zqr f F i Ko,e2]
 ·rw[List.length_set];exact hv
 ·rw[List.length_set,List.length_set];exact hF
 ·rw[List.length_set] at hj
  by_cases hij:i=j
  ·subst hij
   refine⟨b,c,sp,?_,?_,?_⟩
   ·rw[e1,List.getElem_set_self,hr]
   ·rw[List.getElem_set_self,List.getElem_set_self]
   ·rw[List.getElem_set_self,hr];exact e3
  ·obtain⟨b',c',sp',g1,g2,g3⟩:=h.get j hj h1 (by rw[List.length_set] at h2;exact h2)
   refine⟨b',c',sp',?_,?_,?_⟩
   ·rw[List.getElem_set_ne hij];exact g1
   ·rw[List.getElem_set_ne hij,List.getElem_set_ne hij];exact g2
   ·rw[List.getElem_set_ne hij];exact g3
theorem Fam.share {e:TypeId} {vs:List Value} {M:List (List Value)} {F:zb} (h:Fam e vs M F) {G:za} {H:zb} {k:za→zb→Prop} (hs:Sep G (zm (F++H)))
  (hk: ∀G',PLe G G'→Sep G' (zm H)→(∀i (hi:i<M.length) (h1:i<vs.length),∃a c,vs[i]= .slice a M[i].length c∧Row G' a M[i]∧M[i].length≤c)→k G' H):Upd G (F++H) k:=by
 have hv:=h.lenv
 have hF:=h.lenF
 refine Upd.shareAll F (fun p hp=>?_) hs fun G' hle hs' hall=>hk G' hle hs' fun i hi h1=>?_
 ·obtain⟨i,hi,rfl⟩:=List.getElem_of_mem hp
  obtain⟨b,c,sp,_,e2,_⟩:=h.get i Ko Ko hi
  exact⟨_,_,_,by rw[e2]⟩
 ·obtain⟨b,c,sp,e1,e2,e3⟩:=h.get i hi h1 Ko
  have:=hall (F[i]'Ko) (List.getElem_mem _) M[i] sp e (by rw[e2])
  rw[e2] at this
  exact⟨_,c,e1,this,by omega⟩
def zdT (n:Nat) (g:Nat→Bool):List Value:=(List.range n).map fun t=> .bool (g t)
theorem zdw (n:Nat) (g:Nat→Bool):(zdT n g).length=n:=by simp [zdT]
theorem zhR {n:Nat} (g:Nat→Bool) {t:Nat} (h:t<n):(zdT n g)[t]'(by rw[zdw];exact h)= .bool (g t):=by simp [zdT]
theorem rowV_get? {n:Nat} (g:Nat→Bool) {t:Nat} (h:t<n):(zdT n g)[t]? =some (.bool (g t)):=by rw[List.getElem?_eq_getElem (by rw[zdw];exact h),zhR g h]
theorem zle {n:Nat} {g g':Nat→Bool} (h: ∀t,t<n→g t=g' t):zdT n g=zdT n g':=by
 unfold zdT
 refine List.map_congr_left fun t ht=>?_
 rw[h t (List.mem_range.1 ht)]
theorem zvJ {n:Nat} (g:Nat→Bool) {t:Nat} (h:t<n) (x:Bool):zf (zdT n g) t [.bool x]=zdT n fun j=>if j=t then x else g j:=by
 unfold zf
 apply List.ext_getElem
 ·simp [zdw];omega
 ·intro j h1 h2
  rw[zdw] at h2
  rw[zhR _ h2]
  have hl:((zdT n g).take t).length=t:=by rw[List.length_take,zdw];omega
  rcases Nat.lt_trichotomy j t with hj|hj|hj
  ·rw[List.getElem_append_left (by rw[List.length_append,hl];omega),List.getElem_append_left Ko,List.getElem_take,zhR g h2,if_neg Ko]
  ·subst hj
   rw[List.getElem_append_left (by rw[List.length_append,hl];simp),List.getElem_append_right Ko]
   simp [hl]
  ·rw[List.getElem_append_right (by rw[List.length_append,hl];simp;omega),List.getElem_drop,if_neg Ko]
   simp only[List.length_append,hl,List.length_singleton]
   have:(zdT n g)[t+1+(j - (t+1))]'(by rw[zdw];omega)=(zdT n g)[j]'(by rw[zdw];exact h2):=by congr 1;omega
   rw[this,zhR g h2]
theorem zb8.leave {P:Program} {lr:Nat} {args:List Value} {G:za} {H H':zb} {R:Value→za→zb→Prop} (h:zb8 P lr args G H' R) (hs: ∀f:Nat×Res→Nat,(H'.map f).sum≤(H.map f).sum):zb8 P lr args G H R:=fun E w hw=>h w (hw.leave hs)
end Go.V
