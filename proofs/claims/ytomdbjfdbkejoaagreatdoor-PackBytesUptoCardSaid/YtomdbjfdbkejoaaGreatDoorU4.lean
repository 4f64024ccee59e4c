/- A part of the proof, joined of several texts: the verification layer, contracts of functions, plain law. -/
import Derived.Test.YtomdbjfdbkejoaaGreatDoorU3
import Derived.ReadAgain
import Derived.ChangeArms
import Derived.JoinedCond
import Derived.RowKit
import Derived.ChangeOld
import Derived.ChangeCalls
import Derived.WalkKit
import Derived.ProofKit
import Derived.OpenShut
set_option maxHeartbeats 64000000
set_option linter.unusedSimpArgs false
set_option linter.unusedVariables false
set_option linter.unusedSectionVars false
namespace Go.V
def Row (G:zb) (a:Option Addr) (vs:List Value):Prop:=vs=[]∨(Adr a∧zbP G (blk a) (ofs a) vs)
theorem Row.nil (G:zb) (a:Option Addr):Row G a []:= .inl rfl
theorem Row.mono {G G':zb} (hle:PLe G G') {a:Option Addr} {vs:List Value} (h:Row G a vs):Row G' a vs:=
 match h with
 | .inl h=> .inl h
 | .inr h=> .inr ⟨h.1,h.2.mono hle⟩
theorem Row.adr {G:zb} {a:Option Addr} {vs:List Value} (h:Row G a vs) (hl:0<vs.length):Adr a:=by
 rcases h with rfl|h
 ·simp at hl
 ·exact h.1
theorem Row.at {G:zb} {a:Option Addr} {vs:List Value} (h:Row G a vs) (hl:0<vs.length):zbP G (blk a) (ofs a) vs:=by
 rcases h with rfl|h
 ·simp at hl
 ·exact h.2
theorem Row.obj {G:zb} {a:Option Addr} {vs:List Value} (h:Row G a vs) {i:Nat} (hi:i<vs.length) (H:za) (k:Value→Prop):zen G H (blk a) (G (blk a)) (ofs a+i) k=k vs[i]:=
 (h.at (by omega)).obj hi H k
theorem Row.obj0 {G:zb} {a:Option Addr} {vs:List Value} (h:Row G a vs) (hi:0<vs.length) (H:za) (k:Value→Prop):zen G H (blk a) (G (blk a)) (ofs a) k=k vs[0]:=by
 have:=h.obj hi H k
 rwa [Nat.add_zero] at this
theorem Row.objs {G:zb} {a:Option Addr} {vs:List Value} (h:Row G a vs) {i n:Nat} (hn:0<n) (hi:i+n≤vs.length) (H:za) (k:List Value→Prop):zgw G H (blk a) (G (blk a)) (ofs a+i) n k=k ((vs.drop i).take n):=
 (h.at (by omega)).objs hi H k
theorem Row.rdSl {G:zb} {a:Option Addr} {vs:List Value} (h:Row G a vs) {n:Nat} (hn:n≤vs.length) (H:za) (k:List Value→Prop):V.rdSl G H a n k=k (vs.take n):=by
 by_cases h0:n=0
 ·subst h0
  unfold V.rdSl
  split
  ·rw[List.take_zero];exact propext zir
  ·simp
 ·have had:=h.adr (by omega)
  unfold Adr at had
  rw[had,znr,zjF]
  have:=(h.at (by omega)).objs (i:=0) (n:=n) (by omega) H k
  rw[Nat.add_zero] at this
  rw[this,List.drop_zero]
theorem Row.rdSlAll {G:zb} {a:Option Addr} {vs:List Value} (h:Row G a vs) {n:Nat} (hn:n=vs.length) (H:za) (k:List Value→Prop):V.rdSl G H a n k=k vs:=by
 rw[h.rdSl (by omega),List.take_of_length_le (by omega)]
theorem Row.drop {G:zb} {a:Option Addr} {vs:List Value} (h:Row G a vs) {l m s:Nat} (hc:m=l→vs.length≤l * s):Row G (zbn a l m (l * s)) (vs.drop (l * s)):=by
 by_cases hl:vs.length≤l * s
 ·exact .inl (List.drop_eq_nil_of_le hl)
 ·have had:=h.adr (by omega)
  have hrow:=h.at (by omega)
  have hml: ¬m=l:=fun e=>hl (hc e)
  right
  unfold Adr at had
  unfold zbn
  rw[if_neg hml,had]
  simp only[Option.map_some,zbW,zp6,zp7,zp8,true_and]
  obtain⟨cs,e,fr,h1,h2,h3⟩:=hrow
  refine⟨cs,e,fr,h1,by simp;omega,?_⟩
  rw[←List.drop_drop]
  simp only[List.length_drop]
  rw[←List.drop_take,h3]
theorem Row.take {G:zb} {a:Option Addr} {vs:List Value} (h:Row G a vs) (n:Nat):Row G a (vs.take n):=by
 by_cases h0:(vs.take n).length=0
 ·exact .inl (List.eq_nil_of_length_eq_zero h0)
 ·have hv:0<vs.length:=by rw[List.length_take] at h0;omega
  obtain⟨cs,e,fr,h1,h2,h3⟩:=h.at hv
  refine .inr ⟨h.adr hv,cs,e,fr,h1,by simp;omega,?_⟩
  have:=congrArg (·.take n) h3
  simp only[List.take_take] at this
  rw[List.length_take]
  rw[this]
theorem zbP.row {G:zb} {b off:Nat} {vs:List Value} (h:zbP G b off vs):Row G (some ⟨b,off,none⟩) vs:= .inr ⟨rfl,h⟩
def Sl {α:Type} (G:zb) (enc:α→Value) (v:Value) (xs:List α):Prop:= ∃a cap,v= .slice a xs.length cap∧Row G a (xs.map enc)∧xs.length≤cap
def SlM {α:Type} (G:zb) (enc:α→List Value) (v:Value) (xs:List α):Prop:= ∃a cap,v= .slice a xs.length cap∧Row G a (xs.flatMap enc)∧xs.length≤cap
theorem Sl.mono {α:Type} {G G':zb} (hle:PLe G G') {enc:α→Value} {v:Value} {xs:List α} (h:Sl G enc v xs):Sl G' enc v xs:=
 let ⟨a,cap,h1,h2,h3⟩:=h;⟨a,cap,h1,h2.mono hle,h3⟩
theorem Sl.nil {α:Type} (G:zb) (enc:α→Value):Sl G enc (.slice none 0 0) ([]:List α):=⟨none,0,rfl,Row.nil _ _,Nat.le_refl _⟩
theorem zfY {α:Type} {enc:α→List Value} {m:Nat} (hm: ∀x,(enc x).length=m): ∀ (xs:List α) (i:Nat),(xs.flatMap enc).drop (i * m)=(xs.drop i).flatMap enc
 | [],i=>by simp
 |x::xs,0=>by simp
 |x::xs,i+1=>by
  rw[List.flatMap_cons,List.drop_append,List.drop_succ_cons,hm]
  rw[List.drop_eq_nil_of_le (by rw[hm,Nat.succ_mul];omega),List.nil_append]
  rw[show(i+1) * m - m=i * m by rw[Nat.succ_mul];omega]
  exact zfY hm xs i
theorem zbm {α:Type} {enc:α→List Value} {m:Nat} (hm: ∀x,(enc x).length=m) (xs:List α):(xs.flatMap enc).length=xs.length * m:=by
 induction xs with
 |nil=>simp
 |cons x xs ih=>rw[List.flatMap_cons,List.length_append,ih,hm,List.length_cons,Nat.succ_mul];omega
theorem zgV {α:Type} {enc:α→List Value} {m:Nat} (hm: ∀x,(enc x).length=m) (xs:List α) (i:Nat) (hi:i<xs.length):((xs.flatMap enc).drop (i * m)).take m=enc xs[i]:=by
 rw[zfY hm,List.drop_eq_getElem_cons hi,List.flatMap_cons,List.take_append_of_le_length (by rw[hm];exact Nat.le_refl _),List.take_of_length_le (by rw[hm];exact Nat.le_refl _)]
theorem Row.objsM {α:Type} {G:zb} {a:Option Addr} {enc:α→List Value} {m:Nat} {xs:List α} (h:Row G a (xs.flatMap enc)) (hm: ∀x,(enc x).length=m) (hm0:0<m) {i:Nat} (hi:i<xs.length) (H:za) (k:List Value→Prop):zgw G H (blk a) (G (blk a)) (ofs a+i * m) m k=k (enc xs[i]):=by
 have hl:=zbm hm xs
 have:(i+1) * m≤xs.length * m:=Nat.mul_le_mul_right _ hi
 rw[Nat.succ_mul] at this
 rw[h.objs hm0 (by omega),zgV hm xs i hi]
theorem Upd.shareRow {G:zb} {H:za} {b:Nat} {xs sp:List Value} {e:TypeId} {k:zb→za→Prop} (hb:G b=none)
  (h: ∀G',PLe G G'→Sep G' (zm H)→Row G' (some ⟨b,0,none⟩) xs→k G' H):Upd G ((b, .cells xs sp e)::H) k:=
 Upd.share fun fr hs=>h _ (fun c o hc=>by rw[zjf (fun e=>by subst e;rw[hb] at hc;cases hc)];exact hc) hs (zbP.row ⟨_,_,_,zs6 _ _ _,by simp,by simp⟩)
theorem FnT.share {P:Program} {f:FuncId} {args:List Value} {G:zb} {H:za} {R:Value→zb→za→Prop} {b:Nat} {xs sp:List Value} {e:TypeId} (hc:Callee P f) (hb:G b=none)
  (h: ∀G',PLe G G'→Sep G' (zm H)→Row G' (some ⟨b,0,none⟩) xs→FnT P f args G' H R):FnT P f args G ((b, .cells xs sp e)::H) R:=FnT.pre hc (Upd.shareRow hb h)
def zO (H:za) (e:TypeId) (m:Nat) (v:Value) (n:Nat) (xs:List Value) (H':za):Prop:=
 (∃a,v= .slice a 0 0∧n=0∧xs=[]∧H'=H)∨ ∃b cap sp,v= .slice (some ⟨b,0,none⟩) n cap∧H'=(b, .cells xs sp e)::H∧xs.length=n * m∧xs.length+sp.length=cap * m
theorem zjg {α:Type} {f:α→Value} (h: ∀x,zax (f x)=true) (l:List α):(l.map f).all zax=true:=by simp [h]
theorem zu8 (l:List UInt8):(l.map zp).all zax=true:=zjg (fun _=>rfl) l
theorem zxh (k:IntKind) (l:List Int):(l.map (Value.int k)).all zax=true:=zjg (fun _=>rfl) l
theorem zu9 (l:List Bool):(l.map Value.bool).all zax=true:=zjg (fun _=>rfl) l
abbrev str (bs:List UInt8):Value:= .string ⟨bs.toArray⟩
theorem zxi (l:List (List UInt8)):(l.map str).all zax=true:=zjg (fun _=>rfl) l
theorem zxj (z:List Value):rep 1 z=z:=by rw[zis];simp
theorem zva (z:List Value):rep 0 z=[]:=by rw[zis];simp
attribute [go_sem] zxj zva zu8 zxh zu9 zxi
theorem zkK {α:Type}: ∀ {l1 l2:List α},(∀f:α→Nat,(l1.map f).sum≤(l2.map f).sum)→ ∃r,l2.Perm (l1++r):=by
 intro l1
 classical
 induction l1 with
 |nil=>intro l2 _;exact⟨l2,List.Perm.refl _⟩
 |cons a l1 ih=>
  intro l2 h
  have hm:a∈l2:=by
   have h1:=h fun x=>if x=a then 1 else 0
   apply Classical.byContradiction
   intro hn
   have:(l2.map fun x=>if x=a then 1 else 0).sum=0:=by
    clear h h1 ih
    induction l2 with
    |nil=>rfl
    |cons b l2 ih2=>
     simp only[List.mem_cons,not_or] at hn
     simp only[List.map_cons,List.sum_cons,if_neg (Ne.symm hn.1),Nat.zero_add]
     exact ih2 hn.2
   rw[this] at h1
   simp at h1
  have hp:=List.perm_cons_erase hm
  obtain⟨r,hr⟩:=ih (l2:=l2.erase a) fun f=>by
   have h1:=h f
   have h2:(l2.map f).sum=((a::l2.erase a).map f).sum:=(hp.map f).sum_nat
   rw[h2] at h1
   simp only[List.map_cons,List.sum_cons] at h1
   omega
  exact⟨r,hp.trans (hr.cons a)⟩
theorem HeapOk.leave {E:Env} {G:zb} {H H':za} {w:World} (h:HeapOk E G H w) (hs: ∀f:Nat×Res→Nat,(H'.map f).sum≤(H.map f).sum):HeapOk E G H' w:=by
 obtain⟨r,hr⟩:=zkK hs
 exact(h.perm hr).sub (List.sublist_append_left _ _)
theorem Upd.leave {G:zb} {H H':za} {k:zb→za→Prop} (hs: ∀f:Nat×Res→Nat,(H'.map f).sum≤(H.map f).sum) (h:k G H'):Upd G H k:=fun E w hw=>⟨G,H',PLe.refl _,hw.leave hs,h⟩
theorem Upd.go {G:zb} {H H':za} {k:zb→za→Prop} (hs: ∀f:Nat×Res→Nat,(H'.map f).sum≤(H.map f).sum) (h:Upd G H' k):Upd G H k:=fun E w hw=>h w (hw.leave hs)
theorem Upd.finL {G:zb} {H H':za} {R:Value→zb→za→Prop} {v v':Value} (hs: ∀f:Nat×Res→Nat,(H.map f).sum≤(H'.map f).sum) (h:R v G H) (e:v'=v):zo R v' G H':=Upd.leave hs (e▸h)
theorem Tri.drawS {P:Program} {T:Tys} (hT:zT P T) (hm:P.follows .mixedOrders=true) {sz:Nat} (keep:List Nat) (id:Nat) {ops:List Oper} {G:zb} {l:Fr} {H:za} {K:zaO} (L:List Nat) (t:DM)
  (hok:zkI T sz ops L t=true) (Hs:za) (hs: ∀f:Nat×Res→Nat,(Hs.map f).sum≤(H.map f).sum)
  (h:wpM P T ops G Hs t G l H fun G' l' H'=>K .normal G' (zy keep l') H'):Tri P sz (.region id ops.toArray true) G l H K:=
 Tri.drawG hT hm keep id L t hok Hs (fun h=>h.leave hs) h
theorem FnT.leave {P:Program} {f:FuncId} {args:List Value} {G:zb} {H H':za} {R:Value→zb→za→Prop} (h:FnT P f args G H' R) (hs: ∀f:Nat×Res→Nat,(H'.map f).sum≤(H.map f).sum):FnT P f args G H R:=
 fun _ w hw=>h w (hw.leave hs)
theorem FnT.sep {P:Program} {f:FuncId} {args:List Value} {G:zb} {H:za} {R:Value→zb→za→Prop} (h:FnT P f args G H fun v G' H'=>PLe G G'→Sep G' (zm H')→R v G' H'):FnT P f args G H R:=
 h.mono fun v G' H' hle hs hr=>hr hle hs
def zgz:List Nat→za→za
 | [],H=>H
 |b::bs,H=>match zq H b with
  |some r=>(b,r)::zgz bs (zac H b)
  |none=>zgz bs H
def znS (b:Nat) (bs:List Nat) (H:za):Option Res→za
 |some r=>(b,r)::zgz bs (zac H b)
 |none=>zgz bs H
theorem zs7 (H:za):zgz [] H=H:=rfl
theorem zru (b:Nat) (bs:List Nat) (H:za):zgz (b::bs) H=znS b bs H (zq H b):=by
 simp only[zgz,znS]
theorem zpG (b:Nat) (bs:List Nat) (H:za) (r:Res):znS b bs H (some r)=(b,r)::zgz bs (zac H b):=rfl
attribute [go_sem] zs7 zru zpG
theorem Upd.refind (b:Nat) {G:zb} {H:za} {xs sp:List Value} {e:TypeId} (xs' sp':List Value) {k:zb→za→Prop} (hf:zq H b=some (.cells xs sp e)) (he:xs++sp=xs'++sp') (h:Upd G (zab H b (.cells xs' sp' e)) k):Upd G H k:=
 fun E w hw=>h w (hw.refind hf he)
theorem zrv {α:Type} {f:α→Value} {xs:List α} {sp:List Value} {i:Nat} (h:i<xs.length) (k:Value→Prop):zC ((xs.flatMap (fun x=>[f x])++sp)[i]?) k=k (f xs[i]):=by
 rw[←List.map_eq_flatMap,List.getElem?_append_left (by simpa using h),List.getElem?_map,List.getElem?_eq_getElem h];rfl
attribute [go_sem] zrv
theorem zrw (b o l m n:Nat) (h: ¬m=l):zby b o l m n=⟨b,o+n,Option.none⟩:=by unfold zby;rw[if_neg h]
theorem zrx (a:Option Addr) (l n:Nat):zbn a l l n=a:=by unfold zbn;rw[if_pos rfl]
attribute [go_sem] zrx zrw
theorem zde (H H':za):zm (H++H')=zm H++zm H':=by simp [zm]
theorem zdf {b:Nat}: ∀ {xs ys:List Nat},zU b (xs++ys)=(zU b xs∧zU b ys)
 | [],ys=>by simp [zU]
 |x::xs,ys=>by
  have ih:=zdf (b:=b) (xs:=xs) (ys:=ys)
  simp only[List.cons_append,zU,ih,and_assoc]
theorem zs8 {H H':za} {b:Nat} (h:zU b (zm H)):zq (H++H') b=zq H' b:=by
 induction H with
 |nil=>rfl
 |cons p H ih=>
  obtain⟨c,r⟩:=p
  have h':b≠c∧zU b (zm H):=h
  simp only[List.cons_append,zq,if_neg (Ne.symm h'.1)]
  exact ih h'.2
theorem zvb {H H':za} {b:Nat} {r:Res} (h:zU b (zm H)):zab (H++H') b r=H++zab H' b r:=by
 induction H with
 |nil=>rfl
 |cons p H ih=>
  obtain⟨c,r'⟩:=p
  have h':b≠c∧zU b (zm H):=h
  simp only[List.cons_append,zab,if_neg (Ne.symm h'.1)]
  rw[ih h'.2]
theorem zry {H H':za} {b:Nat} (h:zU b (zm H)):zac (H++H') b=H++zac H' b:=by
 induction H with
 |nil=>rfl
 |cons p H ih=>
  obtain⟨c,r'⟩:=p
  have h':b≠c∧zU b (zm H):=h
  simp only[List.cons_append,zac,if_neg (Ne.symm h'.1)]
  rw[ih h'.2]
attribute [go_sem] zs8 zvb zry zde zdf
section assoc
variable {α β:Type} [DecidableEq α]
def zb0 (k:α):List (α×β)→Option β
 | []=>none
 |e::es=>if k=e.1 then some e.2 else zb0 k es
def zcv (k:α) (v:β):List (α×β)→List (α×β)
 | []=>[(k,v)]
 |e::es=>if k=e.1 then(k,v)::es else e::zcv k v es
end assoc
def zfa {α:Type} [DecidableEq α] (T:Tys) (t:TypeId) (enc:α→Value):Prop:= ∀a b,zbE T t (enc a) (enc b)=some (decide (a=b))
section enc
variable {α β:Type} [DecidableEq α] {T:Tys} {t:TypeId} {enc:α→Value} (he:zfa T t enc) (f:β→Value)
include he
theorem zck (k:α) (l:List (α×β)):zhx T t (enc k) (l.map fun p=>(enc p.1,f p.2))=some ((zb0 k l).map f):=by
 induction l with
 |nil=>rfl
 |cons e l ih=>
  have hke:=he k e.1
  simp only[List.map_cons,zhx,hke,zb0]
  by_cases h:k=e.1
  ·simp [h]
  ·simp [h,ih]
theorem zcO (k:α) (v:β) (l:List (α×β)):zix T t (enc k) (f v) (l.map fun p=>(enc p.1,f p.2))=some ((zcv k v l).map fun p=>(enc p.1,f p.2)):=by
 induction l with
 |nil=>rfl
 |cons e l ih=>
  have hke:=he k e.1
  simp only[List.map_cons,zix,hke,zcv]
  by_cases h:k=e.1
  ·simp [h]
  ·simp [h,ih]
theorem zcl (k:α):zeX T t (enc k):=by unfold zeX;rw[he k k];simp
end enc
theorem zkL {T:Tys} {t:TypeId} {k:IntKind} (h:(T t).k= .int k):zfa T t (Value.int k):=fun a b=>by
 unfold zbE;rw[h];simp
theorem zrz {T:Tys} {t:TypeId} (h:(T t).k= .string):zfa T t str:=fun a b=>by
 unfold zbE str;rw[h]
 simp only[Option.some.injEq]
 rw[Bool.eq_iff_iff];simp
theorem zrA {T:Tys} {t e:TypeId} {k:IntKind} (h:(T t).k= .arr 2 e) (he:(T e).k= .int k) (hs:(T e).size=1):zfa T t (fun p:Int×Int=> .agg #[.int k p.1, .int k p.2]):=fun a b=>by
 unfold zbE
 simp only[h,he,hs,if_true]
 have:=zmb k [a.1,a.2]
 have h2:=zmb k [b.1,b.2]
 simp only[List.map_cons,List.map_nil] at this h2
 rw[this,h2]
 simp only[List.length_cons,List.length_nil,and_self,if_true,Option.some.injEq,decide_eq_decide,List.cons.injEq,and_true]
 rw[Prod.ext_iff]
/-! rewriting rules taken together -/
theorem zzs:(∀ (k:Nat) (r:Res) (H:za),zm ((k,r)::H)=k::zm H)∧(∀ (H H':za),zm (H++H')=zm H++zm H')∧(zm []=[])∧(∀ (G:zb) (b:Nat) (bs:List Nat),Sep G (b::bs)=((G b=none∧zU b bs)∧Sep G bs))∧(∀ (G:zb),Sep G []=True)∧(∀ (b c:Nat) (cs:List Nat),zU b (c::cs)=(b≠c∧zU b cs))∧(∀ (b:Nat) (xs ys:List Nat),zU b (xs++ys)=(zU b xs∧zU b ys))∧(∀ (b:Nat),zU b []=True)∧(∀ (α:Type) (a:α) (xs ys:List α),(a::xs)++ys=a:: (xs++ys))∧(∀ (α:Type) (xs:List α),[]++xs=xs)∧(∀ (α:Type) (xs ys zs:List α),xs++ys++zs=xs++(ys++zs))∧(∀ (a b c:Prop),(a∧b)∧c↔a∧b∧c)∧(∀ (p:Prop),(p∧True)=p)∧(∀ (p:Prop),(True∧p)=p):=
 ⟨by intros;simp only[zdd],by intros;rw[zde],by intros;simp only[zfW],by intros;simp only[zjW],by intros;simp only[zqa],by intros;simp only[zci],by intros;rw[zdf],by intros;simp only[ze9],by intros;simp only[List.cons_append],by intros;simp only[List.nil_append],by intros;simp only[List.append_assoc],by intros;rw[and_assoc],by intros;simp only[and_true],by intros;simp only[true_and]⟩
theorem zzn:(∀ (k:Nat) (r:Res) (H:za),zm ((k,r)::H)=k::zm H)∧(∀ (H H':za),zm (H++H')=zm H++zm H')∧(zm []=[])∧(∀ (b c:Nat) (cs:List Nat),zU b (c::cs)=(b≠c∧zU b cs))∧(∀ (b:Nat) (xs ys:List Nat),zU b (xs++ys)=(zU b xs∧zU b ys))∧(∀ (b:Nat),zU b []=True)∧(∀ (p:Prop),(p∧True)=p):=
 ⟨by intros;simp only[zdd],by intros;rw[zde],by intros;simp only[zfW],by intros;simp only[zci],by intros;rw[zdf],by intros;simp only[ze9],by intros;simp only[and_true]⟩
theorem zzm:(∀ (α:Type) (b:α) (l:List α) (a:α),a∈b::l↔a=b∨a∈l)∧(∀ (α:Type) (a:α) (s t:List α),a∈s++t↔a∈s∨a∈t)∧(∀ (p:Prop),(True∨p)=True)∧(∀ (p:Prop),(p∨True)=True)∧(∀ (α:Type) (a:α),(a=a)=True):=
 ⟨by intros;rw[List.mem_cons],by intros;rw[List.mem_append],by intros;simp only[true_or],by intros;simp only[or_true],by intros;simp only[eq_self]⟩
theorem zzk:(∀ (α β:Type) (xs:List α) (f:α→β),(xs.map f).length=xs.length)∧(∀ (α:Type) (i:Nat) (l:List α),(l.take i).length=min i l.length)∧(∀ (α:Type) (i:Nat) (l:List α),(l.drop i).length=l.length - i):=
 ⟨by intros;simp only[List.length_map],by intros;simp only[List.length_take],by intros;simp only[List.length_drop]⟩
theorem zzl:(∀ (α:Type) (a:α) (xs:List α),(a::xs).length=xs.length+1)∧(∀ (α:Type),([]:List α).length=0)∧(∀ (α β:Type) (xs:List α) (f:α→β),(xs.map f).length=xs.length)∧(∀ (α:Type) (xs ys:List α),(xs++ys).length=xs.length+ys.length)∧(∀ (α:Type) (n:Nat) (a:α),(List.replicate n a).length=n)∧(∀ (p:Prop),(True∧p)=p)∧(∀ (p:Prop),(p∧True)=p)∧(∀ (p:Prop),(p∧p)=p)∧(∀ (α:Type) (i:Nat) (l:List α),(l.take i).length=min i l.length)∧(∀ (α:Type) (i:Nat) (l:List α),(l.drop i).length=l.length - i):=
 ⟨by intros;simp only[List.length_cons],by intros;simp only[List.length_nil],by intros;simp only[List.length_map],by intros;simp only[List.length_append],by intros;simp only[List.length_replicate],by intros;simp only[true_and],by intros;simp only[and_true],by intros;simp only[and_self],by intros;simp only[List.length_take],by intros;simp only[List.length_drop]⟩
theorem zzq:(∀ (α β:Type) (f:α→β) (xs ys:List α),(xs++ys).map f=xs.map f++ys.map f)∧(∀ (α β:Type) (f:α→β) (a:α) (l:List α),(a::l).map f=f a::l.map f)∧(∀ (α β:Type) (f:α→β),([]:List α).map f=[])∧(∀ (xs ys:List Nat),(xs++ys).sum=xs.sum+ys.sum)∧(∀ (a:Nat) (l:List Nat),(a::l).sum=a+l.sum)∧(([]:List Nat).sum=0)∧(∀ (α:Type) (a:α) (xs ys:List α),(a::xs)++ys=a:: (xs++ys))∧(∀ (α:Type) (xs:List α),[]++xs=xs):=
 ⟨by intros;simp only[List.map_append],by intros;simp only[List.map_cons],by intros;simp only[List.map_nil],by intros;simp only[List.sum_append_nat],by intros;simp only[List.sum_cons],by intros;simp only[List.sum_nil],by intros;simp only[List.cons_append],by intros;simp only[List.nil_append]⟩
theorem zda.mk2 {G:zb} {ks:List Nat} {k:Nat→Prop} (h: ∀b,Sep G (b::ks)→G b=none→zU b ks→k b):zda G ks k:=zda.mk fun b s=>h b s s.1.1 s.1.2
theorem zbX.mk2 {G:zb} {ks:List Nat} {n E:Nat} {k:Nat→List Value→Nat→Prop} (h: ∀b sp cap,Sep G (b::ks)→n * E+sp.length=cap * E→G b=none→zU b ks→k b sp cap):zbX G ks n E k:=zbX.mk fun b sp cap s e=>h b sp cap s e s.1.1 s.1.2
class Nx (g:Prop) (p:outParam Prop):Prop where
  go:p→g
theorem Nx.go' {g p:Prop} [h:Nx g p] (x:p):g:=h.go x
instance {x y:Prop}:Nx (Br true x y) x:=⟨Br.yes⟩
instance {x y:Prop}:Nx (Br false x y) y:=⟨Br.no⟩
instance {T:Tys} {G:zb} {H:za} {e:TypeId} {a:Option Addr} {k:Value→za→Prop} {n:Nat} {new:List Value}:Nx (zeC T G H e a 0 0 k n new) (zhb T G H e a k n new):=⟨zeC.zero⟩
instance (priority:=low) {T:Tys} {G:zb} {H:za} {e:TypeId} {b len cap:Nat} {k:Value→za→Prop} {n:Nat} {new:List Value}:Nx (zeC T G H e (some ⟨b,0,none⟩) len cap k n new) (zit T G H e b len cap (zq H b) k n new):=⟨zeC.own⟩
class Bk (b:Bool) (p q:outParam Prop):Prop where
  yes:b=true→p
  no:b=false→q
theorem Bk.go {b:Bool} {p q x y:Prop} [h:Bk b p q] (h1:p→x) (h2:q→y):Br b x y:=Br.mk (fun e=>h1 (h.yes e)) fun e=>h2 (h.no e)
instance (priority:=low) {b:Bool}:Bk b (b=true) (b=false):=⟨id,id⟩
instance {p:Prop} {d:Decidable p}:Bk (decide p) p (¬p):=⟨of_decide_eq_true,of_decide_eq_false⟩
instance {a b:List UInt8}:Bk (a==b) (a=b) (¬a=b):=⟨fun h=>by simpa using h,fun h=>by simpa using h⟩
instance {a b:Bool}:Bk (a==b) (a=b) (¬a=b):=⟨fun h=>by simpa using h,fun h=>by simpa using h⟩
theorem Ka {p:Prop} (h:p:=by assumption):p:=h
theorem Ko {p:Prop} (h:p:=by omega):p:=h
theorem Kn {a b:Nat} (h:Nat.ble a b=true:=by rfl):a≤b:=Nat.le_of_ble_eq_true h
theorem Kk {p:Prop} (h:p:=by kernel_rfl):p:=h
theorem Ks {p:Prop} (h:p:=by intro fsum;first|exact Nat.le_refl _| (simp only[zzq];omega)):p:=h
theorem Kd {p:Prop} (h:p:=by first|assumption| (simp only[zzm];done)|omega| ((try with_reducible refine Row.adr (by assumption) ?_);simp only[zzl,Nat.reduceAdd];first|done|omega)):p:=h
class NIn (l:List Nat) (q:outParam (Nat→Prop)):Prop where
  to: ∀b,zU b l→q b
instance (priority:=low) {l:List Nat}:NIn l (fun b=>zU b l):=⟨fun _ h=>h⟩
instance:NIn [] (fun _=>True):=⟨fun _ _=>trivial⟩
instance:NIn (zm []) (fun _=>True):=⟨fun _ _=>trivial⟩
instance {c:Nat} {l:List Nat} {q:Nat→Prop} [h:NIn l q]:NIn (c::l) (fun b=>b≠c∧q b):=⟨fun b g=>by rw[zci] at g;exact⟨g.1,h.to b g.2⟩⟩
instance {c:Nat} {r:Res} {l:za} {q:Nat→Prop} [h:NIn (zm l) q]:NIn (zm ((c,r)::l)) (fun b=>b≠c∧q b):=⟨fun b g=>by rw[zdd,zci] at g;exact⟨g.1,h.to b g.2⟩⟩
instance {l m:za} {p q:Nat→Prop} [h:NIn (zm l) p] [k:NIn (zm m) q]:NIn (zm (l++m)) (fun b=>p b∧q b):=⟨fun b g=>by rw[zde,zdf] at g;exact⟨h.to b g.1,k.to b g.2⟩⟩
theorem Nb {G:zb} {ks:List Nat} {q:Nat→Prop} {k:Nat→Prop} [i:NIn ks q] (h: ∀b,Sep G (b::ks)→G b=none→q b→k b):zda G ks k:=zda.mk2 fun b s n m=>h b s n (i.to b m)
theorem Nr {G:zb} {ks:List Nat} {n E:Nat} {q:Nat→Prop} {k:Nat→List Value→Nat→Prop} [i:NIn ks q] (h: ∀b sp cap,Sep G (b::ks)→n * E+sp.length=cap * E→G b=none→q b→k b sp cap):zbX G ks n E k:=zbX.mk2 fun b sp cap s e n m=>h b sp cap s e n (i.to b m)
open Go.ChangeShapes Go.WideShapes Go.RowKit
structure SeatOk (P:Program):Prop where
 laid:laidOutB P=true
 maps:mapsRowed P=true
 full:((List.range P.types.size).all fun t=>match P.underlying t with|some (.slice e)=>decide (0<P.cellsOf e)|_=>true)=true
section
variable {H:Type} {enc:TypeId×Value→H} {P:Program} {W W':World}
theorem zik {base:Nat} {sp:Nat→Bool} {held:Bool}: ∀ {ts:List TypeId} {vs:List Value} {ds:List (DataW H)} {ps:List MemPlace},
  DataW.TrodAll enc P W base sp held ts vs ds ps→(∀p∈ps,W.sameAt W' p)→DataW.TrodAll enc P W' base sp held ts vs ds ps
 | [],[],[],_,h,_=>h
 |t::ts,v::vs,d::ds,_,⟨p,q,⟨n,h1⟩,h2,e⟩,hs=>⟨p,q,⟨n,DataW.trod_carry n _ _ _ h1 fun x hx=>hs x (by rw[e];exact List.mem_append_left _ hx)⟩,zik h2 (fun x hx=>hs x (by rw[e];exact List.mem_append_right _ hx)),e⟩
theorem zly (hk:Kept W W') {p:MemPlace} (h:p.block<W.heap.size):W.sameAt W' p:=by
 have:=hk.old p.block h
 cases p with
 |cell b o=>simp only[World.sameAt,World.cell?];rw[show W'.heap[b]? =W.heap[b]? from this]
 |map b=>exact this
theorem zAt {f:FuncId} {fn:Func} {s:ChangeSpec} {tb:TypeId} (hP:SeatOk P) (hc:Callee P f) (hvars:s.vars=[]) (hres:fn.resultTypes= #[tb]) (hb:P.underlying tb=some .bool)
  (hp: ∀t∈fn.params.toList,t<P.types.size) (hs: ∀ds:List (DataW H),ds.length=fn.params.size→s.fn H ds={results:=[.lit (.bool true)],args:=ds})
  {apart fresh handsOn again:Bool} {args:Array Value} {ds gs:List (DataW H)} {before:List MemPlace} (hW:DataW.Whole enc P fn.params.toList s.vars apart W args.toList ds gs before)
  (h:FnT P f args.toList (fun b=>W.heap[b]?) [] fun v _ _=>v= .bool true):
  Calls P f args W fun e W'=> ∃v,e= .returned v∧s.post enc P fn apart fresh handsOn again W args v W':=by
 have hW':=hW
 obtain⟨p,q,hA,hV,rfl,hfz,hnd⟩:=hW
 rw[hvars] at hV
 obtain⟨rfl,rfl⟩:=trodVars_none hV
 simp only[List.append_nil] at hW'⊢
 have hlen:=(trodAll_length hA).2
 have e:=hs ds (by simpa using hlen)
 have he:args.toList.toArray=args:=rfl
 rw[←he]
 refine(zu7 W hc h).mono ?_
 rintro _ W' ⟨v,rfl,rfl,hk⟩
 have hlt:=hA.lt
 refine⟨_,rfl,znR (pa:=p) (pv:=[]) (by simpa using hW') (fun _ _ _=>?_) (fun sp hsp=>?_) (fun sp _=>?_) rfl hk (ok_one hres rfl (okWide_bool_mk hb _))⟩
 ·rw[List.append_nil,e,hres]
  exact⟨[],[],shut_bool hb true,rfl,rfl⟩
 ·rw[List.append_nil,e]
  exact zik (DataW.TrodAll.respare (kids_rows hP.laid hP.maps) (fun t e ht hu=>slices_full_of P hP.full t e ht hu) hp hA (fun p hp=>hsp p (by simpa using hp))) fun x hx=>zly hk (hlt x hx)
 ·rw[List.append_nil,e,hvars]
  exact rfl
end
open Go.ChangeShapes Go.WideShapes Go.RowKit
mutual
def zaw {H:Type}:DataW H→Nat
 | .lit (.string bytes)=>bytes.length+1
 | .lit _=>1
 | .nil=>1
 | .ptr d=>zaw d+1
 | .slice elems spare=>bulkVs elems+bulkVs spare+1
 | .agg parts=>bulkVs parts+1
 | .iface _ d=>zaw d+1
 | .map entries=>0
 | .held _=>1
def bulkVs {H:Type}:List (DataW H)→Nat
 | []=>0
 |d::r=>zaw d+bulkVs r
end
theorem zkM {H:Type} {d:DataW H} {l:List (DataW H)} (h:d∈l):zaw d≤bulkVs l:=by
 induction l with
 |nil=>cases h
 |cons x r ih=>
  simp only[bulkVs]
  cases List.mem_cons.1 h with
  |inl e=>subst e;omega
  |inr e=>have:=ih e;omega
def zbI (W:World) (b off:Nat) (vs:List Value):Prop:= ∀j (h:j<vs.length),W.cell? ⟨b,off+j,none⟩=some vs[j]
theorem zbI.nil (W:World) (b off:Nat):zbI W b off []:=fun j h=>by simp at h
theorem zbI.append {W:World} {b off:Nat} {xs ys:List Value} (h1:zbI W b off xs) (h2:zbI W b (off+xs.length) ys):zbI W b off (xs++ys):=fun j h=>by
 by_cases hj:j<xs.length
 ·rw[List.getElem_append_left hj];exact h1 j hj
 ·rw[List.getElem_append_right Ko]
  have:=h2 (j - xs.length) (by simp at h;omega)
  rw[show off+xs.length+(j - xs.length)=off+j by omega] at this
  exact this
theorem zbI.rowAt {W:World} {b off:Nat} {vs:List Value} (h:zbI W b off vs) (hl:0<vs.length):zbP (fun b=>W.heap[b]?) b off vs:=by
 have h0:=h 0 hl
 unfold World.cell? at h0
 split at h0
 ·rename_i c e fr hb
  refine⟨c,e,fr,hb,?_,?_⟩
  ·have:=h (vs.length - 1) Ko
   unfold World.cell? at this
   rw[hb] at this
   simp only[Option.isSome_none,Bool.false_eq_true,if_false] at this
   have:=(Array.getElem?_eq_some_iff.1 this).1
   omega
  ·apply List.ext_getElem?
   intro i
   by_cases hi:i<vs.length
   ·rw[List.getElem?_take_of_lt hi,List.getElem?_drop,List.getElem?_eq_getElem hi]
    have:=h i hi
    unfold World.cell? at this
    rw[hb] at this
    simpa using this
   ·rw[List.getElem?_eq_none (by simp;omega),List.getElem?_eq_none Ko]
 ·cases h0
theorem zjZ {W:World} {a:Addr} {n:Nat} {cs:List Value} (h:W.cells? 0 a n=some cs) (hs:a.spot=none):cs.length=n∧zbI W a.block a.off cs:=by
 unfold World.cells? at h
 rw[if_pos (Nat.zero_le _)] at h
 have hl:cs.length=n:=by have:=mapM_some_length h;simpa using this
 refine⟨hl,fun j hj=>?_⟩
 have:=mapM_some_get h j j (List.getElem?_range Ko)
 obtain⟨b,o,s⟩:=a
 subst hs
 rw[zbW] at this
 rw[this,List.getElem?_eq_getElem hj]
section
variable {H:Type} {enc:TypeId×Value→H} {P:Program} {W:World} {held:Bool} {sp:Nat→Bool}
theorem znT {α:Type} {t e:TypeId} (ht:P.underlying t=some (.slice e)) {m:Nat} (hm:P.cellsOf e=m) (hm0:0<m) (E:List Value→DataW H→α→Prop)
  (hel: ∀n cs y,cs.length=m→DataW.trod enc P W 0 sp held n e cs=some y→ ∃a:α,E cs y.1 a) {fuel:Nat} {cs:List Value} {x:DataW H×List MemPlace} (h:DataW.trod enc P W 0 sp held fuel t cs=some x):
  ∃ (a:Option Addr) (cap:Nat) (rows:List (List Value)) (ds spare:List (DataW H)) (xs:List α),cs=[.slice a xs.length cap]∧xs.length≤cap∧Row (fun b=>W.heap[b]?) a rows.flatten∧rows.length=xs.length∧ds.length=xs.length∧
   (∀i (h1:i<rows.length) (h2:i<ds.length) (h3:i<xs.length),rows[i].length=m∧E rows[i] ds[i] xs[i])∧(bulkVs ds+1≤zaw x.1):=by
 rcases DataW.trod_slice ht h with ⟨rfl,rfl⟩| ⟨a,len,cap,elems,rest,n,rfl,rfl,rfl,hb,hl,hc,hlen,hes,_,_⟩
 ·exact⟨none,0,[],[],[],[],rfl,Nat.le_refl _,Row.nil _ _,rfl,rfl,fun i h=>by simp at h,by simp [zaw,bulkVs]⟩
 ·rw[hm] at hes
  have key: ∀k,k≤len→ ∃ (rows:List (List Value)) (xs:List α),rows.length=k∧xs.length=k∧(0<k→a.spot=none∧zbI W a.block a.off rows.flatten)∧rows.flatten.length=k * m∧
    (∀i (h1:i<rows.length) (h2:i<elems.length) (h3:i<xs.length),rows[i].length=m∧E rows[i] elems[i].1 xs[i]):=by
   intro k
   induction k with
   |zero=>intro _;exact⟨[],[],rfl,rfl,fun h=>by omega,by simp,fun i h=>by simp at h⟩
   |succ k ih=>
    intro hk
    obtain⟨rows,xs,h1,h2,h3,h4,h5⟩:=ih Ko
    have hk':k<elems.length:=by omega
    have hx:=hes k Ko
    rw[List.getElem?_eq_getElem hk',Option.bind_eq_some_iff] at hx
    obtain⟨cs,hcs,hy⟩:=hx
    have hsp:a.spot=none:=by
     by_cases h0:0<k
     ·exact(h3 h0).1
     ·obtain rfl:k=0:=by omega
      unfold World.cells? at hcs
      rw[if_pos (by simp)] at hcs
      have hl:=mapM_some_length hcs
      have:=mapM_some_get hcs 0 0 (List.getElem?_range Ko)
      have hlc:0<cs.length:=by simp at hl;omega
      rw[List.getElem?_eq_getElem hlc] at this
      have:=World.cell?_spot this
      simpa [Addr.add] using this
    obtain⟨ab,ao,as⟩:=a
    subst hsp
    rw[zbW] at hcs
    obtain⟨hcl,hca⟩:=zjZ hcs rfl
    obtain⟨z,hz⟩:=hel n cs _ hcl hy
    refine⟨rows++[cs],xs++[z],by simp [h1],by simp [h2],fun _=>⟨rfl,?_⟩,by simp [h4,hcl,Nat.succ_mul],fun i i1 i2 i3=>?_⟩
    ·rw[List.flatten_append]
     simp only[List.flatten_cons,List.flatten_nil,List.append_nil]
     refine zbI.append ?_ (by rw[h4];exact hca)
     by_cases h0:0<k
     ·exact(h3 h0).2
     ·have:rows=[]:=List.eq_nil_of_length_eq_zero Ko
      subst this;exact zbI.nil _ _ _
    ·by_cases hi:i<k
     ·rw[List.getElem_append_left Ko,List.getElem_append_left Ko]
      exact h5 i Ko i2 Ko
     ·obtain rfl:i=k:=by simp at i1;omega
      rw[List.getElem_append_right Ko,List.getElem_append_right Ko]
      simp only[h1,h2,Nat.sub_self,List.getElem_cons_zero]
      exact⟨hcl,hz⟩
  obtain⟨rows,xs,h1,h2,h3,h4,h5⟩:=key len (Nat.le_refl _)
  refine⟨some a,cap,rows,elems.map (·.1),rest.map (·.1),xs,by rw[h2],by omega,?_,by omega,by simp;omega,fun i i1 i2 i3=>?_,?_⟩
  ·by_cases h0:0<len
   ·obtain⟨hsp,hca⟩:=h3 h0
    obtain⟨ab,ao,as⟩:=a
    subst hsp
    exact zbP.row (zbI.rowAt hca (by rw[h4];exact Nat.mul_pos h0 hm0))
   ·obtain rfl:rows=[]:=List.eq_nil_of_length_eq_zero Ko
    exact Row.nil _ _
  ·have:=h5 i i1 (by simpa using i2) i3
   simpa using this
  ·simp only[zaw];omega
theorem ziC {α:Type} {t e:TypeId} (ht:P.underlying t=some (.slice e)) {m:Nat} (hm:P.cellsOf e=m) (hm0:0<m) (encA:α→List Value) (Q:DataW H→α→Prop)
  (hel: ∀n cs y,cs.length=m→DataW.trod enc P W 0 sp held n e cs=some y→ ∃a:α,cs=encA a∧Q y.1 a) {fuel:Nat} {cs:List Value} {x:DataW H×List MemPlace} (h:DataW.trod enc P W 0 sp held fuel t cs=some x):
  ∃ (a:Option Addr) (cap:Nat) (ds:List (DataW H)) (xs:List α),cs=[.slice a xs.length cap]∧xs.length≤cap∧Row (fun b=>W.heap[b]?) a (xs.flatMap encA)∧ds.length=xs.length∧
   (∀i (h2:i<ds.length) (h3:i<xs.length),Q ds[i] xs[i])∧(bulkVs ds+1≤zaw x.1):=by
 obtain⟨a,cap,rows,ds,spare,xs,h1,h2,h3,h4,h5,h6,h7⟩:=znT ht hm hm0 (fun cs d a=>cs=encA a∧Q d a) hel h
 refine⟨a,cap,ds,xs,h1,h2,?_,h5,fun i i2 i3=>(h6 i Ko i2 i3).2.2,h7⟩
 have:rows=xs.map encA:=by
  apply List.ext_getElem (by simp [h4])
  intro i i1 i2
  rw[List.getElem_map]
  exact(h6 i i1 Ko Ko).2.1
 rw[List.flatMap_def,←this];exact h3
end
theorem zhG {H:Type} (l:List (DataW H)) (h: ∀d∈l,1≤zaw d):l.length≤bulkVs l:=by
 induction l with
 |nil=>simp [bulkVs]
 |cons d l ih=>
  have:=h d (List.mem_cons_self ..)
  have:=ih fun d hd=>h d (List.mem_cons_of_mem _ hd)
  simp only[bulkVs,List.length_cons];omega
section
variable {H:Type} {enc:TypeId×Value→H} {P:Program} {T:Tys} (hT:zT P T) {W:World} {held:Bool} {sp:Nat→Bool} {r:Reach} {b0:Nat} {t:TypeId} {v:Value} {d:DataW H} {ps:List MemPlace}
include hT
theorem zfZ {fs:List (Nat×Nat)} (hk:(T t).k= .struct fs) {i o e:Nat} (hi:fs[i]? =some (o,e)) {n:Nat} {cs:List Value} {x:DataW H×List MemPlace} (h:DataW.trod enc P W 0 sp held n t cs=some x):
  ∃m y,DataW.trod enc P W 0 sp held m e ((cs.drop o).take (P.cellsOf e))=some y∧zaw y.1+1≤zaw x.1:=by
 obtain⟨d1,hd1,f,rfl,hf1⟩:=hT.und hk (by simp)
 obtain⟨xs,m,rfl,rfl,hl,hxl,hx⟩:=DataW.trod_struct hd1 h
 rw[←hf1,List.getElem?_map,Option.map_eq_some_iff] at hi
 obtain⟨g,hg,e2⟩:=hi
 simp only[Prod.mk.injEq] at e2
 obtain⟨rfl,rfl⟩:=e2
 have hlt:i<f.size:=by
  rw[Array.getElem?_toList] at hg
  exact(Array.getElem?_eq_some_iff.1 hg).1
 have h1:=hx i g (by rw[Array.getElem?_toList] at hg;exact hg)
 rw[List.getElem?_eq_getElem Ko] at h1
 refine⟨m,_,h1,?_⟩
 simp only[zaw]
 have:=zkM (l:=xs.map (·.1)) (List.mem_map.2 ⟨xs[i],List.getElem_mem _,rfl⟩)
 omega
theorem zlz {k:IntKind} (hk:(T t).k= .int k) {n:Nat} {cs:List Value} {x:DataW H×List MemPlace} (h:DataW.trod enc P W 0 sp held n t cs=some x): ∃z:Int,cs=[.int k z]∧k.min≤z∧z≤k.max∧zaw x.1=1:=by
 obtain⟨d2,hd2,hf2⟩:=hT.und hk (by simp)
 simp only[TK.fits] at hf2;subst hf2
 obtain⟨m,rfl,rfl,hw⟩:=DataW.trod_int hd2 h
 have:k.min≤m∧m≤k.max:=by simpa [Lit.wf] using hw
 exact⟨m,rfl,this.1,this.2,by simp [zaw]⟩
theorem zxk (hk:(T t).k= .string) {n:Nat} {cs:List Value} {x:DataW H×List MemPlace} (h:DataW.trod enc P W 0 sp held n t cs=some x): ∃s:List UInt8,cs=[str s]∧zaw x.1=s.length+1:=by
 obtain⟨d2,hd2,hf2⟩:=hT.und hk (by simp)
 simp only[TK.fits] at hf2;subst hf2
 obtain⟨s,rfl,rfl,hw⟩:=DataW.trod_string hd2 h
 exact⟨s.data.toList,by simp [str],by simp [zaw]⟩
theorem zxl {e m:Nat} (hk:(T t).k= .arr m e) {n:Nat} {cs:List Value} {x:DataW H×List MemPlace} (h:DataW.trod enc P W 0 sp held n t cs=some x) {i:Nat} (hi:i<m):
  ∃q y,DataW.trod enc P W 0 sp held q e ((cs.drop (i * P.cellsOf e)).take (P.cellsOf e))=some y∧zaw y.1+1≤zaw x.1:=by
 obtain⟨d1,hd1,hf1⟩:=hT.und hk (by simp)
 simp only[TK.fits] at hf1;subst hf1
 obtain⟨xs,q,rfl,rfl,hl,hxl,hx⟩:=DataW.trod_array hd1 h
 have h1:=hx i hi
 rw[List.getElem?_eq_getElem Ko] at h1
 refine⟨q,_,h1,?_⟩
 simp only[zaw]
 have:=zkM (l:=xs.map (·.1)) (List.mem_map.2 ⟨xs[i],List.getElem_mem _,rfl⟩)
 omega
end
variable {E:Env}
def XE.jump:XE→Option Code
 | .normal=>none
 | .exit id=>some (.exit id)
 | .ret=>some .ret
def zwR (st:LoopState) (pe:Option Code) (ps:Array Tmp) (as body:Code) (D sz:Nat) (l:Fr) (o:Obj):Prop:=
 ∃fn tmps,o= .loop {state:=st,pending:=pe,fn:=fn,tmps:=tmps,params:=ps,assign:=as,body:=body,defers:=D}∧tmps.size=sz∧ ∀t v,look l t=some v→tmps.getD t undef=v
def zrB (ps:Array Tmp) (as body:Code) (D sz:Nat) (l:Fr):Res:= .inv (zwR .busy none ps as body D sz l)
def zhH (e:XE) (ps:Array Tmp) (as body:Code) (D sz:Nat) (l:Fr):Res:= .inv (zwR (if e.jump.isNone then .ready else .done) e.jump ps as body D sz l)
def zf0:List Nat→List Value→Fr→Fr
 |p::ps,v::vs,l=>zf0 ps vs ((p,v)::l)
 |_,_,l=>l
theorem zs9 (sz:Nat): ∀ (ps:List Nat) (vs:List Value) (l:Fr) (tmps:Array Value),tmps.size=sz→(∀p∈ps,p<sz)→(∀t v,look l t=some v→tmps.getD t undef=v)→
  ((ps.zip vs).foldl (fun t (p:Nat×Value)=>t.setIfInBounds p.1 p.2) tmps).size=sz∧ ∀t v,look (zf0 ps vs l) t=some v→((ps.zip vs).foldl (fun t (p:Nat×Value)=>t.setIfInBounds p.1 p.2) tmps).getD t undef=v:=by
 intro ps
 induction ps with
 |nil=>intro vs l tmps h1 _ h3;exact⟨h1,h3⟩
 |cons p ps ih=>
  intro vs l tmps h1 h2 h3
  cases vs with
  |nil=>exact⟨h1,h3⟩
  |cons v vs=>
   refine ih vs ((p,v)::l) (tmps.setIfInBounds p v) (by simpa using h1) (fun q hq=>h2 q (List.mem_cons_of_mem _ hq)) fun t u ht=>?_
   simp only[look] at ht
   have hp:=h2 p (List.mem_cons_self ..)
   by_cases e:p=t
   ·subst e
    rw[if_pos rfl] at ht
    cases ht
    simp [Array.getElem?_setIfInBounds,h1,hp]
   ·rw[if_neg e] at ht
    have:=h3 t u ht
    simp only[Array.getD_eq_getD_getElem?] at this⊢
    rw[Array.getElem?_setIfInBounds_ne e]
    exact this
def zrC (b:Nat) (r r':Res) (k:zb→Fr→za→Prop) (G:zb) (l:Fr) (H:za):Prop:=zq H b=some r∧k G l (zab H b r')
def zyl (lr:Nat) (ps:Array Tmp) (as body:Code) (D sz:Nat) (l0:Fr) (R:Value→zb→za→Prop) (_:Tok R) (e:XE) (G:zb) (l:Fr) (H:za):Prop:=
 zq H lr=some (zrB ps as body D sz l0)∧R (.bool e.jump.isNone) G (zab H lr (zhH e ps as body D sz l0))
theorem zbZ.of {P:Program} {T:Tys} (hT:zT P T) (keep:List Nat) {sz lr:Nat} {ps:Array Tmp} {as body:Code} {D:Nat} {l:Fr} {args:List Value} {G:zb} {H:za} {R:Value→zb→za→Prop}
  (hps:args.length=ps.size) (hok:(ps.toList.all (fun p=>decide (p<sz))&&zfk as&&zfk body&&zaP sz as&&zaP sz body)=true)
  (hf:zq H lr=some (zhH .normal ps as body D sz l))
  (h:wpC P T sz keep as G (zf0 ps.toList args l) H (zem (zrC lr (zhH .normal ps as body D sz l) (zrB ps as body D sz l) fun G1 l1 H1=>wpC P T sz keep body G1 l1 H1 (zyl lr ps as body D sz l R .mk)) (fun _ _ _ _=>False) .mk .mk)):zbZ P lr args G H R:=by
 intro E w hw
 simp only[Bool.and_eq_true] at hok
 obtain⟨⟨⟨⟨hplt,hc1⟩,hc2⟩,hl1⟩,hl2⟩:=hok
 obtain⟨o,ho,⟨fn,tmps,rfl,hsz,hfr⟩,hnc⟩:=hw.find hf
 obtain⟨hsz2,hfr2⟩:=zs9 sz ps.toList args l tmps hsz (fun p hp=>by simpa using List.all_eq_true.1 hplt p hp) hfr
 have htm:(ps.zip args.toArray).foldl (fun t (p:Nat×Value)=>t.setIfInBounds p.1 p.2) tmps=(ps.toList.zip args).foldl (fun t (p:Nat×Value)=>t.setIfInBounds p.1 p.2) tmps:=by
  rw[←Array.foldl_toList]
  simp
 have hw0:HeapOk ⟨E.os,E.out,[],E.mine++E.outer⟩ G H w:=⟨hw.env,hw.pers,hw.own,hw.sep,by simpa using hw.dfr⟩
 refine⟨fn,_,as,body,run_yield ho (by simpa using hps),roundIn_of_wpIn trivial ?_⟩
 show as.wpIn (FF (some lr)) 0 P _ _ w
 refine zhF hT as (fun _=>hc1) hl1 h _ w _ (E:=⟨E.os,E.out,[],E.mine++E.outer⟩) ⟨by rw[show((ps.zip args.toArray).foldl _ tmps)=_ from htm];exact hsz2,rfl,by rw[show((ps.zip args.toArray).foldl _ tmps)=_ from htm];exact hfr2,hw0⟩ ?_
 intro E1 e G1 l1 H1 a1 w1 _ hE1 hle1 hs1 hk1
 have hE1:=hE1 rfl
 subst hE1
 cases e with
 |exit id=>exact hk1.elim
 |ret=>exact hk1.elim
 |normal=>
  obtain⟨hf1,hk1⟩:=hk1
  obtain⟨o1,ho1,⟨fn1,tmps1,rfl,hsz1,hfr1⟩,hnc1⟩:=hs1.heap.find hf1
  refine⟨_,run_beginRound ho1 rfl,?_⟩
  have hlt1:=(Array.getElem?_eq_some_iff.1 ho1).1
  have hw2:=hs1.heap.set (w':=w1.putObj lr (.loop {state:= .busy,pending:=none,fn:=fn1,tmps:=tmps1,params:=ps,assign:=as,body:=body,defers:=D})) hf1 (World.putObj_heap_same hlt1) (r':=zrB ps as body D sz l) ⟨⟨fn1,tmps1,rfl,hsz1,hfr1⟩,trivial⟩ (fun c hc=>World.putObj_heap_other hc) ⟨rfl,rfl⟩
  show body.wpIn (FF (some lr)) 0 P _ _ _
  refine zhF hT body (fun _=>hc2) hl2 hk1 _ _ _ (E:=⟨E.os,E.out,[],E.mine++E.outer⟩) ⟨hs1.size,hs1.defers,hs1.fr,hw2⟩ ?_
  intro E2 e2 G2 l2 H2 a2 w2 _ hE2 hle2 hs2 hk2
  have hE2:=hE2 rfl
  subst hE2
  obtain⟨hf2,hk2⟩:=hk2
  obtain⟨o2,ho2,⟨fn2,tmps2,rfl,hsz3,hfr3⟩,hnc2⟩:=hs2.heap.find hf2
  have hlt2:=(Array.getElem?_eq_some_iff.1 ho2).1
  have hw3:=hs2.heap.set (w':=w2.putObj lr (.loop {state:=if e2.jump.isNone then .ready else .done,pending:=e2.jump,fn:=fn2,tmps:=tmps2,params:=ps,assign:=as,body:=body,defers:=D})) hf2 (World.putObj_heap_same hlt2) (r':=zhH e2 ps as body D sz l) ⟨⟨fn2,tmps2,rfl,hsz3,hfr3⟩,trivial⟩ (fun c hc=>World.putObj_heap_other hc) ⟨rfl,rfl⟩
  have fin: ∃v w',(Instr.endRound lr e2.jump).run P w2= .ok v w'∧ ∃v' G' H',Ending.returned v= .returned v'∧PLe G G'∧HeapOk E G' H' w'∧R v' G' H':=
   ⟨_,_,run_endRound e2.jump ho2,_,G2,_,rfl,hle1.trans hle2,⟨hw3.env,hw3.pers,hw3.own,hw3.sep,by simpa using hw3.dfr⟩,hk2⟩
  cases e2 with
  |normal=>exact fin
  |exit id=>exact fin
  |ret=>exact fin
theorem zlA (H:za) (b:Nat) (r:Res):(zac H b).Sublist (zab H b r):=by
 induction H with
 |nil=>exact List.Sublist.refl _
 |cons p H ih=>
  obtain⟨k,s⟩:=p
  simp only[zac,zab]
  split
  ·exact List.Sublist.cons _ (List.Sublist.refl _)
  ·exact ih.cons_cons _
def zym (lr:Nat) (ps:Array Tmp) (as body:Code) (D sz:Nat) (l:Fr) (K:zaO) (_:Tok K) (G:zb) (H:za):Prop:=
 ∃e:XE,zq H lr=some (zhH e ps as body D sz l)∧K e G l (zac H lr)
theorem Tri.rangeF {P:Program} {sz:Nat} {g:Operand} {ps:Array Tmp} {as body:Code} {G:zb} {l:Fr} {H:za} {K:zaO} {gf:FuncId} {caps:Array Value}
  (hg:ev l g=some (.func (.func gf) #[] caps)) (hc:Callee P gf)
  (h: ∀lr D,Sep G (lr::zm H)→FnT P gf (.func (.yield lr) #[] #[]::caps.toList) G ((lr,zhH .normal ps as body D sz l)::H) fun _ G' H'=>zym lr ps as body D sz l K .mk G' H'):Tri P sz (.rangeFunc g ps as body) G l H K:=by
 intro E a w Q hs hk
 refine(wpIn_wide (n:=0)).1 (wpIn_rangeFunc ?_)
 intro fn _
 have hga:a.eval g= .func (.func gf) #[] caps:=hs.ev hg
 obtain⟨W1,hW1⟩: ∃W1,(w.alloc (.deferred (some []))).alloc (.loop {state:= .ready,pending:=none,fn:=fn,tmps:=a.tmps,params:=ps,assign:=as,body:=body,defers:=w.heap.size})=W1:=⟨_,rfl⟩
 have hw:=hs.heap
 have hsz:(w.alloc (.deferred (some []))).heap.size=w.heap.size+1:=by simp [zfu]
 have hD1:(w.alloc (.deferred (some []))).heap[w.heap.size]? =some (.deferred (some [])):=World.alloc_heap_new w _
 have hold: ∀b,b<w.heap.size→(w.alloc (.deferred (some []))).heap[b]? =w.heap[b]? :=fun b hb=>by
  rw[zfu,Array.getElem?_push,if_neg (Nat.ne_of_lt hb)]
 have hw1:HeapOk ⟨E.os,E.out,w.heap.size::E.mine,E.outer⟩ G H (w.alloc (.deferred (some []))):=by
  refine⟨hw.env,fun b o hb=>?_,fun p hp=>?_,hw.sep,?_,fun D hD=>?_⟩
  ·have h1:=hw.pers b o hb
   rw[hold b (Array.getElem?_eq_some_iff.1 h1).1];exact h1
  ·obtain⟨o,h1,h2⟩:=hw.own p hp
   exact⟨o,by rw[hold _ (Array.getElem?_eq_some_iff.1 h1).1];exact h1,h2⟩
  ·simp only[List.cons_append,List.nodup_cons]
   refine⟨fun hm=>?_,hw.dfr.1⟩
   exact Nat.lt_irrefl _ (Array.getElem?_eq_some_iff.1 (hw.dfr.2 _ hm).1).1
  ·simp only[List.cons_append,List.mem_cons] at hD
   rcases hD with rfl|hD
   ·exact⟨hD1,hw.fresh.1.1⟩
   ·have h1:=(hw.dfr.2 D hD).1
    exact⟨by rw[hold _ (Array.getElem?_eq_some_iff.1 h1).1];exact h1,(hw.dfr.2 D hD).2⟩
 have hw2:HeapOk ⟨E.os,E.out,w.heap.size::E.mine,E.outer⟩ G ((w.heap.size+1,zhH .normal ps as body w.heap.size sz l)::H) W1:=by
  have:=hw1.new (o:= .loop {state:= .ready,pending:=none,fn:=fn,tmps:=a.tmps,params:=ps,assign:=as,body:=body,defers:=w.heap.size}) (r:=zhH .normal ps as body w.heap.size sz l) ⟨⟨fn,a.tmps,rfl,hs.size,hs.fr⟩,trivial⟩
  rw[hsz,hW1] at this
  exact this
 have hF:=h (w.heap.size+1) w.heap.size hw2.sep
 have hcall:=hF.calls hc hw2
 have hinv:(callFunc gf (#[.func (.yield (w.heap.size+1)) #[] #[]]++caps)).run P W1= .ok (.enter gf (#[.func (.yield (w.heap.size+1)) #[] #[]]++caps)) W1:=by
  obtain⟨fn',c',hfn,hbody,hname⟩:=hc
  have hname': ¬fn'.name= "runtime.NumGoroutine" :=by simpa using hname
  simp [callFunc,hfn,hname',hbody]
 refine⟨w.heap.size+1,[zqH w.heap.size],W1,{target:= .fn (.func gf) caps,args:= #[.func (.yield (w.heap.size+1)) #[] #[]]},W1,gf,
  #[.func (.yield (w.heap.size+1)) #[] #[]]++caps,W1,?_,?_,fun _ _=>trivial,?_,fun hx=>by simp [Fence.wide] at hx,?_⟩
 ·rw[←hW1];exact run_enterLoop_outer _ _ _ _ _
 ·simp only[resolve,hga]
  simp [go_sem]
 ·simp only[invoke];exact hinv
 ·refine callsIn_wide.2 ?_
  have hargs:(Value.func (.yield (w.heap.size+1)) #[] #[]::caps.toList).toArray= #[.func (.yield (w.heap.size+1)) #[] #[]]++caps:=by apply Array.ext';simp
  rw[hargs] at hcall
  refine hcall.mono ?_
  rintro _ W3 ⟨v,G',H',rfl,hle,hok,e,hf,hk3⟩
  obtain⟨o,ho,⟨fn3,tmps3,rfl,hsz3,hfr3⟩,hnc3⟩:=hok.find hf
  have hlt:=(Array.getElem?_eq_some_iff.1 ho).1
  have hst:(if e.jump.isNone then LoopState.ready else LoopState.done)≠ .busy:=by split <;> simp
  have hw4:=hok.set (w':=W3.putObj (w.heap.size+1) (.loop {state:= .exhausted,pending:=e.jump,fn:=fn3,tmps:=tmps3,params:=ps,assign:=as,body:=body,defers:=w.heap.size})) hf (World.putObj_heap_same hlt) (r':= .inv fun _=>True) ⟨trivial,trivial⟩ (fun c hc=>World.putObj_heap_other hc) ⟨rfl,rfl⟩
  have hw5:=hw4.sub (zlA H' (w.heap.size+1) _)
  have hsim:Sim ⟨E.os,E.out,w.heap.size::E.mine,E.outer⟩ sz G' l (zac H' (w.heap.size+1)) {a with defers:=[zqH w.heap.size]++a.defers} (W3.putObj (w.heap.size+1) (.loop {state:= .exhausted,pending:=e.jump,fn:=fn3,tmps:=tmps3,params:=ps,assign:=as,body:=body,defers:=w.heap.size})):=
   ⟨hs.size,by simp [hs.defers],hs.fr,hw5⟩
  have hq:=hk ⟨E.os,E.out,w.heap.size::E.mine,E.outer⟩ e G' l _ _ _ ⟨rfl,rfl,rfl⟩ hle hsim hk3
  refine⟨e.jump,_,run_endLoop ho hst,?_⟩
  cases e with
  |normal=>exact hq
  |exit id=>exact wpIn_exit hq
  |ret=>exact wpIn_ret hq
theorem zbZ.mono {P:Program} {lr:Nat} {args:List Value} {G:zb} {H:za} {R R':Value→zb→za→Prop} (h:zbZ P lr args G H R) (hr: ∀v G' H',PLe G G'→Sep G' (zm H')→R v G' H'→R' v G' H'):zbZ P lr args G H R':=by
 intro E w hw
 obtain⟨fn,tmps,as,body,hy,hF,hround⟩:=h w hw
 refine⟨fn,tmps,as,body,hy,hF,fun c cs hroom=>?_⟩
 obtain⟨e,w',⟨v,G',H',rfl,h1,h2,h3⟩,hcomes⟩:=hround c cs hroom
 exact⟨.returned v,w',⟨v,G',H',rfl,h1,h2,hr v G' H' h1 h2.sep h3⟩,hcomes⟩
theorem zbZ.upd {P:Program} {lr:Nat} {args:List Value} {G:zb} {H:za} {R:Value→zb→za→Prop} (h:zbZ P lr args G H fun v G' H'=>Upd G' H' fun G2 H2=>R v G2 H2):zbZ P lr args G H R:=by
 intro E w hw
 obtain⟨fn,tmps,as,body,hy,hF,hround⟩:=h w hw
 refine⟨fn,tmps,as,body,hy,hF,fun c cs hroom=>?_⟩
 obtain⟨e,w',⟨v,G',H',rfl,h1,h2,h3⟩,hcomes⟩:=hround c cs hroom
 obtain⟨G2,H2,g1,g2,g3⟩:=h3 w' h2
 exact⟨.returned v,w',⟨v,G2,H2,rfl,h1.trans g1,g2,g3⟩,hcomes⟩
def zkN (lr:Nat) (Rr:XE→Res) (Rb:Res) (R:Value→zb→za→Prop) (_:Tok R) (e:XE) (G:zb) (l:Fr) (H:za):Prop:=
 zq H lr=some Rb∧R (.bool e.jump.isNone) G (zab H lr (Rr e))
def noK (_:XE) (_:zb) (_:Fr) (_:za):Prop:=False
theorem Tri.rangeF2 {P:Program} {T:Tys} (hT:zT P T) (keep:List Nat) {sz:Nat} {g:Operand} {ps:Array Tmp} {as body:Code} {G:zb} {l:Fr} {H:za} {K:zaO} {gf:FuncId} {caps:Array Value}
  (hg:ev l g=some (.func (.func gf) #[] caps)) (hc:Callee P gf) (hok:(ps.toList.all (fun p=>decide (p<sz))&&zfk as&&zfk body&&zaP sz as&&zaP sz body)=true)
  (h: ∀ (lr:Nat) (Rr:XE→Res) (Rb:Res),Sep G (lr::zm H)→
   (∀ {args:List Value} {G1:zb} {H1:za} {R1:Value→zb→za→Prop},args.length=ps.size→zq H1 lr=some (Rr .normal)→
    wpC P T sz keep as G1 (zf0 ps.toList args l) H1 (zem (zrC lr (Rr .normal) Rb fun G2 l2 H2=>wpC P T sz keep body G2 l2 H2 (zkN lr Rr Rb R1 .mk)) noK .mk .mk)→zbZ P lr args G1 H1 R1)→
   FnT P gf (.func (.yield lr) #[] #[]::caps.toList) G ((lr,Rr .normal)::H) fun _ G' H'=> ∃e:XE,zq H' lr=some (Rr e)∧K e G' l (zac H' lr)):Tri P sz (.rangeFunc g ps as body) G l H K:=by
 refine Tri.rangeF hg hc fun lr D hs=>?_
 refine h lr (fun e=>zhH e ps as body D sz l) (zrB ps as body D sz l) hs fun h1 h2 h3=>?_
 exact zbZ.of hT keep h1 hok h2 h3
section
variable (b lr:Nat) (r r' Rb:Res) (Rr:XE→Res) (R:Value→zb→za→Prop) (k:zb→Fr→za→Prop) (G:zb) (l:Fr) (H:za)
theorem zvc:zrC b r r' k G l H=(zq H b=some r∧k G l (zab H b r')):=rfl
theorem zm7:zkN lr Rr Rb R .mk .normal G l H=(zq H lr=some Rb∧R (.bool true) G (zab H lr (Rr .normal))):=rfl
theorem zrD:zkN lr Rr Rb R .mk .ret G l H=(zq H lr=some Rb∧R (.bool false) G (zab H lr (Rr .ret))):=rfl
theorem zpH (id:Nat):zkN lr Rr Rb R .mk (.exit id) G l H=(zq H lr=some Rb∧R (.bool false) G (zab H lr (Rr (.exit id)))):=rfl
theorem zpI (p:Nat) (ps:List Nat) (v:Value) (vs:List Value):zf0 (p::ps) (v::vs) l=zf0 ps vs ((p,v)::l):=rfl
theorem zrE (vs:List Value):zf0 [] vs l=l:=by cases vs <;> rfl
end
attribute [go_sem] zvc zm7 zrD zpH zpI zrE
variable {E:Env}
inductive Sk where
 |run
 |cut
 |seq (a b:Sk)
 |cond (a b:Sk)
 |block (a:Sk)
def wpS (P:Program) (T:Tys) (sz:Nat) (keep:List Nat) (s:Sk) (c:Code) (G:zb) (l:Fr) (H:za) (K:zaO) (_:Tok c:= .mk) (_:Tok K:= .mk):Prop:=
 match s,c with
 | .cut,c=>Tri P sz c G l H K
 | .seq a b, .seq x y=>wpS P T sz keep a x G l H (zem (fun G' l' H'=>wpS P T sz keep b y G' l' H' K) K .mk .mk)
 | .cond a b, .cond e x y=>zC (ev l e) fun v=>zhE v (wpS P T sz keep a x G l H K) (wpS P T sz keep b y G l H K)
 | .block a, .block id c=>wpS P T sz keep a c G l H (zdJ id K .mk)
 |_,c=>wpC P T sz keep c G l H K
theorem ziD {P:Program} {T:Tys} (hT:zT P T) {sz:Nat} {keep:List Nat}: ∀ (s:Sk) (c:Code) {G:zb} {l:Fr} {H:za} {K:zaO},zaP sz c=true→wpS P T sz keep s c G l H K→Tri P sz c G l H K:=by
 intro s
 induction s with
 |run=>intro c G l H K hlt h;unfold wpS at h;exact zdc hT c hlt h
 |cut=>intro c G l H K hlt h;unfold wpS at h;exact h
 |seq a b iha ihb=>
  intro c G l H K hlt h
  cases c with
  |seq x y=>
   simp only[zaP,Bool.and_eq_true] at hlt
   unfold wpS at h
   intro E a w Q hs hk
   refine wp_seq (iha x hlt.1 h a w _ hs fun E' e G' l' H' a' w' hE hle hs' hk'=>?_)
   cases e with
   |normal=>exact ihb y hlt.2 hk' a' w' Q hs' fun E2 e G2 l2 H2 a2 w2 hE2 hle2 hs2 hk2=>hk E2 e G2 l2 H2 a2 w2 (hE.trans hE2) (hle.trans hle2) hs2 hk2
   |exit id=>exact hk E' (.exit id) G' l' H' a' w' hE hle hs' hk'
   |ret=>exact hk E' .ret G' l' H' a' w' hE hle hs' hk'
  |_=>unfold wpS at h;exact zdc hT _ hlt h
 |cond a b iha ihb=>
  intro c G l H K hlt h
  cases c with
  |cond e x y=>
   simp only[zaP,Bool.and_eq_true] at hlt
   unfold wpS at h
   intro E a w Q hs hk
   have h1:=zx hs h
   unfold zhE at h1
   split at h1
   ·rename_i b hb
    exact wpIn_wide.1 (wpIn_cond_split (n:=0) hb (fun e=>wpIn_wide.2 (iha x hlt.1 (h1.1 e) a w Q hs hk)) (fun e=>wpIn_wide.2 (ihb y hlt.2 (h1.2 e) a w Q hs hk)))
   ·exact h1.elim
  |_=>unfold wpS at h;exact zdc hT _ hlt h
 |block a iha=>
  intro c G l H K hlt h
  cases c with
  |block id c=>
   unfold wpS at h
   exact Tri.block (iha c hlt h)
  |_=>unfold wpS at h;exact zdc hT _ hlt h
theorem zxm {P:Program} {T:Tys} {sz:Nat} {keep:List Nat} {c:Code} {G:zb} {l:Fr} {H:za} {K:zaO}:wpS P T sz keep .cut c G l H K=Tri P sz c G l H K:=by unfold wpS;rfl
theorem zxn {P:Program} {T:Tys} {sz:Nat} {keep:List Nat} {c:Code} {G:zb} {l:Fr} {H:za} {K:zaO}:wpS P T sz keep .run c G l H K=wpC P T sz keep c G l H K:=by unfold wpS;rfl
theorem zxo {P:Program} {T:Tys} {sz:Nat} {keep:List Nat} {a b:Sk} {x y:Code} {G:zb} {l:Fr} {H:za} {K:zaO}:wpS P T sz keep (.seq a b) (.seq x y) G l H K=wpS P T sz keep a x G l H (zem (fun G' l' H'=>wpS P T sz keep b y G' l' H' K) K .mk .mk):=by rw[wpS]
theorem zvd {P:Program} {T:Tys} {sz:Nat} {keep:List Nat} {a b:Sk} {e:Operand} {x y:Code} {G:zb} {l:Fr} {H:za} {K:zaO}:wpS P T sz keep (.cond a b) (.cond e x y) G l H K=zC (ev l e) fun v=>zhE v (wpS P T sz keep a x G l H K) (wpS P T sz keep b y G l H K):=by rw[wpS]
theorem zta {P:Program} {T:Tys} {sz:Nat} {keep:List Nat} {a:Sk} {id:Nat} {c:Code} {G:zb} {l:Fr} {H:za} {K:zaO}:wpS P T sz keep (.block a) (.block id c) G l H K=wpS P T sz keep a c G l H (zdJ id K .mk):=by rw[wpS]
attribute [go_sem] zxm zxn zxo zvd zta
theorem Tri.runS {P:Program} {T:Tys} (hT:zT P T) {sz:Nat} (keep:List Nat) (s:Sk) {c:Code} {G:zb} {l:Fr} {H:za} {K:zaO} (hlt:zaP sz c=true) (h:wpS P T sz keep s c G l H K):Tri P sz c G l H K:=
 fun E a w Q hs hk=>ziD hT s c hlt h a w Q hs hk
theorem Tri.sepT {P:Program} {sz:Nat} {c:Code} {G:zb} {l:Fr} {H:za} {K:zaO} (h:Sep G (zm H)→Tri P sz c G l H K):Tri P sz c G l H K:=fun E a w Q hs hk=>h hs.heap.sep a w Q hs hk
theorem Sep.suf {G:zb} {H':za}: ∀ {H:za},Sep G (zm (H++H'))→Sep G (zm H')
 | [],h=>h
 |_::H,h=>Sep.suf (H:=H) h.2
theorem zU.neFind {H:za} {b n:Nat} {r:Res} (h:zU n (zm H)) (hf:zq H b=some r):n≠b:=by
 have:=zgo hf
 intro e;subst e
 have hm:n∈zm H:=List.mem_map.2 ⟨_,this,rfl⟩
 clear this hf
 induction H with
 |nil=>cases hm
 |cons p H ih=>
  rcases List.mem_cons.1 hm with e|e
  ·exact h.1 e
  ·exact ih h.2 e
theorem Tri.live {P:Program} {sz:Nat} (live:List Nat) {c:Code} {G:zb} {l:Fr} {H:za} {K:zaO} (h:Tri P sz c G (zy live l) H K):Tri P sz c G l H K:=
 fun E a w Q hs hk=>h a w Q (hs.weak (zaX live l)) hk
def onlyN (M:zb→Fr→za→Prop) (_:Tok M:= .mk):zaO:=fun e G l H=>match e with
 | .normal=>Upd G H fun G' H'=>M G' l H'
 |_=>False
theorem zb1 {M:zb→Fr→za→Prop} {G:zb} {l:Fr} {H:za}:onlyN M .mk .normal G l H=Upd G H fun G' H'=>M G' l H':=rfl
theorem Tri.onlyN {P:Program} {sz:Nat} {c:Code} {G:zb} {l:Fr} {H:za} {K:zaO} {M:zb→Fr→za→Prop} (h:Tri P sz c G l H (V.onlyN M))
  (hk: ∀G' l' H',PLe G G'→Sep G' (zm H')→M G' l' H'→K .normal G' l' H'):Tri P sz c G l H K:=by
 intro E a w Q hs hq
 refine h a w Q hs fun E' e G' l' H' a' w' hE hle hs' hk'=>?_
 cases e with
 |normal=>
  obtain⟨G2,H2,q1,q2,q3⟩:=hk' w' hs'.heap
  exact hq E' .normal G2 l' H2 a' w' hE (hle.trans q1) ⟨hs'.size,hs'.defers,hs'.fr,q2⟩ (hk G2 l' H2 (hle.trans q1) q2.sep q3)
 |exit id=>exact hk'.elim
 |ret=>exact hk'.elim
theorem zpJ (l:Fr) (ts:List Nat) (H:za) (a:Option Addr) (n c:Nat):zni l ts H (some (.slice a n c))=zcB l ts H:=rfl
attribute [go_sem] zb1 zpJ
theorem FnT.rd {P:Program} {f:FuncId} {args:List Value} {G:zb} {H:za} (H':za) {v:Value} {R:Value→zb→za→Prop} (h: ∀R':Value→zb→za→Prop,R' v G H'→FnT P f args G H' R')
  (hs1: ∀f:Nat×Res→Nat,(H'.map f).sum≤(H.map f).sum) (hs2: ∀f:Nat×Res→Nat,(H.map f).sum≤(H'.map f).sum) (hR:R v G H):FnT P f args G H R:=
 FnT.upd (FnT.leave (h _ (Upd.go (H':=H) hs2 (Upd.now hR))) hs1)
def zfl:List Nat→Option Code→Option Code
 | [],c=>c
 |0::p,some (.seq x _)=>zfl p (some x)
 |_::p,some (.seq _ y)=>zfl p (some y)
 |0::p,some (.cond _ x _)=>zfl p (some x)
 |_::p,some (.cond _ _ y)=>zfl p (some y)
 |_::p,some (.block _ c)=>zfl p (some c)
 |_::p,some (.loop c)=>zfl p (some c)
 |_::p,some (.scope c)=>zfl p (some c)
 |0::p,some (.rangeFunc _ _ x _)=>zfl p (some x)
 |_::p,some (.rangeFunc _ _ _ y)=>zfl p (some y)
 |_,_=>none
def piece (p:List Nat) (f:Func):Code:=(zfl p f.body).getD .skip
theorem zve {p:List Nat} {f:Func} {c:Code} (h:zfl p f.body=some c):piece p f=c:=by unfold piece;rw[h];rfl
theorem Tri.piece {P:Program} {sz:Nat} {p:List Nat} {f:Func} {c:Code} (hb:zfl p f.body=some c) {G:zb} {l:Fr} {H:za} {K:zaO} (h:Tri P sz c G l H K):Tri P sz (V.piece p f) G l H K:=zve hb▸h
theorem Tri.isPiece {P:Program} {sz:Nat} (p:List Nat) (f:Func) {c:Code} (hb:(V.piece p f)=c) {G:zb} {l:Fr} {H:za} {K:zaO} (h:Tri P sz (V.piece p f) G l H K):Tri P sz c G l H K:=hb▸h
theorem Tri.loopS {P:Program} {T:Tys} (hT:zT P T) {sz:Nat} (keep:List Nat) (s:Sk) {c:Code} {G:zb} {l:Fr} {H:za} {K:zaO} (hlt:zaP sz c=true) (live:List Nat)
  (I:Nat→zb→Fr→za→Prop) (n:Nat) (h0:Upd G H fun G' H'=>I n G' (zy live l) H')
  (round: ∀n G' l' H',PLe G G'→Sep G' (zm H')→I n G' l' H'→wpS P T sz keep s c G' l' H' (zem (fun G'' l'' H''=>Upd G'' H'' fun G0 H0=> ∃m,m<n∧I m G0 (zy live l'') H0) K .mk .mk)):
  Tri P sz (.loop c) G l H K:=by
 intro E a w Q hs hk
 obtain⟨G1,H1,g1,g2,g3⟩:=h0 w hs.heap
 refine znD (fun n a w=> ∃E' G' l' H',Env.le E E'∧PLe G G'∧Sim E' sz G' l' H' a w∧I n G' l' H') ?_ n a w ⟨E,G1,_,H1,Env.le.refl E,g1,⟨hs.size,hs.defers,(hs.weak (zaX live l)).fr,g2⟩,g3⟩
 rintro n a w ⟨E',G',l',H',hE,hle,hs',hI⟩
 refine ziD hT s c hlt (round n G' l' H' hle hs'.heap.sep hI) a w _ hs' fun E2 e G2 l2 H2 a2 w2 hE2 hle2 hs2 hk2=>?_
 cases e with
 |normal=>
  obtain⟨G3,H3,q1,q2,m,hm,hI2⟩:=hk2 w2 hs2.heap
  exact⟨m,hm,E2,G3,_,H3,hE.trans hE2,(hle.trans hle2).trans q1,⟨hs2.size,hs2.defers,(hs2.weak (zaX live l2)).fr,q2⟩,hI2⟩
 |exit id=>exact hk E2 (.exit id) G2 l2 H2 a2 w2 (hE.trans hE2) (hle.trans hle2) hs2 hk2
 |ret=>exact hk E2 .ret G2 l2 H2 a2 w2 (hE.trans hE2) (hle.trans hle2) hs2 hk2
theorem FnT.bodyS {P:Program} {T:Tys} (hT:zT P T) {f:FuncId} {fn:Func} {c:Code} (keep:List Nat) (s:Sk) (hf:P.funcs[f]? =some fn) (hb:fn.body=some c) (hn:(fn.name== "runtime.NumGoroutine")=false)
  {args:List Value} {G:zb} {H:za} {R:Value→zb→za→Prop} (hlt:zaP fn.ntmps c=true) (hargs:args.length≤fn.ntmps)
  (h:Sep G (zm H)→wpS P T fn.ntmps keep s c G (zdK 0 args) H (zlv T fn.results.toList (zo R) .mk)):FnT P f args G H R:=by
 exact FnT.upd (FnT.ofT hT hf hb hn hargs fun hs=>ziD hT s c hlt (h hs))
theorem Upd.shareAll: ∀ (F:za) {G:zb} {H:za} {k:zb→za→Prop},(∀p∈F,∃xs sp e,p.2=Res.cells xs sp e)→Sep G (zm (F++H))→
  (∀G',PLe G G'→Sep G' (zm H)→(∀p∈F,∀xs sp e,p.2=Res.cells xs sp e→Row G' (some ⟨p.1,0,none⟩) xs)→k G' H)→Upd G (F++H) k
 | [],G,H,k,_,hs,h=>Upd.now (h G (PLe.refl _) hs fun p hp=>by cases hp)
 | (b,r)::F,G,H,k,hF,hs,h=>by
  obtain⟨xs,sp,e,hr⟩:=hF (b,r) (List.mem_cons_self ..)
  simp only at hr
  subst hr
  refine Upd.trans (Upd.shareRow hs.1.1 fun G1 hle1 hs1 hr1=>?_)
  refine Upd.shareAll F (fun p hp=>hF p (List.mem_cons_of_mem _ hp)) hs1 fun G2 hle2 hs2 hall=>h G2 (hle1.trans hle2) hs2 fun p hp xs' sp' e' hp'=>?_
  rcases List.mem_cons.1 hp with rfl|hp
  ·cases hp'
   exact hr1.mono hle2
  ·exact hall p hp xs' sp' e' hp'
structure Fam (e:TypeId) (vs:List Value) (M:List (List Value)) (F:za):Prop where
 lenv:vs.length=M.length
 lenF:F.length=M.length
 get: ∀i (h:i<M.length) (h1:i<vs.length) (h2:i<F.length),∃b c sp,vs[i]= .slice (some ⟨b,0,none⟩) M[i].length c∧F[i]=(b, .cells M[i] sp e)∧M[i].length+sp.length=c
theorem Fam.nil (e:TypeId):Fam e [] [] []:=⟨rfl,rfl,fun i h=>by cases h⟩
theorem Fam.snoc {e:TypeId} {vs:List Value} {M:List (List Value)} {F:za} (h:Fam e vs M F) {b c:Nat} {r sp:List Value} (hc:r.length+sp.length=c):
  Fam e (vs++[.slice (some ⟨b,0,none⟩) r.length c]) (M++[r]) (F++[(b, .cells r sp e)]):=by
 have h1:=h.lenv
 have h2:=h.lenF
 refine⟨by simp [h1],by simp [h2],fun i hi hi1 hi2=>?_⟩
 rcases Nat.lt_or_ge i M.length with g|g
 ·obtain⟨b',c',sp',e1,e2,e3⟩:=h.get i g Ko Ko
  refine⟨b',c',sp',?_,?_,?_⟩
  ·rw[List.getElem_append_left Ko,List.getElem_append_left g];exact e1
  ·rw[List.getElem_append_left Ko,List.getElem_append_left g];exact e2
  ·rw[List.getElem_append_left g];exact e3
 ·rw[List.length_append,List.length_singleton] at hi
  obtain rfl:i=M.length:=by omega
  refine⟨b,c,sp,?_,?_,?_⟩
  ·rw[List.getElem_append_right Ko,List.getElem_append_right Ko];simp [h1]
  ·rw[List.getElem_append_right Ko,List.getElem_append_right Ko];simp [h2]
  ·rw[List.getElem_append_right Ko];simp [hc]
theorem zqd (f:Nat×Res→Nat): ∀ (F:za) (i:Nat) (h:i<F.length),(F.map f).sum=f F[i]+((F.eraseIdx i).map f).sum
 | [],i,h=>by cases h
 |p::F,0,h=>rfl
 |p::F,i+1,h=>by
  have:=zqd f F i (by simpa using h)
  simp only[List.map_cons,List.sum_cons,List.getElem_cons_succ,List.eraseIdx_cons_succ]
  omega
theorem zqe (f:Nat×Res→Nat) (x:Nat×Res): ∀ (F:za) (i:Nat) (h:i<F.length),((F.set i x).map f).sum=f x+((F.eraseIdx i).map f).sum
 | [],i,h=>by cases h
 |p::F,0,h=>rfl
 |p::F,i+1,h=>by
  have:=zqe f x F i (by simpa using h)
  simp only[List.set_cons_succ,List.map_cons,List.sum_cons,List.eraseIdx_cons_succ]
  omega
theorem Fam.out {e:TypeId} {vs:List Value} {M:List (List Value)} {F:za} (h:Fam e vs M F) {i:Nat} (hi:i<M.length):
  ∃ (b c:Nat) (sp:List Value) (F':za),vs[i]'(by rw[h.lenv];exact hi)= .slice (some ⟨b,0,none⟩) M[i].length c∧M[i].length+sp.length=c∧(∀f:Nat×Res→Nat,(F.map f).sum=f (b, .cells M[i] sp e)+(F'.map f).sum)∧
   ∀r:List Value,r.length=M[i].length→ ∃F'':za,Fam e vs (M.set i r) F''∧ ∀f:Nat×Res→Nat,(F''.map f).sum=f (b, .cells r sp e)+(F'.map f).sum:=by
 have hv:=h.lenv
 have hF:=h.lenF
 obtain⟨b,c,sp,e1,e2,e3⟩:=h.get i hi Ko Ko
 refine⟨b,c,sp,F.eraseIdx i,e1,e3,fun f=>?_,fun r hr=>⟨F.set i (b, .cells r sp e),⟨?_,?_,fun j hj h1 h2=>?_⟩,fun f=>zqe f _ F i Ko⟩⟩
 ·rw[zqd f F i Ko,e2]
 ·rw[List.length_set];exact hv
 ·rw[List.length_set,List.length_set];exact hF
 ·rw[List.length_set] at hj
  by_cases hij:i=j
  ·subst hij
   refine⟨b,c,sp,?_,?_,?_⟩
   ·rw[e1,List.getElem_set_self,hr]
   ·rw[List.getElem_set_self,List.getElem_set_self]
   ·rw[List.getElem_set_self,hr];exact e3
  ·obtain⟨b',c',sp',g1,g2,g3⟩:=h.get j hj h1 (by rw[List.length_set] at h2;exact h2)
   refine⟨b',c',sp',?_,?_,?_⟩
   ·rw[List.getElem_set_ne hij];exact g1
   ·rw[List.getElem_set_ne hij,List.getElem_set_ne hij];exact g2
   ·rw[List.getElem_set_ne hij];exact g3
theorem Fam.share {e:TypeId} {vs:List Value} {M:List (List Value)} {F:za} (h:Fam e vs M F) {G:zb} {H:za} {k:zb→za→Prop} (hs:Sep G (zm (F++H)))
  (hk: ∀G',PLe G G'→Sep G' (zm H)→(∀i (hi:i<M.length) (h1:i<vs.length),∃a c,vs[i]= .slice a M[i].length c∧Row G' a M[i]∧M[i].length≤c)→k G' H):Upd G (F++H) k:=by
 have hv:=h.lenv
 have hF:=h.lenF
 refine Upd.shareAll F (fun p hp=>?_) hs fun G' hle hs' hall=>hk G' hle hs' fun i hi h1=>?_
 ·obtain⟨i,hi,rfl⟩:=List.getElem_of_mem hp
  obtain⟨b,c,sp,_,e2,_⟩:=h.get i Ko Ko hi
  exact⟨_,_,_,by rw[e2]⟩
 ·obtain⟨b,c,sp,e1,e2,e3⟩:=h.get i hi h1 Ko
  have:=hall (F[i]'Ko) (List.getElem_mem _) M[i] sp e (by rw[e2])
  rw[e2] at this
  exact⟨_,c,e1,this,by omega⟩
def zap (n:Nat) (g:Nat→Bool):List Value:=(List.range n).map fun t=> .bool (g t)
def zdg (n:Nat) (f:Nat→Nat→Bool):List (List Value):=(List.range n).map fun s=>zap n (f s)
theorem zY (n:Nat) (g:Nat→Bool):(zap n g).length=n:=by simp [zap]
theorem zb2 (n:Nat) (f:Nat→Nat→Bool):(zdg n f).length=n:=by simp [zdg]
theorem zdX {n:Nat} (g:Nat→Bool) {t:Nat} (h:t<n):(zap n g)[t]'(by rw[zY];exact h)= .bool (g t):=by simp [zap]
theorem rowV_get? {n:Nat} (g:Nat→Bool) {t:Nat} (h:t<n):(zap n g)[t]? =some (.bool (g t)):=by rw[List.getElem?_eq_getElem (by rw[zY];exact h),zdX g h]
theorem zcP {n:Nat} (f:Nat→Nat→Bool) {s:Nat} (h:s<n):(zdg n f)[s]'(by rw[zb2];exact h)=zap n (f s):=by simp [zdg]
theorem zhI {n:Nat} {g g':Nat→Bool} (h: ∀t,t<n→g t=g' t):zap n g=zap n g':=by
 unfold zap
 refine List.map_congr_left fun t ht=>?_
 rw[h t (List.mem_range.1 ht)]
theorem zkO {n:Nat} {f f':Nat→Nat→Bool} (h: ∀s t,s<n→t<n→f s t=f' s t):zdg n f=zdg n f':=by
 unfold zdg
 refine List.map_congr_left fun s hs=>?_
 exact zhI fun t ht=>h s t (List.mem_range.1 hs) ht
theorem znU {n:Nat} (g:Nat→Bool) {t:Nat} (h:t<n) (x:Bool):zf (zap n g) t [.bool x]=zap n fun j=>if j=t then x else g j:=by
 unfold zf
 apply List.ext_getElem
 ·simp [zY];omega
 ·intro j h1 h2
  rw[zY] at h2
  rw[zdX _ h2]
  have hl:((zap n g).take t).length=t:=by rw[List.length_take,zY];omega
  rcases Nat.lt_trichotomy j t with hj|hj|hj
  ·rw[List.getElem_append_left (by rw[List.length_append,hl];omega),List.getElem_append_left Ko,List.getElem_take,zdX g h2,if_neg Ko]
  ·subst hj
   rw[List.getElem_append_left (by rw[List.length_append,hl];simp),List.getElem_append_right Ko]
   simp [hl]
  ·rw[List.getElem_append_right (by rw[List.length_append,hl];simp;omega),List.getElem_drop,if_neg Ko]
   simp only[List.length_append,hl,List.length_singleton]
   have:(zap n g)[t+1+(j - (t+1))]'(by rw[zY];omega)=(zap n g)[j]'(by rw[zY];exact h2):=by congr 1;omega
   rw[this,zdX g h2]
theorem zvf {n:Nat} (f:Nat→Nat→Bool) {s:Nat} (h:s<n) (g:Nat→Bool):(zdg n f).set s (zap n g)=zdg n fun i=>if i=s then g else f i:=by
 apply List.ext_getElem
 ·simp [zb2]
 ·intro j h1 h2
  rw[zb2] at h2
  rw[zcP _ h2,List.getElem_set]
  by_cases e:s=j
  ·subst e;rw[if_pos rfl,if_pos rfl]
  ·rw[if_neg e,if_neg (fun h=>e h.symm),zcP f h2]
theorem ztb (n:Nat) (g:Nat→Bool):zap (n+1) g=zap n g++[.bool (g n)]:=by unfold zap;rw[List.range_succ,List.map_append];rfl
theorem zbZ.leave {P:Program} {lr:Nat} {args:List Value} {G:zb} {H H':za} {R:Value→zb→za→Prop} (h:zbZ P lr args G H' R) (hs: ∀f:Nat×Res→Nat,(H'.map f).sum≤(H.map f).sum):zbZ P lr args G H R:=fun E w hw=>h w (hw.leave hs)
end Go.V
