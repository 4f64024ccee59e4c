/- A part of the proof, joined of several texts: the verification layer, contracts of functions, plain law. -/
import Derived.Test.YtomdbjfdbkejoaaGreatDoorW2
import Derived.RangeFuncIn
import Derived.RangeFuncRecord
import Derived.RangeFuncLeaves
import Derived.RangeFuncSeq
import Derived.TacticsIn
import Derived.OrdersHeld
import Derived.ProofKit
import Derived.RowKit3
import Derived.ChangeSame
set_option maxHeartbeats 64000000
set_option linter.unusedSimpArgs false
set_option linter.unusedVariables false
set_option linter.unusedSectionVars false
namespace Go.V
variable {E:Env}
def FF (ro:Option Nat):Fence:={Fence.wide with round:=ro}
def zb8 (P:Program) (lr:Nat) (args:List Value) (G:za) (H:zb) (R:Value→za→zb→Prop) (_:Tok R:= .mk):Prop:=
 ∀ ⦃E:Env⦄ w,HeapOk E G H w→YieldAt Fence.wide 0 P lr args.toArray w fun e w'=> ∃v G' H',e= .returned v∧PLe G G'∧HeapOk E G' H' w'∧R v G' H'
def zgF (P:Program) (fv:Value) (vs:List Value) (G:za) (H:zb) (k:Value→za→zb→Prop) (_:Tok k:= .mk):Prop:=
 match fv with
 | .func (.yield lr) first _=>first= #[]∧zb8 P lr vs G H k
 |fv=>zjs P fv vs G H k
def zaz (P:Program) (T:Tys) (op:Op) (G:za) (l:Fr) (H:zb) (k:Value→za→zb→Prop) (_:Tok k:= .mk):Prop:=
 match op with
 | .call c=>match c.callee with
  | .value f=>zC (ev l f) fun fv=>evK l c.args.toList fun vs=>zgF P fv vs G H k
  |_=>zar P T (.call c) G l H k
 |op=>zar P T op G l H k
theorem zsS {P:Program} {ro:Option Nat} {row:String} {args:Array Value} {w:World} {R:Value→World→Prop} (h:Rows P row args w R):RowsIn (FF ro) 0 P row args w R:=
 fun c cs _=>let ⟨v,w',r,s⟩:=h c cs;⟨v,w',r,stepsIn_wide.2 s⟩
theorem zrf {P:Program} {ro:Option Nat} {f:FuncId} {args:Array Value} {w:World} {R:Ending→World→Prop} (h:Calls P f args w R):CallsIn (FF ro) 0 P f args w R:=
 ⟨trivial,fun cs _=>let ⟨e,w',fr,r,s,x⟩:=h cs;⟨e,w',fr,r,comesIn_wide.2 s,x⟩⟩
theorem zrg {P:Program} {ro:Option Nat} {o:Oper} (hd: ∀c,o.op≠ .defer c) {a:Act} {w:World} {next:Act→World→Prop} {Q:Exit→Act→World→Prop} (h:o.wp P a w next Q):o.wpIn (FF ro) 0 P a w next Q:=by
 refine⟨fun _ _=>trivial,?_⟩
 rw[show(FF ro).round=ro from rfl,Oper.semAt_eq ro a.eval o hd]
 unfold Oper.wp at h
 revert h
 generalize (execOp a.eval o).run P w=r
 intro h
 cases r with
 |ok x w'=>
  cases x with
  |value v=>exact h
  |skip=>exact h
  |defer d=>exact h
  |enter f args=>exact⟨fun _=>by simp_all [FF,Fence.wide],zrf h⟩
  |row row args=>exact⟨fun _=>by simp_all [FF,Fence.wide],zsS h⟩
  |_=>exact h.elim
 |halt x w'=>
  cases x <;> first|exact h|exact h.elim
theorem zpn {P:Program} {T:Tys} (hT:zR P T) {ro:Option Nat} {o:Oper} {sz:Nat} {G:za} {l:Fr} {H:zb} {a:Act} {w:World} {k:Value→za→zb→Prop}
  {next:Act→World→Prop} {Q:Exit→Act→World→Prop} (h:zaz P T o.op G l H k) (hs:Sim E sz G l H a w)
  (hk: ∀v G' H' w',PLe G G'→HeapOk E G' H' w'→k v G' H'→next (a.put o.dst v) w'):o.wpIn (FF ro) 0 P a w next Q:=by
 have old:zar P T o.op G l H k→o.wpIn (FF ro) 0 P a w next Q:=fun h=>zrg (fun c hc=>by rw[hc] at h;exact h.elim) (zg4 hT h hs hk)
 obtain⟨dst,op,ty,pos,after,guard⟩:=o
 cases op with
 |call c=>
  obtain⟨callee,args,ats⟩:=c
  cases callee with
  |value f=>
   simp only[zaz] at h
   have h1:=zey hs (zt hs h)
   unfold zgF at h1
   split at h1
   ·rename_i fv lr first caps hf
    obtain⟨rfl,h1⟩:=h1
    obtain⟨fn,tmps,as,body,hr,hround⟩:=h1 w hs.heap
    refine⟨fun _ _=>trivial,?_⟩
    rw[show(FF ro).round=ro from rfl,Oper.semAt_eq ro a.eval _ (fun c hc=>by cases hc)]
    have he:execOp a.eval ⟨dst, .call {callee:= .value f,args:=args,argTypes:=ats},ty,pos,after,guard⟩=Instr.yield lr (args.map a.eval):=by
     simp only[execOp,resolve,hf,Deferred.ofValue,pure_bind,invoke]
     simp
    have hargs:(args.toList.map a.eval).toArray=args.map a.eval:=by apply Array.ext';simp
    rw[hargs] at hr
    rw[he,hr]
    refine⟨fun hx=>by simp [FF,Fence.wide] at hx,?_⟩
    have hround':RoundIn (FF ro) 0 P lr fn tmps as body w _:=hround
    refine⟨hround'.1,fun c cs hroom=>?_⟩
    obtain⟨e,w',⟨v,G',H',rfl,h2,h3,h4⟩,hcomes⟩:=hround'.2 c cs hroom
    exact⟨.returned v,w',hk v G' H' w' h2 h3 h4,hcomes⟩
   ·rename_i hny
    have hne: ∀vs,zgF P (a.eval f) vs G H k=zjs P (a.eval f) vs G H k:=fun vs=>by
     unfold zgF
     split
     ·rename_i e;exact(hny _ _ _ e).elim
     ·rfl
    refine old ?_
    simp only[zar]
    cases hev:ev l f with
    |none=>rw[hev] at h;exact h.elim
    |some v=>
     have e:=hs.ev hev
     rw[hev] at h
     simp only[zC] at h⊢
     rw[e] at hne
     rw[←funext hne]
     exact h
  |builtin b=>exact old h
  |invoke r m=>exact old h
 |_=>exact old h
def gK (v:Value) (t:Nat) (want:Bool) (l:Fr) (yes no:Fr→Prop) (_:Tok yes:= .mk) (_:Tok no:= .mk):Prop:=
 match v with
 | .bool b=>Br (b==want) (yes ((t, .bool want)::l)) (no ((t, .bool (!want))::l))
 | .tuple _=>no l
 |_=>False
def zfH (ops:List Oper) (j:Nat):Option (Option Nat):=(ops[j]?).map (·.dst)
def gv (v:Value) (want:Bool):Bool:=match v with| .bool b=>b==want|_=>false
def zco (all:List Oper) (g:Option (Nat×Bool)) (l:Fr) (yes no:Fr→Prop) (_:Tok yes:= .mk) (_:Tok no:= .mk):Prop:=
 match g with
 |none=>yes l
 |some (j,want)=>match (zfH all j).join with
  |none=>False
  |some t=>zC (look l t) fun v=>gK v t want l yes no
def wpO (P:Program) (T:Tys) (all:List Oper) (os:List Oper) (G:za) (l:Fr) (H:zb) (K:za→Fr→zb→Prop) (_:Tok all:= .mk) (_:Tok os:= .mk) (_:Tok K:= .mk):Prop:=
 match os with
 | []=>K G l H
 |o::rest=>zco all o.guard l
   (fun l'=>zaz P T o.op G l' H fun v G' H'=>wpO P T all rest G' (put l' o.dst v) H' K)
   (fun l'=>wpO P T all rest G (put l' o.dst undef) H K)
def zfj (sz:Nat) (ops:List Oper):Bool:=ops.all fun o=>match o.dst with|some d=>decide (d<sz)|none=>true
theorem Sim.know {sz:Nat} {G:za} {l:Fr} {H:zb} {a:Act} {w:World} (h:Sim E sz G l H a w) {t:Nat} {v:Value} (hv:a.tmps.getD t undef=v):Sim E sz G ((t,v)::l) H a w:=
 ⟨h.size,h.defers,fun u x hx=>by
  simp only[look] at hx
  split at hx
  ·rename_i e;subst e;cases hx;exact hv
  ·exact h.fr u x hx,h.heap⟩
theorem ziE {P:Program} {T:Tys} (hT:zR P T) {ro:Option Nat} {ops:Array Oper} {sz:Nat} {Q:Exit→Act→World→Prop}: ∀ (rest:List Oper) {G:za} {l:Fr} {H:zb} {a:Act} {w:World} {K:za→Fr→zb→Prop},
  (∀o∈rest,∀d,o.dst=some d→d<sz)→wpO P T ops.toList rest G l H K→Sim E sz G l H a w→
  (∀G' l' H' a' w',PLe G G'→Sim E sz G' l' H' a' w'→K G' l' H'→Q .normal a' w')→wpListIn (FF ro) 0 P ops Q rest a w
 | [],G,l,H,a,w,K,_,h,hs,hk=>hk G l H a w (PLe.refl _) hs h
 |o::rest,G,l,H,a,w,K,hd,h,hs,hk=>by
  have hd': ∀o∈rest,∀d,o.dst=some d→d<sz:=fun o ho=>hd o (List.mem_cons_of_mem _ ho)
  have hdo:=hd o (List.mem_cons_self ..)
  simp only[wpO] at h
  unfold wpListIn
  have yes: ∀l',Sim E sz G l' H a w→(zaz P T o.op G l' H fun v G' H'=>wpO P T ops.toList rest G' (put l' o.dst v) H' K)→o.wpIn (FF ro) 0 P a w (wpListIn (FF ro) 0 P ops Q rest) Q:=fun l' hs' h'=>
   zpn hT h' hs' fun v G' H' w' hle hw' hwp=>ziE hT rest hd' hwp (hs'.put hw' hdo) fun G2 l2 H2 a2 w2 hle2 hs2 hk2=>hk G2 l2 H2 a2 w2 (hle.trans hle2) hs2 hk2
  have no: ∀l',Sim E sz G l' H a w→wpO P T ops.toList rest G (put l' o.dst undef) H K→(∀f,o.about P w a.eval=some f→(FF ro).fn f)∧wpListIn (FF ro) 0 P ops Q rest (a.put o.dst undef) w:=fun l' hs' h'=>⟨fun _ _=>trivial,
   ziE hT rest hd' h' (hs'.put hs'.heap hdo) hk⟩
  unfold zco at h
  split at h
  ·rename_i hg
   rw[if_pos (by simp [Region.wanted,hg])]
   exact(yes l hs h)
  ·rename_i j want hg
   split at h
   ·exact h.elim
   ·rename_i t ht
    have hdst:(ops[j]?).bind (·.dst)=some t:=by
     simp only[zfH,Array.getElem?_toList] at ht
     cases ho:ops[j]? with
     |none=>rw[ho] at ht;simp at ht
     |some o'=>rw[ho] at ht;simpa using ht
    unfold zC at h
    split at h
    ·rename_i v hv
     have htv:=hs.fr t v hv
     have hw:Region.wanted o (yielded ops a.tmps)=gv v want:=by
      unfold Region.wanted yielded
      simp only[hg,hdst,Option.bind_some]
      rw[Array.getD_eq_getD_getElem?] at htv
      cases hh:a.tmps[t]? with
      |none=>
       rw[hh] at htv
       simp [undef] at htv
       subst htv
       rfl
      |some x=>
       rw[hh] at htv
       simp at htv
       subst htv
       cases x <;> simp [gv]
     rw[hw]
     cases v <;> simp only[gK] at h <;> try exact h.elim
     case bool b=>
      rcases Bool.eq_false_or_eq_true (b==want) with hb|hb
      ·rw[if_pos (show gv (.bool b) want=true from hb)]
       rw[hb,zjk] at h
       have e:b=want:=by simpa using hb
       subst e
       exact(yes _ (hs.know htv) h)
      ·rw[if_neg (show ¬gv (.bool b) want=true by rw[show gv (.bool b) want=false from hb];simp)]
       rw[hb,zhw] at h
       have e:b= !want:=by cases b <;> cases want <;> simp_all
       subst e
       exact no _ (hs.know htv) h
     case tuple vs=>
      rw[if_neg (show ¬gv (.tuple vs) want=true by simp [gv])]
      exact no _ hs h
    ·exact h.elim
inductive XE where
 |normal|exit (id:Nat)|ret
def XE.to:XE→Exit
 | .normal=> .normal
 | .exit id=> .exit id
 | .ret=> .ret
abbrev zaI:=XE→za→Fr→zb→Prop
def Env.le (E E':Env):Prop:=E'.os=E.os∧E'.out=E.out∧E'.outer=E.outer
theorem Env.le.refl (E:Env):Env.le E E:=⟨rfl,rfl,rfl⟩
theorem Env.le.trans {A B C:Env} (h:Env.le A B) (h':Env.le B C):Env.le A C:=⟨h'.1.trans h.1,h'.2.1.trans h.2.1,h'.2.2.trans h.2.2⟩
def Tri (P:Program) (sz:Nat) (c:Code) (G:za) (l:Fr) (H:zb) (K:zaI) (_:Tok c:= .mk) (_:Tok K:= .mk):Prop:=
 ∀ ⦃E:Env⦄ (a:Act) (w:World) (Q:Exit→Act→World→Prop),Sim E sz G l H a w→
  (∀E' e G' l' H' a' w',Env.le E E'→PLe G G'→Sim E' sz G' l' H' a' w'→K e G' l' H'→Q e.to a' w')→c.wp P Q a w
def zdJ (k:za→Fr→zb→Prop) (K:zaI) (_:Tok k) (_:Tok K) (e:XE) (G:za) (l:Fr) (H:zb):Prop:=match e with| .normal=>k G l H|e=>K e G l H
def zdV (id:Nat) (K:zaI) (_:Tok K) (e:XE) (G:za) (l:Fr) (H:zb):Prop:=match e with| .exit id'=>if id'=id then K .normal G l H else K (.exit id') G l H|e=>K e G l H
def zhL (v:Value) (x y:Prop) (_:Tok x:= .mk) (_:Tok y:= .mk):Prop:=match v with| .bool b=>Br b x y|_=>False
def wpC (P:Program) (T:Tys) (sz:Nat) (keep:List Nat) (c:Code) (G:za) (l:Fr) (H:zb) (K:zaI) (_:Tok c:= .mk) (_:Tok K:= .mk):Prop:=
 match c with
 | .skip=>K .normal G l H
 | .region id ops true=>Tri P sz (.region id ops true) G l H K
 | .region id ops false=>wpO P T ops.toList ops.toList G l H fun G' l' H'=>K .normal G' (zD keep l') H'
 | .seq x y=>wpC P T sz keep x G l H (zdJ (fun G' l' H'=>wpC P T sz keep y G' l' H' K) K .mk .mk)
 | .cond c x y=>zC (ev l c) fun v=>zhL v (wpC P T sz keep x G l H K) (wpC P T sz keep y G l H K)
 | .block id c=>wpC P T sz keep c G l H (zdV id K .mk)
 | .exit id=>K (.exit id) G l H
 | .label _=>K .normal G l H
 | .ret=>K .ret G l H
 | .loop c=>Tri P sz (.loop c) G l H K
 | .scope c=>wpC P T sz keep c G l H K
 | .rangeFunc f ps as c=>Tri P sz (.rangeFunc f ps as c) G l H K
 | .goto _=>False
 | .refuse _=>False
def zaM (sz:Nat):Code→Bool
 | .region _ ops _=>zfj sz ops.toList
 | .seq x y=>zaM sz x&&zaM sz y
 | .cond _ x y=>zaM sz x&&zaM sz y
 | .block _ c=>zaM sz c
 | .loop c=>zaM sz c
 | .scope c=>zaM sz c
 | .rangeFunc _ _ x y=>zaM sz x&&zaM sz y
 |_=>true
theorem ze8 {sz:Nat} {ops:List Oper} (h:zfj sz ops=true): ∀o∈ops,∀d,o.dst=some d→d<sz:=by
 intro o ho d hd
 have:=List.all_eq_true.1 h o ho
 simp only[hd,decide_eq_true_eq] at this
 exact this
def zfr:Code→Bool
 | .region _ _ draw=> !draw
 | .seq x y=>zfr x&&zfr y
 | .cond _ x y=>zfr x&&zfr y
 | .block _ c=>zfr c
 | .loop _=>false
 | .scope _=>false
 | .rangeFunc .. =>false
 |_=>true
def ziF (ro:Option Nat) (P:Program) (sz:Nat) (c:Code) (G:za) (l:Fr) (H:zb) (K:zaI):Prop:=
 ∀ ⦃E:Env⦄ (a:Act) (w:World) (Q:Exit→Act→World→Prop),Sim E sz G l H a w→
  (∀E' e G' l' H' a' w',Env.le E E'→(ro.isSome=true→E'=E)→PLe G G'→Sim E' sz G' l' H' a' w'→K e G' l' H'→Q e.to a' w')→c.wpIn (FF ro) 0 P Q a w
theorem ziF.none {P:Program} {sz:Nat} {c:Code} {G:za} {l:Fr} {H:zb} {K:zaI}:ziF none P sz c G l H K↔Tri P sz c G l H K:=
 ⟨fun h E a w Q hs hk=>wpIn_wide.1 (h a w Q hs fun E' e G' l' H' a' w' hE _=>hk E' e G' l' H' a' w' hE),fun h E a w Q hs hk=>wpIn_wide.2 (h a w Q hs fun E' e G' l' H' a' w' hE=>hk E' e G' l' H' a' w' hE (fun h=>by cases h))⟩
theorem zhM {P:Program} {T:Tys} (hT:zR P T) {ro:Option Nat} {sz:Nat} {keep:List Nat}: ∀ (c:Code) {G:za} {l:Fr} {H:zb} {K:zaI},(ro.isSome=true→zfr c=true)→zaM sz c=true→wpC P T sz keep c G l H K→ziF ro P sz c G l H K:=by
 have old: ∀ {c:Code} {G:za} {l:Fr} {H:zb} {K:zaI},(ro.isSome=true→False)→Tri P sz c G l H K→ziF ro P sz c G l H K:=fun hro h=>by
  cases ro with
  |none=>exact ziF.none.2 h
  |some r=>exact(hro rfl).elim
 intro c
 induction c with
 |skip=>intro G l H K _ _ h E a w Q hs hk;exact wpIn_skip (hk E .normal G l H a w (Env.le.refl E) (fun _=>rfl) (PLe.refl _) hs h)
 |region id ops draw=>
  intro G l H K hc hlt h
  cases draw with
  |true=>exact old (fun hr=>by have:=hc hr;cases this) h
  |false=>
   simp only[wpC] at h
   intro E a w Q hs hk
   refine wpIn_region_list (ziE hT ops.toList (ze8 hlt) h hs fun G' l' H' a' w' hle hs' hk'=>?_)
   exact hk E .normal G' _ H' a' w' (Env.le.refl E) (fun _=>rfl) hle (hs'.weak (zaP keep l')) hk'
 |seq x y ihx ihy=>
  intro G l H K hc hlt h E a w Q hs hk
  simp only[zaM,zfr,Bool.and_eq_true] at hlt hc
  refine wpIn_seq (ihx (fun h=>(hc h).1) hlt.1 h a w _ hs fun E' e G' l' H' a' w' hE hro hle hs' hk'=>?_)
  cases e with
  |normal=>exact ihy (fun h=>(hc h).2) hlt.2 hk' a' w' Q hs' fun E2 e G2 l2 H2 a2 w2 hE2 hro2 hle2 hs2 hk2=>hk E2 e G2 l2 H2 a2 w2 (hE.trans hE2) (fun h=>(hro2 h).trans (hro h)) (hle.trans hle2) hs2 hk2
  |exit id=>exact hk E' (.exit id) G' l' H' a' w' hE hro hle hs' hk'
  |ret=>exact hk E' .ret G' l' H' a' w' hE hro hle hs' hk'
 |cond c x y ihx ihy=>
  intro G l H K hc hlt h E a w Q hs hk
  simp only[zaM,zfr,Bool.and_eq_true] at hlt hc
  simp only[wpC] at h
  have h1:=zt hs h
  unfold zhL at h1
  split at h1
  ·rename_i b hb
   exact wpIn_cond_split hb (fun e=>ihx (fun h=>(hc h).1) hlt.1 (h1.1 e) a w Q hs hk) (fun e=>ihy (fun h=>(hc h).2) hlt.2 (h1.2 e) a w Q hs hk)
  ·exact h1.elim
 |block id c ih=>
  intro G l H K hc hlt h E a w Q hs hk
  refine wpIn_block (ih hc hlt h a w _ hs fun E' e G' l' H' a' w' hE hro hle hs' hk'=>?_)
  cases e with
  |normal=>exact hk E' .normal G' l' H' a' w' hE hro hle hs' hk'
  |exit id'=>
   simp only[zdV] at hk'
   simp only[XE.to,Exit.inBlock]
   split
   ·rename_i e;rw[if_pos e] at hk';exact hk E' .normal G' l' H' a' w' hE hro hle hs' hk'
   ·rename_i e;rw[if_neg e] at hk';exact hk E' (.exit id') G' l' H' a' w' hE hro hle hs' hk'
  |ret=>exact hk E' .ret G' l' H' a' w' hE hro hle hs' hk'
 |loop c ih=>intro G l H K hc hlt h;exact old (fun hr=>by have:=hc hr;cases this) h
 |rangeFunc f ps x y ihx ihy=>intro G l H K hc hlt h;exact old (fun hr=>by have:=hc hr;cases this) h
 |exit id=>intro G l H K _ _ h E a w Q hs hk;exact wpIn_exit (hk E (.exit id) G l H a w (Env.le.refl E) (fun _=>rfl) (PLe.refl _) hs h)
 |scope c ih=>
  intro G l H K hc hlt h
  cases ro with
  |some r=>have:=hc rfl;cases this
  |none=>
   refine ziF.none.2 fun E a w Q hs hk=>wp_scope_straight (ziF.none.1 (ih (fun h=>by cases h) hlt h) a w _ hs fun E' e G' l' H' a' w' hE hle hs' hk'=>?_)
   cases e <;> exact hk E' _ G' l' H' a' w' hE hle hs' hk'
 |label n=>intro G l H K _ _ h E a w Q hs hk;exact wpIn_label (hk E .normal G l H a w (Env.le.refl E) (fun _=>rfl) (PLe.refl _) hs h)
 |goto n=>intro G l H K _ _ h;exact h.elim
 |ret=>intro G l H K _ _ h E a w Q hs hk;exact wpIn_ret (hk E .ret G l H a w (Env.le.refl E) (fun _=>rfl) (PLe.refl _) hs h)
 |refuse why=>intro G l H K _ _ h;exact h.elim
theorem zcY {P:Program} {T:Tys} (hT:zR P T) {sz:Nat} {keep:List Nat} (c:Code) {G:za} {l:Fr} {H:zb} {K:zaI} (hlt:zaM sz c=true) (h:wpC P T sz keep c G l H K):Tri P sz c G l H K:=
 ziF.none.1 (zhM hT c (fun h=>by cases h) hlt h)
theorem zkb {P:Program} {c:Code} {Q:Exit→Act→World→Prop} (I:Nat→Act→World→Prop)
  (round: ∀n a w,I n a w→c.wp P (Exit.then (fun a' w'=> ∃m,m<n∧I m a' w') Q) a w): ∀n a w,I n a w→(Code.loop c).wp P Q a w:=by
 intro n a w h0 b k cs
 have key: ∀n a w,I n a w→ ∃e a' w',Q e a' w'∧Arrives P (lone (b.at a (.code c:: .inLoop c::k)) cs w) b k cs e a' w':=by
  intro n
  induction n using Nat.strongRecOn with
  |_ n ih=>
   intro a w hI
   obtain⟨e,a₁,w₁,hq,harr⟩:=round n a w hI b (.inLoop c::k) cs
   cases e with
   |normal=>
    obtain⟨m,hlt,hI₁⟩:=hq
    obtain⟨e₂,a₂,w₂,hq₂,harr₂⟩:=ih m hlt a₁ w₁ hI₁
    exact⟨e₂,a₂,w₂,hq₂, .of_steps (Steps.trans harr (.one step_inLoop)) harr₂⟩
   |exit id=>exact⟨_,a₁,w₁,hq, .pass (x:= .inLoop c) rfl (fun _ _=> .inl (by simp)) harr⟩
   |goto l=>exact⟨_,a₁,w₁,hq, .pass (x:= .inLoop c) rfl (fun _ _=> .inl (by simp)) harr⟩
   |ret=>exact⟨_,a₁,w₁,hq, .pass (x:= .inLoop c) rfl (fun _ _=> .inl (by simp)) harr⟩
   |panic ch=>exact⟨_,a₁,w₁,hq, .pass (x:= .inLoop c) rfl (fun _ _=> .inl (by simp)) harr⟩
   |outgrown=>exact⟨_,a₁,w₁,hq, .pass (x:= .inLoop c) rfl (fun _ _=> .inl (by simp)) harr⟩
 obtain⟨e,a',w',hq,harr⟩:=key n a w h0
 exact⟨e,a',w',hq, .of_steps (.one step_loop) harr⟩
theorem Tri.loop {P:Program} {T:Tys} (hT:zR P T) {sz:Nat} (keep:List Nat) {c:Code} {G:za} {l:Fr} {H:zb} {K:zaI} (hlt:zaM sz c=true) (live:List Nat)
  (I:Nat→za→Fr→zb→Prop) (n:Nat) (h0:I n G (zD live l) H)
  (round: ∀n G' l' H',PLe G G'→Sep G' (zm H')→I n G' l' H'→wpC P T sz keep c G' l' H' (zdJ (fun G'' l'' H''=> ∃m,m<n∧I m G'' (zD live l'') H'') K .mk .mk)):
  Tri P sz (.loop c) G l H K:=by
 intro E a w Q hs hk
 refine zkb (fun n a w=> ∃E' G' l' H',Env.le E E'∧PLe G G'∧Sim E' sz G' l' H' a w∧I n G' l' H') ?_ n a w ⟨E,G,_,H,Env.le.refl E,PLe.refl _,hs.weak (zaP live l),h0⟩
 rintro n a w ⟨E',G',l',H',hE,hle,hs',hI⟩
 refine zcY hT c hlt (round n G' l' H' hle hs'.heap.sep hI) a w _ hs' fun E2 e G2 l2 H2 a2 w2 hE2 hle2 hs2 hk2=>?_
 cases e with
 |normal=>
  obtain⟨m,hm,hI2⟩:=hk2
  exact⟨m,hm,E2,G2,_,H2,hE.trans hE2,hle.trans hle2,hs2.weak (zaP live l2),hI2⟩
 |exit id=>exact hk E2 (.exit id) G2 l2 H2 a2 w2 (hE.trans hE2) (hle.trans hle2) hs2 hk2
 |ret=>exact hk E2 .ret G2 l2 H2 a2 w2 (hE.trans hE2) (hle.trans hle2) hs2 hk2
def zdW:Nat→List Value→Fr
 |_,[]=>[]
 |i,v::vs=>(i,v)::zdW (i+1) vs
theorem zpo (vs:List Value): ∀ (i t:Nat) (v:Value),look (zdW i vs) t=some v→i≤t∧vs[t - i]? =some v:=by
 induction vs with
 |nil=>intro i t v h;simp [zdW,look] at h
 |cons u vs ih=>
  intro i t v h
  simp only[zdW,look] at h
  split at h
  ·rename_i e;subst e;simpa using h
  ·rename_i e
   obtain⟨h1,h2⟩:=ih (i+1) t v h
   refine⟨by omega,?_⟩
   rw[show t - i=(t - (i+1))+1 by omega]
   simpa using h2
def zd9 (T:Tys) (G:za) (H:zb) (l:Fr) (rs:List ResultVar) (k:List Value→Prop) (_:Tok k:= .mk):Prop:=
 match rs with
 | []=>k []
 | .tmp t::rs=>zC (look l t) fun v=>zd9 T G H l rs fun vs=>k (v::vs)
 | .cell a t::rs=>zC (look l a) fun p=>zew T G H t p fun v=>zd9 T G H l rs fun vs=>k (v::vs)
theorem zvc (T:Tys) (G:za) (H:zb) (l:Fr) (k:List Value→Prop):zd9 T G H l [] k=k []:=rfl
theorem zsT (T:Tys) (G:za) (H:zb) (l:Fr) (t:Nat) (rs:List ResultVar) (k:List Value→Prop):zd9 T G H l (.tmp t::rs) k=zC (look l t) fun v=>zd9 T G H l rs fun vs=>k (v::vs):=rfl
theorem zsU (T:Tys) (G:za) (H:zb) (l:Fr) (a t:Nat) (rs:List ResultVar) (k:List Value→Prop):zd9 T G H l (.cell a t::rs) k=zC (look l a) fun p=>zew T G H t p fun v=>zd9 T G H l rs fun vs=>k (v::vs):=rfl
def zeN (vs:List Value):Value:=match vs with| [v]=>v|vs=> .tuple vs.toArray
def zcf (tmps:Array Value):ResultVar→Sem Value
 | .tmp t=>pure (tmps.getD t undef)
 | .cell a t=>do loadVar t (←asAddr (tmps.getD a undef))
theorem zkc {P:Program} {T:Tys} (hT:zR P T) {sz:Nat} {G:za} {l:Fr} {H:zb} {a:Act} {w:World} (h:Sim E sz G l H a w): ∀ (rs:List ResultVar) {k:List Value→Prop},zd9 T G H l rs k→
  ∃vs,k vs∧ ∀ {E':Env} (W:World),HeapOk E' G H W→(rs.mapM (zcf a.tmps):Sem (List Value)).run P W= .ok vs W
 | [],k,hk=>⟨[],hk,fun _ _=>rfl⟩
 | .tmp t::rs,k,hk=>by
  unfold zd9 zC at hk
  split at hk
  ·rename_i v hv
   obtain⟨vs,h1,h2⟩:=zkc hT h rs hk
   refine⟨v::vs,h1,fun W hW=>?_⟩
   rw[List.mapM_cons,zcf,h.fr t v hv]
   simp only[Sem.run_bind,Sem.run_pure,Result.andThen_ok,h2 W hW]
  ·exact hk.elim
 | .cell c t::rs,k,hk=>by
  unfold zd9 zC at hk
  split at hk
  ·rename_i p hp
   have hkk:=hk
   obtain⟨x,hx,hrun⟩:=zhu (P:=P) (G:=G) (Instr.loadAt t p) (zf5 (q:=true) (P:=P) hT (H:=H) (kk:=fun v _=>zd9 T G H l rs fun vs=>k (v::vs)) hk)
   obtain⟨vs,h1,h2⟩:=zkc hT h rs hx
   refine⟨x::vs,h1,fun W hW=>?_⟩
   have hr:=hrun W hW
   unfold zew at hkk
   split at hkk
   ·rw[List.mapM_cons,zcf,h.fr c _ hp]
    simp only[Instr.loadAt,Instr.sureAddr,pure_bind] at hr
    simp only[asAddr,pure_bind,Sem.run_bind,Sem.run_pure,Result.andThen_ok,hr,h2 W hW]
   ·exact hkk.elim
  ·exact hk.elim
def zlZ (T:Tys) (rs:List ResultVar) (R:Value→za→zb→Prop) (_:Tok R) (e:XE) (G:za) (l:Fr) (H:zb):Prop:=match e with
 | .normal| .ret=>zd9 T G H l rs fun vs=>R (zeN vs) G H
 | .exit _=>False
theorem FnT.ofT {P:Program} {T:Tys} (hT:zR P T) {f:FuncId} {fn:Func} {c:Code} (hf:P.funcs[f]? =some fn) (hb:fn.body=some c) (hn:(fn.name== "runtime.NumGoroutine")=false)
  {args:List Value} {G:za} {H:zb} {R:Value→za→zb→Prop} (hargs:args.length≤fn.ntmps)
  (h:Sep G (zm H)→Tri P fn.ntmps c G (zdW 0 args) H (zlZ T fn.results.toList R .mk)):FnT P f args G H R:=by
 refine FnT.own ⟨fn,c,hf,hb,hn⟩ fun E w hw=>callsIn_wide.1 (callsIn_of_wp_marks (n:=0) hf hb trivial (wpIn_wide.2 ?_))
 have hw0:HeapOk ⟨E.os,E.out,[],E.mine++E.outer⟩ G H w:=⟨hw.env,hw.pers,hw.own,hw.sep,by simpa using hw.dfr⟩
 have hs:Sim ⟨E.os,E.out,[],E.mine++E.outer⟩ fn.ntmps G (zdW 0 args) H {tmps:=args.toArray++Array.replicate (fn.ntmps - args.toArray.size) undef,defers:=[]} w:=by
  refine⟨by simp;omega,rfl,fun t v ht=>?_,hw0⟩
  obtain⟨_,h2⟩:=zpo args 0 t v ht
  simp only[Nat.sub_zero] at h2
  have hlt:=(List.getElem?_eq_some_iff.1 h2).1
  have h3:args[t]=v:=(List.getElem?_eq_some_iff.1 h2).2
  simp [Array.getElem?_append,hlt,h3]
 refine h hw.sep _ w _ hs fun E' e G' l' H' a' w' hE hle hs' hk=>?_
 have key:zd9 T G' H' l' fn.results.toList (fun vs=>R (zeN vs) G' H')→LeavesInM Fence.wide 0 P fn a'.tmps (fun e w'=> ∃v G' H',e= .returned v∧PLe G G'∧HeapOk E G' H' w'∧R v G' H') a'.defers .returning w':=fun hk=>by
  obtain⟨vs,h1,h2⟩:=zkc hT hs' _ hk
  have hres: ∀ {E2:Env} (W:World),HeapOk E2 G' H' W→(results fn a'.tmps).run P W= .ok (zeN vs) W:=fun W hW=>by
   unfold results
   rw[Array.mapM_eq_mapM_toList]
   simp only[Sem.run_bind,Sem.run_map]
   have h3:=h2 W hW
   have hF: ∀F:ResultVar→Sem Value,(∀x,F x=zcf a'.tmps x)→(fn.results.toList.mapM F).run P W= .ok vs W:=fun F hF=>by rw[show F=zcf a'.tmps from funext hF];exact h3
   rw[hF _ (fun x=>by cases x <;> rfl)]
   simp only[Result.andThen_ok,Sem.run_pure]
   cases vs with
   |nil=>simp [zeN]
   |cons x xs=>cases xs with
    |nil=>simp [zeN]
    |cons y ys=>simp [zeN]
  rw[hs'.defers]
  have hh:=hs'.heap
  obtain⟨e1,e2,e3⟩:=hE
  simp only[] at e1 e2 e3
  obtain⟨os',out',mine',outer'⟩:=E'
  simp only at e1 e2 e3
  subst e1;subst e2;subst e3
  simp only[]
  clear hs' hk
  revert hh
  generalize w'=W
  induction mine' generalizing W with
  |nil=>
   intro hh
   show LeavesIn Fence.wide 0 P fn a'.tmps _ [] .returning W
   exact⟨_,hres W hh,zeN vs,G',H',rfl,hle,⟨hh.env,hh.pers,hh.own,hh.sep,by simpa using hh.dfr⟩,h1⟩
  |cons D ds ih=>
   intro hh
   have hD:=hh.dfr.2 D (by simp)
   refine⟨by simp, .inl ⟨D,_,rfl,run_takeDeferred hD.1,ih _ ⟨hh.env,fun b o hb=>?_,fun p hp=>?_,hh.sep,?_,fun D' hD'=>⟨?_,(hh.dfr.2 D' (by simp only[List.cons_append,List.mem_cons];exact .inr hD')).2⟩⟩⟩⟩
   ·have h3:=hh.pers b o hb
    rw[World.putObj_heap_other (fun e=>by subst e;rw[hD.2] at hb;cases hb)]
    exact h3
   ·obtain⟨o,ho,hr⟩:=hh.own p hp
    exact⟨o,(World.putObj_heap_other (fun e=>by rw[e,hD.1] at ho;cases ho;exact Res.not_deferred hr)).trans ho,hr⟩
   ·have:=hh.dfr.1
    simp only[List.cons_append,List.nodup_cons] at this
    exact this.2
   ·have hn:=hh.dfr.1
    simp only[List.cons_append,List.nodup_cons] at hn
    exact(World.putObj_heap_other (fun e=>by subst e;exact hn.1 hD')).trans (hh.dfr.2 D' (by simp only[List.cons_append,List.mem_cons];exact .inr hD')).1
 cases e with
 |normal=>exact key hk
 |ret=>exact key hk
 |exit id=>exact hk.elim
theorem FnT.of {P:Program} {T:Tys} (hT:zR P T) {f:FuncId} {fn:Func} {c:Code} (keep:List Nat) (hf:P.funcs[f]? =some fn) (hb:fn.body=some c) (hn:(fn.name== "runtime.NumGoroutine")=false)
  {args:List Value} {G:za} {H:zb} {R:Value→za→zb→Prop} (hlt:zaM fn.ntmps c=true) (hargs:args.length≤fn.ntmps)
  (h:Sep G (zm H)→wpC P T fn.ntmps keep c G (zdW 0 args) H (zlZ T fn.results.toList R .mk)):FnT P f args G H R:=
 FnT.ofT hT hf hb hn hargs fun hs=>zcY hT c hlt (h hs)
end Go.V
namespace Go.V
def zrh (r:Option Res) (o:Nat) (k:Value→Prop) (_:Tok k:= .mk):Prop:=match r with
 |some (.cells xs sp _)=>zC ((xs++sp)[o]?) k
 |_=>False
def zez (G:za) (H:zb) (b:Nat) (g:Option Obj) (o:Nat) (k:Value→Prop) (_:Tok k:= .mk):Prop:=match g with
 |some (.cells c _ _)=>zC (c[o]?) k
 |some _=>False
 |none=>zrh (zq H b) o k
theorem zri (G:za) (H:zb) (b o:Nat) (k:Value→Prop):zds G H ⟨b,o,none⟩ k=zez G H b (G b) o k:=by
 unfold zds zez zrh;rw[if_neg (by simp)]
 rfl
def znA (r:Option Res) (o n:Nat) (k:List Value→Prop) (_:Tok k:= .mk):Prop:=match r with
 |some (.cells xs sp _)=>Ob (n=0∨o+n≤xs.length+sp.length) (k (((xs++sp).drop o).take n))
 |_=>n=0∧k []
def zgG (G:za) (H:zb) (b:Nat) (g:Option Obj) (o n:Nat) (k:List Value→Prop) (_:Tok k:= .mk):Prop:=match g with
 |some (.cells c _ _)=>Ob (n=0∨o+n≤c.size) (k ((c.toList.drop o).take n))
 |some _=>n=0∧k []
 |none=>znA (zq H b) o n k
theorem zg5 (G:za) (H:zb) (b o n:Nat) (k:List Value→Prop):zaH G H b o n k=zgG G H b (G b) o n k:=by
 unfold zaH zgG znA
 rfl
def zvd (H:zb) (b o:Nat) (vs:List Value) (r:Option Res) (k:zb→Prop) (_:Tok k:= .mk):Prop:=
 match r with
 |some (.cells xs sp e)=>Ob (o+vs.length≤xs.length∧vs.all zaL=true) (k (z7 H b (.cells (zf xs o vs) sp e)))
 |_=>False
theorem zpp (H:zb) (b o:Nat) (vs:List Value) (k:zb→Prop):zdI H b o vs k=zvd H b o vs (zq H b) k:=by
 unfold zdI zvd;rfl
theorem zsV {l:List Value} {i:Nat} (h:i<l.length) (k:Value→Prop):zC (l[i]?) k=k l[i]:=by rw[List.getElem?_eq_getElem h];rfl
theorem znX {α:Type} {f:α→Value} {l:List α} {i:Nat} (h:i<l.length) (k:Value→Prop):zC ((l.map f)[i]?) k=k (f l[i]):=by rw[List.getElem?_map,List.getElem?_eq_getElem h];rfl
theorem znY {α:Type} {f:α→Value} {l:List α} {i:Nat} (h:i<l.length) (k:Value→Prop):zC ((l[i]?).map f) k=k (f l[i]):=by rw[List.getElem?_eq_getElem h];rfl
theorem znZ {α:Type} {f:α→Value} {l:List α} {sp:List Value} {i:Nat} (h:i<l.length) (k:Value→Prop):zC ((l.map f++sp)[i]?) k=k (f l[i]):=by
 rw[List.getElem?_append_left (by simpa using h),List.getElem?_map,List.getElem?_eq_getElem h];rfl
theorem zyI (b:Bool) (x y:Prop):Br (!b) x y=Br b y x:=by
 cases b <;> simp [Br]
theorem Br.yes {x y:Prop} (h:x):Br true x y:=zjk.symm▸h
theorem Br.no {x y:Prop} (h:y):Br false x y:=zhw.symm▸h
theorem Br.beq {α:Type} [BEq α] [LawfulBEq α] {a b:α} {x y:Prop} (h1:a=b→x) (h2: ¬a=b→y):Br (a==b) x y:=⟨fun h=>h1 (by simpa using h),fun h=>h2 (by simpa using h)⟩
theorem zsW {x y:Prop}:Br (([]:List UInt8)==[]) x y=x:=by simp [Br]
theorem zrj {a:UInt8} {l:List UInt8} {x y:Prop}:Br (a::l==[]) x y=y:=by simp [Br]
theorem Br.beqB {a b:List UInt8} {x y:Prop} (h1:a=b→x) (h2: ¬a=b→y):Br (a==b) x y:=Br.beq h1 h2
theorem Br.beqb {a b:Bool} {x y:Prop} (h1:a=b→x) (h2: ¬a=b→y):Br (a==b) x y:=Br.beq h1 h2
theorem zsX {G:za} {b:Nat} (h:G b=none) (H:zb) (o:Nat) (k:Value→Prop):zez G H b (G b) o k=zrh (zq H b) o k:=by rw[h];rfl
theorem zk0 {G:za} {b:Nat} (h:G b=none) (H:zb) (o n:Nat) (k:List Value→Prop):zgG G H b (G b) o n k=znA (zq H b) o n k:=by rw[h];rfl
theorem zrk (G:za) (H:zb) (b:Nat) (c:Array Value) (e:TypeId) (f:Nat×Nat) (o:Nat) (k:Value→Prop):zez G H b (some (.cells c e f)) o k=zC (c[o]?) k:=rfl
theorem zpq (G:za) (H:zb) (b:Nat) (c:Array Value) (e:TypeId) (f:Nat×Nat) (o n:Nat) (k:List Value→Prop):zgG G H b (some (.cells c e f)) o n k=Ob (n=0∨o+n≤c.size) (k ((c.toList.drop o).take n)):=rfl
theorem zrl (r:Res) (H:zb) (b:Nat):zq ((b,r)::H) b=some r:=by simp [zq]
theorem zkd {k b:Nat} (h:k≠b) (r:Res) (H:zb):zq ((k,r)::H) b=zq H b:=by simp [zq,h]
theorem zsY (r:Res) (H:zb) (b:Nat) (r':Res):z7 ((b,r)::H) b r'=(b,r')::H:=by simp [z7]
theorem zxn {k b:Nat} (h:k≠b) (r:Res) (H:zb) (r':Res):z7 ((k,r)::H) b r'=(k,r)::z7 H b r':=by simp [z7,h]
theorem zpr (r:Res) (H:zb) (b:Nat):z8 ((b,r)::H) b=H:=by simp [z8]
theorem zsZ {k b:Nat} (h:k≠b) (r:Res) (H:zb):z8 ((k,r)::H) b=(k,r)::z8 H b:=by simp [z8,h]
theorem zdm.mk {G:za} {ks:List Nat} {k:Nat→Prop} (h: ∀b,Sep G (b::ks)→k b):zdm G ks k:=h
theorem zbV.mk {G:za} {ks:List Nat} {n E:Nat} {k:Nat→List Value→Nat→Prop} (h: ∀b sp cap,Sep G (b::ks)→n * E+sp.length=cap * E→k b sp cap):zbV G ks n E k:=h
theorem zxo (k:Prop):Ob True k=k:=by simp [Ob]
theorem zbl (k:Nat) (r:Res) (H:zb):zm ((k,r)::H)=k::zm H:=rfl
theorem zea:zm []=[]:=rfl
theorem zhN (G:za) (b:Nat) (bs:List Nat):Sep G (b::bs)=((G b=none∧zQ b bs)∧Sep G bs):=rfl
theorem zbc (b c:Nat) (cs:List Nat):zQ b (c::cs)=(b≠c∧zQ b cs):=rfl
theorem zdu (b:Nat):zQ b []=True:=rfl
theorem zqo (G:za):Sep G []=True:=rfl
theorem zps (x:Value) (xs:List Value) (v:Value) (vs:List Value):zf (x::xs) 0 (v::vs)=v::zf xs 0 vs:=by simp [zf]
theorem zrm (xs:List Value):zf xs 0 []=xs:=by simp [zf]
def zw6 (place:Nat→Option (Nat×Nat)) (cells:List Value) (v:Value) (rest:List (Nat×Value)):Option (Nat×Nat)→Option (List Value)
 |none=>none
 |some (off,size)=>if (zcP v).length=size∧off+size≤cells.length then zdZ place (zf cells off (zcP v)) rest else none
theorem zs0 (place:Nat→Option (Nat×Nat)) (cells:List Value):zdZ place cells []=some cells:=rfl
theorem zrn (place:Nat→Option (Nat×Nat)) (cells:List Value) (i:Nat) (v:Value) (rest:List (Nat×Value)):zdZ place cells ((i,v)::rest)=zw6 place cells v rest (place i):=by
 rw[zdZ];cases place i <;> rfl
theorem zro (place:Nat→Option (Nat×Nat)) (cells:List Value) (v:Value) (rest:List (Nat×Value)) (off size:Nat):zw6 place cells v rest (some (off,size))=if (zcP v).length=size∧off+size≤cells.length then zdZ place (zf cells off (zcP v)) rest else none:=rfl
theorem zpt (x:Value) (xs:List Value) (n:Nat) (vs:List Value):zf (x::xs) (n+1) vs=x::zf xs n vs:=by
 simp only[zf,List.take_succ_cons,List.cons_append]
 rw[show n+1+vs.length=(n+vs.length)+1 by omega,List.drop_succ_cons]
theorem zrp {α:Type} (l:List α):l.toArray.toList=l:=rfl
def zas {α:Type} (o:Option α) (yes:α→Prop) (no:Prop) (_:Tok yes:= .mk) (_:Tok no:= .mk):Prop:=match o with|some a=>yes a|none=>no
theorem zas.mk {α:Type} {o:Option α} {yes:α→Prop} {no:Prop} (h1: ∀a,o=some a→yes a) (h2:o=none→no):zas o yes no:=by
 cases o with
 |none=>exact h2 rfl
 |some a=>exact h1 a rfl
theorem zpu {α:Type} (a:α) (yes:α→Prop) (no:Prop):zas (some a) yes no=yes a:=rfl
theorem zpv {α:Type} (yes:α→Prop) (no:Prop):zas none yes no=no:=rfl
theorem wrap_i64 {x:Int} (h0: -9223372036854775808≤x) (h1:x≤9223372036854775807):IntKind.i64.wrap x=x:=by
 rw[IntKind.wrap_i64];omega
theorem zxp {x:Int} (h0:0≤x) (h1:x≤255):IntKind.u8.wrap x=x:=by
 simp only[IntKind.wrap,IntKind.bits,IntKind.signed];simp;omega
theorem zn0 {x:Int} (h0:0≤x) (h1:x≤18446744073709551615):IntKind.u64.wrap x=x:=by
 simp only[IntKind.wrap,IntKind.bits,IntKind.signed];simp;omega
theorem zve {x:Int} (h0:0≤x) (h1:x≤65535):IntKind.u16.wrap x=x:=by
 simp only[IntKind.wrap,IntKind.bits,IntKind.signed];simp;omega
theorem zAH (m:Int) {n b:Nat} (h:n≤b):m.fdiv (2 ^ min n b)=m / 2 ^ n:=by
 rw[Nat.min_eq_left h,Int.fdiv_eq_ediv_of_nonneg _ (Int.pow_nonneg (by decide))]
theorem zAI (m:Int) {n b:Nat} (h:n≤b):m * 2 ^ min n b=m * 2 ^ n:=by rw[Nat.min_eq_left h]
theorem zen {n:Nat} {x:Int} (h0:0≤x) (h1:x<2 ^ n):(BitVec.ofInt n x).toNat=x.toNat:=by
 rw[BitVec.toNat_ofInt]
 congr 1
 exact Int.emod_eq_of_lt h0 (by simpa using h1)
theorem zgb {k:IntKind} {m:Nat} (hs:k.signed=false) (h:m<2 ^ k.bits):k.wrap m=m:=by
 simp only[IntKind.wrap,hs,Bool.false_and,Bool.false_eq_true,if_false]
 have h':((m:Int)) < ((2 ^ k.bits:Nat):Int):=Int.ofNat_lt.2 h
 rw[Int.natCast_pow] at h'
 exact Int.emod_eq_of_lt (Int.natCast_nonneg m) h'
section
variable {k:IntKind} {x y:Int} (hs:k.signed=false) (hx:0≤x) (hx':x<2 ^ k.bits) (hy:0≤y) (hy':y<2 ^ k.bits)
include hs hx hx' hy hy'
theorem zke:zaB .and k x y=((x.toNat&&& y.toNat:Nat):Int):=by
 simp only[zaB]
 rw[BitVec.toNat_and,zgb hs (Nat.lt_of_le_of_lt Nat.and_le_left (BitVec.isLt _)),zen hx hx',zen hy hy']
theorem zqp:zaB .or k x y=((x.toNat|||y.toNat:Nat):Int):=by
 simp only[zaB]
 rw[zgb hs (BitVec.isLt _),BitVec.toNat_or,zen hx hx',zen hy hy']
theorem zn1:zaB .xor k x y=((x.toNat ^^^ y.toNat:Nat):Int):=by
 simp only[zaB]
 rw[zgb hs (BitVec.isLt _),BitVec.toNat_xor,zen hx hx',zen hy hy']
end
theorem zyJ {x y:Int} (h1:0≤x) (h2:x≤255) (h3:0≤y) (h4:y≤255):zaB .and .u8 x y=((x.toNat&&& y.toNat:Nat):Int):=zke rfl h1 (by show x<256;omega) h3 (by show y<256;omega)
theorem zzU {x y:Int} (h1:0≤x) (h2:x≤255) (h3:0≤y) (h4:y≤255):zaB .or .u8 x y=((x.toNat|||y.toNat:Nat):Int):=zqp rfl h1 (by show x<256;omega) h3 (by show y<256;omega)
theorem zqq {x y:Int} (h1:0≤x) (h2:x≤18446744073709551615) (h3:0≤y) (h4:y≤18446744073709551615):zaB .and .u64 x y=((x.toNat&&& y.toNat:Nat):Int):=zke rfl h1 (by show x<18446744073709551616;omega) h3 (by show y<18446744073709551616;omega)
theorem zs1 {x y:Int} (h1:0≤x) (h2:x≤18446744073709551615) (h3:0≤y) (h4:y≤18446744073709551615):zaB .or .u64 x y=((x.toNat|||y.toNat:Nat):Int):=zqp rfl h1 (by show x<18446744073709551616;omega) h3 (by show y<18446744073709551616;omega)
theorem zxq {x y:Int} (h1:0≤x) (h2:x≤18446744073709551615) (h3:0≤y) (h4:y≤18446744073709551615):zaB .xor .u64 x y=((x.toNat ^^^ y.toNat:Nat):Int):=zn1 rfl h1 (by show x<18446744073709551616;omega) h3 (by show y<18446744073709551616;omega)
theorem zzV {m n:Int} (h:0≤m):m.tdiv n=m / n:=Int.tdiv_eq_ediv_of_nonneg h
theorem zzW {m n:Int} (h:0≤m):m.tmod n=m % n:=Int.tmod_eq_emod_of_nonneg h
theorem zrq (n:Nat) (v:Value):rep n [v]=List.replicate n v:=rfl
theorem zjQ {m:Int} (h0:0≤m) (h1:m≤255):zB (UInt8.ofNat m.toNat)= .int .u8 m:=by
 unfold zB;congr 1
 rw[UInt8.toNat_ofNat_of_lt' (by show m.toNat<256;omega)];omega
theorem zjR (xs ys:List Value) (k:List UInt8→Prop):zdi (xs++ys) k=zdi xs fun a=>zdi ys fun b=>k (a++b):=by
 apply propext
 constructor
 ·rintro⟨bs,h,hk⟩
  obtain⟨l1,l2,rfl,h1,h2⟩:=List.append_eq_map_iff.1 h
  exact⟨l1,h1.symm,l2,h2.symm,hk⟩
 ·rintro⟨l1,rfl,l2,rfl,hk⟩
  exact⟨l1++l2,by simp,hk⟩
theorem zjS {m:Int} (h0:0≤m) (h1:m≤255) (vs:List Value) (k:List UInt8→Prop):zdi (.int .u8 m::vs) k=zdi vs fun bs=>k (UInt8.ofNat m.toNat::bs):=by
 have:=zjR [zB (UInt8.ofNat m.toNat)] vs k
 rw[zjQ h0 h1] at this
 refine this.trans ?_
 rw[←zjQ h0 h1]
 exact zg2 [UInt8.ofNat m.toNat] _
theorem zvf (x:UInt8):UInt8.ofNat x.toNat=x:=by simp
theorem zmu (x:UInt8):UInt8.ofNat ((x.toNat:Int)).toNat=x:=by simp
theorem zrr (x:UInt8) (vs:List Value) (k:List UInt8→Prop):zdi (.int .u8 (x.toNat:Int)::vs) k=zdi vs fun bs=>k (x::bs):=by
 have:=x.toNat_lt
 rw[zjS (by omega) (by omega),zmu]
theorem zw7 (n:Nat):n&&& 1=n % 2:=Nat.and_two_pow_sub_one_eq_mod n 1
theorem zzX (n:Nat):n&&& 7=n % 8:=Nat.and_two_pow_sub_one_eq_mod n 3
theorem zyK (n:Nat):n&&& 15=n % 16:=Nat.and_two_pow_sub_one_eq_mod n 4
theorem zyL (n:Nat):n&&& 63=n % 64:=Nat.and_two_pow_sub_one_eq_mod n 6
theorem zxr (n:Nat):n&&& 127=n % 128:=Nat.and_two_pow_sub_one_eq_mod n 7
theorem zxs (n:Nat):n&&& 255=n % 256:=Nat.and_two_pow_sub_one_eq_mod n 8
theorem zvg (n:Nat):((n:Int)+1).toNat=n+1:=by omega
theorem zvh (n:Nat):((n:Int)+2).toNat=n+2:=by omega
theorem zvi (n:Nat):((n:Int)+3).toNat=n+3:=by omega
theorem zvj (n:Nat):((n:Int)+4).toNat=n+4:=by omega
theorem zs2 (n:Nat):((n:Int)).toNat=n:=Int.toNat_natCast n
section
variable (k:za→Fr→zb→Prop) (K:zaI) (G:za) (l:Fr) (H:zb) (rs:List ResultVar) (R:Value→za→zb→Prop)
theorem zn2:zdJ k K .mk .mk .normal G l H=k G l H:=rfl
theorem zrs (i:Nat):zdJ k K .mk .mk (.exit i) G l H=K (.exit i) G l H:=rfl
theorem zs3:zdJ k K .mk .mk .ret G l H=K .ret G l H:=rfl
theorem znj (i:Nat):zdV i K .mk .normal G l H=K .normal G l H:=rfl
theorem zrt (i:Nat):zdV i K .mk .ret G l H=K .ret G l H:=rfl
theorem zpw (i j:Nat):zdV i K .mk (.exit j) G l H=if j=i then K .normal G l H else K (.exit j) G l H:=rfl
theorem zpx (T:Tys):zlZ T rs R .mk .normal G l H=zd9 T G H l rs fun vs=>R (zeN vs) G H:=rfl
theorem zvk (T:Tys):zlZ T rs R .mk .ret G l H=zd9 T G H l rs fun vs=>R (zeN vs) G H:=rfl
end
theorem zru (b:Bool) (x y:Prop):zhL (.bool b) x y=Br b x y:=rfl
theorem zvl (v:Value):zeN [v]=v:=rfl
theorem zvm (u v:Value):zeN [u,v]= .tuple #[u,v]:=rfl
theorem zrv (u v w:Value):zeN [u,v,w]= .tuple #[u,v,w]:=rfl
theorem zs4:zeN []= .tuple #[]:=rfl
section
variable (P:Program) (T:Tys) (all rest:List Oper) (d:Option Nat) (op:Op) (t:TypeId) (p:String) (af:Array Edge) (G:za) (l:Fr) (H:zb) (K:za→Fr→zb→Prop)
theorem zxt:wpO P T all [] G l H K=K G l H:=rfl
theorem zs5:wpO P T all (⟨d,op,t,p,af,none⟩::rest) G l H K=zaz P T op G l H fun v G' H'=>wpO P T all rest G' (put l d v) H' K:=rfl
theorem zs6 (g:Nat×Bool):wpO P T all (⟨d,op,t,p,af,some g⟩::rest) G l H K=zco all (some g) l (fun l'=>zaz P T op G l' H fun v G' H'=>wpO P T all rest G' (put l' d v) H' K) (fun l'=>wpO P T all rest G (put l' d undef) H K):=rfl
theorem zpy (bs:List Oper):wpO P T all (List.append [] bs) G l H K=wpO P T all bs G l H K:=rfl
theorem znk (bs:List Oper):wpO P T all (List.append (⟨d,op,t,p,af,none⟩::rest) bs) G l H K=zaz P T op G l H fun v G' H'=>wpO P T all (List.append rest bs) G' (put l d v) H' K:=rfl
theorem znl (bs:List Oper) (g:Nat×Bool):wpO P T all (List.append (⟨d,op,t,p,af,some g⟩::rest) bs) G l H K=zco all (some g) l (fun l'=>zaz P T op G l' H fun v G' H'=>wpO P T all (List.append rest bs) G' (put l' d v) H' K) (fun l'=>wpO P T all (List.append rest bs) G (put l' d undef) H K):=rfl
end
section
variable (P:Program) (T:Tys) (sz:Nat) (keep:List Nat) (G:za) (l:Fr) (H:zb) (K:zaI)
theorem zvn:wpC P T sz keep .skip G l H K=K .normal G l H:=rfl
theorem zrw (id:Nat) (ops:List Oper):wpC P T sz keep (.region id ops.toArray false) G l H K=wpO P T ops ops G l H fun G' l' H'=>K .normal G' (zD keep l') H':=rfl
theorem zvo (id:Nat) (ops:List Oper):wpC P T sz keep (.region id ops.toArray true) G l H K=Tri P sz (.region id ops.toArray true) G l H K:=rfl
theorem zs7 (f:Operand) (ps:Array Tmp) (x y:Code):wpC P T sz keep (.rangeFunc f ps x y) G l H K=Tri P sz (.rangeFunc f ps x y) G l H K:=rfl
theorem zxu (x y:Code):wpC P T sz keep (.seq x y) G l H K=wpC P T sz keep x G l H (zdJ (fun G' l' H'=>wpC P T sz keep y G' l' H' K) K .mk .mk):=rfl
theorem zvp (c:Operand) (x y:Code):wpC P T sz keep (.cond c x y) G l H K=zC (ev l c) fun v=>zhL v (wpC P T sz keep x G l H K) (wpC P T sz keep y G l H K):=rfl
theorem zs8 (i:Nat) (c:Code):wpC P T sz keep (.block i c) G l H K=wpC P T sz keep c G l H (zdV i K .mk):=rfl
theorem zvq (i:Nat):wpC P T sz keep (.exit i) G l H K=K (.exit i) G l H:=rfl
theorem zs9 (i:Nat):wpC P T sz keep (.label i) G l H K=K .normal G l H:=rfl
theorem zxv:wpC P T sz keep .ret G l H K=K .ret G l H:=rfl
theorem zvr (c:Code):wpC P T sz keep (.loop c) G l H K=Tri P sz (.loop c) G l H K:=rfl
theorem zta (c:Code):wpC P T sz keep (.scope c) G l H K=wpC P T sz keep c G l H K:=rfl
end
def gdK (t:Option (Option Nat)) (want:Bool) (l:Fr) (yes no:Fr→Prop) (_:Tok yes:= .mk) (_:Tok no:= .mk):Prop:=match t with
 |some (some t)=>zC (look l t) fun v=>gK v t want l yes no
 |_=>False
theorem zpz (all:List Oper) (j:Nat) (want:Bool) (l:Fr) (yes no:Fr→Prop):zco all (some (j,want)) l yes no=gdK (zfH all j) want l yes no:=by
 unfold zco gdK
 simp only[]
 cases h:zfH all j with
 |none=>simp
 |some o=>cases o <;> simp
theorem zrx (o:Oper) (os:List Oper):zfH (o::os) 0=some o.dst:=rfl
theorem zry (o:Oper) (os:List Oper) (n:Nat):zfH (o::os) (n+1)=zfH os n:=by simp [zfH]
theorem zvs (t:Nat) (want:Bool) (l:Fr) (yes no:Fr→Prop):gdK (some (some t)) want l yes no=zC (look l t) fun v=>gK v t want l yes no:=rfl
theorem zxw (b:Bool) (t:Nat) (want:Bool) (l:Fr) (yes no:Fr→Prop):gK (.bool b) t want l yes no=Br (b==want) (yes ((t, .bool want)::l)) (no ((t, .bool (!want))::l)):=rfl
theorem zvt (vs:Array Value) (t:Nat) (want:Bool) (l:Fr) (yes no:Fr→Prop):gK (.tuple vs) t want l yes no=no l:=rfl
theorem zvu (t:Nat) (want:Bool) (l:Fr) (yes no:Fr→Prop):gK undef t want l yes no=no l:=rfl
theorem zjT (xs sp:List Value) (e:TypeId) (o n:Nat) (k:List Value→Prop):znA (some (.cells xs sp e)) o n k=Ob (n=0∨o+n≤xs.length+sp.length) (k (((xs++sp).drop o).take n)):=rfl
theorem zrz (xs sp:List Value) (e:TypeId) (o:Nat) (k:Value→Prop):zrh (some (.cells xs sp e)) o k=zC ((xs++sp)[o]?) k:=rfl
theorem ztb (b o l m n:Nat):zbH (some ⟨b,o,none⟩) l m n=some (zbC b o l m n):=by
 unfold zbH zbC;split
 ·rfl
 ·simp [zb6]
theorem zrA (l m n:Nat):zbH none l m n=none:=by unfold zbH;split <;> rfl
theorem zn3 (b o m n:Nat) (h:n=0):zbC b o 0 m n=⟨b,o,none⟩:=by subst h;unfold zbC;split <;> rfl
theorem zxx (b o l m n:Nat):blk (some (zbC b o l m n))=b:=by unfold zbC;split <;> rfl
theorem zxy (b o l m n:Nat):Adr (some (zbC b o l m n))=True:=by unfold zbC;split <;> exact eq_true rfl
theorem zrB {α:Type} (f:α→Value) (o:Option α) (yes:Value→Prop) (no:Prop):ziD (some (o.map f)) yes no=zas o (fun a=>yes (f a)) no:=by cases o <;> rfl
section
variable (P:Program) (T:Tys) (G:za) (l:Fr) (H:zb) (k:Value→za→zb→Prop)
theorem zrC (x:Operand):zaz P T (.move x) G l H k=zar P T (.move x) G l H k:=rfl
theorem zn4 (x:Operand):zaz P T (.assign x) G l H k=zar P T (.assign x) G l H k:=rfl
theorem zrD (c a b:Operand):zaz P T (.pick c a b) G l H k=zar P T (.pick c a b) G l H k:=rfl
theorem zpA (e:TypeId):zaz P T (.alloc e) G l H k=zar P T (.alloc e) G l H k:=rfl
theorem ztc (e:TypeId) (v:Operand):zaz P T (.box e v) G l H k=zar P T (.box e v) G l H k:=rfl
theorem zpB (t:TypeId) (ps:Array (Nat×Operand)):zaz P T (.build t ps) G l H k=zar P T (.build t ps) G l H k:=rfl
theorem zkf (t:TypeId) (n:Nat) (ps:Array (Nat×Operand)):zaz P T (.buildSlice t n ps) G l H k=zar P T (.buildSlice t n ps) G l H k:=rfl
theorem zn5 (t:TypeId) (x i y:Operand):zaz P T (.insert t x i y) G l H k=zar P T (.insert t x i y) G l H k:=rfl
theorem zrE (t:TypeId) (x:Operand):zaz P T (.load t x) G l H k=zar P T (.load t x) G l H k:=rfl
theorem zpC (t:TypeId) (x y:Operand):zaz P T (.store t x y) G l H k=zar P T (.store t x y) G l H k:=rfl
theorem zl0 (x:Operand):zaz P T (.nilCheck x) G l H k=zar P T (.nilCheck x) G l H k:=rfl
theorem zpD (o:BinOp) (t:TypeId) (x y:Operand) (u:TypeId):zaz P T (.binOp o t x y u) G l H k=zar P T (.binOp o t x y u) G l H k:=rfl
theorem zrF (o:UnOp) (t:TypeId) (x:Operand):zaz P T (.unOp o t x) G l H k=zar P T (.unOp o t x) G l H k:=rfl
theorem znm (s d:TypeId) (x:Operand):zaz P T (.convert s d x) G l H k=zar P T (.convert s d x) G l H k:=rfl
theorem zl1 (f:Fn) (a b:Array Operand):zaz P T (.makeFunc f a b) G l H k=zar P T (.makeFunc f a b) G l H k:=rfl
theorem znn (t:TypeId) (r:Option Operand):zaz P T (.makeMap t r) G l H k=zar P T (.makeMap t r) G l H k:=rfl
theorem zk1 (t:TypeId) (n c:Operand):zaz P T (.makeSlice t n c) G l H k=zar P T (.makeSlice t n c) G l H k:=rfl
theorem zpE (t:TypeId) (x:Operand) (a b c:Option Operand):zaz P T (.slice t x a b c) G l H k=zar P T (.slice t x a b c) G l H k:=rfl
theorem zk2 (t:TypeId) (x:Operand) (f:Nat):zaz P T (.fieldAddr t x f) G l H k=zar P T (.fieldAddr t x f) G l H k:=rfl
theorem zpF (t:TypeId) (x:Operand) (f:Nat):zaz P T (.field t x f) G l H k=zar P T (.field t x f) G l H k:=rfl
theorem zk3 (t:TypeId) (x i:Operand):zaz P T (.indexAddr t x i) G l H k=zar P T (.indexAddr t x i) G l H k:=rfl
theorem zpG (t:TypeId) (x i:Operand):zaz P T (.index t x i) G l H k=zar P T (.index t x i) G l H k:=rfl
theorem zn6 (t:TypeId) (x i:Operand) (c:Bool):zaz P T (.lookup t x i c) G l H k=zar P T (.lookup t x i c) G l H k:=rfl
theorem zk4 (t:TypeId) (m key val:Operand):zaz P T (.mapUpdate t m key val) G l H k=zar P T (.mapUpdate t m key val) G l H k:=rfl
theorem zpH (t:TypeId) (x:Operand):zaz P T (.range t x) G l H k=zar P T (.range t x) G l H k:=rfl
theorem zrG (x:Operand) (b:Bool):zaz P T (.next x b) G l H k=zar P T (.next x b) G l H k:=rfl
theorem zpI (x:Operand):zaz P T (.entry x) G l H k=zar P T (.entry x) G l H k:=rfl
theorem zno (x:Operand) (i:Nat):zaz P T (.extract x i) G l H k=zar P T (.extract x i) G l H k:=rfl
theorem zpJ (f:Operand) (as:Array Operand) (ts:Array TypeId):zaz P T (.call ⟨.value f,as,ts⟩) G l H k=zC (ev l f) fun fv=>evK l as.toList fun vs=>zgF P fv vs G H k:=rfl
theorem znp (b:Builtin) (as:Array Operand) (ts:Array TypeId):zaz P T (.call ⟨.builtin b,as,ts⟩) G l H k=zar P T (.call ⟨.builtin b,as,ts⟩) G l H k:=rfl
theorem zrH (f:FuncId) (first caps:Array Value) (vs:List Value):zgF P (.func (.func f) first caps) vs G H k=FnT P f (first.toList++vs++caps.toList) G H k:=rfl
theorem zpK (lr:Nat) (caps:Array Value) (vs:List Value):zgF P (.func (.yield lr) #[] caps) vs G H k=zb8 P lr vs G H k:=by simp [zgF]
end
attribute [go_sem] zrC zn4 zrD zpA ztc zpB zkf zn5 zrE zpC zl0 zpD zrF znm zl1 znn zk1 zpE zk2 zpF zk3 zpG zn6 zk4 zpH zrG zpI zno zpJ znp zrH zpK
attribute [go_sem] zB zsW zrj zyI beq_true beq_false zvn zrw zvo zs7 zvr zxu zvp zs8 zvq zs9 zxv zta zrx zry Bool.false_eq_true List.append_eq List.cons_append List.nil_append zxt zs5 zs6 zpy znk znl zar zpz zvs zxw zvt zvu zq3 zsJ zu3 zyH zu0 zsK zxk zu1 zu2 znJ znd zlN zlO
 zxm zu8 zu9 zsR zva zvb zq6 zq7
 zns znt zkT zq5 zjn ze5 zjm zhy zgz zew zjl zjo ziA zpk ze6 zfU zdt znv znw znx zny znz zlY zjs zhK zre zhA zkZ zjp zf6 znu zhi zj9 znN zlQ zra zqk zql zqm zj8 zmr ztb zrA zn3 zxx zxy zhF zdU zhG zhH zsO zrb zsP zrB zpu zpv zu7 zu4 zdH List.headD_cons
 zrc zpm zrd zri zg5 zpp zrk zpq zrz zjT zvd zsV znX znY znZ
 zq2 zxo zjk zhw zzS zzT
 zsX zk0 zrl zkd zsY zxn zpr zsZ zbl zea zhN zqo zbc zdu
 zps zrm zpt zs0 zrn zro zhC Bool.not_true Bool.not_false Option.map_some Option.map_none List.find?_cons List.all_cons List.all_nil Bool.and_true Bool.true_and Bool.and_self zrp zcP
 wrap_i64 zxp zve zn0 zs2 zjR zrr zjS zvf zmu zw7 zzX zyK zyL zxr zxs List.take_left' zvg zvh zvi zvj zrq List.take_zero List.take_succ_cons List.take_nil List.drop_zero List.drop_succ_cons List.drop_nil zzV zzW zAH zAI zyJ zzU zqq zs1 zxq
 zn2 zrs zs3 znj zrt zpw zpx zvk zru zvl zvm zrv zs4 zvc zsT zsU
 zdW zg2 zpj zaL znM
attribute [go_sem] decide_true decide_false ne_eq not_false_eq_true not_true_eq_false and_true true_and and_self or_true true_or or_false false_or or_self eq_self Option.isNone_some Option.isNone_none Nat.zero_add Nat.add_zero Nat.mul_one Nat.one_mul Nat.zero_mul List.length_cons List.length_nil List.getElem?_cons_zero List.getElem?_cons_succ List.map_cons List.map_nil List.append_nil
end Go.V
namespace Go.V
variable {E:Env}
def G0:za:=fun _=>none
theorem HeapOk.nothing (w:World):HeapOk ⟨w.os,w.output,[],[]⟩ G0 [] w:=⟨⟨rfl,rfl⟩,fun b o h=>(by cases h),fun p hp=>(by cases hp),trivial,by simp,by simp⟩
theorem zrI {α:Type} {P:Program} (s:Sem α) {k:α→zb→Prop} (h:runS true P G0 s [] k): ∃x,k x []∧ ∀w,s.run P w= .ok x w:=
 let ⟨x,h1,h2⟩:=zhu s h
 ⟨x,h1,fun w=>h2 w (HeapOk.nothing w)⟩
def zbW (T:Tys):Op→Bool
 | .move _| .assign _| .pick .. | .build .. | .nilCheck _| .binOp .. | .unOp .. | .makeFunc .. | .slice .. | .fieldAddr .. | .field .. | .indexAddr .. | .index .. | .extract .. =>true
 | .convert s d _=>match (T s).k,(T d).k with
  | .int _, .int _=>true
  | .string, .string=>true
  |_,_=>false
 | .call {callee:= .builtin b,argTypes:=ts, .. }=>match b with
  | .min| .max=>true
  | .len=>match ts.toList with
   | [t]=>match (T t).k with
    | .map .. =>false
    |_=>true
   |_=>false
  |_=>false
 |_=>false
theorem ziG {P:Program} {T:Tys} (hT:zR P T) {o:Oper} {sz:Nat} {G:za} {l:Fr} {H:zb} {a:Act} {w0:World} {k:Value→za→zb→Prop}
  (hp:zbW T o.op=true) (h:zar P T o.op G l H k) (hs:Sim E sz G l H a w0): ∃v,k v G H∧ ∀w,(execOp a.eval o).run P w= .ok (.value v) w:=by
 obtain⟨dst,op,ty,pos,after,guard⟩:=o
 have val: ∀ (s:Sem Value),runS true P G0 s [] (fun v _=>k v G H)→execOp a.eval ⟨dst,op,ty,pos,after,guard⟩=(do pure (.value (←s)))→ ∃v,k v G H∧ ∀w,(execOp a.eval ⟨dst,op,ty,pos,after,guard⟩).run P w= .ok (.value v) w:=fun s hr he=>by
  obtain⟨x,h1,h2⟩:=zrI s hr
  exact⟨x,h1,fun w=>by rw[he,Sem.run_bind,h2 w];rfl⟩
 cases op <;> simp only[zbW,Bool.false_eq_true] at hp <;> simp only[zar] at h
 case move x=>exact val (pure (a.eval x)) (zt hs h) rfl
 case assign x=>exact val (pure (a.eval x)) (zt hs h) rfl
 case pick c x y=>
  have h1:=zt hs (zt hs (zt hs h))
  unfold znz at h1
  split at h1
  ·rename_i t hc
   refine val (pure (if t then a.eval x else a.eval y)) (by rw[zh,←zhJ];exact h1) ?_
   simp only[execOp,hc,asBool]
   cases t <;> rfl
  ·exact h1.elim
 case build t parts=>
  have h1:=zjq hs h
  have h2:zfU T t (parts.map fun p=>(p.1,a.eval p.2)).toList fun v=>k v G H:=by rw[Array.toList_map];exact h1
  exact val (Instr.build t (parts.map fun p=>(p.1,a.eval p.2))) (zis hT h2) (by simp only[execOp])
 case nilCheck x=>
  have h1:=zt hs h
  refine val (pure (a.eval x)) (by rw[zh];unfold zlY at h1;split at h1 <;> first|exact h1|exact h1.elim) ?_
  unfold zlY at h1
  simp only[execOp]
  split at h1
  ·rename_i v p hp;rw[hp];rfl
  ·rename_i v f fs cs hp;rw[hp];rfl
  ·rename_i v p hp;rw[hp];rfl
  ·exact h1.elim
 case binOp op t x y u=>
  have h1:=zt hs (zt hs h)
  refine val (do eqGuard op t x y (a.eval x) (a.eval y);binOp op t (a.eval x) (a.eval y)) ?_ ?_
  ·rw[ze,zjP hT h1];exact zjH hT h1
  ·simp only[execOp]
 case unOp op t x=>exact val _ (zkU (zt hs h)) rfl
 case convert s d x=>
  have h1:=zt hs h
  refine val (convert s d (a.eval x)) ?_ rfl
  unfold ziA at h1
  split at h1
  ·rename_i b n hx
   split at h1
   ·rename_i j c hs1 hd1
    obtain⟨d1,e1,f1⟩:=hT.und hs1 (by simp)
    obtain⟨d2,e2,f2⟩:=hT.und hd1 (by simp)
    simp only[TK.fits] at f1 f2
    subst f1;subst f2
    rw[hx]
    simp only[convert,ze,zi e1,zi e2,Conv.intToInt,zh]
    exact h1
   ·exact h1.elim
  ·rename_i str hx
   split at h1
   ·rename_i hs1 hd1
    obtain⟨d1,e1,f1⟩:=hT.und hs1 (by simp)
    obtain⟨d2,e2,f2⟩:=hT.und hd1 (by simp)
    simp only[TK.fits] at f1 f2
    subst f1;subst f2
    rw[hx]
    simp only[convert,ze,zi e1,zi e2,zh]
    exact h1
   ·rename_i e hs1 hd1;rw[hs1,hd1] at hp;simp at hp
   ·exact h1.elim
  ·split at h1
   ·rename_i hs1 hd1;rw[hs1,hd1] at hp;simp at hp
   ·rename_i hs1 hd1;rw[hs1,hd1] at hp;simp at hp
   ·exact h1.elim
  ·exact h1.elim
 case fieldAddr t x f=>exact val _ (zio hT (zt hs h)) rfl
 case field t x f=>exact val _ (zhh hT (zt hs h)) rfl
 case indexAddr t x i=>exact val _ (zfB hT (zt hs (zt hs h))) rfl
 case index t x i=>exact val _ (ziq hT (zt hs (zt hs h))) rfl
 case extract x i=>exact val _ (zgA (zt hs h)) rfl
 case makeFunc fn first caps=>
  have h1:=zey hs (zey hs h)
  refine val (Instr.makeFunc fn (first.map a.eval) (caps.map a.eval)) ?_ rfl
  simp only[Instr.makeFunc,zh]
  have e1:(first.toList.map a.eval).toArray=first.map a.eval:=by apply Array.ext';simp
  have e2:(caps.toList.map a.eval).toArray=caps.map a.eval:=by apply Array.ext';simp
  rw[e1,e2] at h1;exact h1
 case slice t x lo hi mx=>exact val _ (zir hT (zhj hs (zhj hs (zhj hs (zt hs h))))) rfl
 case call c=>
  obtain⟨callee,args,ats⟩:=c
  cases callee with
  |invoke r m=>simp at hp
  |value f=>simp at hp
  |builtin b=>
   have h1:=zey hs h
   unfold zhK at h1
   have hex: ∀ (s:Sem Value),builtin b ats ty (args.map fun| .const _=>true|_=>false) (args.map a.eval)=(do pure (.value (←s)))→
     execOp a.eval ⟨dst, .call {callee:= .builtin b,args:=args,argTypes:=ats},ty,pos,after,guard⟩=(do pure (.value (←s))):=fun s hb=>by
    simp only[execOp,resolve,pure_bind,invoke]
    exact hb
   have harr: ∀vs:List Value,args.toList.map a.eval=vs→args.map a.eval=vs.toArray:=fun vs hv=>by apply Array.ext';simpa using hv
   have htys: ∀ts:List TypeId,ats.toList=ts→ats=ts.toArray:=fun ts hv=>by apply Array.ext';simpa using hv
   split at h1
   ·rename_i t x ht hx
    refine val (Builtin.len_ #[t] ty #[x]) ?_ (hex _ ?_)
    ·unfold zre at h1
     split at h1
     ·split at h1
      ·rename_i hmk
       have ht':ats.toList=[t]:=ht
       have hp':(match ats.toList with| [t]=>(match (T t).k with| .map .. =>false|_=>true)|_=>false)=true:=hp
       rw[ht'] at hp'
       simp [hmk] at hp'
      ·exact h1.elim
     ·exact zjL hT h1
    ·rw[harr _ hx,htys _ ht]
     exact rfl
   ·simp at hp
   ·simp at hp
   ·refine val (Builtin.min_ ats ty (args.toList.map a.eval).toArray) (zjM (ts:=ats) (ty:=ty) h1) (hex _ ?_)
    rw[harr _ rfl]
    exact rfl
   ·refine val (Builtin.max_ ats ty (args.toList.map a.eval).toArray) (zjN (ts:=ats) (ty:=ty) h1) (hex _ ?_)
    rw[harr _ rfl]
    exact rfl
   ·simp at hp
   ·simp at hp
   ·exact h1.elim
def ziH (T:Tys) (ops:Array Oper):List Nat→Array Bool→Bool
 | [],listed=>(Region.ready .any ops listed).isEmpty
 |i::σ,listed=>(match ops[i]? with
  |none=>false
  |some o=>if zbW T o.op then(Region.ready .any ops listed).contains i&&Region.free .any ops listed i else decide (Region.ready .any ops listed=[i]))&&ziH T ops σ (listed.setIfInBounds i true)
def zcQ (all:List Oper) (i:Nat):Option Oper:=all[i]?
theorem ztd (o:Oper) (os:List Oper):zcQ (o::os) 0=some o:=rfl
theorem zte (o:Oper) (os:List Oper) (n:Nat):zcQ (o::os) (n+1)=zcQ os n:=by simp [zcQ]
def opK (o:Option Oper) (k:Oper→Prop) (_:Tok k:= .mk):Prop:=match o with|some o=>k o|none=>False
theorem zvv (o:Oper) (k:Oper→Prop):opK (some o) k=k o:=rfl
def zd1 (P:Program) (T:Tys) (all:List Oper) (o:Oper) (G:za) (l:Fr) (H:zb) (K:za→Fr→zb→Prop) (_:Tok all:= .mk) (_:Tok o:= .mk) (_:Tok K:= .mk):Prop:=
 zco all o.guard l (fun l'=>zar P T o.op G l' H fun v G' H'=>K G' (put l' o.dst v) H') (fun l'=>K G (put l' o.dst undef) H)
def wpD (P:Program) (T:Tys) (all:List Oper) (σ:List Nat) (G:za) (l:Fr) (H:zb) (K:za→Fr→zb→Prop) (_:Tok all:= .mk) (_:Tok σ:= .mk) (_:Tok K:= .mk):Prop:=
 match σ with
 | []=>K G l H
 |i::σ=>opK (zcQ all i) fun o=>zd1 P T all o G l H fun G' l' H'=>wpD P T all σ G' l' H' K
section
variable (P:Program) (T:Tys) (all:List Oper) (d:Option Nat) (op:Op) (t:TypeId) (p:String) (af:Array Edge) (G:za) (l:Fr) (H:zb) (K:za→Fr→zb→Prop)
theorem zxz:wpD P T all [] G l H K=K G l H:=rfl
theorem zvw (i:Nat) (σ:List Nat):wpD P T all (i::σ) G l H K=opK (zcQ all i) fun o=>zd1 P T all o G l H fun G' l' H'=>wpD P T all σ G' l' H' K:=rfl
theorem zpL:zd1 P T all ⟨d,op,t,p,af,none⟩ G l H K=zar P T op G l H fun v G' H'=>K G' (put l d v) H':=rfl
theorem zpM (g:Nat×Bool):zd1 P T all ⟨d,op,t,p,af,some g⟩ G l H K=zco all (some g) l (fun l'=>zar P T op G l' H fun v G' H'=>K G' (put l' d v) H') (fun l'=>K G (put l' d undef) H):=rfl
end
theorem zfk {all:Array Oper} {o:Oper} {sz:Nat} {G:za} {l:Fr} {H:zb} {a:Act} {w:World} {yes no:Fr→Prop} (h:zco all.toList o.guard l yes no) (hs:Sim E sz G l H a w):
  ∃l',Sim E sz G l' H a w∧((Region.wanted o (yielded all a.tmps)=true∧yes l')∨(Region.wanted o (yielded all a.tmps)=false∧no l')):=by
 unfold zco at h
 split at h
 ·rename_i hg
  exact⟨l,hs, .inl ⟨by simp [Region.wanted,hg],h⟩⟩
 ·rename_i j want hg
  split at h
  ·exact h.elim
  ·rename_i t ht
   have hdst:(all[j]?).bind (·.dst)=some t:=by
    simp only[zfH,Array.getElem?_toList] at ht
    cases ho:all[j]? with
    |none=>rw[ho] at ht;simp at ht
    |some o'=>rw[ho] at ht;simpa using ht
   unfold zC at h
   split at h
   ·rename_i v hv
    have htv:=hs.fr t v hv
    have hw:Region.wanted o (yielded all a.tmps)=gv v want:=by
     unfold Region.wanted yielded
     simp only[hg,hdst,Option.bind_some]
     have htv':=htv
     rw[Array.getD_eq_getD_getElem?] at htv'
     cases hh:a.tmps[t]? with
     |none=>
      rw[hh] at htv'
      simp [undef] at htv'
      subst htv'
      rfl
     |some x=>
      rw[hh] at htv'
      simp at htv'
      subst htv'
      cases x <;> simp [gv]
    rw[hw]
    cases v <;> simp only[gK] at h <;> try exact h.elim
    case bool b=>
     rcases Bool.eq_false_or_eq_true (b==want) with hb|hb
     ·rw[hb,zjk] at h
      have e:b=want:=by simpa using hb
      subst e
      exact⟨_,hs.know htv, .inl ⟨hb,h⟩⟩
     ·rw[hb,zhw] at h
      have e:b= !want:=by cases b <;> cases want <;> simp_all
      subst e
      exact⟨_,hs.know htv, .inr ⟨hb,h⟩⟩
    case tuple vs=>exact⟨l,hs, .inr ⟨rfl,h⟩⟩
   ·exact h.elim
theorem zmv {P:Program} {T:Tys} (hT:zR P T) {ops:Array Oper} {sz:Nat} {Q:Exit→Act→World→Prop} (hsel:Region.noSelect ops=true) (hlt:zfj sz ops.toList=true)
  (hQ: ∀c a a' w,Q (.panic c) a w→Q (.panic c) a' w):
  ∀ (σ:List Nat) (listed:Array Bool) {G:za} {l:Fr} {H:zb} {a:Act} {w:World} {K:za→Fr→zb→Prop},
  ziH T ops σ listed=true→wpD P T ops.toList σ G l H K→Sim E sz G l H a w→
  (∀G' l' H' a' w',PLe G G'→Sim E sz G' l' H' a' w'→K G' l' H'→Q .normal a' w')→ ∀fuel,σ.length≤fuel→wpAny P .any ops Q fuel listed a w
 | [],listed,G,l,H,a,w,K,hd,h,hs,hk,fuel,_=>by
  refine wpAny_done ?_ (hk G l H a w (PLe.refl _) hs h) fuel
  simpa [ziH] using hd
 |i::σ,listed,G,l,H,a,w,K,hd,h,hs,hk,fuel,hf=>by
  obtain⟨fuel,rfl⟩: ∃f,fuel=f+1:=⟨fuel - 1,by simp at hf;omega⟩
  simp only[ziH,Bool.and_eq_true] at hd
  obtain⟨hd1,hd2⟩:=hd
  simp only[wpD,zcQ,opK,Array.getElem?_toList] at h
  cases ho:ops[i]? with
  |none=>rw[ho] at h;exact h.elim
  |some o=>
   simp only[ho] at h hd1
   have hmem:o∈ops.toList:=by
    have:=Array.mem_of_getElem? ho
    simpa using this
   have hdo:=ze8 hlt o hmem
   unfold zd1 at h
   obtain⟨l',hs',hcase⟩:=zfk h hs
   have hrest: ∀ {G':za} {l2:Fr} {H':zb} {a2:Act} {w2:World},PLe G G'→wpD P T ops.toList σ G' l2 H' K→Sim E sz G' l2 H' a2 w2→wpAny P .any ops Q fuel (listed.setIfInBounds i true) a2 w2:=fun hle hwp hs2=>
    zmv hT hsel hlt hQ σ _ hd2 hwp hs2 (fun G3 l3 H3 a3 w3 hle3 hs3 hk3=>hk G3 l3 H3 a3 w3 (hle.trans hle3) hs3 hk3) fuel (by simp at hf;omega)
   by_cases hp:zbW T o.op=true
   ·rw[if_pos hp,Bool.and_eq_true] at hd1
    rcases hcase with ⟨hw,hy⟩| ⟨hw,hn⟩
    ·obtain⟨v,h1,h2⟩:=ziG hT hp hy hs'
     exact wpAny_take ho hsel hd1.2 hd1.1 (fun c a w hq=>hQ c _ _ w hq) (v:=v) (.inl ⟨hw,h2⟩) (hrest (PLe.refl _) h1 (hs'.put hs'.heap hdo))
    ·exact wpAny_take ho hsel hd1.2 hd1.1 (fun c a w hq=>hQ c _ _ w hq) (v:=undef) (.inr ⟨hw,rfl⟩) (hrest (PLe.refl _) hn (hs'.put hs'.heap hdo))
   ·rw[if_neg hp,decide_eq_true_eq] at hd1
    refine wpAny_all hd1 (by simp) fun j hj=>?_
    obtain rfl:j=i:=by simpa using hj
    unfold wpOp
    simp only[ho]
    rcases hcase with ⟨hw,hy⟩| ⟨hw,hn⟩
    ·rw[if_pos hw]
     exact .inl (zg4 hT hy hs' fun v G' H' w' hle hw' hk'=>hrest hle hk' (hs'.put hw' hdo))
    ·rw[if_neg (by simp [hw])]
     exact hrest (PLe.refl _) hn (hs'.put hs'.heap hdo)
theorem Tri.draw {P:Program} {T:Tys} (hT:zR P T) (hm:P.follows .mixedOrders=true) {sz:Nat} (keep:List Nat) {id:Nat} {ops:List Oper} {G:za} {l:Fr} {H:zb} {K:zaI} (σ:List Nat)
  (hok:(Region.noSelect ops.toArray&&zfj sz ops&&ziH T ops.toArray σ (Array.replicate ops.toArray.size false)&&decide (σ.length≤ops.toArray.size))=true)
  (h:wpD P T ops σ G l H fun G' l' H'=>K .normal G' (zD keep l') H'):Tri P sz (.region id ops.toArray true) G l H K:=by
 intro E a w Q hs hk
 simp only[Bool.and_eq_true,decide_eq_true_eq] at hok
 obtain⟨⟨⟨h1,h2⟩,h3⟩,h4⟩:=hok
 -- what is asked of a panic is asked of none
 refine wp_mono (Q:=fun e a w=>match e with| .normal=>Q .normal a w|_=>False) (wp_region_any hm ?_) (fun e a w hq=>by cases e <;> first|exact hq|exact hq.elim)
 refine zmv hT (ops:=ops.toArray) h1 h2 (fun c a a' w hq=>hq.elim) σ _ h3 h (w:={w with drawn:=w.drawn+1}) ⟨hs.size,hs.defers,hs.fr,hs.heap.drew _⟩ ?_ _ h4
 intro G' l' H' a' w' hle hs' hk'
 exact hk E .normal G' _ H' a' w' (Env.le.refl E) hle (hs'.weak (zaP keep l')) hk'
attribute [go_sem] zxz zvw zpL zpM zvv ztd zte
end Go.V
namespace Go.V
variable {E:Env}
section any
variable {P:Program} {ops:Array Oper} {Q:Exit→Act→World→Prop} {md:Region.Mode} {S:World→Prop} {tail:Nat→Bool}
def zbM (P:Program) (md:Region.Mode) (ops:Array Oper) (Q:Exit→Act→World→Prop) (S:World→Prop) (tail:Nat→Bool):Nat→Array Bool→Act→World→Prop
 |0,listed,a,w=>Region.ready md ops listed=[]∧Q .normal a w
 |fuel+1,listed,a,w=>
  (Region.ready md ops listed=[]→Q .normal a w)∧
  ∀i∈Region.ready md ops listed,wpOp P ops Q i (fun a' w'=>(tail i=true∨(S w→S w'))∧zbM P md ops Q S tail fuel (listed.setIfInBounds i true) a' w') a w
theorem zk5: ∀ (fuel:Nat) (listed:Array Bool) (a:Act) (w:World),zbM P md ops Q S tail fuel listed a w→wpAny P md ops Q fuel listed a w
 |0,_,_,_,h=>h
 |fuel+1,_,_,_,h=>⟨h.1,fun i hi=>wpOp_mono (fun a' w' h'=>zk5 fuel _ a' w' h'.2) (h.2 i hi)⟩
theorem zn7 {i:Nat} {oi:Oper} {v:Value} (any:Bool) (hi:ops[i]? =some oi) (hsel: ∀ (j:Nat) (o:Oper) cs b,ops[j]? =some o→o.op≠ .select cs b)
  (hQ: ∀c a w,Q (.panic c) (a.put oi.dst v) w→Q (.panic c) a w)
  (htail:any=false→ ∀ (listed:Array Bool) j,listed.getD i false=false→j∈Region.ready md ops listed→tail j=false):
  ∀ (fuel:Nat) (listed:Array Bool) (a:Act) (w:World),
   (∀j oj,ops[j]? =some oj→j≠i→listed.getD j true=false→(∀e∈oj.after,Region.binds md e=true→e.on≠i)→oi.apart ops oj=true)→
   i∈Region.ready md ops listed→YieldsIf P ops (fun w=>any=true∨S w) oi v a→(any=true∨S w)→
   zbM P md ops Q S tail fuel (listed.setIfInBounds i true) (a.put oi.dst v) w→zbM P md ops Q S tail (fuel+1) listed a w:=by
 intro fuel
 induction fuel with
 |zero=>
  intro listed a w _ hr hy hS H
  refine⟨fun h=>(by rw[h] at hr;cases hr),fun j hj=>?_⟩
  by_cases hji:j=i
  ·subst hji;exact hy.wpOp hi hS ⟨.inr id,H⟩
  ·have:=ready_mono hj hji
   rw[H.1] at this
   cases this
 |succ fuel ih=>
  intro listed a w hfree hr hy hS H
  refine⟨fun h=>(by rw[h] at hr;cases hr),fun j hj=>?_⟩
  by_cases hji:j=i
  ·subst hji;exact hy.wpOp hi hS ⟨.inr id,H⟩
  ·have h1:=H.2 j (ready_mono hj hji)
   obtain⟨hjun,oj,hoj,hall⟩:=mem_ready.1 hj
   have hiun:=(mem_ready.1 hr).1
   have hiun':listed.getD i false=false:=by
    rcases Nat.lt_or_ge i listed.size with h'|h'
    ·simp [h'] at hiun⊢;exact hiun
    ·simp [Array.getElem?_eq_none h']
   have hnot: ∀e∈oj.after,Region.binds md e=true→e.on≠i:=fun e he hb heq=>by
    have h1:=hall e he hb
    rw[heq,hiun'] at h1
    cases h1
   have h2:=wpOp_putIf hoj (hfree j oj hoj hji hjun hnot) (fun cs b=>hsel i oi cs b hi) (fun cs b=>hsel j oj cs b hoj) hQ hy h1
   have hfree': ∀k ok,ops[k]? =some ok→k≠i→(listed.setIfInBounds j true).getD k true=false→
     (∀e∈ok.after,Region.binds md e=true→e.on≠i)→oi.apart ops ok=true:=fun k ok hk hki hun hno=>by
    refine hfree k ok hk hki ?_ hno
    by_cases hjk:j=k
    ·subst hjk;exact hjun
    ·rw[getD_set_ne true hjk] at hun;exact hun
   refine wpOp_mono (fun a' w' h3=>?_) h2
   obtain⟨h3a,h3b,h3c⟩:=h3
   have hSj:any=true∨S w':=by
    cases hany:any with
    |true=>exact .inl rfl
    |false=>
     have htj:=htail hany listed j hiun' hj
     rcases h3b with h|h
     ·rw[htj] at h;cases h
     ·exact .inr (h (hS.resolve_left (by simp [hany])))
   refine⟨h3b,?_⟩
   refine ih (listed.setIfInBounds j true) a' w' hfree' (ready_mono hr (Ne.symm hji)) h3a hSj ?_
   rw[Array.setIfInBounds_comm _ _ hji];exact h3c
theorem ze9 {i:Nat} {oi:Oper} {v:Value} {fuel:Nat} {listed:Array Bool} {a:Act} {w:World} (any:Bool) (hi:ops[i]? =some oi)
  (hs:Region.noSelect ops=true) (hf:Region.free md ops listed i=true) (hr:(Region.ready md ops listed).contains i=true)
  (hQ: ∀c a w,Q (.panic c) (a.put oi.dst v) w→Q (.panic c) a w) (htail:any=false→ ∀ (listed:Array Bool) j,listed.getD i false=false→j∈Region.ready md ops listed→tail j=false)
  (hy:YieldsIf P ops (fun w=>any=true∨S w) oi v a) (hS:any=true∨S w)
  (h:zbM P md ops Q S tail fuel (listed.setIfInBounds i true) (a.put oi.dst v) w):zbM P md ops Q S tail (fuel+1) listed a w:=
 zn7 any hi (Region.noSelect_spec hs) hQ htail fuel listed a w (Region.free_spec hi hf) (by simpa using hr) hy hS h
theorem zk6 {rs:List Nat} {fuel:Nat} {listed:Array Bool} {a:Act} {w:World} (hr: ∀i∈Region.ready md ops listed,i∈rs) (hne:Region.ready md ops listed≠[])
  (h: ∀i∈rs,wpOp P ops Q i (fun a' w'=>(tail i=true∨(S w→S w'))∧zbM P md ops Q S tail fuel (listed.setIfInBounds i true) a' w') a w):zbM P md ops Q S tail (fuel+1) listed a w:=
 ⟨fun h0=>absurd h0 hne,fun i hi=>h i (hr i hi)⟩
theorem zpN {listed:Array Bool} {a:Act} {w:World} (hr:Region.ready md ops listed=[]) (h:Q .normal a w): ∀fuel,zbM P md ops Q S tail fuel listed a w
 |0=>⟨hr,h⟩
 |_+1=>⟨fun _=>h,by rw[hr];simp⟩
end any
inductive DT where
 |nil
 |op (i:Nat) (t:DT)
 |both (s t:DT)
def DT.heads:DT→List Nat
 | .nil=>[]
 | .op i _=>[i]
 | .both s t=>s.heads++t.heads
def DT.depth:DT→Nat
 | .nil=>0
 | .op _ t=>t.depth+1
 | .both s t=>max (max s.depth t.depth) 1
def za0 (ops:Array Oper) (L:List Nat) (j:Nat):Bool:=
 !L.isEmpty&&L.all fun i=>match ops[j]? with|some o=>o.after.any fun e=>Region.binds .any e&&e.on==i|none=>false
def zgc:Op→Bool
 | .load .. =>true
 |_=>false
def zn8 (T:Tys) (ops:Array Oper) (L:List Nat) (i:Nat):Bool:=
 match ops[i]? with
 |some o=>zbW T o.op||(zgc o.op&&L.contains i)
 |none=>false
def DT.ok (T:Tys) (ops:Array Oper) (L:List Nat):DT→Bool→Array Bool→Bool
 | .nil,_,listed=>(Region.ready .any ops listed).isEmpty
 | .op i t,seen,listed=>(if zn8 T ops L i&& !seen then(Region.ready .any ops listed).contains i&&Region.free .any ops listed i
   else(ops[i]?).isSome&&(seen||((Region.ready .any ops listed).all fun j=>j==i)&& !(Region.ready .any ops listed).isEmpty))&&t.ok T ops L false (listed.setIfInBounds i true)
 | .both s t,seen,listed=>(seen||((Region.ready .any ops listed).all fun j=>(s.heads++t.heads).contains j)&& !(Region.ready .any ops listed).isEmpty)&&s.ok T ops L true listed&&t.ok T ops L true listed
def zdn (Hs H:zb) (k:Prop) (_:Tok k:= .mk):Prop:=(∀p∈Hs,p∈H)∧k
def zgH (T:Tys) (Gs:za) (Hs:zb) (op:Op) (l:Fr) (k:Value→Prop) (_:Tok k:= .mk):Prop:=
 match op with
 | .load t x=>zC (ev l x) fun v=>zew T Gs Hs t v k
 |_=>False
def wpT (P:Program) (T:Tys) (all:List Oper) (L:List Nat) (Gs:za) (Hs:zb) (t:DT) (G:za) (l:Fr) (H:zb) (K:za→Fr→zb→Prop) (_:Tok all:= .mk) (_:Tok t:= .mk) (_:Tok K:= .mk):Prop:=
 match t with
 | .nil=>K G l H
 | .both s t=>wpT P T all L Gs Hs s G l H K∧wpT P T all L Gs Hs t G l H K
 | .op i t=>opK (zcQ all i) fun o=>
   if zgc o.op&&L.contains i then zco all o.guard l (fun l'=>zgH T Gs Hs o.op l' fun v=>wpT P T all L Gs Hs t G (put l' o.dst v) H K) (fun l'=>wpT P T all L Gs Hs t G (put l' o.dst undef) H K)
   else zd1 P T all o G l H fun G' l' H'=>if zbW T o.op||za0 all.toArray L i then wpT P T all L Gs Hs t G' l' H' K else zdn Hs H' (wpT P T all L Gs Hs t G' l' H' K)
theorem zjU {ops:Array Oper} {L:List Nat} {i j:Nat} (hi:i∈L) {listed:Array Bool} (hl:listed.getD i false=false) (hj:j∈Region.ready .any ops listed):za0 ops L j=false:=by
 cases ht:za0 ops L j with
 |false=>rfl
 |true=>
  exfalso
  simp only[za0,Bool.and_eq_true,List.all_eq_true] at ht
  have h1:=ht.2 i hi
  obtain⟨_,o,ho,hall⟩:=mem_ready.1 hj
  simp only[ho] at h1
  obtain⟨e,he,hb⟩:=Array.any_eq_true'.1 h1
  simp only[Bool.and_eq_true,beq_iff_eq] at hb
  have:=hall e he hb.1
  rw[hb.2,hl] at this
  cases this
theorem zmw {P:Program} {T:Tys} (hT:zR P T) {Gs:za} {Hs:zb} {o:Oper} {sz:Nat} {G:za} {l:Fr} {H:zb} {a:Act} {w0:World} {k:Value→Prop}
  (h:zgH T Gs Hs o.op l k) (hs:Sim E sz G l H a w0): ∃v,k v∧ ∀ {E:Env} w,HeapOk E Gs Hs w→(execOp a.eval o).run P w= .ok (.value v) w:=by
 obtain⟨dst,op,ty,pos,after,guard⟩:=o
 cases op <;> simp only[zgH] at h
 case load t x=>
  have h1:=zt hs h
  obtain⟨v,h2,h3⟩:=zhu (P:=P) (G:=Gs) (Instr.loadAt t (a.eval x)) (H:=Hs) (k:=fun v _=>k v) (zf5 hT h1)
  refine⟨v,h2,fun w hw=>?_⟩
  show((do pure (.value (←Instr.loadAt t (a.eval x))):Sem Next)).run P w=_
  rw[Sem.run_bind,h3 w hw]
  rfl
theorem zxA {Gs G':za} {Hs H':zb} {w w':World} (hle:PLe Gs G') (hw:HeapOk E Gs Hs w) (hw':HeapOk E G' H' w') (hsub: ∀p∈Hs,p∈H'):HeapOk E Gs Hs w':=
 ⟨hw'.env,fun b o hb=>hw'.pers b o (hle b o hb),fun p hp=>hw'.own p (hsub p hp),hw.sep,hw'.dfr.1,fun D hD=>⟨(hw'.dfr.2 D hD).1,(hw.dfr.2 D hD).2⟩⟩
section sound
variable {P:Program} {T:Tys} {ops:Array Oper} {sz:Nat} {Q:Exit→Act→World→Prop} {L:List Nat} {Gs:za} {Hs:zb}
theorem ztf (hT:zR P T) (hlt:zfj sz ops.toList=true) {i:Nat} {t:DT} {G:za} {l:Fr} {H:zb} {a:Act} {w:World} {K:za→Fr→zb→Prop} (hle0:PLe Gs G)
  (hnf:zgc (ops[i]?.getD default).op=true→L.contains i=true→HeapOk E Gs Hs w)
  (h:wpT P T ops.toList L Gs Hs (.op i t) G l H K) (hs:Sim E sz G l H a w) {fuel:Nat} {listed':Array Bool}
  (hrest: ∀G' l' H' a' w',PLe G G'→Sim E sz G' l' H' a' w'→(HeapOk E Gs Hs w→za0 ops L i=false→HeapOk E Gs Hs w')→wpT P T ops.toList L Gs Hs t G' l' H' K→zbM P .any ops Q (HeapOk E Gs Hs) (za0 ops L) fuel listed' a' w'):
  wpOp P ops Q i (fun a' w'=>(za0 ops L i=true∨(HeapOk E Gs Hs w→HeapOk E Gs Hs w'))∧zbM P .any ops Q (HeapOk E Gs Hs) (za0 ops L) fuel listed' a' w') a w:=by
 simp only[wpT,zcQ,opK,Array.getElem?_toList] at h
 cases ho:ops[i]? with
 |none=>rw[ho] at h;exact h.elim
 |some o=>
  simp only[ho] at h
  have hmem:o∈ops.toList:=by have:=Array.mem_of_getElem? ho;simpa using this
  have hdo:=ze8 hlt o hmem
  unfold wpOp
  simp only[ho]
  split at h
  ·rename_i hc
   simp only[Bool.and_eq_true] at hc
   have hSw:HeapOk E Gs Hs w:=hnf (by rw[ho];exact hc.1) hc.2
   obtain⟨l',hs',hcase⟩:=zfk h hs
   rcases hcase with ⟨hw,hy⟩| ⟨hw,hn⟩
   ·rw[if_pos hw]
    obtain⟨v,h1,h2⟩:=zmw hT hy hs'
    refine .inl ?_
    unfold Oper.wp
    rw[h2 w hSw]
    exact⟨.inr id,hrest _ _ _ _ _ (PLe.refl _) (hs'.put hs'.heap hdo) (fun h _=>h) h1⟩
   ·rw[if_neg (by simp [hw])]
    exact⟨.inr id,hrest _ _ _ _ _ (PLe.refl _) (hs'.put hs'.heap hdo) (fun h _=>h) hn⟩
  ·unfold zd1 at h
   obtain⟨l',hs',hcase⟩:=zfk h hs
   have fin: ∀ {G':za} {l2:Fr} {H':zb} {a':Act} {w':World},PLe G G'→Sim E sz G' l2 H' a' w'→(zbW T o.op=true→HeapOk E Gs Hs w→HeapOk E Gs Hs w')→
     (if (zbW T o.op||za0 ops L i)=true then wpT P T ops.toList L Gs Hs t G' l2 H' K else zdn Hs H' (wpT P T ops.toList L Gs Hs t G' l2 H' K))→
     (za0 ops L i=true∨(HeapOk E Gs Hs w→HeapOk E Gs Hs w'))∧zbM P .any ops Q (HeapOk E Gs Hs) (za0 ops L) fuel listed' a' w':=fun hle hs2 hpu hh=>by
    split at hh
    ·rename_i hp
     cases htl:za0 ops L i with
     |true=>exact⟨.inl rfl,hrest _ _ _ _ _ hle hs2 (fun _ h=>by rw[htl] at h;cases h) hh⟩
     |false=>
      have hp':zbW T o.op=true:=by simpa [htl] using hp
      exact⟨.inr (hpu hp'),hrest _ _ _ _ _ hle hs2 (fun h _=>hpu hp' h) hh⟩
    ·obtain⟨hsub,hh⟩:=hh
     have hkeep:HeapOk E Gs Hs w→HeapOk E Gs Hs _:=fun h=>zxA (hle0.trans hle) h hs2.heap hsub
     exact⟨.inr hkeep,hrest _ _ _ _ _ hle hs2 (fun h _=>hkeep h) hh⟩
   rcases hcase with ⟨hw,hy⟩| ⟨hw,hn⟩
   ·rw[if_pos hw]
    refine .inl ?_
    by_cases hp:zbW T o.op=true
    ·obtain⟨v,h1,h2⟩:=ziG hT hp hy hs'
     unfold Oper.wp
     rw[h2 w]
     exact fin (PLe.refl _) (hs'.put hs'.heap hdo) (fun _ h=>h) h1
    ·exact zg4 hT hy hs' fun v G' H' w' hle hw' hk'=>fin hle (hs'.put hw' hdo) (fun h=>absurd h hp) hk'
   ·rw[if_neg (by simp [hw])]
    exact fin (PLe.refl _) (hs'.put hs'.heap hdo) (fun _ h=>h) hn
theorem ztg (hT:zR P T) (hsel:Region.noSelect ops=true) (hlt:zfj sz ops.toList=true) (hQ: ∀c a a' w,Q (.panic c) a w→Q (.panic c) a' w) {K:za→Fr→zb→Prop}:
  ∀ (t:DT) (listed:Array Bool) {G:za} {l:Fr} {H:zb} {a:Act} {w:World} (fuel:Nat),PLe Gs G→Sim E sz G l H a w→wpT P T ops.toList L Gs Hs t G l H K→
  (HeapOk E Gs Hs w∨ ∀i∈L,listed.getD i false=true)→
  (∀G' l' H' a' w',PLe G G'→Sim E sz G' l' H' a' w'→K G' l' H'→Q .normal a' w')→
  (t.ok T ops L false listed=true→t.depth≤fuel→zbM P .any ops Q (HeapOk E Gs Hs) (za0 ops L) fuel listed a w)∧
  (t.ok T ops L true listed=true→t.depth≤fuel+1→ ∀i∈t.heads,i∈Region.ready .any ops listed→wpOp P ops Q i (fun a' w'=>(za0 ops L i=true∨(HeapOk E Gs Hs w→HeapOk E Gs Hs w'))∧zbM P .any ops Q (HeapOk E Gs Hs) (za0 ops L) fuel (listed.setIfInBounds i true) a' w') a w):=by
 intro t
 induction t with
 |nil=>
  intro listed G l H a w fuel hle hs h hS hk
  refine⟨fun hok _=>zpN (by simpa [DT.ok] using hok) (hk G l H a w (PLe.refl _) hs h) fuel,fun _ _ i hi=>by cases hi⟩
 |op i t ih=>
  intro listed G l H a w fuel hle hs h hS hk
  have carry: ∀fuel,i∈Region.ready .any ops listed→t.ok T ops L false (listed.setIfInBounds i true)=true→t.depth≤fuel→
    wpOp P ops Q i (fun a' w'=>(za0 ops L i=true∨(HeapOk E Gs Hs w→HeapOk E Gs Hs w'))∧zbM P .any ops Q (HeapOk E Gs Hs) (za0 ops L) fuel (listed.setIfInBounds i true) a' w') a w:=fun fuel hr hok hf=>by
   refine ztf hT hlt hle ?_ h hs ?_
   ·intro _ hL
    rcases hS with hS|hS
    ·exact hS
    ·exfalso
     have h1:=(mem_ready.1 hr).1
     have h2:=hS i (by simpa using hL)
     rcases Nat.lt_or_ge i listed.size with h'|h'
     ·simp [h'] at h1 h2;rw[h1] at h2;cases h2
     ·simp [Array.getElem?_eq_none h'] at h1
   ·intro G' l' H' a' w' hle' hs' hkeep hwp
    refine(ih (listed.setIfInBounds i true) fuel (hle.trans hle') hs' hwp ?_ (fun G2 l2 H2 a2 w2 hle2 hs2 hk2=>hk G2 l2 H2 a2 w2 (hle'.trans hle2) hs2 hk2)).1 hok hf
    have hall:(∀j∈L,listed.getD j false=true)→ ∀j∈L,(listed.setIfInBounds i true).getD j false=true:=fun h j hj=>getD_set_true (h j hj)
    rcases hS with hS|hS
    ·cases htl:za0 ops L i with
     |false=>exact .inl (hkeep hS htl)
     |true=>
      refine .inr (hall fun j hj=>?_)
      cases hg:listed.getD j false with
      |true=>rfl
      |false=>have:=zjU hj hg hr;rw[htl] at this;cases this
    ·exact .inr (hall hS)
  refine⟨fun hok hf=>?_,fun hok hf j hj hr=>?_⟩
  ·obtain⟨fuel,rfl⟩: ∃f,fuel=f+1:=⟨fuel - 1,by simp only[DT.depth] at hf;omega⟩
   simp only[DT.depth] at hf
   simp only[DT.ok,Bool.and_eq_true] at hok
   obtain⟨hok1,hok2⟩:=hok
   by_cases hfirst:zn8 T ops L i=true
   ·rw[if_pos (by simp [hfirst]),Bool.and_eq_true] at hok1
    have hr:i∈Region.ready .any ops listed:=by simpa using hok1.1
    simp only[wpT,zcQ,opK,Array.getElem?_toList] at h
    unfold zn8 at hfirst
    cases ho:ops[i]? with
    |none=>rw[ho] at h;exact h.elim
    |some o=>
     simp only[ho] at h hfirst
     have hmem:o∈ops.toList:=by have:=Array.mem_of_getElem? ho;simpa using this
     have hdo:=ze8 hlt o hmem
     have next: ∀ {l':Fr} {v:Value},Sim E sz G (put l' o.dst v) H (a.put o.dst v) w→wpT P T ops.toList L Gs Hs t G (put l' o.dst v) H K→zbM P .any ops Q (HeapOk E Gs Hs) (za0 ops L) fuel (listed.setIfInBounds i true) (a.put o.dst v) w:=fun hs2 hwp=>
      (ih (listed.setIfInBounds i true) fuel hle hs2 hwp (match hS with| .inl hS=> .inl hS| .inr hS=> .inr fun j hj=>getD_set_true (hS j hj)) hk).1 hok2 (by omega)
     have hunl:HeapOk E Gs Hs w∨L.contains i=false:=by
      rcases hS with hS|hS
      ·exact .inl hS
      ·refine .inr ?_
       cases hc:L.contains i with
       |false=>rfl
       |true=>
        exfalso
        have h1:=(mem_ready.1 hr).1
        have h2:=hS i (by simpa using hc)
        rcases Nat.lt_or_ge i listed.size with h'|h'
        ·simp [h'] at h1 h2;rw[h1] at h2;cases h2
        ·simp [Array.getElem?_eq_none h'] at h1
     by_cases hl:(zgc o.op&&L.contains i)=true
     ·rw[if_pos hl] at h
      simp only[Bool.and_eq_true] at hl
      have hSw:HeapOk E Gs Hs w:=hunl.resolve_right (by rw[hl.2];simp)
      obtain⟨l',hs',hcase⟩:=zfk h hs
      have htail:false=false→ ∀ (listed:Array Bool) j,listed.getD i false=false→j∈Region.ready .any ops listed→za0 ops L j=false:=fun _ listed j h1 h2=>zjU (by simpa using hl.2) h1 h2
      rcases hcase with ⟨hw,hy⟩| ⟨hw,hn⟩
      ·obtain⟨v,h1,h2⟩:=zmw hT hy hs'
       exact ze9 false ho hsel hok1.2 hok1.1 (fun c a w hq=>hQ c _ _ w hq) htail (v:=v) (.inl ⟨hw,fun w hw=>h2 w (hw.resolve_left (by simp))⟩) (.inr hSw) (next (hs'.put hs'.heap hdo) h1)
      ·exact ze9 false ho hsel hok1.2 hok1.1 (fun c a w hq=>hQ c _ _ w hq) htail (v:=undef) (.inr ⟨hw,rfl⟩) (.inr hSw) (next (hs'.put hs'.heap hdo) hn)
     ·rw[if_neg hl] at h
      have hp:zbW T o.op=true:=by
       simp only[Bool.or_eq_true] at hfirst
       exact hfirst.resolve_right hl
      unfold zd1 at h
      obtain⟨l',hs',hcase⟩:=zfk h hs
      rcases hcase with ⟨hw,hy⟩| ⟨hw,hn⟩
      ·obtain⟨v,h1,h2⟩:=ziG hT hp hy hs'
       rw[if_pos (by simp [hp])] at h1
       exact ze9 true ho hsel hok1.2 hok1.1 (fun c a w hq=>hQ c _ _ w hq) (fun h=>by cases h) (v:=v) (.inl ⟨hw,fun w _=>h2 w⟩) (.inl rfl) (next (hs'.put hs'.heap hdo) h1)
      ·rw[if_pos (by simp [hp])] at hn
       exact ze9 true ho hsel hok1.2 hok1.1 (fun c a w hq=>hQ c _ _ w hq) (fun h=>by cases h) (v:=undef) (.inr ⟨hw,rfl⟩) (.inl rfl) (next (hs'.put hs'.heap hdo) hn)
   ·rw[if_neg (by simp [hfirst])] at hok1
    simp only[Bool.false_or,Bool.and_eq_true] at hok1
    have hne:Region.ready .any ops listed≠[]:=by
     have:=hok1.2.2
     simpa using this
    have hall: ∀j∈Region.ready .any ops listed,j=i:=by
     have:=hok1.2.1
     simpa using this
    refine zk6 (rs:=[i]) (fun j hj=>by simp [hall j hj]) hne fun j hj=>?_
    obtain rfl:j=i:=by simpa using hj
    refine carry fuel ?_ hok2 (by omega)
    obtain⟨x,hx⟩:=List.exists_mem_of_ne_nil _ hne
    rw[←hall x hx];exact hx
  ·simp only[DT.heads,List.mem_singleton] at hj
   subst hj
   simp only[DT.depth] at hf
   simp only[DT.ok,Bool.and_eq_true] at hok
   exact carry fuel hr hok.2 (by omega)
 |both s t ihs iht=>
  intro listed G l H a w fuel hle hs h hS hk
  simp only[wpT] at h
  have B: ∀fuel,s.ok T ops L true listed=true→t.ok T ops L true listed=true→max s.depth t.depth≤fuel+1→ ∀i∈s.heads++t.heads,i∈Region.ready .any ops listed→wpOp P ops Q i (fun a' w'=>(za0 ops L i=true∨(HeapOk E Gs Hs w→HeapOk E Gs Hs w'))∧zbM P .any ops Q (HeapOk E Gs Hs) (za0 ops L) fuel (listed.setIfInBounds i true) a' w') a w:=fun fuel h1 h2 hf i hi hr=>by
   rcases List.mem_append.1 hi with hi|hi
   ·exact(ihs listed fuel hle hs h.1 hS hk).2 h1 (by omega) i hi hr
   ·exact(iht listed fuel hle hs h.2 hS hk).2 h2 (by omega) i hi hr
  refine⟨fun hok hf=>?_,fun hok hf i hi hr=>?_⟩
  ·simp only[DT.ok,Bool.false_or,Bool.and_eq_true] at hok
   have hne:Region.ready .any ops listed≠[]:=by
    have:=hok.1.1.2
    simpa using this
   have hall: ∀j∈Region.ready .any ops listed,j∈s.heads++t.heads:=by
    have:=hok.1.1.1
    simpa using this
   cases fuel with
   |zero=>
    exfalso
    obtain⟨x,hx⟩:=List.exists_mem_of_ne_nil _ hne
    have hx':=hall x hx
    simp only[DT.depth] at hf
    rcases List.mem_append.1 hx' with hx'|hx'
    ·cases s with
     |nil=>cases hx'
     |op i s=>simp only[DT.depth] at hf;omega
     |both s1 s2=>simp only[DT.depth] at hf;omega
    ·cases t with
     |nil=>cases hx'
     |op i s=>simp only[DT.depth] at hf;omega
     |both s1 s2=>simp only[DT.depth] at hf;omega
   |succ fuel=>
    simp only[DT.depth] at hf
    refine zk6 (rs:=Region.ready .any ops listed) (fun j hj=>hj) hne fun i hi=>B fuel hok.1.2 hok.2 (by omega) i (hall i hi) hi
  ·simp only[DT.ok,Bool.true_or,Bool.true_and,Bool.and_eq_true] at hok
   simp only[DT.depth] at hf
   exact B fuel hok.1 hok.2 (by omega) i hi hr
end sound
theorem Tri.drawT {P:Program} {T:Tys} (hT:zR P T) (hm:P.follows .mixedOrders=true) {sz:Nat} (keep:List Nat) (id:Nat) {ops:List Oper} {G:za} {l:Fr} {H:zb} {K:zaI} (L:List Nat) (t:DT)
  (hok:(Region.noSelect ops.toArray&&zfj sz ops&&t.ok T ops.toArray L false (Array.replicate ops.toArray.size false)&&decide (t.depth≤ops.toArray.size))=true)
  (Hs:zb) (hsub: ∀ {E:Env} {w:World},HeapOk E G H w→HeapOk E G Hs w)
  (h:wpT P T ops L G Hs t G l H fun G' l' H'=>K .normal G' (zD keep l') H'):Tri P sz (.region id ops.toArray true) G l H K:=by
 intro E a w Q hs hk
 simp only[Bool.and_eq_true,decide_eq_true_eq] at hok
 obtain⟨⟨⟨h1,h2⟩,h3⟩,h4⟩:=hok
 refine wp_mono (Q:=fun e a w=>match e with| .normal=>Q .normal a w|_=>False) (wp_region_any hm (zk5 (S:=HeapOk E G Hs) (tail:=za0 ops.toArray L) _ _ _ _ ?_)) (fun e a w hq=>by cases e <;> first|exact hq|exact hq.elim)
 have hs1:Sim E sz G l H a {w with drawn:=w.drawn+1}:=⟨hs.size,hs.defers,hs.fr,hs.heap.drew _⟩
 refine(ztg hT (ops:=ops.toArray) h1 h2 (fun c a a' w hq=>hq.elim) t _ _ (PLe.refl _) hs1 h (.inl (hsub hs1.heap)) ?_).1 h3 h4
 intro G' l' H' a' w' hle hs' hk'
 exact hk E .normal G' _ H' a' w' (Env.le.refl E) hle (hs'.weak (zaP keep l')) hk'
inductive DO where
 |plain|held|keeps
inductive DM where
 |nil
 |op (i:Nat) (m:DO) (t:DM)
 |both (s t:DM)
def DM.bare:DM→DT
 | .nil=> .nil
 | .op i _ t=> .op i t.bare
 | .both s t=> .both s.bare t.bare
def DM.fits (T:Tys) (ops:Array Oper) (L:List Nat):DM→Bool
 | .nil=>true
 | .both s t=>s.fits T ops L&&t.fits T ops L
 | .op i m t=>t.fits T ops L&&match ops[i]? with
  |none=>false
  |some o=>match m with
   | .held=>zgc o.op&&L.contains i
   | .plain=> !(zgc o.op&&L.contains i)&&(zbW T o.op||za0 ops L i)
   | .keeps=> !(zgc o.op&&L.contains i)&& !(zbW T o.op||za0 ops L i)
def wpM (P:Program) (T:Tys) (all:List Oper) (Gs:za) (Hs:zb) (t:DM) (G:za) (l:Fr) (H:zb) (K:za→Fr→zb→Prop) (_:Tok all:= .mk) (_:Tok t:= .mk) (_:Tok K:= .mk):Prop:=
 match t with
 | .nil=>K G l H
 | .both s t=>wpM P T all Gs Hs s G l H K∧wpM P T all Gs Hs t G l H K
 | .op i .plain t=>opK (zcQ all i) fun o=>zd1 P T all o G l H fun G' l' H'=>wpM P T all Gs Hs t G' l' H' K
 | .op i .held t=>opK (zcQ all i) fun o=>zco all o.guard l (fun l'=>zgH T Gs Hs o.op l' fun v=>wpM P T all Gs Hs t G (put l' o.dst v) H K) (fun l'=>wpM P T all Gs Hs t G (put l' o.dst undef) H K)
 | .op i .keeps t=>opK (zcQ all i) fun o=>zd1 P T all o G l H fun G' l' H'=>zdn Hs H' (wpM P T all Gs Hs t G' l' H' K)
theorem zyM {P:Program} {T:Tys} {ops:Array Oper} {L:List Nat} {Gs:za} {Hs:zb} {K:za→Fr→zb→Prop}: ∀ (t:DM),t.fits T ops L=true→ ∀ (G:za) (l:Fr) (H:zb),
  wpM P T ops.toList Gs Hs t G l H K=wpT P T ops.toList L Gs Hs t.bare G l H K:=by
 intro t
 induction t with
 |nil=>intro _ G l H;rfl
 |both s t ihs iht=>
  intro h G l H
  simp only[DM.fits,Bool.and_eq_true] at h
  simp only[wpM,DM.bare,wpT,ihs h.1,iht h.2]
 |op i m t ih=>
  intro h G l H
  simp only[DM.fits,Bool.and_eq_true] at h
  have ih':=ih h.1
  have e:(fun G' l' H'=>wpM P T ops.toList Gs Hs t G' l' H' K)=(fun G' l' H'=>wpT P T ops.toList L Gs Hs t.bare G' l' H' K):=by
   funext G' l' H';exact ih' G' l' H'
  have h2:=h.2
  simp only[DM.bare,wpT,zcQ,opK,Array.getElem?_toList]
  cases ho:ops[i]? with
  |none=>rw[ho] at h2;cases h2
  |some o=>
   rw[ho] at h2
   cases m with
   |held=>
    simp only[] at h2
    simp only[wpM,zcQ,opK,Array.getElem?_toList,ho,h2,if_true]
    have e1: ∀l',(fun v=>wpM P T ops.toList Gs Hs t G (put l' o.dst v) H K)=(fun v=>wpT P T ops.toList L Gs Hs t.bare G (put l' o.dst v) H K):=fun l'=>by funext v;exact ih' _ _ _
    have e2:(fun l'=>wpM P T ops.toList Gs Hs t G (put l' o.dst undef) H K)=(fun l'=>wpT P T ops.toList L Gs Hs t.bare G (put l' o.dst undef) H K):=by funext l';exact ih' _ _ _
    have e3:(fun l'=>zgH T Gs Hs o.op l' fun v=>wpM P T ops.toList Gs Hs t G (put l' o.dst v) H K)=(fun l'=>zgH T Gs Hs o.op l' fun v=>wpT P T ops.toList L Gs Hs t.bare G (put l' o.dst v) H K):=by
     funext l';rw[e1 l']
    rw[e3,e2]
   |plain=>
    simp only[Bool.and_eq_true,Bool.not_eq_true'] at h2
    simp only[wpM,zcQ,opK,Array.getElem?_toList,ho,h2.1]
    have e5:(fun G' l' H'=>if (zbW T o.op||za0 ops.toList.toArray L i)=true then wpT P T ops.toList L Gs Hs t.bare G' l' H' K else zdn Hs H' (wpT P T ops.toList L Gs Hs t.bare G' l' H' K))=(fun G' l' H'=>wpT P T ops.toList L Gs Hs t.bare G' l' H' K):=by
     funext G' l' H'
     have h3:=h2.2
     rw[if_pos h3]
    rw[if_neg (by decide),e,←e5]
   |keeps=>
    simp only[Bool.and_eq_true,Bool.not_eq_true'] at h2
    simp only[wpM,zcQ,opK,Array.getElem?_toList,ho,h2.1,h2.2,Bool.false_eq_true,if_false]
    have e4:(fun G' l' H'=>zdn Hs H' (wpM P T ops.toList Gs Hs t G' l' H' K))=(fun G' l' H'=>zdn Hs H' (wpT P T ops.toList L Gs Hs t.bare G' l' H' K)):=by
     funext G' l' H';rw[ih' G' l' H']
    have e5:(fun G' l' H'=>if (zbW T o.op||za0 ops.toList.toArray L i)=true then wpT P T ops.toList L Gs Hs t.bare G' l' H' K else zdn Hs H' (wpT P T ops.toList L Gs Hs t.bare G' l' H' K))=(fun G' l' H'=>zdn Hs H' (wpT P T ops.toList L Gs Hs t.bare G' l' H' K)):=by
     funext G' l' H'
     have h3:=h2.2
     rw[if_neg (show ¬(zbW T o.op||za0 ops.toList.toArray L i)=true by rw[show ops.toList.toArray=ops from rfl,h3];decide)]
    rw[e4,←e5]
def zk7 (T:Tys) (sz:Nat) (ops:List Oper) (L:List Nat) (t:DM):Bool:=
 Region.noSelect ops.toArray&&zfj sz ops&&t.bare.ok T ops.toArray L false (Array.replicate ops.toArray.size false)&&decide (t.bare.depth≤ops.toArray.size)&&t.fits T ops.toArray L
theorem Tri.drawG {P:Program} {T:Tys} (hT:zR P T) (hm:P.follows .mixedOrders=true) {sz:Nat} (keep:List Nat) (id:Nat) {ops:List Oper} {G:za} {l:Fr} {H:zb} {K:zaI} (L:List Nat) (t:DM)
  (hok:zk7 T sz ops L t=true) (Hs:zb) (hsub: ∀ {E:Env} {w:World},HeapOk E G H w→HeapOk E G Hs w)
  (h:wpM P T ops G Hs t G l H fun G' l' H'=>K .normal G' (zD keep l') H'):Tri P sz (.region id ops.toArray true) G l H K:=by
 simp only[zk7,Bool.and_eq_true] at hok
 refine Tri.drawT hT hm keep id L t.bare ?_ Hs hsub ?_
 ·simp only[Bool.and_eq_true];exact hok.1
 ·have:=zyM (P:=P) (T:=T) (ops:=ops.toArray) (L:=L) (Gs:=G) (Hs:=Hs) (K:=fun G' l' H'=>K .normal G' (zD keep l') H') t hok.2 G l H
  rw[←this];exact h
theorem Tri.drawM {P:Program} {T:Tys} (hT:zR P T) (hm:P.follows .mixedOrders=true) {sz:Nat} (keep:List Nat) (id:Nat) {ops:List Oper} {G:za} {l:Fr} {H:zb} {K:zaI} (L:List Nat) (t:DM)
  (hok:zk7 T sz ops L t=true) (Hs:zb) (hsub:Hs.Sublist H)
  (h:wpM P T ops G Hs t G l H fun G' l' H'=>K .normal G' (zD keep l') H'):Tri P sz (.region id ops.toArray true) G l H K:=
 Tri.drawG hT hm keep id L t hok Hs (fun h=>h.sub hsub) h
def zcN (l:Fr):List Nat→zb→zb
 | [],_=>[]
 |t::ts,H=>match look l t with
  |some (.pointer (some ⟨b,_,none⟩))=>match zq H b with
   |some r=>(b,r)::zcN l ts (z8 H b)
   |none=>zcN l ts H
  |_=>zcN l ts H
theorem zrJ {H:zb} {b:Nat} {r:Res} (hf:zq H b=some r):z7 H b r=H:=by
 induction H with
 |nil=>rfl
 |cons p H ih=>
  obtain⟨k,s⟩:=p
  simp only[zq] at hf
  simp only[z7]
  split at hf
  ·rename_i hk;rw[if_pos hk];cases hf;rfl
  ·rename_i hk;rw[if_neg hk,ih hf]
theorem zfI (l:Fr): ∀ (ts:List Nat) (H:zb),∃r,H.Perm (zcN l ts H++r)
 | [],H=>⟨H,List.Perm.refl _⟩
 |t::ts,H=>by
  simp only[zcN]
  split
  ·rename_i b o hv
   split
   ·rename_i r hr
    obtain⟨rest,h2⟩:=zfI l ts (z8 H b)
    have h1:=zgB (r':=r) hr
    rw[zrJ hr] at h1
    exact⟨rest,h1.trans (h2.cons _)⟩
   ·exact zfI l ts H
  ·exact zfI l ts H
theorem Tri.drawH {P:Program} {T:Tys} (hT:zR P T) (hm:P.follows .mixedOrders=true) {sz:Nat} (keep:List Nat) (id:Nat) {ops:List Oper} {G:za} {l:Fr} {H:zb} {K:zaI} (L:List Nat) (t:DM)
  (hok:zk7 T sz ops L t=true) (ts:List Nat)
  (h:wpM P T ops G (zcN l ts H) t G l H fun G' l' H'=>K .normal G' (zD keep l') H'):Tri P sz (.region id ops.toArray true) G l H K:=
 Tri.drawG hT hm keep id L t hok (zcN l ts H) (fun h=>by
  obtain⟨r,hr⟩:=zfI l ts H
  exact(h.perm hr).sub (List.sublist_append_left _ _)) h
def zk8 (l:Fr) (ts:List Nat) (H:zb) (b:Nat):Option Res→zb
 |some r=>(b,r)::zcN l ts (z8 H b)
 |none=>zcN l ts H
def znB (l:Fr) (ts:List Nat) (H:zb):Option Value→zb
 |some (.pointer (some ⟨b,_,none⟩))=>zk8 l ts H b (zq H b)
 |_=>zcN l ts H
theorem zth (l:Fr) (H:zb):zcN l [] H=[]:=rfl
theorem zrK (l:Fr) (t:Nat) (ts:List Nat) (H:zb):zcN l (t::ts) H=znB l ts H (look l t):=by
 simp only[zcN,znB,zk8]
theorem zti (l:Fr) (ts:List Nat) (H:zb) (b o:Nat):znB l ts H (some (.pointer (some ⟨b,o,none⟩)))=zk8 l ts H b (zq H b):=rfl
theorem zrL (l:Fr) (ts:List Nat) (H:zb) (b:Nat) (r:Res):zk8 l ts H b (some r)=(b,r)::zcN l ts (z8 H b):=rfl
theorem zrM (l:Fr) (ts:List Nat) (H:zb) (b:Nat):zk8 l ts H b none=zcN l ts H:=rfl
theorem ztj (b:Nat):zq [] b=none:=rfl
section
variable (P:Program) (T:Tys) (all:List Oper) (Gs:za) (Hs:zb) (s t:DM) (i:Nat) (G:za) (l:Fr) (H:zb) (K:za→Fr→zb→Prop)
theorem zxB:wpM P T all Gs Hs .nil G l H K=K G l H:=rfl
theorem zvx:wpM P T all Gs Hs (.both s t) G l H K=(wpM P T all Gs Hs s G l H K∧wpM P T all Gs Hs t G l H K):=rfl
theorem ztk:wpM P T all Gs Hs (.op i .plain t) G l H K=opK (zcQ all i) fun o=>zd1 P T all o G l H fun G' l' H'=>wpM P T all Gs Hs t G' l' H' K:=rfl
def zrN (o:Oper) (all:List Oper) (l:Fr) (yes:Op→Option Nat→Fr→Prop) (no:Option Nat→Fr→Prop) (_:Tok all:= .mk) (_:Tok yes:= .mk) (_:Tok no:= .mk):Prop:=
 zco all o.guard l (fun l'=>yes o.op o.dst l') (fun l'=>no o.dst l')
theorem zvy:wpM P T all Gs Hs (.op i .held t) G l H K=opK (zcQ all i) fun o=>zrN o all l (fun op d l'=>zgH T Gs Hs op l' fun v=>wpM P T all Gs Hs t G (put l' d v) H K) (fun d l'=>wpM P T all Gs Hs t G (put l' d undef) H K):=rfl
theorem zpO (d:Option Nat) (op:Op) (ty:TypeId) (p:String) (af:Array Edge) (yes:Op→Option Nat→Fr→Prop) (no:Option Nat→Fr→Prop):zrN ⟨d,op,ty,p,af,none⟩ all l yes no=yes op d l:=rfl
theorem zpP (d:Option Nat) (op:Op) (ty:TypeId) (p:String) (af:Array Edge) (g:Nat×Bool) (yes:Op→Option Nat→Fr→Prop) (no:Option Nat→Fr→Prop):zrN ⟨d,op,ty,p,af,some g⟩ all l yes no=zco all (some g) l (fun l'=>yes op d l') (fun l'=>no d l'):=rfl
theorem ztl:wpM P T all Gs Hs (.op i .keeps t) G l H K=opK (zcQ all i) fun o=>zd1 P T all o G l H fun G' l' H'=>zdn Hs H' (wpM P T all Gs Hs t G' l' H' K):=rfl
theorem zrO (ty:TypeId) (x:Operand) (k:Value→Prop):zgH T Gs Hs (.load ty x) l k=zC (ev l x) fun v=>zew T Gs Hs ty v k:=rfl
theorem zvz (k:Prop):zdn [] H k=k:=by simp [zdn]
theorem ztm (k:Prop):zdn H H k=k:=by simp [zdn]
theorem ztn (p:Nat×Res) (k:Prop):zdn H (p::H) k=k:=by
 unfold zdn;simp only[eq_iff_iff,and_iff_right_iff_imp];exact fun _ q hq=>List.mem_cons_of_mem _ hq
end
theorem zvA (p:Nat×Res) (Hs H:zb) (k:Prop) (h:p∈H):zdn (p::Hs) H k=zdn Hs H k:=by
 unfold zdn;simp only[List.mem_cons,forall_eq_or_imp,h,true_and]
attribute [go_sem] zth zrK zti zrL zrM ztj zvA
attribute [go_sem] zxB zvx ztk zvy zpO zpP ztl zrO zvz ztm ztn
end Go.V
namespace Go.V
def Upd (G:za) (H:zb) (k:za→zb→Prop) (_:Tok k:= .mk):Prop:=
 ∀ ⦃E:Env⦄ (w:World),HeapOk E G H w→ ∃G' H',PLe G G'∧HeapOk E G' H' w∧k G' H'
theorem Upd.now {G:za} {H:zb} {k:za→zb→Prop} (h:k G H):Upd G H k:=fun E w hw=>⟨G,H,PLe.refl _,hw,h⟩
theorem Upd.trans {G:za} {H:zb} {k:za→zb→Prop} (h:Upd G H fun G' H'=>Upd G' H' k):Upd G H k:=fun E w hw=>by
 obtain⟨G',H',h1,h2,h3⟩:=h w hw
 obtain⟨G2,H2,g1,g2,g3⟩:=h3 w h2
 exact⟨G2,H2,h1.trans g1,g2,g3⟩
theorem Upd.mono {G:za} {H:zb} {k k':za→zb→Prop} (h:Upd G H k) (hk: ∀G' H',k G' H'→k' G' H'):Upd G H k':=fun E w hw=>by
 obtain⟨G',H',h1,h2,h3⟩:=h w hw
 exact⟨G',H',h1,h2,hk _ _ h3⟩
theorem Upd.sub {G:za} {H H':zb} {k:za→zb→Prop} (hs:H'.Sublist H) (h:k G H'):Upd G H k:=fun E w hw=>⟨G,H',PLe.refl _,hw.sub hs,h⟩
def zv (R:Value→za→zb→Prop) (v:Value) (G:za) (H:zb):Prop:=Upd G H fun G' H'=>R v G' H'
theorem Upd.fin {G:za} {H:zb} {R:Value→za→zb→Prop} {v v':Value} (h:R v G H) (e:v'=v):zv R v' G H:=Upd.now (e▸h)
theorem Upd.perm {G:za} {H H':zb} {k:za→zb→Prop} (hs:H.Perm H') (h:Upd G H' k):Upd G H k:=fun E w hw=>h w (hw.perm hs)
def zbX (G:za) (b off:Nat) (vs:List Value):Prop:= ∃cs e fr,G b=some (.cells cs e fr)∧off+vs.length≤cs.size∧(cs.toList.drop off).take vs.length=vs
theorem zbX.mono {G G':za} (hle:PLe G G') {b off:Nat} {vs:List Value} (h:zbX G b off vs):zbX G' b off vs:=by
 obtain⟨cs,e,fr,h1,h2,h3⟩:=h
 exact⟨cs,e,fr,hle _ _ h1,h2,h3⟩
theorem zbX.obj {G:za} {b off:Nat} {vs:List Value} (h:zbX G b off vs) {i:Nat} (hi:i<vs.length) (H:zb) (k:Value→Prop):zez G H b (G b) (off+i) k=k vs[i]:=by
 obtain⟨cs,e,fr,h1,h2,h3⟩:=h
 have:cs[off+i]? =some vs[i]:=by
  have e1:((cs.toList.drop off).take vs.length)[i]? =some vs[i]:=by rw[h3];exact List.getElem?_eq_getElem hi
  rw[List.getElem?_take_of_lt hi,List.getElem?_drop,Array.getElem?_toList] at e1
  exact e1
 rw[h1]
 simp only[zez,this];rfl
theorem zbX.obj0 {G:za} {b:Nat} {vs:List Value} (h:zbX G b 0 vs) {i:Nat} (hi:i<vs.length) (H:zb) (k:Value→Prop):zez G H b (G b) i k=k vs[i]:=by
 have:=h.obj hi H k
 rwa [Nat.zero_add] at this
theorem zbX.objs {G:za} {b off:Nat} {vs:List Value} (h:zbX G b off vs) {i n:Nat} (hi:i+n≤vs.length) (H:zb) (k:List Value→Prop):zgG G H b (G b) (off+i) n k=k ((vs.drop i).take n):=by
 obtain⟨cs,e,fr,h1,h2,h3⟩:=h
 rw[h1]
 simp only[zgG]
 rw[zq2 (by omega)]
 congr 1
 rw[←h3,List.drop_take,List.take_take,List.drop_drop]
 congr 1;omega
def ziI (G:za) (b:Nat) (o:Obj):za:=fun c=>if c=b then some o else G c
theorem zto (G:za) (b:Nat) (o:Obj):ziI G b o b=some o:=by simp [ziI]
theorem zjt {G:za} {b c:Nat} (h:c≠b) (o:Obj):ziI G b o c=G c:=by simp [ziI,h]
theorem Upd.share {G:za} {H:zb} {b:Nat} {xs sp:List Value} {e:TypeId} {k:za→zb→Prop}
  (h: ∀fr:Nat×Nat,Sep (ziI G b (.cells (xs++sp).toArray e fr)) (zm H)→k (ziI G b (.cells (xs++sp).toArray e fr)) H):Upd G ((b, .cells xs sp e)::H) k:=fun E w hw=>by
 obtain⟨o,ho,fr,rfl,_⟩:=hw.own _ (List.mem_cons_self ..)
 have hsep:=zaY.1 hw.sep
 simp only[zm,List.map_cons,List.mem_cons,forall_eq_or_imp,List.nodup_cons] at hsep
 have hs':Sep (ziI G b (.cells (xs++sp).toArray e fr)) (zm H):=by
  refine zaY.2 ⟨fun c hc=>?_,hsep.2.2⟩
  rw[zjt (fun e=>hsep.2.1 (by subst e;exact hc))]
  exact hsep.1.2 c hc
 refine⟨_,H,fun c o hc=>?_,⟨hw.env,fun c o hc=>?_,fun p hp=>hw.own p (List.mem_cons_of_mem _ hp),hs',hw.dfr.1,fun D hD=>⟨(hw.dfr.2 D hD).1,by have hDb:D≠b:=(fun e=>by rw[show w.heap[(b,Res.cells xs sp _).fst]? =w.heap[D]? by rw[e],(hw.dfr.2 _ hD).1] at ho;cases ho);rw[zjt hDb];exact(hw.dfr.2 D hD).2⟩⟩,h fr hs'⟩
 ·rw[zjt (fun e=>by subst e;rw[hsep.1.1] at hc;cases hc)];exact hc
 ·unfold ziI at hc
  split at hc
  ·rename_i e;subst e;cases hc;exact ho
  ·exact hw.pers c o hc
theorem FnT.upd {P:Program} {f:FuncId} {args:List Value} {G:za} {H:zb} {R:Value→za→zb→Prop} (h:FnT P f args G H fun v G' H'=>Upd G' H' fun G2 H2=>R v G2 H2):FnT P f args G H R:=
 fun _ w hw=>(h w hw).mono fun v w' ⟨G',H',h1,h2,h3⟩=>by
  obtain⟨G2,H2,g1,g2,g3⟩:=h3 w' h2
  exact⟨G2,H2,h1.trans g1,g2,g3⟩
theorem FnT.pre {P:Program} {f:FuncId} {args:List Value} {G:za} {H:zb} {R:Value→za→zb→Prop} (hc:Callee P f) (h:Upd G H fun G' H'=>FnT P f args G' H' R):FnT P f args G H R:=
 fun _ w hw=>by
  obtain⟨G1,H1,h1,h2,h3⟩:=h w hw
  exact(h3 w h2).mono fun _ _ ⟨G',H',g1,g2,g3⟩=>⟨G',H',h1.trans g1,g2,g3⟩
theorem Tri.upd {P:Program} {sz:Nat} {c:Code} {G:za} {l:Fr} {H:zb} {K:zaI} (h:Upd G H fun G' H'=>Tri P sz c G' l H' K):Tri P sz c G l H K:=fun E a w Q hs hk=>by
 obtain⟨G',H',h1,h2,h3⟩:=h w hs.heap
 exact h3 a w Q ⟨hs.size,hs.defers,hs.fr,h2⟩ fun E2 e G2 l2 H2 a2 w2 hE hle hs2 hk2=>hk E2 e G2 l2 H2 a2 w2 hE (h1.trans hle) hs2 hk2
theorem Tri.run {P:Program} {T:Tys} (hT:zR P T) {sz:Nat} (keep:List Nat) {c:Code} {G:za} {l:Fr} {H:zb} {K:zaI} (hlt:zaM sz c=true) (h:wpC P T sz keep c G l H K):Tri P sz c G l H K:=
 fun E a w Q hs hk=>zcY hT c hlt h a w Q hs hk
theorem Tri.cut {P:Program} {sz:Nat} {x y:Code} {G:za} {l:Fr} {H:zb} {K:zaI} (M:za→Fr→zb→Prop) (h1:Tri P sz x G l H (zdJ M K .mk .mk))
  (h2: ∀G' l' H',PLe G G'→Sep G' (zm H')→M G' l' H'→Tri P sz y G' l' H' K):Tri P sz (.seq x y) G l H K:=by
 intro E a w Q hs hk
 refine wp_seq (h1 a w _ hs fun E' e G' l' H' a' w' hE hle hs' hk'=>?_)
 cases e with
 |normal=>exact h2 G' l' H' hle hs'.heap.sep hk' a' w' Q hs' fun E2 e G2 l2 H2 a2 w2 hE2 hle2 hs2 hk2=>hk E2 e G2 l2 H2 a2 w2 (hE.trans hE2) (hle.trans hle2) hs2 hk2
 |exit id=>exact hk E' (.exit id) G' l' H' a' w' hE hle hs' hk'
 |ret=>exact hk E' .ret G' l' H' a' w' hE hle hs' hk'
theorem Tri.block {P:Program} {sz:Nat} {id:Nat} {c:Code} {G:za} {l:Fr} {H:zb} {K:zaI} (h:Tri P sz c G l H (zdV id K .mk)):Tri P sz (.block id c) G l H K:=by
 intro E a w Q hs hk
 refine wp_block (h a w _ hs fun E' e G' l' H' a' w' hE hle hs' hk'=>?_)
 cases e with
 |normal=>exact hk E' .normal G' l' H' a' w' hE hle hs' hk'
 |exit id'=>
  simp only[zdV] at hk'
  simp only[XE.to,Exit.inBlock]
  split
  ·rename_i e;rw[if_pos e] at hk';exact hk E' .normal G' l' H' a' w' hE hle hs' hk'
  ·rename_i e;rw[if_neg e] at hk';exact hk E' (.exit id') G' l' H' a' w' hE hle hs' hk'
 |ret=>exact hk E' .ret G' l' H' a' w' hE hle hs' hk'
theorem Tri.loopU {P:Program} {T:Tys} (hT:zR P T) {sz:Nat} (keep:List Nat) {c:Code} {G:za} {l:Fr} {H:zb} {K:zaI} (hlt:zaM sz c=true) (live:List Nat)
  (I:Nat→za→Fr→zb→Prop) (n:Nat) (h0:Upd G H fun G' H'=>I n G' (zD live l) H')
  (round: ∀n G' l' H',PLe G G'→Sep G' (zm H')→I n G' l' H'→wpC P T sz keep c G' l' H' (zdJ (fun G'' l'' H''=>Upd G'' H'' fun G0 H0=> ∃m,m<n∧I m G0 (zD live l'') H0) K .mk .mk)):
  Tri P sz (.loop c) G l H K:=by
 intro E a w Q hs hk
 obtain⟨G1,H1,g1,g2,g3⟩:=h0 w hs.heap
 refine zkb (fun n a w=> ∃E' G' l' H',Env.le E E'∧PLe G G'∧Sim E' sz G' l' H' a w∧I n G' l' H') ?_ n a w ⟨E,G1,_,H1,Env.le.refl E,g1,⟨hs.size,hs.defers,(hs.weak (zaP live l)).fr,g2⟩,g3⟩
 rintro n a w ⟨E',G',l',H',hE,hle,hs',hI⟩
 refine zcY hT c hlt (round n G' l' H' hle hs'.heap.sep hI) a w _ hs' fun E2 e G2 l2 H2 a2 w2 hE2 hle2 hs2 hk2=>?_
 cases e with
 |normal=>
  obtain⟨G3,H3,q1,q2,m,hm,hI2⟩:=hk2 w2 hs2.heap
  exact⟨m,hm,E2,G3,_,H3,hE.trans hE2,(hle.trans hle2).trans q1,⟨hs2.size,hs2.defers,(hs2.weak (zaP live l2)).fr,q2⟩,hI2⟩
 |exit id=>exact hk E2 (.exit id) G2 l2 H2 a2 w2 (hE.trans hE2) (hle.trans hle2) hs2 hk2
 |ret=>exact hk E2 .ret G2 l2 H2 a2 w2 (hE.trans hE2) (hle.trans hle2) hs2 hk2
theorem FnT.body {P:Program} {T:Tys} (hT:zR P T) {f:FuncId} {fn:Func} {c:Code} (keep:List Nat) (hf:P.funcs[f]? =some fn) (hb:fn.body=some c) (hn:(fn.name== "runtime.NumGoroutine")=false)
  {args:List Value} {G:za} {H:zb} {R:Value→za→zb→Prop} (hlt:zaM fn.ntmps c=true) (hargs:args.length≤fn.ntmps)
  (h:Sep G (zm H)→wpC P T fn.ntmps keep c G (zdW 0 args) H (zlZ T fn.results.toList (zv R) .mk)):FnT P f args G H R:=
 FnT.upd (FnT.of hT keep hf hb hn hlt hargs h)
structure Kept (w w':World):Prop where
 kept:w.keptBut w' (fun _=>False)
 frozen: ∀a:Addr,a.block<w.heap.size→w'.frozen? a=w.frozen? a
 old: ∀b:Nat,b<w.heap.size→w'.heap[b]? =w.heap[b]?
theorem zvB {P:Program} {f:FuncId} {args:List Value} {R:Value→Prop} (w:World) (hc:Callee P f)
  (h:FnT P f args (fun b=>w.heap[b]?) [] fun v _ _=>R v):Calls P f args.toArray w fun e w'=> ∃v,e= .returned v∧R v∧Kept w w':=by
 have hw:HeapOk ⟨w.os,w.output,[],[]⟩ (fun b=>w.heap[b]?) [] w:=⟨⟨rfl,rfl⟩,fun b o hb=>hb,fun p hp=>(by cases hp),trivial,by simp,by simp⟩
 refine(h.calls hc hw).mono ?_
 rintro e w' ⟨v,G',H',rfl,hle,hok,hr⟩
 have hold: ∀b:Nat,b<w.heap.size→w'.heap[b]? =w.heap[b]? :=fun b hb=>by
  rw[Array.getElem?_eq_getElem hb]
  exact hok.pers b _ (hle b _ (Array.getElem?_eq_getElem hb))
 refine⟨v,rfl,hr,⟨hok.env.1,hok.env.2,fun i hi=>?_⟩,fun a ha=>?_,hold⟩
 ·rw[hold i hi,Array.getElem?_eq_getElem hi]
  cases w.heap[i] <;> simp
 ·unfold World.frozen?
  rw[hold a.block ha]
end Go.V
namespace Go.V
open Go.ChangeShapes Go.WideShapes
variable {H:Type} {enc:TypeId×Value→H} {P:Program}
theorem zn9 {f:Func} {s:ChangeSpec} {apart fresh handsOn again:Bool} {W W':World} {args:Array Value} {v:Value} {ds gs:List (DataW H)} {before pa pv:List MemPlace}
  (hW:DataW.Whole enc P f.params.toList s.vars apart W args.toList ds gs before)
  (hres: ∀ (b:Nat) (sp:Nat→Bool) (hd:Bool),DataW.TrodAll enc P W' b sp hd f.resultTypes.toList (v.resultList f.resultTypes.size) (s.fn H (ds++gs)).results [])
  (hargs: ∀sp:Nat→Bool,(∀p∈before,sp p.block=true)→DataW.TrodAll enc P W' 0 sp true f.params.toList args.toList (s.fn H (ds++gs)).args pa)
  (hvars: ∀sp:Nat→Bool,(∀p∈before,sp p.block=true)→DataW.TrodVars enc P W' sp s.vars (s.fn H (ds++gs)).vars pv)
  (hps:before=pa++pv) (hk:Kept W W')
  (hok: ∀ (j:Nat) (t:TypeId) (r:Value),f.resultTypes[j]? =some t→(v.resultList f.resultTypes.size)[j]? =some r→Value.okWide P W' .any 0 t r):
  s.post enc P f apart fresh handsOn again W args v W':=by
 have hlt:=hW.lt
 have hold: ∀p∈before,(fun b=>decide (b<W.heap.size)) p.block=true:=fun p hp=>by simpa using hlt p hp
 refine⟨ds,gs,before,[],pa,pv,hW,hres _ _ _,hargs _ hold,hvars _ hold,World.keptBut_mono (fun p hp=>False.elim hp) hk.kept,fun _=>?_⟩
 obtain⟨_,_,_,_,_,hz,hn⟩:=hW
 refine⟨hok,_,_,([]++pa)++pv,⟨[]++pa,pv,trodAll_append (hargs _ (fun _ _=>rfl)) (hres _ _ _),hvars _ (fun _ _=>rfl),rfl,?_,?_⟩,?_⟩
 ·intro b off hp
  have hp':MemPlace.cell b off∈before:=by rw[hps];simpa using hp
  rw[hk.frozen _ (hlt _ hp')]
  exact hz b off hp'
 ·intro ha
  have:=hn ha
  rw[hps] at this
  simpa using this
 ·intro p hp _
  rw[hps]
  simpa using hp
end Go.V
