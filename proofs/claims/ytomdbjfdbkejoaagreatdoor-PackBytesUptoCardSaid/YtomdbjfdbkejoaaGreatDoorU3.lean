/- A part of the proof, joined of several texts: the verification layer, contracts of functions, plain law. -/
import Derived.Test.YtomdbjfdbkejoaaGreatDoorU2
import Derived.RangeFuncIn
import Derived.RangeFuncRecord
import Derived.RangeFuncLeaves
import Derived.RangeFuncSeq
import Derived.TacticsIn
import Derived.OrdersHeld
import Derived.ProofKit
import Derived.RowKit3
import Derived.ChangeSame
set_option maxHeartbeats 64000000
set_option linter.unusedSimpArgs false
set_option linter.unusedVariables false
set_option linter.unusedSectionVars false
namespace Go.V
variable {E:Env}
def FF (ro:Option Nat):Fence:={Fence.wide with round:=ro}
def zbZ (P:Program) (lr:Nat) (args:List Value) (G:zb) (H:za) (R:Value→zb→za→Prop) (_:Tok R:= .mk):Prop:=
 ∀ ⦃E:Env⦄ w,HeapOk E G H w→YieldAt Fence.wide 0 P lr args.toArray w fun e w'=> ∃v G' H',e= .returned v∧PLe G G'∧HeapOk E G' H' w'∧R v G' H'
def zgv (P:Program) (fv:Value) (vs:List Value) (G:zb) (H:za) (k:Value→zb→za→Prop) (_:Tok k:= .mk):Prop:=
 match fv with
 | .func (.yield lr) first _=>first= #[]∧zbZ P lr vs G H k
 |fv=>zje P fv vs G H k
def zav (P:Program) (T:Tys) (op:Op) (G:zb) (l:Fr) (H:za) (k:Value→zb→za→Prop) (_:Tok k:= .mk):Prop:=
 match op with
 | .call c=>match c.callee with
  | .value f=>zC (ev l f) fun fv=>evK l c.args.toList fun vs=>zgv P fv vs G H k
  |_=>zaq P T (.call c) G l H k
 |op=>zaq P T op G l H k
theorem zsA {P:Program} {ro:Option Nat} {row:String} {args:Array Value} {w:World} {R:Value→World→Prop} (h:Rows P row args w R):RowsIn (FF ro) 0 P row args w R:=
 fun c cs _=>let ⟨v,w',r,s⟩:=h c cs;⟨v,w',r,stepsIn_wide.2 s⟩
theorem zqU {P:Program} {ro:Option Nat} {f:FuncId} {args:Array Value} {w:World} {R:Ending→World→Prop} (h:Calls P f args w R):CallsIn (FF ro) 0 P f args w R:=
 ⟨trivial,fun cs _=>let ⟨e,w',fr,r,s,x⟩:=h cs;⟨e,w',fr,r,comesIn_wide.2 s,x⟩⟩
theorem zqV {P:Program} {ro:Option Nat} {o:Oper} (hd: ∀c,o.op≠ .defer c) {a:Act} {w:World} {next:Act→World→Prop} {Q:Exit→Act→World→Prop} (h:o.wp P a w next Q):o.wpIn (FF ro) 0 P a w next Q:=by
 refine⟨fun _ _=>trivial,?_⟩
 rw[show(FF ro).round=ro from rfl,Oper.semAt_eq ro a.eval o hd]
 unfold Oper.wp at h
 revert h
 generalize (execOp a.eval o).run P w=r
 intro h
 cases r with
 |ok x w'=>
  cases x with
  |value v=>exact h
  |skip=>exact h
  |defer d=>exact h
  |enter f args=>exact⟨fun _=>by simp_all [FF,Fence.wide],zqU h⟩
  |row row args=>exact⟨fun _=>by simp_all [FF,Fence.wide],zsA h⟩
  |_=>exact h.elim
 |halt x w'=>
  cases x <;> first|exact h|exact h.elim
theorem zpc {P:Program} {T:Tys} (hT:zT P T) {ro:Option Nat} {o:Oper} {sz:Nat} {G:zb} {l:Fr} {H:za} {a:Act} {w:World} {k:Value→zb→za→Prop}
  {next:Act→World→Prop} {Q:Exit→Act→World→Prop} (h:zav P T o.op G l H k) (hs:Sim E sz G l H a w)
  (hk: ∀v G' H' w',PLe G G'→HeapOk E G' H' w'→k v G' H'→next (a.put o.dst v) w'):o.wpIn (FF ro) 0 P a w next Q:=by
 have old:zaq P T o.op G l H k→o.wpIn (FF ro) 0 P a w next Q:=fun h=>zqV (fun c hc=>by rw[hc] at h;exact h.elim) (zjE hT h hs hk)
 obtain⟨dst,op,ty,pos,after,guard⟩:=o
 cases op with
 |call c=>
  obtain⟨callee,args,ats⟩:=c
  cases callee with
  |value f=>
   simp only[zav] at h
   have h1:=zel hs (zx hs h)
   unfold zgv at h1
   split at h1
   ·rename_i fv lr first caps hf
    obtain⟨rfl,h1⟩:=h1
    obtain⟨fn,tmps,as,body,hr,hround⟩:=h1 w hs.heap
    refine⟨fun _ _=>trivial,?_⟩
    rw[show(FF ro).round=ro from rfl,Oper.semAt_eq ro a.eval _ (fun c hc=>by cases hc)]
    have he:execOp a.eval ⟨dst, .call {callee:= .value f,args:=args,argTypes:=ats},ty,pos,after,guard⟩=Instr.yield lr (args.map a.eval):=by
     simp only[execOp,resolve,hf,Deferred.ofValue,pure_bind,invoke]
     simp
    have hargs:(args.toList.map a.eval).toArray=args.map a.eval:=by apply Array.ext';simp
    rw[hargs] at hr
    rw[he,hr]
    refine⟨fun hx=>by simp [FF,Fence.wide] at hx,?_⟩
    have hround':RoundIn (FF ro) 0 P lr fn tmps as body w _:=hround
    refine⟨hround'.1,fun c cs hroom=>?_⟩
    obtain⟨e,w',⟨v,G',H',rfl,h2,h3,h4⟩,hcomes⟩:=hround'.2 c cs hroom
    exact⟨.returned v,w',hk v G' H' w' h2 h3 h4,hcomes⟩
   ·rename_i hny
    have hne: ∀vs,zgv P (a.eval f) vs G H k=zje P (a.eval f) vs G H k:=fun vs=>by
     unfold zgv
     split
     ·rename_i e;exact(hny _ _ _ e).elim
     ·rfl
    refine old ?_
    simp only[zaq]
    cases hev:ev l f with
    |none=>rw[hev] at h;exact h.elim
    |some v=>
     have e:=hs.ev hev
     rw[hev] at h
     simp only[zC] at h⊢
     rw[e] at hne
     rw[←funext hne]
     exact h
  |builtin b=>exact old h
  |invoke r m=>exact old h
 |_=>exact old h
def gK (v:Value) (t:Nat) (want:Bool) (l:Fr) (yes no:Fr→Prop) (_:Tok yes:= .mk) (_:Tok no:= .mk):Prop:=
 match v with
 | .bool b=>Br (b==want) (yes ((t, .bool want)::l)) (no ((t, .bool (!want))::l))
 | .tuple _=>no l
 |_=>False
def zfy (ops:List Oper) (j:Nat):Option (Option Nat):=(ops[j]?).map (·.dst)
def gv (v:Value) (want:Bool):Bool:=match v with| .bool b=>b==want|_=>false
def zch (all:List Oper) (g:Option (Nat×Bool)) (l:Fr) (yes no:Fr→Prop) (_:Tok yes:= .mk) (_:Tok no:= .mk):Prop:=
 match g with
 |none=>yes l
 |some (j,want)=>match (zfy all j).join with
  |none=>False
  |some t=>zC (look l t) fun v=>gK v t want l yes no
def wpO (P:Program) (T:Tys) (all:List Oper) (os:List Oper) (G:zb) (l:Fr) (H:za) (K:zb→Fr→za→Prop) (_:Tok all:= .mk) (_:Tok os:= .mk) (_:Tok K:= .mk):Prop:=
 match os with
 | []=>K G l H
 |o::rest=>zch all o.guard l
   (fun l'=>zav P T o.op G l' H fun v G' H'=>wpO P T all rest G' (put l' o.dst v) H' K)
   (fun l'=>wpO P T all rest G (put l' o.dst undef) H K)
def zhd (sz:Nat) (ops:List Oper):Bool:=ops.all fun o=>match o.dst with|some d=>decide (d<sz)|none=>true
theorem Sim.know {sz:Nat} {G:zb} {l:Fr} {H:za} {a:Act} {w:World} (h:Sim E sz G l H a w) {t:Nat} {v:Value} (hv:a.tmps.getD t undef=v):Sim E sz G ((t,v)::l) H a w:=
 ⟨h.size,h.defers,fun u x hx=>by
  simp only[look] at hx
  split at hx
  ·rename_i e;subst e;cases hx;exact hv
  ·exact h.fr u x hx,h.heap⟩
theorem ziz {P:Program} {T:Tys} (hT:zT P T) {ro:Option Nat} {ops:Array Oper} {sz:Nat} {Q:Exit→Act→World→Prop}: ∀ (rest:List Oper) {G:zb} {l:Fr} {H:za} {a:Act} {w:World} {K:zb→Fr→za→Prop},
  (∀o∈rest,∀d,o.dst=some d→d<sz)→wpO P T ops.toList rest G l H K→Sim E sz G l H a w→
  (∀G' l' H' a' w',PLe G G'→Sim E sz G' l' H' a' w'→K G' l' H'→Q .normal a' w')→wpListIn (FF ro) 0 P ops Q rest a w
 | [],G,l,H,a,w,K,_,h,hs,hk=>hk G l H a w (PLe.refl _) hs h
 |o::rest,G,l,H,a,w,K,hd,h,hs,hk=>by
  have hd': ∀o∈rest,∀d,o.dst=some d→d<sz:=fun o ho=>hd o (List.mem_cons_of_mem _ ho)
  have hdo:=hd o (List.mem_cons_self ..)
  simp only[wpO] at h
  unfold wpListIn
  have yes: ∀l',Sim E sz G l' H a w→(zav P T o.op G l' H fun v G' H'=>wpO P T ops.toList rest G' (put l' o.dst v) H' K)→o.wpIn (FF ro) 0 P a w (wpListIn (FF ro) 0 P ops Q rest) Q:=fun l' hs' h'=>
   zpc hT h' hs' fun v G' H' w' hle hw' hwp=>ziz hT rest hd' hwp (hs'.put hw' hdo) fun G2 l2 H2 a2 w2 hle2 hs2 hk2=>hk G2 l2 H2 a2 w2 (hle.trans hle2) hs2 hk2
  have no: ∀l',Sim E sz G l' H a w→wpO P T ops.toList rest G (put l' o.dst undef) H K→(∀f,o.about P w a.eval=some f→(FF ro).fn f)∧wpListIn (FF ro) 0 P ops Q rest (a.put o.dst undef) w:=fun l' hs' h'=>⟨fun _ _=>trivial,
   ziz hT rest hd' h' (hs'.put hs'.heap hdo) hk⟩
  unfold zch at h
  split at h
  ·rename_i hg
   rw[if_pos (by simp [Region.wanted,hg])]
   exact(yes l hs h)
  ·rename_i j want hg
   split at h
   ·exact h.elim
   ·rename_i t ht
    have hdst:(ops[j]?).bind (·.dst)=some t:=by
     simp only[zfy,Array.getElem?_toList] at ht
     cases ho:ops[j]? with
     |none=>rw[ho] at ht;simp at ht
     |some o'=>rw[ho] at ht;simpa using ht
    unfold zC at h
    split at h
    ·rename_i v hv
     have htv:=hs.fr t v hv
     have hw:Region.wanted o (yielded ops a.tmps)=gv v want:=by
      unfold Region.wanted yielded
      simp only[hg,hdst,Option.bind_some]
      rw[Array.getD_eq_getD_getElem?] at htv
      cases hh:a.tmps[t]? with
      |none=>
       rw[hh] at htv
       simp [undef] at htv
       subst htv
       rfl
      |some x=>
       rw[hh] at htv
       simp at htv
       subst htv
       cases x <;> simp [gv]
     rw[hw]
     cases v <;> simp only[gK] at h <;> try exact h.elim
     case bool b=>
      rcases Bool.eq_false_or_eq_true (b==want) with hb|hb
      ·rw[if_pos (show gv (.bool b) want=true from hb)]
       rw[hb,zi6] at h
       have e:b=want:=by simpa using hb
       subst e
       exact(yes _ (hs.know htv) h)
      ·rw[if_neg (show ¬gv (.bool b) want=true by rw[show gv (.bool b) want=false from hb];simp)]
       rw[hb,zhp] at h
       have e:b= !want:=by cases b <;> cases want <;> simp_all
       subst e
       exact no _ (hs.know htv) h
     case tuple vs=>
      rw[if_neg (show ¬gv (.tuple vs) want=true by simp [gv])]
      exact no _ hs h
    ·exact h.elim
inductive XE where
 |normal|exit (id:Nat)|ret
def XE.to:XE→Exit
 | .normal=> .normal
 | .exit id=> .exit id
 | .ret=> .ret
abbrev zaO:=XE→zb→Fr→za→Prop
def Env.le (E E':Env):Prop:=E'.os=E.os∧E'.out=E.out∧E'.outer=E.outer
theorem Env.le.refl (E:Env):Env.le E E:=⟨rfl,rfl,rfl⟩
theorem Env.le.trans {A B C:Env} (h:Env.le A B) (h':Env.le B C):Env.le A C:=⟨h'.1.trans h.1,h'.2.1.trans h.2.1,h'.2.2.trans h.2.2⟩
def Tri (P:Program) (sz:Nat) (c:Code) (G:zb) (l:Fr) (H:za) (K:zaO) (_:Tok c:= .mk) (_:Tok K:= .mk):Prop:=
 ∀ ⦃E:Env⦄ (a:Act) (w:World) (Q:Exit→Act→World→Prop),Sim E sz G l H a w→
  (∀E' e G' l' H' a' w',Env.le E E'→PLe G G'→Sim E' sz G' l' H' a' w'→K e G' l' H'→Q e.to a' w')→c.wp P Q a w
def zem (k:zb→Fr→za→Prop) (K:zaO) (_:Tok k) (_:Tok K) (e:XE) (G:zb) (l:Fr) (H:za):Prop:=match e with| .normal=>k G l H|e=>K e G l H
def zdJ (id:Nat) (K:zaO) (_:Tok K) (e:XE) (G:zb) (l:Fr) (H:za):Prop:=match e with| .exit id'=>if id'=id then K .normal G l H else K (.exit id') G l H|e=>K e G l H
def zhE (v:Value) (x y:Prop) (_:Tok x:= .mk) (_:Tok y:= .mk):Prop:=match v with| .bool b=>Br b x y|_=>False
def wpC (P:Program) (T:Tys) (sz:Nat) (keep:List Nat) (c:Code) (G:zb) (l:Fr) (H:za) (K:zaO) (_:Tok c:= .mk) (_:Tok K:= .mk):Prop:=
 match c with
 | .skip=>K .normal G l H
 | .region id ops true=>Tri P sz (.region id ops true) G l H K
 | .region id ops false=>wpO P T ops.toList ops.toList G l H fun G' l' H'=>K .normal G' (zy keep l') H'
 | .seq x y=>wpC P T sz keep x G l H (zem (fun G' l' H'=>wpC P T sz keep y G' l' H' K) K .mk .mk)
 | .cond c x y=>zC (ev l c) fun v=>zhE v (wpC P T sz keep x G l H K) (wpC P T sz keep y G l H K)
 | .block id c=>wpC P T sz keep c G l H (zdJ id K .mk)
 | .exit id=>K (.exit id) G l H
 | .label _=>K .normal G l H
 | .ret=>K .ret G l H
 | .loop c=>Tri P sz (.loop c) G l H K
 | .scope c=>wpC P T sz keep c G l H K
 | .rangeFunc f ps as c=>Tri P sz (.rangeFunc f ps as c) G l H K
 | .goto _=>False
 | .refuse _=>False
def zaP (sz:Nat):Code→Bool
 | .region _ ops _=>zhd sz ops.toList
 | .seq x y=>zaP sz x&&zaP sz y
 | .cond _ x y=>zaP sz x&&zaP sz y
 | .block _ c=>zaP sz c
 | .loop c=>zaP sz c
 | .scope c=>zaP sz c
 | .rangeFunc _ _ x y=>zaP sz x&&zaP sz y
 |_=>true
theorem zgU {sz:Nat} {ops:List Oper} (h:zhd sz ops=true): ∀o∈ops,∀d,o.dst=some d→d<sz:=by
 intro o ho d hd
 have:=List.all_eq_true.1 h o ho
 simp only[hd,decide_eq_true_eq] at this
 exact this
def zfk:Code→Bool
 | .region _ _ draw=> !draw
 | .seq x y=>zfk x&&zfk y
 | .cond _ x y=>zfk x&&zfk y
 | .block _ c=>zfk c
 | .loop _=>false
 | .scope _=>false
 | .rangeFunc .. =>false
 |_=>true
def ziA (ro:Option Nat) (P:Program) (sz:Nat) (c:Code) (G:zb) (l:Fr) (H:za) (K:zaO):Prop:=
 ∀ ⦃E:Env⦄ (a:Act) (w:World) (Q:Exit→Act→World→Prop),Sim E sz G l H a w→
  (∀E' e G' l' H' a' w',Env.le E E'→(ro.isSome=true→E'=E)→PLe G G'→Sim E' sz G' l' H' a' w'→K e G' l' H'→Q e.to a' w')→c.wpIn (FF ro) 0 P Q a w
theorem ziA.none {P:Program} {sz:Nat} {c:Code} {G:zb} {l:Fr} {H:za} {K:zaO}:ziA none P sz c G l H K↔Tri P sz c G l H K:=
 ⟨fun h E a w Q hs hk=>wpIn_wide.1 (h a w Q hs fun E' e G' l' H' a' w' hE _=>hk E' e G' l' H' a' w' hE),fun h E a w Q hs hk=>wpIn_wide.2 (h a w Q hs fun E' e G' l' H' a' w' hE=>hk E' e G' l' H' a' w' hE (fun h=>by cases h))⟩
theorem zhF {P:Program} {T:Tys} (hT:zT P T) {ro:Option Nat} {sz:Nat} {keep:List Nat}: ∀ (c:Code) {G:zb} {l:Fr} {H:za} {K:zaO},(ro.isSome=true→zfk c=true)→zaP sz c=true→wpC P T sz keep c G l H K→ziA ro P sz c G l H K:=by
 have old: ∀ {c:Code} {G:zb} {l:Fr} {H:za} {K:zaO},(ro.isSome=true→False)→Tri P sz c G l H K→ziA ro P sz c G l H K:=fun hro h=>by
  cases ro with
  |none=>exact ziA.none.2 h
  |some r=>exact(hro rfl).elim
 intro c
 induction c with
 |skip=>intro G l H K _ _ h E a w Q hs hk;exact wpIn_skip (hk E .normal G l H a w (Env.le.refl E) (fun _=>rfl) (PLe.refl _) hs h)
 |region id ops draw=>
  intro G l H K hc hlt h
  cases draw with
  |true=>exact old (fun hr=>by have:=hc hr;cases this) h
  |false=>
   simp only[wpC] at h
   intro E a w Q hs hk
   refine wpIn_region_list (ziz hT ops.toList (zgU hlt) h hs fun G' l' H' a' w' hle hs' hk'=>?_)
   exact hk E .normal G' _ H' a' w' (Env.le.refl E) (fun _=>rfl) hle (hs'.weak (zaX keep l')) hk'
 |seq x y ihx ihy=>
  intro G l H K hc hlt h E a w Q hs hk
  simp only[zaP,zfk,Bool.and_eq_true] at hlt hc
  refine wpIn_seq (ihx (fun h=>(hc h).1) hlt.1 h a w _ hs fun E' e G' l' H' a' w' hE hro hle hs' hk'=>?_)
  cases e with
  |normal=>exact ihy (fun h=>(hc h).2) hlt.2 hk' a' w' Q hs' fun E2 e G2 l2 H2 a2 w2 hE2 hro2 hle2 hs2 hk2=>hk E2 e G2 l2 H2 a2 w2 (hE.trans hE2) (fun h=>(hro2 h).trans (hro h)) (hle.trans hle2) hs2 hk2
  |exit id=>exact hk E' (.exit id) G' l' H' a' w' hE hro hle hs' hk'
  |ret=>exact hk E' .ret G' l' H' a' w' hE hro hle hs' hk'
 |cond c x y ihx ihy=>
  intro G l H K hc hlt h E a w Q hs hk
  simp only[zaP,zfk,Bool.and_eq_true] at hlt hc
  simp only[wpC] at h
  have h1:=zx hs h
  unfold zhE at h1
  split at h1
  ·rename_i b hb
   exact wpIn_cond_split hb (fun e=>ihx (fun h=>(hc h).1) hlt.1 (h1.1 e) a w Q hs hk) (fun e=>ihy (fun h=>(hc h).2) hlt.2 (h1.2 e) a w Q hs hk)
  ·exact h1.elim
 |block id c ih=>
  intro G l H K hc hlt h E a w Q hs hk
  refine wpIn_block (ih hc hlt h a w _ hs fun E' e G' l' H' a' w' hE hro hle hs' hk'=>?_)
  cases e with
  |normal=>exact hk E' .normal G' l' H' a' w' hE hro hle hs' hk'
  |exit id'=>
   simp only[zdJ] at hk'
   simp only[XE.to,Exit.inBlock]
   split
   ·rename_i e;rw[if_pos e] at hk';exact hk E' .normal G' l' H' a' w' hE hro hle hs' hk'
   ·rename_i e;rw[if_neg e] at hk';exact hk E' (.exit id') G' l' H' a' w' hE hro hle hs' hk'
  |ret=>exact hk E' .ret G' l' H' a' w' hE hro hle hs' hk'
 |loop c ih=>intro G l H K hc hlt h;exact old (fun hr=>by have:=hc hr;cases this) h
 |rangeFunc f ps x y ihx ihy=>intro G l H K hc hlt h;exact old (fun hr=>by have:=hc hr;cases this) h
 |exit id=>intro G l H K _ _ h E a w Q hs hk;exact wpIn_exit (hk E (.exit id) G l H a w (Env.le.refl E) (fun _=>rfl) (PLe.refl _) hs h)
 |scope c ih=>
  intro G l H K hc hlt h
  cases ro with
  |some r=>have:=hc rfl;cases this
  |none=>
   refine ziA.none.2 fun E a w Q hs hk=>wp_scope_straight (ziA.none.1 (ih (fun h=>by cases h) hlt h) a w _ hs fun E' e G' l' H' a' w' hE hle hs' hk'=>?_)
   cases e <;> exact hk E' _ G' l' H' a' w' hE hle hs' hk'
 |label n=>intro G l H K _ _ h E a w Q hs hk;exact wpIn_label (hk E .normal G l H a w (Env.le.refl E) (fun _=>rfl) (PLe.refl _) hs h)
 |goto n=>intro G l H K _ _ h;exact h.elim
 |ret=>intro G l H K _ _ h E a w Q hs hk;exact wpIn_ret (hk E .ret G l H a w (Env.le.refl E) (fun _=>rfl) (PLe.refl _) hs h)
 |refuse why=>intro G l H K _ _ h;exact h.elim
theorem zdc {P:Program} {T:Tys} (hT:zT P T) {sz:Nat} {keep:List Nat} (c:Code) {G:zb} {l:Fr} {H:za} {K:zaO} (hlt:zaP sz c=true) (h:wpC P T sz keep c G l H K):Tri P sz c G l H K:=
 ziA.none.1 (zhF hT c (fun h=>by cases h) hlt h)
theorem znD {P:Program} {c:Code} {Q:Exit→Act→World→Prop} (I:Nat→Act→World→Prop)
  (round: ∀n a w,I n a w→c.wp P (Exit.then (fun a' w'=> ∃m,m<n∧I m a' w') Q) a w): ∀n a w,I n a w→(Code.loop c).wp P Q a w:=by
 intro n a w h0 b k cs
 have key: ∀n a w,I n a w→ ∃e a' w',Q e a' w'∧Arrives P (lone (b.at a (.code c:: .inLoop c::k)) cs w) b k cs e a' w':=by
  intro n
  induction n using Nat.strongRecOn with
  |_ n ih=>
   intro a w hI
   obtain⟨e,a₁,w₁,hq,harr⟩:=round n a w hI b (.inLoop c::k) cs
   cases e with
   |normal=>
    obtain⟨m,hlt,hI₁⟩:=hq
    obtain⟨e₂,a₂,w₂,hq₂,harr₂⟩:=ih m hlt a₁ w₁ hI₁
    exact⟨e₂,a₂,w₂,hq₂, .of_steps (Steps.trans harr (.one step_inLoop)) harr₂⟩
   |exit id=>exact⟨_,a₁,w₁,hq, .pass (x:= .inLoop c) rfl (fun _ _=> .inl (by simp)) harr⟩
   |goto l=>exact⟨_,a₁,w₁,hq, .pass (x:= .inLoop c) rfl (fun _ _=> .inl (by simp)) harr⟩
   |ret=>exact⟨_,a₁,w₁,hq, .pass (x:= .inLoop c) rfl (fun _ _=> .inl (by simp)) harr⟩
   |panic ch=>exact⟨_,a₁,w₁,hq, .pass (x:= .inLoop c) rfl (fun _ _=> .inl (by simp)) harr⟩
   |outgrown=>exact⟨_,a₁,w₁,hq, .pass (x:= .inLoop c) rfl (fun _ _=> .inl (by simp)) harr⟩
 obtain⟨e,a',w',hq,harr⟩:=key n a w h0
 exact⟨e,a',w',hq, .of_steps (.one step_loop) harr⟩
def zdK:Nat→List Value→Fr
 |_,[]=>[]
 |i,v::vs=>(i,v)::zdK (i+1) vs
theorem zpd (vs:List Value): ∀ (i t:Nat) (v:Value),look (zdK i vs) t=some v→i≤t∧vs[t - i]? =some v:=by
 induction vs with
 |nil=>intro i t v h;simp [zdK,look] at h
 |cons u vs ih=>
  intro i t v h
  simp only[zdK,look] at h
  split at h
  ·rename_i e;subst e;simpa using h
  ·rename_i e
   obtain⟨h1,h2⟩:=ih (i+1) t v h
   refine⟨by omega,?_⟩
   rw[show t - i=(t - (i+1))+1 by omega]
   simpa using h2
def zdW (T:Tys) (G:zb) (H:za) (l:Fr) (rs:List ResultVar) (k:List Value→Prop) (_:Tok k:= .mk):Prop:=
 match rs with
 | []=>k []
 | .tmp t::rs=>zC (look l t) fun v=>zdW T G H l rs fun vs=>k (v::vs)
 | .cell a t::rs=>zC (look l a) fun p=>zej T G H t p fun v=>zdW T G H l rs fun vs=>k (v::vs)
theorem zuI (T:Tys) (G:zb) (H:za) (l:Fr) (k:List Value→Prop):zdW T G H l [] k=k []:=rfl
theorem zsB (T:Tys) (G:zb) (H:za) (l:Fr) (t:Nat) (rs:List ResultVar) (k:List Value→Prop):zdW T G H l (.tmp t::rs) k=zC (look l t) fun v=>zdW T G H l rs fun vs=>k (v::vs):=rfl
theorem zsC (T:Tys) (G:zb) (H:za) (l:Fr) (a t:Nat) (rs:List ResultVar) (k:List Value→Prop):zdW T G H l (.cell a t::rs) k=zC (look l a) fun p=>zej T G H t p fun v=>zdW T G H l rs fun vs=>k (v::vs):=rfl
def zeD (vs:List Value):Value:=match vs with| [v]=>v|vs=> .tuple vs.toArray
def zca (tmps:Array Value):ResultVar→Sem Value
 | .tmp t=>pure (tmps.getD t undef)
 | .cell a t=>do loadVar t (←asAddr (tmps.getD a undef))
theorem zjV {P:Program} {T:Tys} (hT:zT P T) {sz:Nat} {G:zb} {l:Fr} {H:za} {a:Act} {w:World} (h:Sim E sz G l H a w): ∀ (rs:List ResultVar) {k:List Value→Prop},zdW T G H l rs k→
  ∃vs,k vs∧ ∀ {E':Env} (W:World),HeapOk E' G H W→(rs.mapM (zca a.tmps):Sem (List Value)).run P W= .ok vs W
 | [],k,hk=>⟨[],hk,fun _ _=>rfl⟩
 | .tmp t::rs,k,hk=>by
  unfold zdW zC at hk
  split at hk
  ·rename_i v hv
   obtain⟨vs,h1,h2⟩:=zjV hT h rs hk
   refine⟨v::vs,h1,fun W hW=>?_⟩
   rw[List.mapM_cons,zca,h.fr t v hv]
   simp only[Sem.run_bind,Sem.run_pure,Result.andThen_ok,h2 W hW]
  ·exact hk.elim
 | .cell c t::rs,k,hk=>by
  unfold zdW zC at hk
  split at hk
  ·rename_i p hp
   have hkk:=hk
   obtain⟨x,hx,hrun⟩:=zhn (P:=P) (G:=G) (Instr.loadAt t p) (zfQ (q:=true) (P:=P) hT (H:=H) (kk:=fun v _=>zdW T G H l rs fun vs=>k (v::vs)) hk)
   obtain⟨vs,h1,h2⟩:=zjV hT h rs hx
   refine⟨x::vs,h1,fun W hW=>?_⟩
   have hr:=hrun W hW
   unfold zej at hkk
   split at hkk
   ·rw[List.mapM_cons,zca,h.fr c _ hp]
    simp only[Instr.loadAt,Instr.sureAddr,pure_bind] at hr
    simp only[asAddr,pure_bind,Sem.run_bind,Sem.run_pure,Result.andThen_ok,hr,h2 W hW]
   ·exact hkk.elim
  ·exact hk.elim
def zlv (T:Tys) (rs:List ResultVar) (R:Value→zb→za→Prop) (_:Tok R) (e:XE) (G:zb) (l:Fr) (H:za):Prop:=match e with
 | .normal| .ret=>zdW T G H l rs fun vs=>R (zeD vs) G H
 | .exit _=>False
theorem FnT.ofT {P:Program} {T:Tys} (hT:zT P T) {f:FuncId} {fn:Func} {c:Code} (hf:P.funcs[f]? =some fn) (hb:fn.body=some c) (hn:(fn.name== "runtime.NumGoroutine")=false)
  {args:List Value} {G:zb} {H:za} {R:Value→zb→za→Prop} (hargs:args.length≤fn.ntmps)
  (h:Sep G (zm H)→Tri P fn.ntmps c G (zdK 0 args) H (zlv T fn.results.toList R .mk)):FnT P f args G H R:=by
 refine FnT.own ⟨fn,c,hf,hb,hn⟩ fun E w hw=>callsIn_wide.1 (callsIn_of_wp_marks (n:=0) hf hb trivial (wpIn_wide.2 ?_))
 have hw0:HeapOk ⟨E.os,E.out,[],E.mine++E.outer⟩ G H w:=⟨hw.env,hw.pers,hw.own,hw.sep,by simpa using hw.dfr⟩
 have hs:Sim ⟨E.os,E.out,[],E.mine++E.outer⟩ fn.ntmps G (zdK 0 args) H {tmps:=args.toArray++Array.replicate (fn.ntmps - args.toArray.size) undef,defers:=[]} w:=by
  refine⟨by simp;omega,rfl,fun t v ht=>?_,hw0⟩
  obtain⟨_,h2⟩:=zpd args 0 t v ht
  simp only[Nat.sub_zero] at h2
  have hlt:=(List.getElem?_eq_some_iff.1 h2).1
  have h3:args[t]=v:=(List.getElem?_eq_some_iff.1 h2).2
  simp [Array.getElem?_append,hlt,h3]
 refine h hw.sep _ w _ hs fun E' e G' l' H' a' w' hE hle hs' hk=>?_
 have key:zdW T G' H' l' fn.results.toList (fun vs=>R (zeD vs) G' H')→LeavesInM Fence.wide 0 P fn a'.tmps (fun e w'=> ∃v G' H',e= .returned v∧PLe G G'∧HeapOk E G' H' w'∧R v G' H') a'.defers .returning w':=fun hk=>by
  obtain⟨vs,h1,h2⟩:=zjV hT hs' _ hk
  have hres: ∀ {E2:Env} (W:World),HeapOk E2 G' H' W→(results fn a'.tmps).run P W= .ok (zeD vs) W:=fun W hW=>by
   unfold results
   rw[Array.mapM_eq_mapM_toList]
   simp only[Sem.run_bind,Sem.run_map]
   have h3:=h2 W hW
   have hF: ∀F:ResultVar→Sem Value,(∀x,F x=zca a'.tmps x)→(fn.results.toList.mapM F).run P W= .ok vs W:=fun F hF=>by rw[show F=zca a'.tmps from funext hF];exact h3
   rw[hF _ (fun x=>by cases x <;> rfl)]
   simp only[Result.andThen_ok,Sem.run_pure]
   cases vs with
   |nil=>simp [zeD]
   |cons x xs=>cases xs with
    |nil=>simp [zeD]
    |cons y ys=>simp [zeD]
  rw[hs'.defers]
  have hh:=hs'.heap
  obtain⟨e1,e2,e3⟩:=hE
  simp only[] at e1 e2 e3
  obtain⟨os',out',mine',outer'⟩:=E'
  simp only at e1 e2 e3
  subst e1;subst e2;subst e3
  simp only[]
  clear hs' hk
  revert hh
  generalize w'=W
  induction mine' generalizing W with
  |nil=>
   intro hh
   show LeavesIn Fence.wide 0 P fn a'.tmps _ [] .returning W
   exact⟨_,hres W hh,zeD vs,G',H',rfl,hle,⟨hh.env,hh.pers,hh.own,hh.sep,by simpa using hh.dfr⟩,h1⟩
  |cons D ds ih=>
   intro hh
   have hD:=hh.dfr.2 D (by simp)
   refine⟨by simp, .inl ⟨D,_,rfl,run_takeDeferred hD.1,ih _ ⟨hh.env,fun b o hb=>?_,fun p hp=>?_,hh.sep,?_,fun D' hD'=>⟨?_,(hh.dfr.2 D' (by simp only[List.cons_append,List.mem_cons];exact .inr hD')).2⟩⟩⟩⟩
   ·have h3:=hh.pers b o hb
    rw[World.putObj_heap_other (fun e=>by subst e;rw[hD.2] at hb;cases hb)]
    exact h3
   ·obtain⟨o,ho,hr⟩:=hh.own p hp
    exact⟨o,(World.putObj_heap_other (fun e=>by rw[e,hD.1] at ho;cases ho;exact Res.not_deferred hr)).trans ho,hr⟩
   ·have:=hh.dfr.1
    simp only[List.cons_append,List.nodup_cons] at this
    exact this.2
   ·have hn:=hh.dfr.1
    simp only[List.cons_append,List.nodup_cons] at hn
    exact(World.putObj_heap_other (fun e=>by subst e;exact hn.1 hD')).trans (hh.dfr.2 D' (by simp only[List.cons_append,List.mem_cons];exact .inr hD')).1
 cases e with
 |normal=>exact key hk
 |ret=>exact key hk
 |exit id=>exact hk.elim
theorem FnT.of {P:Program} {T:Tys} (hT:zT P T) {f:FuncId} {fn:Func} {c:Code} (keep:List Nat) (hf:P.funcs[f]? =some fn) (hb:fn.body=some c) (hn:(fn.name== "runtime.NumGoroutine")=false)
  {args:List Value} {G:zb} {H:za} {R:Value→zb→za→Prop} (hlt:zaP fn.ntmps c=true) (hargs:args.length≤fn.ntmps)
  (h:Sep G (zm H)→wpC P T fn.ntmps keep c G (zdK 0 args) H (zlv T fn.results.toList R .mk)):FnT P f args G H R:=
 FnT.ofT hT hf hb hn hargs fun hs=>zdc hT c hlt (h hs)
def zqW (r:Option Res) (o:Nat) (k:Value→Prop) (_:Tok k:= .mk):Prop:=match r with
 |some (.cells xs sp _)=>zC ((xs++sp)[o]?) k
 |_=>False
def zen (G:zb) (H:za) (b:Nat) (g:Option Obj) (o:Nat) (k:Value→Prop) (_:Tok k:= .mk):Prop:=match g with
 |some (.cells c _ _)=>zC (c[o]?) k
 |some _=>False
 |none=>zqW (zq H b) o k
theorem zqX (G:zb) (H:za) (b o:Nat) (k:Value→Prop):zc9 G H ⟨b,o,none⟩ k=zen G H b (G b) o k:=by
 unfold zc9 zen zqW;rw[if_neg (by simp)]
 rfl
def znh (r:Option Res) (o n:Nat) (k:List Value→Prop) (_:Tok k:= .mk):Prop:=match r with
 |some (.cells xs sp _)=>Ob (n=0∨o+n≤xs.length+sp.length) (k (((xs++sp).drop o).take n))
 |_=>n=0∧k []
def zgw (G:zb) (H:za) (b:Nat) (g:Option Obj) (o n:Nat) (k:List Value→Prop) (_:Tok k:= .mk):Prop:=match g with
 |some (.cells c _ _)=>Ob (n=0∨o+n≤c.size) (k ((c.toList.drop o).take n))
 |some _=>n=0∧k []
 |none=>znh (zq H b) o n k
theorem zjF (G:zb) (H:za) (b o n:Nat) (k:List Value→Prop):zaE G H b o n k=zgw G H b (G b) o n k:=by
 unfold zaE zgw znh
 rfl
def zuJ (H:za) (b o:Nat) (vs:List Value) (r:Option Res) (k:za→Prop) (_:Tok k:= .mk):Prop:=
 match r with
 |some (.cells xs sp e)=>Ob (o+vs.length≤xs.length∧vs.all zax=true) (k (zab H b (.cells (zf xs o vs) sp e)))
 |_=>False
theorem zpe (H:za) (b o:Nat) (vs:List Value) (k:za→Prop):zdA H b o vs k=zuJ H b o vs (zq H b) k:=by
 unfold zdA zuJ;rfl
theorem zsD {l:List Value} {i:Nat} (h:i<l.length) (k:Value→Prop):zC (l[i]?) k=k l[i]:=by rw[List.getElem?_eq_getElem h];rfl
theorem znE {α:Type} {f:α→Value} {l:List α} {i:Nat} (h:i<l.length) (k:Value→Prop):zC ((l.map f)[i]?) k=k (f l[i]):=by rw[List.getElem?_map,List.getElem?_eq_getElem h];rfl
theorem znF {α:Type} {f:α→Value} {l:List α} {i:Nat} (h:i<l.length) (k:Value→Prop):zC ((l[i]?).map f) k=k (f l[i]):=by rw[List.getElem?_eq_getElem h];rfl
theorem znG {α:Type} {f:α→Value} {l:List α} {sp:List Value} {i:Nat} (h:i<l.length) (k:Value→Prop):zC ((l.map f++sp)[i]?) k=k (f l[i]):=by
 rw[List.getElem?_append_left (by simpa using h),List.getElem?_map,List.getElem?_eq_getElem h];rfl
theorem zyg (b:Bool) (x y:Prop):Br (!b) x y=Br b y x:=by
 cases b <;> simp [Br]
theorem Br.yes {x y:Prop} (h:x):Br true x y:=zi6.symm▸h
theorem Br.no {x y:Prop} (h:y):Br false x y:=zhp.symm▸h
theorem Br.beq {α:Type} [BEq α] [LawfulBEq α] {a b:α} {x y:Prop} (h1:a=b→x) (h2: ¬a=b→y):Br (a==b) x y:=⟨fun h=>h1 (by simpa using h),fun h=>h2 (by simpa using h)⟩
theorem zsE {x y:Prop}:Br (([]:List UInt8)==[]) x y=x:=by simp [Br]
theorem zqY {a:UInt8} {l:List UInt8} {x y:Prop}:Br (a::l==[]) x y=y:=by simp [Br]
theorem Br.beqB {a b:List UInt8} {x y:Prop} (h1:a=b→x) (h2: ¬a=b→y):Br (a==b) x y:=Br.beq h1 h2
theorem Br.beqb {a b:Bool} {x y:Prop} (h1:a=b→x) (h2: ¬a=b→y):Br (a==b) x y:=Br.beq h1 h2
theorem zsF {G:zb} {b:Nat} (h:G b=none) (H:za) (o:Nat) (k:Value→Prop):zen G H b (G b) o k=zqW (zq H b) o k:=by rw[h];rfl
theorem zqZ {G:zb} {b:Nat} (h:G b=none) (H:za) (o n:Nat) (k:List Value→Prop):zgw G H b (G b) o n k=znh (zq H b) o n k:=by rw[h];rfl
theorem zq0 (G:zb) (H:za) (b:Nat) (c:Array Value) (e:TypeId) (f:Nat×Nat) (o:Nat) (k:Value→Prop):zen G H b (some (.cells c e f)) o k=zC (c[o]?) k:=rfl
theorem zpf (G:zb) (H:za) (b:Nat) (c:Array Value) (e:TypeId) (f:Nat×Nat) (o n:Nat) (k:List Value→Prop):zgw G H b (some (.cells c e f)) o n k=Ob (n=0∨o+n≤c.size) (k ((c.toList.drop o).take n)):=rfl
theorem zkB (r:Res) (H:za) (b:Nat):zq ((b,r)::H) b=some r:=by simp [zq]
theorem znH {k b:Nat} (h:k≠b) (r:Res) (H:za):zq ((k,r)::H) b=zq H b:=by simp [zq,h]
theorem zsG (r:Res) (H:za) (b:Nat) (r':Res):zab ((b,r)::H) b r'=(b,r')::H:=by simp [zab]
theorem zw2 {k b:Nat} (h:k≠b) (r:Res) (H:za) (r':Res):zab ((k,r)::H) b r'=(k,r)::zab H b r':=by simp [zab,h]
theorem zpg (r:Res) (H:za) (b:Nat):zac ((b,r)::H) b=H:=by simp [zac]
theorem zsH {k b:Nat} (h:k≠b) (r:Res) (H:za):zac ((k,r)::H) b=(k,r)::zac H b:=by simp [zac,h]
theorem zda.mk {G:zb} {ks:List Nat} {k:Nat→Prop} (h: ∀b,Sep G (b::ks)→k b):zda G ks k:=h
theorem zbX.mk {G:zb} {ks:List Nat} {n E:Nat} {k:Nat→List Value→Nat→Prop} (h: ∀b sp cap,Sep G (b::ks)→n * E+sp.length=cap * E→k b sp cap):zbX G ks n E k:=h
theorem zw3 (k:Prop):Ob True k=k:=by simp [Ob]
theorem zdd (k:Nat) (r:Res) (H:za):zm ((k,r)::H)=k::zm H:=rfl
theorem zfW:zm []=[]:=rfl
theorem zjW (G:zb) (b:Nat) (bs:List Nat):Sep G (b::bs)=((G b=none∧zU b bs)∧Sep G bs):=rfl
theorem zci (b c:Nat) (cs:List Nat):zU b (c::cs)=(b≠c∧zU b cs):=rfl
theorem ze9 (b:Nat):zU b []=True:=rfl
theorem zqa (G:zb):Sep G []=True:=rfl
theorem zph (x:Value) (xs:List Value) (v:Value) (vs:List Value):zf (x::xs) 0 (v::vs)=v::zf xs 0 vs:=by simp [zf]
theorem zq1 (xs:List Value):zf xs 0 []=xs:=by simp [zf]
def zwP (place:Nat→Option (Nat×Nat)) (cells:List Value) (v:Value) (rest:List (Nat×Value)):Option (Nat×Nat)→Option (List Value)
 |none=>none
 |some (off,size)=>if (zcF v).length=size∧off+size≤cells.length then zdQ place (zf cells off (zcF v)) rest else none
theorem zsI (place:Nat→Option (Nat×Nat)) (cells:List Value):zdQ place cells []=some cells:=rfl
theorem zq2 (place:Nat→Option (Nat×Nat)) (cells:List Value) (i:Nat) (v:Value) (rest:List (Nat×Value)):zdQ place cells ((i,v)::rest)=zwP place cells v rest (place i):=by
 rw[zdQ];cases place i <;> rfl
theorem zq3 (place:Nat→Option (Nat×Nat)) (cells:List Value) (v:Value) (rest:List (Nat×Value)) (off size:Nat):zwP place cells v rest (some (off,size))=if (zcF v).length=size∧off+size≤cells.length then zdQ place (zf cells off (zcF v)) rest else none:=rfl
theorem zpi (x:Value) (xs:List Value) (n:Nat) (vs:List Value):zf (x::xs) (n+1) vs=x::zf xs n vs:=by
 simp only[zf,List.take_succ_cons,List.cons_append]
 rw[show n+1+vs.length=(n+vs.length)+1 by omega,List.drop_succ_cons]
theorem zq4 {α:Type} (l:List α):l.toArray.toList=l:=rfl
def zaF {α:Type} (o:Option α) (yes:α→Prop) (no:Prop) (_:Tok yes:= .mk) (_:Tok no:= .mk):Prop:=match o with|some a=>yes a|none=>no
theorem zaF.mk {α:Type} {o:Option α} {yes:α→Prop} {no:Prop} (h1: ∀a,o=some a→yes a) (h2:o=none→no):zaF o yes no:=by
 cases o with
 |none=>exact h2 rfl
 |some a=>exact h1 a rfl
theorem zpj {α:Type} (a:α) (yes:α→Prop) (no:Prop):zaF (some a) yes no=yes a:=rfl
theorem zpk {α:Type} (yes:α→Prop) (no:Prop):zaF none yes no=no:=rfl
theorem wrap_i64 {x:Int} (h0: -9223372036854775808≤x) (h1:x≤9223372036854775807):IntKind.i64.wrap x=x:=by
 rw[IntKind.wrap_i64];omega
theorem zw4 {x:Int} (h0:0≤x) (h1:x≤255):IntKind.u8.wrap x=x:=by
 simp only[IntKind.wrap,IntKind.bits,IntKind.signed];simp;omega
theorem znI {x:Int} (h0:0≤x) (h1:x≤18446744073709551615):IntKind.u64.wrap x=x:=by
 simp only[IntKind.wrap,IntKind.bits,IntKind.signed];simp;omega
theorem zuK {x:Int} (h0:0≤x) (h1:x≤65535):IntKind.u16.wrap x=x:=by
 simp only[IntKind.wrap,IntKind.bits,IntKind.signed];simp;omega
theorem zAr (m:Int) {n b:Nat} (h:n≤b):m.fdiv (2 ^ min n b)=m / 2 ^ n:=by
 rw[Nat.min_eq_left h,Int.fdiv_eq_ediv_of_nonneg _ (Int.pow_nonneg (by decide))]
theorem zAs (m:Int) {n b:Nat} (h:n≤b):m * 2 ^ min n b=m * 2 ^ n:=by rw[Nat.min_eq_left h]
theorem zd9 {n:Nat} {x:Int} (h0:0≤x) (h1:x<2 ^ n):(BitVec.ofInt n x).toNat=x.toNat:=by
 rw[BitVec.toNat_ofInt]
 congr 1
 exact Int.emod_eq_of_lt h0 (by simpa using h1)
theorem zeE {k:IntKind} {m:Nat} (hs:k.signed=false) (h:m<2 ^ k.bits):k.wrap m=m:=by
 simp only[IntKind.wrap,hs,Bool.false_and,Bool.false_eq_true,if_false]
 have h':((m:Int)) < ((2 ^ k.bits:Nat):Int):=Int.ofNat_lt.2 h
 rw[Int.natCast_pow] at h'
 exact Int.emod_eq_of_lt (Int.natCast_nonneg m) h'
section
variable {k:IntKind} {x y:Int} (hs:k.signed=false) (hx:0≤x) (hx':x<2 ^ k.bits) (hy:0≤y) (hy':y<2 ^ k.bits)
include hs hx hx' hy hy'
theorem zjX:zay .and k x y=((x.toNat&&& y.toNat:Nat):Int):=by
 simp only[zay]
 rw[BitVec.toNat_and,zeE hs (Nat.lt_of_le_of_lt Nat.and_le_left (BitVec.isLt _)),zd9 hx hx',zd9 hy hy']
theorem zqb:zay .or k x y=((x.toNat|||y.toNat:Nat):Int):=by
 simp only[zay]
 rw[zeE hs (BitVec.isLt _),BitVec.toNat_or,zd9 hx hx',zd9 hy hy']
theorem znJ:zay .xor k x y=((x.toNat ^^^ y.toNat:Nat):Int):=by
 simp only[zay]
 rw[zeE hs (BitVec.isLt _),BitVec.toNat_xor,zd9 hx hx',zd9 hy hy']
end
theorem zyh {x y:Int} (h1:0≤x) (h2:x≤255) (h3:0≤y) (h4:y≤255):zay .and .u8 x y=((x.toNat&&& y.toNat:Nat):Int):=zjX rfl h1 (by show x<256;omega) h3 (by show y<256;omega)
theorem zzC {x y:Int} (h1:0≤x) (h2:x≤255) (h3:0≤y) (h4:y≤255):zay .or .u8 x y=((x.toNat|||y.toNat:Nat):Int):=zqb rfl h1 (by show x<256;omega) h3 (by show y<256;omega)
theorem zqc {x y:Int} (h1:0≤x) (h2:x≤18446744073709551615) (h3:0≤y) (h4:y≤18446744073709551615):zay .and .u64 x y=((x.toNat&&& y.toNat:Nat):Int):=zjX rfl h1 (by show x<18446744073709551616;omega) h3 (by show y<18446744073709551616;omega)
theorem zsJ {x y:Int} (h1:0≤x) (h2:x≤18446744073709551615) (h3:0≤y) (h4:y≤18446744073709551615):zay .or .u64 x y=((x.toNat|||y.toNat:Nat):Int):=zqb rfl h1 (by show x<18446744073709551616;omega) h3 (by show y<18446744073709551616;omega)
theorem zw5 {x y:Int} (h1:0≤x) (h2:x≤18446744073709551615) (h3:0≤y) (h4:y≤18446744073709551615):zay .xor .u64 x y=((x.toNat ^^^ y.toNat:Nat):Int):=znJ rfl h1 (by show x<18446744073709551616;omega) h3 (by show y<18446744073709551616;omega)
theorem zzD {m n:Int} (h:0≤m):m.tdiv n=m / n:=Int.tdiv_eq_ediv_of_nonneg h
theorem zzE {m n:Int} (h:0≤m):m.tmod n=m % n:=Int.tmod_eq_emod_of_nonneg h
theorem zq5 (n:Nat) (v:Value):rep n [v]=List.replicate n v:=rfl
theorem zjG {m:Int} (h0:0≤m) (h1:m≤255):zp (UInt8.ofNat m.toNat)= .int .u8 m:=by
 unfold zp;congr 1
 rw[UInt8.toNat_ofNat_of_lt' (by show m.toNat<256;omega)];omega
theorem zjH (xs ys:List Value) (k:List UInt8→Prop):zc0 (xs++ys) k=zc0 xs fun a=>zc0 ys fun b=>k (a++b):=by
 apply propext
 constructor
 ·rintro⟨bs,h,hk⟩
  obtain⟨l1,l2,rfl,h1,h2⟩:=List.append_eq_map_iff.1 h
  exact⟨l1,h1.symm,l2,h2.symm,hk⟩
 ·rintro⟨l1,rfl,l2,rfl,hk⟩
  exact⟨l1++l2,by simp,hk⟩
theorem zjI {m:Int} (h0:0≤m) (h1:m≤255) (vs:List Value) (k:List UInt8→Prop):zc0 (.int .u8 m::vs) k=zc0 vs fun bs=>k (UInt8.ofNat m.toNat::bs):=by
 have:=zjH [zp (UInt8.ofNat m.toNat)] vs k
 rw[zjG h0 h1] at this
 refine this.trans ?_
 rw[←zjG h0 h1]
 exact zgS [UInt8.ofNat m.toNat] _
theorem zuL (x:UInt8):UInt8.ofNat x.toNat=x:=by simp
theorem zmc (x:UInt8):UInt8.ofNat ((x.toNat:Int)).toNat=x:=by simp
theorem zq6 (x:UInt8) (vs:List Value) (k:List UInt8→Prop):zc0 (.int .u8 (x.toNat:Int)::vs) k=zc0 vs fun bs=>k (x::bs):=by
 have:=x.toNat_lt
 rw[zjI (by omega) (by omega),zmc]
theorem zwQ (n:Nat):n&&& 1=n % 2:=Nat.and_two_pow_sub_one_eq_mod n 1
theorem zzF (n:Nat):n&&& 7=n % 8:=Nat.and_two_pow_sub_one_eq_mod n 3
theorem zyi (n:Nat):n&&& 15=n % 16:=Nat.and_two_pow_sub_one_eq_mod n 4
theorem zyj (n:Nat):n&&& 63=n % 64:=Nat.and_two_pow_sub_one_eq_mod n 6
theorem zw6 (n:Nat):n&&& 127=n % 128:=Nat.and_two_pow_sub_one_eq_mod n 7
theorem zw7 (n:Nat):n&&& 255=n % 256:=Nat.and_two_pow_sub_one_eq_mod n 8
theorem zuM (n:Nat):((n:Int)+1).toNat=n+1:=by omega
theorem zuN (n:Nat):((n:Int)+2).toNat=n+2:=by omega
theorem zuO (n:Nat):((n:Int)+3).toNat=n+3:=by omega
theorem zuP (n:Nat):((n:Int)+4).toNat=n+4:=by omega
theorem zsK (n:Nat):((n:Int)).toNat=n:=Int.toNat_natCast n
section
variable (k:zb→Fr→za→Prop) (K:zaO) (G:zb) (l:Fr) (H:za) (rs:List ResultVar) (R:Value→zb→za→Prop)
theorem znK:zem k K .mk .mk .normal G l H=k G l H:=rfl
theorem zq7 (i:Nat):zem k K .mk .mk (.exit i) G l H=K (.exit i) G l H:=rfl
theorem zsL:zem k K .mk .mk .ret G l H=K .ret G l H:=rfl
theorem zm0 (i:Nat):zdJ i K .mk .normal G l H=K .normal G l H:=rfl
theorem zq8 (i:Nat):zdJ i K .mk .ret G l H=K .ret G l H:=rfl
theorem zpl (i j:Nat):zdJ i K .mk (.exit j) G l H=if j=i then K .normal G l H else K (.exit j) G l H:=rfl
theorem zpm (T:Tys):zlv T rs R .mk .normal G l H=zdW T G H l rs fun vs=>R (zeD vs) G H:=rfl
theorem zuQ (T:Tys):zlv T rs R .mk .ret G l H=zdW T G H l rs fun vs=>R (zeD vs) G H:=rfl
end
theorem zq9 (b:Bool) (x y:Prop):zhE (.bool b) x y=Br b x y:=rfl
theorem zuR (v:Value):zeD [v]=v:=rfl
theorem zuS (u v:Value):zeD [u,v]= .tuple #[u,v]:=rfl
theorem zra (u v w:Value):zeD [u,v,w]= .tuple #[u,v,w]:=rfl
theorem zsM:zeD []= .tuple #[]:=rfl
section
variable (P:Program) (T:Tys) (all rest:List Oper) (d:Option Nat) (op:Op) (t:TypeId) (p:String) (af:Array Edge) (G:zb) (l:Fr) (H:za) (K:zb→Fr→za→Prop)
theorem zw8:wpO P T all [] G l H K=K G l H:=rfl
theorem zsN:wpO P T all (⟨d,op,t,p,af,none⟩::rest) G l H K=zav P T op G l H fun v G' H'=>wpO P T all rest G' (put l d v) H' K:=rfl
theorem zsO (g:Nat×Bool):wpO P T all (⟨d,op,t,p,af,some g⟩::rest) G l H K=zch all (some g) l (fun l'=>zav P T op G l' H fun v G' H'=>wpO P T all rest G' (put l' d v) H' K) (fun l'=>wpO P T all rest G (put l' d undef) H K):=rfl
theorem zpn (bs:List Oper):wpO P T all (List.append [] bs) G l H K=wpO P T all bs G l H K:=rfl
theorem zm1 (bs:List Oper):wpO P T all (List.append (⟨d,op,t,p,af,none⟩::rest) bs) G l H K=zav P T op G l H fun v G' H'=>wpO P T all (List.append rest bs) G' (put l d v) H' K:=rfl
theorem zm2 (bs:List Oper) (g:Nat×Bool):wpO P T all (List.append (⟨d,op,t,p,af,some g⟩::rest) bs) G l H K=zch all (some g) l (fun l'=>zav P T op G l' H fun v G' H'=>wpO P T all (List.append rest bs) G' (put l' d v) H' K) (fun l'=>wpO P T all (List.append rest bs) G (put l' d undef) H K):=rfl
end
section
variable (P:Program) (T:Tys) (sz:Nat) (keep:List Nat) (G:zb) (l:Fr) (H:za) (K:zaO)
theorem zuT:wpC P T sz keep .skip G l H K=K .normal G l H:=rfl
theorem zrb (id:Nat) (ops:List Oper):wpC P T sz keep (.region id ops.toArray false) G l H K=wpO P T ops ops G l H fun G' l' H'=>K .normal G' (zy keep l') H':=rfl
theorem zuU (id:Nat) (ops:List Oper):wpC P T sz keep (.region id ops.toArray true) G l H K=Tri P sz (.region id ops.toArray true) G l H K:=rfl
theorem zsP (f:Operand) (ps:Array Tmp) (x y:Code):wpC P T sz keep (.rangeFunc f ps x y) G l H K=Tri P sz (.rangeFunc f ps x y) G l H K:=rfl
theorem zw9 (x y:Code):wpC P T sz keep (.seq x y) G l H K=wpC P T sz keep x G l H (zem (fun G' l' H'=>wpC P T sz keep y G' l' H' K) K .mk .mk):=rfl
theorem zuV (c:Operand) (x y:Code):wpC P T sz keep (.cond c x y) G l H K=zC (ev l c) fun v=>zhE v (wpC P T sz keep x G l H K) (wpC P T sz keep y G l H K):=rfl
theorem zsQ (i:Nat) (c:Code):wpC P T sz keep (.block i c) G l H K=wpC P T sz keep c G l H (zdJ i K .mk):=rfl
theorem zuW (i:Nat):wpC P T sz keep (.exit i) G l H K=K (.exit i) G l H:=rfl
theorem zsR (i:Nat):wpC P T sz keep (.label i) G l H K=K .normal G l H:=rfl
theorem zxa:wpC P T sz keep .ret G l H K=K .ret G l H:=rfl
theorem zuX (c:Code):wpC P T sz keep (.loop c) G l H K=Tri P sz (.loop c) G l H K:=rfl
theorem zsS (c:Code):wpC P T sz keep (.scope c) G l H K=wpC P T sz keep c G l H K:=rfl
end
def gdK (t:Option (Option Nat)) (want:Bool) (l:Fr) (yes no:Fr→Prop) (_:Tok yes:= .mk) (_:Tok no:= .mk):Prop:=match t with
 |some (some t)=>zC (look l t) fun v=>gK v t want l yes no
 |_=>False
theorem zpo (all:List Oper) (j:Nat) (want:Bool) (l:Fr) (yes no:Fr→Prop):zch all (some (j,want)) l yes no=gdK (zfy all j) want l yes no:=by
 unfold zch gdK
 simp only[]
 cases h:zfy all j with
 |none=>simp
 |some o=>cases o <;> simp
theorem zrc (o:Oper) (os:List Oper):zfy (o::os) 0=some o.dst:=rfl
theorem zrd (o:Oper) (os:List Oper) (n:Nat):zfy (o::os) (n+1)=zfy os n:=by simp [zfy]
theorem zuY (t:Nat) (want:Bool) (l:Fr) (yes no:Fr→Prop):gdK (some (some t)) want l yes no=zC (look l t) fun v=>gK v t want l yes no:=rfl
theorem zxb (b:Bool) (t:Nat) (want:Bool) (l:Fr) (yes no:Fr→Prop):gK (.bool b) t want l yes no=Br (b==want) (yes ((t, .bool want)::l)) (no ((t, .bool (!want))::l)):=rfl
theorem zuZ (vs:Array Value) (t:Nat) (want:Bool) (l:Fr) (yes no:Fr→Prop):gK (.tuple vs) t want l yes no=no l:=rfl
theorem zu0 (t:Nat) (want:Bool) (l:Fr) (yes no:Fr→Prop):gK undef t want l yes no=no l:=rfl
theorem zpp (xs sp:List Value) (e:TypeId) (o n:Nat) (k:List Value→Prop):znh (some (.cells xs sp e)) o n k=Ob (n=0∨o+n≤xs.length+sp.length) (k (((xs++sp).drop o).take n)):=rfl
theorem zre (xs sp:List Value) (e:TypeId) (o:Nat) (k:Value→Prop):zqW (some (.cells xs sp e)) o k=zC ((xs++sp)[o]?) k:=rfl
theorem zsT (b o l m n:Nat):zbn (some ⟨b,o,none⟩) l m n=some (zby b o l m n):=by
 unfold zbn zby;split
 ·rfl
 ·simp [zbW]
theorem zrf (l m n:Nat):zbn none l m n=none:=by unfold zbn;split <;> rfl
theorem znL (b o m n:Nat) (h:n=0):zby b o 0 m n=⟨b,o,none⟩:=by subst h;unfold zby;split <;> rfl
theorem zxc (b o l m n:Nat):blk (some (zby b o l m n))=b:=by unfold zby;split <;> rfl
theorem zxd (b o l m n:Nat):Adr (some (zby b o l m n))=True:=by unfold zby;split <;> exact eq_true rfl
theorem zrg {α:Type} (f:α→Value) (o:Option α) (yes:Value→Prop) (no:Prop):ziy (some (o.map f)) yes no=zaF o (fun a=>yes (f a)) no:=by cases o <;> rfl
section
variable (P:Program) (T:Tys) (G:zb) (l:Fr) (H:za) (k:Value→zb→za→Prop)
theorem zrh (x:Operand):zav P T (.move x) G l H k=zaq P T (.move x) G l H k:=rfl
theorem znM (x:Operand):zav P T (.assign x) G l H k=zaq P T (.assign x) G l H k:=rfl
theorem zri (c a b:Operand):zav P T (.pick c a b) G l H k=zaq P T (.pick c a b) G l H k:=rfl
theorem zpq (e:TypeId):zav P T (.alloc e) G l H k=zaq P T (.alloc e) G l H k:=rfl
theorem zsU (e:TypeId) (v:Operand):zav P T (.box e v) G l H k=zaq P T (.box e v) G l H k:=rfl
theorem zpr (t:TypeId) (ps:Array (Nat×Operand)):zav P T (.build t ps) G l H k=zaq P T (.build t ps) G l H k:=rfl
theorem zjY (t:TypeId) (n:Nat) (ps:Array (Nat×Operand)):zav P T (.buildSlice t n ps) G l H k=zaq P T (.buildSlice t n ps) G l H k:=rfl
theorem znN (t:TypeId) (x i y:Operand):zav P T (.insert t x i y) G l H k=zaq P T (.insert t x i y) G l H k:=rfl
theorem zrj (t:TypeId) (x:Operand):zav P T (.load t x) G l H k=zaq P T (.load t x) G l H k:=rfl
theorem zps (t:TypeId) (x y:Operand):zav P T (.store t x y) G l H k=zaq P T (.store t x y) G l H k:=rfl
theorem zlw (x:Operand):zav P T (.nilCheck x) G l H k=zaq P T (.nilCheck x) G l H k:=rfl
theorem zpt (o:BinOp) (t:TypeId) (x y:Operand) (u:TypeId):zav P T (.binOp o t x y u) G l H k=zaq P T (.binOp o t x y u) G l H k:=rfl
theorem zrk (o:UnOp) (t:TypeId) (x:Operand):zav P T (.unOp o t x) G l H k=zaq P T (.unOp o t x) G l H k:=rfl
theorem zm3 (s d:TypeId) (x:Operand):zav P T (.convert s d x) G l H k=zaq P T (.convert s d x) G l H k:=rfl
theorem zlx (f:Fn) (a b:Array Operand):zav P T (.makeFunc f a b) G l H k=zaq P T (.makeFunc f a b) G l H k:=rfl
theorem zm4 (t:TypeId) (r:Option Operand):zav P T (.makeMap t r) G l H k=zaq P T (.makeMap t r) G l H k:=rfl
theorem zkC (t:TypeId) (n c:Operand):zav P T (.makeSlice t n c) G l H k=zaq P T (.makeSlice t n c) G l H k:=rfl
theorem zpu (t:TypeId) (x:Operand) (a b c:Option Operand):zav P T (.slice t x a b c) G l H k=zaq P T (.slice t x a b c) G l H k:=rfl
theorem zkD (t:TypeId) (x:Operand) (f:Nat):zav P T (.fieldAddr t x f) G l H k=zaq P T (.fieldAddr t x f) G l H k:=rfl
theorem zpv (t:TypeId) (x:Operand) (f:Nat):zav P T (.field t x f) G l H k=zaq P T (.field t x f) G l H k:=rfl
theorem zkE (t:TypeId) (x i:Operand):zav P T (.indexAddr t x i) G l H k=zaq P T (.indexAddr t x i) G l H k:=rfl
theorem zpw (t:TypeId) (x i:Operand):zav P T (.index t x i) G l H k=zaq P T (.index t x i) G l H k:=rfl
theorem znO (t:TypeId) (x i:Operand) (c:Bool):zav P T (.lookup t x i c) G l H k=zaq P T (.lookup t x i c) G l H k:=rfl
theorem zkF (t:TypeId) (m key val:Operand):zav P T (.mapUpdate t m key val) G l H k=zaq P T (.mapUpdate t m key val) G l H k:=rfl
theorem zpx (t:TypeId) (x:Operand):zav P T (.range t x) G l H k=zaq P T (.range t x) G l H k:=rfl
theorem zrl (x:Operand) (b:Bool):zav P T (.next x b) G l H k=zaq P T (.next x b) G l H k:=rfl
theorem zpy (x:Operand):zav P T (.entry x) G l H k=zaq P T (.entry x) G l H k:=rfl
theorem zm5 (x:Operand) (i:Nat):zav P T (.extract x i) G l H k=zaq P T (.extract x i) G l H k:=rfl
theorem zpz (f:Operand) (as:Array Operand) (ts:Array TypeId):zav P T (.call ⟨.value f,as,ts⟩) G l H k=zC (ev l f) fun fv=>evK l as.toList fun vs=>zgv P fv vs G H k:=rfl
theorem zm6 (b:Builtin) (as:Array Operand) (ts:Array TypeId):zav P T (.call ⟨.builtin b,as,ts⟩) G l H k=zaq P T (.call ⟨.builtin b,as,ts⟩) G l H k:=rfl
theorem zrm (f:FuncId) (first caps:Array Value) (vs:List Value):zgv P (.func (.func f) first caps) vs G H k=FnT P f (first.toList++vs++caps.toList) G H k:=rfl
theorem zpA (lr:Nat) (caps:Array Value) (vs:List Value):zgv P (.func (.yield lr) #[] caps) vs G H k=zbZ P lr vs G H k:=by simp [zgv]
end
attribute [go_sem] zrh znM zri zpq zsU zpr zjY znN zrj zps zlw zpt zrk zm3 zlx zm4 zkC zpu zkD zpv zkE zpw znO zkF zpx zrl zpy zm5 zpz zm6 zrm zpA
attribute [go_sem] zp zsE zqY zyg beq_true beq_false zuT zrb zuU zsP zuX zw9 zuV zsQ zuW zsR zxa zsS zrc zrd Bool.false_eq_true List.append_eq List.cons_append List.nil_append zw8 zsN zsO zpn zm1 zm2 zaq zpo zuY zxb zuZ zu0 zqI zsq zuA zyf zux zsr zwZ zuy zuz zno zmU zlj zlk
 zw1 zuE zuF zsz zuG zuH zqL zqM
 zm9 zna zku zqK zi9 zeV zi8 zhr zgq zej zi7 zja ziv zo9 zeW zfH zdb znc znd zne znf zng zlu zje zhD zqT zht zkA zjb zfR znb zhb zjT znt zlm zqP zp6 zp7 zp8 znr zss zsT zrf znL zxc zxd zhy zdI zhz zhA zsw zqQ zsx zrg zpj zpk zuD zuB zdz List.headD_cons
 zqR zpb zqS zqX zjF zpe zq0 zpf zre zpp zuJ zsD znE znF znG
 zwO zw3 zi6 zhp zzA zzB
 zsF zqZ zkB znH zsG zw2 zpg zsH zdd zfW zjW zqa zci ze9
 zph zq1 zpi zsI zq2 zq3 zhv Bool.not_true Bool.not_false Option.map_some Option.map_none List.find?_cons List.all_cons List.all_nil Bool.and_true Bool.true_and Bool.and_self zq4 zcF
 wrap_i64 zw4 zuK znI zsK zjH zq6 zjI zuL zmc zwQ zzF zyi zyj zw6 zw7 List.take_left' zuM zuN zuO zuP zq5 List.take_zero List.take_succ_cons List.take_nil List.drop_zero List.drop_succ_cons List.drop_nil zzD zzE zAr zAs zyh zzC zqc zsJ zw5
 znK zq7 zsL zm0 zq8 zpl zpm zuQ zq9 zuR zuS zra zsM zuI zsB zsC
 zdK zgS zo8 zax zns
attribute [go_sem] decide_true decide_false ne_eq not_false_eq_true not_true_eq_false and_true true_and and_self or_true true_or or_false false_or or_self eq_self Option.isNone_some Option.isNone_none Nat.zero_add Nat.add_zero Nat.mul_one Nat.one_mul Nat.zero_mul List.length_cons List.length_nil List.getElem?_cons_zero List.getElem?_cons_succ List.map_cons List.map_nil List.append_nil
variable {E:Env}
def G0:zb:=fun _=>none
theorem HeapOk.nothing (w:World):HeapOk ⟨w.os,w.output,[],[]⟩ G0 [] w:=⟨⟨rfl,rfl⟩,fun b o h=>(by cases h),fun p hp=>(by cases hp),trivial,by simp,by simp⟩
theorem zrn {α:Type} {P:Program} (s:Sem α) {k:α→za→Prop} (h:runS true P G0 s [] k): ∃x,k x []∧ ∀w,s.run P w= .ok x w:=
 let ⟨x,h1,h2⟩:=zhn s h
 ⟨x,h1,fun w=>h2 w (HeapOk.nothing w)⟩
def zcj (T:Tys):Op→Bool
 | .move _| .assign _| .pick .. | .build .. | .nilCheck _| .binOp .. | .unOp .. | .makeFunc .. | .slice .. | .fieldAddr .. | .field .. | .indexAddr .. | .index .. | .extract .. =>true
 | .convert s d _=>match (T s).k,(T d).k with
  | .int _, .int _=>true
  | .string, .string=>true
  |_,_=>false
 | .call {callee:= .builtin b,argTypes:=ts, .. }=>match b with
  | .min| .max=>true
  | .len=>match ts.toList with
   | [t]=>match (T t).k with
    | .map .. =>false
    |_=>true
   |_=>false
  |_=>false
 |_=>false
theorem zmd {P:Program} {T:Tys} (hT:zT P T) {o:Oper} {sz:Nat} {G:zb} {l:Fr} {H:za} {a:Act} {w0:World} {k:Value→zb→za→Prop}
  (hp:zcj T o.op=true) (h:zaq P T o.op G l H k) (hs:Sim E sz G l H a w0): ∃v,k v G H∧ ∀w,(execOp a.eval o).run P w= .ok (.value v) w:=by
 obtain⟨dst,op,ty,pos,after,guard⟩:=o
 have val: ∀ (s:Sem Value),runS true P G0 s [] (fun v _=>k v G H)→execOp a.eval ⟨dst,op,ty,pos,after,guard⟩=(do pure (.value (←s)))→ ∃v,k v G H∧ ∀w,(execOp a.eval ⟨dst,op,ty,pos,after,guard⟩).run P w= .ok (.value v) w:=fun s hr he=>by
  obtain⟨x,h1,h2⟩:=zrn s hr
  exact⟨x,h1,fun w=>by rw[he,Sem.run_bind,h2 w];rfl⟩
 cases op <;> simp only[zcj,Bool.false_eq_true] at hp <;> simp only[zaq] at h
 case move x=>exact val (pure (a.eval x)) (zx hs h) rfl
 case assign x=>exact val (pure (a.eval x)) (zx hs h) rfl
 case pick c x y=>
  have h1:=zx hs (zx hs (zx hs h))
  unfold zng at h1
  split at h1
  ·rename_i t hc
   refine val (pure (if t then a.eval x else a.eval y)) (by rw[zh,←zhC];exact h1) ?_
   simp only[execOp,hc,asBool]
   cases t <;> rfl
  ·exact h1.elim
 case build t parts=>
  have h1:=zjc hs h
  have h2:zfH T t (parts.map fun p=>(p.1,a.eval p.2)).toList fun v=>k v G H:=by rw[Array.toList_map];exact h1
  exact val (Instr.build t (parts.map fun p=>(p.1,a.eval p.2))) (zii hT h2) (by simp only[execOp])
 case nilCheck x=>
  have h1:=zx hs h
  refine val (pure (a.eval x)) (by rw[zh];unfold zlu at h1;split at h1 <;> first|exact h1|exact h1.elim) ?_
  unfold zlu at h1
  simp only[execOp]
  split at h1
  ·rename_i v p hp;rw[hp];rfl
  ·rename_i v f fs cs hp;rw[hp];rfl
  ·rename_i v p hp;rw[hp];rfl
  ·exact h1.elim
 case binOp op t x y u=>
  have h1:=zx hs (zx hs h)
  refine val (do eqGuard op t x y (a.eval x) (a.eval y);binOp op t (a.eval x) (a.eval y)) ?_ ?_
  ·rw[ze,zjD hT h1];exact zjv hT h1
  ·simp only[execOp]
 case unOp op t x=>exact val _ (zkv (zx hs h)) rfl
 case convert s d x=>
  have h1:=zx hs h
  refine val (convert s d (a.eval x)) ?_ rfl
  unfold ziv at h1
  split at h1
  ·rename_i b n hx
   split at h1
   ·rename_i j c hs1 hd1
    obtain⟨d1,e1,f1⟩:=hT.und hs1 (by simp)
    obtain⟨d2,e2,f2⟩:=hT.und hd1 (by simp)
    simp only[TK.fits] at f1 f2
    subst f1;subst f2
    rw[hx]
    simp only[convert,ze,zi e1,zi e2,Conv.intToInt,zh]
    exact h1
   ·exact h1.elim
  ·rename_i str hx
   split at h1
   ·rename_i hs1 hd1
    obtain⟨d1,e1,f1⟩:=hT.und hs1 (by simp)
    obtain⟨d2,e2,f2⟩:=hT.und hd1 (by simp)
    simp only[TK.fits] at f1 f2
    subst f1;subst f2
    rw[hx]
    simp only[convert,ze,zi e1,zi e2,zh]
    exact h1
   ·rename_i e hs1 hd1;rw[hs1,hd1] at hp;simp at hp
   ·exact h1.elim
  ·split at h1
   ·rename_i hs1 hd1;rw[hs1,hd1] at hp;simp at hp
   ·rename_i hs1 hd1;rw[hs1,hd1] at hp;simp at hp
   ·exact h1.elim
  ·exact h1.elim
 case fieldAddr t x f=>exact val _ (zif hT (zx hs h)) rfl
 case field t x f=>exact val _ (zha hT (zx hs h)) rfl
 case indexAddr t x i=>exact val _ (zfs hT (zx hs (zx hs h))) rfl
 case index t x i=>exact val _ (zig hT (zx hs (zx hs h))) rfl
 case extract x i=>exact val _ (zgr (zx hs h)) rfl
 case makeFunc fn first caps=>
  have h1:=zel hs (zel hs h)
  refine val (Instr.makeFunc fn (first.map a.eval) (caps.map a.eval)) ?_ rfl
  simp only[Instr.makeFunc,zh]
  have e1:(first.toList.map a.eval).toArray=first.map a.eval:=by apply Array.ext';simp
  have e2:(caps.toList.map a.eval).toArray=caps.map a.eval:=by apply Array.ext';simp
  rw[e1,e2] at h1;exact h1
 case slice t x lo hi mx=>exact val _ (zih hT (zhc hs (zhc hs (zhc hs (zx hs h))))) rfl
 case call c=>
  obtain⟨callee,args,ats⟩:=c
  cases callee with
  |invoke r m=>simp at hp
  |value f=>simp at hp
  |builtin b=>
   have h1:=zel hs h
   unfold zhD at h1
   have hex: ∀ (s:Sem Value),builtin b ats ty (args.map fun| .const _=>true|_=>false) (args.map a.eval)=(do pure (.value (←s)))→
     execOp a.eval ⟨dst, .call {callee:= .builtin b,args:=args,argTypes:=ats},ty,pos,after,guard⟩=(do pure (.value (←s))):=fun s hb=>by
    simp only[execOp,resolve,pure_bind,invoke]
    exact hb
   have harr: ∀vs:List Value,args.toList.map a.eval=vs→args.map a.eval=vs.toArray:=fun vs hv=>by apply Array.ext';simpa using hv
   have htys: ∀ts:List TypeId,ats.toList=ts→ats=ts.toArray:=fun ts hv=>by apply Array.ext';simpa using hv
   split at h1
   ·rename_i t x ht hx
    refine val (Builtin.len_ #[t] ty #[x]) ?_ (hex _ ?_)
    ·unfold zqT at h1
     split at h1
     ·split at h1
      ·rename_i hmk
       have ht':ats.toList=[t]:=ht
       have hp':(match ats.toList with| [t]=>(match (T t).k with| .map .. =>false|_=>true)|_=>false)=true:=hp
       rw[ht'] at hp'
       simp [hmk] at hp'
      ·exact h1.elim
     ·exact zjz hT h1
    ·rw[harr _ hx,htys _ ht]
     exact rfl
   ·simp at hp
   ·simp at hp
   ·refine val (Builtin.min_ ats ty (args.toList.map a.eval).toArray) (zjA (ts:=ats) (ty:=ty) h1) (hex _ ?_)
    rw[harr _ rfl]
    exact rfl
   ·refine val (Builtin.max_ ats ty (args.toList.map a.eval).toArray) (zjB (ts:=ats) (ty:=ty) h1) (hex _ ?_)
    rw[harr _ rfl]
    exact rfl
   ·simp at hp
   ·simp at hp
   ·exact h1.elim
def zcN (all:List Oper) (i:Nat):Option Oper:=all[i]?
theorem zsV (o:Oper) (os:List Oper):zcN (o::os) 0=some o:=rfl
theorem zsW (o:Oper) (os:List Oper) (n:Nat):zcN (o::os) (n+1)=zcN os n:=by simp [zcN]
def opK (o:Option Oper) (k:Oper→Prop) (_:Tok k:= .mk):Prop:=match o with|some o=>k o|none=>False
theorem zu1 (o:Oper) (k:Oper→Prop):opK (some o) k=k o:=rfl
def zeo (P:Program) (T:Tys) (all:List Oper) (o:Oper) (G:zb) (l:Fr) (H:za) (K:zb→Fr→za→Prop) (_:Tok all:= .mk) (_:Tok o:= .mk) (_:Tok K:= .mk):Prop:=
 zch all o.guard l (fun l'=>zaq P T o.op G l' H fun v G' H'=>K G' (put l' o.dst v) H') (fun l'=>K G (put l' o.dst undef) H)
def wpD (P:Program) (T:Tys) (all:List Oper) (σ:List Nat) (G:zb) (l:Fr) (H:za) (K:zb→Fr→za→Prop) (_:Tok all:= .mk) (_:Tok σ:= .mk) (_:Tok K:= .mk):Prop:=
 match σ with
 | []=>K G l H
 |i::σ=>opK (zcN all i) fun o=>zeo P T all o G l H fun G' l' H'=>wpD P T all σ G' l' H' K
section
variable (P:Program) (T:Tys) (all:List Oper) (d:Option Nat) (op:Op) (t:TypeId) (p:String) (af:Array Edge) (G:zb) (l:Fr) (H:za) (K:zb→Fr→za→Prop)
theorem zxe:wpD P T all [] G l H K=K G l H:=rfl
theorem zu2 (i:Nat) (σ:List Nat):wpD P T all (i::σ) G l H K=opK (zcN all i) fun o=>zeo P T all o G l H fun G' l' H'=>wpD P T all σ G' l' H' K:=rfl
theorem zpB:zeo P T all ⟨d,op,t,p,af,none⟩ G l H K=zaq P T op G l H fun v G' H'=>K G' (put l d v) H':=rfl
theorem zpC (g:Nat×Bool):zeo P T all ⟨d,op,t,p,af,some g⟩ G l H K=zch all (some g) l (fun l'=>zaq P T op G l' H fun v G' H'=>K G' (put l' d v) H') (fun l'=>K G (put l' d undef) H):=rfl
end
theorem zgx {all:Array Oper} {o:Oper} {sz:Nat} {G:zb} {l:Fr} {H:za} {a:Act} {w:World} {yes no:Fr→Prop} (h:zch all.toList o.guard l yes no) (hs:Sim E sz G l H a w):
  ∃l',Sim E sz G l' H a w∧((Region.wanted o (yielded all a.tmps)=true∧yes l')∨(Region.wanted o (yielded all a.tmps)=false∧no l')):=by
 unfold zch at h
 split at h
 ·rename_i hg
  exact⟨l,hs, .inl ⟨by simp [Region.wanted,hg],h⟩⟩
 ·rename_i j want hg
  split at h
  ·exact h.elim
  ·rename_i t ht
   have hdst:(all[j]?).bind (·.dst)=some t:=by
    simp only[zfy,Array.getElem?_toList] at ht
    cases ho:all[j]? with
    |none=>rw[ho] at ht;simp at ht
    |some o'=>rw[ho] at ht;simpa using ht
   unfold zC at h
   split at h
   ·rename_i v hv
    have htv:=hs.fr t v hv
    have hw:Region.wanted o (yielded all a.tmps)=gv v want:=by
     unfold Region.wanted yielded
     simp only[hg,hdst,Option.bind_some]
     have htv':=htv
     rw[Array.getD_eq_getD_getElem?] at htv'
     cases hh:a.tmps[t]? with
     |none=>
      rw[hh] at htv'
      simp [undef] at htv'
      subst htv'
      rfl
     |some x=>
      rw[hh] at htv'
      simp at htv'
      subst htv'
      cases x <;> simp [gv]
    rw[hw]
    cases v <;> simp only[gK] at h <;> try exact h.elim
    case bool b=>
     rcases Bool.eq_false_or_eq_true (b==want) with hb|hb
     ·rw[hb,zi6] at h
      have e:b=want:=by simpa using hb
      subst e
      exact⟨_,hs.know htv, .inl ⟨hb,h⟩⟩
     ·rw[hb,zhp] at h
      have e:b= !want:=by cases b <;> cases want <;> simp_all
      subst e
      exact⟨_,hs.know htv, .inr ⟨hb,h⟩⟩
    case tuple vs=>exact⟨l,hs, .inr ⟨rfl,h⟩⟩
   ·exact h.elim
attribute [go_sem] zxe zu2 zpB zpC zu1 zsV zsW
variable {E:Env}
section any
variable {P:Program} {ops:Array Oper} {Q:Exit→Act→World→Prop} {md:Region.Mode} {S:World→Prop} {tail:Nat→Bool}
def zbG (P:Program) (md:Region.Mode) (ops:Array Oper) (Q:Exit→Act→World→Prop) (S:World→Prop) (tail:Nat→Bool):Nat→Array Bool→Act→World→Prop
 |0,listed,a,w=>Region.ready md ops listed=[]∧Q .normal a w
 |fuel+1,listed,a,w=>
  (Region.ready md ops listed=[]→Q .normal a w)∧
  ∀i∈Region.ready md ops listed,wpOp P ops Q i (fun a' w'=>(tail i=true∨(S w→S w'))∧zbG P md ops Q S tail fuel (listed.setIfInBounds i true) a' w') a w
theorem zkG: ∀ (fuel:Nat) (listed:Array Bool) (a:Act) (w:World),zbG P md ops Q S tail fuel listed a w→wpAny P md ops Q fuel listed a w
 |0,_,_,_,h=>h
 |fuel+1,_,_,_,h=>⟨h.1,fun i hi=>wpOp_mono (fun a' w' h'=>zkG fuel _ a' w' h'.2) (h.2 i hi)⟩
theorem znP {i:Nat} {oi:Oper} {v:Value} (any:Bool) (hi:ops[i]? =some oi) (hsel: ∀ (j:Nat) (o:Oper) cs b,ops[j]? =some o→o.op≠ .select cs b)
  (hQ: ∀c a w,Q (.panic c) (a.put oi.dst v) w→Q (.panic c) a w)
  (htail:any=false→ ∀ (listed:Array Bool) j,listed.getD i false=false→j∈Region.ready md ops listed→tail j=false):
  ∀ (fuel:Nat) (listed:Array Bool) (a:Act) (w:World),
   (∀j oj,ops[j]? =some oj→j≠i→listed.getD j true=false→(∀e∈oj.after,Region.binds md e=true→e.on≠i)→oi.apart ops oj=true)→
   i∈Region.ready md ops listed→YieldsIf P ops (fun w=>any=true∨S w) oi v a→(any=true∨S w)→
   zbG P md ops Q S tail fuel (listed.setIfInBounds i true) (a.put oi.dst v) w→zbG P md ops Q S tail (fuel+1) listed a w:=by
 intro fuel
 induction fuel with
 |zero=>
  intro listed a w _ hr hy hS H
  refine⟨fun h=>(by rw[h] at hr;cases hr),fun j hj=>?_⟩
  by_cases hji:j=i
  ·subst hji;exact hy.wpOp hi hS ⟨.inr id,H⟩
  ·have:=ready_mono hj hji
   rw[H.1] at this
   cases this
 |succ fuel ih=>
  intro listed a w hfree hr hy hS H
  refine⟨fun h=>(by rw[h] at hr;cases hr),fun j hj=>?_⟩
  by_cases hji:j=i
  ·subst hji;exact hy.wpOp hi hS ⟨.inr id,H⟩
  ·have h1:=H.2 j (ready_mono hj hji)
   obtain⟨hjun,oj,hoj,hall⟩:=mem_ready.1 hj
   have hiun:=(mem_ready.1 hr).1
   have hiun':listed.getD i false=false:=by
    rcases Nat.lt_or_ge i listed.size with h'|h'
    ·simp [h'] at hiun⊢;exact hiun
    ·simp [Array.getElem?_eq_none h']
   have hnot: ∀e∈oj.after,Region.binds md e=true→e.on≠i:=fun e he hb heq=>by
    have h1:=hall e he hb
    rw[heq,hiun'] at h1
    cases h1
   have h2:=wpOp_putIf hoj (hfree j oj hoj hji hjun hnot) (fun cs b=>hsel i oi cs b hi) (fun cs b=>hsel j oj cs b hoj) hQ hy h1
   have hfree': ∀k ok,ops[k]? =some ok→k≠i→(listed.setIfInBounds j true).getD k true=false→
     (∀e∈ok.after,Region.binds md e=true→e.on≠i)→oi.apart ops ok=true:=fun k ok hk hki hun hno=>by
    refine hfree k ok hk hki ?_ hno
    by_cases hjk:j=k
    ·subst hjk;exact hjun
    ·rw[getD_set_ne true hjk] at hun;exact hun
   refine wpOp_mono (fun a' w' h3=>?_) h2
   obtain⟨h3a,h3b,h3c⟩:=h3
   have hSj:any=true∨S w':=by
    cases hany:any with
    |true=>exact .inl rfl
    |false=>
     have htj:=htail hany listed j hiun' hj
     rcases h3b with h|h
     ·rw[htj] at h;cases h
     ·exact .inr (h (hS.resolve_left (by simp [hany])))
   refine⟨h3b,?_⟩
   refine ih (listed.setIfInBounds j true) a' w' hfree' (ready_mono hr (Ne.symm hji)) h3a hSj ?_
   rw[Array.setIfInBounds_comm _ _ hji];exact h3c
theorem zeY {i:Nat} {oi:Oper} {v:Value} {fuel:Nat} {listed:Array Bool} {a:Act} {w:World} (any:Bool) (hi:ops[i]? =some oi)
  (hs:Region.noSelect ops=true) (hf:Region.free md ops listed i=true) (hr:(Region.ready md ops listed).contains i=true)
  (hQ: ∀c a w,Q (.panic c) (a.put oi.dst v) w→Q (.panic c) a w) (htail:any=false→ ∀ (listed:Array Bool) j,listed.getD i false=false→j∈Region.ready md ops listed→tail j=false)
  (hy:YieldsIf P ops (fun w=>any=true∨S w) oi v a) (hS:any=true∨S w)
  (h:zbG P md ops Q S tail fuel (listed.setIfInBounds i true) (a.put oi.dst v) w):zbG P md ops Q S tail (fuel+1) listed a w:=
 znP any hi (Region.noSelect_spec hs) hQ htail fuel listed a w (Region.free_spec hi hf) (by simpa using hr) hy hS h
theorem zkH {rs:List Nat} {fuel:Nat} {listed:Array Bool} {a:Act} {w:World} (hr: ∀i∈Region.ready md ops listed,i∈rs) (hne:Region.ready md ops listed≠[])
  (h: ∀i∈rs,wpOp P ops Q i (fun a' w'=>(tail i=true∨(S w→S w'))∧zbG P md ops Q S tail fuel (listed.setIfInBounds i true) a' w') a w):zbG P md ops Q S tail (fuel+1) listed a w:=
 ⟨fun h0=>absurd h0 hne,fun i hi=>h i (hr i hi)⟩
theorem zpD {listed:Array Bool} {a:Act} {w:World} (hr:Region.ready md ops listed=[]) (h:Q .normal a w): ∀fuel,zbG P md ops Q S tail fuel listed a w
 |0=>⟨hr,h⟩
 |_+1=>⟨fun _=>h,by rw[hr];simp⟩
end any
inductive DT where
 |nil
 |op (i:Nat) (t:DT)
 |both (s t:DT)
def DT.heads:DT→List Nat
 | .nil=>[]
 | .op i _=>[i]
 | .both s t=>s.heads++t.heads
def DT.depth:DT→Nat
 | .nil=>0
 | .op _ t=>t.depth+1
 | .both s t=>max (max s.depth t.depth) 1
def za4 (ops:Array Oper) (L:List Nat) (j:Nat):Bool:=
 !L.isEmpty&&L.all fun i=>match ops[j]? with|some o=>o.after.any fun e=>Region.binds .any e&&e.on==i|none=>false
def zfX:Op→Bool
 | .load .. =>true
 |_=>false
def znQ (T:Tys) (ops:Array Oper) (L:List Nat) (i:Nat):Bool:=
 match ops[i]? with
 |some o=>zcj T o.op||(zfX o.op&&L.contains i)
 |none=>false
def DT.ok (T:Tys) (ops:Array Oper) (L:List Nat):DT→Bool→Array Bool→Bool
 | .nil,_,listed=>(Region.ready .any ops listed).isEmpty
 | .op i t,seen,listed=>(if znQ T ops L i&& !seen then(Region.ready .any ops listed).contains i&&Region.free .any ops listed i
   else(ops[i]?).isSome&&(seen||((Region.ready .any ops listed).all fun j=>j==i)&& !(Region.ready .any ops listed).isEmpty))&&t.ok T ops L false (listed.setIfInBounds i true)
 | .both s t,seen,listed=>(seen||((Region.ready .any ops listed).all fun j=>(s.heads++t.heads).contains j)&& !(Region.ready .any ops listed).isEmpty)&&s.ok T ops L true listed&&t.ok T ops L true listed
def zc4 (Hs H:za) (k:Prop) (_:Tok k:= .mk):Prop:=(∀p∈Hs,p∈H)∧k
def zgy (T:Tys) (Gs:zb) (Hs:za) (op:Op) (l:Fr) (k:Value→Prop) (_:Tok k:= .mk):Prop:=
 match op with
 | .load t x=>zC (ev l x) fun v=>zej T Gs Hs t v k
 |_=>False
def wpT (P:Program) (T:Tys) (all:List Oper) (L:List Nat) (Gs:zb) (Hs:za) (t:DT) (G:zb) (l:Fr) (H:za) (K:zb→Fr→za→Prop) (_:Tok all:= .mk) (_:Tok t:= .mk) (_:Tok K:= .mk):Prop:=
 match t with
 | .nil=>K G l H
 | .both s t=>wpT P T all L Gs Hs s G l H K∧wpT P T all L Gs Hs t G l H K
 | .op i t=>opK (zcN all i) fun o=>
   if zfX o.op&&L.contains i then zch all o.guard l (fun l'=>zgy T Gs Hs o.op l' fun v=>wpT P T all L Gs Hs t G (put l' o.dst v) H K) (fun l'=>wpT P T all L Gs Hs t G (put l' o.dst undef) H K)
   else zeo P T all o G l H fun G' l' H'=>if zcj T o.op||za4 all.toArray L i then wpT P T all L Gs Hs t G' l' H' K else zc4 Hs H' (wpT P T all L Gs Hs t G' l' H' K)
theorem zjJ {ops:Array Oper} {L:List Nat} {i j:Nat} (hi:i∈L) {listed:Array Bool} (hl:listed.getD i false=false) (hj:j∈Region.ready .any ops listed):za4 ops L j=false:=by
 cases ht:za4 ops L j with
 |false=>rfl
 |true=>
  exfalso
  simp only[za4,Bool.and_eq_true,List.all_eq_true] at ht
  have h1:=ht.2 i hi
  obtain⟨_,o,ho,hall⟩:=mem_ready.1 hj
  simp only[ho] at h1
  obtain⟨e,he,hb⟩:=Array.any_eq_true'.1 h1
  simp only[Bool.and_eq_true,beq_iff_eq] at hb
  have:=hall e he hb.1
  rw[hb.2,hl] at this
  cases this
theorem zme {P:Program} {T:Tys} (hT:zT P T) {Gs:zb} {Hs:za} {o:Oper} {sz:Nat} {G:zb} {l:Fr} {H:za} {a:Act} {w0:World} {k:Value→Prop}
  (h:zgy T Gs Hs o.op l k) (hs:Sim E sz G l H a w0): ∃v,k v∧ ∀ {E:Env} w,HeapOk E Gs Hs w→(execOp a.eval o).run P w= .ok (.value v) w:=by
 obtain⟨dst,op,ty,pos,after,guard⟩:=o
 cases op <;> simp only[zgy] at h
 case load t x=>
  have h1:=zx hs h
  obtain⟨v,h2,h3⟩:=zhn (P:=P) (G:=Gs) (Instr.loadAt t (a.eval x)) (H:=Hs) (k:=fun v _=>k v) (zfQ hT h1)
  refine⟨v,h2,fun w hw=>?_⟩
  show((do pure (.value (←Instr.loadAt t (a.eval x))):Sem Next)).run P w=_
  rw[Sem.run_bind,h3 w hw]
  rfl
theorem zxf {Gs G':zb} {Hs H':za} {w w':World} (hle:PLe Gs G') (hw:HeapOk E Gs Hs w) (hw':HeapOk E G' H' w') (hsub: ∀p∈Hs,p∈H'):HeapOk E Gs Hs w':=
 ⟨hw'.env,fun b o hb=>hw'.pers b o (hle b o hb),fun p hp=>hw'.own p (hsub p hp),hw.sep,hw'.dfr.1,fun D hD=>⟨(hw'.dfr.2 D hD).1,(hw.dfr.2 D hD).2⟩⟩
section sound
variable {P:Program} {T:Tys} {ops:Array Oper} {sz:Nat} {Q:Exit→Act→World→Prop} {L:List Nat} {Gs:zb} {Hs:za}
theorem zsX (hT:zT P T) (hlt:zhd sz ops.toList=true) {i:Nat} {t:DT} {G:zb} {l:Fr} {H:za} {a:Act} {w:World} {K:zb→Fr→za→Prop} (hle0:PLe Gs G)
  (hnf:zfX (ops[i]?.getD default).op=true→L.contains i=true→HeapOk E Gs Hs w)
  (h:wpT P T ops.toList L Gs Hs (.op i t) G l H K) (hs:Sim E sz G l H a w) {fuel:Nat} {listed':Array Bool}
  (hrest: ∀G' l' H' a' w',PLe G G'→Sim E sz G' l' H' a' w'→(HeapOk E Gs Hs w→za4 ops L i=false→HeapOk E Gs Hs w')→wpT P T ops.toList L Gs Hs t G' l' H' K→zbG P .any ops Q (HeapOk E Gs Hs) (za4 ops L) fuel listed' a' w'):
  wpOp P ops Q i (fun a' w'=>(za4 ops L i=true∨(HeapOk E Gs Hs w→HeapOk E Gs Hs w'))∧zbG P .any ops Q (HeapOk E Gs Hs) (za4 ops L) fuel listed' a' w') a w:=by
 simp only[wpT,zcN,opK,Array.getElem?_toList] at h
 cases ho:ops[i]? with
 |none=>rw[ho] at h;exact h.elim
 |some o=>
  simp only[ho] at h
  have hmem:o∈ops.toList:=by have:=Array.mem_of_getElem? ho;simpa using this
  have hdo:=zgU hlt o hmem
  unfold wpOp
  simp only[ho]
  split at h
  ·rename_i hc
   simp only[Bool.and_eq_true] at hc
   have hSw:HeapOk E Gs Hs w:=hnf (by rw[ho];exact hc.1) hc.2
   obtain⟨l',hs',hcase⟩:=zgx h hs
   rcases hcase with ⟨hw,hy⟩| ⟨hw,hn⟩
   ·rw[if_pos hw]
    obtain⟨v,h1,h2⟩:=zme hT hy hs'
    refine .inl ?_
    unfold Oper.wp
    rw[h2 w hSw]
    exact⟨.inr id,hrest _ _ _ _ _ (PLe.refl _) (hs'.put hs'.heap hdo) (fun h _=>h) h1⟩
   ·rw[if_neg (by simp [hw])]
    exact⟨.inr id,hrest _ _ _ _ _ (PLe.refl _) (hs'.put hs'.heap hdo) (fun h _=>h) hn⟩
  ·unfold zeo at h
   obtain⟨l',hs',hcase⟩:=zgx h hs
   have fin: ∀ {G':zb} {l2:Fr} {H':za} {a':Act} {w':World},PLe G G'→Sim E sz G' l2 H' a' w'→(zcj T o.op=true→HeapOk E Gs Hs w→HeapOk E Gs Hs w')→
     (if (zcj T o.op||za4 ops L i)=true then wpT P T ops.toList L Gs Hs t G' l2 H' K else zc4 Hs H' (wpT P T ops.toList L Gs Hs t G' l2 H' K))→
     (za4 ops L i=true∨(HeapOk E Gs Hs w→HeapOk E Gs Hs w'))∧zbG P .any ops Q (HeapOk E Gs Hs) (za4 ops L) fuel listed' a' w':=fun hle hs2 hpu hh=>by
    split at hh
    ·rename_i hp
     cases htl:za4 ops L i with
     |true=>exact⟨.inl rfl,hrest _ _ _ _ _ hle hs2 (fun _ h=>by rw[htl] at h;cases h) hh⟩
     |false=>
      have hp':zcj T o.op=true:=by simpa [htl] using hp
      exact⟨.inr (hpu hp'),hrest _ _ _ _ _ hle hs2 (fun h _=>hpu hp' h) hh⟩
    ·obtain⟨hsub,hh⟩:=hh
     have hkeep:HeapOk E Gs Hs w→HeapOk E Gs Hs _:=fun h=>zxf (hle0.trans hle) h hs2.heap hsub
     exact⟨.inr hkeep,hrest _ _ _ _ _ hle hs2 (fun h _=>hkeep h) hh⟩
   rcases hcase with ⟨hw,hy⟩| ⟨hw,hn⟩
   ·rw[if_pos hw]
    refine .inl ?_
    by_cases hp:zcj T o.op=true
    ·obtain⟨v,h1,h2⟩:=zmd hT hp hy hs'
     unfold Oper.wp
     rw[h2 w]
     exact fin (PLe.refl _) (hs'.put hs'.heap hdo) (fun _ h=>h) h1
    ·exact zjE hT hy hs' fun v G' H' w' hle hw' hk'=>fin hle (hs'.put hw' hdo) (fun h=>absurd h hp) hk'
   ·rw[if_neg (by simp [hw])]
    exact fin (PLe.refl _) (hs'.put hs'.heap hdo) (fun _ h=>h) hn
theorem zsY (hT:zT P T) (hsel:Region.noSelect ops=true) (hlt:zhd sz ops.toList=true) (hQ: ∀c a a' w,Q (.panic c) a w→Q (.panic c) a' w) {K:zb→Fr→za→Prop}:
  ∀ (t:DT) (listed:Array Bool) {G:zb} {l:Fr} {H:za} {a:Act} {w:World} (fuel:Nat),PLe Gs G→Sim E sz G l H a w→wpT P T ops.toList L Gs Hs t G l H K→
  (HeapOk E Gs Hs w∨ ∀i∈L,listed.getD i false=true)→
  (∀G' l' H' a' w',PLe G G'→Sim E sz G' l' H' a' w'→K G' l' H'→Q .normal a' w')→
  (t.ok T ops L false listed=true→t.depth≤fuel→zbG P .any ops Q (HeapOk E Gs Hs) (za4 ops L) fuel listed a w)∧
  (t.ok T ops L true listed=true→t.depth≤fuel+1→ ∀i∈t.heads,i∈Region.ready .any ops listed→wpOp P ops Q i (fun a' w'=>(za4 ops L i=true∨(HeapOk E Gs Hs w→HeapOk E Gs Hs w'))∧zbG P .any ops Q (HeapOk E Gs Hs) (za4 ops L) fuel (listed.setIfInBounds i true) a' w') a w):=by
 intro t
 induction t with
 |nil=>
  intro listed G l H a w fuel hle hs h hS hk
  refine⟨fun hok _=>zpD (by simpa [DT.ok] using hok) (hk G l H a w (PLe.refl _) hs h) fuel,fun _ _ i hi=>by cases hi⟩
 |op i t ih=>
  intro listed G l H a w fuel hle hs h hS hk
  have carry: ∀fuel,i∈Region.ready .any ops listed→t.ok T ops L false (listed.setIfInBounds i true)=true→t.depth≤fuel→
    wpOp P ops Q i (fun a' w'=>(za4 ops L i=true∨(HeapOk E Gs Hs w→HeapOk E Gs Hs w'))∧zbG P .any ops Q (HeapOk E Gs Hs) (za4 ops L) fuel (listed.setIfInBounds i true) a' w') a w:=fun fuel hr hok hf=>by
   refine zsX hT hlt hle ?_ h hs ?_
   ·intro _ hL
    rcases hS with hS|hS
    ·exact hS
    ·exfalso
     have h1:=(mem_ready.1 hr).1
     have h2:=hS i (by simpa using hL)
     rcases Nat.lt_or_ge i listed.size with h'|h'
     ·simp [h'] at h1 h2;rw[h1] at h2;cases h2
     ·simp [Array.getElem?_eq_none h'] at h1
   ·intro G' l' H' a' w' hle' hs' hkeep hwp
    refine(ih (listed.setIfInBounds i true) fuel (hle.trans hle') hs' hwp ?_ (fun G2 l2 H2 a2 w2 hle2 hs2 hk2=>hk G2 l2 H2 a2 w2 (hle'.trans hle2) hs2 hk2)).1 hok hf
    have hall:(∀j∈L,listed.getD j false=true)→ ∀j∈L,(listed.setIfInBounds i true).getD j false=true:=fun h j hj=>getD_set_true (h j hj)
    rcases hS with hS|hS
    ·cases htl:za4 ops L i with
     |false=>exact .inl (hkeep hS htl)
     |true=>
      refine .inr (hall fun j hj=>?_)
      cases hg:listed.getD j false with
      |true=>rfl
      |false=>have:=zjJ hj hg hr;rw[htl] at this;cases this
    ·exact .inr (hall hS)
  refine⟨fun hok hf=>?_,fun hok hf j hj hr=>?_⟩
  ·obtain⟨fuel,rfl⟩: ∃f,fuel=f+1:=⟨fuel - 1,by simp only[DT.depth] at hf;omega⟩
   simp only[DT.depth] at hf
   simp only[DT.ok,Bool.and_eq_true] at hok
   obtain⟨hok1,hok2⟩:=hok
   by_cases hfirst:znQ T ops L i=true
   ·rw[if_pos (by simp [hfirst]),Bool.and_eq_true] at hok1
    have hr:i∈Region.ready .any ops listed:=by simpa using hok1.1
    simp only[wpT,zcN,opK,Array.getElem?_toList] at h
    unfold znQ at hfirst
    cases ho:ops[i]? with
    |none=>rw[ho] at h;exact h.elim
    |some o=>
     simp only[ho] at h hfirst
     have hmem:o∈ops.toList:=by have:=Array.mem_of_getElem? ho;simpa using this
     have hdo:=zgU hlt o hmem
     have next: ∀ {l':Fr} {v:Value},Sim E sz G (put l' o.dst v) H (a.put o.dst v) w→wpT P T ops.toList L Gs Hs t G (put l' o.dst v) H K→zbG P .any ops Q (HeapOk E Gs Hs) (za4 ops L) fuel (listed.setIfInBounds i true) (a.put o.dst v) w:=fun hs2 hwp=>
      (ih (listed.setIfInBounds i true) fuel hle hs2 hwp (match hS with| .inl hS=> .inl hS| .inr hS=> .inr fun j hj=>getD_set_true (hS j hj)) hk).1 hok2 (by omega)
     have hunl:HeapOk E Gs Hs w∨L.contains i=false:=by
      rcases hS with hS|hS
      ·exact .inl hS
      ·refine .inr ?_
       cases hc:L.contains i with
       |false=>rfl
       |true=>
        exfalso
        have h1:=(mem_ready.1 hr).1
        have h2:=hS i (by simpa using hc)
        rcases Nat.lt_or_ge i listed.size with h'|h'
        ·simp [h'] at h1 h2;rw[h1] at h2;cases h2
        ·simp [Array.getElem?_eq_none h'] at h1
     by_cases hl:(zfX o.op&&L.contains i)=true
     ·rw[if_pos hl] at h
      simp only[Bool.and_eq_true] at hl
      have hSw:HeapOk E Gs Hs w:=hunl.resolve_right (by rw[hl.2];simp)
      obtain⟨l',hs',hcase⟩:=zgx h hs
      have htail:false=false→ ∀ (listed:Array Bool) j,listed.getD i false=false→j∈Region.ready .any ops listed→za4 ops L j=false:=fun _ listed j h1 h2=>zjJ (by simpa using hl.2) h1 h2
      rcases hcase with ⟨hw,hy⟩| ⟨hw,hn⟩
      ·obtain⟨v,h1,h2⟩:=zme hT hy hs'
       exact zeY false ho hsel hok1.2 hok1.1 (fun c a w hq=>hQ c _ _ w hq) htail (v:=v) (.inl ⟨hw,fun w hw=>h2 w (hw.resolve_left (by simp))⟩) (.inr hSw) (next (hs'.put hs'.heap hdo) h1)
      ·exact zeY false ho hsel hok1.2 hok1.1 (fun c a w hq=>hQ c _ _ w hq) htail (v:=undef) (.inr ⟨hw,rfl⟩) (.inr hSw) (next (hs'.put hs'.heap hdo) hn)
     ·rw[if_neg hl] at h
      have hp:zcj T o.op=true:=by
       simp only[Bool.or_eq_true] at hfirst
       exact hfirst.resolve_right hl
      unfold zeo at h
      obtain⟨l',hs',hcase⟩:=zgx h hs
      rcases hcase with ⟨hw,hy⟩| ⟨hw,hn⟩
      ·obtain⟨v,h1,h2⟩:=zmd hT hp hy hs'
       rw[if_pos (by simp [hp])] at h1
       exact zeY true ho hsel hok1.2 hok1.1 (fun c a w hq=>hQ c _ _ w hq) (fun h=>by cases h) (v:=v) (.inl ⟨hw,fun w _=>h2 w⟩) (.inl rfl) (next (hs'.put hs'.heap hdo) h1)
      ·rw[if_pos (by simp [hp])] at hn
       exact zeY true ho hsel hok1.2 hok1.1 (fun c a w hq=>hQ c _ _ w hq) (fun h=>by cases h) (v:=undef) (.inr ⟨hw,rfl⟩) (.inl rfl) (next (hs'.put hs'.heap hdo) hn)
   ·rw[if_neg (by simp [hfirst])] at hok1
    simp only[Bool.false_or,Bool.and_eq_true] at hok1
    have hne:Region.ready .any ops listed≠[]:=by
     have:=hok1.2.2
     simpa using this
    have hall: ∀j∈Region.ready .any ops listed,j=i:=by
     have:=hok1.2.1
     simpa using this
    refine zkH (rs:=[i]) (fun j hj=>by simp [hall j hj]) hne fun j hj=>?_
    obtain rfl:j=i:=by simpa using hj
    refine carry fuel ?_ hok2 (by omega)
    obtain⟨x,hx⟩:=List.exists_mem_of_ne_nil _ hne
    rw[←hall x hx];exact hx
  ·simp only[DT.heads,List.mem_singleton] at hj
   subst hj
   simp only[DT.depth] at hf
   simp only[DT.ok,Bool.and_eq_true] at hok
   exact carry fuel hr hok.2 (by omega)
 |both s t ihs iht=>
  intro listed G l H a w fuel hle hs h hS hk
  simp only[wpT] at h
  have B: ∀fuel,s.ok T ops L true listed=true→t.ok T ops L true listed=true→max s.depth t.depth≤fuel+1→ ∀i∈s.heads++t.heads,i∈Region.ready .any ops listed→wpOp P ops Q i (fun a' w'=>(za4 ops L i=true∨(HeapOk E Gs Hs w→HeapOk E Gs Hs w'))∧zbG P .any ops Q (HeapOk E Gs Hs) (za4 ops L) fuel (listed.setIfInBounds i true) a' w') a w:=fun fuel h1 h2 hf i hi hr=>by
   rcases List.mem_append.1 hi with hi|hi
   ·exact(ihs listed fuel hle hs h.1 hS hk).2 h1 (by omega) i hi hr
   ·exact(iht listed fuel hle hs h.2 hS hk).2 h2 (by omega) i hi hr
  refine⟨fun hok hf=>?_,fun hok hf i hi hr=>?_⟩
  ·simp only[DT.ok,Bool.false_or,Bool.and_eq_true] at hok
   have hne:Region.ready .any ops listed≠[]:=by
    have:=hok.1.1.2
    simpa using this
   have hall: ∀j∈Region.ready .any ops listed,j∈s.heads++t.heads:=by
    have:=hok.1.1.1
    simpa using this
   cases fuel with
   |zero=>
    exfalso
    obtain⟨x,hx⟩:=List.exists_mem_of_ne_nil _ hne
    have hx':=hall x hx
    simp only[DT.depth] at hf
    rcases List.mem_append.1 hx' with hx'|hx'
    ·cases s with
     |nil=>cases hx'
     |op i s=>simp only[DT.depth] at hf;omega
     |both s1 s2=>simp only[DT.depth] at hf;omega
    ·cases t with
     |nil=>cases hx'
     |op i s=>simp only[DT.depth] at hf;omega
     |both s1 s2=>simp only[DT.depth] at hf;omega
   |succ fuel=>
    simp only[DT.depth] at hf
    refine zkH (rs:=Region.ready .any ops listed) (fun j hj=>hj) hne fun i hi=>B fuel hok.1.2 hok.2 (by omega) i (hall i hi) hi
  ·simp only[DT.ok,Bool.true_or,Bool.true_and,Bool.and_eq_true] at hok
   simp only[DT.depth] at hf
   exact B fuel hok.1 hok.2 (by omega) i hi hr
end sound
theorem Tri.drawT {P:Program} {T:Tys} (hT:zT P T) (hm:P.follows .mixedOrders=true) {sz:Nat} (keep:List Nat) (id:Nat) {ops:List Oper} {G:zb} {l:Fr} {H:za} {K:zaO} (L:List Nat) (t:DT)
  (hok:(Region.noSelect ops.toArray&&zhd sz ops&&t.ok T ops.toArray L false (Array.replicate ops.toArray.size false)&&decide (t.depth≤ops.toArray.size))=true)
  (Hs:za) (hsub: ∀ {E:Env} {w:World},HeapOk E G H w→HeapOk E G Hs w)
  (h:wpT P T ops L G Hs t G l H fun G' l' H'=>K .normal G' (zy keep l') H'):Tri P sz (.region id ops.toArray true) G l H K:=by
 intro E a w Q hs hk
 simp only[Bool.and_eq_true,decide_eq_true_eq] at hok
 obtain⟨⟨⟨h1,h2⟩,h3⟩,h4⟩:=hok
 refine wp_mono (Q:=fun e a w=>match e with| .normal=>Q .normal a w|_=>False) (wp_region_any hm (zkG (S:=HeapOk E G Hs) (tail:=za4 ops.toArray L) _ _ _ _ ?_)) (fun e a w hq=>by cases e <;> first|exact hq|exact hq.elim)
 have hs1:Sim E sz G l H a {w with drawn:=w.drawn+1}:=⟨hs.size,hs.defers,hs.fr,hs.heap.drew _⟩
 refine(zsY hT (ops:=ops.toArray) h1 h2 (fun c a a' w hq=>hq.elim) t _ _ (PLe.refl _) hs1 h (.inl (hsub hs1.heap)) ?_).1 h3 h4
 intro G' l' H' a' w' hle hs' hk'
 exact hk E .normal G' _ H' a' w' (Env.le.refl E) hle (hs'.weak (zaX keep l')) hk'
inductive DO where
 |plain|held|keeps
inductive DM where
 |nil
 |op (i:Nat) (m:DO) (t:DM)
 |both (s t:DM)
def DM.bare:DM→DT
 | .nil=> .nil
 | .op i _ t=> .op i t.bare
 | .both s t=> .both s.bare t.bare
def DM.fits (T:Tys) (ops:Array Oper) (L:List Nat):DM→Bool
 | .nil=>true
 | .both s t=>s.fits T ops L&&t.fits T ops L
 | .op i m t=>t.fits T ops L&&match ops[i]? with
  |none=>false
  |some o=>match m with
   | .held=>zfX o.op&&L.contains i
   | .plain=> !(zfX o.op&&L.contains i)&&(zcj T o.op||za4 ops L i)
   | .keeps=> !(zfX o.op&&L.contains i)&& !(zcj T o.op||za4 ops L i)
def wpM (P:Program) (T:Tys) (all:List Oper) (Gs:zb) (Hs:za) (t:DM) (G:zb) (l:Fr) (H:za) (K:zb→Fr→za→Prop) (_:Tok all:= .mk) (_:Tok t:= .mk) (_:Tok K:= .mk):Prop:=
 match t with
 | .nil=>K G l H
 | .both s t=>wpM P T all Gs Hs s G l H K∧wpM P T all Gs Hs t G l H K
 | .op i .plain t=>opK (zcN all i) fun o=>zeo P T all o G l H fun G' l' H'=>wpM P T all Gs Hs t G' l' H' K
 | .op i .held t=>opK (zcN all i) fun o=>zch all o.guard l (fun l'=>zgy T Gs Hs o.op l' fun v=>wpM P T all Gs Hs t G (put l' o.dst v) H K) (fun l'=>wpM P T all Gs Hs t G (put l' o.dst undef) H K)
 | .op i .keeps t=>opK (zcN all i) fun o=>zeo P T all o G l H fun G' l' H'=>zc4 Hs H' (wpM P T all Gs Hs t G' l' H' K)
theorem zyk {P:Program} {T:Tys} {ops:Array Oper} {L:List Nat} {Gs:zb} {Hs:za} {K:zb→Fr→za→Prop}: ∀ (t:DM),t.fits T ops L=true→ ∀ (G:zb) (l:Fr) (H:za),
  wpM P T ops.toList Gs Hs t G l H K=wpT P T ops.toList L Gs Hs t.bare G l H K:=by
 intro t
 induction t with
 |nil=>intro _ G l H;rfl
 |both s t ihs iht=>
  intro h G l H
  simp only[DM.fits,Bool.and_eq_true] at h
  simp only[wpM,DM.bare,wpT,ihs h.1,iht h.2]
 |op i m t ih=>
  intro h G l H
  simp only[DM.fits,Bool.and_eq_true] at h
  have ih':=ih h.1
  have e:(fun G' l' H'=>wpM P T ops.toList Gs Hs t G' l' H' K)=(fun G' l' H'=>wpT P T ops.toList L Gs Hs t.bare G' l' H' K):=by
   funext G' l' H';exact ih' G' l' H'
  have h2:=h.2
  simp only[DM.bare,wpT,zcN,opK,Array.getElem?_toList]
  cases ho:ops[i]? with
  |none=>rw[ho] at h2;cases h2
  |some o=>
   rw[ho] at h2
   cases m with
   |held=>
    simp only[] at h2
    simp only[wpM,zcN,opK,Array.getElem?_toList,ho,h2,if_true]
    have e1: ∀l',(fun v=>wpM P T ops.toList Gs Hs t G (put l' o.dst v) H K)=(fun v=>wpT P T ops.toList L Gs Hs t.bare G (put l' o.dst v) H K):=fun l'=>by funext v;exact ih' _ _ _
    have e2:(fun l'=>wpM P T ops.toList Gs Hs t G (put l' o.dst undef) H K)=(fun l'=>wpT P T ops.toList L Gs Hs t.bare G (put l' o.dst undef) H K):=by funext l';exact ih' _ _ _
    have e3:(fun l'=>zgy T Gs Hs o.op l' fun v=>wpM P T ops.toList Gs Hs t G (put l' o.dst v) H K)=(fun l'=>zgy T Gs Hs o.op l' fun v=>wpT P T ops.toList L Gs Hs t.bare G (put l' o.dst v) H K):=by
     funext l';rw[e1 l']
    rw[e3,e2]
   |plain=>
    simp only[Bool.and_eq_true,Bool.not_eq_true'] at h2
    simp only[wpM,zcN,opK,Array.getElem?_toList,ho,h2.1]
    have e5:(fun G' l' H'=>if (zcj T o.op||za4 ops.toList.toArray L i)=true then wpT P T ops.toList L Gs Hs t.bare G' l' H' K else zc4 Hs H' (wpT P T ops.toList L Gs Hs t.bare G' l' H' K))=(fun G' l' H'=>wpT P T ops.toList L Gs Hs t.bare G' l' H' K):=by
     funext G' l' H'
     have h3:=h2.2
     rw[if_pos h3]
    rw[if_neg (by decide),e,←e5]
   |keeps=>
    simp only[Bool.and_eq_true,Bool.not_eq_true'] at h2
    simp only[wpM,zcN,opK,Array.getElem?_toList,ho,h2.1,h2.2,Bool.false_eq_true,if_false]
    have e4:(fun G' l' H'=>zc4 Hs H' (wpM P T ops.toList Gs Hs t G' l' H' K))=(fun G' l' H'=>zc4 Hs H' (wpT P T ops.toList L Gs Hs t.bare G' l' H' K)):=by
     funext G' l' H';rw[ih' G' l' H']
    have e5:(fun G' l' H'=>if (zcj T o.op||za4 ops.toList.toArray L i)=true then wpT P T ops.toList L Gs Hs t.bare G' l' H' K else zc4 Hs H' (wpT P T ops.toList L Gs Hs t.bare G' l' H' K))=(fun G' l' H'=>zc4 Hs H' (wpT P T ops.toList L Gs Hs t.bare G' l' H' K)):=by
     funext G' l' H'
     have h3:=h2.2
     rw[if_neg (show ¬(zcj T o.op||za4 ops.toList.toArray L i)=true by rw[show ops.toList.toArray=ops from rfl,h3];decide)]
    rw[e4,←e5]
def zkI (T:Tys) (sz:Nat) (ops:List Oper) (L:List Nat) (t:DM):Bool:=
 Region.noSelect ops.toArray&&zhd sz ops&&t.bare.ok T ops.toArray L false (Array.replicate ops.toArray.size false)&&decide (t.bare.depth≤ops.toArray.size)&&t.fits T ops.toArray L
theorem Tri.drawG {P:Program} {T:Tys} (hT:zT P T) (hm:P.follows .mixedOrders=true) {sz:Nat} (keep:List Nat) (id:Nat) {ops:List Oper} {G:zb} {l:Fr} {H:za} {K:zaO} (L:List Nat) (t:DM)
  (hok:zkI T sz ops L t=true) (Hs:za) (hsub: ∀ {E:Env} {w:World},HeapOk E G H w→HeapOk E G Hs w)
  (h:wpM P T ops G Hs t G l H fun G' l' H'=>K .normal G' (zy keep l') H'):Tri P sz (.region id ops.toArray true) G l H K:=by
 simp only[zkI,Bool.and_eq_true] at hok
 refine Tri.drawT hT hm keep id L t.bare ?_ Hs hsub ?_
 ·simp only[Bool.and_eq_true];exact hok.1
 ·have:=zyk (P:=P) (T:=T) (ops:=ops.toArray) (L:=L) (Gs:=G) (Hs:=Hs) (K:=fun G' l' H'=>K .normal G' (zy keep l') H') t hok.2 G l H
  rw[←this];exact h
theorem Tri.drawM {P:Program} {T:Tys} (hT:zT P T) (hm:P.follows .mixedOrders=true) {sz:Nat} (keep:List Nat) (id:Nat) {ops:List Oper} {G:zb} {l:Fr} {H:za} {K:zaO} (L:List Nat) (t:DM)
  (hok:zkI T sz ops L t=true) (Hs:za) (hsub:Hs.Sublist H)
  (h:wpM P T ops G Hs t G l H fun G' l' H'=>K .normal G' (zy keep l') H'):Tri P sz (.region id ops.toArray true) G l H K:=
 Tri.drawG hT hm keep id L t hok Hs (fun h=>h.sub hsub) h
def zcB (l:Fr):List Nat→za→za
 | [],_=>[]
 |t::ts,H=>match look l t with
  |some (.pointer (some ⟨b,_,none⟩))=>match zq H b with
   |some r=>(b,r)::zcB l ts (zac H b)
   |none=>zcB l ts H
  |_=>zcB l ts H
theorem zro {H:za} {b:Nat} {r:Res} (hf:zq H b=some r):zab H b r=H:=by
 induction H with
 |nil=>rfl
 |cons p H ih=>
  obtain⟨k,s⟩:=p
  simp only[zq] at hf
  simp only[zab]
  split at hf
  ·rename_i hk;rw[if_pos hk];cases hf;rfl
  ·rename_i hk;rw[if_neg hk,ih hf]
theorem zfz (l:Fr): ∀ (ts:List Nat) (H:za),∃r,H.Perm (zcB l ts H++r)
 | [],H=>⟨H,List.Perm.refl _⟩
 |t::ts,H=>by
  simp only[zcB]
  split
  ·rename_i b o hv
   split
   ·rename_i r hr
    obtain⟨rest,h2⟩:=zfz l ts (zac H b)
    have h1:=ziu (r':=r) hr
    rw[zro hr] at h1
    exact⟨rest,h1.trans (h2.cons _)⟩
   ·exact zfz l ts H
  ·exact zfz l ts H
theorem Tri.drawH {P:Program} {T:Tys} (hT:zT P T) (hm:P.follows .mixedOrders=true) {sz:Nat} (keep:List Nat) (id:Nat) {ops:List Oper} {G:zb} {l:Fr} {H:za} {K:zaO} (L:List Nat) (t:DM)
  (hok:zkI T sz ops L t=true) (ts:List Nat)
  (h:wpM P T ops G (zcB l ts H) t G l H fun G' l' H'=>K .normal G' (zy keep l') H'):Tri P sz (.region id ops.toArray true) G l H K:=
 Tri.drawG hT hm keep id L t hok (zcB l ts H) (fun h=>by
  obtain⟨r,hr⟩:=zfz l ts H
  exact(h.perm hr).sub (List.sublist_append_left _ _)) h
def zkJ (l:Fr) (ts:List Nat) (H:za) (b:Nat):Option Res→za
 |some r=>(b,r)::zcB l ts (zac H b)
 |none=>zcB l ts H
def zni (l:Fr) (ts:List Nat) (H:za):Option Value→za
 |some (.pointer (some ⟨b,_,none⟩))=>zkJ l ts H b (zq H b)
 |_=>zcB l ts H
theorem zsZ (l:Fr) (H:za):zcB l [] H=[]:=rfl
theorem zrp (l:Fr) (t:Nat) (ts:List Nat) (H:za):zcB l (t::ts) H=zni l ts H (look l t):=by
 simp only[zcB,zni,zkJ]
theorem zs0 (l:Fr) (ts:List Nat) (H:za) (b o:Nat):zni l ts H (some (.pointer (some ⟨b,o,none⟩)))=zkJ l ts H b (zq H b):=rfl
theorem zrq (l:Fr) (ts:List Nat) (H:za) (b:Nat) (r:Res):zkJ l ts H b (some r)=(b,r)::zcB l ts (zac H b):=rfl
theorem zrr (l:Fr) (ts:List Nat) (H:za) (b:Nat):zkJ l ts H b none=zcB l ts H:=rfl
theorem zs1 (b:Nat):zq [] b=none:=rfl
section
variable (P:Program) (T:Tys) (all:List Oper) (Gs:zb) (Hs:za) (s t:DM) (i:Nat) (G:zb) (l:Fr) (H:za) (K:zb→Fr→za→Prop)
theorem zxg:wpM P T all Gs Hs .nil G l H K=K G l H:=rfl
theorem zu3:wpM P T all Gs Hs (.both s t) G l H K=(wpM P T all Gs Hs s G l H K∧wpM P T all Gs Hs t G l H K):=rfl
theorem zs2:wpM P T all Gs Hs (.op i .plain t) G l H K=opK (zcN all i) fun o=>zeo P T all o G l H fun G' l' H'=>wpM P T all Gs Hs t G' l' H' K:=rfl
def zrs (o:Oper) (all:List Oper) (l:Fr) (yes:Op→Option Nat→Fr→Prop) (no:Option Nat→Fr→Prop) (_:Tok all:= .mk) (_:Tok yes:= .mk) (_:Tok no:= .mk):Prop:=
 zch all o.guard l (fun l'=>yes o.op o.dst l') (fun l'=>no o.dst l')
theorem zu4:wpM P T all Gs Hs (.op i .held t) G l H K=opK (zcN all i) fun o=>zrs o all l (fun op d l'=>zgy T Gs Hs op l' fun v=>wpM P T all Gs Hs t G (put l' d v) H K) (fun d l'=>wpM P T all Gs Hs t G (put l' d undef) H K):=rfl
theorem zpE (d:Option Nat) (op:Op) (ty:TypeId) (p:String) (af:Array Edge) (yes:Op→Option Nat→Fr→Prop) (no:Option Nat→Fr→Prop):zrs ⟨d,op,ty,p,af,none⟩ all l yes no=yes op d l:=rfl
theorem zpF (d:Option Nat) (op:Op) (ty:TypeId) (p:String) (af:Array Edge) (g:Nat×Bool) (yes:Op→Option Nat→Fr→Prop) (no:Option Nat→Fr→Prop):zrs ⟨d,op,ty,p,af,some g⟩ all l yes no=zch all (some g) l (fun l'=>yes op d l') (fun l'=>no d l'):=rfl
theorem zs3:wpM P T all Gs Hs (.op i .keeps t) G l H K=opK (zcN all i) fun o=>zeo P T all o G l H fun G' l' H'=>zc4 Hs H' (wpM P T all Gs Hs t G' l' H' K):=rfl
theorem zrt (ty:TypeId) (x:Operand) (k:Value→Prop):zgy T Gs Hs (.load ty x) l k=zC (ev l x) fun v=>zej T Gs Hs ty v k:=rfl
theorem zu5 (k:Prop):zc4 [] H k=k:=by simp [zc4]
theorem zs4 (k:Prop):zc4 H H k=k:=by simp [zc4]
theorem zs5 (p:Nat×Res) (k:Prop):zc4 H (p::H) k=k:=by
 unfold zc4;simp only[eq_iff_iff,and_iff_right_iff_imp];exact fun _ q hq=>List.mem_cons_of_mem _ hq
end
theorem zu6 (p:Nat×Res) (Hs H:za) (k:Prop) (h:p∈H):zc4 (p::Hs) H k=zc4 Hs H k:=by
 unfold zc4;simp only[List.mem_cons,forall_eq_or_imp,h,true_and]
attribute [go_sem] zsZ zrp zs0 zrq zrr zs1 zu6
attribute [go_sem] zxg zu3 zs2 zu4 zpE zpF zs3 zrt zu5 zs4 zs5
def Upd (G:zb) (H:za) (k:zb→za→Prop) (_:Tok k:= .mk):Prop:=
 ∀ ⦃E:Env⦄ (w:World),HeapOk E G H w→ ∃G' H',PLe G G'∧HeapOk E G' H' w∧k G' H'
theorem Upd.now {G:zb} {H:za} {k:zb→za→Prop} (h:k G H):Upd G H k:=fun E w hw=>⟨G,H,PLe.refl _,hw,h⟩
theorem Upd.trans {G:zb} {H:za} {k:zb→za→Prop} (h:Upd G H fun G' H'=>Upd G' H' k):Upd G H k:=fun E w hw=>by
 obtain⟨G',H',h1,h2,h3⟩:=h w hw
 obtain⟨G2,H2,g1,g2,g3⟩:=h3 w h2
 exact⟨G2,H2,h1.trans g1,g2,g3⟩
theorem Upd.sub {G:zb} {H H':za} {k:zb→za→Prop} (hs:H'.Sublist H) (h:k G H'):Upd G H k:=fun E w hw=>⟨G,H',PLe.refl _,hw.sub hs,h⟩
def zo (R:Value→zb→za→Prop) (v:Value) (G:zb) (H:za):Prop:=Upd G H fun G' H'=>R v G' H'
theorem Upd.fin {G:zb} {H:za} {R:Value→zb→za→Prop} {v v':Value} (h:R v G H) (e:v'=v):zo R v' G H:=Upd.now (e▸h)
def zbP (G:zb) (b off:Nat) (vs:List Value):Prop:= ∃cs e fr,G b=some (.cells cs e fr)∧off+vs.length≤cs.size∧(cs.toList.drop off).take vs.length=vs
theorem zbP.mono {G G':zb} (hle:PLe G G') {b off:Nat} {vs:List Value} (h:zbP G b off vs):zbP G' b off vs:=by
 obtain⟨cs,e,fr,h1,h2,h3⟩:=h
 exact⟨cs,e,fr,hle _ _ h1,h2,h3⟩
theorem zbP.obj {G:zb} {b off:Nat} {vs:List Value} (h:zbP G b off vs) {i:Nat} (hi:i<vs.length) (H:za) (k:Value→Prop):zen G H b (G b) (off+i) k=k vs[i]:=by
 obtain⟨cs,e,fr,h1,h2,h3⟩:=h
 have:cs[off+i]? =some vs[i]:=by
  have e1:((cs.toList.drop off).take vs.length)[i]? =some vs[i]:=by rw[h3];exact List.getElem?_eq_getElem hi
  rw[List.getElem?_take_of_lt hi,List.getElem?_drop,Array.getElem?_toList] at e1
  exact e1
 rw[h1]
 simp only[zen,this];rfl
theorem zbP.obj0 {G:zb} {b:Nat} {vs:List Value} (h:zbP G b 0 vs) {i:Nat} (hi:i<vs.length) (H:za) (k:Value→Prop):zen G H b (G b) i k=k vs[i]:=by
 have:=h.obj hi H k
 rwa [Nat.zero_add] at this
theorem zbP.objs {G:zb} {b off:Nat} {vs:List Value} (h:zbP G b off vs) {i n:Nat} (hi:i+n≤vs.length) (H:za) (k:List Value→Prop):zgw G H b (G b) (off+i) n k=k ((vs.drop i).take n):=by
 obtain⟨cs,e,fr,h1,h2,h3⟩:=h
 rw[h1]
 simp only[zgw]
 rw[zwO (by omega)]
 congr 1
 rw[←h3,List.drop_take,List.take_take,List.drop_drop]
 congr 1;omega
def ziB (G:zb) (b:Nat) (o:Obj):zb:=fun c=>if c=b then some o else G c
theorem zs6 (G:zb) (b:Nat) (o:Obj):ziB G b o b=some o:=by simp [ziB]
theorem zjf {G:zb} {b c:Nat} (h:c≠b) (o:Obj):ziB G b o c=G c:=by simp [ziB,h]
theorem Upd.share {G:zb} {H:za} {b:Nat} {xs sp:List Value} {e:TypeId} {k:zb→za→Prop}
  (h: ∀fr:Nat×Nat,Sep (ziB G b (.cells (xs++sp).toArray e fr)) (zm H)→k (ziB G b (.cells (xs++sp).toArray e fr)) H):Upd G ((b, .cells xs sp e)::H) k:=fun E w hw=>by
 obtain⟨o,ho,fr,rfl,_⟩:=hw.own _ (List.mem_cons_self ..)
 have hsep:=za7.1 hw.sep
 simp only[zm,List.map_cons,List.mem_cons,forall_eq_or_imp,List.nodup_cons] at hsep
 have hs':Sep (ziB G b (.cells (xs++sp).toArray e fr)) (zm H):=by
  refine za7.2 ⟨fun c hc=>?_,hsep.2.2⟩
  rw[zjf (fun e=>hsep.2.1 (by subst e;exact hc))]
  exact hsep.1.2 c hc
 refine⟨_,H,fun c o hc=>?_,⟨hw.env,fun c o hc=>?_,fun p hp=>hw.own p (List.mem_cons_of_mem _ hp),hs',hw.dfr.1,fun D hD=>⟨(hw.dfr.2 D hD).1,by have hDb:D≠b:=(fun e=>by rw[show w.heap[(b,Res.cells xs sp _).fst]? =w.heap[D]? by rw[e],(hw.dfr.2 _ hD).1] at ho;cases ho);rw[zjf hDb];exact(hw.dfr.2 D hD).2⟩⟩,h fr hs'⟩
 ·rw[zjf (fun e=>by subst e;rw[hsep.1.1] at hc;cases hc)];exact hc
 ·unfold ziB at hc
  split at hc
  ·rename_i e;subst e;cases hc;exact ho
  ·exact hw.pers c o hc
theorem FnT.upd {P:Program} {f:FuncId} {args:List Value} {G:zb} {H:za} {R:Value→zb→za→Prop} (h:FnT P f args G H fun v G' H'=>Upd G' H' fun G2 H2=>R v G2 H2):FnT P f args G H R:=
 fun _ w hw=>(h w hw).mono fun v w' ⟨G',H',h1,h2,h3⟩=>by
  obtain⟨G2,H2,g1,g2,g3⟩:=h3 w' h2
  exact⟨G2,H2,h1.trans g1,g2,g3⟩
theorem FnT.pre {P:Program} {f:FuncId} {args:List Value} {G:zb} {H:za} {R:Value→zb→za→Prop} (hc:Callee P f) (h:Upd G H fun G' H'=>FnT P f args G' H' R):FnT P f args G H R:=
 fun _ w hw=>by
  obtain⟨G1,H1,h1,h2,h3⟩:=h w hw
  exact(h3 w h2).mono fun _ _ ⟨G',H',g1,g2,g3⟩=>⟨G',H',h1.trans g1,g2,g3⟩
theorem Tri.upd {P:Program} {sz:Nat} {c:Code} {G:zb} {l:Fr} {H:za} {K:zaO} (h:Upd G H fun G' H'=>Tri P sz c G' l H' K):Tri P sz c G l H K:=fun E a w Q hs hk=>by
 obtain⟨G',H',h1,h2,h3⟩:=h w hs.heap
 exact h3 a w Q ⟨hs.size,hs.defers,hs.fr,h2⟩ fun E2 e G2 l2 H2 a2 w2 hE hle hs2 hk2=>hk E2 e G2 l2 H2 a2 w2 hE (h1.trans hle) hs2 hk2
theorem Tri.run {P:Program} {T:Tys} (hT:zT P T) {sz:Nat} (keep:List Nat) {c:Code} {G:zb} {l:Fr} {H:za} {K:zaO} (hlt:zaP sz c=true) (h:wpC P T sz keep c G l H K):Tri P sz c G l H K:=
 fun E a w Q hs hk=>zdc hT c hlt h a w Q hs hk
theorem Tri.block {P:Program} {sz:Nat} {id:Nat} {c:Code} {G:zb} {l:Fr} {H:za} {K:zaO} (h:Tri P sz c G l H (zdJ id K .mk)):Tri P sz (.block id c) G l H K:=by
 intro E a w Q hs hk
 refine wp_block (h a w _ hs fun E' e G' l' H' a' w' hE hle hs' hk'=>?_)
 cases e with
 |normal=>exact hk E' .normal G' l' H' a' w' hE hle hs' hk'
 |exit id'=>
  simp only[zdJ] at hk'
  simp only[XE.to,Exit.inBlock]
  split
  ·rename_i e;rw[if_pos e] at hk';exact hk E' .normal G' l' H' a' w' hE hle hs' hk'
  ·rename_i e;rw[if_neg e] at hk';exact hk E' (.exit id') G' l' H' a' w' hE hle hs' hk'
 |ret=>exact hk E' .ret G' l' H' a' w' hE hle hs' hk'
theorem Tri.loopU {P:Program} {T:Tys} (hT:zT P T) {sz:Nat} (keep:List Nat) {c:Code} {G:zb} {l:Fr} {H:za} {K:zaO} (hlt:zaP sz c=true) (live:List Nat)
  (I:Nat→zb→Fr→za→Prop) (n:Nat) (h0:Upd G H fun G' H'=>I n G' (zy live l) H')
  (round: ∀n G' l' H',PLe G G'→Sep G' (zm H')→I n G' l' H'→wpC P T sz keep c G' l' H' (zem (fun G'' l'' H''=>Upd G'' H'' fun G0 H0=> ∃m,m<n∧I m G0 (zy live l'') H0) K .mk .mk)):
  Tri P sz (.loop c) G l H K:=by
 intro E a w Q hs hk
 obtain⟨G1,H1,g1,g2,g3⟩:=h0 w hs.heap
 refine znD (fun n a w=> ∃E' G' l' H',Env.le E E'∧PLe G G'∧Sim E' sz G' l' H' a w∧I n G' l' H') ?_ n a w ⟨E,G1,_,H1,Env.le.refl E,g1,⟨hs.size,hs.defers,(hs.weak (zaX live l)).fr,g2⟩,g3⟩
 rintro n a w ⟨E',G',l',H',hE,hle,hs',hI⟩
 refine zdc hT c hlt (round n G' l' H' hle hs'.heap.sep hI) a w _ hs' fun E2 e G2 l2 H2 a2 w2 hE2 hle2 hs2 hk2=>?_
 cases e with
 |normal=>
  obtain⟨G3,H3,q1,q2,m,hm,hI2⟩:=hk2 w2 hs2.heap
  exact⟨m,hm,E2,G3,_,H3,hE.trans hE2,(hle.trans hle2).trans q1,⟨hs2.size,hs2.defers,(hs2.weak (zaX live l2)).fr,q2⟩,hI2⟩
 |exit id=>exact hk E2 (.exit id) G2 l2 H2 a2 w2 (hE.trans hE2) (hle.trans hle2) hs2 hk2
 |ret=>exact hk E2 .ret G2 l2 H2 a2 w2 (hE.trans hE2) (hle.trans hle2) hs2 hk2
theorem FnT.body {P:Program} {T:Tys} (hT:zT P T) {f:FuncId} {fn:Func} {c:Code} (keep:List Nat) (hf:P.funcs[f]? =some fn) (hb:fn.body=some c) (hn:(fn.name== "runtime.NumGoroutine")=false)
  {args:List Value} {G:zb} {H:za} {R:Value→zb→za→Prop} (hlt:zaP fn.ntmps c=true) (hargs:args.length≤fn.ntmps)
  (h:Sep G (zm H)→wpC P T fn.ntmps keep c G (zdK 0 args) H (zlv T fn.results.toList (zo R) .mk)):FnT P f args G H R:=
 FnT.upd (FnT.of hT keep hf hb hn hlt hargs h)
structure Kept (w w':World):Prop where
 kept:w.keptBut w' (fun _=>False)
 frozen: ∀a:Addr,a.block<w.heap.size→w'.frozen? a=w.frozen? a
 old: ∀b:Nat,b<w.heap.size→w'.heap[b]? =w.heap[b]?
theorem zu7 {P:Program} {f:FuncId} {args:List Value} {R:Value→Prop} (w:World) (hc:Callee P f)
  (h:FnT P f args (fun b=>w.heap[b]?) [] fun v _ _=>R v):Calls P f args.toArray w fun e w'=> ∃v,e= .returned v∧R v∧Kept w w':=by
 have hw:HeapOk ⟨w.os,w.output,[],[]⟩ (fun b=>w.heap[b]?) [] w:=⟨⟨rfl,rfl⟩,fun b o hb=>hb,fun p hp=>(by cases hp),trivial,by simp,by simp⟩
 refine(h.calls hc hw).mono ?_
 rintro e w' ⟨v,G',H',rfl,hle,hok,hr⟩
 have hold: ∀b:Nat,b<w.heap.size→w'.heap[b]? =w.heap[b]? :=fun b hb=>by
  rw[Array.getElem?_eq_getElem hb]
  exact hok.pers b _ (hle b _ (Array.getElem?_eq_getElem hb))
 refine⟨v,rfl,hr,⟨hok.env.1,hok.env.2,fun i hi=>?_⟩,fun a ha=>?_,hold⟩
 ·rw[hold i hi,Array.getElem?_eq_getElem hi]
  cases w.heap[i] <;> simp
 ·unfold World.frozen?
  rw[hold a.block ha]
open Go.ChangeShapes Go.WideShapes
variable {H:Type} {enc:TypeId×Value→H} {P:Program}
theorem znR {f:Func} {s:ChangeSpec} {apart fresh handsOn again:Bool} {W W':World} {args:Array Value} {v:Value} {ds gs:List (DataW H)} {before pa pv:List MemPlace}
  (hW:DataW.Whole enc P f.params.toList s.vars apart W args.toList ds gs before)
  (hres: ∀ (b:Nat) (sp:Nat→Bool) (hd:Bool),DataW.TrodAll enc P W' b sp hd f.resultTypes.toList (v.resultList f.resultTypes.size) (s.fn H (ds++gs)).results [])
  (hargs: ∀sp:Nat→Bool,(∀p∈before,sp p.block=true)→DataW.TrodAll enc P W' 0 sp true f.params.toList args.toList (s.fn H (ds++gs)).args pa)
  (hvars: ∀sp:Nat→Bool,(∀p∈before,sp p.block=true)→DataW.TrodVars enc P W' sp s.vars (s.fn H (ds++gs)).vars pv)
  (hps:before=pa++pv) (hk:Kept W W')
  (hok: ∀ (j:Nat) (t:TypeId) (r:Value),f.resultTypes[j]? =some t→(v.resultList f.resultTypes.size)[j]? =some r→Value.okWide P W' .any 0 t r):
  s.post enc P f apart fresh handsOn again W args v W':=by
 have hlt:=hW.lt
 have hold: ∀p∈before,(fun b=>decide (b<W.heap.size)) p.block=true:=fun p hp=>by simpa using hlt p hp
 refine⟨ds,gs,before,[],pa,pv,hW,hres _ _ _,hargs _ hold,hvars _ hold,World.keptBut_mono (fun p hp=>False.elim hp) hk.kept,fun _=>?_⟩
 obtain⟨_,_,_,_,_,hz,hn⟩:=hW
 refine⟨hok,_,_,([]++pa)++pv,⟨[]++pa,pv,trodAll_append (hargs _ (fun _ _=>rfl)) (hres _ _ _),hvars _ (fun _ _=>rfl),rfl,?_,?_⟩,?_⟩
 ·intro b off hp
  have hp':MemPlace.cell b off∈before:=by rw[hps];simpa using hp
  rw[hk.frozen _ (hlt _ hp')]
  exact hz b off hp'
 ·intro ha
  have:=hn ha
  rw[hps] at this
  simpa using this
 ·intro p hp _
  rw[hps]
  simpa using hp
end Go.V
