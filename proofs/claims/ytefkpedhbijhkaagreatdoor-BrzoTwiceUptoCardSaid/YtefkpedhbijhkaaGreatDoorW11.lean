/- Law 27, BrzoTwice: turned round twice a machine is the one that tells the same; the second time there are no more lists than states that it may be at: the law answers true. -/
import Derived.Test.YtefkpedhbijhkaaGreatDoorW10
import Derived.OpenShut
import Derived.Deep.DeepHandedRow
import Derived.Lib.LaidTab
import Derived.Test.YtefkpedhbijhkaaGreatDoorProg
import Derived.Test.YtefkpedhbijhkaaGreatDoorCards
import Derived.Test.YtefkpedhbijhkaaGreatDoorTie
set_option maxHeartbeats 64000000
set_option linter.unusedSimpArgs false
set_option linter.unusedVariables false
set_option linter.unusedSectionVars false
namespace Go.Proofs.YtefkpedhbijhkaaGreatDoor
open Go Go.V Go.Proofs
def ze3 (D:List Nat):List Value:=D.map fun c:Nat=>Value.int .i64 (c:Int)
theorem zes (D:List Nat):(ze3 D).length=D.length:=List.length_map ..
theorem zyB {n w:Nat} {st pl bf fr to:Nat→Nat} (hP:PInv n w st pl bf fr to fun _=>0) (hn:n≤66000) {L:List Int} (hL: ∀x∈L,∃s:Nat,s<n∧x=s) (hLl:L.length≤5000000000) {a:Option Addr} {c:Nat} {G:za} (hrow:Row G a (L.map (Value.int .i64))) {bp bs ba bl bx cb csp:Nat} {spb spx:List Value} {vk vw vm:Value} {W:Int} {H:zb}:
  Tri Tryz.prog Tryz.f98.ntmps (piece [1,1,1,0] Tryz.f98) G [(0, .pointer (some ⟨bp,0,none⟩)),(6, .slice a L.length c),(9, .slice none 0 0)] ((bp, .cells (PC (.slice (some ⟨bs,0,none⟩) n n) (.slice (some ⟨ba,0,none⟩) n n) (.slice (some ⟨bl,0,none⟩) n cb) (.slice (some ⟨bx,0,none⟩) w csp) vk vw vm W) [] 112):: (bx, .cells (zC w fr to fun _=>0) spx 139):: (bs, .cells (zj n st) [] 3):: (ba, .cells (zj n pl) [] 3):: (bl, .cells (zj n bf) spb 3)::H) (onlyN fun G' l H'=> ∃st' pl' mk' D vd kd,PInv n w st' pl' bf fr to mk'∧(∀x,x<n→(Mkd pl' bf fr mk' x↔(x:Int)∈L))∧D.Nodup∧(∀c,c∈D→c<w∧1≤mk' c)∧(∀c,c∉D→mk' c=0)∧zH [] 3 1 vd D.length (ze3 D) kd∧G'=G∧zy [0,9] l=[(0, .pointer (some ⟨bp,0,none⟩)),(9,vd)]∧H'=(bp, .cells (PC (.slice (some ⟨bs,0,none⟩) n n) (.slice (some ⟨ba,0,none⟩) n n) (.slice (some ⟨bl,0,none⟩) n cb) (.slice (some ⟨bx,0,none⟩) w csp) vk vw vm W) [] 112):: (bx, .cells (zC w fr to mk') spx 139):: (bs, .cells (zj n st') [] 3):: (ba, .cells (zj n pl') [] 3):: (bl, .cells (zj n bf) spb 3):: (kd++H)):=by
 have hr1: ∀x:Value,List.replicate 1 x=[x]:=fun _=>rfl
 refine Tri.sepT fun hs0=>?_
 have hE:=hs0
 try simp only[zzs] at hE
 repeat(obtain⟨hx',hE⟩:=hE)
 refine Tri.piece (f:=Tryz.f98) rfl ?_
 refine Tri.run tok [0,1,2,6,8,9,11,13,14,15,18,19,20,21,37,38,39,40,57,72,73,74,75,82,86,87,88] Kk ?_
 repeat' first
  |with_reducible first|refine Nx.go ?_ |refine Bk.go (fun _=>?_) fun _=>?_ |refine Nb fun nb hnb hnb1 hnb2=>?_ |refine Nr fun nb nsp ncap hnb hncap hnb1 hnb2=>?_
  |simp -dsimp -implicitDefEqProofs (disch:=first|exact Kd|fail) only[go_sem,↓reduceIte,seval]
 refine Tri.loopU tok [0,1,2,6,8,9,11,13,14,15,18,19,20,21,37,38,39,40,57,72,73,74,75,82,86,87,88] Kk [0,9,37,38,39] (fun q G' l H'=> ∃ (i:Nat) (st' pl' mk':Nat→Nat) (D:List Nat) (vd:Value) (kd:zb),i+q=L.length∧PInv n w st' pl' bf fr to mk'∧(∀x,x<n→(Mkd pl' bf fr mk' x↔(x:Int)∈L.take i))∧D.Nodup∧(∀c,c∈D→c<w∧1≤mk' c)∧(∀c,c∉D→mk' c=0)∧zH [] 3 1 vd D.length (ze3 D) kd∧G'=G∧H'=(bp, .cells (PC (.slice (some ⟨bs,0,none⟩) n n) (.slice (some ⟨ba,0,none⟩) n n) (.slice (some ⟨bl,0,none⟩) n cb) (.slice (some ⟨bx,0,none⟩) w csp) vk vw vm W) [] 112):: (bx, .cells (zC w fr to mk') spx 139):: (bs, .cells (zj n st') [] 3):: (ba, .cells (zj n pl') [] 3):: (bl, .cells (zj n bf) spb 3):: (kd++H)∧l=[(0, .pointer (some ⟨bp,0,none⟩)),(9,vd),(37, .slice a L.length c),(38, .int .i64 (L.length:Nat)),(39, .int .i64 (i:Nat))]) (L.length) ?_ ?_
 ·refine Upd.now ⟨0,st,pl,fun _=>0,[], .slice none 0 0,[],by omega,hP,fun x hx=>⟨fun h=>?_,fun h=>by rw[List.take_zero] at h;cases h⟩,List.nodup_nil,fun c h=>(by cases h),fun c _=>rfl, .inl ⟨none,rfl,rfl,rfl,rfl⟩,rfl,rfl,rfl⟩
  have h:pl x<fr (bf x)+0:=h
  have:=hP.lo x hx
  omega
 ·rintro q G1 l H1 hle hs1 ⟨i,st,pl,mk,D,vd,kd,hiq,hP,hM,hD1,hD2,hD3,hO,rfl,rfl,rfl⟩
  by_cases hi:i<L.length
  ·obtain⟨s,hsn,hse⟩:=hL _ (List.getElem_mem hi)
   have hada:Adr a:=hrow.adr (by rw[List.length_map];omega)
   have hbw:=hP.bl_lt s hsn
   have gb:=zaJ bf (sp:=spb) hsn
   have g2:=zkJ (fr:=fr) (to:=to) (mk:=mk) (sp:=spx) hbw
   have hDl:D.length≤w:=zeH hD1 fun c hc=>(hD2 c hc).1
   have hw:=hP.nb_le
   have htk:L.take (i+1)=L.take i++[(s:Int)]:=by rw[List.take_succ_eq_append_getElem hi,hse]
   have hnext: ∀ (pl' mk':Nat→Nat),(∀x,x<n→(Mkd pl' bf fr mk' x↔Mkd pl bf fr mk x∨x=s))→ ∀x,x<n→(Mkd pl' bf fr mk' x↔(x:Int)∈L.take (i+1)):=fun pl' mk' h x hx=>by
    rw[h x hx,hM x hx,htk,List.mem_append,List.mem_singleton]
    constructor
    ·rintro(h|h)
     ·exact .inl h
     ·exact .inr (by rw[h])
    ·rintro(h|h)
     ·exact .inl h
     ·exact .inr Ko
   by_cases hz:mk (bf s)=0
   ·have hzi:((mk (bf s):Nat):Int)=0:=by omega
    have hnD:bf s∉D:=fun h=>by have:=(hD2 _ h).2;omega
    have hfin: ∀mk':Nat→Nat,(∀b,b≠bf s→mk' b=mk b)→1≤mk' (bf s)→(D++[bf s]).Nodup∧(∀c,c∈D++[bf s]→c<w∧1≤mk' c)∧ ∀c,c∉D++[bf s]→mk' c=0:=fun mk' h1 h2=>by
     refine⟨List.nodup_append.2 ⟨hD1,by simp,fun x hx y hy=>by rw[List.mem_singleton] at hy;intro e;subst e;subst hy;exact hnD hx⟩,fun c hc=>?_,fun c hc=>?_⟩
     ·rcases List.mem_append.1 hc with hc|hc
      ·rw[h1 c fun e=>hnD (e▸hc)];exact hD2 c hc
      ·rw[List.mem_singleton] at hc;subst hc;exact⟨hbw,h2⟩
     ·rw[List.mem_append,not_or,List.mem_singleton] at hc
      rw[h1 c hc.2];exact hD3 c hc.1
    have hni:ze3 (D++[bf s])=ze3 D++[.int .i64 (bf s:Nat)]:=by unfold ze3;rw[List.map_append];rfl
    have hnl:=zes D
    rcases hO with ⟨aa,rfl,hx0,hx,rfl⟩| ⟨bd,cd,spd,rfl,rfl,hx,hcd⟩
    ·have hDn:D=[]:=List.eq_nil_of_length_eq_zero hx0
     subst hDn
     have hE:=hs1
     try simp only[zzs] at hE
     repeat(obtain⟨hx',hE⟩:=hE)
     repeat' first
      |with_reducible first|refine Nx.go ?_ |refine Bk.go (fun _=>?_) fun _=>?_ |refine Nb fun nb hnb hnb1 hnb2=>?_ |refine Nr fun nb nsp ncap hnb hncap hnb1 hnb2=>?_
      |simp -dsimp -implicitDefEqProofs (disch:=first|exact Kd|fail) only[go_sem,↓reduceIte,seval,Row.obj hrow,List.getElem_map,hse,gb,g2,hzi,hr1]
      |with_reducible refine Tri.drawS tok mixed [0,1,2,6,8,9,11,13,14,15,18,19,20,21,37,38,39,40,57,72,73,74,75,82,86,87,88] 10 [3,7,10,13] (.op 0 .plain (.op 1 .plain (.op 2 .plain (.op 3 .held (.op 4 .plain (.op 5 .plain (.op 6 .plain (.op 7 .held (.op 8 .plain (.op 9 .plain (.op 10 .held (.op 11 .plain (.op 12 .plain (.op 13 .held (.op 14 .plain .nil))))))))))))))) Kk [(bp, .cells (PC (.slice (some ⟨bs,0,none⟩) n n) (.slice (some ⟨ba,0,none⟩) n n) (.slice (some ⟨bl,0,none⟩) n cb) (.slice (some ⟨bx,0,none⟩) w csp) vk vw vm W) [] 112),(bl, .cells (zj n bf) spb 3),(bx, .cells (zC w fr to mk) spx 139)] Ks ?_
     refine FnT.upd (FnT.leave (H':=(bp, .cells (PC (.slice (some ⟨bs,0,none⟩) n n) (.slice (some ⟨ba,0,none⟩) n n) (.slice (some ⟨bl,0,none⟩) n cb) (.slice (some ⟨bx,0,none⟩) w csp) vk vw vm W) [] 112):: (bx, .cells (zC w fr to mk) spx 139):: (bs, .cells (zj n st) [] 3):: (ba, .cells (zj n pl) [] 3):: (bl, .cells (zj n bf) spb 3):: ([(nb, .cells [.int .i64 (bf s:Nat)] nsp 3)]++H)) (znU hP Ko hsn fun r st' pl' mk' hP' hM' h1 h2=>Upd.sepI fun hs2=>Upd.now ?_) Ks)
     obtain⟨f1,f2,f3⟩:=hfin mk' h1 h2
     have hE:=hs2
     try simp only[zzs] at hE
     repeat(obtain⟨hx',hE⟩:=hE)
     repeat' first
      |with_reducible first|refine Nx.go ?_ |refine Bk.go (fun _=>?_) fun _=>?_ |refine Nb fun nb hnb hnb1 hnb2=>?_ |refine Nr fun nb nsp ncap hnb hncap hnb1 hnb2=>?_
      |simp -dsimp -implicitDefEqProofs (disch:=first|exact Kd|fail) only[go_sem,↓reduceIte,seval]
     exact Upd.now ⟨q - 1,by omega,i+1,st',pl',mk',_,_,_,by omega,hP',hnext pl' mk' hM',f1,f2,f3, .inr ⟨nb,ncap,nsp,rfl,rfl,rfl,by simp [ze3] at hncap⊢;omega⟩,rfl,rfl,rfl⟩
    ·have hE:=hs1
     try simp only[zzs] at hE
     repeat(obtain⟨hx',hE⟩:=hE)
     rw[hnl,Nat.mul_one] at hx hcd
     repeat' first
      |with_reducible first|refine Nx.go ?_ |refine Bk.go (fun _=>?_) fun _=>?_ |refine Nb fun nb hnb hnb1 hnb2=>?_ |refine Nr fun nb nsp ncap hnb hncap hnb1 hnb2=>?_
      |simp -dsimp -implicitDefEqProofs (disch:=first|exact Kd|fail) only[go_sem,↓reduceIte,seval,Row.obj hrow,List.getElem_map,hse,gb,g2,hzi,hr1,hnl]
      |with_reducible refine Tri.drawS tok mixed [0,1,2,6,8,9,11,13,14,15,18,19,20,21,37,38,39,40,57,72,73,74,75,82,86,87,88] 10 [3,7,10,13] (.op 0 .plain (.op 1 .plain (.op 2 .plain (.op 3 .held (.op 4 .plain (.op 5 .plain (.op 6 .plain (.op 7 .held (.op 8 .plain (.op 9 .plain (.op 10 .held (.op 11 .plain (.op 12 .plain (.op 13 .held (.op 14 .plain .nil))))))))))))))) Kk [(bp, .cells (PC (.slice (some ⟨bs,0,none⟩) n n) (.slice (some ⟨ba,0,none⟩) n n) (.slice (some ⟨bl,0,none⟩) n cb) (.slice (some ⟨bx,0,none⟩) w csp) vk vw vm W) [] 112),(bl, .cells (zj n bf) spb 3),(bx, .cells (zC w fr to mk) spx 139)] Ks ?_
     refine FnT.upd (FnT.leave (H':=(bp, .cells (PC (.slice (some ⟨bs,0,none⟩) n n) (.slice (some ⟨ba,0,none⟩) n n) (.slice (some ⟨bl,0,none⟩) n cb) (.slice (some ⟨bx,0,none⟩) w csp) vk vw vm W) [] 112):: (bx, .cells (zC w fr to mk) spx 139):: (bs, .cells (zj n st) [] 3):: (ba, .cells (zj n pl) [] 3):: (bl, .cells (zj n bf) spb 3):: ([(nb, .cells (ze3 D++[.int .i64 (bf s:Nat)]) nsp 3)]++H)) (znU hP Ko hsn fun r st' pl' mk' hP' hM' h1 h2=>Upd.sepI fun hs2=>Upd.now ?_) Ks)
     obtain⟨f1,f2,f3⟩:=hfin mk' h1 h2
     have hE:=hs2
     try simp only[zzs] at hE
     repeat(obtain⟨hx',hE⟩:=hE)
     repeat' first
      |with_reducible first|refine Nx.go ?_ |refine Bk.go (fun _=>?_) fun _=>?_ |refine Nb fun nb hnb hnb1 hnb2=>?_ |refine Nr fun nb nsp ncap hnb hncap hnb1 hnb2=>?_
      |simp -dsimp -implicitDefEqProofs (disch:=first|exact Kd|fail) only[go_sem,↓reduceIte,seval]
     exact Upd.now ⟨q - 1,by omega,i+1,st',pl',mk',D++[bf s],_,_,by omega,hP',hnext pl' mk' hM',f1,f2,f3, .inr ⟨nb,ncap,nsp,by rw[List.length_append,List.length_singleton],by rw[hni],by rw[zes,Nat.mul_one],by rw[zes,List.length_append,List.length_singleton];omega⟩,rfl,rfl,rfl⟩
   ·have hzi: ¬((mk (bf s):Nat):Int)=0:=by omega
    have hE:=hs1
    try simp only[zzs] at hE
    repeat(obtain⟨hx',hE⟩:=hE)
    repeat' first
     |with_reducible first|refine Nx.go ?_ |refine Bk.go (fun _=>?_) fun _=>?_ |refine Nb fun nb hnb hnb1 hnb2=>?_ |refine Nr fun nb nsp ncap hnb hncap hnb1 hnb2=>?_
     |simp -dsimp -implicitDefEqProofs (disch:=first|exact Kd|fail) only[go_sem,↓reduceIte,seval,Row.obj hrow,List.getElem_map,hse,gb,g2]
     |with_reducible refine Tri.drawS tok mixed [0,1,2,6,8,9,11,13,14,15,18,19,20,21,37,38,39,40,57,72,73,74,75,82,86,87,88] 10 [3,7,10,13] (.op 0 .plain (.op 1 .plain (.op 2 .plain (.op 3 .held (.op 4 .plain (.op 5 .plain (.op 6 .plain (.op 7 .held (.op 8 .plain (.op 9 .plain (.op 10 .held (.op 11 .plain (.op 12 .plain (.op 13 .held (.op 14 .plain .nil))))))))))))))) Kk [(bp, .cells (PC (.slice (some ⟨bs,0,none⟩) n n) (.slice (some ⟨ba,0,none⟩) n n) (.slice (some ⟨bl,0,none⟩) n cb) (.slice (some ⟨bx,0,none⟩) w csp) vk vw vm W) [] 112),(bl, .cells (zj n bf) spb 3),(bx, .cells (zC w fr to mk) spx 139)] Ks ?_
    refine znU hP Ko hsn fun r st' pl' mk' hP' hM' h1 h2=>?_
    have hin:bf s∈D:=Classical.byContradiction fun h=>hz (hD3 _ h)
    repeat' first
     |with_reducible first|refine Nx.go ?_ |refine Bk.go (fun _=>?_) fun _=>?_ |refine Nb fun nb hnb hnb1 hnb2=>?_ |refine Nr fun nb nsp ncap hnb hncap hnb1 hnb2=>?_
     |simp -dsimp -implicitDefEqProofs (disch:=first|exact Kd|fail) only[go_sem,↓reduceIte,seval]
    exact Upd.now ⟨q - 1,by omega,i+1,st',pl',mk',D,_,_,by omega,hP',hnext pl' mk' hM',hD1,fun c hc=>⟨(hD2 c hc).1,by
     by_cases e:c=bf s
     ·rw[e];exact h2
     ·rw[h1 c e];exact(hD2 c hc).2⟩,fun c hc=>by rw[h1 c fun e=>hc (e▸hin)];exact hD3 c hc,hO,rfl,rfl,rfl⟩
  ·obtain rfl:i=L.length:=by omega
   rw[List.take_length] at hM
   have hE:=hs1
   try simp only[zzs] at hE
   repeat(obtain⟨hx',hE⟩:=hE)
   repeat' first
    |with_reducible first|refine Nx.go ?_ |refine Bk.go (fun _=>?_) fun _=>?_ |refine Nb fun nb hnb hnb1 hnb2=>?_ |refine Nr fun nb nsp ncap hnb hncap hnb1 hnb2=>?_
    |simp -dsimp -implicitDefEqProofs (disch:=first|exact Kd|fail) only[go_sem,↓reduceIte,seval]
   exact Upd.now ⟨st,pl,mk,D,vd,kd,hP,hM,hD1,hD2,hD3,hO,rfl,rfl,rfl⟩
structure ByI (n W:Nat) (al:Nat→Nat) (dl:Nat→Nat→Nat) (k:Nat) (X:Nat→Prop) (bf0 st pl:Nat→Nat) (D:List Nat) (m0 w:Nat) (bf fr to mk:Nat→Nat) (ws:List (Nat×Nat)):Prop where
 P:PInv n w st pl bf fr to mk
 rest: ∀c,c∈D→c<w∧1≤mk c∧ ∀s,s<n→bf s=c→(Mkd pl bf fr mk s↔X s)
 zero: ∀c,c<w→c∉D→mk c=0
 same: ∀s t,s<n→t<n→bf s=bf t→bf s∉D→(X s↔X t)
 fine: ∀s t,s<n→t<n→al s=al t→bf s=bf t
 lab: ∀s t,s<n→t<n→bf s=bf t→bf0 s=bf0 t
 law:zcq n W bf dl ws k X
 nd:ws.Nodup
 bd: ∀p∈ws,p.1<w∧p.2<W
 ms:ws.length+W * (n - w)≤m0
section
variable {n W k m0 w c:Nat} {al bf0 st pl bf fr to mk:Nat→Nat} {dl:Nat→Nat→Nat} {X:Nat→Prop} {D:List Nat} {ws:List (Nat×Nat)}
theorem ByI.all (h:ByI n W al dl k X bf0 st pl (c::D) m0 w bf fr to mk ws) (hnd:(c::D).Nodup) (he:fr c+mk c=to c):ByI n W al dl k X bf0 st pl D m0 w bf fr to (zo mk c 0) ws:=by
 rw[List.nodup_cons] at hnd
 obtain⟨hc1,hc2,hc3⟩:=h.rest c (List.mem_cons_self ..)
 refine⟨h.P.clear c,fun c' hc'=>?_,fun c' h1 h2=>?_,fun s t hs ht e hn=>?_,h.fine,h.lab,h.law,h.nd,h.bd,h.ms⟩
 ·obtain⟨g1,g2,g3⟩:=h.rest c' (List.mem_cons_of_mem _ hc')
  have hne:c'≠c:=fun e=>hnd.1 (e▸hc')
  refine⟨g1,by rw[za0 _ _ hne];exact g2,fun s hs e=>?_⟩
  have:=g3 s hs e
  unfold Mkd at this⊢
  rw[e,za0 _ _ hne]
  rw[e] at this
  exact this
 ·by_cases e:c'=c
  ·rw[e,zbe]
  ·rw[za0 _ _ e]
   exact h.zero c' h1 fun hm=>(List.mem_cons.1 hm).elim e h2
 ·by_cases e2:bf s=c
  ·have m1:Mkd pl bf fr mk s:=by have:=h.P.hi s hs;unfold Mkd;rw[e2] at this⊢;omega
   have m2:Mkd pl bf fr mk t:=by have:=h.P.hi t ht;unfold Mkd;rw[←e,e2] at this⊢;omega
   exact⟨fun _=>(hc3 t ht (by rw[←e,e2])).1 m2,fun _=>(hc3 s hs e2).1 m1⟩
  ·exact h.same s t hs ht e fun hm=>(List.mem_cons.1 hm).elim e2 hn
theorem ByI.part (h:ByI n W al dl k X bf0 st pl (c::D) m0 w bf fr to mk ws) (hnd:(c::D).Nodup) (he:fr c+mk c<to c) (hdl: ∀j s,j<W→s<n→dl j s<n) (hX: ∀s t,s<n→t<n→al s=al t→(X s↔X t)) (small:Bool):
  ByI n W al dl k X bf0 st pl D m0 (w+1) (fun s=>if bf s=c∧pl s<fr c+mk c then w else bf s) (zo (zo fr c (fr c+mk c)) w (fr c)) (zo to w (fr c+mk c)) (zo (zo mk c 0) w 0) (zb4 small c w ws W):=by
 rw[List.nodup_cons] at hnd
 obtain⟨hc1,hc2,hc3⟩:=h.rest c (List.mem_cons_self ..)
 have hbw:=h.P.bl_lt
 have hPN:=h.P.part hc1 hc2 Ko
 obtain⟨l1,l2,l3,l4,l5,l6⟩:=zix small c w ws W
 have hmk: ∀s,s<n→bf s=c→(pl s<fr c+mk c↔X s):=fun s hs e=>by
  have:=hc3 s hs e
  unfold Mkd at this
  rw[e] at this
  exact this
 have hback: ∀s t,s<n→t<n→(if bf s=c∧pl s<fr c+mk c then w else bf s)=(if bf t=c∧pl t<fr c+mk c then w else bf t)→bf s=bf t:=fun s t hs ht e=>by
  have h1:=hbw s hs
  have h2:=hbw t ht
  split at e
  ·rename_i g1
   split at e
   ·rename_i g2;rw[g1.1,g2.1]
   ·omega
  ·split at e
   ·omega
   ·exact e
 refine⟨hPN,fun c' hc'=>?_,fun c' h1 h2=>?_,fun s t hs ht e hn=>?_,fun s t hs ht e=>?_,fun s t hs ht e=>h.lab s t hs ht (hback s t hs ht e),h.law.split hdl hbw l1 l3 l4,l6 h.nd,fun p hp=>?_,?_⟩
 ·obtain⟨g1,g2,g3⟩:=h.rest c' (List.mem_cons_of_mem _ hc')
  have hne:c'≠c:=fun e=>hnd.1 (e▸hc')
  have hnw:c'≠w:=by omega
  refine⟨by omega,by rw[za0 _ _ hnw,za0 _ _ hne];exact g2,fun s hs e=>?_⟩
  have e:(if bf s=c∧pl s<fr c+mk c then w else bf s)=c':=e
  have e1:bf s=c':=by
   split at e
   ·omega
   ·exact e
  have:=g3 s hs e1
  unfold Mkd at this⊢
  rw[e1] at this
  show pl s<zo _ w _ (if _ then _ else _)+zo _ w _ (if _ then _ else _)↔_
  rw[e,za0 _ _ hnw,za0 _ _ hne,za0 _ _ hnw,za0 _ _ hne]
  exact this
 ·by_cases e:c'=w
  ·rw[e,zbe]
  ·rw[za0 _ _ e]
   by_cases e2:c'=c
   ·rw[e2,zbe]
   ·rw[za0 _ _ e2]
    exact h.zero c' Ko fun hm=>(List.mem_cons.1 hm).elim e2 h2
 ·have e:(if bf s=c∧pl s<fr c+mk c then w else bf s)=(if bf t=c∧pl t<fr c+mk c then w else bf t):=e
  have hn:(if bf s=c∧pl s<fr c+mk c then w else bf s)∉D:=hn
  have e0:=hback s t hs ht e
  by_cases e2:bf s=c
  ·have e3:bf t=c:=by rw[←e0,e2]
   have h1:=hbw s hs
   rw[←hmk s hs e2,←hmk t ht e3]
   rw[e2,e3] at e
   simp only[true_and] at e
   by_cases g1:pl s<fr c+mk c
   ·rw[if_pos g1] at e
    refine⟨fun _=>?_,fun _=>g1⟩
    apply Classical.byContradiction
    intro g2
    rw[if_neg g2] at e
    omega
   ·rw[if_neg g1] at e
    refine⟨fun g=>absurd g g1,fun g2=>?_⟩
    rw[if_pos g2] at e
    omega
  ·rw[if_neg fun g=>e2 g.1] at hn
   exact h.same s t hs ht e0 fun hm=>(List.mem_cons.1 hm).elim e2 hn
 ·show(if _ then _ else _)=(if _ then _ else _)
  have e0:=h.fine s t hs ht e
  by_cases e2:bf s=c
  ·have e3:bf t=c:=by rw[←e0,e2]
   have hx:=hX s t hs ht e
   rw[←hmk s hs e2,←hmk t ht e3] at hx
   by_cases g1:pl s<fr c+mk c
   ·rw[if_pos ⟨e2,g1⟩,if_pos ⟨e3,hx.1 g1⟩]
   ·rw[if_neg fun g=>g1 g.2,if_neg fun g=>g1 (hx.2 g.2)];exact e0
  ·rw[if_neg fun g=>e2 g.1,if_neg fun g=>e2 (by rw[e0];exact g.1)];exact e0
 ·rcases l2 p hp with g| ⟨g1,g2⟩
  ·have:=h.bd p g;omega
  ·refine⟨?_,g2⟩
   rcases g1 with g|g <;> omega
 ·have h1:=h.ms
  have h2:=hPN.nb_le
  have h3:W * (n - w)=W * (n - (w+1))+W:=by rw[←Nat.mul_succ];congr 1;omega
  omega
end
end Go.Proofs.YtefkpedhbijhkaaGreatDoor
namespace Go.Proofs.YtefkpedhbijhkaaGreatDoor
open Go Go.V Go.Proofs
theorem zvp {D:List Nat} {i:Nat} (h:i<D.length):(ze3 D)[i]'(by rw[zes];exact h)= .int .i64 (D[i]:Nat):=by simp [ze3]
theorem zyC {n W k m0:Nat} {al bf0 st pl:Nat→Nat} {dl:Nat→Nat→Nat} {X:Nat→Prop} (hdl: ∀j s,j<W→s<n→dl j s<n) (hX: ∀s t,s<n→t<n→al s=al t→(X s↔X t)) (hn:n≤66000) (hW:W≤256) {D:List Nat} (hD:D.Nodup) (hDl:D.length≤66000) {w:Nat} {bf fr to mk:Nat→Nat} {ws:List (Nat×Nat)} (hI:ByI n W al dl k X bf0 st pl D m0 w bf fr to mk ws) (hm0:m0≤20000000) {am:List ((Int×Int)×Int)} (hA:zbf am ws) {a:Option Addr} {c:Nat} {G:za} (hrow:Row G a (ze3 D)) {bp bs ba bl bx bm cb csp:Nat} {spb spx:List Value} (hcx:w * 3+spx.length=csp * 3) {vk vw:Value} {kw:zb} (hO:WtO vw ws kw) {H:zb}:
  Tri Tryz.prog Tryz.f98.ntmps (piece [1,1,1,1] Tryz.f98) G [(0, .pointer (some ⟨bp,0,none⟩)),(9, .slice a D.length c)] ((bp, .cells (PC (.slice (some ⟨bs,0,none⟩) n n) (.slice (some ⟨ba,0,none⟩) n n) (.slice (some ⟨bl,0,none⟩) n cb) (.slice (some ⟨bx,0,none⟩) w csp) vk vw (.map (some bm)) (W:Nat)) [] 112):: (bx, .cells (zC w fr to mk) spx 139):: (bs, .cells (zj n st) [] 3):: (bl, .cells (zj n bf) spb 3):: (bm, .map (am.map fun p=>(zat p.1,Value.int .i64 p.2))):: (kw++H)) (onlyN fun G' l H'=> ∃ (w:Nat) (bf fr to mk:Nat→Nat) (ws:List (Nat×Nat)) (am:List ((Int×Int)×Int)) (vw:Value) (kw:zb) (bx csp:Nat) (spx:List Value),ByI n W al dl k X bf0 st pl [] m0 w bf fr to mk ws∧zbf am ws∧WtO vw ws kw∧w * 3+spx.length=csp * 3∧G'=G∧H'=(bp, .cells (PC (.slice (some ⟨bs,0,none⟩) n n) (.slice (some ⟨ba,0,none⟩) n n) (.slice (some ⟨bl,0,none⟩) n cb) (.slice (some ⟨bx,0,none⟩) w csp) vk vw (.map (some bm)) (W:Nat)) [] 112):: (bx, .cells (zC w fr to mk) spx 139):: (bs, .cells (zj n st) [] 3):: (bl, .cells (zj n bf) spb 3):: (bm, .map (am.map fun p=>(zat p.1,Value.int .i64 p.2))):: (kw++H)):=by
 refine Tri.sepT fun hs0=>?_
 have hE:=hs0
 try simp only[zzs] at hE
 repeat(obtain⟨hx',hE⟩:=hE)
 refine Tri.piece (f:=Tryz.f98) rfl ?_
 refine Tri.run tok [0,1,2,6,8,9,11,13,14,15,18,19,20,21,37,38,39,40,57,72,73,74,75,82,86,87,88] Kk ?_
 repeat' first
  |with_reducible first|refine Nx.go ?_ |refine Bk.go (fun _=>?_) fun _=>?_ |refine Nb fun nb hnb hnb1 hnb2=>?_ |refine Nr fun nb nsp ncap hnb hncap hnb1 hnb2=>?_
  |simp -dsimp -implicitDefEqProofs (disch:=first|exact Kd|fail) only[go_sem,↓reduceIte,seval]
 refine Tri.loopS tok [0,1,2,6,8,9,11,13,14,15,18,19,20,21,37,38,39,40,57,72,73,74,75,82,86,87,88] (.seq .run (.seq .run (.seq (.block (.seq .run (.seq .run (.seq .run .cut)))) .cut))) Kk [0,72,73,74] (fun q G' l H'=> ∃ (i w:Nat) (bf fr to mk:Nat→Nat) (ws:List (Nat×Nat)) (am:List ((Int×Int)×Int)) (vw:Value) (kw:zb) (bx csp:Nat) (spx:List Value),i+q=D.length∧ByI n W al dl k X bf0 st pl (D.drop i) m0 w bf fr to mk ws∧zbf am ws∧WtO vw ws kw∧w * 3+spx.length=csp * 3∧G'=G∧H'=(bp, .cells (PC (.slice (some ⟨bs,0,none⟩) n n) (.slice (some ⟨ba,0,none⟩) n n) (.slice (some ⟨bl,0,none⟩) n cb) (.slice (some ⟨bx,0,none⟩) w csp) vk vw (.map (some bm)) (W:Nat)) [] 112):: (bx, .cells (zC w fr to mk) spx 139):: (bs, .cells (zj n st) [] 3):: (bl, .cells (zj n bf) spb 3):: (bm, .map (am.map fun p=>(zat p.1,Value.int .i64 p.2))):: (kw++H)∧l=[(0, .pointer (some ⟨bp,0,none⟩)),(72, .slice a D.length c),(73, .int .i64 (D.length:Nat)),(74, .int .i64 (i:Nat))]) (D.length) ?_ ?_
 ·exact Upd.now ⟨0,w,bf,fr,to,mk,ws,am,vw,kw,bx,csp,spx,by omega,hI,hA,hO,hcx,rfl,rfl,rfl⟩
 ·clear hI hA hO hcx hs0
  rintro q G1 l H1 hle hs1 ⟨i,w,bf,fr,to,mk,ws,am,vw,kw,bx,csp,spx,hiq,hI,hA,hO,hcx,rfl,rfl,rfl⟩
  have hE:=hs1
  try simp only[zzs] at hE
  repeat(obtain⟨hx',hE⟩:=hE)
  by_cases hi:i<D.length
  ·have hada:Adr a:=hrow.adr (by rw[zes];omega)
   have hgi:=zvp hi
   have hil:i< (ze3 D).length:=by rw[zes];exact hi
   have hdr:D.drop i=D[i]::D.drop (i+1):=List.drop_eq_getElem_cons hi
   obtain⟨c,hc⟩: ∃c,c=D[i]:=⟨_,rfl⟩
   rw[←hc] at hgi hdr
   rw[hdr] at hI
   have hndd:(c::D.drop (i+1)).Nodup:=by rw[←hdr];exact hD.sublist (List.drop_sublist i D)
   obtain⟨hc1,hc2,hc3⟩:=hI.rest c (List.mem_cons_self ..)
   have hPn:=hI.P.nb_le
   have hms:=hI.ms
   repeat' first
    |with_reducible first|refine Nx.go ?_ |refine Bk.go (fun _=>?_) fun _=>?_ |refine Nb fun nb hnb hnb1 hnb2=>?_ |refine Nr fun nb nsp ncap hnb hncap hnb1 hnb2=>?_
    |simp -dsimp -implicitDefEqProofs (disch:=first|exact Kd|fail) only[go_sem,↓reduceIte,seval,Row.obj hrow,hgi]
   refine zxD hI.P Ko hc1 hc2 hcx (fun he=>?_) fun bx' csp' spx' he hcx'=>?_
   ·have hI2:=hI.all hndd he
    repeat' first
     |with_reducible first|refine Nx.go ?_ |refine Bk.go (fun _=>?_) fun _=>?_ |refine Nb fun nb hnb hnb1 hnb2=>?_ |refine Nr fun nb nsp ncap hnb hncap hnb1 hnb2=>?_
     |simp -dsimp -implicitDefEqProofs (disch:=first|exact Kd|fail) only[go_sem,↓reduceIte,seval]
    refine Tri.run tok [0,1,2,6,8,9,11,13,14,15,18,19,20,21,37,38,39,40,57,72,73,74,75,82,86,87,88] Kk ?_
    repeat' first
     |with_reducible first|refine Nx.go ?_ |refine Bk.go (fun _=>?_) fun _=>?_ |refine Nb fun nb hnb hnb1 hnb2=>?_ |refine Nr fun nb nsp ncap hnb hncap hnb1 hnb2=>?_
     |simp -dsimp -implicitDefEqProofs (disch:=first|exact Kd|fail) only[go_sem,↓reduceIte,seval]
    exact Upd.now ⟨q - 1,by omega,i+1,w,bf,fr,to,_,ws,am,vw,kw,bx,csp,spx,by omega,hI2,hA,hO,hcx,rfl,rfl,rfl⟩
   ·have hI2:=hI.part hndd he hdl hX (decide (zo to w (fr c+mk c) w - zo (zo fr c (fr c+mk c)) w (fr c) w≤zo to w (fr c+mk c) c - zo (zo fr c (fr c+mk c)) w (fr c) c))
    have hPn2:=hI2.P.nb_le
    repeat' first
     |with_reducible first|refine Nx.go ?_ |refine Bk.go (fun _=>?_) fun _=>?_ |refine Nb fun nb hnb hnb1 hnb2=>?_ |refine Nr fun nb nsp ncap hnb hncap hnb1 hnb2=>?_
     |simp -dsimp -implicitDefEqProofs (disch:=first|exact Kd|fail) only[go_sem,↓reduceIte,seval]
    refine Tri.live [0,13,14,72,73,74] ?_
    refine Tri.upd (Upd.go (H':=(bp, .cells (PC (.slice (some ⟨bs,0,none⟩) n n) (.slice (some ⟨ba,0,none⟩) n n) (.slice (some ⟨bl,0,none⟩) n cb) (.slice (some ⟨bx',0,none⟩) (w+1) csp') vk vw (.map (some bm)) (W:Nat)) [] 112):: (bx', .cells (zC (w+1) (zo (zo fr c (fr c+mk c)) w (fr c)) (zo to w (fr c+mk c)) (zo (zo mk c 0) w 0)) spx' 139):: (bm, .map (am.map fun p=>(zat p.1,Value.int .i64 p.2))):: (kw++((bs, .cells (zj n st) [] 3):: (bl, .cells (zj n (fun s=>if bf s=c∧pl s<fr c+mk c then w else bf s)) spb 3)::H))) Ks (Upd.now ?_))
    refine Tri.isPiece [1,1,1,1,1,0,0,1,1,0,0,1,1,1] Tryz.f98 Kk ?_
    refine Tri.onlyN (zyz (W:=W) Ko hA Ko Ko Ko Ko (fun b hb=>?_) hO) fun G2 l2 H2 hle2 hs2 hM=>?_
    ·have h1:=hI2.P.ne b hb
     have h2:=hI2.P.le b hb
     exact⟨by omega,by omega⟩
    ·obtain⟨vw2,am2,kw2,hO2,hA2,rfl,hfr,rfl⟩:=hM
     simp only[go_sem]
     refine Tri.live [0,72,73,74] ?_
     rw[hfr]
     refine Tri.run tok [0,1,2,6,8,9,11,13,14,15,18,19,20,21,37,38,39,40,57,72,73,74,75,82,86,87,88] Kk ?_
     repeat' first
      |with_reducible first|refine Nx.go ?_ |refine Bk.go (fun _=>?_) fun _=>?_ |refine Nb fun nb hnb hnb1 hnb2=>?_ |refine Nr fun nb nsp ncap hnb hncap hnb1 hnb2=>?_
      |simp -dsimp -implicitDefEqProofs (disch:=first|exact Kd|fail) only[go_sem,↓reduceIte,seval]
     refine Upd.leave (H':=(bp, .cells (PC (.slice (some ⟨bs,0,none⟩) n n) (.slice (some ⟨ba,0,none⟩) n n) (.slice (some ⟨bl,0,none⟩) n cb) (.slice (some ⟨bx',0,none⟩) (w+1) csp') vk vw2 (.map (some bm)) (W:Nat)) [] 112):: (bx', .cells (zC (w+1) (zo (zo fr c (fr c+mk c)) w (fr c)) (zo to w (fr c+mk c)) (zo (zo mk c 0) w 0)) spx' 139):: (bs, .cells (zj n st) [] 3):: (bl, .cells (zj n (fun s=>if bf s=c∧pl s<fr c+mk c then w else bf s)) spb 3):: (bm, .map (am2.map fun p=>(zat p.1,Value.int .i64 p.2))):: (kw2++H)) Ks ?_
     exact⟨q - 1,by omega,i+1,w+1,_,_,_,_,_,am2,vw2,kw2,bx',csp',spx',by omega,hI2,hA2,hO2,hcx',rfl,rfl,rfl⟩
  ·have hd:D.drop i=[]:=List.drop_eq_nil_of_le Ko
   rw[hd] at hI
   repeat' first
    |with_reducible first|refine Nx.go ?_ |refine Bk.go (fun _=>?_) fun _=>?_ |refine Nb fun nb hnb hnb1 hnb2=>?_ |refine Nr fun nb nsp ncap hnb hncap hnb1 hnb2=>?_
    |simp -dsimp -implicitDefEqProofs (disch:=first|exact Kd|fail) only[go_sem,↓reduceIte,seval]
   exact Upd.now ⟨w,bf,fr,to,mk,ws,am,vw,kw,bx,csp,spx,hI,hA,hO,hcx,rfl,rfl⟩
structure HInv (n W:Nat) (al bf0:Nat→Nat) (w:Nat) (st pl bf fr to:Nat→Nat) (ws:List (Nat×Nat)):Prop where
 P:PInv n w st pl bf fr to fun _=>0
 fine: ∀s t,s<n→t<n→al s=al t→bf s=bf t
 lab: ∀s t,s<n→t<n→bf s=bf t→bf0 s=bf0 t
 nd:ws.Nodup
 bd: ∀p∈ws,p.1<w∧p.2<W
theorem zyU {n W w:Nat} {al bf0 st pl bf fr to:Nat→Nat} {dl:Nat→Nat→Nat} (hdl: ∀j s,j<W→s<n→dl j s<n) (hal: ∀j s t,j<W→s<n→t<n→al s=al t→al (dl j s)=al (dl j t)) (hn:n≤66000) (hW:W≤256) {ws:List (Nat×Nat)} (hI:HInv n W al bf0 w st pl bf fr to ws) {b k:Nat} (hb:b<w) (hk:k<W) (hlaw:zcq n W bf dl ws k fun s=>bf (dl k s)=b) (hm0:ws.length+W * (n - w)≤20000000) {am:List ((Int×Int)×Int)} (hA:zbf am ws) {G:za} {bp bs ba bl bx bm cb csp:Nat} {spb spx:List Value} (hcx:w * 3+spx.length=csp * 3) {vk vw:Value} {kw:zb} (hO:WtO vw ws kw) (hbk:BkT G n W dl vk) {H:zb} {R:Value→za→zb→Prop}
  (hR: ∀G' w' st' pl' bf' fr' to' ws' am' vw' kw' bx' csp' spx',PLe G G'→HInv n W al bf0 w' st' pl' bf' fr' to' ws'→zcq n W bf' dl ws' 0 (fun _=>False)→ws'.length+W * (n - w')≤ws.length+W * (n - w)→zbf am' ws'→w' * 3+spx'.length=csp' * 3→WtO vw' ws' kw'→R (.tuple #[]) G' ((bp, .cells (PC (.slice (some ⟨bs,0,none⟩) n n) (.slice (some ⟨ba,0,none⟩) n n) (.slice (some ⟨bl,0,none⟩) n cb) (.slice (some ⟨bx',0,none⟩) w' csp') vk vw' (.map (some bm)) (W:Nat)) [] 112):: (bx', .cells (zC w' fr' to' (fun _=>0)) spx' 139):: (bs, .cells (zj n st') [] 3):: (ba, .cells (zj n pl') [] 3):: (bl, .cells (zj n bf') spb 3):: (bm, .map (am'.map fun p=>(zat p.1,Value.int .i64 p.2))):: (kw'++H))):
  FnT Tryz.prog 98 [.pointer (some ⟨bp,0,none⟩), .int .i64 (b:Nat), .int .i64 (k:Nat)] G ((bp, .cells (PC (.slice (some ⟨bs,0,none⟩) n n) (.slice (some ⟨ba,0,none⟩) n n) (.slice (some ⟨bl,0,none⟩) n cb) (.slice (some ⟨bx,0,none⟩) w csp) vk vw (.map (some bm)) (W:Nat)) [] 112):: (bx, .cells (zC w fr to (fun _=>0)) spx 139):: (bs, .cells (zj n st) [] 3):: (ba, .cells (zj n pl) [] 3):: (bl, .cells (zj n bf) spb 3):: (bm, .map (am.map fun p=>(zat p.1,Value.int .i64 p.2))):: (kw++H)) R:=by
 have hP:=hI.P
 have hbt:=hP.le b hb
 have hbf:=hP.ne b hb
 obtain⟨L,hL⟩: ∃L,L=zcP (dl k) n st (fr b) (to b - fr b):=⟨_,rfl⟩
 have hmem: ∀x:Int,x∈L↔ ∃s:Nat,s<n∧bf (dl k s)=b∧x=s:=fun x=>by
  rw[hL,zto]
  constructor
  ·rintro⟨s,h1,⟨j,h2,h3⟩,h4⟩
   exact⟨s,h1,by rw[h3];exact hP.own b _ hb Ko Ko,h4⟩
  ·rintro⟨s,h1,h2,h3⟩
   have hds:=hdl k s hk h1
   have hlo:=hP.lo _ hds
   have hhi:=hP.hi _ hds
   rw[h2] at hlo hhi
   exact⟨s,h1,⟨pl (dl k s) - fr b,by omega,by rw[show fr b+(pl (dl k s) - fr b)=pl (dl k s) by omega,hP.st_pl _ hds]⟩,h3⟩
 have hLl:L.length≤5000000000:=by
  have h1:=ziB (dl k) n st (fr b) (to b - fr b)
  have h2:(to b - fr b) * n≤66000 * 66000:=Nat.mul_le_mul Ko hn
  rw[hL];omega
 refine FnT.bodyS tok [0,1,2,6,8,9,11,13,14,15,18,19,20,21,37,38,39,40,57,72,73,74,75,82,86,87,88] (.seq .run (.seq .cut (.seq .cut (.seq .cut .cut)))) Tryz.func98 rfl Kk Kk (by show _≤97;simp) fun hsep=>?_
 rw[Tryz.results98]
 have hE:=hsep
 try simp only[zzs] at hE
 repeat(obtain⟨hx',hE⟩:=hE)
 repeat' first
  |with_reducible first|refine Nx.go ?_ |refine Bk.go (fun _=>?_) fun _=>?_ |refine Nb fun nb hnb hnb1 hnb2=>?_ |refine Nr fun nb nsp ncap hnb hncap hnb1 hnb2=>?_
  |simp -dsimp -implicitDefEqProofs (disch:=first|exact Kd|fail) only[go_sem,↓reduceIte,seval]
 refine Tri.live [0,1,2,6] ?_
 refine Tri.upd (Upd.go (H':=(bp, .cells (PC (.slice (some ⟨bs,0,none⟩) n n) (.slice (some ⟨ba,0,none⟩) n n) (.slice (some ⟨bl,0,none⟩) n cb) (.slice (some ⟨bx,0,none⟩) w csp) vk vw (.map (some bm)) (W:Nat)) [] 112):: (bx, .cells (zC w fr to (fun _=>0)) spx 139):: (bs, .cells (zj n st) [] 3):: ((ba, .cells (zj n pl) [] 3):: (bl, .cells (zj n bf) spb 3):: (bm, .map (am.map fun p=>(zat p.1,Value.int .i64 p.2))):: (kw++H))) Ks (Upd.now ?_))
 refine Tri.isPiece [1,0] Tryz.f98 Kk ?_
 refine Tri.onlyN (zyA hP hn hb hk hbk) fun G1 l1 H1 hle1 hs1 hM=>?_
 obtain⟨vf,kf,hOf,rfl,hfr,rfl⟩:=hM
 rw[←hL] at hOf
 simp only[go_sem]
 refine Tri.live [0,6] ?_
 rw[hfr]
 refine Tri.upd (Upd.go (H':=kf++((bp, .cells (PC (.slice (some ⟨bs,0,none⟩) n n) (.slice (some ⟨ba,0,none⟩) n n) (.slice (some ⟨bl,0,none⟩) n cb) (.slice (some ⟨bx,0,none⟩) w csp) vk vw (.map (some bm)) (W:Nat)) [] 112):: (bx, .cells (zC w fr to (fun _=>0)) spx 139):: (bs, .cells (zj n st) [] 3):: (ba, .cells (zj n pl) [] 3):: (bl, .cells (zj n bf) spb 3):: ((bm, .map (am.map fun p=>(zat p.1,Value.int .i64 p.2))):: (kw++H)))) Ks (Upd.sepI fun hx'=>zH.shareApp hOf hx' fun G2 af cf hle2 hs2 evf hrf hcf=>?_))
 subst evf
 refine Tri.run tok [0,1,2,6,8,9,11,13,14,15,18,19,20,21,37,38,39,40,57,72,73,74,75,82,86,87,88] Kk ?_
 repeat' first
  |with_reducible first|refine Nx.go ?_ |refine Bk.go (fun _=>?_) fun _=>?_ |refine Nb fun nb hnb hnb1 hnb2=>?_ |refine Nr fun nb nsp ncap hnb hncap hnb1 hnb2=>?_
  |simp -dsimp -implicitDefEqProofs (disch:=first|exact Kd|fail) only[go_sem,↓reduceIte,seval]
 refine Tri.isPiece [1,1,1,0] Tryz.f98 Kk ?_
 refine Tri.onlyN (zyB hP hn (fun x hx=>by obtain⟨s,h1,_,h3⟩:=(hmem x).1 hx;exact⟨s,h1,h3⟩) hLl hrf) fun G3 l3 H3 hle3 hs3 hM=>?_
 obtain⟨st2,pl2,mk2,D,vd,kd,hP2,hM2,hD1,hD2,hD3,hOd,rfl,hfr3,rfl⟩:=hM
 simp only[go_sem]
 refine Tri.live [0,9] ?_
 rw[hfr3]
 refine Tri.upd (Upd.go (H':=kd++((bp, .cells (PC (.slice (some ⟨bs,0,none⟩) n n) (.slice (some ⟨ba,0,none⟩) n n) (.slice (some ⟨bl,0,none⟩) n cb) (.slice (some ⟨bx,0,none⟩) w csp) vk vw (.map (some bm)) (W:Nat)) [] 112):: (bx, .cells (zC w fr to mk2) spx 139):: (bs, .cells (zj n st2) [] 3):: (bl, .cells (zj n bf) spb 3):: (bm, .map (am.map fun p=>(zat p.1,Value.int .i64 p.2))):: (kw++((ba, .cells (zj n pl2) [] 3)::H)))) Ks (Upd.sepI fun hx'=>zH.shareApp hOd hx' fun G4 ad cd hle4 hs4 evd hrd hcd=>?_))
 subst evd
 have hX: ∀s,s<n→(Mkd pl2 bf fr mk2 s↔bf (dl k s)=b):=fun s hs=>by
  rw[hM2 s hs,hmem]
  constructor
  ·rintro⟨t,h1,h2,h3⟩
   obtain rfl:s=t:=by omega
   exact h2
  ·exact fun h=>⟨s,hs,h,rfl⟩
 have hBy:ByI n W al dl k (fun s=>bf (dl k s)=b) bf0 st2 pl2 D (ws.length+W * (n - w)) w bf fr to mk2 ws:=by
  refine⟨hP2,fun c hc=>⟨(hD2 c hc).1,(hD2 c hc).2,fun s hs _=>hX s hs⟩,fun c _ hc=>hD3 c hc,fun s t hs ht e hn=>?_,hI.fine,hI.lab,hlaw,hI.nd,hI.bd,Nat.le_refl _⟩
  have hz:=hD3 _ hn
  have h1: ¬Mkd pl2 bf fr mk2 s:=fun h=>by
   unfold Mkd at h
   have:=hP2.lo s hs
   omega
  have h2: ¬Mkd pl2 bf fr mk2 t:=fun h=>by
   unfold Mkd at h
   rw[←e] at h
   have:=hP2.lo t ht
   rw[←e] at this
   omega
  show bf (dl k s)=b↔bf (dl k t)=b
  rw[←hX s hs,←hX t ht]
  exact⟨fun h=>absurd h h1,fun h=>absurd h h2⟩
 refine Tri.isPiece [1,1,1,1] Tryz.f98 Kk ?_
 refine Tri.onlyN (zyC hdl (fun s t hs ht e=>by
  show bf (dl k s)=b↔bf (dl k t)=b
  rw[hI.fine _ _ (hdl k s hk hs) (hdl k t hk ht) (hal k s t hk hs ht e)]) hn hW hD1 (by have:=zeH hD1 fun c hc=>(hD2 c hc).1;have:=hP.nb_le;omega) hBy hm0 hA hrd hcx hO) fun G5 l5 H5 hle5 hs5 hM=>?_
 obtain⟨w',bf',fr',to',mk',ws',am',vw',kw',bx',csp',spx',hI',hA',hO',hcx',rfl,rfl⟩:=hM
 simp only[go_sem]
 have hmz: ∀c,c<w'→mk' c=0:=fun c hc=>hI'.zero c hc (by simp)
 have hrz:zC w' fr' to' mk'=zC w' fr' to' fun _=>0:=zhB fun i hi=>⟨rfl,rfl,hmz i hi⟩
 have hPz:PInv n w' st2 pl2 bf' fr' to' fun _=>0:=⟨hI'.P.st_lt,hI'.P.pl_lt,hI'.P.pl_st,hI'.P.st_pl,hI'.P.bl_lt,hI'.P.lo,hI'.P.hi,hI'.P.ne,hI'.P.le,fun c hc=>by have:=hI'.P.ne c hc;omega,hI'.P.own⟩
 rw[hrz]
 unfold zz
 refine Upd.leave (H':=(bp, .cells (PC (.slice (some ⟨bs,0,none⟩) n n) (.slice (some ⟨ba,0,none⟩) n n) (.slice (some ⟨bl,0,none⟩) n cb) (.slice (some ⟨bx',0,none⟩) w' csp') vk vw' (.map (some bm)) (W:Nat)) [] 112):: (bx', .cells (zC w' fr' to' (fun _=>0)) spx' 139):: (bs, .cells (zj n st2) [] 3):: (ba, .cells (zj n pl2) [] 3):: (bl, .cells (zj n bf') spb 3):: (bm, .map (am'.map fun p=>(zat p.1,Value.int .i64 p.2))):: (kw'++H)) Ks ?_
 exact hR G5 w' st2 pl2 bf' fr' to' ws' am' vw' kw' bx' csp' spx' (hle2.trans hle4) ⟨hPz,hI'.fine,hI'.lab,hI'.nd,hI'.bd⟩ (hI'.law.end fun s t hs ht e=>hI'.same s t hs ht e (by simp)) hI'.ms hA' hcx' hO'
end Go.Proofs.YtefkpedhbijhkaaGreatDoor
namespace Go.Proofs.YtefkpedhbijhkaaGreatDoor
open Go Go.V Go.Proofs
end Go.Proofs.YtefkpedhbijhkaaGreatDoor
namespace Go.Proofs.YtefkpedhbijhkaaGreatDoor
open Go Go.V Go.Proofs
end Go.Proofs.YtefkpedhbijhkaaGreatDoor
namespace Go.Proofs.YtefkpedhbijhkaaGreatDoor
open Go Go.V Go.Proofs
noncomputable def za7 (d:DfaT) (k:Nat):List Int:=if zaE (zd d)=true then lvl d k else[]
theorem zet {d:DfaT} (h:zd d) (k:Nat):za7 d k=lvl d k:=by unfold za7;rw[if_pos (zG h)]
theorem zwP {d:DfaT} (h: ¬zd d) (k:Nat):za7 d k=[]:=by unfold za7;rw[if_neg];rw[zB h];exact Bool.false_ne_true
end Go.Proofs.YtefkpedhbijhkaaGreatDoor
namespace Go.Proofs.YtefkpedhbijhkaaGreatDoor
open Go Go.V Go.Proofs
theorem WtO.isS {vw:Value} {ws:List (Nat×Nat)} {kw:zb} (h:WtO vw ws kw): ∃a c,vw= .slice a ws.length c:=by
 rcases h with ⟨a,rfl,rfl,_⟩| ⟨b,cap,sp,rfl,_⟩| ⟨b,sp,rfl,_⟩
 ·exact⟨a,0,rfl⟩
 ·exact⟨_,_,rfl⟩
 ·exact⟨_,_,rfl⟩
def zhE (n:Nat) (f:Nat→Nat):List Int:=(List.range n).map fun i=>((f i:Nat):Int)
theorem zeu (n:Nat) (f:Nat→Nat):(zhE n f).length=n:=by simp [zhE]
theorem zvq (n:Nat) (f:Nat→Nat):zj n f=(zhE n f).map (Value.int .i64):=by unfold zj zhE;rw[List.map_map];rfl
theorem znV {n:Nat} (f:Nat→Nat) {i:Nat} (h:i<n):(zhE n f)[i]'(by rw[zeu];exact h)=(f i:Int):=by simp [zhE]
def alF (d:DfaT) (N:Nat) (s:Nat):Nat:=((lvl d N).getD s 0).toNat
theorem znW {d:DfaT} (h:d.next.length=d.label.length) (N:Nat) {s:Nat} (hs:s<d.next.length):(lvl d N)[s]'(by rw[zad h];exact hs)=(alF d N s:Int):=by
 have hl:s< (lvl d N).length:=by rw[zad h];exact hs
 unfold alF
 rw[List.getD_eq_getElem?_getD,List.getElem?_eq_getElem hl]
 have hb:(lvl d N)[s]∈zf (lvl d N):=by rw[zcd];exact List.getElem_mem hl
 have:=za2 hb
 show _=(((lvl d N)[s]).toNat:Int)
 omega
theorem zgN {d:DfaT} (h:d.next.length=d.label.length) (N:Nat) {s t:Nat} (hs:s<d.next.length) (ht:t<d.next.length):alF d N s=alF d N t↔(lvl d N)[s]'(by rw[zad h];exact hs)=(lvl d N)[t]'(by rw[zad h];exact ht):=by
 rw[znW h N hs,znW h N ht];omega
theorem zkM {d:DfaT} (hok:zd d) {s k:Nat} (hs:s<d.next.length) (hk:k<d.width.toNat) (N:Nat):atL (lvl d N) (atL d.next[s] k)=(alF d N (dlF d k s):Int):=by
 obtain⟨h1,h2,h3⟩:=ziy hok hs (k:=k) Ko
 have h4:=hok.2.2.1
 have e1:atL d.next[s] (k:Int)=(dlF d k s:Int):=by
  rw[zX (by simpa using h1)]
  simp only[Int.toNat_natCast]
  exact h2
 rw[e1,zX (by simp only[Int.toNat_natCast];rw[zad h4];omega)]
 simp only[Int.toNat_natCast]
 exact znW h4 N Ko
theorem zvr {d:DfaT} (hok:zd d) {N:Nat} (hN:zmC d N) {s t k:Nat} (hs:s<d.label.length) (ht:t<d.label.length) (hk:k<d.width.toNat) (e:alF d N s=alF d N t):alF d N (dlF d k s)=alF d N (dlF d k t):=by
 have h4:=hok.2.2.1
 have hs':s<d.next.length:=by omega
 have ht':t<d.next.length:=by omega
 have h1:=(zep h4 N hs' ht').1 (by simp only[hN.2.1];exact(zgN h4 N hs' ht').1 e)
 have h2:=h1.2 k hk
 rw[zkM hok hs' hk,zkM hok ht' hk] at h2
 omega
theorem ztp {d:DfaT} (hok:zd d) {N:Nat} (hN:zmC d N) {bf:Nat→Nat} (hfine: ∀s t,s<d.label.length→t<d.label.length→alF d N s=alF d N t→bf s=bf t) (hlab: ∀s t,s<d.label.length→t<d.label.length→bf s=bf t→blF d.label s=blF d.label t)
  (hst: ∀s t k,s<d.label.length→t<d.label.length→k<d.width.toNat→bf s=bf t→bf (dlF d k s)=bf (dlF d k t)):zf (zhE d.label.length bf)=za7 d 65536:=by
 have h4:=hok.2.2.1
 have hle:N≤65536:=by have:=hN.1;have:=hok.2.1;omega
 rw[zet hok,zlY hN.2.1 hle,←zcd d N]
 have hlev: ∀m s t (hs:s<d.next.length) (ht:t<d.next.length),bf s=bf t→alF d m s=alF d m t:=by
  intro m
  induction m with
  |zero=>
   intro s t hs ht e
   rw[zgN h4 0 hs ht,zhw h4 Ko Ko]
   exact(zpI Ko Ko).1 (hlab s t Ko Ko e)
  |succ m ih=>
   intro s t hs ht e
   rw[zgN h4 (m+1) hs ht,zep h4 m hs ht]
   refine⟨(zgN h4 m hs ht).1 (ih s t hs ht e),fun k hk=>?_⟩
   rw[zkM hok hs hk,zkM hok ht hk]
   have h1:=(ziy hok hs (k:=k) Ko).2.2
   have h2:=(ziy hok ht (k:=k) Ko).2.2
   rw[ih _ _ Ko Ko (hst s t k Ko Ko hk e)]
 have hll:(zhE d.label.length bf).length=(lvl d N).length:=by rw[zeu,zad h4,h4]
 refine zf7 hll fun i j hi hj=>?_
 rw[zeu] at hi hj
 rw[znV bf hi,znV bf hj]
 have e1:=zgN h4 N (s:=i) (t:=j) Ko Ko
 constructor
 ·intro e;exact e1.1 (hlev N i j Ko Ko Ko)
 ·intro e;have:=hfine i j hi hj (e1.2 e);omega
set_option maxRecDepth 4000 in
theorem zyD {d:DfaT} {C:List Value} {an al ay:Option Addr} {cn cl cs:Nat} {rs:List Value} {G:za} {H:zb} (O:OpenD G d C an al ay cn cl cs rs) {n w W:Nat} (hW:d.width=(W:Int)) (hW2:W≤256) (hw:w≤66000) {b1 bp bx bm csp:Nat} {vs va vb vk:Value}:
  Tri Tryz.prog Tryz.f63.ntmps (piece [1,1,1,0] Tryz.f63) G [(1, .pointer (some ⟨b1,0,none⟩)),(3, .pointer (some ⟨bp,0,none⟩))] ((bp, .cells (PC vs va vb (.slice (some ⟨bx,0,none⟩) w csp) vk (.slice none 0 0) (.map (some bm)) (W:Nat)) [] 112):: (bm, .map []):: (b1, .cells C [] 27)::H) (onlyN fun G' l H'=> ∃ (ws:List (Nat×Nat)) (am:List ((Int×Int)×Int)) (vw:Value) (kw:zb),(∀b k,b<w→k<W→(b,k)∈ws)∧ws.Nodup∧(∀p∈ws,p.1<w∧p.2<W)∧ws.length≤w * W∧zbf am ws∧WtO vw ws kw∧G'=G∧zy [3] l=[(3, .pointer (some ⟨bp,0,none⟩))]∧H'=(bp, .cells (PC vs va vb (.slice (some ⟨bx,0,none⟩) w csp) vk vw (.map (some bm)) (W:Nat)) [] 112):: (bm, .map (am.map fun p=>(zat p.1,Value.int .i64 p.2))):: (kw++H)):=by
 have hCl:=O.len
 have hCw:=O.w
 have hmulw:w * W≤66000 * 256:=Nat.mul_le_mul hw hW2
 refine Tri.sepT fun hs0=>?_
 have hE:=hs0
 try simp only[zzs] at hE
 repeat(obtain⟨hx',hE⟩:=hE)
 refine Tri.piece (f:=Tryz.f63) rfl ?_
 refine Tri.run tok [0,1,2,3,4,5,6,9,16,17,18,21,22,23,36] Kk ?_
 repeat' first
  |with_reducible first|refine Nx.go ?_ |refine Bk.go (fun _=>?_) fun _=>?_ |refine Nb fun nb hnb hnb1 hnb2=>?_
  |simp -dsimp -implicitDefEqProofs (disch:=first|exact Kd|fail) only[go_sem,↓reduceIte,seval]
 refine Tri.loopU tok [0,1,2,3,4,5,6,9,16,17,18,21,22,23,36] Kk [1,3,16,17] (fun q G' l H'=> ∃ (i:Nat) (ws:List (Nat×Nat)) (am:List ((Int×Int)×Int)) (vw:Value) (kw:zb),i+q=w∧(∀b k,b<i→k<W→(b,k)∈ws)∧ws.Nodup∧(∀p∈ws,p.1<w∧p.2<W)∧ws.length≤i * W∧zbf am ws∧WtO vw ws kw∧G'=G∧H'=(bp, .cells (PC vs va vb (.slice (some ⟨bx,0,none⟩) w csp) vk vw (.map (some bm)) (W:Nat)) [] 112):: (b1, .cells C [] 27):: (bm, .map (am.map fun p=>(zat p.1,Value.int .i64 p.2))):: (kw++H)∧l=[(1, .pointer (some ⟨b1,0,none⟩)),(3, .pointer (some ⟨bp,0,none⟩)),(16, .int .i64 (w:Nat)),(17, .int .i64 (i:Nat))]) (w) ?_ ?_
 ·exact Upd.leave (H':=(bp, .cells (PC vs va vb (.slice (some ⟨bx,0,none⟩) w csp) vk (.slice none 0 0) (.map (some bm)) (W:Nat)) [] 112):: (b1, .cells C [] 27):: (bm, .map []):: ([]++H)) Ks ⟨0,[],[],_,[],by omega,fun b k h=>by omega,List.nodup_nil,fun p h=>(by cases h),by simp,zbf.nil, .inl ⟨none,rfl,rfl,rfl⟩,rfl,rfl,rfl⟩
 ·rintro q G1 l H1 hle hs1 ⟨i,ws,am,vw,kw,hiq,h1,h2,h3,h4,hA,hO,rfl,rfl,rfl⟩
  have hE:=hs1
  try simp only[zzs] at hE
  repeat(obtain⟨hx',hE⟩:=hE)
  by_cases hi:i<w
  ·repeat' first
    |with_reducible first|refine Nx.go ?_ |refine Bk.go (fun _=>?_) fun _=>?_ |refine Nb fun nb hnb hnb1 hnb2=>?_
    |simp -dsimp -implicitDefEqProofs (disch:=first|exact Kd|fail) only[go_sem,↓reduceIte,seval,hCl,hCw,hW]
   refine Tri.loopU tok [0,1,2,3,4,5,6,9,16,17,18,21,22,23,36] Kk [1,3,4,16,17,21,22] (fun q2 G' l H'=> ∃ (j:Nat) (ws:List (Nat×Nat)) (am:List ((Int×Int)×Int)) (vw:Value) (kw:zb),j+q2=W∧(∀b k,b<i→k<W→(b,k)∈ws)∧(∀k,k<j→(i,k)∈ws)∧ws.Nodup∧(∀p∈ws,p.1<w∧p.2<W)∧ws.length≤i * W+j∧zbf am ws∧WtO vw ws kw∧G'=G1∧H'=(bp, .cells (PC vs va vb (.slice (some ⟨bx,0,none⟩) w csp) vk vw (.map (some bm)) (W:Nat)) [] 112):: (b1, .cells C [] 27):: (bm, .map (am.map fun p=>(zat p.1,Value.int .i64 p.2))):: (kw++H)∧l=[(1, .pointer (some ⟨b1,0,none⟩)),(3, .pointer (some ⟨bp,0,none⟩)),(4, .int .i64 (i:Nat)),(16, .int .i64 (w:Nat)),(17, .int .i64 (i:Nat)),(21, .int .i64 (W:Nat)),(22, .int .i64 (j:Nat))]) (W) ?_ ?_
   ·exact Upd.now ⟨0,ws,am,vw,kw,by omega,h1,fun k h=>by omega,h2,h3,by omega,hA,hO,rfl,rfl,rfl⟩
   ·clear h1 h2 h3 h4 hA hO hs1
    rintro q2 G2 l H2 hle2 hs2 ⟨j,ws,am,vw,kw,hjq,h1,h1',h2,h3,h4,hA,hO,rfl,rfl,rfl⟩
    have hE:=hs2
    try simp only[zzs] at hE
    repeat(obtain⟨hx',hE⟩:=hE)
    have hmul:i * W+W≤w * W:=by rw[←Nat.succ_mul];exact Nat.mul_le_mul_right W Ko
    by_cases hj:j<W
    ·repeat' first
      |with_reducible first|refine Nx.go ?_ |refine Bk.go (fun _=>?_) fun _=>?_ |refine Nb fun nb hnb hnb1 hnb2=>?_
      |simp -dsimp -implicitDefEqProofs (disch:=first|exact Kd|fail) only[go_sem,↓reduceIte,seval]
     refine FnT.upd (FnT.leave (H':=(bp, .cells (PC vs va vb (.slice (some ⟨bx,0,none⟩) w csp) vk vw (.map (some bm)) (W:Nat)) [] 112):: (bm, .map (am.map fun p=>(zat p.1,Value.int .i64 p.2))):: (kw++((b1, .cells C [] 27)::H))) (zmD Ko hA hO fun vw' am' kw' hO' hA'=>?_) Ks)
     refine Upd.go (H':=(bp, .cells (PC vs va vb (.slice (some ⟨bx,0,none⟩) w csp) vk vw' (.map (some bm)) (W:Nat)) [] 112):: (b1, .cells C [] 27):: (bm, .map (am'.map fun p=>(zat p.1,Value.int .i64 p.2))):: (kw'++H)) Ks (Upd.now ?_)
     repeat' first
      |with_reducible first|refine Nx.go ?_ |refine Bk.go (fun _=>?_) fun _=>?_ |refine Nb fun nb hnb hnb1 hnb2=>?_
      |simp -dsimp -implicitDefEqProofs (disch:=first|exact Kd|fail) only[go_sem,↓reduceIte,seval]
     refine Upd.now ⟨q2 - 1,by omega,j+1,_,am',vw',kw',by omega,fun b k g1 g2=>zjO (h1 b k g1 g2),fun k hk=>?_,zkG h2,fun p hp=>?_,?_,hA',hO',rfl,rfl,rfl⟩
     ·rcases Nat.lt_or_ge k j with g|g
      ·exact zjO (h1' k g)
      ·obtain rfl:k=j:=by omega
       exact zhx _ _
     ·rcases zlp hp with g|g
      ·exact h3 p g
      ·rw[g];exact⟨hi,hj⟩
     ·have:=zjP ws (i,j);omega
    ·obtain rfl:j=W:=by omega
     repeat' first
      |with_reducible first|refine Nx.go ?_ |refine Bk.go (fun _=>?_) fun _=>?_ |refine Nb fun nb hnb hnb1 hnb2=>?_
      |simp -dsimp -implicitDefEqProofs (disch:=first|exact Kd|fail) only[go_sem,↓reduceIte,seval]
     refine Upd.now ⟨q - 1,by omega,i+1,ws,am,vw,kw,by omega,fun b k g1 g2=>?_,h2,h3,by rw[Nat.succ_mul];omega,hA,hO,rfl,rfl,rfl⟩
     rcases Nat.lt_or_ge b i with g|g
     ·exact h1 b k g g2
     ·obtain rfl:b=i:=by omega
      exact h1' k g2
  ·obtain rfl:i=w:=by omega
   repeat' first
    |with_reducible first|refine Nx.go ?_ |refine Bk.go (fun _=>?_) fun _=>?_ |refine Nb fun nb hnb hnb1 hnb2=>?_
    |simp -dsimp -implicitDefEqProofs (disch:=first|exact Kd|fail) only[go_sem,↓reduceIte,seval]
   refine Upd.leave (H':=(bp, .cells (PC vs va vb (.slice (some ⟨bx,0,none⟩) i csp) vk vw (.map (some bm)) (W:Nat)) [] 112):: (bm, .map (am.map fun p=>(zat p.1,Value.int .i64 p.2))):: (kw++H)) Ks ?_
   exact⟨ws,am,vw,kw,h1,h2,h3,h4,hA,hO,rfl,rfl,rfl⟩
set_option maxRecDepth 4000 in
theorem zyE {n W:Nat} {al bf0:Nat→Nat} {dl:Nat→Nat→Nat} (hdl: ∀j s,j<W→s<n→dl j s<n) (hal: ∀j s t,j<W→s<n→t<n→al s=al t→al (dl j s)=al (dl j t)) (hn:n≤66000) (hW:W≤256) {w:Nat} {st pl bf fr to:Nat→Nat} {ws:List (Nat×Nat)} (hI:HInv n W al bf0 w st pl bf fr to ws) (hlaw:zcq n W bf dl ws 0 fun _=>False) (hms:ws.length+W * (n - w)≤20000000) {am:List ((Int×Int)×Int)} (hA:zbf am ws) {G:za} {bp bs ba bl bx bm cb csp:Nat} {spb spx:List Value} (hcx:w * 3+spx.length=csp * 3) {vk vw:Value} {kw:zb} (hO:WtO vw ws kw) (hbk:BkT G n W dl vk) {H:zb}:
  Tri Tryz.prog Tryz.f63.ntmps (piece [1,1,1,1,0] Tryz.f63) G [(3, .pointer (some ⟨bp,0,none⟩))] ((bp, .cells (PC (.slice (some ⟨bs,0,none⟩) n n) (.slice (some ⟨ba,0,none⟩) n n) (.slice (some ⟨bl,0,none⟩) n cb) (.slice (some ⟨bx,0,none⟩) w csp) vk vw (.map (some bm)) (W:Nat)) [] 112):: (bx, .cells (zC w fr to (fun _=>0)) spx 139):: (bs, .cells (zj n st) [] 3):: (ba, .cells (zj n pl) [] 3):: (bl, .cells (zj n bf) spb 3):: (bm, .map (am.map fun p=>(zat p.1,Value.int .i64 p.2))):: (kw++H)) (onlyN fun G' l H'=> ∃ (w:Nat) (st pl bf fr to:Nat→Nat) (am:List ((Int×Int)×Int)) (vw:Value) (kw:zb) (bx csp:Nat) (spx:List Value),PLe G G'∧HInv n W al bf0 w st pl bf fr to []∧zcq n W bf dl [] 0 (fun _=>False)∧zy [3] l=[(3, .pointer (some ⟨bp,0,none⟩))]∧H'=(bp, .cells (PC (.slice (some ⟨bs,0,none⟩) n n) (.slice (some ⟨ba,0,none⟩) n n) (.slice (some ⟨bl,0,none⟩) n cb) (.slice (some ⟨bx,0,none⟩) w csp) vk vw (.map (some bm)) (W:Nat)) [] 112):: (bx, .cells (zC w fr to (fun _=>0)) spx 139):: (bs, .cells (zj n st) [] 3):: (ba, .cells (zj n pl) [] 3):: (bl, .cells (zj n bf) spb 3):: (bm, .map (am.map fun p=>(zat p.1,Value.int .i64 p.2))):: (kw++H)):=by
 refine Tri.sepT fun hs0=>?_
 have hE:=hs0
 try simp only[zzs] at hE
 repeat(obtain⟨hx',hE⟩:=hE)
 refine Tri.piece (f:=Tryz.f63) rfl ?_
 refine Tri.run tok [0,1,2,3,4,5,6,9,16,17,18,21,22,23,36] Kk ?_
 repeat' first
  |with_reducible first|refine Nx.go ?_ |refine Bk.go (fun _=>?_) fun _=>?_ |refine Nb fun nb hnb hnb1 hnb2=>?_
  |simp -dsimp -implicitDefEqProofs (disch:=first|exact Kd|fail) only[go_sem,↓reduceIte,seval]
 refine Tri.loopU tok [0,1,2,3,4,5,6,9,16,17,18,21,22,23,36] Kk [3] (fun q G' l H'=> ∃ (w:Nat) (st pl bf fr to:Nat→Nat) (ws:List (Nat×Nat)) (am:List ((Int×Int)×Int)) (vw:Value) (kw:zb) (bx csp:Nat) (spx:List Value),ws.length+W * (n - w)=q∧q≤20000000∧PLe G G'∧HInv n W al bf0 w st pl bf fr to ws∧zcq n W bf dl ws 0 (fun _=>False)∧zbf am ws∧w * 3+spx.length=csp * 3∧WtO vw ws kw∧H'=(bp, .cells (PC (.slice (some ⟨bs,0,none⟩) n n) (.slice (some ⟨ba,0,none⟩) n n) (.slice (some ⟨bl,0,none⟩) n cb) (.slice (some ⟨bx,0,none⟩) w csp) vk vw (.map (some bm)) (W:Nat)) [] 112):: (bx, .cells (zC w fr to (fun _=>0)) spx 139):: (bs, .cells (zj n st) [] 3):: (ba, .cells (zj n pl) [] 3):: (bl, .cells (zj n bf) spb 3):: (bm, .map (am.map fun p=>(zat p.1,Value.int .i64 p.2))):: (kw++H)∧l=[(3, .pointer (some ⟨bp,0,none⟩))]) ((ws.length+W * (n - w))) ?_ ?_
 ·exact Upd.now ⟨w,st,pl,bf,fr,to,ws,am,vw,kw,bx,csp,spx,rfl,hms,PLe.refl _,hI,hlaw,hA,hcx,hO,rfl,rfl⟩
 ·clear hI hlaw hms hA hcx hO hs0
  rintro q G1 l H1 hle hs1 ⟨w,st,pl,bf,fr,to,ws,am,vw,kw,bx,csp,spx,hq,hms,hle1,hI,hlaw,hA,hcx,hO,rfl,rfl⟩
  obtain⟨av,cv,ev⟩:=hO.isS
  rcases List.eq_nil_or_concat ws with rfl| ⟨ws0,⟨b,k⟩,hws⟩
  ·rw[ev] at hs1⊢
   have hE:=hs1
   try simp only[zzs] at hE
   repeat(obtain⟨hx',hE⟩:=hE)
   repeat' first
    |with_reducible first|refine Nx.go ?_ |refine Bk.go (fun _=>?_) fun _=>?_ |refine Nb fun nb hnb hnb1 hnb2=>?_
    |simp -dsimp -implicitDefEqProofs (disch:=first|exact Kd|fail) only[go_sem,↓reduceIte,seval]
   refine Upd.now ⟨w,st,pl,bf,fr,to,am,vw,kw,bx,csp,spx,hle1,hI,hlaw,rfl,?_⟩
   rw[ev];rfl
  ·rw[List.concat_eq_append] at hws
   subst hws
   have hlen:(ws0++[(b,k)]).length=ws0.length+1:=by simp
   rw[hlen] at ev hq
   obtain⟨hb,hk⟩:=hI.bd (b,k) (List.mem_append_right _ (List.mem_singleton.2 rfl))
   have hnd:=hI.nd
   have hlaw0:=hlaw.take
   have hI0:HInv n W al bf0 w st pl bf fr to ws0:=⟨hI.P,hI.fine,hI.lab,(List.nodup_append.1 hnd).1,fun p hp=>hI.bd p (List.mem_append_left _ hp)⟩
   rw[ev] at hs1 hO⊢
   have hE:=hs1
   try simp only[zzs] at hE
   repeat(obtain⟨hx',hE⟩:=hE)
   repeat' first
    |with_reducible first|refine Nx.go ?_ |refine Bk.go (fun _=>?_) fun _=>?_ |refine Nb fun nb hnb hnb1 hnb2=>?_
    |simp -dsimp -implicitDefEqProofs (disch:=first|exact Kd|fail) only[go_sem,↓reduceIte,seval]
   refine FnT.upd (FnT.leave (H':=(bp, .cells (PC (.slice (some ⟨bs,0,none⟩) n n) (.slice (some ⟨ba,0,none⟩) n n) (.slice (some ⟨bl,0,none⟩) n cb) (.slice (some ⟨bx,0,none⟩) w csp) vk (.slice av (ws0.length+1) cv) (.map (some bm)) (W:Nat)) [] 112):: (bm, .map (am.map fun p=>(zat p.1,Value.int .i64 p.2))):: (kw++((bx, .cells (zC w fr to (fun _=>0)) spx 139):: (bs, .cells (zj n st) [] 3):: (ba, .cells (zj n pl) [] 3):: (bl, .cells (zj n bf) spb 3)::H))) (zxE Ko hA hnd hO fun vw' am' kw' hO' hA'=>?_) Ks)
   refine Upd.go (H':=(bp, .cells (PC (.slice (some ⟨bs,0,none⟩) n n) (.slice (some ⟨ba,0,none⟩) n n) (.slice (some ⟨bl,0,none⟩) n cb) (.slice (some ⟨bx,0,none⟩) w csp) vk vw' (.map (some bm)) (W:Nat)) [] 112):: (bx, .cells (zC w fr to (fun _=>0)) spx 139):: (bs, .cells (zj n st) [] 3):: (ba, .cells (zj n pl) [] 3):: (bl, .cells (zj n bf) spb 3):: (bm, .map (am'.map fun p=>(zat p.1,Value.int .i64 p.2))):: (kw'++H)) Ks (Upd.sepI fun hs2=>Upd.now ?_)
   have hE:=hs2
   try simp only[zzs] at hE
   repeat(obtain⟨hx',hE⟩:=hE)
   repeat' first
    |with_reducible first|refine Nx.go ?_ |refine Bk.go (fun _=>?_) fun _=>?_ |refine Nb fun nb hnb hnb1 hnb2=>?_
    |simp -dsimp -implicitDefEqProofs (disch:=first|exact Kd|fail) only[go_sem,↓reduceIte,seval]
   refine FnT.upd (FnT.leave (H':=(bp, .cells (PC (.slice (some ⟨bs,0,none⟩) n n) (.slice (some ⟨ba,0,none⟩) n n) (.slice (some ⟨bl,0,none⟩) n cb) (.slice (some ⟨bx,0,none⟩) w csp) vk vw' (.map (some bm)) (W:Nat)) [] 112):: (bx, .cells (zC w fr to (fun _=>0)) spx 139):: (bs, .cells (zj n st) [] 3):: (ba, .cells (zj n pl) [] 3):: (bl, .cells (zj n bf) spb 3):: (bm, .map (am'.map fun p=>(zat p.1,Value.int .i64 p.2))):: (kw'++H)) (zyU hdl hal hn hW hI0 hb hk hlaw0 Ko hA' hcx hO' (hbk.mono hle1) fun G2 w2 st2 pl2 bf2 fr2 to2 ws2 am2 vw2 kw2 bx2 csp2 spx2 hle2 hI2 hlaw2 hms2 hA2 hcx2 hO2=>Upd.now ?_) Ks)
   repeat' first
    |with_reducible first|refine Nx.go ?_ |refine Bk.go (fun _=>?_) fun _=>?_ |refine Nb fun nb hnb hnb1 hnb2=>?_
    |simp -dsimp -implicitDefEqProofs (disch:=first|exact Kd|fail) only[go_sem,↓reduceIte,seval]
   exact Upd.now ⟨ws2.length+W * (n - w2),by omega,w2,st2,pl2,bf2,fr2,to2,ws2,am2,vw2,kw2,bx2,csp2,spx2,rfl,by omega,hle1.trans hle2,hI2,hlaw2,hA2,hcx2,hO2,rfl,rfl⟩
end Go.Proofs.YtefkpedhbijhkaaGreatDoor
namespace Go.Proofs.YtefkpedhbijhkaaGreatDoor
open Go Go.V Go.Proofs
set_option maxRecDepth 4000 in
theorem ztq {d:DfaT} (hsm:zt d) {G:za} {H:zb} {R:Value→za→zb→Prop} {v:Value} (hv:IsD G d v)
  (hR: ∀G' v',PLe G G'→Sep G' (zk H)→Sl G' (Value.int .i64) v' (za7 d 65536)→R v' G' H):FnT Tryz.prog 63 [v] G H R:=by
 obtain⟨C,an,al,ay,cn,cl,cs,rs,rfl,O⟩:=hv.opened
 have hCl:=O.len
 have hCa:=O.all
 refine FnT.sep ?_
 by_cases hok:zd d
 ·have hb:=zG hok
  obtain⟨hk1,hk2,hk3,hk4,hk5,hk6,hk7⟩:=id hok
  obtain⟨N,hN⟩:=zpF hk3 hk1
  obtain⟨n,hnl⟩: ∃n,n=d.label.length:=⟨_,rfl⟩
  obtain⟨W,hWd⟩: ∃W:Nat,W=d.width.toNat:=⟨_,rfl⟩
  have hw1:0≤d.width:=by omega
  have hW:d.width=(W:Int):=by omega
  have hW2:W≤256:=by
   have h2:=zam d.of
   have h3:=O.ofl
   omega
  have hdl: ∀j s,j<W→s<n→dlF d j s<n:=fun j s hj hs=>by
   have:=(ziy hok (s:=s) (k:=j) Ko Ko).2.2
   omega
  have hal: ∀j s t,j<W→s<n→t<n→alF d N s=alF d N t→alF d N (dlF d j s)=alF d N (dlF d j t):=fun j s t hj hs ht e=>zvr hok hN Ko Ko Ko e
  have hfin:=fun bf=>ztp hok hN (bf:=bf)
  refine FnT.bodyS tok [0,1,2,3,4,5,6,9,16,17,18,21,22,23,36] (.seq .run (.seq .run (.seq .run (.seq .cut (.seq .cut .cut))))) Tryz.func63 rfl Kk Kk (by show _≤50;simp) fun hsep=>?_
  rw[Tryz.results63]
  have hE:=hsep
  try simp only[zzs] at hE
  repeat(obtain⟨hx',hE⟩:=hE)
  repeat' first
   |with_reducible first|refine Nx.go ?_ |refine Bk.go (fun _=>?_) fun _=>?_ |refine Nb fun nb hnb hnb1 hnb2=>?_
   |simp -dsimp -implicitDefEqProofs (disch:=first|exact Kd|fail) only[go_sem,↓reduceIte,seval, -List.reduceReplicate,List.toList_toArray,hCl,hCa,hb]
   |with_reducible refine zav hsm O.is ?_
  obtain⟨b1,e10⟩: ∃x,x=nb:=⟨_,rfl⟩
  subst e10
  refine zo1 hsm hok hnl hW hW2 O.is fun G2 bp bs ba bl bm cb spb vsp ks vk st pl w fr to hle2 hncb hP hks hbk=>?_
  have hw0:=hP.bl_lt 0 Ko
  have hwn:=hP.nb_le
  rcases hks with ⟨_,_,h0,_,_⟩| ⟨bx,csp,spx,rfl,rfl,hxl,hxc⟩
  ·omega
  rw[zba] at hxc
  repeat' first
   |with_reducible first|refine Nx.go ?_ |refine Bk.go (fun _=>?_) fun _=>?_ |refine Nb fun nb hnb hnb1 hnb2=>?_
   |simp -dsimp -implicitDefEqProofs (disch:=first|exact Kd|fail) only[go_sem,↓reduceIte,seval]
  refine Tri.live [1,3] ?_
  refine Tri.upd (Upd.go (H':=(bp, .cells (PC (.slice (some ⟨bs,0,none⟩) n n) (.slice (some ⟨ba,0,none⟩) n n) (.slice (some ⟨bl,0,none⟩) n cb) (.slice (some ⟨bx,0,none⟩) w csp) vk (.slice none 0 0) (.map (some bm)) (W:Nat)) [] 112):: (bm, .map []):: (b1, .cells C [] 27):: ((bx, .cells (zC w fr to (fun _=>0)) spx 139):: (bs, .cells (zj n st) [] 3):: (ba, .cells (zj n pl) [] 3):: (bl, .cells (zj n (blF d.label)) spb 3)::H)) Ks (Upd.now ?_))
  refine Tri.isPiece [1,1,1,0] Tryz.f63 Kk ?_
  refine Tri.onlyN (zyD (n:=n) (O.mono hle2) hW hW2 Ko) fun G3 l3 H3 hle3 hs3 hM=>?_
  obtain⟨ws,am,vw,kw,h1,h2,h3,h4,hA,hO,rfl,hfr,rfl⟩:=hM
  simp only[go_sem]
  refine Tri.live [3] ?_
  rw[hfr]
  have hmul:w * W+W * (n - w)=W * n:=by
   rw[Nat.mul_comm w W,←Nat.mul_add];congr 1;omega
  have hmul2:W * n≤256 * 65536:=Nat.mul_le_mul hW2 Ko
  refine Tri.upd (Upd.go (H':=(bp, .cells (PC (.slice (some ⟨bs,0,none⟩) n n) (.slice (some ⟨ba,0,none⟩) n n) (.slice (some ⟨bl,0,none⟩) n cb) (.slice (some ⟨bx,0,none⟩) w csp) vk vw (.map (some bm)) (W:Nat)) [] 112):: (bx, .cells (zC w fr to (fun _=>0)) spx 139):: (bs, .cells (zj n st) [] 3):: (ba, .cells (zj n pl) [] 3):: (bl, .cells (zj n (blF d.label)) spb 3):: (bm, .map (am.map fun p=>(zat p.1,Value.int .i64 p.2))):: (kw++H)) Ks (Upd.now ?_))
  refine Tri.isPiece [1,1,1,1,0] Tryz.f63 Kk ?_
  refine Tri.onlyN (zyE (al:=alF d N) (bf0:=blF d.label) hdl hal Ko hW2 ⟨hP,fun s t hs ht e=>?_,fun s t _ _ e=>e,h2,h3⟩ (fun s t j hs ht hj e ne=> .inl (h1 _ j (hP.bl_lt _ (hdl j s hj hs)) hj)) Ko hA hxc hO hbk) fun G4 l4 H4 hle4 hs4 hM=>?_
  ·rw[zpI Ko Ko,←zhw hk3 Ko Ko]
   exact zjN hk3 Ko Ko N (Nat.zero_le N) ((zgN hk3 N Ko Ko).1 e)
  ·obtain⟨w',st',pl',bf',fr',to',am',vw',kw',bx',csp',spx',hle34,hI',hlaw',hfr4,rfl⟩:=hM
   simp only[go_sem]
   refine Tri.live [3] ?_
   rw[hfr4]
   have hres:=hfin bf' (fun s t hs ht e=>hI'.fine s t Ko Ko e) (fun s t hs ht e=>hI'.lab s t Ko Ko e) (fun s t k hs ht hk e=>hlaw'.done Ko Ko Ko e)
   rw[←hnl] at hres
   refine Tri.upd (Upd.go (H':=(bl, .cells (zj n bf') spb 3):: (bp, .cells (PC (.slice (some ⟨bs,0,none⟩) n n) (.slice (some ⟨ba,0,none⟩) n n) (.slice (some ⟨bl,0,none⟩) n cb) (.slice (some ⟨bx',0,none⟩) w' csp') vk vw' (.map (some bm)) (W:Nat)) [] 112)::H) Ks (Upd.sepI fun hx'=>Upd.shareRow hx'.1.1 fun G5 hle5 hs5 hr5=>?_))
   rw[zvq] at hr5
   have hE:=hs5
   try simp only[zzs] at hE
   repeat(obtain⟨hx',hE⟩:=hE)
   refine Tri.run tok [0,1,2,3,4,5,6,9,16,17,18,21,22,23,36] Kk ?_
   repeat' first
    |with_reducible first|refine Nx.go ?_ |refine Bk.go (fun _=>?_) fun _=>?_ |refine Nb fun nb hnb hnb1 hnb2=>?_
    |simp -dsimp -implicitDefEqProofs (disch:=first|exact Kd|fail) only[go_sem,↓reduceIte,seval]
   refine znb (l:=zhE n bf') (by rw[zeu];omega) ⟨_,cb,by rw[zeu],hr5,by rw[zeu];exact hncb⟩ fun G6 v6 hle6 hs6 hsl6=>?_
   rw[hres] at hsl6
   repeat' first
    |with_reducible first|refine Nx.go ?_ |refine Bk.go (fun _=>?_) fun _=>?_ |refine Nb fun nb hnb hnb1 hnb2=>?_
    |simp -dsimp -implicitDefEqProofs (disch:=first|exact Kd|fail) only[go_sem,↓reduceIte,seval]
   unfold zz
   refine Upd.leave (H':=H) Ks ?_
   exact fun _ hs=>hR G6 v6 (hle2.trans (hle34.trans (hle5.trans hle6))) hs hsl6
 ·have hb:=zB hok
  rw[zwP hok] at hR
  refine FnT.body tok [0,1,2,3,4,5,6,9,16,17,18,21,22,23,36] Tryz.func63 rfl Kk Kk (by show _≤50;simp) fun hsep=>?_
  rw[Tryz.results63]
  have hE:=hsep
  try simp only[zzs] at hE
  repeat(obtain⟨hx',hE⟩:=hE)
  repeat' first
   |with_reducible first|refine Nx.go ?_ |refine Bk.go (fun _=>?_) fun _=>?_ |refine Nb fun nb hnb hnb1 hnb2=>?_
   |simp -dsimp -implicitDefEqProofs (disch:=first|exact Kd|fail) only[go_sem,↓reduceIte,seval, -List.reduceReplicate,List.toList_toArray,hCl,hCa,hb]
   |with_reducible refine zav hsm O.is ?_
  unfold zz
  refine Upd.leave (H':=H) Ks ?_
  exact fun _ hs=>hR G _ (PLe.refl _) hs (Sl.nil _ _)
end Go.Proofs.YtefkpedhbijhkaaGreatDoor
namespace Go.Proofs.YtefkpedhbijhkaaGreatDoor
open Go Go.V Go.Proofs
def za4 (d:DfaT) (m:List Int):List Int:=(zw m).map fun s=>d.label.getD s.toNat 0
def znX (d:DfaT) (m:List Int) (j:Nat) (vl:Value) (kl:zb):Prop:=
 (j=0∧vl= .slice none 0 0∧kl=[])∨ ∃bl c2 sp2,vl= .slice (some ⟨bl,0,none⟩) j c2∧kl=[(bl, .cells (((za4 d m).take j).map (Value.int .i64)) sp2 3)]∧j+sp2.length=c2
theorem zvK {d:DfaT} {m:List Int} {C:List Value} {an al ay:Option Addr} {cn cl cs:Nat} {rs:List Value} {G:za} {H:zb} (O:OpenD G d C an al ay cn cl cs rs) {v0 v1 v6 v35 v36 v37:Value} {b2 b4 b7:Nat} {j t:Nat} (hj:j< (zw m).length) (hjb:j<65536) (ht:t<d.label.length) (hsj:(zw m)[j]=(t:Int)) {vn vl vs:Value} {kl:zb} (hout:znX d m j vl kl):
  Tri Tryz.prog Tryz.f62.ntmps (piece [1,1,1,1,0,1,0,0,1,1,0,0,1,1,1,1] Tryz.f62) G [(0,v0),(1,v1),(2, .pointer (some ⟨b2,0,none⟩)),(4, .pointer (some ⟨b4,0,none⟩)),(5, .int .i64 0),(6,v6),(7, .pointer (some ⟨b7,0,none⟩)),(9, .int .i64 (t:Nat)),(35,v35),(36,v36),(37,v37)] ((b7, .cells (zc d vn vl vs) [] 27):: (b2, .cells C [] 27):: (kl++H)) (onlyN fun G' fr' H'=>
   ∃vl' kl',G'=G∧znX d m (j+1) vl' kl'∧zy [0,1,2,4,5,6,7,35,36,37] fr'=[(0,v0),(1,v1),(2, .pointer (some ⟨b2,0,none⟩)),(4, .pointer (some ⟨b4,0,none⟩)),(5, .int .i64 0),(6,v6),(7, .pointer (some ⟨b7,0,none⟩)),(35,v35),(36,v36),(37,v37)]∧H'=(b7, .cells (zc d vn vl' vs) [] 27):: (b2, .cells C [] 27):: (kl'++H)):=by
 have hCl:=O.len
 have hCx:=O.l
 have hl2: ∀a b c:Value,(zc d a b c).length=260:=fun a b c=>zab O.ofl _ _ _
 have hg2: ∀a b c:Value,(zc d a b c)[258]? =some b:=fun a b c=>zcX O.ofl _ _ _
 have hputL: ∀a b c x:Value,zi (zc d a b c) 258 [x]=zc d a x c:=fun a b c x=>zbn O.ofl _ _ _ _
 have hlt:d.label[t]=d.label.getD t 0:=by rw[List.getD_eq_getElem?_getD,List.getElem?_eq_getElem ht];rfl
 have hlab:(za4 d m).take (j+1)=(za4 d m).take j++[d.label.getD t 0]:=by
  have hjl:j< (za4 d m).length:=by unfold za4;rw[List.length_map];exact hj
  rw[List.take_succ_eq_append_getElem hjl]
  congr 2
  simp only[za4,List.getElem_map,hsj,Int.toNat_natCast]
 have hlj:((za4 d m).take j).length=j:=by rw[List.length_take];unfold za4;rw[List.length_map];omega
 have had2:Adr al:=O.rl.adr (by rw[List.length_map];omega)
 refine Tri.sepT fun hs0=>?_
 rcases hout with ⟨hj0,rfl,rfl⟩| ⟨bl,c2,sp2,rfl,rfl,hc2⟩
 ·have hE:=hs0
  try simp only[zzs] at hE
  repeat(obtain⟨hx',hE⟩:=hE)
  have hce:((za4 d m).take (j+1)).map (Value.int .i64)=[Value.int .i64 (d.label.getD t 0)]:=by rw[hlab,List.map_append,List.eq_nil_of_length_eq_zero (hlj.trans hj0)];rfl
  refine Tri.piece (f:=Tryz.f62) rfl ?_
  refine Tri.run tok [0,1,2,4,5,6,7,9,10,11,12,13,18,35,36,37,38,48,49,50,51] Kk ?_
  repeat' first
   |with_reducible first|refine Nx.go ?_ |refine Bk.go (fun _=>?_) fun _=>?_ |refine Nb fun nb hnb hnb1 hnb2=>?_ |refine Nr fun nb nsp ncap hnb hncap hnb1 hnb2=>?_
   |simp -dsimp -implicitDefEqProofs (disch:=first|exact Kd|fail) only[go_sem,↓reduceIte,seval, -List.reduceReplicate,List.replicate_one,List.toList_toArray,hCl,hCx,hl2,hg2,hputL,Row.obj O.rl,List.getElem_map,hlt,Int.toNat_natCast,Nat.sub_self]
   |with_reducible refine Tri.drawH tok mixed [0,1,2,4,5,6,7,9,10,11,12,13,18,35,36,37,38,48,49,50,51] 17 [1,3,6] (.op 0 .plain (.op 1 .held (.op 2 .plain (.op 3 .held (.op 4 .plain (.op 5 .plain (.op 6 .held (.op 7 .keeps (.op 8 .keeps (.op 9 .plain (.op 10 .plain .nil))))))))))) Kk [7,2] ?_
  rw[←hce]
  exact Upd.go (H':=(b7, .cells (zc d vn (.slice (some ⟨nb,0,none⟩) 1 ncap) vs) [] 27):: (b2, .cells C [] 27):: ([(nb, .cells (((za4 d m).take (j+1)).map (Value.int .i64)) nsp 3)]++H)) Ks (Upd.now ⟨.slice (some ⟨nb,0,none⟩) 1 ncap,_,rfl, .inr ⟨nb,ncap,nsp,by rw[hj0],rfl,by omega⟩,rfl,rfl⟩)
 ·have hE:=hs0
  try simp only[zzs] at hE
  repeat(obtain⟨hx',hE⟩:=hE)
  obtain⟨ps,hps,hpl⟩: ∃ps,ps=((za4 d m).take j).map (Value.int .i64)∧ps.length=j:=⟨_,rfl,by rw[List.length_map,hlj]⟩
  have hce:((za4 d m).take (j+1)).map (Value.int .i64)=ps++[Value.int .i64 (d.label.getD t 0)]:=by rw[hlab,List.map_append,←hps];rfl
  rw[←hps]
  refine Tri.piece (f:=Tryz.f62) rfl ?_
  refine Tri.run tok [0,1,2,4,5,6,7,9,10,11,12,13,18,35,36,37,38,48,49,50,51] Kk ?_
  repeat' first
   |with_reducible first|refine Nx.go ?_ |refine Bk.go (fun _=>?_) fun _=>?_ |refine Nb fun nb hnb hnb1 hnb2=>?_ |refine Nr fun nb nsp ncap hnb hncap hnb1 hnb2=>?_
   |simp -dsimp -implicitDefEqProofs (disch:=first|exact Kd|fail) only[go_sem,↓reduceIte,seval, -List.reduceReplicate,List.replicate_one,List.toList_toArray,hCl,hCx,hl2,hg2,hputL,Row.obj O.rl,List.getElem_map,hlt,Int.toNat_natCast,Nat.sub_self]
   |with_reducible refine Tri.drawH tok mixed [0,1,2,4,5,6,7,9,10,11,12,13,18,35,36,37,38,48,49,50,51] 17 [1,3,6] (.op 0 .plain (.op 1 .held (.op 2 .plain (.op 3 .held (.op 4 .plain (.op 5 .plain (.op 6 .held (.op 7 .keeps (.op 8 .keeps (.op 9 .plain (.op 10 .plain .nil))))))))))) Kk [7,2] ?_
  rw[←hce]
  exact Upd.go (H':=(b7, .cells (zc d vn (.slice (some ⟨nb,0,none⟩) (j+1) ncap) vs) [] 27):: (b2, .cells C [] 27):: ([(nb, .cells (((za4 d m).take (j+1)).map (Value.int .i64)) nsp 3)]++H)) Ks (Upd.now ⟨_,_,rfl, .inr ⟨nb,ncap,nsp,rfl,rfl,by omega⟩,rfl,rfl⟩)
end Go.Proofs.YtefkpedhbijhkaaGreatDoor
namespace Go.Proofs.YtefkpedhbijhkaaGreatDoor
open Go Go.V Go.Proofs
def zvs (d:DfaT) (m:List Int) (G':za) (j:Nat) (vn:Value) (kn:zb):Prop:=
 (j=0∧vn= .slice none 0 0∧kn=[])∨ ∃bn c1 rv sp1,vn= .slice (some ⟨bn,0,none⟩) j c1∧kn=[(bn, .cells rv sp1 24)]∧rv.length=j∧j+sp1.length=c1∧
  ∀i (h:i<j) (h2:i<rv.length) (h3:i< (zw m).length),∃b c,rv[i]= .slice b (zdH d m (zw m)[i].toNat).length c∧Row G' b ((zdH d m (zw m)[i].toNat).map (Value.int .i64))∧(zdH d m (zw m)[i].toNat).length≤c
theorem x_t {d:DfaT} (hsm:zt d) {m:List Int} (hst:zbb d m) {C:List Value} {an al ay:Option Addr} {cn cl cs:Nat} {rs:List Value} {G:za} {H:zb} (O:OpenD G d C an al ay cn cl cs rs) {v0 v1:Value} {b2 b4 b7:Nat} {an3 ah:Option Addr} {cn3 ch:Nat} (hr3:Row G an3 ((zf m).map (Value.int .i64))) (hrh:Row G ah ((zw m).map (Value.int .i64))) {j:Nat} (hj:j< (zw m).length) {vn vl vs:Value} {kn kl:zb} (hout:zvs d m G j vn kn) (hlab0:znX d m j vl kl) (hvs:zax vs=true):
  Tri Tryz.prog Tryz.f62.ntmps (piece [1,1,1,1,0,1,0,0,1,1,0,0] Tryz.f62) G [(0,v0),(1,v1),(2, .pointer (some ⟨b2,0,none⟩)),(4, .pointer (some ⟨b4,0,none⟩)),(5, .int .i64 0),(6, .slice an3 (zf m).length cn3),(7, .pointer (some ⟨b7,0,none⟩)),(35, .slice ah (zw m).length ch),(36, .int .i64 (zw m).length),(37, .int .i64 (j:Nat))] ((b7, .cells (zc d vn vl vs) [] 27):: (b2, .cells C [] 27):: (kn++(kl++H))) (onlyN fun G' fr' H'=>
   ∃vn' vl' kn' kl',PLe G G'∧zvs d m G' (j+1) vn' kn'∧znX d m (j+1) vl' kl'∧zy [0,1,2,4,5,6,7,35,36,37] fr'=[(0,v0),(1,v1),(2, .pointer (some ⟨b2,0,none⟩)),(4, .pointer (some ⟨b4,0,none⟩)),(5, .int .i64 0),(6, .slice an3 (zf m).length cn3),(7, .pointer (some ⟨b7,0,none⟩)),(35, .slice ah (zw m).length ch),(36, .int .i64 (zw m).length),(37, .int .i64 (j:Nat))]∧H'=(b7, .cells (zc d vn' vl' vs) [] 27):: (b2, .cells C [] 27):: (kn'++(kl'++H))):=by
 obtain⟨hm1,hm2,hm3,hm4,hm5⟩:=id hsm
 have hok:=hst.1
 have hml:m.length=d.label.length:=hst.2.1
 obtain⟨hk1,hk2,hk3,hk4,hk5,hk6,hk7⟩:=id hok
 have hCl:=O.len
 have hCw:=O.w
 have hCn:=O.n
 have hCx:=O.l
 have hnl:=zv m
 have hl2: ∀a b c:Value,(zc d a b c).length=260:=fun a b c=>zab O.ofl _ _ _
 have hg1: ∀a b c:Value,(zc d a b c)[257]? =some a:=fun a b c=>zdG O.ofl _ _ _
 have hg2: ∀a b c:Value,(zc d a b c)[258]? =some b:=fun a b c=>zcX O.ofl _ _ _
 have hputN: ∀a b c x:Value,zi (zc d a b c) 257 [x]=zc d x b c:=fun a b c x=>zca O.ofl _ _ _ _
 have hputL: ∀a b c x:Value,zi (zc d a b c) 258 [x]=zc d a x c:=fun a b c x=>zbn O.ofl _ _ _ _
 -- the state
 obtain⟨t,htl,hsj⟩: ∃t:Nat,t<m.length∧(zw m)[j]=(t:Int):=by
  have hmem:(zl m)[j]'(by unfold zw at hj;rwa [List.length_map] at hj)∈m:=(zI m).1 (List.getElem_mem _)
  obtain⟨t,ht⟩:=zS hmem
  exact⟨t,(zR ht).1,by simp only[zw,List.getElem_map];exact zx ht⟩
 have htn:t<d.next.length:=by omega
 have htl2:t<d.label.length:=by omega
 have htv:t<rs.length:=by have:=O.rnl;omega
 obtain⟨b,c,e1,e2,e3⟩:=O.rs t htn htv
 obtain⟨hw0,hlt0,hlt1,hrng⟩:=hk7 t htn htl2
 obtain⟨row,hrow⟩: ∃row,row=d.next[t]:=⟨_,rfl⟩
 have hrl:=hm2 _ (List.getElem_mem htn)
 rw[←hrow] at e1 e2 e3 hw0 hrng hrl
 have hw:d.width=(row.length:Int):=hw0.symm
 obtain⟨r,hr⟩: ∃r,r=zdH d m t:=⟨_,rfl⟩
 have hr':r=row.map (atL (zf m)):=by rw[hr];unfold zdH;rw[List.getD_eq_getElem?_getD,List.getElem?_eq_getElem htn,hrow];rfl
 have hrlen:r.length=row.length:=by rw[hr',List.length_map]
 have hlt:d.label[t]=d.label.getD t 0:=by rw[List.getD_eq_getElem?_getD,List.getElem?_eq_getElem htl2];rfl
 have hlab:(za4 d m).take (j+1)=(za4 d m).take j++[d.label.getD t 0]:=by
  have hjl:j< (za4 d m).length:=by unfold za4;rw[List.length_map];exact hj
  rw[List.take_succ_eq_append_getElem hjl]
  congr 2
  simp only[za4,List.getElem_map,hsj,Int.toNat_natCast]
 have hlj:((za4 d m).take j).length=j:=by rw[List.length_take];unfold za4;rw[List.length_map];omega
 have hrj:zdH d m (zw m)[j].toNat=r:=by rw[hsj,Int.toNat_natCast,hr]
 have had:Adr an:=O.rn.adr Ko
 have had2:Adr al:=O.rl.adr (by rw[List.length_map];omega)
 have had3:Adr ah:=hrh.adr (by rw[List.length_map];omega)
 have had4:Adr an3:=hr3.adr (by rw[List.length_map];omega)
 have hjb:j<65536:=by
  have h1:=zam m
  unfold zw at hj
  rw[List.length_map] at hj
  omega
 refine Tri.sepT fun hs0=>?_
 have hE:=hs0
 try simp only[zzs] at hE
 repeat(obtain⟨hx',hE⟩:=hE)
 refine Tri.piece (f:=Tryz.f62) rfl ?_
 refine Tri.runS tok [0,1,2,4,5,6,7,9,10,11,12,13,18,35,36,37,38,48,49,50,51] (.seq .run (.seq .run (.seq .run (.seq .run .cut)))) Kk ?_
 repeat' first
  |with_reducible first|refine Nx.go ?_ |refine Bk.go (fun _=>?_) fun _=>?_ |refine Nb fun nb hnb hnb1 hnb2=>?_ |refine Nr fun nb nsp ncap hnb hncap hnb1 hnb2=>?_
  |simp -dsimp -implicitDefEqProofs (disch:=first|exact Kd|fail) only[go_sem,↓reduceIte,seval, -List.reduceReplicate,List.toList_toArray,hCl,hCw,hCn,hCx,hw,hl2,hg1,hg2,hputN,hputL,Row.obj hrh,Row.obj O.rn,e1,Row.obj O.rl,Row.obj hr3,List.getElem_map,hsj,hlt,Int.toNat_natCast,Nat.sub_self,List.replicate_zero]
 revert nb
 intro br hbr hbr1 hbr2
 rw[show List.replicate row.length (Value.int .i64 0)=(za8 r 0).map (Value.int .i64) by rw[←hrlen,zff]]
 refine Tri.loopU tok [0,1,2,4,5,6,7,9,10,11,12,13,18,35,36,37,38,48,49,50,51] Kk [0,1,2,4,5,6,7,9,10,35,36,37,48,49,50] (fun q G' fr H'=> ∃k:Nat,k+q=row.length∧G'=G∧H'=(br, .cells ((za8 r k).map (Value.int .i64)) [] 3):: (b7, .cells (zc d vn vl vs) [] 27):: (b2, .cells C [] 27):: (kn++(kl++H))∧fr=[(0,v0),(1,v1),(2, .pointer (some ⟨b2,0,none⟩)),(4, .pointer (some ⟨b4,0,none⟩)),(5, .int .i64 0),(6, .slice an3 (zf m).length cn3),(7, .pointer (some ⟨b7,0,none⟩)),(9, .int .i64 (t:Nat)),(10, .slice (some ⟨br,0,none⟩) row.length row.length),(35, .slice ah (zw m).length ch),(36, .int .i64 (zw m).length),(37, .int .i64 (j:Nat)),(48, .slice b row.length c),(49, .int .i64 row.length),(50, .int .i64 (k:Nat))]) (row.length) ?_ ?_
 ·exact Upd.now ⟨0,by omega,rfl,rfl,rfl⟩
 ·rintro q G1 fr H' hle hs ⟨k,hk,rfl,rfl,rfl⟩
  have hpl:(za8 r k).length=row.length:=by rw[zga r Ko,hrlen]
  by_cases hkl:k<row.length
  ·have hE:=hs
   try simp only[zzs] at hE
   repeat(obtain⟨hx',hE⟩:=hE)
   have hkr:k<r.length:=by omega
   have had5:Adr b:=e2.adr (by rw[List.length_map];omega)
   have hx:=hrng _ (List.getElem_mem hkl)
   obtain⟨y,hxy⟩:=Int.eq_ofNat_of_zero_le hx.1
   have hym:y< (zf m).length:=by omega
   have hval:(zf m)[y]=r[k]:=by
    simp only[hr',List.getElem_map]
    rw[hxy,zX (by simpa using hym)]
    simp only[Int.toNat_natCast]
   have hput:=zgb hkr
   repeat' first
    |with_reducible first|refine Nx.go ?_ |refine Bk.go (fun _=>?_) fun _=>?_ |refine Nb fun nb hnb hnb1 hnb2=>?_ |refine Nr fun nb nsp ncap hnb hncap hnb1 hnb2=>?_
    |simp -dsimp -implicitDefEqProofs (disch:=first|exact Kd|fail) only[go_sem,↓reduceIte,seval, -List.reduceReplicate,Row.obj e2,Row.obj hr3,List.getElem_map,hxy,hval,hput,hpl,Int.toNat_natCast]
   exact Upd.now ⟨q - 1,by omega,k+1,by omega,rfl,rfl,rfl⟩
  ·obtain rfl:k=row.length:=by omega
   have hpa:za8 r row.length=r:=by rw[←hrlen];exact zik r
   rw[hpa] at hs⊢
   rcases hout with ⟨hj0,rfl,rfl⟩| ⟨bn,c1,rv,sp1,rfl,rfl,hrv,hc1,hrws⟩
   ·have hE:=hs
    try simp only[zzs] at hE
    repeat(obtain⟨hx',hE⟩:=hE)
    repeat' first
     |with_reducible first|refine Nx.go ?_ |refine Bk.go (fun _=>?_) fun _=>?_ |refine Nb fun nb hnb hnb1 hnb2=>?_ |refine Nr fun nb nsp ncap hnb hncap hnb1 hnb2=>?_
     |simp -dsimp -implicitDefEqProofs (disch:=first|exact Kd|fail) only[go_sem,↓reduceIte,seval, -List.reduceReplicate,List.length_map,hlj,List.replicate_one,List.toList_toArray,hCl,hCw,hCn,hCx,hw,hl2,hg1,hg2,hputN,hputL,Row.obj hrh,Row.obj O.rn,e1,Row.obj O.rl,Row.obj hr3,List.getElem_map,hsj,hlt,Int.toNat_natCast,Nat.sub_self,List.replicate_zero]
    refine Tri.upd (Upd.go (H':=(b7, .cells (zc d (.slice (some ⟨nb,0,none⟩) 1 ncap) vl vs) [] 27):: (b2, .cells C [] 27):: (kl++((br, .cells (r.map (Value.int .i64)) [] 3):: (nb, .cells [.slice (some ⟨br,0,none⟩) row.length row.length] nsp 24)::H))) Ks (Upd.now ?_))
    refine Tri.live [0,1,2,4,5,6,7,9,35,36,37] ?_
    refine Tri.isPiece [1,1,1,1,0,1,0,0,1,1,0,0,1,1,1,1] Tryz.f62 Kk ?_
    refine Tri.onlyN (zvK O hj hjb htl2 hsj hlab0) fun G5 l5 H5 hle5 hs5 hM=>?_
    obtain⟨vl',kl',rfl,hlab1,hfr,rfl⟩:=hM
    rw[zcT]
    have hE:=hs5
    try simp only[zzs] at hE
    repeat(obtain⟨hx',hE⟩:=hE)
    refine Upd.go (H':=(br, .cells (r.map (Value.int .i64)) [] 3):: (b7, .cells (zc d (.slice (some ⟨nb,0,none⟩) 1 ncap) vl' vs) [] 27):: (b2, .cells C [] 27):: ([(nb, .cells [.slice (some ⟨br,0,none⟩) row.length row.length] nsp 24)]++(kl'++H))) Ks (Upd.shareRow Ka fun G6 hle6 hs6 hr6=>?_)
    refine⟨_,vl',_,kl',hle6, .inr ⟨nb,ncap,_,nsp,by rw[hj0],rfl,by rw[hj0];rfl,by omega,fun i h h2 h3=>?_⟩,hlab1,hfr,rfl⟩
    obtain rfl:i=0:=by omega
    obtain rfl:j=0:=hj0
    refine⟨some ⟨br,0,none⟩,row.length,?_,?_,?_⟩
    ·rw[hrj,hrlen];rfl
    ·rw[hrj];exact hr6
    ·rw[hrj,hrlen];exact Nat.le_refl _
   ·have hE:=hs
    try simp only[zzs] at hE
    repeat(obtain⟨hx',hE⟩:=hE)
    repeat' first
     |with_reducible first|refine Nx.go ?_ |refine Bk.go (fun _=>?_) fun _=>?_ |refine Nb fun nb hnb hnb1 hnb2=>?_ |refine Nr fun nb nsp ncap hnb hncap hnb1 hnb2=>?_
     |simp -dsimp -implicitDefEqProofs (disch:=first|exact Kd|fail) only[go_sem,↓reduceIte,seval, -List.reduceReplicate,List.length_map,hlj,List.replicate_one,List.toList_toArray,hCl,hCw,hCn,hCx,hw,hl2,hg1,hg2,hputN,hputL,Row.obj hrh,Row.obj O.rn,e1,Row.obj O.rl,Row.obj hr3,List.getElem_map,hsj,hlt,Int.toNat_natCast,Nat.sub_self,List.replicate_zero]
    refine Tri.upd (Upd.go (H':=(b7, .cells (zc d (.slice (some ⟨nb,0,none⟩) (j+1) ncap) vl vs) [] 27):: (b2, .cells C [] 27):: (kl++((br, .cells (r.map (Value.int .i64)) [] 3):: (nb, .cells (rv++[.slice (some ⟨br,0,none⟩) row.length row.length]) nsp 24)::H))) Ks (Upd.now ?_))
    refine Tri.live [0,1,2,4,5,6,7,9,35,36,37] ?_
    refine Tri.isPiece [1,1,1,1,0,1,0,0,1,1,0,0,1,1,1,1] Tryz.f62 Kk ?_
    refine Tri.onlyN (zvK O hj hjb htl2 hsj hlab0) fun G5 l5 H5 hle5 hs5 hM=>?_
    obtain⟨vl',kl',rfl,hlab1,hfr,rfl⟩:=hM
    rw[zcT]
    have hE:=hs5
    try simp only[zzs] at hE
    repeat(obtain⟨hx',hE⟩:=hE)
    refine Upd.go (H':=(br, .cells (r.map (Value.int .i64)) [] 3):: (b7, .cells (zc d (.slice (some ⟨nb,0,none⟩) (j+1) ncap) vl' vs) [] 27):: (b2, .cells C [] 27):: ([(nb, .cells (rv++[.slice (some ⟨br,0,none⟩) row.length row.length]) nsp 24)]++(kl'++H))) Ks (Upd.shareRow Ka fun G6 hle6 hs6 hr6=>?_)
    refine⟨_,vl',_,kl',hle6, .inr ⟨nb,ncap,_,nsp,rfl,rfl,by rw[List.length_append,hrv];rfl,by omega,fun i h h2 h3=>?_⟩,hlab1,hfr,rfl⟩
    rcases Nat.lt_or_ge i j with hij|hij
    ·obtain⟨b',c',f1,f2,f3⟩:=hrws i hij Ko h3
     exact⟨b',c',by rw[List.getElem_append_left Ko];exact f1,f2.mono hle6,f3⟩
    ·obtain rfl:i=j:=by omega
     refine⟨some ⟨br,0,none⟩,row.length,?_,?_,?_⟩
     ·rw[hrj,hrlen,List.getElem_append_right Ko];simp [hrv]
     ·rw[hrj];exact hr6
     ·rw[hrj,hrlen];exact Nat.le_refl _
end Go.Proofs.YtefkpedhbijhkaaGreatDoor
namespace Go.Proofs.YtefkpedhbijhkaaGreatDoor
open Go Go.V Go.Proofs
theorem zyV {d:DfaT} (hsm:zt d) {m:List Int} (hst:zbb d m) {G:za} {H:zb} {R:Value→za→zb→Prop} {v w:Value} (hv:IsD G d v) (hwl:Sl G (Value.int .i64) w m)
  (hR: ∀G' v',PLe G G'→Sep G' (zk H)→IsD G' (ofD d m) v'→R (.tuple #[v', .int .i64 0]) G' H):FnT Tryz.prog 62 [v,w] G H R:=by
 obtain⟨C,an,al,ay,cn,cl,cs,rs,rfl,O⟩:=hv.opened
 obtain⟨hm1,hm2,hm3,hm4,hm5⟩:=id hsm
 have hw0:=hwl
 obtain⟨aw,cw,rfl,hroww,hcw⟩:=hwl
 have hok:=hst.1
 have hml:m.length=d.label.length:=hst.2.1
 obtain⟨hk1,hk2,hk3,hk4,hk5,hk6,hk7⟩:=id hok
 have hb:=zG hok
 have hb2:=zG hst
 have hCl:=O.len
 have hCa:=O.all
 have htl:=zam m
 have hhl:(zw m).length=(zl m).length:=by unfold zw;rw[List.length_map]
 have hjb:(zw m).length≤65536:=by omega
 have hpos:0< (zw m).length:=by
  have h0:0<m.length:=by omega
  have:m[0]∈zl m:=(zI m).2 (List.getElem_mem h0)
  rw[hhl]
  exact List.length_pos_of_mem this
 have hl2: ∀a b c:Value,(zc d a b c).length=260:=fun a b c=>zab O.ofl _ _ _
 have ht2: ∀a b c:Value,List.take 260 (zc d a b c)=zc d a b c:=fun a b c=>zcz O.ofl _ _ _
 have hputz: ∀a b c:Value,zi zF 0 (zc d a b c)=zc d a b c:=fun a b c=>by
  unfold zi
  rw[List.take_zero,List.nil_append,List.drop_of_length_le (by rw[zn,hl2];omega),List.append_nil]
 refine FnT.sep ?_
 refine FnT.bodyS tok [0,1,2,4,5,6,7,9,10,11,12,13,18,35,36,37,38,48,49,50,51] (.seq .run (.seq .run (.seq .run (.seq .cut .cut)))) Tryz.func62 rfl Kk Kk (by show _≤81;simp) fun hsep=>?_
 rw[Tryz.results62]
 have hE:=hsep
 try simp only[zzs] at hE
 repeat(obtain⟨hx',hE⟩:=hE)
 repeat' first
  |with_reducible first|refine Nx.go ?_ |refine Bk.go (fun _=>?_) fun _=>?_ |refine Nb fun nb hnb hnb1 hnb2=>?_ |refine Nr fun nb nsp ncap hnb hncap hnb1 hnb2=>?_
  |simp -dsimp -implicitDefEqProofs (disch:=first|exact Kd|fail) only[go_sem,↓reduceIte,seval, -List.reduceReplicate,List.toList_toArray,hCl,hCa,hb,hb2]
  |with_reducible refine zav hsm O.is ?_
 rename_i b2 hb20 hb21 hb22
 revert nb
 intro b4 hb40 hb41 hb42
 refine zux hsm Ko O.is hw0 fun G2 hle2 hs2=>?_
 have hE:=hs2
 try simp only[zzs] at hE
 repeat(obtain⟨hx',hE⟩:=hE)
 repeat' first
  |with_reducible first|refine Nx.go ?_ |refine Bk.go (fun _=>?_) fun _=>?_ |refine Nb fun nb hnb hnb1 hnb2=>?_ |refine Nr fun nb nsp ncap hnb hncap hnb1 hnb2=>?_
  |simp -dsimp -implicitDefEqProofs (disch:=first|exact Kd|fail) only[go_sem,↓reduceIte,seval, -List.reduceReplicate,List.toList_toArray,hb2]
 refine znb Ko (hw0.mono hle2) fun G3 v3 hle3 hs3 hsl3=>?_
 obtain⟨an3,cn3,rfl,hr3,hc3⟩:=hsl3
 repeat' first
  |with_reducible first|refine Nx.go ?_ |refine Bk.go (fun _=>?_) fun _=>?_ |refine Nb fun nb hnb hnb1 hnb2=>?_ |refine Nr fun nb nsp ncap hnb hncap hnb1 hnb2=>?_
  |simp -dsimp -implicitDefEqProofs (disch:=first|exact Kd|fail) only[go_sem,↓reduceIte,seval, -List.reduceReplicate,List.toList_toArray]
 have O3:OpenD G3 d C an al ay cn cl cs rs:=OpenD.mono (hle2.trans hle3) O
 refine Tri.isPiece [1,1,1,0] Tryz.f62 Kk ?_
 refine Tri.live [0,1,2,4,5,6] ?_
 refine Tri.onlyN (zyO hsm O3) fun G4 l4 H4 hle4 hs4 hM=>?_
 obtain⟨b7,vs,_,hvs,hfr,rfl⟩:=hM
 simp only[go_sem]
 refine Tri.live [0,1,2,4,5,6,7] ?_
 rw[hfr]
 have hE:=hs4
 try simp only[zzs] at hE
 repeat(obtain⟨hx',hE⟩:=hE)
 have O4:=OpenD.mono hle4 O3
 obtain⟨ay4,cy4,rfl,hr4y,hcy4⟩:=id hvs
 refine Tri.run tok [0,1,2,4,5,6,7,9,10,11,12,13,18,35,36,37,38,48,49,50,51] Kk ?_
 repeat' first
  |with_reducible first|refine Nx.go ?_ |refine Bk.go (fun _=>?_) fun _=>?_ |refine Nb fun nb hnb hnb1 hnb2=>?_ |refine Nr fun nb nsp ncap hnb hncap hnb1 hnb2=>?_
  |simp -dsimp -implicitDefEqProofs (disch:=first|exact Kd|fail) only[go_sem,↓reduceIte,seval, -List.reduceReplicate,List.toList_toArray]
 refine zpk Ko ⟨an3,cn3,rfl,hr3.mono hle4,hc3⟩ fun G5 v5 hle5 hs5 hsl5=>?_
 obtain⟨ah,ch,rfl,hrh,hch⟩:=hsl5
 have hE:=hs5
 try simp only[zzs] at hE
 repeat(obtain⟨hx',hE⟩:=hE)
 have O5:=OpenD.mono hle5 O4
 repeat' first
  |with_reducible first|refine Nx.go ?_ |refine Bk.go (fun _=>?_) fun _=>?_ |refine Nb fun nb hnb hnb1 hnb2=>?_ |refine Nr fun nb nsp ncap hnb hncap hnb1 hnb2=>?_
  |simp -dsimp -implicitDefEqProofs (disch:=first|exact Kd|fail) only[go_sem,↓reduceIte,seval, -List.reduceReplicate,List.toList_toArray]
 refine Tri.loopS tok [0,1,2,4,5,6,7,9,10,11,12,13,18,35,36,37,38,48,49,50,51] (.seq .run (.seq .run (.seq (.block .cut) .cut))) Kk [0,1,2,4,5,6,7,35,36,37] (fun q G' fr H'=> ∃ (j:Nat) (vn vl:Value) (kn kl:zb),j+q=(zw m).length∧zvs d m G' j vn kn∧znX d m j vl kl∧H'=(b7, .cells (zc d vn vl (.slice ay4 d.names.length cy4)) [] 27):: (b2, .cells C [] 27):: (kn++(kl++((b4, .cells zF [] 27)::H)))∧fr=[(0, .agg (List.toArray C)),(1, .slice aw m.length cw),(2, .pointer (some ⟨b2,0,none⟩)),(4, .pointer (some ⟨b4,0,none⟩)),(5, .int .i64 0),(6, .slice an3 (zf m).length cn3),(7, .pointer (some ⟨b7,0,none⟩)),(35, .slice ah (zw m).length ch),(36, .int .i64 (zw m).length),(37, .int .i64 (j:Nat))]) ((zw m).length) ?_ ?_
 ·exact Upd.go (H':=(b7, .cells (zc d (.slice none 0 0) (.slice none 0 0) (.slice ay4 d.names.length cy4)) [] 27):: (b2, .cells C [] 27):: ([]++([]++((b4, .cells zF [] 27)::H)))) Ks (Upd.now ⟨0,_,_,[],[],by omega, .inl ⟨rfl,rfl,rfl⟩, .inl ⟨rfl,rfl,rfl⟩,rfl,rfl⟩)
 ·rintro q G6 fr H' hle6 hs6 ⟨j,vn,vl,kn,kl,hj,hro,hlo,rfl,rfl⟩
  by_cases hjl:j< (zw m).length
  ·repeat' first
    |with_reducible first|refine Nx.go ?_ |refine Bk.go (fun _=>?_) fun _=>?_ |refine Nb fun nb hnb hnb1 hnb2=>?_ |refine Nr fun nb nsp ncap hnb hncap hnb1 hnb2=>?_
    |simp -dsimp -implicitDefEqProofs (disch:=first|exact Kd|fail) only[go_sem,↓reduceIte,seval, -List.reduceReplicate,List.toList_toArray]
   refine Tri.live [0,1,2,4,5,6,7,35,36,37] ?_
   refine Tri.isPiece [1,1,1,1,0,1,0,0,1,1,0,0] Tryz.f62 Kk ?_
   refine Tri.onlyN (x_t hsm hst (OpenD.mono hle6 O5) ((hr3.mono hle4).mono (hle5.trans hle6)) (hrh.mono hle6) hjl hro hlo rfl) fun G7 l7 H7 hle7 hs7 hM=>?_
   obtain⟨vn',vl',kn',kl',_,hro',hlo',hfr',rfl⟩:=hM
   simp only[go_sem]
   refine Tri.live [0,1,2,4,5,6,7,35,36,37] ?_
   rw[hfr']
   refine Tri.run tok [0,1,2,4,5,6,7,9,10,11,12,13,18,35,36,37,38,48,49,50,51] Kk ?_
   repeat' first
    |with_reducible first|refine Nx.go ?_ |refine Bk.go (fun _=>?_) fun _=>?_ |refine Nb fun nb hnb hnb1 hnb2=>?_ |refine Nr fun nb nsp ncap hnb hncap hnb1 hnb2=>?_
    |simp -dsimp -implicitDefEqProofs (disch:=first|exact Kd|fail) only[go_sem,↓reduceIte,seval, -List.reduceReplicate,List.toList_toArray]
   exact Upd.now ⟨q - 1,by omega,j+1,vn',vl',kn',kl',by omega,hro',hlo',rfl,rfl⟩
  ·obtain rfl:j=(zw m).length:=by omega
   rcases hro with ⟨hj0,_,_⟩| ⟨bn,c1,rv,sp1,rfl,rfl,hrv,hc1,hrws⟩
   ·exact absurd hj0 Ko
   rcases hlo with ⟨hj0,_,_⟩| ⟨bl,c2,sp2,rfl,rfl,hc2⟩
   ·exact absurd hj0 Ko
   have hE:=hs6
   try simp only[zzs] at hE
   repeat(obtain⟨hx',hE⟩:=hE)
   have hone:=za3 (d:=d) (vn:= .slice (some ⟨bn,0,none⟩) (zw m).length c1) (vl:= .slice (some ⟨bl,0,none⟩) (zw m).length c2) (vs:= .slice ay4 d.names.length cy4) rfl rfl rfl
   have hLl:(za4 d m).length=(zw m).length:=by unfold za4;rw[List.length_map]
   rw[show(za4 d m).take (zw m).length=za4 d m by rw[←hLl,List.take_length]]
   repeat' first
    |with_reducible first|refine Nx.go ?_ |refine Bk.go (fun _=>?_) fun _=>?_ |refine Nb fun nb hnb hnb1 hnb2=>?_ |refine Nr fun nb nsp ncap hnb hncap hnb1 hnb2=>?_
    |simp -dsimp -implicitDefEqProofs (disch:=first|exact Kd|fail) only[go_sem,↓reduceIte,seval, -List.reduceReplicate,List.toList_toArray,hl2,ht2,hputz,hone,zn]
   unfold zz
   refine Upd.go (H':=(bn, .cells rv sp1 24):: (bl, .cells ((za4 d m).map (Value.int .i64)) sp2 3)::H) Ks (Upd.trans (Upd.shareRow Ka fun G7 hle7 hs7 hr7=>?_))
   refine Upd.shareRow hs7.1.1 fun G8 hle8 hs8 hr8=>?_
   refine fun _ hs=>hR G8 _ ((((hle2.trans hle3).trans hle4).trans hle5).trans (hle6.trans (hle7.trans hle8))) hs ?_
   refine⟨O.ofl,O.ofb,_,_,_,rfl,⟨some ⟨bn,0,none⟩,c1,rv,?_,hr7.mono hle8,?_,?_,fun i h h2=>?_⟩,⟨some ⟨bl,0,none⟩,c2,?_,hr8,?_⟩,⟨ay4,cy4,rfl,hr4y.mono ((hle5.trans hle6).trans (hle7.trans hle8)),hcy4⟩⟩
   ·simp only[ofD,List.length_map]
   ·simp only[ofD,List.length_map];exact hrv
   ·simp only[ofD,List.length_map];omega
   ·have hi:i< (zw m).length:=by simp only[ofD,List.length_map] at h;exact h
    obtain⟨b',c',f1,f2,f3⟩:=hrws i hi h2 hi
    refine⟨b',c',?_,?_,?_⟩
    ·simp only[ofD,List.getElem_map];exact f1
    ·simp only[ofD,List.getElem_map];exact f2.mono (hle7.trans hle8)
    ·simp only[ofD,List.getElem_map];exact f3
   ·simp only[ofD,List.length_map]
   ·simp only[ofD,List.length_map];omega
end Go.Proofs.YtefkpedhbijhkaaGreatDoor
namespace Go.Proofs.YtefkpedhbijhkaaGreatDoor
open Go Go.V Go.Proofs
theorem ztr {l:List Int} {x:Nat} (h:x<l.length):atL l (x:Int)=l[x]:=by
 rw[zX (by simpa using h)];simp only[Int.toNat_natCast]
theorem zo2 {d:DfaT} (hok:zd d) {n:Nat} (hn:zmC d n):zbb d (lvl d n):=by
 obtain⟨hk1,hk2,hk3,hk4,hk5,hk6,hk7⟩:=id hok
 have hlv:=zad hk3
 refine⟨hok,by rw[hlv,hk3],fun s t hs h1 h2 h3 h4 hp=>?_⟩
 obtain⟨ht,he⟩:=zR hp
 rw[List.getElem?_eq_getElem ht,Option.some.injEq] at he
 refine⟨(zhw hk3 h1 h2).1 (zjN hk3 h3 h4 n (Nat.zero_le n) he.symm),?_⟩
 obtain⟨hw1,_⟩:=hk7 s h3 h1
 obtain⟨hw2,_⟩:=hk7 t h4 h2
 refine⟨by omega,fun k hk=>?_⟩
 rw[zcd]
 have hs2:=(zep hk3 n h3 h4).1 (by simp only[hn.2.1];exact he.symm)
 have:=hs2.2 k Ko
 rwa [ztr hk,ztr (l:=d.next[t]) (show k< (d.next[t]).length by omega)] at this
noncomputable def zap (d:DfaT):DfaT×Int:=if zaE (zd d)=true then(ofD (zr d) (za7 (zr d) 65536),0) else(zal,6)
theorem zc8 {d:DfaT} (h:zd d):zap d=(ofD (zr d) (za7 (zr d) 65536),0):=by unfold zap;rw[if_pos (zG h)]
theorem zhF {d:DfaT} (h: ¬zd d):zap d=(zal,6):=by unfold zap;rw[if_neg (by rw[zB h];exact Bool.false_ne_true)]
theorem zb5 {d:DfaT} (h:zd d):zd (zr d):=zcE h (za1 h)
theorem zdj {d:DfaT} (h:zd d):zbb d (za7 d 65536):=by
 obtain⟨N,hN⟩:=zpF h.2.2.1 h.1
 have hle:N≤65536:=by have:=hN.1;have:=h.2.1;omega
 rw[zet h,zlY hN.2.1 hle]
 exact zo2 h hN
theorem zwQ {d:DfaT} (hsm:zt d) {G:za} {H:zb} {R:Value→za→zb→Prop} {v:Value} (hv:IsD G d v)
  (hR: ∀G' v',PLe G G'→Sep G' (zk H)→IsD G' (zap d).1 v'→R (.tuple #[v', .int .i64 (zap d).2]) G' H):FnT Tryz.prog 34 [v] G H R:=by
 obtain⟨C,an,al,ay,cn,cl,cs,rs,rfl,O⟩:=hv.opened
 have hCl:=O.len
 have hCa:=O.all
 refine FnT.sep ?_
 refine FnT.body tok [0,1,2,3,4,5,12] Tryz.func34 rfl Kk Kk (by show _≤21;simp) fun hsep=>?_
 rw[Tryz.results34]
 have hE:=hsep
 try simp only[zzs] at hE
 repeat(obtain⟨hx',hE⟩:=hE)
 repeat' first
  |with_reducible first|refine Nx.go ?_ |refine Bk.go (fun _=>?_) fun _=>?_ |refine Nb fun nb hnb hnb1 hnb2=>?_ |refine Nr fun nb nsp ncap hnb hncap hnb1 hnb2=>?_
  |simp -dsimp -implicitDefEqProofs (disch:=first|exact Kd|fail) only[go_sem,↓reduceIte,seval, -List.reduceReplicate,List.toList_toArray,hCl,hCa]
 obtain⟨b2,e20⟩: ∃x,x=nb:=⟨_,rfl⟩
 subst e20
 refine ziu hsm O.is fun G2 v2 hle2 hs2 hI2=>?_
 by_cases hok:zd d
 ·have hok2:=zb5 hok
  have hsm2:=zb2 hsm hok
  rw[zc4 hok] at hI2⊢
  rw[zc8 hok] at hR
  have hI2:IsD G2 (zr d) v2:=hI2
  obtain⟨C2,an2,al2,ay2,cn2,cl2,cs2,rs2,rfl,O2⟩:=hI2.opened
  have hC2l:=O2.len
  have hone2:=zel O2.is
  have hput2:=zem hC2l
  have htk2:List.take 260 C2=C2:=List.take_of_length_le Ko
  have hE:=hs2
  try simp only[zzs] at hE
  repeat(obtain⟨hx',hE⟩:=hE)
  repeat' first
   |with_reducible first|refine Nx.go ?_ |refine Bk.go (fun _=>?_) fun _=>?_ |refine Nb fun nb hnb hnb1 hnb2=>?_ |refine Nr fun nb nsp ncap hnb hncap hnb1 hnb2=>?_
   |simp -dsimp -implicitDefEqProofs (disch:=first|exact Kd|fail) only[go_sem,↓reduceIte,seval, -List.reduceReplicate,List.toList_toArray,hCl,hCa,hC2l,hone2,hput2,htk2,zn]
   |with_reducible refine Tri.drawS tok mixed [0,1,2,3,4,5,12] 4 [0,1] (.op 0 .held (.op 1 .held (.op 2 .keeps (.op 3 .keeps (.op 4 .plain (.op 5 .plain (.op 6 .plain (.op 7 .plain .nil)))))))) Kk [(nb, .cells C2 [] 27)] Ks ?_
  obtain⟨b4,e40⟩: ∃x,x=nb:=⟨_,rfl⟩
  subst e40
  have hst:=zdj hok2
  obtain⟨M,hM⟩: ∃M,M=za7 (zr d) 65536:=⟨_,rfl⟩
  refine ztq hsm2 O2.is fun G3 v3 hle3 hs3 hsl3=>?_
  rw[←hM] at hst hsl3 hR
  have hE:=hs3
  try simp only[zzs] at hE
  repeat(obtain⟨hx',hE⟩:=hE)
  repeat' first
   |with_reducible first|refine Nx.go ?_ |refine Bk.go (fun _=>?_) fun _=>?_ |refine Nb fun nb hnb hnb1 hnb2=>?_ |refine Nr fun nb nsp ncap hnb hncap hnb1 hnb2=>?_
   |simp -dsimp -implicitDefEqProofs (disch:=first|exact Kd|fail) only[go_sem,↓reduceIte,seval, -List.reduceReplicate,List.toList_toArray,hC2l,hone2,hput2,htk2,zn]
  refine zyV hsm2 hst (O2.is.mono hle3) hsl3 fun G4 v4 hle4 hs4 hI4=>?_
  obtain⟨C4,an4,al4,ay4,cn4,cl4,cs4,rs4,rfl,O4⟩:=hI4.opened
  have hC4l:=O4.len
  have hone4:=zel O4.is
  have hput4:=zem hC4l
  have htk4:List.take 260 C4=C4:=List.take_of_length_le Ko
  have hE:=hs4
  try simp only[zzs] at hE
  repeat(obtain⟨hx',hE⟩:=hE)
  repeat' first
   |with_reducible first|refine Nx.go ?_ |refine Bk.go (fun _=>?_) fun _=>?_ |refine Nb fun nb hnb hnb1 hnb2=>?_ |refine Nr fun nb nsp ncap hnb hncap hnb1 hnb2=>?_
   |simp -dsimp -implicitDefEqProofs (disch:=first|exact Kd|fail) only[go_sem,↓reduceIte,seval, -List.reduceReplicate,List.toList_toArray,hC4l,hone4,hput4,htk4,zn]
  unfold zz
  refine Upd.leave (H':=H) Ks ?_
  exact fun _ hs=>hR G4 _ (hle2.trans (hle3.trans hle4)) hs O4.is
 ·rw[ziq hok] at hI2⊢
  rw[zhF hok] at hR
  have hI2:IsD G2 zal v2:=hI2
  obtain⟨C2,an2,al2,ay2,cn2,cl2,cs2,rs2,rfl,O2⟩:=hI2.opened
  have hC2l:=O2.len
  have hone2:=zel O2.is
  have hput2:=zem hC2l
  have hE:=hs2
  try simp only[zzs] at hE
  repeat(obtain⟨hx',hE⟩:=hE)
  repeat' first
   |with_reducible first|refine Nx.go ?_ |refine Bk.go (fun _=>?_) fun _=>?_ |refine Nb fun nb hnb hnb1 hnb2=>?_ |refine Nr fun nb nsp ncap hnb hncap hnb1 hnb2=>?_
   |simp -dsimp -implicitDefEqProofs (disch:=first|exact Kd|fail) only[go_sem,↓reduceIte,seval, -List.reduceReplicate,List.toList_toArray,hCl,hCa,hC2l,hone2,hput2,zn,zag,zan,zaA]
  unfold zz
  refine Upd.leave (H':=H) Ks ?_
  exact fun _ hs=>hR G2 _ hle2 hs (zaR _)
end Go.Proofs.YtefkpedhbijhkaaGreatDoor
namespace Go.Proofs.YtefkpedhbijhkaaGreatDoor
open Go Go.V Go.Proofs
def zvt (G:za) (n:Nat) (f:Nat→Nat→Bool) (aw:Option Addr):Prop:= ∃wv,Row G aw wv∧wv.length=n∧ ∀i (h:i<n) (h1:i<wv.length),∃a c,wv[i]= .slice a n c∧Row G a (zdl n (f i))∧n≤c
theorem zvt.mono {G G':za} (hle:PLe G G') {n:Nat} {f:Nat→Nat→Bool} {aw:Option Addr} (h:zvt G n f aw):zvt G' n f aw:=by
 obtain⟨wv,h1,h2,h3⟩:=h
 exact⟨wv,h1.mono hle,h2,fun i hi h1=>by
  obtain⟨a,c,e1,e2,e3⟩:=h3 i hi h1
  exact⟨a,c,e1,e2.mono hle,e3⟩⟩
end Go.Proofs.YtefkpedhbijhkaaGreatDoor
namespace Go.Proofs.YtefkpedhbijhkaaGreatDoor
open Go Go.V Go.Proofs
end Go.Proofs.YtefkpedhbijhkaaGreatDoor
namespace Go.Proofs.YtefkpedhbijhkaaGreatDoor
open Go Go.V Go.Proofs
end Go.Proofs.YtefkpedhbijhkaaGreatDoor
namespace Go.Proofs.YtefkpedhbijhkaaGreatDoor
open Go Go.V Go.Proofs
end Go.Proofs.YtefkpedhbijhkaaGreatDoor
namespace Go.Proofs.YtefkpedhbijhkaaGreatDoor
open Go Go.V Go.Proofs
end Go.Proofs.YtefkpedhbijhkaaGreatDoor
namespace Go.Proofs.YtefkpedhbijhkaaGreatDoor
open Go Go.V Go.Proofs
end Go.Proofs.YtefkpedhbijhkaaGreatDoor
namespace Go.Proofs.YtefkpedhbijhkaaGreatDoor
open Go Go.V Go.Proofs
end Go.Proofs.YtefkpedhbijhkaaGreatDoor
namespace Go.Proofs.YtefkpedhbijhkaaGreatDoor
open Go Go.V Go.Proofs
end Go.Proofs.YtefkpedhbijhkaaGreatDoor
namespace Go.Proofs.YtefkpedhbijhkaaGreatDoor
open Go Go.V Go.Proofs
end Go.Proofs.YtefkpedhbijhkaaGreatDoor
namespace Go.Proofs.YtefkpedhbijhkaaGreatDoor
open Go Go.V Go.Proofs
end Go.Proofs.YtefkpedhbijhkaaGreatDoor
namespace Go.Proofs.YtefkpedhbijhkaaGreatDoor
open Go Go.V Go.Proofs
end Go.Proofs.YtefkpedhbijhkaaGreatDoor
namespace Go.Proofs.YtefkpedhbijhkaaGreatDoor
open Go Go.V Go.Proofs
theorem DfaT.ext' {d e:DfaT} (h1:d.of=e.of) (h2:d.width=e.width) (h3:d.next=e.next) (h4:d.label=e.label) (h5:d.names=e.names):d=e:=by
 cases d;cases e;simp only at h1 h2 h3 h4 h5;subst h1 h2 h3 h4 h5;rfl
end Go.Proofs.YtefkpedhbijhkaaGreatDoor
namespace Go.Proofs.YtefkpedhbijhkaaGreatDoor
open Go Go.V Go.Proofs
theorem zvu {α:Type} [DecidableEq α] (l:List α) (k:Nat) {i:Nat} (h:i< (zl (l.take k)).length) (h2:i< (zl l).length):(zl l)[i]=(zl (l.take k))[i]:=by
 have key: ∀n,∃s,zl (l.take (k+n))=zl (l.take k)++s:=fun n=>by
  induction n with
  |zero=>exact⟨[],by simp⟩
  |succ n ih=>
   obtain⟨s,hs⟩:=ih
   rcases Nat.lt_or_ge (k+n) l.length with h3|h3
   ·rw[show k+(n+1)=(k+n)+1 by omega,List.take_succ_eq_append_getElem h3,zaM]
    split
    ·exact⟨s,hs⟩
    ·exact⟨s++[l[k+n]],by rw[hs,List.append_assoc]⟩
   ·exact⟨s,by rw[List.take_of_length_le Ko,←hs,List.take_of_length_le Ko]⟩
 obtain⟨s,hs⟩:=key l.length
 rw[List.take_of_length_le Ko] at hs
 simp only[hs]
 rw[List.getElem_append_left h]
theorem zl2 {α:Type} [DecidableEq α]: ∀ {a b:List α},a.Nodup→a ⊆ b→a.length≤b.length
 | [],_,_,_=>Nat.zero_le _
 |x::a,b,h,hs=>by
  have h':=List.nodup_cons.1 h
  have hx:x∈b:=hs (List.mem_cons_self ..)
  have:=zl2 (a:=a) (b:=b.erase x) h'.2 fun y hy=>by
   have hne:y≠x:=fun e=>by subst e;exact h'.1 hy
   exact(List.mem_erase_of_ne hne).2 (hs (List.mem_cons_of_mem _ hy))
  rw[List.length_erase_of_mem hx] at this
  have:=List.length_pos_of_mem hx
  simp only[List.length_cons];omega
theorem zts {m:List Int} {s:Nat} (hs:s<m.length) (hnew:m[s]∉m.take s): ∃h:(zl (m.take s)).length< (zw m).length,(zw m)[(zl (m.take s)).length]=(s:Int):=by
 have ht:zl (m.take (s+1))=zl (m.take s)++[m[s]]:=by
  rw[List.take_succ_eq_append_getElem hs,zaM,if_neg fun h=>hnew ((zI _).1 h)]
 have hle:(zl (m.take (s+1))).length≤(zl m).length:=by
  have hn:=(zcx (m.take (s+1)))
  have hsub:zl (m.take (s+1)) ⊆ zl m:=fun x hx=>(zI _).2 (List.mem_of_mem_take ((zI _).1 hx))
  exact zl2 hn hsub
 have h1:(zl (m.take s)).length< (zl m).length:=by rw[ht,List.length_append,List.length_singleton] at hle;omega
 refine⟨by unfold zw;rw[List.length_map];exact h1,?_⟩
 simp only[zw,List.getElem_map]
 have hp:=zvu m (s+1) (i:=(zl (m.take s)).length) (by rw[ht,List.length_append];simp) h1
 have:(zl (m.take (s+1)))[(zl (m.take s)).length]'(by rw[ht,List.length_append];simp)=m[s]:=by
  simp only[ht,List.getElem_concat_length]
 rw[hp,this]
 obtain⟨p,hpp,_,_,hpn⟩:=zbD hs
 rw[zx hpp,hpn.2 hnew]
end Go.Proofs.YtefkpedhbijhkaaGreatDoor
namespace Go.Proofs.YtefkpedhbijhkaaGreatDoor
open Go Go.V Go.Proofs
end Go.Proofs.YtefkpedhbijhkaaGreatDoor
namespace Go.Proofs.YtefkpedhbijhkaaGreatDoor
open Go Go.V Go.Proofs
end Go.Proofs.YtefkpedhbijhkaaGreatDoor
namespace Go.Proofs.YtefkpedhbijhkaaGreatDoor
open Go Go.V Go.Proofs
end Go.Proofs.YtefkpedhbijhkaaGreatDoor
namespace Go.Proofs.YtefkpedhbijhkaaGreatDoor
open Go Go.V Go.Proofs
def zN (n:Nat):List Int:=(List.range n).map fun i:Nat=>(i:Int)
theorem zaa (n:Nat):(zN n).length=n:=by unfold zN;rw[List.length_map,List.length_range]
theorem zaX {n i:Nat} (h:i<n):(zN n)[i]'(by rw[zaa];exact h)=(i:Int):=by unfold zN;rw[List.getElem_map,List.getElem_range]
theorem ziC (n:Nat):zN (n+1)=zN n++[(n:Int)]:=by unfold zN;rw[List.range_succ,List.map_append];rfl
theorem zbQ {n:Nat} {x:Int}:x∈zN n↔0≤x∧x<n:=by
 unfold zN
 rw[List.mem_map]
 constructor
 ·rintro⟨i,hi,rfl⟩
  have:=List.mem_range.1 hi
  omega
 ·rintro⟨h0,h1⟩
  obtain⟨i,rfl⟩:=Int.eq_ofNat_of_zero_le h0
  exact⟨i,List.mem_range.2 Ko,rfl⟩
theorem znY {n:Nat} {W X:List Int} (h:W++X=zN n):W=zN W.length∧W.length≤n:=by
 have hl:W.length≤n:=by have:=congrArg List.length h;rw[List.length_append,zaa] at this;omega
 refine⟨List.ext_getElem (by rw[zaa]) fun i h1 h2=>?_,hl⟩
 rw[zaX h1]
 have h3:i< (W++X).length:=by rw[List.length_append];omega
 have e1:(W++X)[i]'h3=W[i]:=List.getElem_append_left h1
 rw[←e1]
 simp only[h]
 exact zaX Ko
theorem zvv (a b:List Int): ∃X,zl (a++b)=zl a++X:=by
 induction b using zfd with
 |h0=>exact⟨[],by rw[List.append_nil,List.append_nil]⟩
 |h1 l k ih=>
  obtain⟨X,e⟩:=ih
  rw[←List.append_assoc,zaM]
  split
  ·exact⟨X,e⟩
  ·exact⟨X++[k],by rw[e,List.append_assoc]⟩
theorem zl3 (m:List Int) (L:Nat): ∃X,zl m=zl (m.take L)++X:=by
 have:=zvv (m.take L) (m.drop L)
 rwa [List.take_append_drop] at this
def mN (m:List Int) (L:Nat):Nat:=(zl (m.take L)).length
theorem ziY {m:List Int} {L:Nat} (h:L<m.length):mN m (L+1)=mN m L+if m[L]∈m.take L then 0 else 1:=ze1 m h
theorem zjX {m:List Int} (hm:zf m=m) {s:Nat} (h:s<m.length):m[s]=zp (zl m) m[s]:=by
 have:=zbM h
 rw[←this]
 simp only[hm]
theorem zfq {m:List Int} (hm:zf m=m) {L:Nat} {x:Int} (hx:x∈m.take L):0≤x∧x<mN m L:=by
 obtain⟨i,hi,e⟩:=List.getElem_of_mem ((zI _).2 hx)
 obtain⟨X,eX⟩:=zl3 m L
 have hi2:i< (zl m).length:=by rw[eX,List.length_append];omega
 have e2:(zl m)[i]=x:=by
  rw[←e]
  have:(zl (m.take L)++X)[i]'(by rw[List.length_append];omega)=(zl (m.take L))[i]:=List.getElem_append_left hi
  rw[←this]
  simp only[eX]
 obtain⟨s,hs,rfl⟩:=List.getElem_of_mem (List.mem_of_mem_take hx)
 have hf:zp (zl m) m[s]=(i:Nat):=by
  rw[←e2]
  exact zx (zbX (zcx m) hi2)
 rw[zjX hm hs,hf]
 unfold mN
 omega
theorem zhG {m:List Int} (hm:zf m=m) {s:Nat} (h:s<m.length) (hn:m[s]∉m.take s):m[s]=(mN m s:Nat):=by
 have h1:=(zfq hm (L:=s+1) (x:=m[s]) (zcK Ko Ko))
 rw[ziY h,if_neg hn] at h1
 have h3: ∀i:Nat,i<mN m s→(i:Int)∈m.take s:=fun i hi=>by
  have e1:(zl (m.take s))[i]'hi∈m.take s:=(zI _).1 (List.getElem_mem hi)
  have e2:(zl (m.take s))[i]'hi=(i:Nat):=by
   obtain⟨X,eX⟩:=zl3 m s
   have hi2:i< (zl m).length:=by rw[eX,List.length_append];unfold mN at hi;omega
   have e3:(zl m)[i]=(zl (m.take s))[i]'hi:=by
    have:(zl (m.take s)++X)[i]'(by rw[List.length_append];unfold mN at hi;omega)=(zl (m.take s))[i]'hi:=List.getElem_append_left hi
    rw[←this]
    simp only[eX]
   obtain⟨t,ht,et⟩:=List.getElem_of_mem (List.mem_of_mem_take e1)
   rw[←et,zjX hm ht,et,←e3]
   exact zx (zbX (zcx m) hi2)
  rw[e2] at e1
  exact e1
 obtain⟨v,hv⟩:=Int.eq_ofNat_of_zero_le h1.1
 have: ¬v<mN m s:=fun hlt=>hn (by rw[hv];exact h3 v hlt)
 omega
theorem zQ {m:List Int} {s:Nat} (h:s<m.length):atL m (s:Nat)=m[s]:=by
 rw[zX (by rw[Int.toNat_natCast];exact h)]
 simp only[Int.toNat_natCast]
theorem zl4: ∀ {ts W:List Int},(∀t∈ts,t∈W)→addN W ts=W
 | [],W,_=>rfl
 |t::ts,W,h=>by
  rw[zbE]
  have:add1 W t=W:=by unfold add1;rw[if_pos (h t (List.mem_cons_self ..))]
  rw[this]
  exact zl4 fun x hx=>h x (List.mem_cons_of_mem _ hx)
theorem zjY {m:List Int} (hm:zf m=m): ∀ (ts:List Int) {L L2:Nat},L2≤m.length→addN (zN L) ts=zN L2→L≤L2∧addN (zN (mN m L)) (ts.map (atL m))=zN (mN m L2)
 | [],L,L2,_,h=>by
  have:L=L2:=by have:=congrArg List.length h;rw[zhl,zaa,zaa] at this;exact this
  subst this
  exact⟨Nat.le_refl _,rfl⟩
 |t::ts,L,L2,h2,h=>by
  rw[zbE] at h
  rw[List.map_cons,zbE]
  by_cases ht:t∈zN L
  ·have e1:add1 (zN L) t=zN L:=by unfold add1;rw[if_pos ht]
   rw[e1] at h
   obtain⟨g1,g2⟩:=zjY hm ts h2 h
   have hb:=zbQ.1 ht
   obtain⟨s,rfl⟩:=Int.eq_ofNat_of_zero_le hb.1
   have hs:s<m.length:=by omega
   have e2:add1 (zN (mN m L)) (atL m (s:Nat))=zN (mN m L):=by
    unfold add1
    rw[if_pos]
    rw[zQ hs]
    exact zbQ.2 (zfq hm (zcK Ko Ko))
   rw[e2]
   exact⟨g1,g2⟩
  ·have e1:add1 (zN L) t=zN L++[t]:=by unfold add1;rw[if_neg ht]
   rw[e1] at h
   obtain⟨X,eX⟩:=zhm ts (zN L++[t])
   rw[eX] at h
   obtain⟨g1,g2⟩:=znY h
   rw[List.length_append,zaa,List.length_singleton] at g1 g2
   rw[g1] at eX h
   have hL:L<m.length:=by omega
   rw[ziC] at g1
   have htL:t=(L:Nat):=by
    have:=List.append_cancel_left g1
    simpa using this
   rw[h] at eX
   obtain⟨k1,k2⟩:=zjY hm ts h2 eX
   refine⟨by omega,?_⟩
   subst htL
   have e2:add1 (zN (mN m L)) (atL m (L:Nat))=zN (mN m (L+1)):=by
    rw[zQ hL,ziY hL]
    unfold add1
    by_cases hin:m[L]∈m.take L
    ·rw[if_pos (zbQ.2 (zfq hm hin)),if_pos hin];rfl
    ·rw[if_neg hin,ziC,if_neg,zhG hm hL hin]
     intro hc
     have:=zbQ.1 hc
     rw[zhG hm hL hin] at this
     omega
   rw[e2]
   exact k2
theorem zkN {d:DfaT} (hr:zK d=zN d.label.length) {j:Nat} (hj:j≤d.label.length): ∃L,L≤d.label.length∧(j<d.label.length→j<L)∧bw (zE d) [0] j=zN L:=by
 have hw:bw (zE d) [0] d.label.length=zN d.label.length:=hr
 obtain⟨X,eX⟩:=zfp (zE d) [0] j (d.label.length - j)
 rw[Nat.add_sub_cancel' hj,hw] at eX
 obtain⟨g1,g2⟩:=znY eX.symm
 refine⟨_,g2,fun hlt=>?_,g1⟩
 apply Classical.byContradiction
 intro hn
 have:=zc0 (on:=zE d) (W0:=[0]) (i:=j) Ko (d.label.length - j)
 rw[Nat.add_sub_cancel' hj,hw] at this
 have h2:=congrArg List.length this
 rw[zaa] at h2
 omega
theorem zl5 {d:DfaT} {m:List Int} (hm:zf m=m) {i s:Nat} (hi:i< (zw m).length) (he:(zw m)[i]=(s:Nat)) (hs:s<d.next.length):zE (ofD d m) (i:Nat)=d.next[s].map (atL m):=by
 unfold zE
 rw[Int.toNat_natCast,List.getD_eq_getElem?_getD]
 show(((zw m).map fun s=>zdH d m s.toNat)[i]?).getD []=_
 rw[List.getElem?_map,List.getElem?_eq_getElem hi]
 show zdH d m (zw m)[i].toNat=_
 rw[he]
 unfold zdH
 rw[Int.toNat_natCast,List.getD_eq_getElem?_getD,List.getElem?_eq_getElem hs,hm]
 rfl
theorem zpJ (m:List Int):mN m 0=0:=by unfold mN;rw[List.take_zero];rfl
theorem ztt (m:List Int):mN m m.length=(zl m).length:=by unfold mN;rw[List.take_length]
theorem zkO {d:DfaT} (hr:zK d=zN d.label.length) {m:List Int} (hm:zf m=m) (hst:zbb d m):zK (ofD d m)=zN (zl m).length:=by
 obtain⟨hok,hml,_⟩:=id hst
 have hk1:=hok.1
 have hk3:=hok.2.2.1
 have key: ∀j,j≤d.label.length→ ∃L,L≤d.label.length∧(j<d.label.length→j<L)∧bw (zE d) [0] j=zN L∧bw (zE (ofD d m)) [0] (mN m j)=zN (mN m L):=fun j=>by
  induction j with
  |zero=>
   intro _
   obtain⟨L,g1,g2,g3⟩:=zkN hr (Nat.zero_le _)
   refine⟨L,g1,g2,g3,?_⟩
   have hL:L=1:=by have:=congrArg List.length g3;rw[zaa] at this;exact this.symm
   subst hL
   rw[zpJ,ziY (show 0<m.length by omega),zpJ,if_neg (by rw[List.take_zero];exact List.not_mem_nil)]
   rfl
  |succ j ih=>
   intro hj
   obtain⟨L,g1,g2,g3,g4⟩:=ih Ko
   obtain⟨L',k1,k2,k3⟩:=zkN hr hj
   have hjL:j<L:=g2 Ko
   have hjm:j<m.length:=by omega
   have hjn:j<d.next.length:=by omega
   refine⟨L',k1,k2,k3,?_⟩
   have hlen:j< (bw (zE d) [0] j).length:=by rw[g3,zaa];exact hjL
   have hget:(bw (zE d) [0] j)[j]'hlen=(j:Nat):=by simp only[g3];exact zaX hjL
   have hstep:addN (zN L) d.next[j]=zN L':=by
    rw[←k3,zbG hlen,hget,zak hjn,g3]
   obtain⟨hLL,hadd⟩:=zjY hm d.next[j] Ko hstep
   rw[ziY hjm]
   by_cases hin:m[j]∈m.take j
   ·rw[if_pos hin,Nat.add_zero,g4]
    obtain⟨j0,hj0,e0⟩:=(zaG hjm).1 hin
    have hj0m:j0<m.length:=by omega
    obtain⟨_,hsl,hsr⟩:=zkD hst hj0m hjm Ko Ko Ko hjn e0
    have hall: ∀t∈d.next[j].map (atL m),t∈zN (mN m L):=fun t ht=>by
     obtain⟨x,hx,rfl⟩:=List.mem_map.1 ht
     obtain⟨k,hk,rfl⟩:=List.getElem_of_mem hx
     have hk0:k<d.next[j0].length:=by omega
     have e:=hsr k hk0
     rw[hm] at e
     rw[←e]
     have hj0len:j0< (bw (zE d) [0] j0).length:=by
      obtain⟨L0,_,a2,a3⟩:=zkN hr (show j0≤d.label.length by omega)
      rw[a3,zaa];exact a2 Ko
     have hin2:d.next[j0][k]∈bw (zE d) [0] (j0+1):=by
      rw[zbG hj0len]
      have hg0:(bw (zE d) [0] j0)[j0]'hj0len=(j0:Nat):=by
       obtain⟨L0,_,a2,a3⟩:=zkN hr (show j0≤d.label.length by omega)
       simp only[a3]
       exact zaX (a2 Ko)
      rw[hg0,zak Ko]
      exact zfL.2 (.inr (List.getElem_mem hk0))
     obtain⟨Y,eY⟩:=zfp (zE d) [0] (j0+1) (j - (j0+1))
     rw[Nat.add_sub_cancel' Ko,g3] at eY
     have hin3:d.next[j0][k]∈zN L:=by rw[eY];exact List.mem_append_left _ hin2
     obtain⟨p0,p1⟩:=zbQ.1 hin3
     obtain⟨v,hv⟩:=Int.eq_ofNat_of_zero_le p0
     rw[hv] at p1⊢
     rw[zQ (show v<m.length by omega)]
     exact zbQ.2 (zfq hm (zcK Ko Ko))
    rw[zl4 hall] at hadd
    exact hadd
   ·rw[if_neg hin]
    obtain⟨q1,q2⟩:=zts hjm hin
    have hnew:=zhG hm hjm hin
    have hlt:mN m j<mN m L:=by
     have:=zfq hm (L:=L) (zcK hjL Ko:m[j]∈m.take L)
     rw[hnew] at this
     omega
    have hlen2:mN m j< (bw (zE (ofD d m)) [0] (mN m j)).length:=by rw[g4,zaa];exact hlt
    have hget2:(bw (zE (ofD d m)) [0] (mN m j))[mN m j]'hlen2=(mN m j:Nat):=by simp only[g4];exact zaX hlt
    have hq:zE (ofD d m) (mN m j:Nat)=d.next[j].map (atL m):=zl5 hm q1 q2 hjn
    rw[zbG hlen2,hget2,hq,g4]
    exact hadd
 obtain⟨L,g1,_,g3,g4⟩:=key d.label.length (Nat.le_refl _)
 have hL:L=d.label.length:=by
  have hw:bw (zE d) [0] d.label.length=zN d.label.length:=hr
  rw[hw] at g3
  have:=congrArg List.length g3
  rw[zaa,zaa] at this
  exact this.symm
 subst hL
 rw[←hml,ztt] at g4
 show bw (zE (ofD d m)) [0] (ofD d m).label.length=_
 rw[zfN]
 exact g4
end Go.Proofs.YtefkpedhbijhkaaGreatDoor
namespace Go.Proofs.YtefkpedhbijhkaaGreatDoor
open Go Go.V Go.Proofs
theorem ziD {d:DfaT} (h:d.next.length=d.label.length) {s t:Nat} (hs:s<d.label.length) (ht:t<d.label.length):atL (lvl d 0) (s:Nat)=atL (lvl d 0) (t:Nat)↔atL d.label (s:Nat)=atL d.label (t:Nat):=by
 rw[zQ (by rw[zad h];omega),zQ (by rw[zad h];omega),zQ hs,zQ ht]
 exact zhw h hs ht
theorem ziE {d:DfaT} (h:d.next.length=d.label.length) (i:Nat) {s t:Nat} (hs:s<d.label.length) (ht:t<d.label.length):atL (lvl d (i+1)) (s:Nat)=atL (lvl d (i+1)) (t:Nat)↔atL (lvl d i) (s:Nat)=atL (lvl d i) (t:Nat)∧ ∀c:Nat,c<d.width.toNat→atL (lvl d i) (atL (zE d (s:Nat)) c)=atL (lvl d i) (atL (zE d (t:Nat)) c):=by
 rw[zQ (by rw[zad h];omega),zQ (by rw[zad h];omega),zQ (by rw[zad h];omega),zQ (by rw[zad h];omega),zak Ko,zak Ko]
 exact zep h i Ko Ko
structure HomP (A B:DfaT) (f:Nat→Nat):Prop where
 w:A.width=B.width
 dom: ∀s:Nat,s<A.label.length→f s<B.label.length
 lab: ∀s:Nat,s<A.label.length→atL A.label (s:Nat)=atL B.label (f s:Nat)
 nxt: ∀s:Nat,s<A.label.length→ ∀k:Nat,k<A.width.toNat→ ∃t:Nat,t<A.label.length∧atL (zE A (s:Nat)) k=(t:Nat)∧atL (zE B (f s:Nat)) k=(f t:Nat)
theorem ziZ {A B:DfaT} {f:Nat→Nat} (hA:A.next.length=A.label.length) (hB:B.next.length=B.label.length) (h:HomP A B f): ∀ (i:Nat) {s t:Nat},s<A.label.length→t<A.label.length→(atL (lvl A i) (s:Nat)=atL (lvl A i) (t:Nat)↔atL (lvl B i) (f s:Nat)=atL (lvl B i) (f t:Nat))
 |0,s,t,hs,ht=>by rw[ziD hA hs ht,ziD hB (h.dom s hs) (h.dom t ht),h.lab s hs,h.lab t ht]
 |i+1,s,t,hs,ht=>by
  rw[ziE hA i hs ht,ziE hB i (h.dom s hs) (h.dom t ht),ziZ hA hB h i hs ht,h.w]
  refine and_congr Iff.rfl ?_
  constructor
  ·intro g c hc
   obtain⟨x,hx,e1,e2⟩:=h.nxt s hs c (by rw[h.w];exact hc)
   obtain⟨y,hy,e3,e4⟩:=h.nxt t ht c (by rw[h.w];exact hc)
   have:=g c hc
   rw[e1,e3,ziZ hA hB h i hx hy] at this
   rw[e2,e4]
   exact this
  ·intro g c hc
   obtain⟨x,hx,e1,e2⟩:=h.nxt s hs c (by rw[h.w];exact hc)
   obtain⟨y,hy,e3,e4⟩:=h.nxt t ht c (by rw[h.w];exact hc)
   have:=g c hc
   rw[e2,e4,←ziZ hA hB h i hx hy] at this
   rw[e1,e3]
   exact this
theorem zlr {l:List Int} (h:l.Nodup):zl l=l:=by
 induction l using zfd with
 |h0=>rfl
 |h1 l k ih=>
  rw[List.nodup_append] at h
  obtain⟨h1,_,h3⟩:=h
  rw[zaM,ih h1,if_neg fun hk=>h3 k hk k (List.mem_singleton.2 rfl) rfl]
theorem zkP (n:Nat):(zN n).Nodup:=by
 rw[List.nodup_iff_pairwise_ne,List.pairwise_iff_getElem]
 intro i j hi hj hij
 rw[zaa] at hi hj
 rw[zaX hi,zaX hj]
 omega
theorem zkQ {n:Nat} {x:Int} (h:0≤x∧x<n):zp (zN n) x=x:=zit h
theorem ztu (n:Nat):zf (zN n)=zN n:=by
 unfold zf
 rw[zlr (zkP n)]
 refine List.ext_getElem (by rw[List.length_map]) fun i h1 h2=>?_
 rw[List.getElem_map]
 exact zkQ (zbQ.1 (List.getElem_mem _))
theorem zvw {l:List Int} (hn:zf l=l) (hd:l.Nodup):l=zN l.length:=by
 have hk: ∀s,s≤l.length→mN l s=s:=fun s=>by
  intro hs
  unfold mN
  rw[zlr (List.Sublist.nodup (List.take_sublist _ _) hd),List.length_take]
  omega
 refine List.ext_getElem (by rw[zaa]) fun i h1 h2=>?_
 rw[zaX h1]
 have hni:l[i]∉l.take i:=fun hm=>by
  obtain⟨j,hj,e⟩:=(zaG h1).1 hm
  have:=(List.getElem_inj hd).1 e
  omega
 rw[zhG hn h1 hni,hk i Ko]
theorem zyF {d:DfaT} (hok:zd d):ofD d (zN d.label.length)=d:=by
 obtain⟨hk1,hk2,hk3,hk4,hk5,hk6,hk7⟩:=id hok
 have hh:zw (zN d.label.length)=zN d.label.length:=by
  unfold zw
  rw[zlr (zkP _)]
  refine List.ext_getElem (by rw[List.length_map]) fun i h1 h2=>?_
  rw[List.getElem_map]
  exact zkQ (zbQ.1 (List.getElem_mem _))
 refine DfaT.ext' rfl rfl ?_ ?_ rfl
 ·show(zw (zN d.label.length)).map _=_
  rw[hh]
  refine List.ext_getElem (by rw[List.length_map,zaa];omega) fun i h1 h2=>?_
  rw[List.getElem_map,zaX Ko]
  unfold zdH
  rw[Int.toNat_natCast,List.getD_eq_getElem?_getD,List.getElem?_eq_getElem h2,ztu]
  show d.next[i].map _=_
  refine(List.map_congr_left fun x hx=>?_).trans (List.map_id _)
  obtain⟨g1,g2⟩:=(hk7 i h2 Ko).2.2.2 x hx
  obtain⟨v,rfl⟩:=Int.eq_ofNat_of_zero_le g1
  rw[zQ (by rw[zaa];omega)]
  exact zaX Ko
 ·show(zw (zN d.label.length)).map _=_
  rw[hh]
  refine List.ext_getElem (by rw[List.length_map,zaa]) fun i h1 h2=>?_
  rw[List.getElem_map,zaX h2,Int.toNat_natCast,List.getD_eq_getElem?_getD,List.getElem?_eq_getElem h2]
  rfl
end Go.Proofs.YtefkpedhbijhkaaGreatDoor
namespace Go.Proofs.YtefkpedhbijhkaaGreatDoor
open Go Go.V Go.Proofs
theorem zhH {m:List Int} (hm:zf m=m) {s:Nat} (hs:s<m.length): ∃v:Nat,v< (zl m).length∧m[s]=(v:Nat):=by
 have h:=zfq hm (L:=m.length) (x:=m[s]) (by rw[List.take_length];exact List.getElem_mem hs)
 rw[ztt] at h
 obtain⟨v,hv⟩:=Int.eq_ofNat_of_zero_le h.1
 exact⟨v,by omega,hv⟩
theorem zhI {m:List Int} (hm:zf m=m) {p:Nat} (hp:p< (zl m).length): ∃ (x:Nat) (h:p< (zw m).length) (hx:x<m.length),(zw m)[p]=(x:Nat)∧m[x]=(p:Nat):=by
 have hph:p< (zw m).length:=by unfold zw;rwa [List.length_map]
 obtain⟨x,h,hx,e3,e4,e5⟩:=zjH hph
 refine⟨x,hph,hx,e3,?_⟩
 rw[zjX hm hx,e5]
 exact zx (zbX (zcx m) h)
theorem zxF {d:DfaT} {m:List Int} (hm:zf m=m) (hst:zbb d m):HomP d (ofD d m) (fun s=>(atL m (s:Nat)).toNat):=by
 obtain⟨hok,hml,_⟩:=id hst
 obtain⟨hk1,hk2,hk3,hk4,hk5,hk6,hk7⟩:=id hok
 refine⟨rfl,fun s hs=>?_,fun s hs=>?_,fun s hs k hk=>?_⟩
 ·obtain⟨v,hv,e⟩:=zhH hm (show s<m.length by omega)
  rw[zQ Ko,e,zfN,Int.toNat_natCast]
  exact hv
 ·obtain⟨v,hv,e⟩:=zhH hm (show s<m.length by omega)
  have h:=znC hst (s:=s) Ko
  rw[hm] at h
  have e2:atL m (s:Nat)=(v:Nat):=by rw[zQ Ko,e]
  rw[e2] at h⊢
  rw[Int.toNat_natCast,h]
 ·obtain⟨v,hv,e⟩:=zhH hm (show s<m.length by omega)
  have e2:atL m (s:Nat)=(v:Nat):=by rw[zQ Ko,e]
  obtain⟨x,hph,hx,e3,e4⟩:=zhI hm hv
  have hsn:s<d.next.length:=by omega
  have hxn:x<d.next.length:=by omega
  obtain⟨_,hsl,hsr⟩:=zkD hst (show s<m.length by omega) hx Ko Ko hsn hxn (by rw[e,e4])
  obtain⟨w1,_,_,w4⟩:=hk7 s hsn Ko
  have hkl:k<d.next[s].length:=by omega
  obtain⟨t0,t1⟩:=w4 _ (List.getElem_mem hkl)
  obtain⟨t,ht⟩:=Int.eq_ofNat_of_zero_le t0
  refine⟨t,by omega,?_,?_⟩
  ·rw[zak hsn,zQ hkl,ht]
  ·have hr:=hsr k hkl
   rw[hm,ht] at hr
   show atL (zE (ofD d m) ((atL m (s:Nat)).toNat:Nat)) k=((atL m (t:Nat)).toNat:Nat)
   rw[e2,Int.toNat_natCast,zl5 hm hph e3 hxn]
   have hkx:k<d.next[x].length:=by omega
   rw[zQ (by rw[List.length_map];exact hkx),List.getElem_map,←hr]
   obtain⟨u,hu,eu⟩:=zhH hm (show t<m.length by omega)
   rw[zQ (show t<m.length by omega),eu,Int.toNat_natCast]
theorem zxG {d:DfaT} (hok:zd d):za7 (ofD d (za7 d 65536)) 65536=zN (ofD d (za7 d 65536)).label.length:=by
 have hst:=zdj hok
 have e0:=zet hok 65536
 obtain⟨m,hmd⟩: ∃m,m=za7 d 65536:=⟨_,rfl⟩
 rw[←hmd] at hst e0⊢
 have hm:zf m=m:=by rw[e0];exact zcd d 65536
 have hml:=hst.2.1
 have hoS:=zjI hst
 have hA:=hok.2.2.1
 have hB:=hoS.2.2.1
 have hh:=fun(x y:Nat) (hx:x<d.label.length) (hy:y<d.label.length)=>ziZ hA hB (zxF hm hst) 65536 (s:=x) (t:=y) hx hy
 have hlen:(lvl (ofD d m) 65536).length=(ofD d m).label.length:=by rw[zad hB,hB]
 rw[zet hoS]
 have key:=zvw (zcd (ofD d m) 65536) (by
  rw[List.nodup_iff_pairwise_ne,List.pairwise_iff_getElem]
  intro p q hp hq hpq e
  have hp':=hp
  have hq':=hq
  rw[hlen,zfN] at hp' hq'
  obtain⟨x,_,hx,_,ex⟩:=zhI hm hp'
  obtain⟨y,_,hy,_,ey⟩:=zhI hm hq'
  have h1:=hh x y Ko Ko
  simp only[zQ hx,zQ hy,ex,ey,Int.toNat_natCast] at h1
  rw[zQ hp,zQ hq] at h1
  have h2:=h1.2 e
  rw[←e0,zQ hx,zQ hy,ex,ey] at h2
  omega)
 rw[hlen] at key
 exact key
theorem zjZ {d:DfaT} (hok:zd d):zK (zr d)=zN (zr d).label.length:=by
 have h:=zrc hok
 have hl:(zr d).label.length=(zK d).length:=(zc5 d (zK d)).2
 rw[hl]
 exact h
theorem zeV {d:DfaT} (hok:zd d):zd (zap d).1∧(zap d).2=0∧zap (zap d).1=((zap d).1,0)∧za7 (zap d).1 65536=zN (zap d).1.label.length∧(zap d).1.label.length=(zl (za7 (zr d) 65536)).length∧(zap d).1.label.length≤(zK d).length:=by
 have htk:zd (zr d):=zcE hok (za1 hok)
 have hst:=zdj htk
 have haf:=zxG htk
 have hm:zf (za7 (zr d) 65536)=za7 (zr d) 65536:=by rw[zet htk];exact zcd _ _
 have hqr:=zkO (zjZ hok) hm hst
 have hoS:=zjI hst
 rw[zc8 hok]
 show zd (ofD (zr d) (za7 (zr d) 65536))∧(0 :Int)=0∧zap (ofD (zr d) (za7 (zr d) 65536))=(ofD (zr d) (za7 (zr d) 65536),0)∧_
 have hl:=zfN (zr d) (za7 (zr d) 65536)
 refine⟨hoS,rfl,?_,haf,hl,?_⟩
 ·rw[zc8 hoS]
  obtain⟨S,hS⟩: ∃S,S=ofD (zr d) (za7 (zr d) 65536):=⟨_,rfl⟩
  rw[←hS] at hoS haf hqr hl⊢
  have htr:zr S=S:=by
   unfold zr
   rw[hqr,←hl]
   exact zwz hoS
  rw[htr,haf,zyF hoS]
 ·show(ofD (zr d) (za7 (zr d) 65536)).label.length≤_
  rw[hl]
  have h1:=zam (za7 (zr d) 65536)
  have h2:=hst.2.1
  have h3:(zr d).label.length=(zK d).length:=(zc5 d (zK d)).2
  omega
end Go.Proofs.YtefkpedhbijhkaaGreatDoor
namespace Go.Proofs.YtefkpedhbijhkaaGreatDoor
open Go Go.V Go.Proofs
end Go.Proofs.YtefkpedhbijhkaaGreatDoor
namespace Go.Proofs.YtefkpedhbijhkaaGreatDoor
open Go Go.V Go.Proofs
theorem zrm {d:DfaT} (hok:zd d) (hof:d.of.length=256) (w:List UInt8):zac (zap d).1 w=zac d w:=by
 have htk:zd (zr d):=zcE hok (za1 hok)
 rw[zc8 hok]
 show zac (ofD (zr d) (za7 (zr d) 65536)) w=_
 rw[zwB (zdj htk) hof,←zis hok hof (za1 hok)]
 rfl
end Go.Proofs.YtefkpedhbijhkaaGreatDoor
namespace Go.Proofs.YtefkpedhbijhkaaGreatDoor
open Go Go.V Go.Proofs
def ze4 (d:DfaT) (s:Int) (w:List UInt8):Int:=w.foldl (fun s b=>toD d s b.toNat) s
def zdB (d:DfaT) (s:Int) (w:List UInt8):Int:=atL d.label (ze4 d s w)
theorem zhJ (d:DfaT) (u v:List UInt8):zaI d (u++v)=ze4 d (zaI d u) v:=by unfold zaI ze4;rw[List.foldl_append]
theorem zgh (d:DfaT) (u v:List UInt8):zac d (u++v)=zdB d (zaI d u) v:=by unfold zac zdB;rw[zhJ]
def zdq (d:DfaT):Prop:= ∀s t:Nat,s<d.label.length→t<d.label.length→(∀w,zdB d s w=zdB d t w)→s=t
theorem zhK {d:DfaT} (hok:zd d) (hof:d.of.length=256) {k:Nat} (hk:k<d.width.toNat): ∃b:UInt8,d.of.getD b.toNat 0=(k:Nat):=by
 obtain⟨hk1,hk2,hk3,hk4,hk5,hk6,hk7⟩:=id hok
 obtain⟨x,_,hx,_,e⟩:=zhI hk4 (p:=k) Ko
 have hb:(UInt8.ofNat x).toNat=x:=by rw[UInt8.toNat_ofNat'];omega
 exact⟨UInt8.ofNat x,by rw[hb,List.getD_eq_getElem?_getD,List.getElem?_eq_getElem hx];exact e⟩
theorem zfS {d:DfaT} {b:UInt8} {k:Nat} (h:d.of.getD b.toNat 0=(k:Nat)) (s:Int):toD d s b.toNat=atL (zE d s) (k:Nat):=by
 unfold toD zE
 rw[h]
theorem zj0 {d:DfaT} (hok:zd d) (hof:d.of.length=256): ∀ (i:Nat) {s t:Nat},s<d.label.length→t<d.label.length→(∀w,zdB d s w=zdB d t w)→atL (lvl d i) (s:Nat)=atL (lvl d i) (t:Nat)
 |0,s,t,hs,ht,h=>(ziD hok.2.2.1 hs ht).2 (h [])
 |i+1,s,t,hs,ht,h=>(ziE hok.2.2.1 i hs ht).2 ⟨zj0 hok hof i hs ht h,fun c hc=>by
   obtain⟨b,hb⟩:=zhK hok hof hc
   obtain⟨x0,x1⟩:=zgI hok hof (s:=(s:Nat)) Ko b.toNat_lt
   obtain⟨y0,y1⟩:=zgI hok hof (s:=(t:Nat)) Ko b.toNat_lt
   obtain⟨x,hx⟩:=Int.eq_ofNat_of_zero_le x0
   obtain⟨y,hy⟩:=Int.eq_ofNat_of_zero_le y0
   have hw: ∀w,zdB d x w=zdB d y w:=fun w=>by
    have:=h (b::w)
    unfold zdB ze4 at this⊢
    rw[List.foldl_cons,List.foldl_cons,hx,hy] at this
    exact this
   rw[←zfS hb,←zfS hb,hx,hy]
   exact zj0 hok hof i Ko Ko hw⟩
theorem zvx {d:DfaT} (hok:zd d) (hof:d.of.length=256) (h:za7 d 65536=zN d.label.length):zdq d:=fun s t hs ht hw=>by
 have:=zj0 hok hof 65536 hs ht hw
 rw[←zet hok,h,zQ (by rw[zaa];exact hs),zQ (by rw[zaa];exact ht),zaX hs,zaX ht] at this
 omega
def zaL (R:Int→Int→Prop):List Int→List Int→Prop
 | [],[]=>True
 |a::l,b::m=>R a b∧zaL R l m
 |_,_=>False
section all2
variable {R:Int→Int→Prop}
theorem zaL.len: ∀ {a b:List Int},zaL R a b→a.length=b.length
 | [],[],_=>rfl
 |_::_,_::_,h=>by rw[List.length_cons,List.length_cons,zaL.len h.2]
 | [],_::_,h=>h.elim
 |_::_,[],h=>h.elim
theorem zaL.get: ∀ {a b:List Int},zaL R a b→ ∀ {i:Nat} (h1:i<a.length) (h2:i<b.length),R a[i] b[i]
 | [],_,_,_,h1,_=>absurd h1 (Nat.not_lt_zero _)
 |_::_,[],_,_,_,h2=>absurd h2 (Nat.not_lt_zero _)
 |_::_,_::_,h,0,_,_=>h.1
 |_::_,_::_,h,i+1,h1,h2=>zaL.get h.2 (Nat.lt_of_succ_lt_succ h1) (Nat.lt_of_succ_lt_succ h2)
theorem zaL.of_get: ∀ {a b:List Int},a.length=b.length→(∀ (i:Nat) (h1:i<a.length) (h2:i<b.length),R a[i] b[i])→zaL R a b
 | [],[],_,_=>trivial
 |_::_,_::_,e,h=>⟨h 0 (Nat.zero_lt_succ _) (Nat.zero_lt_succ _),zaL.of_get (Nat.succ.inj e) fun i h1 h2=>h (i+1) (Nat.succ_lt_succ h1) (Nat.succ_lt_succ h2)⟩
 | [],_::_,e,_=>by cases e
 |_::_,[],e,_=>by cases e
theorem zaL.app: ∀ {a b:List Int} {x y:Int},zaL R a b→R x y→zaL R (a++[x]) (b++[y])
 | [],[],_,_,_,h=>⟨h,trivial⟩
 |_::_,_::_,_,_,h,h2=>⟨h.1,zaL.app h.2 h2⟩
 | [],_::_,_,_,h,_=>h.elim
 |_::_,[],_,_,h,_=>h.elim
theorem zaL.memL: ∀ {a b:List Int} {x:Int},zaL R a b→x∈a→ ∃y,y∈b∧R x y
 | [],_,_,_,h=>by cases h
 |_::_,[],_,h,_=>h.elim
 |c::_,d::_,x,h,hx=>by
  rcases List.mem_cons.1 hx with rfl|hx
  ·exact⟨d,List.mem_cons_self ..,h.1⟩
  ·obtain⟨y,h1,h2⟩:=zaL.memL h.2 hx
   exact⟨y,List.mem_cons_of_mem _ h1,h2⟩
theorem zaL.memR: ∀ {a b:List Int} {y:Int},zaL R a b→y∈b→ ∃x,x∈a∧R x y
 |_,[],_,_,h=>by cases h
 | [],_::_,_,h,_=>h.elim
 |c::_,d::_,x,h,hx=>by
  rcases List.mem_cons.1 hx with rfl|hx
  ·exact⟨c,List.mem_cons_self ..,h.1⟩
  ·obtain⟨y,h1,h2⟩:=zaL.memR h.2 hx
   exact⟨y,List.mem_cons_of_mem _ h1,h2⟩
variable (hf: ∀x y y',R x y→R x y'→y=y') (hg: ∀x x' y,R x y→R x' y→x=x')
include hf hg
theorem zaL.add1 {W V:List Int} {x y:Int} (h:zaL R W V) (hxy:R x y):zaL R (add1 W x) (add1 V y):=by
 have hm:x∈W↔y∈V:=by
  constructor
  ·intro hx
   obtain⟨z,h1,h2⟩:=h.memL hx
   rwa [hf _ _ _ hxy h2]
  ·intro hy
   obtain⟨z,h1,h2⟩:=h.memR hy
   rwa [hg _ _ _ hxy h2]
 unfold Proofs.YtefkpedhbijhkaaGreatDoor.add1
 by_cases hx:x∈W
 ·rw[if_pos hx,if_pos (hm.1 hx)];exact h
 ·rw[if_neg hx,if_neg fun e=>hx (hm.2 e)];exact h.app hxy
theorem zaL.addN: ∀ {ts us W V:List Int},zaL R ts us→zaL R W V→zaL R (addN W ts) (addN V us)
 | [],[],_,_,_,h=>h
 |t::ts,u::us,W,V,h1,h=>by
  rw[zbE,zbE]
  exact zaL.addN (ts:=ts) (us:=us) h1.2 (h.add1 hf hg h1.1)
 | [],_::_,_,_,h,_=>h.elim
 |_::_,[],_,_,h,_=>h.elim
theorem zaL.bw {onA onB:Int→List Int} (hs: ∀x y,R x y→zaL R (onA x) (onB y)) {W0 V0:List Int} (h0:zaL R W0 V0): ∀j,zaL R (bw onA W0 j) (bw onB V0 j)
 |0=>h0
 |j+1=>by
  have ih:=zaL.bw hs h0 j
  have hl:=ih.len
  by_cases h:j< (Proofs.YtefkpedhbijhkaaGreatDoor.bw onA W0 j).length
  ·rw[zbG h,zbG (show j< (Proofs.YtefkpedhbijhkaaGreatDoor.bw onB V0 j).length by omega)]
   exact zaL.addN hf hg (hs _ _ (ih.get h Ko)) ih
  ·rw[zde Ko,zde Ko];exact ih
end all2
def zeI (A B:DfaT) (x y:Int):Prop:= ∃w,zaI A w=x∧zaI B w=y
theorem znZ {A B:DfaT} (hB:zd B) (hof:B.of.length=256) (pB:zdq B) (ht: ∀w,zac A w=zac B w) (x y y':Int) (h1:zeI A B x y) (h2:zeI A B x y'):y=y':=by
 obtain⟨u,e1,e2⟩:=h1
 obtain⟨v,e3,e4⟩:=h2
 have hu:=zbT hB hof u
 have hv:=zbT hB hof v
 rw[e2] at hu
 rw[e4] at hv
 obtain⟨p,rfl⟩:=Int.eq_ofNat_of_zero_le hu.1
 obtain⟨q,rfl⟩:=Int.eq_ofNat_of_zero_le hv.1
 have:=pB p q Ko Ko fun w=>by
  rw[←e2,←e4,←zgh,←zgh,←ht,←ht,zgh,zgh,e1,e3]
 rw[this]
theorem zl6 {A B:DfaT} {x y:Int} (h:zeI A B x y):zeI B A y x:=by
 obtain⟨w,e1,e2⟩:=h
 exact⟨w,e2,e1⟩
theorem ziF {d:DfaT} (hok:zd d) {s:Int} (hs:0≤s∧s<d.label.length):(zE d s).length=d.width.toNat:=by
 obtain⟨v,rfl⟩:=Int.eq_ofNat_of_zero_le hs.1
 have h3:=hok.2.2.1
 have h7:=(hok.2.2.2.2.2.2 v Ko Ko).1
 rw[zak Ko]
 omega
theorem zn0 {A B:DfaT} (hA:zd A) (hB:zd B) (ho:A.of=B.of):A.width=B.width:=by
 have h1:=hA.2.2.2.2.1
 have h2:=hB.2.2.2.2.1
 rw[ho] at h1
 omega
theorem ztv {A B:DfaT} (hA:zd A) (hB:zd B) (hof:A.of.length=256) (ho:A.of=B.of) (x y:Int) (h:zeI A B x y):zaL (zeI A B) (zE A x) (zE B y):=by
 obtain⟨w,rfl,rfl⟩:=h
 have hofB:B.of.length=256:=by rw[←ho];exact hof
 have l1:=ziF hA (zbT hA hof w)
 have l2:=ziF hB (zbT hB hofB w)
 have hww:=zn0 hA hB ho
 refine zaL.of_get Ko fun i h1 h2=>?_
 obtain⟨b,hb⟩:=zhK hA hof (k:=i) Ko
 refine⟨w++[b],?_,?_⟩
 ·rw[zhJ]
  show toD A (zaI A w) b.toNat=_
  rw[zfS hb,zQ h1]
 ·rw[zhJ]
  show toD B (zaI B w) b.toNat=_
  rw[zfS (by rw[←ho];exact hb),zQ h2]
theorem zrn {d:DfaT} (hok:zd d) (hof:d.of.length=256) {s:Int} (h:s∈zK d): ∃w,zaI d w=s:=by
 refine zfe (on:=zE d) (W0:=[0]) (X:=fun s=> ∃w,zaI d w=s) (fun x hx=>⟨[],(List.mem_singleton.1 hx).symm⟩) (fun x hX t ht=>?_) _ s h
 obtain⟨w,rfl⟩:=hX
 obtain⟨k,hk,rfl⟩:=List.getElem_of_mem ht
 have hl:=ziF hok (zbT hok hof w)
 obtain⟨b,hb⟩:=zhK hok hof (k:=k) Ko
 refine⟨w++[b],?_⟩
 rw[zhJ]
 show toD d (zaI d w) b.toNat=_
 rw[zfS hb,zQ hk]
theorem zkR {d:DfaT} (hok:zd d) (hof:d.of.length=256) (hr:zK d=zN d.label.length) {s:Nat} (h:s<d.label.length): ∃w,zaI d w=(s:Nat):=zrn hok hof (by rw[hr];exact zbQ.2 Ko)
theorem zkS {d:DfaT} (hok:zd d) (hof:d.of.length=256) (hr:zK d=zN d.label.length) (x:Int):x∈d.label↔ ∃w,zac d w=x:=by
 constructor
 ·intro hx
  obtain⟨s,hs,rfl⟩:=List.getElem_of_mem hx
  obtain⟨w,hw⟩:=zkR hok hof hr hs
  exact⟨w,by unfold zac;rw[hw,zQ hs]⟩
 ·rintro⟨w,rfl⟩
  have h:=zbT hok hof w
  obtain⟨v,hv⟩:=Int.eq_ofNat_of_zero_le h.1
  unfold zac
  rw[hv,zQ Ko]
  exact List.getElem_mem _
theorem zvy {A B:DfaT} (hA:zd A) (hB:zd B) (hof:A.of.length=256) (ho:A.of=B.of) (hn:A.names=B.names) (rA:zK A=zN A.label.length) (rB:zK B=zN B.label.length) (pA:zdq A) (pB:zdq B) (ht: ∀w,zac A w=zac B w):A=B:=by
 have hofB:B.of.length=256:=by rw[←ho];exact hof
 have hf:=znZ hB hofB pB ht
 have hg: ∀x x' y,zeI A B x y→zeI A B x' y→x=x':=fun x x' y h1 h2=>znZ hA hof pA (fun w=>(ht w).symm) y x x' (zl6 h1) (zl6 h2)
 have hst:=ztv hA hB hof ho
 have h0:zaL (zeI A B) [0] [0]:=⟨⟨[],rfl,rfl⟩,trivial⟩
 have key:=zaL.bw hf hg hst h0 (A.label.length+B.label.length)
 have eA:bw (zE A) [0] (A.label.length+B.label.length)=zN A.label.length:=by
  have h1:bw (zE A) [0] A.label.length=zN A.label.length:=rA
  rw[zc0 (by rw[h1,zaa];exact Nat.le_refl _),h1]
 have eB:bw (zE B) [0] (A.label.length+B.label.length)=zN B.label.length:=by
  have h1:bw (zE B) [0] B.label.length=zN B.label.length:=rB
  rw[Nat.add_comm,zc0 (by rw[h1,zaa];exact Nat.le_refl _),h1]
 rw[eA,eB] at key
 have hl:=key.len
 rw[zaa,zaa] at hl
 have own: ∀i:Nat,i<A.label.length→zeI A B (i:Nat) (i:Nat):=fun i hi=>by
  have:=key.get (i:=i) (by rw[zaa];exact hi) (by rw[zaa];omega)
  rwa [zaX hi,zaX Ko] at this
 have hA3:=hA.2.2.1
 have hB3:=hB.2.2.1
 refine DfaT.ext' ho (zn0 hA hB ho) ?_ ?_ hn
 ·refine List.ext_getElem Ko fun i h1 h2=>?_
  have hr:=hst _ _ (own i Ko)
  rw[zak h1,zak h2] at hr
  refine List.ext_getElem hr.len fun k k1 k2=>?_
  have hk:=hr.get k1 k2
  have hb:=(hA.2.2.2.2.2.2 i h1 Ko).2.2.2 _ (List.getElem_mem k1)
  obtain⟨v,hv⟩:=Int.eq_ofNat_of_zero_le hb.1
  rw[hv] at hk⊢
  exact hf _ _ _ (own v Ko) hk
 ·refine List.ext_getElem hl fun i h1 h2=>?_
  obtain⟨w,e1,e2⟩:=own i h1
  have:=ht w
  unfold zac at this
  rw[e1,e2,zQ h1,zQ h2] at this
  exact this
end Go.Proofs.YtefkpedhbijhkaaGreatDoor
namespace Go.Proofs.YtefkpedhbijhkaaGreatDoor
open Go Go.V Go.Proofs
def zdk (d:DfaT):DfaT:=zdf d (zau d)
noncomputable def zcH (d:DfaT):DfaT:=zr (zT (zap (zdk (zr d))).1)
theorem zj1 (d:DfaT):(zdk d).label.length=d.label.length:=zdL d fun s=>zp (zau d) s+1
theorem ztw {A B:DfaT} (hn:A.names=B.names) (hl: ∀x,x∈A.label↔x∈B.label):zau A=zau B:=by
 unfold zau zbz
 rw[hn]
 have:(fun i:Nat=>decide ((((i:Nat):Int)+1)∈A.label))=fun i:Nat=>decide ((((i:Nat):Int)+1)∈B.label):=funext fun i=>decide_eq_decide.2 (hl _)
 rw[this]
theorem zj2 {d:DfaT} (hok:zd d) {s:Nat} (hs:s<d.label.length) (h:0<d.label[s]):zaU d d.label[s]∈zau d:=by
 rw[←zpt hok]
 exact(zhj _ (Nat.le_refl _)).2 ⟨s,hs,hs,h,rfl⟩
theorem zvz {d:DfaT} (hok:zd d) {j k:Int} (hj:0<j∧j≤d.names.length) (hk:0<k∧k≤d.names.length) (e:zaU d j=zaU d k):j=k:=by
 obtain⟨a,ha⟩:=Int.eq_ofNat_of_zero_le (show 0≤j - 1 by omega)
 obtain⟨b,hb⟩:=Int.eq_ofNat_of_zero_le (show 0≤k - 1 by omega)
 obtain rfl:j=(a:Int)+1:=by omega
 obtain rfl:k=(b:Int)+1:=by omega
 rw[zdK Ko,zdK Ko] at e
 have:=(List.getElem_inj (zgu hok)).1 e
 omega
theorem zls {d:DfaT} (hok:zd d) (hof:d.of.length=256): ∀ (w:List UInt8) {s:Int},0≤s∧s<d.label.length→0≤ze4 d s w∧ze4 d s w<d.label.length
 | [],_,h=>h
 |b::w,_,h=>zls hok hof w (zgI hok hof h b.toNat_lt)
theorem zpK {d:DfaT} {g:Tx→Int} {p:Nat} (h:p<d.label.length):atL (zbi d g) (p:Nat)=if 0<d.label[p] then g (zaU d d.label[p]) else 0:=by
 rw[zQ (by rw[zdL];exact h)]
 unfold zbi
 rw[List.getElem_map]
theorem zro {d:DfaT} (hok:zd d) (hof:d.of.length=256) (ap:zdq d):zdq (zdk d):=fun s t hs ht h=>by
 have hl:=zj1 d
 rw[hl] at hs ht
 refine ap s t hs ht fun w=>?_
 have hw:atL (zbi d fun x=>zp (zau d) x+1) (ze4 d s w)=atL (zbi d fun x=>zp (zau d) x+1) (ze4 d t w):=h w
 obtain⟨p0,p1⟩:=zls hok hof w (s:=(s:Nat)) Ko
 obtain⟨q0,q1⟩:=zls hok hof w (s:=(t:Nat)) Ko
 unfold zdB
 obtain⟨p,hp⟩:=Int.eq_ofNat_of_zero_le p0
 obtain⟨q,hq⟩:=Int.eq_ofNat_of_zero_le q0
 rw[hp] at p1 hw⊢
 rw[hq] at q1 hw⊢
 have p2:p<d.label.length:=by omega
 have q2:q<d.label.length:=by omega
 rw[zpK p2,zpK q2] at hw
 rw[zQ p2,zQ q2]
 have h3:=hok.2.2.1
 obtain⟨_,bp1,bp2,_⟩:=hok.2.2.2.2.2.2 p Ko p2
 obtain⟨_,bq1,bq2,_⟩:=hok.2.2.2.2.2.2 q Ko q2
 by_cases hp0:0<d.label[p]
 ·obtain⟨i,hi⟩:=zS (zj2 hok p2 hp0)
  rw[if_pos hp0,zx hi] at hw
  by_cases hq0:0<d.label[q]
  ·obtain⟨j,hj⟩:=zS (zj2 hok q2 hq0)
   rw[if_pos hq0,zx hj] at hw
   obtain rfl:i=j:=by omega
   exact zvz hok ⟨hp0,bp2⟩ ⟨hq0,bq2⟩ (Option.some.inj ((zR hi).2.symm.trans (zR hj).2))
  ·rw[if_neg hq0] at hw;omega
 ·rw[if_neg hp0] at hw
  by_cases hq0:0<d.label[q]
  ·obtain⟨j,hj⟩:=zS (zj2 hok q2 hq0)
   rw[if_pos hq0,zx hj] at hw
   omega
  ·omega
theorem zfk {d:DfaT} (hok:zd d):zd (zdk d):=zjh hok (zgy hok)
theorem zrp (d:DfaT):zK (zdk d)=zK d:=by
 have hl:=zj1 d
 unfold zK
 rw[hl]
 rfl
theorem zl7 {d:DfaT} (hok:zd d) (hof:d.of.length=256) (w:List UInt8):zac (zdk d) w=if 0<zac d w then zp (zau d) (zaU d (zac d w))+1 else 0:=zq5 hok hof _ _ w
theorem zo3 {d:DfaT} (hok:zd d):zK (zap d).1=zN (zap d).1.label.length:=by
 have htk:zd (zr d):=zcE hok (za1 hok)
 have hst:=zdj htk
 have hm:zf (za7 (zr d) 65536)=za7 (zr d) 65536:=by rw[zet htk];exact zcd _ _
 rw[zc8 hok]
 show zK (ofD (zr d) (za7 (zr d) 65536))=zN (ofD (zr d) (za7 (zr d) 65536)).label.length
 rw[zfN]
 exact zkO (zjZ hok) hm hst
theorem zfT {d:DfaT} (hok:zd d):(zap d).1.of=d.of∧(zap d).1.names=d.names:=by
 rw[zc8 hok]
 exact⟨rfl,rfl⟩
theorem zo4 {d:DfaT} (hok:zd d) (hof:d.of.length=256):zdq (zap d).1:=by
 obtain⟨o1,_,_,o4,_⟩:=zeV hok
 exact zvx o1 (by rw[(zfT hok).1];exact hof) o4
theorem zl8 {d:DfaT} (hok:zd d) (hof:d.of.length=256) (w:List UInt8):zac (zr d) w=zac d w:=zis hok hof (za1 hok) w
theorem zrq {d R:DfaT} (hok:zd d) (hof:d.of.length=256) (hR:zd R) (ho:R.of=d.of) (hn:R.names=d.names) (hr:zK R=zN R.label.length) (ha:zdq R) (ht: ∀w,zac R w=zac d w):zr (zT (zdf R (zau R)))=zcH d:=by
 have hT:=zb5 hok
 have hTf:(zr d).of.length=256:=hof
 have hRf:R.of.length=256:=by rw[ho];exact hof
 have hu:zau (zr d)=zau R:=ztw (by rw[hn];rfl) fun x=>by
  rw[zkS hT hTf (zjZ hok),zkS hR hRf hr]
  simp only[zl8 hok hof,ht]
 have hN:=zfk hT
 have hNf:(zdk (zr d)).of.length=256:=hof
 obtain⟨s1,s2⟩:=zfT hN
 have e:(zap (zdk (zr d))).1=zdk R:=by
  refine zvy (zeV hN).1 (zfk hR) (by rw[s1];exact hof) (by rw[s1];exact ho.symm) (by rw[s2];exact hu) (zo3 hN) ?_ (zo4 hN hNf) (zro hR hRf ha) fun w=>?_
  ·rw[zrp,hr]
   have hl:=zj1 R
   rw[hl]
  ·rw[zrm hN hNf,zl7 hT hTf,zl7 hR hRf,zl8 hok hof,ht,hu]
   have: ∀k,zaU (zr d) k=zaU R k:=fun k=>by unfold zaU;rw[hn];rfl
   rw[this]
 unfold zcH
 rw[e]
 rfl
end Go.Proofs.YtefkpedhbijhkaaGreatDoor
namespace Go.Proofs.YtefkpedhbijhkaaGreatDoor
open Go Go.V Go.Proofs
def zhL (ls:List (List Int)) (t:Nat):List Int:=ls.map fun g=>g.getD t 0
theorem zvA {d:DfaT} (hok:zd d) {m:Nat} (h:(zm d m).length≤m) {t k:Nat} (ht:t<d.next.length) (hk:k<d.width.toNat):zaB 0 (zU d (zm d m)).next (zhL (zm d m) t) k=zhL (zm d m) ((d.next[t]).getD k 0).toNat:=by
 show((zm d m).map fun f=>(zaj 0 d.next d.width.toNat f).map (zp (zm d m))).map (fun row=>(zhL (zm d m) t).getD (row.getD k 0).toNat 0)=(zm d m).map _
 rw[List.map_map]
 refine List.map_congr_left fun g hg=>?_
 show(zhL (zm d m) t).getD (((zaj 0 d.next d.width.toNat g).map (zp (zm d m))).getD k 0).toNat 0=_
 obtain⟨i,hi,rfl⟩:=List.getElem_of_mem hg
 obtain⟨n,hn⟩:=zS (zd1 h hi hk)
 obtain⟨h1,h2⟩:=zR hn
 have e1:((zaj 0 d.next d.width.toNat (zm d m)[i]).map (zp (zm d m))).getD k 0=(n:Int):=by
  rw[List.getD_eq_getElem?_getD,List.getElem?_map]
  unfold zaj
  rw[List.getElem?_map,List.getElem?_range hk]
  exact zx hn
 rw[e1,Int.toNat_natCast,List.getD_eq_getElem?_getD]
 unfold zhL
 rw[List.getElem?_map,h2]
 show(zaB 0 d.next (zm d m)[i] k).getD t 0=_
 unfold zaB
 rw[List.getD_eq_getElem?_getD,List.getElem?_map,List.getElem?_eq_getElem ht]
 rfl
theorem zl9 {d:DfaT} (hok:zd d) {m:Nat} (h:(zm d m).length≤m): ∀ (ks:List Nat),(∀k∈ks,k<d.width.toNat)→ ∀t,t<d.next.length→ ∃t',t'<d.next.length∧ks.foldl (zaB 0 (zU d (zm d m)).next) (zhL (zm d m) t)=zhL (zm d m) t'
 | [],_,t,ht=>⟨t,ht,rfl⟩
 |k::ks,hks,t,ht=>by
  obtain⟨hk1,hk2,hk3,hk4,hk5,hk6,hk7⟩:=id hok
  obtain⟨w1,w2,w3,w4⟩:=hk7 t ht Ko
  have hk:=hks k (List.mem_cons_self ..)
  have hkl:k< (d.next[t]).length:=by omega
  have hb:=w4 ((d.next[t])[k]) (List.getElem_mem hkl)
  rw[List.foldl_cons,zvA hok h ht hk]
  refine zl9 hok h ks (fun k hk=>hks k (List.mem_cons_of_mem _ hk)) _ ?_
  rw[List.getD_eq_getElem?_getD,List.getElem?_eq_getElem hkl]
  show((d.next[t])[k]).toNat<_
  omega
theorem ztx {α:Type}: ∀ {a b:List α},a.Nodup→(∀x∈a,x∈b)→a.length≤b.length
 | [],_,_,_=>Nat.zero_le _
 |x::a,b,hn,hs=>by
  obtain⟨l,r,rfl⟩:=List.append_of_mem (hs x (List.mem_cons_self ..))
  obtain⟨hx,hn'⟩:=List.nodup_cons.1 hn
  have:=ztx (a:=a) (b:=l++r) hn' fun y hy=>by
   have:=hs y (List.mem_cons_of_mem _ hy)
   rcases List.mem_append.1 this with g|g
   ·exact List.mem_append_left _ g
   ·rcases List.mem_cons.1 g with rfl|g
    ·exact absurd hy hx
    ·exact List.mem_append_right _ g
  simp only[List.length_append,List.length_cons] at this⊢
  omega
theorem zma {d:DfaT} (hok:zd d) {m:Nat} (h:(zm d m).length≤m) (m':Nat):(zm (zU d (zm d m)) m').length≤d.label.length:=by
 have hk3:=hok.2.2.1
 have hk2:=hok.2.1
 have:(zm (zU d (zm d m)) m').length≤((List.range d.next.length).map (zhL (zm d m))).length:=by
  refine ztx (zgp _ _) fun f hf=>?_
  obtain⟨ks,hks,rfl⟩:=zhf m' f hf
  have e0:(zU d (zm d m)).label=zhL (zm d m) 0:=by
   show(zm d m).map (fun f=>f.headD 0)=(zm d m).map _
   refine List.map_congr_left fun g _=>?_
   cases g <;> rfl
  have hk1:=hok.1
  obtain⟨t,ht,e⟩:=zl9 hok h ks hks 0 Ko
  rw[e0,e]
  exact List.mem_map.2 ⟨t,List.mem_range.2 ht,rfl⟩
 rw[List.length_map,List.length_range] at this
 omega
theorem zrr {d:DfaT} (hok:zd d) {m:Nat} (h:(zV d m).2=true):(zV (zV d m).1 65536).2=true:=by
 have hl:(zm d m).length≤m:=by
  unfold zV at h
  split at h
  ·assumption
  ·cases h
 have he:(zV d m).1=zU d (zm d m):=by unfold zV;rw[if_pos hl]
 rw[he]
 have:=zma hok hl 65536
 have h6:d.label.length≤65536:=hok.2.1
 unfold zV
 rw[if_pos Ko]
end Go.Proofs.YtefkpedhbijhkaaGreatDoor
namespace Go.Proofs.YtefkpedhbijhkaaGreatDoor
open Go Go.V Go.Proofs
theorem zn1 {ls:List (List Int)} (hn:ls.Nodup): ∀ (xs:List (List Int)) {P:List (List Int)},(xs.foldl zaz P) <+: ls→addN (zN P.length) (xs.map (zp ls))=zN (xs.foldl zaz P).length
 | [],P,h=>rfl
 |x::xs,P,h=>by
  rw[List.foldl_cons] at h⊢
  rw[List.map_cons,zbE]
  have hP:zaz P x <+: ls:=(zd0 xs _).trans h
  have e:add1 (zN P.length) (zp ls x)=zN (zaz P x).length:=by
   obtain⟨i,hi,e⟩:=List.getElem_of_mem (zjw P x)
   have hil:i<ls.length:=by have:=hP.length_le;omega
   have e2:ls[i]=x:=by rw[←hP.getElem hi];exact e
   have e3:zp ls x=(i:Nat):=by rw[←e2];exact zx (zbX hn hil)
   rw[e3]
   by_cases hm:x∈P
   ·have em:zaz P x=P:=by unfold zaz;rw[if_pos hm]
    simp only[em] at hi⊢
    unfold add1
    rw[if_pos (zbQ.2 Ko)]
   ·have em:zaz P x=P++[x]:=by unfold zaz;rw[if_neg hm]
    simp only[em] at hi e⊢
    rw[List.length_append,List.length_singleton] at hi
    have hi2:i=P.length:=by
     rcases Nat.lt_or_ge i P.length with g|g
     ·rw[List.getElem_append_left g] at e
      exact absurd (e▸List.getElem_mem g) hm
     ·omega
    subst hi2
    unfold add1
    rw[if_neg (fun hc=>by have:=zbQ.1 hc;omega),List.length_append,List.length_singleton,ziC]
  rw[e]
  exact zn1 hn xs h
theorem zkT (d:DfaT) {ls:List (List Int)} {j:Nat} (hj:j<ls.length):zE (zU d ls) (j:Nat)=(zaj 0 d.next d.width.toNat ls[j]).map (zp ls):=by
 unfold zE
 rw[Int.toNat_natCast,List.getD_eq_getElem?_getD]
 show((ls.map fun f=>(zaj 0 d.next d.width.toNat f).map (zp ls))[j]?).getD []=_
 rw[List.getElem?_map,List.getElem?_eq_getElem hj]
 rfl
theorem zkU {d:DfaT} {m:Nat} (h:(zm d m).length≤m):zK (zU d (zm d m))=zN (zm d m).length:=by
 have hstop: ∀j,m≤j→zm d j=zm d m:=fun j hj=>zfH h j hj
 have hpre: ∀j,zm d j <+: zm d m:=fun j=>by
  rcases Nat.le_total j m with g|g
  ·exact zdd _ _ _ g
  ·rw[hstop j g];exact List.prefix_refl _
 have hnd:=zgp d m
 have key: ∀j,bw (zE (zU d (zm d m))) [0] j=zN (zm d j).length:=fun j=>by
  induction j with
  |zero=>rfl
  |succ j ih=>
   by_cases hj:j< (zm d j).length
   ·have hb:j< (bw (zE (zU d (zm d m))) [0] j).length:=by rw[ih,zaa];exact hj
    have hg:(bw (zE (zU d (zm d m))) [0] j)[j]'hb=(j:Nat):=by simp only[ih];exact zaX hj
    have hjm:j< (zm d m).length:=by have:=(hpre j).length_le;omega
    have hx:(zm d m)[j]=(zm d j)[j]:=((hpre j).getElem hj).symm
    have hs:zm d (j+1)=(zaj 0 d.next d.width.toNat (zm d m)[j]).foldl zaz (zm d j):=by rw[hx];exact zb9 hj
    have hp:=hpre (j+1)
    rw[hs] at hp
    rw[zbG hb,hg,ih,zkT d hjm,hs]
    exact zn1 hnd _ hp
   ·have hs:zm d (j+1)=zm d j:=zbZ (Nat.le_of_not_lt hj)
    rw[zde (by rw[ih,zaa];omega),ih,hs]
 have hl:(zU d (zm d m)).label.length=(zm d m).length:=List.length_map _
 unfold zK zhn
 rw[hl,key]
 have h1:(zm d (zm d m).length).length≤(zm d m).length:=(hpre _).length_le
 have h2:zm d m=zm d (zm d m).length:=zfH h1 m h
 rw[←h2]
theorem zwR {d:DfaT} (hok:zd d) (hof:d.of.length=256) (f:List Int) (u:List UInt8): ∀ {s:Nat},s<d.next.length→((u.map (zdI d)).foldl (zaB 0 d.next) f).getD s 0=f.getD (ze4 d (s:Nat) u.reverse).toNat 0:=by
 have hk3:=hok.2.2.1
 induction u using zfd with
 |h0=>intro s hs;show f.getD s 0=f.getD (Int.toNat (s:Nat)) 0;rw[Int.toNat_natCast]
 |h1 u b ih=>
  intro s hs
  rw[List.map_append,List.foldl_append,List.map_singleton,List.foldl_cons,List.foldl_nil,zpp hok hof _ b hs]
  obtain⟨h1,h2⟩:=zgI hok hof (s:=(s:Nat)) Ko b.toNat_lt
  obtain⟨t,ht⟩:=Int.eq_ofNat_of_zero_le h1
  rw[ht] at h2
  have:=ih (s:=t) Ko
  rw[ht,Int.toNat_natCast,this,List.reverse_append,List.reverse_singleton,List.singleton_append]
  unfold ze4
  rw[List.foldl_cons,ht]
theorem zty {d:DfaT} (hok:zd d) (hof:d.of.length=256) {m:Nat} (h:(zm d m).length≤m) {i:Nat} (hi:i< (zm d m).length) (u:List UInt8): ∃n,∃hn:n< (zm d m).length,ze4 (zU d (zm d m)) (i:Nat) u=(n:Nat)∧(zm d m)[n]=(u.map (zdI d)).foldl (zaB 0 d.next) (zm d m)[i]:=by
 induction u using zfd with
 |h0=>exact⟨i,hi,rfl,rfl⟩
 |h1 u b ih=>
  obtain⟨j,hj,e1,e2⟩:=ih
  have hc:=zlh hok hof b
  obtain⟨n,hn⟩:=zS (zd1 h hj hc.1)
  obtain⟨h1,h2⟩:=zR hn
  refine⟨n,h1,?_,?_⟩
  ·unfold ze4 at e1⊢
   rw[List.foldl_append,e1,List.foldl_cons,List.foldl_nil]
   unfold toD
   have hg:(zU d (zm d m)).next.getD j []=(zaj 0 d.next d.width.toNat (zm d m)[j]).map (zp (zm d m)):=by
    have:=zkT d hj
    unfold zE at this
    rwa [Int.toNat_natCast] at this
   rw[Int.toNat_natCast,hg]
   show atL _ (d.of.getD b.toNat 0)=_
   rw[hc.2]
   have hbl:zdI d b< ((zaj 0 d.next d.width.toNat (zm d m)[j]).map (zp (zm d m))).length:=by
    rw[List.length_map];unfold zaj;rw[List.length_map,List.length_range];exact hc.1
   rw[zQ hbl,List.getElem_map]
   have hbg:(zaj 0 d.next d.width.toNat (zm d m)[j])[zdI d b]'(by rw[List.length_map] at hbl;exact hbl)=zaB 0 d.next (zm d m)[j] (zdI d b):=by
    unfold zaj;rw[List.getElem_map,List.getElem_range]
   rw[hbg,zx hn]
  ·rw[List.getElem?_eq_getElem h1,Option.some.injEq] at h2
   rw[h2,e2,List.map_append,List.foldl_append];rfl
theorem zkV {d:DfaT} (hok:zd d) (hof:d.of.length=256) {m:Nat} (h:(zm d m).length≤m) {i:Nat} (hi:i< (zm d m).length) (u:List UInt8):zdB (zU d (zm d m)) (i:Nat) u=((zm d m)[i]).getD (zaI d u.reverse).toNat 0:=by
 obtain⟨n,hn,e1,e2⟩:=zty hok hof h hi u
 have hk1:=hok.1
 have hk3:=hok.2.2.1
 unfold zdB
 have hl:(zU d (zm d m)).label.length=(zm d m).length:=List.length_map _
 rw[e1,zQ (by rw[hl];exact hn)]
 have g2:(zU d (zm d m)).label[n]'(by rw[hl];exact hn)=((zm d m)[n]).headD 0:=by
  have hlx:(zU d (zm d m)).label=(zm d m).map fun f=>f.headD 0:=rfl
  simp only[hlx,List.getElem_map]
 have hb:=zwR hok hof (zm d m)[i] u (s:=0) Ko
 have: ∀f:List Int,f.headD 0=f.getD 0 0:=fun f=>by cases f <;> rfl
 rw[g2,e2,this,hb]
 rfl
theorem zrs {d:DfaT} (hok:zd d) (hof:d.of.length=256) (hr:zK d=zN d.label.length) {m:Nat} (h:(zm d m).length≤m):zdq (zU d (zm d m)):=fun i j hi hj hw=>by
 have hl:(zU d (zm d m)).label.length=(zm d m).length:=List.length_map _
 rw[hl] at hi hj
 have hk3:=hok.2.2.1
 have li:=zig hok m _ (List.getElem_mem hi)
 have lj:=zig hok m _ (List.getElem_mem hj)
 have e:(zm d m)[i]=(zm d m)[j]:=by
  refine List.ext_getElem Ko fun p h1 h2=>?_
  obtain⟨w,hw2⟩:=zkR hok hof hr (s:=p) Ko
  have:=hw w.reverse
  rw[zkV hok hof h hi,zkV hok hof h hj,List.reverse_reverse,hw2,Int.toNat_natCast,List.getD_eq_getElem?_getD,List.getD_eq_getElem?_getD,List.getElem?_eq_getElem h1,List.getElem?_eq_getElem h2] at this
  exact this
 exact(List.getElem_inj (zgp d m)).1 e
theorem zmb (d:DfaT) (ls:List (List Int)):(zU d ls).label.length=ls.length:=List.length_map _
theorem zev (d:DfaT) (ls:List (List Int)):(zU d ls).of=d.of∧(zU d ls).names=d.names:=⟨rfl,rfl⟩
theorem ztz {d:DfaT} (hok:zd d) (hof:d.of.length=256) {m:Nat} (hm:m≤65536) (h:(zm (zr d) m).length≤m) {R1 R2:DfaT} (e1:R1=zU (zr d) (zm (zr d) m)) (h2:(zm R1 65536).length≤65536) (e2:R2=zU R1 (zm R1 65536)):zge R2=zcH d:=by
 have htk:zd (zr d):=zcE hok (za1 hok)
 have htf:(zr d).of.length=256:=hof
 have hR1:zd R1:=by rw[e1];exact zgq htk htf hm h
 have hf1:R1.of.length=256:=by rw[e1,(zev _ _).1];exact hof
 have hR2:zd R2:=by rw[e2];exact zgq hR1 hf1 (m:=65536) Ko h2
 have hf2:R2.of.length=256:=by rw[e2,(zev _ _).1];exact hf1
 have hl1:R1.label.length=(zm (zr d) m).length:=by rw[e1,zmb]
 have hl2:R2.label.length=(zm R1 65536).length:=by rw[e2,zmb]
 have hr1:zK R1=zN R1.label.length:=by rw[hl1,e1];exact zkU h
 have hr2:zK R2=zN R2.label.length:=by rw[hl2,e2];exact zkU h2
 have ha:zdq R2:=by rw[e2];exact zrs hR1 hf1 hr1 h2
 have ht: ∀w,zac R2 w=zac d w:=fun w=>by
  have g1:=zlI hR1 hf1 (m:=65536) Ko h2 w.reverse
  have g2:=zlI htk htf hm h w
  rw[←e2,List.reverse_reverse] at g1
  rw[←e1] at g2
  rw[g1,g2]
  exact zis hok hof (za1 hok) w
 exact zrq hok hof hR2 (by rw[e2,(zev _ _).1,e1,(zev _ _).1];rfl) (by rw[e2,(zev _ _).2,e1,(zev _ _).2];rfl) hr2 ha ht
end Go.Proofs.YtefkpedhbijhkaaGreatDoor
namespace Go.Proofs.YtefkpedhbijhkaaGreatDoor
open Go Go.V Go.Proofs
abbrev zew:=DfaT→DfaT×Int
structure StepV (G:za) (f:Value) (act:zew):Prop where
 shape: ∃k a c,f= .func (.func k) a c
 small: ∀d,d.of.length=256→zt d→zt (act d).1
 run: ∀ {G1:za} {H:zb} {R:Value→za→zb→Prop} {d:DfaT} {v:Value},PLe G G1→zt d→IsD G1 d v→(∀G' v',PLe G1 G'→Sep G' (zk H)→IsD G' (act d).1 v'→R (.tuple #[v', .int .i64 (act d).2]) G' H)→ziR Tryz.prog f [v] G1 H R
theorem StepV.mono {G G':za} {f:Value} {act:zew} (h:StepV G f act) (hle:PLe G G'):StepV G' f act:=⟨h.shape,h.small,fun h1=>h.run (hle.trans h1)⟩
def zdC (a b:zew):zew:=fun d=>if (a d).2=0 then b (a d).1 else(zal,(a d).2)
theorem zdP {a b:zew} {d:DfaT} (h:(a d).2=0):zdC a b d=b (a d).1:=by unfold zdC;rw[if_pos h]
theorem ziG {a b:zew} {d:DfaT} (h: ¬(a d).2=0):zdC a b d=(zal,(a d).2):=by unfold zdC;rw[if_neg h]
theorem zwS {G:za} {s t:Value} {a b:zew} {b2 b3:Nat} (hs:StepV G s a) (ht:StepV G t b) (h2:Row G (some ⟨b2,0,none⟩) [s]) (h3:Row G (some ⟨b3,0,none⟩) [t]) (ha: ∀d,d.of.length=256→(a d).1.of.length=256):
  StepV G (.func (.func 91) #[] #[.pointer (some ⟨b2,0,none⟩), .pointer (some ⟨b3,0,none⟩)]) (zdC a b):=by
 refine⟨⟨_,_,_,rfl⟩,fun d hd hsm=>?_,fun{G1 H R d v} hle hsm hv hR=>?_⟩
 ·by_cases h:(a d).2=0
  ·rw[zdP h];exact ht.small _ (ha d hd) (hs.small d hd hsm)
  ·rw[ziG h];exact zcc
 ·obtain⟨k1,a1,c1,rfl⟩:=hs.shape
  obtain⟨k2,a2,c2,rfl⟩:=ht.shape
  show FnT Tryz.prog 91 [v, .pointer (some ⟨b2,0,none⟩), .pointer (some ⟨b3,0,none⟩)] G1 H R
  obtain⟨C,an,al,ay,cn,cl,cs,rs,rfl,O⟩:=hv.opened
  have hCl:=O.len
  have hCa:=O.all
  have e2: ∀ {G2:za},PLe G1 G2→ ∀ (H:zb) (k:Value→Prop),zeZ G2 H b2 (G2 b2) 0 k=k (.func (.func k1) a1 c1):=fun hl H k=>Row.obj0 (h2.mono (hle.trans hl)) (by simp) H k
  have e3: ∀ {G2:za},PLe G1 G2→ ∀ (H:zb) (k:Value→Prop),zeZ G2 H b3 (G2 b3) 0 k=k (.func (.func k2) a2 c2):=fun hl H k=>Row.obj0 (h3.mono (hle.trans hl)) (by simp) H k
  have e21:=e2 (PLe.refl _)
  refine FnT.sep ?_
  refine FnT.body tok [0,1,2,3,4,5,6,7,15] Tryz.func91 rfl Kk Kk (by show _≤23;simp) fun hsep=>?_
  rw[Tryz.results91]
  have hE:=hsep
  try simp only[zzs] at hE
  repeat(obtain⟨hx',hE⟩:=hE)
  repeat' first
   |with_reducible first|refine Nx.go ?_ |refine Bk.go (fun _=>?_) fun _=>?_ |refine Nb fun nb hnb hnb1 hnb2=>?_ |refine Nr fun nb nsp ncap hnb hncap hnb1 hnb2=>?_
   |simp -dsimp -implicitDefEqProofs (disch:=first|exact Kd|fail) only[go_sem,↓reduceIte,seval, -List.reduceReplicate,List.toList_toArray,hCl,hCa,e21]
  obtain⟨b5,e50⟩: ∃x,x=nb:=⟨_,rfl⟩
  subst e50
  refine hs.run hle hsm O.is fun G2 v2 hle2 hs2 hI2=>?_
  obtain⟨C2,an2,al2,ay2,cn2,cl2,cs2,rs2,rfl,O2⟩:=hI2.opened
  have hC2l:=O2.len
  have hone2:=zel O2.is
  have hput2:=zem hC2l
  have htk2:List.take 260 C2=C2:=List.take_of_length_le Ko
  have e32:=e3 hle2
  have hE:=hs2
  try simp only[zzs] at hE
  repeat(obtain⟨hx',hE⟩:=hE)
  by_cases h:(a d).2=0
  ·rw[zdP h] at hR
   rw[h]
   repeat' first
    |with_reducible first|refine Nx.go ?_ |refine Bk.go (fun _=>?_) fun _=>?_ |refine Nb fun nb hnb hnb1 hnb2=>?_ |refine Nr fun nb nsp ncap hnb hncap hnb1 hnb2=>?_
    |simp -dsimp -implicitDefEqProofs (disch:=first|exact Kd|fail) only[go_sem,↓reduceIte,seval, -List.reduceReplicate,List.toList_toArray,hCl,hCa,hC2l,hone2,hput2,htk2,zn,e32]
   obtain⟨b6,e60⟩: ∃x,x=nb:=⟨_,rfl⟩
   subst e60
   refine ht.run (hle.trans hle2) (hs.small d O.ofl hsm) O2.is fun G3 v3 hle3 hs3 hI3=>?_
   obtain⟨C3,an3,al3,ay3,cn3,cl3,cs3,rs3,rfl,O3⟩:=hI3.opened
   have hC3l:=O3.len
   have hone3:=zel O3.is
   have hput3:=zem hC3l
   have htk3:List.take 260 C3=C3:=List.take_of_length_le Ko
   have hE:=hs3
   try simp only[zzs] at hE
   repeat(obtain⟨hx',hE⟩:=hE)
   repeat' first
    |with_reducible first|refine Nx.go ?_ |refine Bk.go (fun _=>?_) fun _=>?_ |refine Nb fun nb hnb hnb1 hnb2=>?_ |refine Nr fun nb nsp ncap hnb hncap hnb1 hnb2=>?_
    |simp -dsimp -implicitDefEqProofs (disch:=first|exact Kd|fail) only[go_sem,↓reduceIte,seval, -List.reduceReplicate,List.toList_toArray,hC3l,hone3,hput3,htk3,zn]
   unfold zz
   refine Upd.leave (H':=H) Ks ?_
   exact fun _ hs=>hR G3 _ (hle2.trans hle3) hs O3.is
  ·rw[ziG h] at hR
   repeat' first
    |with_reducible first|refine Nx.go ?_ |refine Bk.go (fun _=>?_) fun _=>?_ |refine Nb fun nb hnb hnb1 hnb2=>?_ |refine Nr fun nb nsp ncap hnb hncap hnb1 hnb2=>?_
    |simp -dsimp -implicitDefEqProofs (disch:=first|exact Kd|fail) only[go_sem,↓reduceIte,seval, -List.reduceReplicate,List.toList_toArray,hCl,hCa,hC2l,hone2,hput2,htk2,zn,zag,zan,zaA]
   all_goals try(exfalso;exact h Ka)
   unfold zz
   refine Upd.leave (H':=H) Ks ?_
   exact fun _ hs=>hR G2 _ hle2 hs (zaR _)
theorem zxH {G:za} {H:zb} {R:Value→za→zb→Prop} {s t:Value} {a b:zew} (hs:StepV G s a) (ht:StepV G t b) (ha: ∀d,d.of.length=256→(a d).1.of.length=256)
  (hR: ∀G' f,PLe G G'→Sep G' (zk H)→StepV G' f (zdC a b)→R f G' H):FnT Tryz.prog 61 [s,t] G H R:=by
 obtain⟨k1,a1,c1,rfl⟩:=hs.shape
 obtain⟨k2,a2,c2,rfl⟩:=ht.shape
 refine FnT.sep ?_
 refine FnT.body tok [0,1,2,3,4] Tryz.func61 rfl Kk Kk (by show _≤6;simp) fun hsep=>?_
 rw[Tryz.results61]
 have hE:=hsep
 try simp only[zzs] at hE
 repeat(obtain⟨hx',hE⟩:=hE)
 repeat' first
  |with_reducible first|refine Nx.go ?_ |refine Bk.go (fun _=>?_) fun _=>?_ |refine Nb fun nb hnb hnb1 hnb2=>?_
  |simp -dsimp -implicitDefEqProofs (disch:=first|exact Kd|fail) only[go_sem,↓reduceIte,seval]
 rename_i b2 h20 h21 h22
 obtain⟨b3,e3⟩: ∃x,x=nb:=⟨_,rfl⟩
 subst e3
 unfold zz
 refine Upd.go (H':=(b3, .cells [.func (.func k2) a2 c2] [] 49):: (b2, .cells [.func (.func k1) a1 c1] [] 49)::H) Ks ?_
 refine Upd.trans (Upd.shareRow Ka fun G5 hle5 hs9 hr5=>?_)
 refine Upd.shareRow hs9.1.1 fun G6 hle6 hs10 hr6=>?_
 exact fun _ _=>hR G6 _ (hle5.trans hle6) hs10 (zwS (hs.mono (hle5.trans hle6)) (ht.mono (hle5.trans hle6)) hr6 (hr5.mono hle6) ha)
def chA (ac:Nat→zew):Nat→zew
 |0=>ac 0
 |i+1=>zdC (chA ac i) (ac (i+1))
theorem ztA {ac:Nat→zew} (h: ∀i d,d.of.length=256→(ac i d).1.of.length=256): ∀ (i:Nat) (d:DfaT),d.of.length=256→(chA ac i d).1.of.length=256
 |0,d,hd=>h 0 d hd
 |i+1,d,hd=>by
  have ih:=ztA h i d hd
  show(zdC (chA ac i) (ac (i+1)) d).1.of.length=256
  by_cases e:(chA ac i d).2=0
  ·rw[zdP e];exact h _ _ ih
  ·rw[ziG e];exact List.length_replicate
theorem zwT {G:za} {H:zb} {R:Value→za→zb→Prop} {f0 f1 f2 f3 f4:Value} {b:Nat} {ac:Nat→zew} (h0:StepV G f0 (ac 0)) (h1:StepV G f1 (ac 1)) (h2:StepV G f2 (ac 2)) (h3:StepV G f3 (ac 3)) (h4:StepV G f4 (ac 4)) (ha: ∀i d,d.of.length=256→(ac i d).1.of.length=256)
  (hR: ∀G' f,PLe G G'→Sep G' (zk ((b, .cells [f0,f1,f2,f3,f4] [] 49)::H))→StepV G' f (chA ac 4)→R f G' ((b, .cells [f0,f1,f2,f3,f4] [] 49)::H)):
  FnT Tryz.prog 33 [.slice (some ⟨b,0,none⟩) 5 5] G ((b, .cells [f0,f1,f2,f3,f4] [] 49)::H) R:=by
 refine FnT.sep ?_
 refine FnT.body tok [0,2,3,4,6,11,12,13,14] Tryz.func33 rfl Kk Kk (by show _≤23;simp) fun hsep=>?_
 rw[Tryz.results33]
 have hE:=hsep
 try simp only[zzs] at hE
 repeat(obtain⟨hx',hE⟩:=hE)
 repeat' first
  |with_reducible first|refine Nx.go ?_ |refine Bk.go (fun _=>?_) fun _=>?_ |refine Nb fun nb hnb hnb1 hnb2=>?_
  |simp -dsimp -implicitDefEqProofs (disch:=first|exact Kd|fail) only[go_sem,↓reduceIte,seval]
 refine Tri.loopU tok [0,2,3,4,6,11,12,13,14] Kk [3,4,11,12,13] (fun q G' fr H'=> ∃ (i:Nat) (al:Value),i+q=4∧PLe G G'∧StepV G' al (chA ac i)∧H'=(b, .cells [f0,f1,f2,f3,f4] [] 49)::H∧fr=[(3, .func (.func 61) #[] #[]),(4,al),(11, .slice (some ⟨b,1,none⟩) 4 4),(12, .int .i64 4),(13, .int .i64 (i:Nat))]) (4) ?_ ?_
 ·exact Upd.now ⟨0,f0,by omega,PLe.refl _,h0,rfl,rfl⟩
 ·rintro q G1 fr H1 hle1 hs1 ⟨i,al,hiq,hle,hal,rfl,rfl⟩
  have hE:=hs1
  try simp only[zzs] at hE
  repeat(obtain⟨hx',hE⟩:=hE)
  by_cases hi:i<4
  ·have nxt: ∃f,StepV G1 f (ac (i+1))∧[f0,f1,f2,f3,f4][1+i]? =some f:=by
    match i,hi with
    |0,_=>exact⟨f1,h1.mono hle,rfl⟩
    |1,_=>exact⟨f2,h2.mono hle,rfl⟩
    |2,_=>exact⟨f3,h3.mono hle,rfl⟩
    |3,_=>exact⟨f4,h4.mono hle,rfl⟩
   obtain⟨f,hf,hg⟩:=nxt
   repeat' first
    |with_reducible first|refine Nx.go ?_ |refine Bk.go (fun _=>?_) fun _=>?_ |refine Nb fun nb hnb hnb1 hnb2=>?_
    |simp -dsimp -implicitDefEqProofs (disch:=first|exact Kd|fail) only[go_sem,↓reduceIte,seval,hg]
   all_goals try(exfalso;omega)
   refine zxH hal hf (ztA ha i) fun G2 g hle2 hs2 hstep=>?_
   have hE:=hs2
   try simp only[zzs] at hE
   repeat(obtain⟨hx',hE⟩:=hE)
   repeat' first
    |with_reducible first|refine Nx.go ?_ |refine Bk.go (fun _=>?_) fun _=>?_ |refine Nb fun nb hnb hnb1 hnb2=>?_
    |simp -dsimp -implicitDefEqProofs (disch:=first|exact Kd|fail) only[go_sem,↓reduceIte,seval]
   exact Upd.now ⟨q - 1,by omega,i+1,g,by omega,hle.trans hle2,hstep,rfl,rfl⟩
  ·obtain rfl:i=4:=by omega
   repeat' first
    |with_reducible first|refine Nx.go ?_ |refine Bk.go (fun _=>?_) fun _=>?_ |refine Nb fun nb hnb hnb1 hnb2=>?_
    |simp -dsimp -implicitDefEqProofs (disch:=first|exact Kd|fail) only[go_sem,↓reduceIte,seval]
   all_goals try(exfalso;omega)
   unfold zz
   exact Upd.now fun hle' hs'=>hR G1 _ hle hs' hal
noncomputable def acD:Nat→zew
 |1=>zeE
 |2=>zap
 |3=>zc7
 |_=>zd5
noncomputable def zkW (d:DfaT):DfaT×Int:=chA acD 4 d
theorem ztB {d:DfaT} (hok:zd d) (hof:d.of.length=256):zkW d=(zcH d,0):=by
 have hT:=zb5 hok
 have hN:=zfk hT
 have hS:=(zeV hN).1
 have hS0:=(zeV hN).2.1
 have e0:chA acD 0 d=(zr d,0):=zc4 hok
 have e1:chA acD 1 d=(zdk (zr d),0):=by
  show zdC (chA acD 0) zeE d=_
  rw[zdP (by rw[e0]),e0]
  exact zd3 hT
 have e2:chA acD 2 d=((zap (zdk (zr d))).1,0):=by
  show zdC (chA acD 1) zap d=_
  rw[zdP (by rw[e1]),e1,←hS0]
 have e3:chA acD 3 d=(zT (zap (zdk (zr d))).1,0):=by
  show zdC (chA acD 2) zc7 d=_
  rw[zdP (by rw[e2]),e2]
  exact zeT hS
 show zdC (chA acD 3) zd5 d=_
 rw[zdP (by rw[e3]),e3]
 exact zc4 (zgA hS (by rw[(zfT hN).1];exact hof))
theorem zvB (d:DfaT) (h:d.of.length=256):(zeE d).1.of.length=256:=by
 by_cases hok:zd d
 ·rw[zd3 hok];exact h
 ·unfold zeE;rw[zkA hok];exact List.length_replicate
theorem zn2 (d:DfaT) (h:d.of.length=256):(zd5 d).1.of.length=256:=by
 by_cases hok:zd d
 ·rw[zc4 hok];exact h
 ·rw[ziq hok];exact List.length_replicate
theorem ztC (d:DfaT) (h:d.of.length=256):(zap d).1.of.length=256:=by
 by_cases hok:zd d
 ·rw[(zfT hok).1];exact h
 ·rw[zhF hok];exact List.length_replicate
theorem ztD (d:DfaT) (h:d.of.length=256):(zc7 d).1.of.length=256:=by
 by_cases hok:zd d
 ·rw[zeT hok];exact zs4 h
 ·rw[zht hok];exact List.length_replicate
theorem zxI: ∀ (i:Nat) (d:DfaT),d.of.length=256→(acD i d).1.of.length=256
 |0,d,h=>zn2 d h
 |1,d,h=>zvB d h
 |2,d,h=>ztC d h
 |3,d,h=>ztD d h
 |_+4,d,h=>zn2 d h
theorem zo5 (d:DfaT) (hsm:zt d):zt (zd5 d).1:=by
 by_cases hok:zd d
 ·rw[zc4 hok];exact zb2 hsm hok
 ·rw[ziq hok];exact zcc
theorem zxJ {d:DfaT} (hsm:zt d) {m:List Int} (h:zbb d m):zt (ofD d m):=by
 obtain⟨h1,h2,h3,h4,h5⟩:=hsm
 obtain⟨hok,hml,_⟩:=id h
 have hl:=zfN d m
 have ht:=zam m
 have hr:=zjI h
 have h6:=hok.2.1
 have h7:=hr.2.2.1
 refine⟨by omega,fun r hr=>?_,by omega,h4,h5⟩
 obtain⟨s,hs,rfl⟩:=List.mem_map.1 (show r∈(zw m).map (fun s=>zdH d m s.toNat) from hr)
 unfold zdH
 rw[List.length_map,List.getD_eq_getElem?_getD]
 cases hg:d.next[s.toNat]? with
 |none=>exact Nat.zero_le _
 |some r=>exact h2 _ (List.mem_of_getElem? hg)
theorem ziH (d:DfaT) (hsm:zt d):zt (zap d).1:=by
 by_cases hok:zd d
 ·rw[zc8 hok];exact zxJ (zb2 hsm hok) (zdj (zb5 hok))
 ·rw[zhF hok];exact zcc
theorem zn3 (d:DfaT) (h:d.of.length=256) (hsm:zt d):zt (zc7 d).1:=by
 by_cases hok:zd d
 ·rw[zeT hok];exact zfP h hsm
 ·rw[zht hok];exact zcc
theorem zn4 {d:DfaT} (hok:zd d) (hof:d.of.length=256) (hsm:zt d):zt (zcH d):=by
 have hT:=zb5 hok
 have hN:=zfk hT
 have hS:=(zeV hN).1
 have hSf:(zap (zdk (zr d))).1.of.length=256:=by rw[(zfT hN).1];exact hof
 have h1:=zgx (zb2 hsm hok)
 rw[zd3 hT] at h1
 exact zb2 (zfP hSf (ziH _ h1)) (zgA hS hSf)
theorem zvL (G:za):StepV G (.func (.func 14) #[] #[]) zd5:=⟨⟨_,_,_,rfl⟩,fun d _ h=>zo5 d h,fun _ hsm hv hR=>ziu hsm hv hR⟩
theorem zyG (G:za):StepV G (.func (.func 26) #[] #[]) zeE:=⟨⟨_,_,_,rfl⟩,fun d _ h=>zgx h,fun _ hsm hv hR=>zpu hsm hv hR⟩
theorem zxK (G:za):StepV G (.func (.func 34) #[] #[]) zap:=⟨⟨_,_,_,rfl⟩,fun d _ h=>ziH d h,fun _ hsm hv hR=>zwQ hsm hv hR⟩
theorem zxL {G:za} (hg:zb3 G):StepV G (.func (.func 27) #[] #[]) zc7:=⟨⟨_,_,_,rfl⟩,zn3,fun hle hsm hv hR=>zpx hsm (hg.mono hle) hv hR⟩
theorem zwU {d:DfaT} (hsm:zt d) {G:za} {H:zb} {R:Value→za→zb→Prop} {v:Value} (hg:zb3 G) (hv:IsD G d v)
  (hR: ∀G' v',PLe G G'→Sep G' (zk H)→IsD G' (zkW d).1 v'→R (.tuple #[v', .int .i64 (zkW d).2]) G' H):FnT Tryz.prog 15 [v] G H R:=by
 obtain⟨C,an,al,ay,cn,cl,cs,rs,rfl,O⟩:=hv.opened
 have hCl:=O.len
 have hCa:=O.all
 refine FnT.sep ?_
 refine FnT.body tok [0,1,2,3] Tryz.func15 rfl Kk Kk (by show _≤10;simp) fun hsep=>?_
 rw[Tryz.results15]
 have hE:=hsep
 try simp only[zzs] at hE
 repeat(obtain⟨hx',hE⟩:=hE)
 have hr5: ∀v:Value,List.replicate 5 v=[v,v,v,v,v]:=fun _=>rfl
 repeat' first
  |with_reducible first|refine Nx.go ?_ |refine Bk.go (fun _=>?_) fun _=>?_ |refine Nb fun nb hnb hnb1 hnb2=>?_ |refine Nr fun nb nsp ncap hnb hncap hnb1 hnb2=>?_
  |simp -dsimp -implicitDefEqProofs (disch:=first|exact Kd|fail) only[go_sem,↓reduceIte,seval, -List.reduceReplicate,List.toList_toArray,hCl,hCa,hr5]
  |with_reducible refine Tri.drawH tok mixed [0,1,2,3] 1 [2] (.op 2 .held (.op 0 .keeps (.op 1 .keeps (.op 3 .plain (.op 4 .plain (.op 5 .plain (.op 6 .plain (.op 7 .plain .nil)))))))) Kk [1] ?_
 rename_i b1 h10 h11 h12 b2 h20 h21 h22
 obtain⟨b4,e40⟩: ∃x,x=nb:=⟨_,rfl⟩
 subst e40
 refine zwT (zvL G) (zyG G) (zxK G) (zxL hg) (zvL G) zxI fun G2 f hle2 hs2 hf=>?_
 have O2:=O.mono hle2
 obtain⟨kf,af,cf,rfl⟩:=hf.shape
 have hE:=hs2
 try simp only[zzs] at hE
 repeat(obtain⟨hx',hE⟩:=hE)
 repeat' first
  |with_reducible first|refine Nx.go ?_ |refine Bk.go (fun _=>?_) fun _=>?_ |refine Nb fun nb hnb hnb1 hnb2=>?_ |refine Nr fun nb nsp ncap hnb hncap hnb1 hnb2=>?_
  |with_reducible refine Tri.drawH tok mixed [0,1,2,3] 1 [2] (.op 2 .held (.op 0 .keeps (.op 1 .keeps (.op 3 .plain (.op 4 .plain (.op 5 .plain (.op 6 .plain (.op 7 .plain .nil)))))))) Kk [1] ?_
  |simp -dsimp -implicitDefEqProofs (disch:=first|exact Kd|fail) only[go_sem,↓reduceIte,seval, -List.reduceReplicate,List.toList_toArray,hCl,hCa]
 refine hf.run (PLe.refl _) hsm O2.is fun G3 v3 hle3 hs3 hI3=>?_
 have hI3:IsD G3 (zkW d).1 v3:=hI3
 obtain⟨C3,an3,al3,ay3,cn3,cl3,cs3,rs3,rfl,O3⟩:=hI3.opened
 have hC3l:=O3.len
 have hone3:=zel O3.is
 have hput3:=zem hC3l
 have htk3:List.take 260 C3=C3:=List.take_of_length_le Ko
 have hE:=hs3
 try simp only[zzs] at hE
 repeat(obtain⟨hx',hE⟩:=hE)
 repeat' first
  |with_reducible first|refine Nx.go ?_ |refine Bk.go (fun _=>?_) fun _=>?_ |refine Nb fun nb hnb hnb1 hnb2=>?_ |refine Nr fun nb nsp ncap hnb hncap hnb1 hnb2=>?_
  |with_reducible refine Tri.drawH tok mixed [0,1,2,3] 1 [2] (.op 2 .held (.op 0 .keeps (.op 1 .keeps (.op 3 .plain (.op 4 .plain (.op 5 .plain (.op 6 .plain (.op 7 .plain .nil)))))))) Kk [1] ?_
  |simp -dsimp -implicitDefEqProofs (disch:=first|exact Kd|fail) only[go_sem,↓reduceIte,seval, -List.reduceReplicate,List.toList_toArray,hCl,hCa,hC3l,hone3,hput3,htk3,zn]
 unfold zz
 refine Upd.leave (H':=H) Ks ?_
 exact fun _ hs=>hR G3 _ (hle2.trans hle3) hs O3.is
end Go.Proofs.YtefkpedhbijhkaaGreatDoor
namespace Go.Proofs.YtefkpedhbijhkaaGreatDoor
open Go Go.V Go.Proofs
theorem ztE {d:DfaT} (hok:zd d) {m:Nat} (h:(zm d m).length≤m) {k:Nat} (hk:d.label.length≤k):(zV (zU d (zm d m)) k).2=true:=by
 have:=zma hok h k
 unfold zV
 rw[if_pos Ko]
theorem zxM {d:DfaT} (hok:zd d) (hof:d.of.length=256) (hsm:zt d) (ht:(zV (zr d) 500).2=true): ∃r1,zao (zr d) 500=(r1,0)∧zeo d 500=(zcH d,0)∧zt r1∧(zao r1 ((zr d).label.length:Nat)).2=0:=by
 have hN:(500 :Int).toNat=500:=rfl
 have hN6:(65536 :Int).toNat=65536:=rfl
 have h5:(1 :Int)≤500∧(500 :Int)≤65536:=by decide
 have htk:=zb5 hok
 have hts:=zb2 hsm hok
 have he:zao (zr d) 500=((zV (zr d) 500).1,0):=by
  have h:=zej (most:=500) htk h5 (by rw[hN];exact ht)
  rw[hN] at h
  exact h
 obtain⟨hl,ht1,hr2,hs2',hof2⟩:=zhu htk hof hts (show 500≤65536 by omega) ht
 have hf:=zrr htk ht
 have hrv:(zao (zV (zr d) 500).1 ((zr d).label.length:Nat)).2=0:=by
  have hf2:(zV (zV (zr d) 500).1 (zr d).label.length).2=true:=by rw[ht1];exact ztE htk hl (Nat.le_refl _)
  have h1:=htk.1
  have h2:=htk.2.1
  have:=zej (most:=((zr d).label.length:Nat)) hr2 Ko (by rw[Int.toNat_natCast];exact hf2)
  rw[this]
 obtain⟨X,hX⟩: ∃X,X=(zV (zr d) 500).1:=⟨_,rfl⟩
 rw[←hX] at he ht1 hr2 hs2' hof2 hf hrv
 obtain⟨M,hM⟩: ∃M:Nat,M=65536:=⟨_,rfl⟩
 have hcan: ∀Z,(zV X M).1=Z→zge Z=zcH d:=fun Z hZ=>by
  obtain⟨hl2,ht2,_,_,_⟩:=zhu hr2 hof2 hs2' (m:=M) Ko (by rw[hM];exact hf)
  subst hM
  exact ztz hok hof (show 500≤65536 by omega) hl ht1 hl2 (hZ▸ht2)
 have hrv2:=zej (most:=65536) hr2 (by decide) (by rw[hN6];exact hf)
 rw[hN6,←hM] at hrv2
 have he1:(zao (zr d) 500).1=X:=by rw[he]
 refine⟨X,he,?_,hs2',hrv⟩
 rw[zlm (zeS hok h5) (by rw[he]) (by rw[he1,hrv2]),he1,hrv2]
 show(zge (zV X M).1,0)=_
 rw[hcan _ rfl]
set_option maxRecDepth 8000 in
theorem zyH {d:DfaT} (hsm:zt d) (hok:zd d) {G:za} {H:zb} {R:Value→za→zb→Prop} (hg:zb3 G) {C CT CR CX:List Value} (I1:IsD G d (.agg C.toArray)) (I3:IsD G (zr d) (.agg CT.toArray)) {r1:DfaT} (hrs:zt r1) (I5:IsD G r1 (.agg CR.toArray)) (I7:IsD G (zcH d) (.agg CX.toArray)) (hrev:(zao r1 ((zr d).label.length:Nat)).2=0) {b1 b3 b5 b7:Nat}
  (hR: ∀G',PLe G G'→R (.bool true) G' H):
  Tri Tryz.prog Tryz.f5.ntmps (piece [1,1,1,1,1,1,1] Tryz.f5) G [(1, .pointer (some ⟨b1,0,none⟩)),(3, .pointer (some ⟨b3,0,none⟩)),(5, .pointer (some ⟨b5,0,none⟩)),(7, .pointer (some ⟨b7,0,none⟩))] ((b7, .cells CX [] 27):: (b5, .cells CR [] 27):: (b3, .cells CT [] 27):: (b1, .cells C [] 27)::H) (zh3 T #[Go.ResultVar.tmp 2].toList (zz R) .mk):=by
 obtain⟨_,an1,al1,ay1,cn1,cl1,cs1,rs1,e1,O1⟩:=I1.opened
 obtain rfl:C=_:=by simpa using e1
 obtain⟨_,an3,al3,ay3,cn3,cl3,cs3,rs3,e3,O3⟩:=I3.opened
 obtain rfl:CT=_:=by simpa using e3
 obtain⟨_,an5,al5,ay5,cn5,cl5,cs5,rs5,e5,O5⟩:=I5.opened
 obtain rfl:CR=_:=by simpa using e5
 obtain⟨_,an7,al7,ay7,cn7,cl7,cs7,rs7,e7,O7⟩:=I7.opened
 obtain rfl:CX=_:=by simpa using e7
 have h1l:=O1.len
 have h3l:=O3.len
 have h5l:=O5.len
 have h7l:=O7.len
 have h3x:=O3.l
 have t1:List.take 260 C=C:=List.take_of_length_le Ko
 have t3:List.take 260 CT=CT:=List.take_of_length_le Ko
 have t5:List.take 260 CR=CR:=List.take_of_length_le Ko
 have t7:List.take 260 CX=CX:=List.take_of_length_le Ko
 have hn:=(zb5 hok).2.1
 refine Tri.sepT fun hs0=>?_
 have hE:=hs0
 try simp only[zzs] at hE
 repeat(obtain⟨hx',hE⟩:=hE)
 refine Tri.piece (f:=Tryz.f5) rfl ?_
 refine Tri.run tok [0,1,2,3,5,6,7,8,9,10,12,15,34,36] Kk ?_
 repeat' first
  |with_reducible first|refine Nx.go ?_ |refine Bk.go (fun _=>?_) fun _=>?_ |refine Nb fun nb hnb hnb1 hnb2=>?_
  |simp -dsimp -implicitDefEqProofs (disch:=first|exact Kd|fail) only[go_sem,↓reduceIte,seval, -List.reduceReplicate,List.toList_toArray,h1l,t1]
 refine zwU hsm hg O1.is fun G2 v2 hle2 hs2 hI2=>?_
 rw[ztB hok O1.ofl] at hI2⊢
 have hI2:IsD G2 (zcH d) v2:=hI2
 obtain⟨C2,an2,al2,ay2,cn2,cl2,cs2,rs2,rfl,O2⟩:=hI2.opened
 have hC2l:=O2.len
 have hone2:=zaW O2.is
 have hput2:=zbj hC2l
 have htk2:List.take 260 C2=C2:=List.take_of_length_le Ko
 have hE:=hs2
 try simp only[zzs] at hE
 repeat(obtain⟨hx',hE⟩:=hE)
 repeat' first
  |with_reducible first|refine Nx.go ?_ |refine Bk.go (fun _=>?_) fun _=>?_ |refine Nb fun nb hnb hnb1 hnb2=>?_
  |simp -dsimp -implicitDefEqProofs (disch:=first|exact Kd|fail) only[go_sem,↓reduceIte,seval, -List.reduceReplicate,List.toList_toArray,hC2l,hone2,hput2,htk2,h5l,t5,h3l,h3x,zn]
 obtain⟨b9,e9⟩: ∃x,x=nb:=⟨_,rfl⟩
 subst e9
 refine zkB hrs Ko (O5.is.mono hle2) fun G3 v3 hle3 hs3 hI3=>?_
 rw[hrev]
 obtain⟨C3,an3',al3',ay3',cn3',cl3',cs3',rs3',rfl,O3'⟩:=hI3.opened
 have hC3l:=O3'.len
 have hone3:=zaW O3'.is
 have hput3:=zbj hC3l
 have htk3:List.take 260 C3=C3:=List.take_of_length_le Ko
 have hss:zaE (zcH d=zcH d)=true:=zG rfl
 have hcs:=zn4 hok O1.ofl hsm
 have k7:=O7.is.mono (hle2.trans hle3)
 have k2:=O2.is.mono hle3
 have hg4:=hg.mono (hle2.trans hle3)
 have hE:=hs3
 try simp only[zzs] at hE
 repeat(obtain⟨hx',hE⟩:=hE)
 repeat' first
  |with_reducible first|refine Nx.go ?_ |refine Bk.go (fun _=>?_) fun _=>?_ |refine Nb fun nb hnb hnb1 hnb2=>?_
  |simp -dsimp -implicitDefEqProofs (disch:=first|exact Kd|fail) only[go_sem,↓reduceIte,seval, -List.reduceReplicate,List.toList_toArray,hC2l,hone2,hput2,htk2,h7l,t7,hC3l,hone3,hput3,htk3,zn]
  | ((with_reducible refine zpy hcs k7 k2 ?_);rw[hss])
  | ((with_reducible refine zln hg4 fun G7 hle7 hs7=>?_);(have hE:=hs7;try simp only[zzs] at hE;repeat(obtain⟨hx',hE⟩:=hE)))
 unfold zz
 refine Upd.leave (H':=H) Ks ?_
 exact hR G7 (hle2.trans (hle3.trans hle7))
set_option maxRecDepth 8000 in
theorem zo6 {d:DfaT} (hsm:zt d) {G:za} {H:zb} {R:Value→za→zb→Prop} {v:Value} (hg:zb3 G) (hv:IsD G d v)
  (hR: ∀G',PLe G G'→R (.bool true) G' H):FnT Tryz.prog 5 [v] G H R:=by
 obtain⟨C,an,al,ay,cn,cl,cs,rs,rfl,O⟩:=hv.opened
 have hCl:=O.len
 have hCa:=O.all
 cases hb24:ziW d 60 with
 |false=>
  refine FnT.body tok [0,1,2,3,5,6,7,8,9,10,12,15,34,36] Tryz.func5 rfl Kk Kk (by show _≤69;simp) fun hsep=>?_
  rw[Tryz.results5]
  have hE:=hsep
  try simp only[zzs] at hE
  repeat(obtain⟨hx',hE⟩:=hE)
  repeat' first
   |with_reducible first|refine Nx.go ?_ |refine Bk.go (fun _=>?_) fun _=>?_ |refine Nb fun nb hnb hnb1 hnb2=>?_
   |simp -dsimp -implicitDefEqProofs (disch:=first|exact Kd|fail) only[go_sem,↓reduceIte,seval, -List.reduceReplicate,List.toList_toArray,hCl,hCa]
  refine zlX hsm O.is fun G1 hle1 hs1=>?_
  rw[hb24]
  have hE:=hs1
  try simp only[zzs] at hE
  repeat(obtain⟨hx',hE⟩:=hE)
  have hg1:=hg.mono hle1
  repeat' first
   |with_reducible first|refine Nx.go ?_ |refine Bk.go (fun _=>?_) fun _=>?_ |refine Nb fun nb hnb hnb1 hnb2=>?_
   |simp -dsimp -implicitDefEqProofs (disch:=first|exact Kd|fail) only[go_sem,↓reduceIte,seval, -List.reduceReplicate,List.toList_toArray,hCl,hCa]
   | ((with_reducible refine zln hg1 fun G7 hle7 hs7=>?_);(have hE:=hs7;try simp only[zzs] at hE;repeat(obtain⟨hx',hE⟩:=hE)))
  all_goals refine Upd.finL ?_ (hR G7 (hle1.trans hle7)) ?_
  any_goals first|exact Ks|skip
  all_goals rfl
 |true=>
  obtain⟨hok,hn⟩:zd d∧(d.label.length:Int)≤60:=by
   unfold ziW at hb24
   rw[Bool.and_eq_true] at hb24
   refine⟨?_,of_decide_eq_true hb24.2⟩
   exact Classical.byContradiction fun h=>by rw[zB h] at hb24;cases hb24.1
  have hm:(-9223372036854775808 :Int)≤500∧(500 :Int) <9223372036854775808:=by decide
  have h5:(1 :Int)≤500∧(500 :Int)≤65536:=by decide
  have hN:(500 :Int).toNat=500:=rfl
  have htk:=zb5 hok
  have hts:=zb2 hsm hok
  refine FnT.bodyS tok [0,1,2,3,5,6,7,8,9,10,12,15,34,36] (.seq .run (.seq .run (.seq .run (.seq .run (.seq .run (.seq .run (.seq .run .cut))))))) Tryz.func5 rfl Kk Kk (by show _≤69;simp) fun hsep=>?_
  rw[Tryz.results5]
  have hE:=hsep
  try simp only[zzs] at hE
  repeat(obtain⟨hx',hE⟩:=hE)
  repeat' first
   |with_reducible first|refine Nx.go ?_ |refine Bk.go (fun _=>?_) fun _=>?_ |refine Nb fun nb hnb hnb1 hnb2=>?_
   |simp -dsimp -implicitDefEqProofs (disch:=first|exact Kd|fail) only[go_sem,↓reduceIte,seval, -List.reduceReplicate,List.toList_toArray,hCl,hCa]
  refine zlX hsm O.is fun G1 hle1 hs1=>?_
  rw[hb24]
  have hE:=hs1
  try simp only[zzs] at hE
  repeat(obtain⟨hx',hE⟩:=hE)
  repeat' first
   |with_reducible first|refine Nx.go ?_ |refine Bk.go (fun _=>?_) fun _=>?_ |refine Nb fun nb hnb hnb1 hnb2=>?_
   |simp -dsimp -implicitDefEqProofs (disch:=first|exact Kd|fail) only[go_sem,↓reduceIte,seval, -List.reduceReplicate,List.toList_toArray,hCl,hCa]
  obtain⟨b1,e10⟩: ∃x,x=nb:=⟨_,rfl⟩
  subst e10
  refine ziu hsm (O.is.mono hle1) fun G2 v2 hle2 hs2 hI2=>?_
  rw[zc4 hok] at hI2⊢
  have hI2:IsD G2 (zr d) v2:=hI2
  obtain⟨C2,an2,al2,ay2,cn2,cl2,cs2,rs2,rfl,O2⟩:=hI2.opened
  have hC2l:=O2.len
  have hone2:=zaW O2.is
  have hput2:=zbj hC2l
  have htk2:List.take 260 C2=C2:=List.take_of_length_le Ko
  have hE:=hs2
  try simp only[zzs] at hE
  repeat(obtain⟨hx',hE⟩:=hE)
  repeat' first
   |with_reducible first|refine Nx.go ?_ |refine Bk.go (fun _=>?_) fun _=>?_ |refine Nb fun nb hnb hnb1 hnb2=>?_
   |simp -dsimp -implicitDefEqProofs (disch:=first|exact Kd|fail) only[go_sem,↓reduceIte,seval, -List.reduceReplicate,List.toList_toArray,hCl,hCa,hC2l,hone2,hput2,htk2,zn]
  obtain⟨b3,e30⟩: ∃x,x=nb:=⟨_,rfl⟩
  subst e30
  refine zkB hts hm O2.is fun G3 v3 hle3 hs3 hI3=>?_
  have O3:=O.mono (hle1.trans (hle2.trans hle3))
  have hg3:=hg.mono (hle1.trans (hle2.trans hle3))
  cases ht:(zV (zr d) 500).2 with
  |false=>
   have he:zao (zr d) 500=(zal,7):=zjE htk h5 (by rw[hN];exact ht)
   have hbz:zeo d 500=(zal,7):=by rw[znI (zeS hok h5) (by rw[he];decide),he]
   rw[he] at hI3⊢
   obtain⟨C3,an3,al3,ay3,cn3,cl3,cs3,rs3,rfl,O3'⟩:=hI3.opened
   have hC3l:=O3'.len
   have hone3:=zaW O3'.is
   have hput3:=zbj hC3l
   have hE:=hs3
   try simp only[zzs] at hE
   repeat(obtain⟨hx',hE⟩:=hE)
   repeat' first
    |with_reducible first|refine Nx.go ?_ |refine Bk.go (fun _=>?_) fun _=>?_ |refine Nb fun nb hnb hnb1 hnb2=>?_
    |simp -dsimp -implicitDefEqProofs (disch:=first|exact Kd|fail) only[go_sem,↓reduceIte,seval, -List.reduceReplicate,List.toList_toArray,hCl,hCa,hC3l,hone3,hput3,zn]
   obtain⟨b5,e50⟩: ∃x,x=nb:=⟨_,rfl⟩
   subst e50
   refine zrg hsm hm hg3 O3.is fun G4 v4 hle4 hs4 hI4=>?_
   rw[hbz] at hI4⊢
   obtain⟨C4,an4,al4,ay4,cn4,cl4,cs4,rs4,rfl,O4⟩:=hI4.opened
   have hC4l:=O4.len
   have hone4:=zaW O4.is
   have hput4:=zbj hC4l
   have hg4:=hg3.mono hle4
   have hE:=hs4
   try simp only[zzs] at hE
   repeat(obtain⟨hx',hE⟩:=hE)
   repeat' first
    |with_reducible first|refine Nx.go ?_ |refine Bk.go (fun _=>?_) fun _=>?_ |refine Nb fun nb hnb hnb1 hnb2=>?_
    |simp -dsimp -implicitDefEqProofs (disch:=first|exact Kd|fail) only[go_sem,↓reduceIte,seval, -List.reduceReplicate,List.toList_toArray,hCl,hCa,hC4l,hone4,hput4,zn]
    | ((with_reducible refine zln hg4 fun G7 hle7 hs7=>?_);(have hE:=hs7;try simp only[zzs] at hE;repeat(obtain⟨hx',hE⟩:=hE)))
   all_goals refine Upd.finL ?_ (hR G7 (hle1.trans (hle2.trans (hle3.trans (hle4.trans hle7))))) ?_
   any_goals first|exact Ks|skip
   all_goals rfl
  |true=>
   obtain⟨r1,he,hbz,hs2',hrv⟩:=zxM hok O.ofl hsm ht
   rw[he] at hI3⊢
   have hI3:IsD G3 r1 v3:=hI3
   obtain⟨C3,an3,al3,ay3,cn3,cl3,cs3,rs3,rfl,O3'⟩:=hI3.opened
   have hC3l:=O3'.len
   have hone3:=zaW O3'.is
   have hput3:=zbj hC3l
   have htk3:List.take 260 C3=C3:=List.take_of_length_le Ko
   have hE:=hs3
   try simp only[zzs] at hE
   repeat(obtain⟨hx',hE⟩:=hE)
   repeat' first
    |with_reducible first|refine Nx.go ?_ |refine Bk.go (fun _=>?_) fun _=>?_ |refine Nb fun nb hnb hnb1 hnb2=>?_
    |simp -dsimp -implicitDefEqProofs (disch:=first|exact Kd|fail) only[go_sem,↓reduceIte,seval, -List.reduceReplicate,List.toList_toArray,hCl,hCa,hC2l,hC3l,hone3,hput3,htk3,zn]
   obtain⟨b5,e50⟩: ∃x,x=nb:=⟨_,rfl⟩
   subst e50
   refine zrg hsm hm hg3 O3.is fun G4 v4 hle4 hs4 hI4=>?_
   rw[hbz] at hI4⊢
   have hI4:IsD G4 (zcH d) v4:=hI4
   obtain⟨C4,an4,al4,ay4,cn4,cl4,cs4,rs4,rfl,O4⟩:=hI4.opened
   have hC4l:=O4.len
   have hone4:=zaW O4.is
   have hput4:=zbj hC4l
   have htk4:List.take 260 C4=C4:=List.take_of_length_le Ko
   have hE:=hs4
   try simp only[zzs] at hE
   repeat(obtain⟨hx',hE⟩:=hE)
   repeat' first
    |with_reducible first|refine Nx.go ?_ |refine Bk.go (fun _=>?_) fun _=>?_ |refine Nb fun nb hnb hnb1 hnb2=>?_
    |simp -dsimp -implicitDefEqProofs (disch:=first|exact Kd|fail) only[go_sem,↓reduceIte,seval, -List.reduceReplicate,List.toList_toArray,hCl,hCa,hC2l,hC3l,hC4l,hone4,hput4,htk4,zn]
   obtain⟨b7,e70⟩: ∃x,x=nb:=⟨_,rfl⟩
   subst e70
   refine Tri.live [1,3,5,7] ?_
   refine Tri.isPiece [1,1,1,1,1,1,1] Tryz.f5 Kk ?_
   exact zyH hsm hok (hg3.mono hle4) (O3.is.mono hle4) (O2.is.mono (hle3.trans hle4)) hs2' (O3'.is.mono hle4) O4.is hrv fun G' hle=>hR G' (hle1.trans (hle2.trans (hle3.trans (hle4.trans hle))))
end Go.Proofs.YtefkpedhbijhkaaGreatDoor
namespace Go.Proofs.YtefkpedhbijhkaaGreatDoor.lawBrzoTwice
open Go Go.V Go.Proofs Go.ChangeShapes Go.WideShapes Go.RowKit
theorem own:ownKnob Tryz.prog.godebug=none:=by kernel_rfl
theorem zxN:Tryz.prog.globalNamed "math/bits.deBruijn64tab" =some 0:=by kernel_rfl
theorem zvC:(Tryz.prog.globals[0]?).map (·.type)=some 170:=by kernel_rfl
theorem zxO:Tryz.prog.cellsOf 170=64:=by kernel_rfl
theorem zxP:Tryz.prog.cellsOf 5=1:=by kernel_rfl
def zxQ:List Int:=[0,1,56,2,57,49,28,3,61,58,42,50,38,29,17,4,62,47,59,36,45,43,51,22,53,39,33,30,24,18,12,5,63,55,48,27,60,41,37,16,46,35,44,21,52,32,23,11,54,26,40,15,34,20,31,10,25,14,19,9,13,8,7,6]
theorem zyI {W:World} (h:laidMetH Tryz.prog Rows.brzoTwiceUptoRow.laid W):Lib.TabIs Tryz.prog W "math/bits.deBruijn64tab" .u8 zxQ:=
 Lib.tabIs_of_head (rest:=[]) zxN zvC Tryz.underlying170 Tryz.underlying5 zxP zxO h
theorem zxR {W:World} (h:laidMetH Tryz.prog Rows.brzoTwiceUptoRow.laid W):zbw (fun b=>W.heap[b]?) 0 0 (zxQ.map (Value.int .u8)):=
 zbs.rowAt (W:=W) (fun j hj=>by
  rw[List.length_map] at hj
  have:=(zyI h).cell zxN j hj
  rw[Nat.zero_add,List.getElem_map,this]
  simp [List.getD,hj]) (by decide)
mutual
theorem bulk {H:Type}: ∀d:DataW H,zar d≤Rows.uptoBulk d
 | .lit l=>by cases l <;> simp [zar,Rows.uptoBulk]
 | .nil=>by simp [zar,Rows.uptoBulk]
 | .ptr d=>by have:=bulk d;simp only[zar,Rows.uptoBulk];omega
 | .slice elems spare=>by have:=bulks elems;have:=bulks spare;simp only[zar,Rows.uptoBulk];omega
 | .agg parts=>by have:=bulks parts;simp only[zar,Rows.uptoBulk];omega
 | .iface _ d=>by have:=bulk d;simp only[zar,Rows.uptoBulk];omega
 | .map entries=>by simp [zar]
 | .held _=>by simp [zar,Rows.uptoBulk]
theorem bulks {H:Type}: ∀l:List (DataW H),bulkVs l≤Rows.uptoBulkAll l
 | []=>by simp [bulkVs]
 |d::l=>by have:=bulk d;have:=bulks l;simp only[bulkVs,Rows.uptoBulkAll];omega
end
set_option maxRecDepth 100000 in
theorem contract (H:Type) (enc:TypeId×Value→H) (W:World) (base:Nat) (args:Array Value) (ds gs:List (DataW H)) (before:List MemPlace)
  (hval: ∀ (j:Nat) t v,Tryz.f5.params[j]? =some t→args[j]? =some v→Value.okWide Tryz.prog W .any base t v)
  (hW:DataW.Whole enc Tryz.prog Tryz.f5.params.toList Rows.brzoTwiceSpec.vars false W args.toList ds gs before) (hk:Rows.uptoSmall H (ds++gs)=true) (hL:laidMetH Tryz.prog Rows.brzoTwiceUptoRow.laid W):
  Calls Tryz.prog 5 args W fun e W'=> ∃v,e= .returned v∧Rows.brzoTwiceSpec.post enc Tryz.prog Tryz.f5 false true false false W args v W':=by
 refine zyN (tb:=4) seatok ⟨_,_,Tryz.func5,rfl,by kernel_rfl⟩ rfl Kk Tryz.underlying4 (fun t ht=>?_) (fun ds hd=>?_) hW ?_
 ·have:=List.all_eq_true.1 (show(Tryz.f5.params.toList.all fun t=>decide (t<Tryz.prog.types.size))=true by kernel_rfl) t ht
  simpa using this
 ·rw[Tryz.params5] at hd
  rcases ds with _| ⟨e0,_| ⟨e9,ds⟩⟩ <;> first|rfl| (simp at hd)
 obtain⟨p,q,hA,hV,rfl,hfz,hnd⟩:=hW
 rw[Tryz.params5] at hA hval
 obtain⟨v0,vs0,d0,ds0,p0,q0,hargs0,rfl,rfl,h0,r_0⟩:=trodAll_cons hA
 obtain⟨rfl,rfl,rfl⟩:=trodAll_nil r_0
 obtain rfl:args= #[v0]:=by cases args;simp_all
 obtain⟨rfl,rfl⟩:=trodVars_none hV
 have hb:bulkVs [d0]≤1048576:=Nat.le_trans (bulks _) (of_decide_eq_true hk)
 simp only[bulkVs] at hb
 have htab:=zxR hL
 obtain⟨a0,s0,w0⟩:=zw7 (hval 0 27 v0 rfl rfl) h0
 exact zo6 (w0 Ko) htab s0 fun _ _=>rfl
noncomputable def ziI (os:Os):World:=
 {World.holding Tryz.prog os ⟨#[], #[],[]⟩ with heap:=(World.holding Tryz.prog os ⟨#[], #[],[]⟩).heap.modify 0 fun
   | .cells _ t frozen=> .cells #[.int .u8 0, .int .u8 1, .int .u8 56, .int .u8 2, .int .u8 57, .int .u8 49, .int .u8 28, .int .u8 3, .int .u8 61, .int .u8 58, .int .u8 42, .int .u8 50, .int .u8 38, .int .u8 29, .int .u8 17, .int .u8 4, .int .u8 62, .int .u8 47, .int .u8 59, .int .u8 36, .int .u8 45, .int .u8 43, .int .u8 51, .int .u8 22, .int .u8 53, .int .u8 39, .int .u8 33, .int .u8 30, .int .u8 24, .int .u8 18, .int .u8 12, .int .u8 5, .int .u8 63, .int .u8 55, .int .u8 48, .int .u8 27, .int .u8 60, .int .u8 41, .int .u8 37, .int .u8 16, .int .u8 46, .int .u8 35, .int .u8 44, .int .u8 21, .int .u8 52, .int .u8 32, .int .u8 23, .int .u8 11, .int .u8 54, .int .u8 26, .int .u8 40, .int .u8 15, .int .u8 34, .int .u8 20, .int .u8 31, .int .u8 10, .int .u8 25, .int .u8 14, .int .u8 19, .int .u8 9, .int .u8 13, .int .u8 8, .int .u8 7, .int .u8 6] t frozen
   |o=>o}
theorem zvD (os:Os):laidMet Tryz.prog Rows.brzoTwiceUptoRow.laid ((ziI os).forCall (fun _ _=>0) ⟨#[], #[.agg (List.replicate 256 (Value.int .u8 0)++[Value.int .i64 0,Value.slice none 0 0,Value.slice none 0 0,Value.slice none 0 0]).toArray],[]⟩).memory:=
 laidMet_of_run' 8 Kk Kk
theorem reads (os:Os) {H:Type} (enc:TypeId×Value→H): ∃places,DataW.whole enc Tryz.prog ((ziI os).forCall (fun _ _=>0) ⟨#[], #[.agg (List.replicate 256 (Value.int .u8 0)++[Value.int .i64 0,Value.slice none 0 0,Value.slice none 0 0,Value.slice none 0 0]).toArray],[]⟩).memory Tryz.f5.params.toList Rows.brzoTwiceSpec.vars false (#[.agg (List.replicate 256 (Value.int .u8 0)++[Value.int .i64 0,Value.slice none 0 0,Value.slice none 0 0,Value.slice none 0 0]).toArray]:Array Value).toList 8=some ([.agg [.agg (List.replicate 256 (.lit (.int .u8 0))), .lit (.int .i64 0), .nil, .nil, .nil]],[],places):=
 ⟨[],by kernel_rfl⟩
set_option maxRecDepth 100000 in
theorem zxS (os:Os) (started:os.Started) (H:Type) (enc:TypeId×Value→H) (F:Stop.Interp):
  ReturnsInHanded {} Tryz.checked os 5 .any ((Rows.OpenSpec.upto Rows.brzoTwiceSpec).preRow enc Tryz.prog Tryz.f5 Rows.brzoTwiceUptoRow.domain false Rows.brzoTwiceUptoRow.laid) (((Rows.OpenSpec.upto Rows.brzoTwiceSpec).at F).post enc Tryz.prog Tryz.f5 false true false false):=by
 obtain⟨places,hx⟩:=reads os enc
 refine returnsInHanded_of_row (C:=Tryz.checked) (s:=Rows.OpenSpec.upto Rows.brzoTwiceSpec) own started Kk Tryz.func5
  (witness_row_at (enc:=enc) (C:=Tryz.checked) false (ziI os) #[.agg (List.replicate 256 (Value.int .u8 0)++[Value.int .i64 0,Value.slice none 0 0,Value.slice none 0 0,Value.slice none 0 0]).toArray] rfl Kk Kk Kk
   (OpenSpec.preRow_of_cond 8 hx Kk (fun k hk=>by cases hk;kernel_rfl) Kk (zvD os))) ?_
 intro W base args ds gs before hval hW _ hcond _ hL _ _
 exact contract H enc W base args ds gs before hval hW (hcond _ rfl) hL
theorem zyW:Rows.BrzoTwiceUptoSaid:=
 OpenClaim.holds_of_cond 5 Tryz.f5 rfl rfl rfl rfl rfl rfl rfl ⟨rfl,rfl,rfl,rfl,rfl⟩ rfl rfl rfl rfl rfl Kk Tryz.func5 Kk
  (of_decide_eq_true Kk) (by unfold Func.isWrapper;first| (rw[if_pos (by decide+kernel)];kernel_rfl)| (rw[if_neg (by decide+kernel)];exact⟨rfl,rfl⟩))
  (fun os started H enc _ F=>by rw[OpenClaim.pre_eq_preRow];exact zxS os started H enc F)
theorem plain (f:FuncId) (fn:Func) (hf:Tryz.pinned.checked.prog.funcNamed "doublet/doubletlaw27.BrzoTwice" =some f) (hfn:Tryz.pinned.checked.prog.funcs[f]? =some fn):
  false=Tryz.pinned.checked.prog.looks []∧ ∀ (j:Nat) t,fn.params[j]? =some t→Tryz.pinned.checked.prog.wantsStandIn t=false:=by
 obtain rfl:f=5:=Option.some.inj ((show Tryz.prog.funcNamed "doublet/doubletlaw27.BrzoTwice" =some 5 by kernel_rfl).symm.trans hf) |>.symm
 obtain rfl:fn=Tryz.f5:=(Option.some.inj (Tryz.func5.symm.trans hfn)).symm
 refine⟨by kernel_rfl,fun j t ht=>?_⟩
 rw[Tryz.params5] at ht
 have hm:=Array.mem_of_getElem? ht
 simp only[List.mem_toArray,List.mem_cons,List.not_mem_nil,or_false] at hm
 rcases hm with rfl
 ·exact(show Tryz.prog.wantsStandIn 27=false by kernel_rfl)
theorem proved:Rows.BrzoTwiceUptoCardSaid:=
 Claim7.holds_tied_plain_at .later [] _ _ _ _ zyW (fun _ h=>by cases h) Kk (fun _ h=>by cases h) brzoTwiceUpto_row_tie rfl ⟨rfl,rfl⟩ Kk rfl plain Kk
end Go.Proofs.YtefkpedhbijhkaaGreatDoor.lawBrzoTwice
