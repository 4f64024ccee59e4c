/- A part of the proof, joined of several texts: the verification layer, contracts of functions, plain law. -/
import Derived.Test.YtomdbjfdbkejoaaGreatDoorU7
set_option maxHeartbeats 64000000
set_option linter.unusedSimpArgs false
set_option linter.unusedVariables false
set_option linter.unusedSectionVars false
open Go.V.Nx renaming go→Zd
open Go.V.Bk renaming go→Ae
open Go.V.Upd renaming now→Ce,finL→De,leave→Xf,shareRow→Jf,go→Oe
open Nat renaming le_refl→Qe,lt_or_ge→Eg,succ_mul→Bh,min_eq_left→Eh,mul_le_mul_right→Gh,zero_le→Pg,add_sub_cancel→Kh,sub_self→Og,mul_one→Gg,lt_trichotomy→Sh
open List renaming reduceReplicate→He,append_assoc→Uf,length_map→Be,length_take→Ge,toList_toArray→Ye,length_append→Ve,nil_append→Af,replicate→Fe,ext_getElem→Tg,getElem_map→Le,drop_of_length_le→Gf,append_nil→Bf,getElem_zip→Dh,length_drop→Of,getElem?_append_left→Fh,take_of_length_le→Pe,drop_zero→Hh,length_zip→Ih,getD_eq_getElem?_getD→Fg,getElem?_eq_getElem→Xe,take→Hf,mem_cons_self→Jh,range→Hg,map_take→Lh,take_length→Te,foldl_cons→Rf,foldl_nil→Pf,flatMap_cons→Nh,mem_cons_of_mem→Oh,length_cons→Ph,length_range→Qh,getElem_mem→Me,drop_left→Rh,length_replicate→We,getElem?_append_right→Nf,drop_append→Qg,take_succ_eq_append_getElem→Re,take_zero→Se,mem_singleton→Vg,range_succ→Sf,map_append→Ke
open Go.V.FnT renaming body→Ee,sep→Zf
open Go.V.Tri renaming loopU→Je,drawS→Wg,piece→Xg,run→Yg,isPiece→Ah,live→Ch,drawH→Vf
open Go.Value renaming int→Yd,slice→Wf
open Classical renaming byContradiction→Zg,propDecidable→Mf
open Go.V.Row renaming obj→Ie
open Int renaming toNat_natCast→Yf,le_of_lt→Mh,eq_ofNat_of_zero_le→Dg
open UInt8 renaming toNat_ofNat'→Sg
namespace Go.Proofs.YtomdbjfdbkejoaaGreatDoor
abbrev zrT:List Nat:=[0,2,3,4,5,6,7,18,30,56]
abbrev zvt:List Nat:=[0,1,2,3,6]
abbrev zj4:List Nat:=[0,1,2,3,4]
abbrev zvu:List Nat:=[0,1,2,3,10,13]
abbrev zyA:List Nat:=[0,1,2,3,4,10,11,20,23]
abbrev zj5:List Nat:=[0,1,2,3,8,9,14,34]
abbrev zbH:List Nat:=[0,1,2,3,4,10,11,12,13,14,15,16,17,18,19,20,21,22,23,24,28,33,50,58,80,85,103,110,140,151,171,185,199,213]
abbrev zlL:List Nat:=[0,1,2,6,7,8,9,13,30,35,54]
abbrev zbS:List Nat:=[0,1,2,3,4,5,6,7,8,9,10,11,27,28,29,48,49,50,51,75,113,114,115,126,127,128,129]
open Go Go.V Go.Proofs
theorem ziN {x Y:List UInt8} {n:Nat} (h:x.length=n):zba n (false,x++Y)=(x,(false,Y)):=by
 unfold zba;rw[if_neg (by simp only[Bool.false_eq_true,false_or,Ve];omega)];simp only[];rw[List.take_append_of_le_length Ko,Pe Ko,Qg,Gf Ko,h,Og,Hh,Af]
theorem zxE {n:Nat} (h:n<256):beV (beB 1 n)=n:=by
 rw[zfJ];simp only[beV,Rf,Pf,Sg];omega
theorem zxF {n:Nat} (h:n<65536):beV (beB 2 n)=n:=by
 rw[zji];simp only[beV,Rf,Pf,Sg];omega
theorem zvv {n:Nat} (h:n<4294967296):beV (beB 4 n)=n:=by
 rw[zn2];simp only[beV,Rf,Pf,Sg];omega
theorem zf5 {n:Nat} (h:n<256) (Y:List UInt8):zD 1 (false,beB 1 n++Y)=(n,(false,Y)):=by
 unfold zD;rw[ziN (zX 1 n),zxE h]
theorem zof {n:Nat} (h:n<65536) (Y:List UInt8):zD 2 (false,beB 2 n++Y)=(n,(false,Y)):=by
 unfold zD;rw[ziN (zX 2 n),zxF h]
theorem zk0: ∀ (l acc:List (List UInt8)) (Y:List UInt8),(∀s∈l,s.length≤32)→zco l.length (acc,(false,zbc l++Y))=(acc++l,(false,Y))
 | [],acc,Y,_=>by show(acc,(false,Y))=_;rw[Bf]
 |s::l,acc,Y,h=>by
  have hs:=h s Jh;show zco l.length (zbA (acc,(false,zbc (s::l)++Y)))=_
  have e:zbA (acc,(false,zbc (s::l)++Y))=(acc++[s],(false,zbc l++Y)):=by
   unfold zbA zbc;rw[Nh,Uf];unfold zhQ;rw[Uf,zf5 Ko,ziN rfl]
  rw[e,zk0 l _ Y fun x hx=>h x (Oh _ hx),Uf];rfl
theorem zfC {l:List (List UInt8)} (hl:l.length≤64) (h: ∀s∈l,s.length≤32) (Y:List UInt8):zV (false,beB 1 l.length++(zbc l++Y))=(l,(false,Y)):=by
 unfold zV;rw[zf5 Ko,zk0 l [] Y h,Af]
theorem zog: ∀ (r acc:List Int) (Y:List UInt8),(∀t∈r,0≤t∧t<65536)→zfn r.length (acc,(false,zc5 r++Y))=(acc++r,(false,Y))
 | [],acc,Y,_=>by rw[List.length_nil,ziM,Bf];rfl
 |t::r,acc,Y,h=>by
  have ht:=h t Jh;rw[Ph,zgF]
  have e:zfL (acc,(false,zc5 (t::r)++Y))=(acc++[t],(false,zc5 r++Y)):=by
   unfold zfL zc5;rw[Nh,Uf];obtain⟨n,hn⟩:=Dg ht.1;simp only[hn,Yf];rw[zof Ko]
  rw[e,zog r _ Y fun x hx=>h x (Oh _ hx),Uf];rfl
def zlM (p:Int×List Int):List UInt8:=beB 1 p.1.toNat++zc5 p.2
theorem zoh {w:Nat}: ∀ (ps:List (Int×List Int)) (lab:List Int) (nxt:List (List Int)) (Y:List UInt8),(∀p∈ps,0≤p.1∧p.1<256∧p.2.length=w∧ ∀t∈p.2,0≤t∧t<65536)→
  zer w ps.length ⟨lab,nxt,(false,ps.flatMap zlM++Y)⟩=⟨lab++ps.map (·.1),nxt++ps.map (·.2),(false,Y)⟩
 | [],lab,nxt,Y,_=>by rw[List.length_nil,zmp];simp
 |p::ps,lab,nxt,Y,h=>by
  obtain⟨h1,h2,h3,h4⟩:=h p Jh;rw[Ph,zgG]
  have e:zce w ⟨lab,nxt,(false,(p::ps).flatMap zlM++Y)⟩=⟨lab++[p.1],nxt++[p.2],(false,ps.flatMap zlM++Y)⟩:=by
   unfold zce;rw[if_neg (by simp)];obtain⟨n,hn⟩:=Dg h1;simp only[Nh,zlM,Uf];rw[hn,Yf,zf5 Ko,←h3,zog _ _ _ h4,Af]
  rw[e,zoh ps _ _ Y fun x hx=>h x (Oh _ hx)];simp
theorem zpO {d:DfaT} (K0:zg d):zbV d d.label.length=(d.label.zip d.next).flatMap zlM∧(d.label.zip d.next).map (·.1)=d.label∧(d.label.zip d.next).map (·.2)=d.next:=by
 have hn:=K0.2.2.1;have hz:(d.label.zip d.next).length=d.label.length:=by rw[Ih];omega
 refine⟨?_,?_,?_⟩
 ·have e:d.label.zip d.next=(Hg d.label.length).map fun s=>(atL d.label (s:Nat),d.next.getD s []):=by
   apply Tg (by rw[hz,Be,Qh]);intro i h1 h2;have hi:i<d.label.length:=by omega
   rw[Dh,Le,List.getElem_range,zL (by simpa using hi),Fg,Xe Ko];simp only[Yf];rfl
  rw[e,List.flatMap_map];rfl
 ·apply Tg (by rw[Be,hz]);intro i h1 h2;rw[Le,Dh]
 ·apply Tg (by rw[Be,hz,hn]);intro i h1 h2;rw[Le,Dh]
theorem zmt (l:List Int) (c:Nat): ∀k,∃D,zbj l (c+k)=zbj l c++D
 |0=>⟨[],by rw[Nat.add_zero,Bf]⟩
 |k+1=>by
  obtain⟨D,h⟩:=zmt l c k;exact⟨D++emL l (c+k),by rw[←Nat.add_assoc,zes,h,Uf]⟩
def ze2 (l:List Int) (c:Nat):List UInt8:=(zbj l 256).drop (zbj l c).length
theorem zoi (l:List Int) {c:Nat} (h:c≤256):zbj l 256=zbj l c++ze2 l c:=by
 obtain⟨D,e⟩:=zmt l c (256 - c);rw[show c+(256 - c)=256 by omega] at e;unfold ze2;rw[e,Qg,List.drop_length,Og,Hh,Af]
theorem ztw {l:List Int} {c:Nat}: ∀k n,n+k=256→c<n→(∀i,c≤i→i<n→l.getD i 0=l.getD c 0)→ ∃m,n≤m∧m≤256∧(∀i,c≤i→i<m→l.getD i 0=l.getD c 0)∧(m=256∨l.getD m 0≠l.getD c 0)
 |0,n,hn,hc,h=>⟨n,Qe _,by omega,h,Or.inl Ko⟩
 |k+1,n,hn,hc,h=>by
  by_cases e:l.getD n 0=l.getD c 0
  ·have Q9: ∀i,c≤i→i<n+1→l.getD i 0=l.getD c 0:=fun i a b=>by
    by_cases e2:i=n
    ·subst e2;exact e
    ·exact h i a Ko
   obtain⟨m,h1,h2,h3,h4⟩:=ztw (c:=c) k (n+1) Ko Ko Q9;exact⟨m,by omega,h2,h3,h4⟩
  ·exact⟨n,Qe _,by omega,h,Or.inr e⟩
def wT (l:List Int) (c:Nat):Nat:=(zl (l.take c)).length
theorem zqr {l:List Int} (hn:zd l=l) {c:Nat} (hc:c<l.length):wT l (c+1)=max (wT l c) ((l[c]).toNat+1):=by
 unfold wT;have e1:l[c]=(zd l)[c]'(by rw[zt];exact hc):=by simp only[hn]
 have B2:l.take (c+1)=l.take c++[l[c]]:=Re hc;by_cases h:l[c]∈l.take c
 ·have e2:zl (l.take (c+1))=zl (l.take c):=by rw[B2,zaG,if_pos ((zK _).2 h)]
  have e3:(zd l)[c]'(by rw[zt];exact hc)=zw (zl (l.take c)) l[c]:=by rw[zil hc,e2]
  obtain⟨n,Q4⟩:=zaf ((zK _).2 h);have:=(zaa Q4).1;rw[zB Q4] at e3;rw[e2];rw[e3] at e1;omega
 ·have e2:(zl (l.take (c+1))).length=(zl (l.take c)).length+1:=by rw[B2,zaG,if_neg fun h2=>h ((zK _).1 h2),Ve];rfl
  have e3:=(zlJ hc).2 h;rw[e2];rw[e3] at e1;omega
theorem ztx {l:List Int} (hn:zd l=l) (hl:l.length=256) {c:Nat} (hc:c<256): ∀k,c+k+1≤256→(∀i,c≤i→i<c+k+1→l.getD i 0=l.getD c 0)→wT l (c+k+1)=max (wT l c) ((l.getD c 0).toNat+1)
 |0,_,_=>by
  rw[Nat.add_zero,zqr hn Ko,Fg,Xe Ko];rfl
 |k+1,h,heq=>by
  have ih:=ztx hn hl hc k Ko fun i a b=>heq i a Ko;have e:=heq (c+k+1) Ko Ko;have J2:c+k+1<l.length:=by omega
  rw[Fg,Xe J2] at e;have e:l[c+k+1]=l.getD c 0:=e;rw[show c+(k+1)+1=(c+k+1)+1 by omega,zqr hn J2,ih,e];omega
def zfo (l:List Int) (c:Nat):Nat→Int:=fun i=>if i<c then l.getD i 0 else 0
theorem zoj {l:List Int} (hn:zd l=l) (hl:l.length=256) (hb: ∀x∈l,0≤x∧x≤255) (Y:List UInt8): ∀ (m k c:Nat),256 - c≤m→c≤256→256 - c≤k→(c<256→zbd l c=c)→
  zd0 k ⟨c,wT l c,zfo l c,(false,ze2 l c++Y)⟩=⟨256,wT l 256,zfo l 256,(false,Y)⟩
 |m,k,c,hm,hc,hk,N1=>by
  by_cases h256:c=256
  ·subst h256;rw[zjk (Or.inl (Qe _))];have:ze2 l 256=[]:=by unfold ze2;rw[List.drop_length]
   rw[this];rfl
  ·obtain⟨m,rfl⟩: ∃j,m=j+1:=⟨m - 1,by omega⟩;obtain⟨k,rfl⟩: ∃j,k=j+1:=⟨k - 1,by omega⟩
   obtain⟨n,h1,h2,h3,h4⟩:=ztw (l:=l) (c:=c) (256 - (c+1)) (c+1) Ko Ko fun i a b=>by
    obtain rfl:i=c:=by omega
    rfl
   obtain⟨r1,r2⟩:=zqq (N1 Ko) Ko h2 h3 h4;obtain⟨j,rfl⟩: ∃j,n=c+j+1:=⟨n - c - 1,by omega⟩;have V2:c<l.length:=by omega
   have hgd:l.getD c 0=l[c]:=by rw[Fg,Xe V2];rfl
   have hcb:=hb _ (Me V2);obtain⟨y,hy⟩:=Dg hcb.1
   have hfrom:ze2 l c=beB 1 y++(beB 1 j++ze2 l (c+j+1)):=by
    have e1:=zoi l (c:=c) Ko;rw[zoi l (c:=c+j+1) h2,r1,hgd,hy,Yf,show c+j+1 - c - 1=j by omega,Uf] at e1;have:=List.append_cancel_left e1;rw[←this,Uf]
   rw[zmo,hfrom]
   have e:zbl ⟨c,wT l c,zfo l c,(false,beB 1 y++(beB 1 j++ze2 l (c+j+1))++Y)⟩=⟨c+j+1,wT l (c+j+1),zfo l (c+j+1),(false,ze2 l (c+j+1)++Y)⟩:=by
    unfold zbl;rw[if_neg (by simp;omega)];simp only[Uf];rw[zf5 Ko,zf5 Ko,if_neg Ko];have ew:=ztx hn hl Ko j h2 h3;rw[hgd,hy,Yf] at ew
    have ef:zcT (zfo l c) c (j+1) ((y:Nat):Int)=zfo l (c+j+1):=by
     funext i;unfold zcT zfo;by_cases hi:c≤i∧i<c+(j+1)
     ·rw[if_pos hi,if_pos Ko,h3 i hi.1 Ko,hgd,hy]
     ·rw[if_neg hi];by_cases Da:i<c
      ·rw[if_pos Da,if_pos Ko]
      ·rw[if_neg Da,if_neg Ko]
    simp only[ew,ef];rfl
   rw[e];exact zoj hn hl hb Y m k (c+j+1) Ko h2 Ko r2
theorem zj6 {l:List Int} (hn:zd l=l) (hl:l.length=256) (hb: ∀x∈l,0≤x∧x≤255) (Y:List UInt8):zaV (false,zbj l 256++Y)=⟨256,wT l 256,zfo l 256,(false,Y)⟩:=by
 have h:=zoj hn hl hb Y 256 256 0 Ko Ko Ko fun _=>rfl;have e1:ze2 l 0=zbj l 256:=rfl;have e2:zfo l 0=fun _=>0:=by funext i;unfold zfo;rw[if_neg Ko]
 have e3:wT l 0=0:=rfl;rw[e1,e2,e3,zjj] at h;exact h
theorem zvw {d:DfaT} (K0:zg d) (hl:d.of.length=256) (hb: ∀x∈d.of,0≤x∧x≤255) (Y:List UInt8):zat (false,(zaK d).drop 4++Y)=d∧(zaD (false,(zaK d).drop 4++Y)).s=(false,Y):=by
 have B5:=ze0 K0;obtain⟨Y2,K2,U2,N3,X3,Y3,Y1⟩:=id K0;obtain⟨s1,s2,s3⟩:=zpO K0
 have Cc:(zaK d).drop 4++Y=beB 1 d.names.length++(zbc d.names++(zbj d.of 256++(beB 2 (d.label.length - 1)++((d.label.zip d.next).flatMap zlM++Y)))):=by
  unfold zaK;rw[s1];simp only[Uf];rw[show(4 :Nat)=zb6.length from rfl,Rh];simp only[Uf]
 have Q6: ∀p∈d.label.zip d.next,0≤p.1∧p.1<256∧p.2.length=d.width.toNat∧ ∀t∈p.2,0≤t∧t<65536:=fun p hp=>by
  obtain⟨i,hi,rfl⟩:=List.getElem_of_mem hp;rw[Ih] at hi;rw[Dh];obtain⟨E5,F7,C8,D6⟩:=Y1 i Ko Ko;refine⟨F7,by show d.label[i] <256;omega,by show(d.next[i]).length=_;omega,fun t ht=>?_⟩;have:=D6 t ht;omega
 have hz:(d.label.zip d.next).length=d.label.length:=by rw[Ih];omega
 have hwt:wT d.of 256=d.width.toNat:=by unfold wT;rw[Pe Ko];omega
 have A6:ofF (zfo d.of 256)=d.of:=by
  apply Tg (by rw[zlK,hl]);intro i h1 h2;have:i<256:=by omega
  simp only[ofF,Le,List.getElem_range];unfold zfo;rw[if_pos this,Fg,Xe h2];rfl
 have hm:=zoh (w:=d.width.toNat) (d.label.zip d.next) [] [] Y Q6;rw[hz,s2,s3,Af,Af] at hm
 have Zc:zaD (false,(zaK d).drop 4++Y)=⟨d.label,d.next,(false,Y)⟩:=by
  unfold zaD;rw[Cc,zfC B5.1 B5.2];simp only[];rw[zj6 N3 hl hb];simp only[];rw[zof Ko,hwt,show d.label.length - 1+1=d.label.length by omega];exact hm
 refine⟨?_,by rw[Zc]⟩;apply DfaT.ext2
 ·show ofF (zaV (zV (false,(zaK d).drop 4++Y)).2).f=_;rw[Cc,zfC B5.1 B5.2];simp only[];rw[zj6 N3 hl hb];exact A6
 ·show(((zaV (zV (false,(zaK d).drop 4++Y)).2).w:Nat):Int)=_;rw[Cc,zfC B5.1 B5.2];simp only[];rw[zj6 N3 hl hb];show((wT d.of 256 :Nat):Int)=_;omega
 ·show(zaD _).nxt=_;rw[Zc]
 ·show(zaD _).lab=_;rw[Zc]
 ·show(zV (false,(zaK d).drop 4++Y)).1=_;rw[Cc,zfC B5.1 B5.2]
def Fit (d:DfaT):Prop:=zg d∧d.of.length=256∧ ∀x∈d.of,0≤x∧x≤255
theorem zpP (d:DfaT):zaK d=zb6++(zaK d).drop 4:=by
 unfold zaK;simp only[Uf];rw[show(4 :Nat)=zb6.length from rfl,Rh]
theorem zcL (d:DfaT):8≤(zaI d).length∧(zaI d).take 4=zb6∧(zaI d).take ((zaI d).length - 4)=zaK d∧(zaI d).drop ((zaI d).length - 4)=beB 4 (zbv (zaK d)):=by
 have h1:=zpP d;have hl:(zaI d).length=(zaK d).length+4:=by unfold zaI;rw[Ve,zX]
 have hb:(zaK d).length=4+((zaK d).drop 4).length:=by
  have:=congrArg List.length h1;rw[Ve] at this;exact this
 refine⟨by omega,?_,?_,?_⟩
 ·unfold zaI;rw[h1,Uf,show(4 :Nat)=zb6.length from rfl,List.take_left]
 ·rw[hl,Kh];unfold zaI;rw[List.take_left]
 ·rw[hl,Kh];unfold zaI;rw[Rh]
theorem zlN {d:DfaT} (h:Fit d):zat (false,((zaI d).take ((zaI d).length - 4)).drop 4)=d∧(zaD (false,((zaI d).take ((zaI d).length - 4)).drop 4)).s=(false,[]):=by
 have:=zvw h.1 h.2.1 h.2.2 [];rw[Bf] at this;rw[(zcL d).2.2.1];exact this
theorem zty {s:Rdr} (h:zg (zat s)):Fit (zat s):=by
 refine⟨h,zlK _,fun x hx=>?_⟩;have hx:x∈ofF (zaV (zV s).2).f:=hx;unfold ofF at hx;obtain⟨k,_,rfl⟩:=List.mem_map.1 hx;exact(zkY (zV s).2).2 k
theorem zxG {d e:DfaT} (hd:Fit d) (he:Fit e) (h:zaI d=zaI e):d=e:=by
 have h1:=(zlN hd).1;have h2:=(zlN he).1;rw[h] at h1;exact h1.symm.trans h2
def zfM (b:List UInt8):Prop:=8≤b.length∧b.take 4=zb6
def zjl (b:List UInt8):Prop:=beV (b.drop (b.length - 4))=zbv (b.take (b.length - 4))
def zrU (b:List UInt8):Prop:= ∃d,Fit d∧zaI d=b
noncomputable def zca (b:List UInt8):DfaT×Int:=
 haveI:=Mf
 if zfM b then if zjl b then if h:zrU b then(Classical.choose h,0) else(zah,3) else(zah,19) else(zah,3)
theorem zjN {b:List UInt8} (h: ¬zfM b):zca b=(zah,3):=by unfold zca;rw[if_neg h]
theorem ztz {b:List UInt8} (h:zfM b) (h2: ¬zjl b):zca b=(zah,19):=by unfold zca;rw[if_pos h,if_neg h2]
theorem zvx {b:List UInt8} (h:zfM b) (h2:zjl b) (h3: ¬zrU b):zca b=(zah,3):=by unfold zca;rw[if_pos h,if_pos h2,dif_neg h3]
theorem zvy {d:DfaT} (hd:Fit d):zfM (zaI d)∧zjl (zaI d):=by
 obtain⟨h1,h2,h3,h4⟩:=zcL d;refine⟨⟨h1,h2⟩,?_⟩;unfold zjl;rw[h3,h4,zvv (zeb _)]
theorem zmu {d:DfaT} (hd:Fit d):zca (zaI d)=(d,0):=by
 obtain⟨h1,h2⟩:=zvy hd;have h3:zrU (zaI d):=⟨d,hd,rfl⟩;unfold zca;rw[if_pos h1,if_pos h2,dif_pos h3];obtain⟨h4,h5⟩:=Classical.choose_spec h3;rw[zxG h4 hd h5]
theorem zvz (xs ys:List UInt8) (X1:xs.length≤200000000) {G:zb} {H:za} {R:Value→zb→za→Prop} {v w:Value} (hv:Sl G zp v xs) (hw:Sl G zp w ys) (hR:R (.bool (decide (xs=ys))) G H):FnT Tryz.prog 35 [v,w] G H R:=by
 obtain⟨a,cap,rfl,U0,D5⟩:=hv;obtain⟨a',cap',rfl,Tc,hcap'⟩:=hw;refine Ee tok kp1 Tryz.func35 rfl Kk Kk Kn fun M0=>?_;rw[Tryz.results35];have hE:=M0;try simp only[zzs] at hE
 repeat(obtain⟨J0,hE⟩:=hE)
 repeat' first
  |with_reducible first|refine Zd ?_ |refine Ae (fun _=>?_) fun _=>?_ |refine Nb fun nb A0 C0 B0=>?_
  |simp -dsimp -implicitDefEqProofs (disch:=first|exact Kd|fail) only[go_sem,↓reduceIte,seval]
 ·rename_i P3;have Z4:xs.length=ys.length:=by omega
  refine Je tok kp1 Kk [0,1,4,12,13] (fun n G' l H'=> ∃i:Nat,i+n=xs.length∧(∀j (h:j<xs.length),j<i→xs[j]=ys[j])∧G'=G∧H'=H∧l=[(0, .slice a xs.length cap),(1, .slice a' ys.length cap'),(4, .bool false),(12, .int .i64 xs.length),(13, .int .i64 i)]) (xs.length) (Ce ?_) ?_
  ·exact⟨0,by omega,fun j _ h=>by omega,rfl,rfl,rfl⟩
  ·rintro n G' l H' S0 hs ⟨i,hi,B1,rfl,rfl,rfl⟩;by_cases Y0:i<xs.length
   ·have Uc:i<ys.length:=by omega
    have B3:Adr a:=U0.adr (by rw[Be];omega);have had':Adr a':=Tc.adr (by rw[Be];omega)
    repeat' first
     |with_reducible first|refine Zd ?_ |refine Ae (fun _=>?_) fun _=>?_ |refine Nb fun nb A0 C0 B0=>?_
     |with_reducible refine Vf tok mixed kp1 6 [3,7] (.op 0 .plain (.op 1 .plain (.op 2 .plain (.op 3 .held (.op 4 .plain (.op 5 .plain (.op 6 .plain (.op 7 .held (.op 8 .plain .nil))))))))) Kk [0,1] ?_
     |simp -dsimp -implicitDefEqProofs (disch:=first|exact Kd|fail) only[go_sem,↓reduceIte,seval,Ie U0,Ie Tc,Le,zp]
    ·rename_i he
     exact Ce ⟨n - 1,by omega,i+1,by omega,fun j h hj=>by
      by_cases e:j=i
      ·subst e;exact UInt8.toNat_inj.1 Ko
      ·exact B1 j h Ko,rfl,rfl,rfl⟩
    ·rename_i he;rw[decide_eq_false (fun e=>he (by subst e;rfl))] at hR;all_goals refine De ?_ hR ?_
     any_goals first|exact Ks|skip
     rfl
   ·obtain rfl:i=xs.length:=by omega
    rw[decide_eq_true (Tg Z4 fun j h1 h2=>B1 j h1 h1)] at hR
    repeat' first
     |with_reducible first|refine Zd ?_ |refine Ae (fun _=>?_) fun _=>?_ |refine Nb fun nb A0 C0 B0=>?_
     |simp -dsimp -implicitDefEqProofs (disch:=first|exact Kd|fail) only[go_sem,↓reduceIte,seval]
    all_goals refine De ?_ hR ?_
    any_goals first|exact Ks|skip
    rfl
 ·rename_i P3;rw[decide_eq_false (fun e=>P3 (by subst e;rfl))] at hR;all_goals refine De ?_ hR ?_
  any_goals first|exact Ks|skip
  rfl
theorem zlO {G:zb} {d:DfaT} {C:List Value} (h:IsD G d (.agg C.toArray)):C.all zax=true:=by
 obtain⟨_,_,vn,vl,vs,e,⟨an,cn,rs,rfl,_⟩,⟨al,cl,rfl,_⟩,⟨ay,cy,rfl,_⟩⟩:=h;have e2:=congrArg (fun v=>match v with|Value.agg a=>a.toList|_=>[]) e;simp only[Ye] at e2;rw[e2];exact zaC rfl rfl rfl
theorem zlP {C:List Value} (h:C.length=260):zf zz 0 C=C:=by
 unfold zf;rw[Se,Af,Gf (by rw[zj];omega),Bf]
--IF dfa.Trim
theorem Sl.drop {G:zb} {a:Option Addr} {c n:Nat} {l:List UInt8} (hr:Row G a (l.map zp)) (hc:l.length≤c) (h:n≤l.length):Sl G zp (.slice (zbn a n c n) (l.length - n) (c - n)) (l.drop n):=by
 have h2:Row G (zbn a n c n) ((l.drop n).map zp):=by
  have:=hr.drop (l:=n) (m:=c) (s:=1) (fun e=>by rw[Be];omega);rw[Gg,←List.map_drop] at this;exact this
 exact⟨_,c - n,by rw[Of],h2,by rw[Of];omega⟩
theorem Sl.mid {G:zb} {a:Option Addr} {c n m:Nat} {l:List UInt8} (hr:Row G a (l.map zp)) (hc:l.length≤c) (h:n≤l.length) (hm:m≤n):Sl G zp (.slice (zbn a m c m) (n - m) (c - m)) ((l.take n).drop m):=by
 have h2:Row G (zbn a m c m) (((l.take n).drop m).map zp):=by
  by_cases hmn:m=n
  ·have:(l.take n).drop m=[]:=Gf (by rw[Ge];omega);rw[this];exact Row.nil _ _
  have:=(hr.take n).drop (l:=m) (m:=c) (s:=1) (fun e=>by rw[Ge,Be];omega);rw[Gg,←Lh,←List.map_drop] at this;exact this
 exact⟨_,c - m,by rw[Of,Ge,Eh h],h2,by rw[Of,Ge];omega⟩
theorem Sl.take {G:zb} {a:Option Addr} {c n:Nat} {l:List UInt8} (hr:Row G a (l.map zp)) (hc:l.length≤c) (h:n≤l.length):Sl G zp (.slice (zbn a 0 c 0) (n - 0) (c - 0)) (l.take n):=by
 have h2:Row G (zbn a 0 c 0) ((l.take n).map zp):=by
  have:=(hr.take n).drop (l:=0) (m:=c) (s:=1) (fun e=>by rw[Ge,Be];omega);rw[Nat.zero_mul,Hh,←Lh] at this;exact this
 exact⟨_,c - 0,by rw[Ge,Eh h,Nat.sub_zero],h2,by rw[Ge];omega⟩
theorem Row.midB {G:zb} {a:Option Addr} {c n m:Nat} {l:List UInt8} (hr:Row G a (l.map zp)) (hc:l.length≤c) (h:n≤l.length) (hm:m≤n):Row G (zbn a m c m) (((l.take n).drop m).map zp):=by
 by_cases hmn:m=n
 ·have:(l.take n).drop m=[]:=Gf (by rw[Ge];omega);rw[this];exact Row.nil _ _
 ·have:=(hr.take n).drop (l:=m) (m:=c) (s:=1) (fun e=>by rw[Ge,Be];omega);rw[Gg,←Lh,←List.map_drop] at this;exact this
theorem zvA:V.Callee Tryz.prog 35:=⟨_,_,Tryz.func35,rfl,by kernel_rfl⟩
theorem zxH {b:List UInt8} (O9:b.length≤200000000) {G:zb} {H:za} {R:Value→zb→za→Prop} {v:Value} (hv:Sl G zp v b)
  (hR: ∀G' v',PLe G G'→Sep G' (zm H)→IsD G' (zca b).1 v'→R (.tuple #[v', .int .i64 (zca b).2]) G' H):FnT Tryz.prog 20 [v] G H R:=by
 have Q8:=hv;obtain⟨a,c,rfl,hr,hc⟩:=hv;refine Zf ?_;by_cases B6:8≤b.length
 ·have S7:Row G (zbn a 0 c 0) ((b.take 4).map zp):=by
   have:=(hr.take 4).drop (l:=0) (m:=c) (s:=1) (fun e=>by rw[Ge,Be];omega);rw[Nat.zero_mul,Hh,←Lh] at this;exact this
  have h4l:(b.take 4).length=4:=by rw[Ge];omega
  by_cases Na:b.take 4=zb6
  ·have hf:zfM b:=⟨B6,Na⟩;have hn4:((b.length:Nat):Int) - 4=((b.length - 4 :Nat):Int):=by omega
   have L8:(((b.length:Nat):Int) - 4).toNat=b.length - 4:=by omega
   have I9:=Sl.drop (n:=b.length - 4) hr hc Ko;have hbd:=Sl.take (n:=b.length - 4) hr hc Ko;have hsr:Sl G zp (.slice (zbn a (b.length - 4) c (b.length - 4)) (b.length - (b.length - 4)) (c - (b.length - 4))) ((false,b.drop (b.length - 4)):Rdr).2:=I9;have E7:(b.drop (b.length - 4)).length=4:=by rw[Of];omega
   have B2:zba 4 (false,b.drop (b.length - 4))=(b.drop (b.length - 4),(false,[])):=by
    unfold zba;rw[if_neg (by simp [E7])];show(Hf 4 (b.drop (b.length - 4)),((false,List.drop 4 (b.drop (b.length - 4))):Rdr))=_;have e1:Hf 4 (b.drop (b.length - 4))=b.drop (b.length - 4):=Pe Ko;have e2:List.drop 4 (b.drop (b.length - 4))=[]:=Gf Ko;rw[e1,e2]
   have hnum:zD 4 (false,b.drop (b.length - 4))=(beV (b.drop (b.length - 4)),(false,[])):=by unfold zD;rw[B2]
   have D3:=zeb (b.take (b.length - 4));have R8:IntKind.i64.wrap ((zbv (b.take (b.length - 4)):Nat):Int)=(zbv (b.take (b.length - 4)):Nat):=wrap_i64 Ko Ko;refine Ee tok zrT Tryz.func20 rfl Kk Kk Kn fun M0=>?_;rw[Tryz.results20];have hE:=M0;try simp only[zzs] at hE
   repeat(obtain⟨J0,hE⟩:=hE)
   repeat' first
    |with_reducible first|refine Zd ?_ |refine Ae (fun _=>?_) fun _=>?_ |refine Nb fun nb A0 C0 B0=>?_ |refine Nr fun nb D0 E0 A0 I0 C0 B0=>?_
    |with_reducible refine Tri.drawM tok mixed zrT 5 [] (.op 1 .plain (.op 2 .plain (.op 3 .plain (.op 0 .keeps (.op 4 .keeps (.op 5 .plain (.op 6 .plain .nil))))))) Kk [] (List.nil_sublist _) ?_
    |simp -dsimp -implicitDefEqProofs (disch:=first|exact Kd|fail) only[go_sem,↓reduceIte,seval, -He,zj,zG,zI,zM,Row.rdSlAll S7,Be,L8]
   ·rename_i b2 Ec J8 A8;revert nb;intro b5 hb50 hb51 hb52;refine zb5 (s:=(false,b.drop (b.length - 4))) (by show(b.drop (b.length - 4)).length≤_;omega) (n:=4) Ko hsr fun G1 sv1 N2 V0 Yb=>?_;rw[hnum] at V0 Yb⊢;have hE:=V0;try simp only[zzs] at hE
    repeat(obtain⟨J0,hE⟩:=hE)
    repeat' first
     |with_reducible first|refine Zd ?_ |refine Ae (fun _=>?_) fun _=>?_ |refine Nb fun nb A0 C0 B0=>?_ |refine Nr fun nb D0 E0 A0 I0 C0 B0=>?_
     |simp -dsimp -implicitDefEqProofs (disch:=first|exact Kd|fail) only[go_sem,↓reduceIte,seval, -He,zj,zG,zI,zM,L8]
    refine zn1 (b:=b.take (b.length - 4)) (by rw[Ge];omega) (hbd.mono N2) ?_
    repeat' first
     |with_reducible first|refine Zd ?_ |refine Ae (fun _=>?_) fun _=>?_ |refine Nb fun nb A0 C0 B0=>?_ |refine Nr fun nb D0 E0 A0 I0 C0 B0=>?_
     |simp -dsimp -implicitDefEqProofs (disch:=first|exact Kd|fail) only[go_sem,↓reduceIte,seval, -He,zj,zG,zI,zM,L8,R8]
    ·rename_i W7;revert nb;intro b6 hb60 hb61 hb62;have hso:zjl b:=Int.ofNat_inj.1 W7;have htkl:(b.take (b.length - 4)).length=b.length - 4:=by rw[Ge];omega
     have Jc:=Sl.mid (n:=b.length - 4) (m:=4) hr hc Ko Ko;obtain⟨l0,A9⟩: ∃l,l=(b.take (b.length - 4)).drop 4:=⟨_,rfl⟩;rw[←A9] at Jc;have hl0l:l0.length≤200000000:=by rw[A9,Of,htkl];omega
     refine ztt (s:=(false,l0)) hl0l (Jc.mono N2) fun G2 v2 sv2 Q0 R0 K3 C9=>?_;have hsmd:=zpN (false,l0);obtain⟨bad,lr,Zc⟩: ∃bad lr,(zaD (false,l0)).s=(bad,lr):=⟨_,_,rfl⟩
     have Ad: ∀d,Fit d→zaI d=b→zat (false,l0)=d∧(zaD (false,l0)).s=(false,[]):=fun d hd e=>by
      have:=zlN hd;rw[e,←A9] at this;exact this
     have hnot: ¬(bad=false∧lr=[]∧zg (zat (false,l0))∧zaI (zat (false,l0))=b)→zca b=(zah,3):=fun h=>zvx hf hso fun⟨d,hd,e⟩=>h (by
      obtain⟨e1,e2⟩:=Ad d hd e;rw[Zc] at e2;cases e2;exact⟨rfl,rfl,e1▸hd.1,by rw[e1];exact e⟩)
     obtain⟨d0,hd0⟩: ∃d,d=zat (false,l0):=⟨_,rfl⟩;have hfit:zg d0→Fit d0:=fun h=>by rw[hd0] at h⊢;exact zty h
     rw[Zc] at R0 C9⊢;rw[←hd0] at K3 hsmd Ad hnot;obtain⟨C,an,al,ay,cn,cl,cs,rs,rfl,O⟩:=K3.opened;have N0:=O.len;have T0:=O.all;have S3:=zlO O.is;have M3:=zlP N0;obtain⟨a2,c2,rfl,V1,J4⟩:=C9;simp only at R0⊢;have hE:=R0;try simp only[zzs] at hE
     repeat(obtain⟨J0,hE⟩:=hE)
     rcases bad with _|_
     ·rcases lr with _| ⟨x,lr⟩
      ·by_cases K0:zg d0
       ·have hb:=zA K0
        repeat' first
         |with_reducible first|refine Zd ?_ |refine Ae (fun _=>?_) fun _=>?_ |refine Nb fun nb A0 C0 B0=>?_ |refine Nr fun nb D0 E0 A0 I0 C0 B0=>?_
         |simp -dsimp -implicitDefEqProofs (disch:=first|exact Kd|fail) only[go_sem,↓reduceIte,seval, -He,zj,zG,zI,zM,N0,T0,S3,M3]
         |with_reducible refine zaJ hsmd O.is ?_
        rotate_left
        ·rename_i h;rw[hb] at h;cases h
        rename_i h7;revert nb;intro b7 hb70 hb71 hb72;refine zrS hsmd K0 O.is fun v8 kb8 hbf8 B6=>?_
        have R6:(zaI d0).length≤50000004:=by
         have:=zgI K0 O.ofl;unfold zaI;rw[Ve,zX];omega
        obtain⟨x8,c8,sp8,rfl,rfl,Ea⟩:=hbf8.own (by have:=(zcL d0).1;omega);have hE:=B6;try simp only[zzs] at hE
        repeat(obtain⟨J0,hE⟩:=hE)
        repeat' first
         |with_reducible first|refine Zd ?_ |refine Ae (fun _=>?_) fun _=>?_ |refine Nb fun nb A0 C0 B0=>?_ |refine Nr fun nb D0 E0 A0 I0 C0 B0=>?_
         |simp -dsimp -implicitDefEqProofs (disch:=first|exact Kd|fail) only[go_sem,↓reduceIte,seval, -He,zj,zG,zI,zM,N0,T0,S3,M3]
         | (refine FnT.share zvA Ka fun G3 A1 K1 D2=>?_;refine zvz (zaI d0) b Ko ⟨_,_,rfl,D2,by omega⟩ (Q8.mono ((N2.trans Q0).trans A1)) ?_;(have hE:=K1;try simp only[zzs] at hE;repeat(obtain⟨J0,hE⟩:=hE)))
        ·rename_i he;have hrd:zca b=(d0,0):=by rw[←he];exact zmu (hfit K0)
         rw[hrd] at hR;unfold zo;refine Xf (H':=H) Ks ?_;exact fun _ hs=>hR G3 _ ((N2.trans Q0).trans A1) hs (O.is.mono A1)
        ·rename_i he;rw[hnot fun h=>he h.2.2.2] at hR;unfold zo;refine Xf (H':=H) Ks ?_;exact fun _ hs=>hR G3 _ ((N2.trans Q0).trans A1) hs (zak _)
       ·have hb:=zu K0;rw[hnot fun h=>K0 h.2.2.1] at hR
        repeat' first
         |with_reducible first|refine Zd ?_ |refine Ae (fun _=>?_) fun _=>?_ |refine Nb fun nb A0 C0 B0=>?_ |refine Nr fun nb D0 E0 A0 I0 C0 B0=>?_
         |simp -dsimp -implicitDefEqProofs (disch:=first|exact Kd|fail) only[go_sem,↓reduceIte,seval, -He,zj,zG,zI,zM,N0,T0,S3,M3,hb]
         |with_reducible refine zaJ hsmd O.is ?_
        unfold zo;refine Xf (H':=H) Ks ?_;exact fun _ hs=>hR G2 _ (N2.trans Q0) hs (zak _)
      ·rw[hnot fun h=>by cases h.2.1] at hR
       repeat' first
        |with_reducible first|refine Zd ?_ |refine Ae (fun _=>?_) fun _=>?_ |refine Nb fun nb A0 C0 B0=>?_ |refine Nr fun nb D0 E0 A0 I0 C0 B0=>?_
        |simp -dsimp -implicitDefEqProofs (disch:=first|exact Kd|fail) only[go_sem,↓reduceIte,seval, -He,zj,zG,zI,zM,N0,T0,S3,M3]
       unfold zo;refine Xf (H':=H) Ks ?_;exact fun _ hs=>hR G2 _ (N2.trans Q0) hs (zak _)
     ·rw[hnot fun h=>by cases h.1] at hR
      repeat' first
       |with_reducible first|refine Zd ?_ |refine Ae (fun _=>?_) fun _=>?_ |refine Nb fun nb A0 C0 B0=>?_ |refine Nr fun nb D0 E0 A0 I0 C0 B0=>?_
       |simp -dsimp -implicitDefEqProofs (disch:=first|exact Kd|fail) only[go_sem,↓reduceIte,seval, -He,zj,zG,zI,zM,N0,T0,S3,M3]
      unfold zo;refine Xf (H':=H) Ks ?_;exact fun _ hs=>hR G2 _ (N2.trans Q0) hs (zak _)
    ·rename_i W7;rw[ztz hf fun h=>W7 (congrArg Int.ofNat h)] at hR;unfold zo;refine Xf (H':=H) Ks ?_;exact fun _ hs=>hR G1 _ N2 hs (zak _)
   ·rename_i h;exact absurd Na h
  ·rw[zjN fun h=>Na h.2] at hR;refine Ee tok zrT Tryz.func20 rfl Kk Kk Kn fun M0=>?_;rw[Tryz.results20];have hE:=M0;try simp only[zzs] at hE
   repeat(obtain⟨J0,hE⟩:=hE)
   repeat' first
    |with_reducible first|refine Zd ?_ |refine Ae (fun _=>?_) fun _=>?_ |refine Nb fun nb A0 C0 B0=>?_ |refine Nr fun nb D0 E0 A0 I0 C0 B0=>?_
    |simp -dsimp -implicitDefEqProofs (disch:=first|exact Kd|fail) only[go_sem,↓reduceIte,seval, -He,zj,zG,zI,zM,Row.rdSlAll S7,Be]
   ·rename_i h;have:(b.take 4==zb6)=false:=by rw[beq_eq_false_iff_ne];exact Na
    exact absurd (show b.take 4=zb6 by assumption) Na
   ·unfold zo;refine Xf (H':=H) Ks ?_;exact fun _ hs=>hR G _ (PLe.refl _) hs (zak _)
 ·rw[zjN fun h=>B6 h.1] at hR;refine Ee tok zrT Tryz.func20 rfl Kk Kk Kn fun M0=>?_;rw[Tryz.results20];have hE:=M0;try simp only[zzs] at hE
  repeat(obtain⟨J0,hE⟩:=hE)
  repeat' first
   |with_reducible first|refine Zd ?_ |refine Ae (fun _=>?_) fun _=>?_ |refine Nb fun nb A0 C0 B0=>?_ |refine Nr fun nb D0 E0 A0 I0 C0 B0=>?_
   |simp -dsimp -implicitDefEqProofs (disch:=first|exact Kd|fail) only[go_sem,↓reduceIte,seval, -He,zj,zG,zI,zM]
  unfold zo;refine Xf (H':=H) Ks ?_;exact fun _ hs=>hR G _ (PLe.refl _) hs (zak _)
noncomputable def zdm (d:DfaT):List UInt8×Int:=if zaz (zg d)=true then(zaI d,0) else([],6)
theorem zgJ {d:DfaT} (h:zg d):zdm d=(zaI d,0):=by unfold zdm;rw[if_pos (zA h)]
theorem zhS {d:DfaT} (h: ¬zg d):zdm d=([],6):=by unfold zdm;rw[if_neg (by rw[zu h];decide)]
theorem zf6 {d:DfaT} (K0:zg d) (hl:d.of.length=256):(zaI d).length≤50000004:=by
 have:=zgI K0 hl;unfold zaI;rw[Ve,zX];omega
theorem zok {d:DfaT} (P0:zr d) {G:zb} {H:za} {R:Value→zb→za→Prop} {v:Value} (hv:IsD G d v)
  (hR: ∀G' v',PLe G G'→Sep G' (zm H)→Sl G' zp v' (zdm d).1→R (.tuple #[v', .int .i64 (zdm d).2]) G' H):FnT Tryz.prog 5 [v] G H R:=by
 obtain⟨C,an,al,ay,cn,cl,cs,rs,rfl,O⟩:=hv.opened;have N0:=O.len;have T0:=O.all;refine Zf ?_;by_cases K0:zg d
 ·have hb:=zA K0;rw[zgJ K0] at hR;refine Ee tok zvt Tryz.func5 rfl Kk Kk Kn fun M0=>?_;rw[Tryz.results5];have hE:=M0;try simp only[zzs] at hE
  repeat(obtain⟨J0,hE⟩:=hE)
  repeat' first
   |with_reducible first|refine Zd ?_ |refine Ae (fun _=>?_) fun _=>?_ |refine Nb fun nb A0 C0 B0=>?_
   |simp -dsimp -implicitDefEqProofs (disch:=first|exact Kd|fail) only[go_sem,↓reduceIte,seval, -He,Ye,N0,T0,hb]
   |with_reducible refine zaJ P0 O.is ?_
  obtain⟨b1,e0⟩: ∃x,x=nb:=⟨_,rfl⟩;subst e0;refine zrS P0 K0 O.is fun v8 kb8 hbf8 B6=>?_;have R6:=zf6 K0 O.ofl;obtain⟨x8,c8,sp8,rfl,rfl,Ea⟩:=hbf8.own (by have:=(zcL d).1;omega);have hE:=B6;try simp only[zzs] at hE
  repeat(obtain⟨J0,hE⟩:=hE)
  repeat' first
   |with_reducible first|refine Zd ?_ |refine Ae (fun _=>?_) fun _=>?_ |refine Nb fun nb A0 C0 B0=>?_
   |simp -dsimp -implicitDefEqProofs (disch:=first|exact Kd|fail) only[go_sem,↓reduceIte,seval, -He,Ye,N0,T0]
  unfold zo;refine Oe (H':=(x8, .cells ((zaI d).map zp) sp8 5)::H) Ks (Jf Ka fun G9 X5 P6 S6=>?_);exact fun _ hs=>hR G9 _ X5 hs ⟨_,_,rfl,S6,by show(zaI d).length≤_;omega⟩
 ·have hb:=zu K0;rw[zhS K0] at hR;refine Ee tok zvt Tryz.func5 rfl Kk Kk Kn fun M0=>?_;rw[Tryz.results5];have hE:=M0;try simp only[zzs] at hE
  repeat(obtain⟨J0,hE⟩:=hE)
  repeat' first
   |with_reducible first|refine Zd ?_ |refine Ae (fun _=>?_) fun _=>?_ |refine Nb fun nb A0 C0 B0=>?_
   |simp -dsimp -implicitDefEqProofs (disch:=first|exact Kd|fail) only[go_sem,↓reduceIte,seval, -He,Ye,N0,T0,hb]
   |with_reducible refine zaJ P0 O.is ?_
  unfold zo;refine Xf (H':=H) Ks ?_;exact fun _ hs=>hR G _ (PLe.refl _) hs ⟨none,0,rfl,Row.nil _ _,Qe _⟩
theorem zj7 (xs ys:List (List UInt8)) (X1:xs.length≤2000000) {G:zb} {H:za} {R:Value→zb→za→Prop} {v w:Value} (hv:Sl G str v xs) (hw:Sl G str w ys) (hR:R (.bool (decide (xs=ys))) G H):FnT Tryz.prog 37 [v,w] G H R:=by
 obtain⟨a,cap,rfl,U0,D5⟩:=hv;obtain⟨a',cap',rfl,Tc,hcap'⟩:=hw;refine Ee tok kp1 Tryz.func37 rfl Kk Kk Kn fun M0=>?_;rw[Tryz.results37];have hE:=M0;try simp only[zzs] at hE
 repeat(obtain⟨J0,hE⟩:=hE)
 repeat' first
  |with_reducible first|refine Zd ?_ |refine Ae (fun _=>?_) fun _=>?_ |refine Nb fun nb A0 C0 B0=>?_
  |simp -dsimp -implicitDefEqProofs (disch:=first|exact Kd|fail) only[go_sem,↓reduceIte,seval]
 ·rename_i P3;have Z4:xs.length=ys.length:=by omega
  refine Je tok kp1 Kk [0,1,4,12,13] (fun n G' l H'=> ∃i:Nat,i+n=xs.length∧(∀j (h:j<xs.length),j<i→xs[j]=ys[j])∧G'=G∧H'=H∧l=[(0, .slice a xs.length cap),(1, .slice a' ys.length cap'),(4, .bool false),(12, .int .i64 xs.length),(13, .int .i64 i)]) (xs.length) (Ce ?_) ?_
  ·exact⟨0,by omega,fun j _ h=>by omega,rfl,rfl,rfl⟩
  ·rintro n G' l H' S0 hs ⟨i,hi,B1,rfl,rfl,rfl⟩;by_cases Y0:i<xs.length
   ·have Uc:i<ys.length:=by omega
    repeat' first
     |with_reducible first|refine Zd ?_ |refine Ae (fun _=>?_) fun _=>?_ |refine Nb fun nb A0 C0 B0=>?_
     |with_reducible refine Vf tok mixed kp1 6 [3,7] (.op 0 .plain (.op 1 .plain (.op 2 .plain (.op 3 .held (.op 4 .plain (.op 5 .plain (.op 6 .plain (.op 7 .held (.op 8 .plain .nil))))))))) Kk [0,1] ?_
     |simp -dsimp -implicitDefEqProofs (disch:=first|exact Kd|fail) only[go_sem,↓reduceIte,seval,Ie U0,Ie Tc,Le]
    ·rename_i he
     exact Ce ⟨n - 1,by omega,i+1,by omega,fun j h hj=>by
      by_cases e:j=i
      ·subst e;exact he
      ·exact B1 j h Ko,rfl,rfl,rfl⟩
    ·rename_i he;rw[decide_eq_false (fun e=>he (by subst e;rfl))] at hR;all_goals refine De ?_ hR ?_
     any_goals first|exact Ks|skip
     rfl
   ·obtain rfl:i=xs.length:=by omega
    rw[decide_eq_true (Tg Z4 fun j h1 h2=>B1 j h1 h1)] at hR
    repeat' first
     |with_reducible first|refine Zd ?_ |refine Ae (fun _=>?_) fun _=>?_ |refine Nb fun nb A0 C0 B0=>?_
     |simp -dsimp -implicitDefEqProofs (disch:=first|exact Kd|fail) only[go_sem,↓reduceIte,seval]
    all_goals refine De ?_ hR ?_
    any_goals first|exact Ks|skip
    rfl
 ·rename_i P3;rw[decide_eq_false (fun e=>P3 (by subst e;rfl))] at hR;all_goals refine De ?_ hR ?_
  any_goals first|exact Ks|skip
  rfl
theorem zol {xs ys:List (List Int)} (X1:xs.length≤2000000) (hxl: ∀x∈xs,x.length≤2000000) {ax ay:Option Addr} {cx cy:Nat} {rs rs':List Value} {G:zb} {H:za} {R:Value→zb→za→Prop}
  (hrx:Row G ax rs) (I2:rs.length=xs.length) (M7: ∀i (h:i<xs.length) (h2:i<rs.length),∃b c,rs[i]= .slice b xs[i].length c∧Row G b (xs[i].map (Yd .i64))∧xs[i].length≤c)
  (K8:Row G ay rs') (hrl':rs'.length=ys.length) (hrs': ∀i (h:i<ys.length) (h2:i<rs'.length),∃b c,rs'[i]= .slice b ys[i].length c∧Row G b (ys[i].map (Yd .i64))∧ys[i].length≤c)
  (hR:R (.bool (decide (xs=ys))) G H):FnT Tryz.prog 38 [.slice ax xs.length cx, .slice ay ys.length cy, .func (.func 36) #[] #[]] G H R:=by
 by_cases Z4:xs.length=ys.length
 ·refine Ee tok zlG Tryz.func38 rfl Kk Kk Kn fun M0=>?_;rw[Tryz.results38];have hE:=M0;try simp only[zzs] at hE
  repeat(obtain⟨J0,hE⟩:=hE)
  repeat' first
   |with_reducible first|refine Zd ?_ |refine Ae (fun _=>?_) fun _=>?_ |refine Nb fun nb A0 C0 B0=>?_
   |simp -dsimp -implicitDefEqProofs (disch:=first|exact Kd|fail) only[go_sem,↓reduceIte,seval]
  all_goals try(exfalso;omega)
  refine Je tok zlG Kk [0,1,2,6,15,16,17] (fun n G' l H'=> ∃i:Nat,i+n=xs.length∧(∀j (h:j<xs.length),j<i→xs[j]=(ys[j]'(Z4▸h)))∧G'=G∧H'=H∧l=[(0, .slice ax xs.length cx),(1, .slice ay ys.length cy),(2, .func (.func 36) #[] #[]),(6, .bool false),(15, .slice ax xs.length cx),(16, .int .i64 xs.length),(17, .int .i64 i)]) (xs.length) (Ce ?_) ?_
  ·exact⟨0,by omega,fun j _ h=>by omega,rfl,rfl,rfl⟩
  ·rintro n G' l H' S0 hs ⟨i,hi,B1,rfl,rfl,rfl⟩;by_cases Y0:i<xs.length
   ·have Uc:i<ys.length:=by omega
    obtain⟨b,c,e1,e2,e3⟩:=M7 i Y0 Ko;obtain⟨b',c',f1,f2,f3⟩:=hrs' i Uc Ko;have B3:Adr ax:=hrx.adr Ko;have V6:Adr ay:=K8.adr Ko;have V0:Sl G' (Yd .i64) (.slice b xs[i].length c) xs[i]:=⟨b,c,rfl,e2,e3⟩;have R0:Sl G' (Yd .i64) (.slice b' ys[i].length c') ys[i]:=⟨b',c',rfl,f2,f3⟩
    repeat' first
     |with_reducible first|refine Zd ?_ |refine Ae (fun _=>?_) fun _=>?_ |refine Nb fun nb A0 C0 B0=>?_
     |simp -dsimp -implicitDefEqProofs (disch:=first|exact Kd|fail) only[go_sem,↓reduceIte,seval,Ie hrx,Ie K8,e1,f1]
     |with_reducible refine zhe xs[i] ys[i] (hxl _ (Me Y0)) V0 R0 ?_
    ·rename_i he
     exact Ce ⟨n - 1,by omega,i+1,by omega,fun j h hj=>by
      by_cases e:j=i
      ·subst e;exact he
      ·exact B1 j h Ko,rfl,rfl,rfl⟩
    ·rename_i he;rw[decide_eq_false (fun e=>he (by subst e;rfl))] at hR;all_goals refine De ?_ hR ?_
     any_goals first|exact Ks|skip
     rfl
   ·obtain rfl:i=xs.length:=by omega
    rw[decide_eq_true (Tg Z4 fun j h1 h2=>B1 j h1 h1)] at hR
    repeat' first
     |with_reducible first|refine Zd ?_ |refine Ae (fun _=>?_) fun _=>?_ |refine Nb fun nb A0 C0 B0=>?_
     |simp -dsimp -implicitDefEqProofs (disch:=first|exact Kd|fail) only[go_sem,↓reduceIte,seval]
    all_goals refine De ?_ hR ?_
    any_goals first|exact Ks|skip
    rfl
 ·rw[decide_eq_false fun h=>Z4 (congrArg List.length h)] at hR;refine Ee tok zlG Tryz.func38 rfl Kk Kk Kn fun M0=>?_;rw[Tryz.results38];have hE:=M0;try simp only[zzs] at hE
  repeat(obtain⟨J0,hE⟩:=hE)
  repeat' first
   |with_reducible first|refine Zd ?_ |refine Ae (fun _=>?_) fun _=>?_ |refine Nb fun nb A0 C0 B0=>?_
   |simp -dsimp -implicitDefEqProofs (disch:=first|exact Kd|fail) only[go_sem,↓reduceIte,seval]
  all_goals try(exfalso;omega)
  all_goals refine De ?_ hR ?_
  any_goals first|exact Ks|skip
  rfl
theorem zxI {d e:DfaT} (P0:zr d) {G:zb} {H:za} {R:Value→zb→za→Prop} {v w:Value} (hv:IsD G d v) (hw:IsD G e w) (hR:R (.bool (zaz (d=e))) G H):FnT Tryz.prog 21 [v,w] G H R:=by
 obtain⟨C,an,al,ay,cn,cl,cs,rs,rfl,O⟩:=hv.opened;obtain⟨C',an',al',ay',cn',cl',cs',rs',rfl,O'⟩:=hw.opened;obtain⟨U3,M2,V3,A4,M4⟩:=id P0;have N0:=O.len;have D1:=O.w;have J1:=O.n;have X0:=O.l;have S2:=O.s;have E4:=O.of;have D8:=O'.len;have hDw:=O'.w;have hDn:=O'.n;have hDx:=O'.l;have hDs:=O'.s;have hDo:=O'.of;have heq:eqT T 9 22 (zb4 d.of) (zb4 e.of)=some (decide (d.of=e.of)):=zj0 (d:=7) (t:=22) (e:=5) (n:=256) (k:= .u8) rfl rfl rfl O.ofl O'.ofl;by_cases h1:d.of=e.of
 ·by_cases h2:d.width=e.width
  ·by_cases h3:d.label=e.label
   ·by_cases h4:d.names=e.names
    ·by_cases h5:d.next=e.next
     ·rw[zA (DfaT.ext2 h1 h2 h5 h3 h4)] at hR;refine Ee tok zj4 Tryz.func21 rfl Kk Kk Kn fun M0=>?_;rw[Tryz.results21];have hE:=M0;try simp only[zzs] at hE
      repeat(obtain⟨J0,hE⟩:=hE)
      repeat' first
       |with_reducible first|refine Zd ?_ |refine Ae (fun _=>?_) fun _=>?_ |refine Nb fun nb A0 C0 B0=>?_
       |simp -dsimp -implicitDefEqProofs (disch:=first|exact Kd|fail) only[go_sem,↓reduceIte,seval, -He,Ye,N0,D1,J1,X0,S2,E4,D8,hDw,hDn,hDx,hDs,hDo,heq,decide_eq_true h1,decide_eq_true h2,decide_eq_true h3,decide_eq_true h4,decide_eq_true h5]
       |with_reducible refine zhe _ _ V3 O.label O'.label ?_
       |with_reducible refine zj7 _ _ A4 O.names O'.names ?_
       |with_reducible refine zol U3 M2 O.rn O.rnl O.rs O'.rn O'.rnl O'.rs ?_
      all_goals refine De ?_ hR ?_
      any_goals first|exact Ks|skip
      all_goals rfl
     ·rw[zu fun h=>h5 (congrArg DfaT.next h)] at hR;refine Ee tok zj4 Tryz.func21 rfl Kk Kk Kn fun M0=>?_;rw[Tryz.results21];have hE:=M0;try simp only[zzs] at hE
      repeat(obtain⟨J0,hE⟩:=hE)
      repeat' first
       |with_reducible first|refine Zd ?_ |refine Ae (fun _=>?_) fun _=>?_ |refine Nb fun nb A0 C0 B0=>?_
       |simp -dsimp -implicitDefEqProofs (disch:=first|exact Kd|fail) only[go_sem,↓reduceIte,seval, -He,Ye,N0,D1,J1,X0,S2,E4,D8,hDw,hDn,hDx,hDs,hDo,heq,decide_eq_true h1,decide_eq_true h2,decide_eq_true h3,decide_eq_true h4,decide_eq_false h5]
       |with_reducible refine zhe _ _ V3 O.label O'.label ?_
       |with_reducible refine zj7 _ _ A4 O.names O'.names ?_
       |with_reducible refine zol U3 M2 O.rn O.rnl O.rs O'.rn O'.rnl O'.rs ?_
      all_goals refine De ?_ hR ?_
      any_goals first|exact Ks|skip
      all_goals rfl
    ·rw[zu fun h=>h4 (congrArg DfaT.names h)] at hR;refine Ee tok zj4 Tryz.func21 rfl Kk Kk Kn fun M0=>?_;rw[Tryz.results21];have hE:=M0;try simp only[zzs] at hE
     repeat(obtain⟨J0,hE⟩:=hE)
     repeat' first
      |with_reducible first|refine Zd ?_ |refine Ae (fun _=>?_) fun _=>?_ |refine Nb fun nb A0 C0 B0=>?_
      |simp -dsimp -implicitDefEqProofs (disch:=first|exact Kd|fail) only[go_sem,↓reduceIte,seval, -He,Ye,N0,D1,J1,X0,S2,E4,D8,hDw,hDn,hDx,hDs,hDo,heq,decide_eq_true h1,decide_eq_true h2,decide_eq_true h3,decide_eq_false h4]
      |with_reducible refine zhe _ _ V3 O.label O'.label ?_
      |with_reducible refine zj7 _ _ A4 O.names O'.names ?_
     all_goals refine De ?_ hR ?_
     any_goals first|exact Ks|skip
     all_goals rfl
   ·rw[zu fun h=>h3 (congrArg DfaT.label h)] at hR;refine Ee tok zj4 Tryz.func21 rfl Kk Kk Kn fun M0=>?_;rw[Tryz.results21];have hE:=M0;try simp only[zzs] at hE
    repeat(obtain⟨J0,hE⟩:=hE)
    repeat' first
     |with_reducible first|refine Zd ?_ |refine Ae (fun _=>?_) fun _=>?_ |refine Nb fun nb A0 C0 B0=>?_
     |simp -dsimp -implicitDefEqProofs (disch:=first|exact Kd|fail) only[go_sem,↓reduceIte,seval, -He,Ye,N0,D1,J1,X0,S2,E4,D8,hDw,hDn,hDx,hDs,hDo,heq,decide_eq_true h1,decide_eq_true h2,decide_eq_false h3]
     |with_reducible refine zhe _ _ V3 O.label O'.label ?_
    all_goals refine De ?_ hR ?_
    any_goals first|exact Ks|skip
    all_goals rfl
  ·rw[zu fun h=>h2 (congrArg DfaT.width h)] at hR;refine Ee tok zj4 Tryz.func21 rfl Kk Kk Kn fun M0=>?_;rw[Tryz.results21];have hE:=M0;try simp only[zzs] at hE
   repeat(obtain⟨J0,hE⟩:=hE)
   repeat' first
    |with_reducible first|refine Zd ?_ |refine Ae (fun _=>?_) fun _=>?_ |refine Nb fun nb A0 C0 B0=>?_
    |simp -dsimp -implicitDefEqProofs (disch:=first|exact Kd|fail) only[go_sem,↓reduceIte,seval, -He,Ye,N0,D1,J1,X0,S2,E4,D8,hDw,hDn,hDx,hDs,hDo,heq,decide_eq_true h1,decide_eq_false h2]
   all_goals refine De ?_ hR ?_
   any_goals first|exact Ks|skip
   all_goals rfl
 ·rw[zu fun h=>h1 (congrArg DfaT.of h)] at hR;refine Ee tok zj4 Tryz.func21 rfl Kk Kk Kn fun M0=>?_;rw[Tryz.results21];have hE:=M0;try simp only[zzs] at hE
  repeat(obtain⟨J0,hE⟩:=hE)
  repeat' first
   |with_reducible first|refine Zd ?_ |refine Ae (fun _=>?_) fun _=>?_ |refine Nb fun nb A0 C0 B0=>?_
   |simp -dsimp -implicitDefEqProofs (disch:=first|exact Kd|fail) only[go_sem,↓reduceIte,seval, -He,Ye,N0,D1,J1,X0,S2,E4,D8,hDw,hDn,hDx,hDs,hDo,heq,decide_eq_false h1]
  all_goals refine De ?_ hR ?_
  any_goals first|exact Ks|skip
  all_goals rfl
def d3:DfaT:=⟨Fe 256 0,1,[[0]],[1],[[120]]⟩
theorem zzI:zcD [120]=true:=zfc.2 ⟨by decide,by decide,fun i h=>by
 match i,(show i<1 from h) with
 |0,_=>exact(by decide:zf2 120 true=true)⟩
theorem zom:zg d3:=by
 refine⟨by decide,by decide,rfl,by decide+kernel,by decide+kernel,?_,fun s h1 h2=>?_⟩
 ·refine⟨by decide,fun i h=>?_⟩;have h1:i<1:=h
  match i,h1 with
  |0,_=>exact⟨zzI,(by decide: ¬([120]:List UInt8)∈([]:List (List UInt8)))⟩
 have e: ∀s:Fin 1,((d3.next[s.val]'s.isLt).length:Int)=d3.width∧0≤d3.label[s.val]'s.isLt∧d3.label[s.val]'s.isLt≤d3.names.length∧ ∀t∈d3.next[s.val]'s.isLt,0≤t∧t<d3.label.length:=by decide+kernel
 exact e ⟨s,h1⟩
theorem zon:zr d3:=⟨by decide,by decide,by decide,by decide,by decide⟩
theorem zyB:Fit d3:=⟨zom,We,fun x hx=>by
 have:x=0:=List.eq_of_mem_replicate hx;omega⟩
theorem zk1:(zaI d3).length=18:=by
 unfold zaI;rw[Ve,zX];have:(zaK d3).length=14:=by decide+kernel
 omega
theorem zAv:zf zz 256 [Yd .i64 1]=zc d3 (.slice none 0 0) (.slice none 0 0) (.slice none 0 0):=by
 have h0:zz=u8L d3.of++[Yd .i64 0,Wf none 0 0,Wf none 0 0,Wf none 0 0]:=by
  unfold d3 u8L;rw[List.map_replicate]
 rw[h0];exact zc2 (d:=d3) We
theorem zpQ:V.Callee Tryz.prog 5:=⟨_,_,Tryz.func5,rfl,by kernel_rfl⟩
theorem zlQ {G:zb} {H:za} {R:Value→zb→za→Prop} (hR: ∀G',PLe G G'→Sep G' (zm H)→R (.bool true) G' H):FnT Tryz.prog 11 [] G H R:=by
 have hd:d3.of.length=256:=We;have U1: ∀x:Value,Fe 1 x=[x]:=fun _=>rfl;have Z0: ∀a b c:Value,(zc d3 a b c).length=260:=fun a b c=>zN hd _ _ _;have X7: ∀a b c:Value,Hf 260 (zc d3 a b c)=zc d3 a b c:=fun a b c=>zbQ hd _ _ _;have U5: ∀a b c x:Value,zf (zc d3 a b c) 257 [x]=zc d3 x b c:=fun a b c x=>zbi hd _ _ _ _;have K4: ∀a b c x:Value,zf (zc d3 a b c) 258 [x]=zc d3 a x c:=fun a b c x=>zaH hd _ _ _ _;have Hd: ∀a b c x:Value,zf (zc d3 a b c) 259 [x]=zc d3 a b x:=fun a b c x=>zcG hd _ _ _ _
 have T4: ∀a b c:Value,zf zz 0 (zc d3 a b c)=zc d3 a b c:=fun a b c=>by
  unfold zf;rw[Se,Af,Gf (by rw[zj,Z0];omega),Bf]
 have S3: ∀ (a:Option Addr) (n c:Nat) (a':Option Addr) (n' c':Nat) (a2:Option Addr) (n2 c2:Nat),(zc d3 (.slice a n c) (.slice a' n' c') (.slice a2 n2 c2)).all zax=true:=fun _ _ _ _ _ _ _ _ _=>zaC rfl rfl rfl;refine Zf ?_;refine Ee tok [0,1,2,3,4,5] Tryz.func11 rfl Kk Kk Kn fun M0=>?_;rw[Tryz.results11];have hE:=M0;try simp only[zzs] at hE
 repeat(obtain⟨J0,hE⟩:=hE)
 repeat' first
  |with_reducible first|refine Zd ?_ |refine Ae (fun _=>?_) fun _=>?_ |refine Nb fun nb A0 C0 B0=>?_ |refine Nr fun nb D0 E0 A0 I0 C0 B0=>?_
  |simp -dsimp -implicitDefEqProofs (disch:=first|exact Kd|fail) only[go_sem,↓reduceIte,seval, -He,Ye,U1,zj,zAv,Z0,X7,U5,K4,Hd,T4,S3]
 rename_i c1 y11 y12 y13 c2 y21 y22 y23 c3 y31 y32 y33 c4 y41 y42 y43;obtain⟨b1,e0⟩: ∃x,x=nb:=⟨_,rfl⟩;subst e0;obtain⟨D,hD⟩: ∃D,D=zc d3 (.slice (some ⟨c2,0,none⟩) 1 1) (.slice (some ⟨c3,0,none⟩) 1 1) (.slice (some ⟨c4,0,none⟩) 1 1):=⟨_,rfl⟩;rw[←hD];refine FnT.pre zpQ (Oe (H':=(c4, .cells [Value.string {data:= #[120]}] [] 9):: (c3, .cells [.int .i64 1] [] 3):: (c2, .cells [.slice (some ⟨c1,0,none⟩) 1 1] [] 24):: (c1, .cells [.int .i64 0] [] 3):: (b1, .cells D [] 27)::H) Ks ?_);refine Upd.trans (Jf Ka fun G1 N2 V0 r5=>?_);refine Upd.trans (Jf V0.1.1 fun G2 Q0 R0 r4=>?_);refine Upd.trans (Jf R0.1.1 fun G3 A1 K1 r3=>?_);refine Jf K1.1.1 fun G4 Z1 S1 r2=>?_;have k3:=Z1;have k2:=A1.trans k3;have k1:=Q0.trans k2;have k0:=N2.trans k1
 have hI:IsD G4 d3 (.agg D.toArray):=by
  rw[hD];refine⟨hd,fun x hx=>?_,_,_,_,rfl,⟨some ⟨c2,0,none⟩,1,_,rfl,r3.mono k3,rfl,by decide,fun i h h2=>?_⟩,⟨some ⟨c3,0,none⟩,1,rfl,r4.mono k2,by decide⟩,⟨some ⟨c4,0,none⟩,1,rfl,r5.mono k1,by decide⟩⟩
  ·have:x=0:=List.eq_of_mem_replicate hx;omega
  ·have h3:i<1:=h
   match i,h3 with
   |0,_=>exact⟨_,_,rfl,r2,Qe 1⟩
 have D8:D.length=260:=by rw[hD];exact Z0 _ _ _
 have hD1:=zlO hI;have hDt:Hf 260 D=D:=Pe Ko;have hDp:=zlP D8;clear hD;refine zok zon hI fun G5 v5 A2 P1 Sb=>?_;rw[zgJ zom] at Sb⊢;have Sb:Sl G5 zp v5 (zaI d3):=Sb;have hsl0:=Sb;obtain⟨a5,c5,rfl,U7,hc5⟩:=Sb;rw[zk1] at *;have hE:=P1;try simp only[zzs] at hE
 repeat(obtain⟨J0,hE⟩:=hE)
 repeat' first
  |with_reducible first|refine Zd ?_ |refine Ae (fun _=>?_) fun _=>?_ |refine Nb fun nb A0 C0 B0=>?_ |refine Nr fun nb D0 E0 A0 I0 C0 B0=>?_
  |simp -dsimp -implicitDefEqProofs (disch:=first|exact Kd|fail) only[go_sem,↓reduceIte,seval, -He,Ye,D8,hD1,hDt,hDp]
 refine zxH (by rw[zk1];omega) hsl0 fun G6 v6 Q1 E3 hI6=>?_;rw[zmu zyB] at hI6⊢;have hI6:IsD G6 d3 v6:=hI6;obtain⟨C2,an2,al2,ay2,cn2,cl2,cs2,rs2,rfl,O2⟩:=hI6.opened;have V4:=O2.len;have Y6:=zlO O2.is;have Z6:=zlP V4;have A7:Hf 260 C2=C2:=Pe Ko;have C6:=Row.midB (n:=4) (m:=0) (c:=c5) (l:=zaI d3) (U7.mono Q1) (by rw[zk1];exact hc5) (by rw[zk1];omega) Ko;rw[Hh,(zcL d3).2.1] at C6;have hrd6:=Row.rdSlAll (n:=4) C6 (by rw[Be];rfl);have B9:zb6=[68,66,76,49]:=rfl;have hE:=E3;try simp only[zzs] at hE
 repeat(obtain⟨J0,hE⟩:=hE)
 repeat' first
  |with_reducible first|refine Zd ?_ |refine Ae (fun _=>?_) fun _=>?_ |refine Nb fun nb A0 C0 B0=>?_ |refine Nr fun nb D0 E0 A0 I0 C0 B0=>?_
  |simp -dsimp -implicitDefEqProofs (disch:=first|exact Kd|fail) only[go_sem,↓reduceIte,seval, -He,Ye,D8,hD1,hDt,hDp,V4,Y6,Z6,A7,zj,hrd6,B9,Be]
  |with_reducible refine zxI zon O2.is (hI.mono (A2.trans Q1)) ?_
  |with_reducible refine zn1 (b:=[]) (Pg _) (Sl.nil _ _) ?_
 ·unfold zo;refine Xf (H':=H) Ks ?_;rw[show decide (((zbv []:Nat):Int)=2166136261)=true from rfl];exact fun _ hs=>hR G6 (k0.trans (A2.trans Q1)) hs
 ·rename_i h;rw[zA trivial] at h;cases h
 ·rename_i h;exact absurd rfl h
section
variable {α:Type} [DecidableEq α] {β:Type} [DecidableEq β]
theorem zk2 (l:List α):zd (zd l)=zd l:=
 zdj (zt l) fun i j hi hj=>by
  rw[zt] at hi hj;exact zdY hi hj
theorem zfp (l:List α) {i:Nat} (h:i<l.length):(zl (l.take (i+1))).length=(zl (l.take i)).length+if l[i]∈l.take i then 0 else 1:=by
 rw[Re h,zaG];simp only[zK];split
 ·rfl
 ·rw[Ve];rfl
theorem zg0 {a:List α} {b:List β} (X1:b.length=a.length) (hf: ∀i j (hi:i<b.length) (hj:j<b.length),b[i]=b[j]→a[i]'(X1▸hi)=a[j]'(X1▸hj)):
  ∀k,k≤a.length→(zl (a.take k)).length≤(zl (b.take k)).length∧((zl (a.take k)).length=(zl (b.take k)).length→ ∀i (hi:i<k) (h1:i<a.length) (h2:i<b.length),a[i]∈a.take i→b[i]∈b.take i)
 |0,_=>⟨Qe _,fun _ i hi=>by omega⟩
 |k+1,hk=>by
  obtain⟨h1,h2⟩:=zg0 X1 hf k Ko;have hka:k<a.length:=hk;have W9:k<b.length:=by omega
  rw[zfp a hka,zfp b W9]
  have T1:b[k]∈b.take k→a[k]∈a.take k:=fun h=>by
   rw[zaQ] at h⊢;obtain⟨j,hj,e⟩:=h;exact⟨j,hj,hf j k Ko W9 e⟩
  by_cases hb:b[k]∈b.take k
  ·rw[if_pos (T1 hb),if_pos hb];refine⟨by omega,fun e i hi g1 g2 g3=>?_⟩;rcases Eg i k with h|h
   ·exact h2 Ko i h g1 g2 g3
   ·obtain rfl:i=k:=by omega
    exact hb
  ·rw[if_neg hb];by_cases ha:a[k]∈a.take k
   ·rw[if_pos ha];exact⟨by omega,fun e=>by omega⟩
   ·rw[if_neg ha];refine⟨by omega,fun e i hi g1 g2 g3=>?_⟩;rcases Eg i k with h|h
    ·exact h2 Ko i h g1 g2 g3
    ·obtain rfl:i=k:=by omega
     exact(ha g3).elim
theorem zxJ {a:List α} {b:List β} (X1:b.length=a.length) (hf: ∀i j (hi:i<b.length) (hj:j<b.length),b[i]=b[j]→a[i]'(X1▸hi)=a[j]'(X1▸hj)) (he:(zl a).length=(zl b).length):zd b=zd a:=by
 have hm:=(zg0 X1 hf a.length (Qe _)).2;have Oa:b.take a.length=b:=by rw[←X1,Te]
 rw[Te,Oa] at hm;have hm:=hm he
 have key: ∀i,∀ (hi:i<a.length) (p:Nat) (hp:p<a.length),p≤i→a[p]∉a.take p→a[p]=a[i]→b[i]'(X1▸hi)=b[p]'(X1▸hp):=by
  intro i hi p hp hpi W4 hap;obtain⟨q,hq1,hq2,⟨hq3,hq4⟩,hq5⟩:=zaU (l:=b) (i:=i) (X1▸hi)
  have hqn:b[q]∉b.take q:=by
   obtain⟨q',g1,g2,⟨g3,g4⟩,g5⟩:=zaU (l:=b) (i:=q) hq3;rw[←hq4] at hq1;rw[hq1] at g1;cases g1;exact g5.1 rfl
  have hqa:q<a.length:=by omega
  have haq:a[q]∉a.take q:=fun h=>hqn (hm q hqa hqa hq3 h);have M8:a[q]=a[i]:=hf q i hq3 (X1▸hi) hq4
  have:q=p:=by
   rcases Sh q p with h|h|h
   ·exact(W4 ((zaQ hp).2 ⟨q,h,by rw[M8,hap]⟩)).elim
   ·exact h
   ·exact(haq ((zaQ hqa).2 ⟨p,h,by rw[M8,hap]⟩)).elim
  subst this;exact hq4.symm
 refine zdj X1 fun i j hi hj=>⟨hf i j hi hj,fun e=>?_⟩;have hia:i<a.length:=X1▸hi;have hja:j<a.length:=X1▸hj;obtain⟨p,h1,h2,⟨h3,h4⟩,h5⟩:=zaU hia;obtain⟨p',g1,g2,⟨g3,g4⟩,g5⟩:=zaU hja
 have:p'=p:=by
  rw[←e,h1] at g1;exact(Option.some.inj g1).symm
 subst this
 have W4:a[p']∉a.take p':=by
  obtain⟨q',k1,k2,⟨k3,k4⟩,k5⟩:=zaU h3;rw[←h4] at h1;rw[h1] at k1;cases k1;exact k5.1 rfl
 rw[key i hia p' h3 h2 W4 h4,key j hja p' h3 g2 W4 g4]
end
def zlR (d:DfaT) (l:List Int) (k:Nat):List Int:=d.next.map fun r=>atL l (atL r k)
theorem zoo (d:DfaT) (l:List Int) (k:Nat):(zlR d l k).length=d.next.length:=by simp [zlR]
def rdk (d:DfaT) (l:List Int):Nat→List Int
 |0=>l
 |k+1=>zd ((rdk d l k).zip (zlR d l k))
def rdD (d:DfaT) (l:List Int):List Int:=rdk d l d.width.toNat
def lvl (d:DfaT):Nat→List Int
 |0=>zd d.label
 |i+1=>rdD d (lvl d i)
theorem zhf {d:DfaT} {l:List Int} (h:l.length=d.next.length): ∀k,(rdk d l k).length=d.next.length
 |0=>h
 |k+1=>by
  show(zd _).length=_;rw[zt,Ih,zhf h k,zoo];omega
theorem zvB {d:DfaT} {l:List Int} (h:zd l=l): ∀k,zd (rdk d l k)=rdk d l k
 |0=>h
 |k+1=>zk2 _
theorem zqs {d:DfaT} {l:List Int} (h:l.length=d.next.length): ∀k,∀i j (hi:i<d.next.length) (hj:j<d.next.length),
  ((rdk d l k)[i]'(by rw[zhf h];exact hi)=(rdk d l k)[j]'(by rw[zhf h];exact hj)↔l[i]'(h▸hi)=l[j]'(h▸hj)∧ ∀c,c<k→atL l (atL d.next[i] c)=atL l (atL d.next[j] c))
 |0,i,j,hi,hj=>⟨fun e=>⟨e,fun c hc=>by omega⟩,fun e=>e.1⟩
 |k+1,i,j,hi,hj=>by
  have hz:((rdk d l k).zip (zlR d l k)).length=d.next.length:=by rw[Ih,zhf h k,zoo];omega
  have h1:=zdY (l:=(rdk d l k).zip (zlR d l k)) (i:=i) (j:=j) Ko Ko;refine Iff.trans h1 ?_;rw[Dh,Dh,Prod.mk.injEq,zqs h k i j hi hj];simp only[zlR,Le];constructor
  ·rintro⟨⟨e1,e2⟩,e3⟩;refine⟨e1,fun c hc=>?_⟩;rcases Eg c k with g|g
   ·exact e2 c g
   ·obtain rfl:c=k:=by omega
    exact e3
  ·rintro⟨e1,e2⟩;exact⟨⟨e1,fun c hc=>e2 c Ko⟩,e2 k Ko⟩
theorem zP {d:DfaT} (h:d.next.length=d.label.length): ∀i,(lvl d i).length=d.next.length
 |0=>by rw[h];exact zt _
 |i+1=>zhf (zP h i) _
theorem zbL (d:DfaT): ∀i,zd (lvl d i)=lvl d i
 |0=>zk2 _
 |i+1=>zvB (zbL d i) _
theorem zf7 {d:DfaT} (h:d.next.length=d.label.length) {s t:Nat} (hs:s<d.label.length) (ht:t<d.label.length):((lvl d 0)[s]'(by rw[zP h];omega)=(lvl d 0)[t]'(by rw[zP h];omega))↔d.label[s]=d.label[t]:=zdY hs ht
theorem zd3 {d:DfaT} (h:d.next.length=d.label.length) (i:Nat) {s t:Nat} (hs:s<d.next.length) (ht:t<d.next.length):((lvl d (i+1))[s]'(by rw[zP h];omega)=(lvl d (i+1))[t]'(by rw[zP h];omega))↔
  (lvl d i)[s]'(by rw[zP h];omega)=(lvl d i)[t]'(by rw[zP h];omega)∧ ∀c,c<d.width.toNat→atL (lvl d i) (atL d.next[s] c)=atL (lvl d i) (atL d.next[t] c):=zqs (zP h i) _ s t hs ht
theorem zop {d:DfaT} {i:Nat} (h:lvl d (i+1)=lvl d i): ∀j,lvl d (i+j)=lvl d i
 |0=>rfl
 |j+1=>by
  show rdD d (lvl d (i+j))=_;rw[zop h j];exact h
theorem zfe {d:DfaT} {i j:Nat} (h:lvl d (i+1)=lvl d i) (hj:i≤j):lvl d j=lvl d i:=by
 obtain⟨c,rfl⟩:=Nat.exists_eq_add_of_le hj;exact zop h c
theorem zvC {d:DfaT} (h:d.next.length=d.label.length) {i:Nat} (hn:lvl d (i+1)≠lvl d i):(zl (lvl d i)).length< (zl (lvl d (i+1))).length:=by
 have X1:(lvl d (i+1)).length=(lvl d i).length:=by rw[zP h,zP h]
 have hf: ∀x y (hx:x< (lvl d (i+1)).length) (hy:y< (lvl d (i+1)).length),(lvl d (i+1))[x]=(lvl d (i+1))[y]→(lvl d i)[x]'(X1▸hx)=(lvl d i)[y]'(X1▸hy):=fun x y hx hy e=>by
  rw[zP h] at hx hy;exact((zd3 h i hx hy).1 e).1
 have h1:=(zg0 X1 hf _ (Qe _)).1;rw[Te,←X1,Te] at h1;rcases Eg (zl (lvl d i)).length (zl (lvl d (i+1))).length with g|g
 ·exact g
 ·have:=zxJ X1 hf Ko;rw[zbL,zbL] at this;exact(hn this).elim
def zk3 (d:DfaT) (n:Nat):Prop:=n<d.label.length∧lvl d (n+1)=lvl d n∧ ∀i,i<n→lvl d (i+1)≠lvl d i
theorem zlS {d:DfaT} (h:d.next.length=d.label.length) (h1:1≤d.label.length): ∃n,zk3 d n:=by
 have key: ∀m,(∃n,n<m∧lvl d (n+1)=lvl d n∧ ∀i,i<n→lvl d (i+1)≠lvl d i)∨((∀i,i<m→lvl d (i+1)≠lvl d i)∧m+1≤(zl (lvl d m)).length):=by
  intro m;induction m with
  |zero=>
   refine .inr ⟨fun i hi=>by omega,?_⟩;have:0< (lvl d 0).length:=by rw[zP h];omega
   have hm:=(zK (lvl d 0)).2 (Me this);exact List.length_pos_of_mem hm
  |succ m ih=>
   rcases ih with ⟨n,h1,h2,h3⟩| ⟨h1,h2⟩
   ·exact .inl ⟨n,by omega,h2,h3⟩
   ·by_cases he:lvl d (m+1)=lvl d m
    ·exact .inl ⟨m,by omega,he,h1⟩
    ·refine .inr ⟨fun i hi=>?_,?_⟩
     ·rcases Eg i m with g|g
      ·exact h1 i g
      ·obtain rfl:i=m:=by omega
       exact he
     ·have:=zvC h he;omega
 rcases key d.label.length with ⟨n,h1,h2,h3⟩| ⟨_,h2⟩
 ·exact⟨n,h1,h2,h3⟩
 ·have:=zZ (lvl d d.label.length);rw[zP h] at this;omega
theorem zj8 {d:DfaT} (h:d.next.length=d.label.length) {i:Nat} {s t:Nat} (hs:s<d.next.length) (ht:t<d.next.length): ∀j,i≤j→(lvl d j)[s]'(by rw[zP h];omega)=(lvl d j)[t]'(by rw[zP h];omega)→(lvl d i)[s]'(by rw[zP h];omega)=(lvl d i)[t]'(by rw[zP h];omega)
  | 0, hj, e => by obtain rfl : i = 0 := by omega
                   exact e
  |j+1,hj,e=>by
    rcases Eg i (j+1) with g|g
    · exact zj8 h hs ht j Ko ((zd3 h j hs ht).1 e).1
    · obtain rfl:i=j+1:=by omega
      exact e
def zn {α:Type} (f:Nat→α) (i:Nat) (x:α):Nat→α:=fun j=>if j=i then x else f j
theorem zbu {α:Type} (f:Nat→α) (i:Nat) (x:α):zn f i x i=x:=if_pos rfl
theorem zbf {α:Type} (f:Nat→α) {i j:Nat} (x:α) (h:j≠i):zn f i x j=f j:=if_neg h
theorem ze3: ∀ {n:Nat} {l:List Nat},l.Nodup→(∀s∈l,s<n)→l.length≤n
 |0,l,_,h=>by
  cases l with
  |nil=>exact Qe _
  |cons x l=>exact absurd (h x (Jh ..)) (Nat.not_lt_zero _)
 |n+1,l,I6,h=>by
  have h1:(l.filter fun x=>decide (x≠n)).length≤n:=ze3 (I6.filter _) fun s hs=>by
   rw[List.mem_filter,decide_eq_true_eq] at hs;have:=h s hs.1;omega
  have h2: ∀ {l:List Nat},l.Nodup→l.length≤(l.filter fun x=>decide (x≠n)).length+1:=by
   intro l hl;induction l with
   |nil=>simp
   |cons x l ih=>
    rw[List.nodup_cons] at hl;by_cases e:x=n
    ·have hf:l.filter (fun y=>decide (y≠n))=l:=List.filter_eq_self.2 fun y hy=>by
      rw[decide_eq_true_eq];intro e2;subst e2;subst e;exact hl.1 hy
     rw[List.filter_cons,if_neg (by simp [e]),hf];simp
    ·rw[List.filter_cons,if_pos (by simp [e])];have:=ih hl.2;simp only[Ph];omega
  have:=h2 I6;omega
structure PInv (n nb:Nat) (st pl bl fr to mk:Nat→Nat):Prop where
 st_lt: ∀i,i<n→st i<n
 pl_lt: ∀s,s<n→pl s<n
 pl_st: ∀i,i<n→pl (st i)=i
 st_pl: ∀s,s<n→st (pl s)=s
 bl_lt: ∀s,s<n→bl s<nb
 lo: ∀s,s<n→fr (bl s)≤pl s
 hi: ∀s,s<n→pl s<to (bl s)
 ne: ∀b,b<nb→fr b<to b
 le: ∀b,b<nb→to b≤n
 mk_le: ∀b,b<nb→fr b+mk b≤to b
 own: ∀b i,b<nb→fr b≤i→i<to b→bl (st i)=b
section
variable {n nb:Nat} {st pl bl fr to mk:Nat→Nat}
theorem PInv.nb_le (h:PInv n nb st pl bl fr to mk):nb≤n:=by
 -- each block has a first state
 have key: ∀m,m≤nb→ ∃l:List Nat,l.length=m∧l.Nodup∧ ∀s∈l,s<n∧bl s<m:=by
  intro m;induction m with
  |zero=>exact fun _=>⟨[],rfl,List.nodup_nil,fun s hs=>by cases hs⟩
  |succ m ih=>
   intro hm;obtain⟨l,h1,h2,h3⟩:=ih Ko;have hf:=h.ne m Ko;have ht:=h.le m Ko;have ho:=h.own m (fr m) Ko (Qe _) hf;refine⟨st (fr m)::l,by simp [h1],List.nodup_cons.2 ⟨fun hx=>?_,h2⟩,fun s hs=>?_⟩
   ·have:=(h3 _ hx).2;omega
   ·rcases List.mem_cons.1 hs with rfl|hs
    ·exact⟨h.st_lt _ Ko,by omega⟩
    ·have:=h3 s hs;exact⟨this.1,by omega⟩
 obtain⟨l,h1,h2,h3⟩:=key nb (Qe _);rw[←h1];exact ze3 h2 fun s hs=>(h3 s hs).1
def Mkd (pl bl fr mk:Nat→Nat) (s:Nat):Prop:=pl s<fr (bl s)+mk (bl s)
theorem PInv.mark (h:PInv n nb st pl bl fr to mk) {s:Nat} (hs:s<n) (hm: ¬Mkd pl bl fr mk s):
  PInv n nb (zn (zn st (fr (bl s)+mk (bl s)) s) (pl s) (st (fr (bl s)+mk (bl s)))) (zn (zn pl (st (fr (bl s)+mk (bl s))) (pl s)) s (fr (bl s)+mk (bl s))) bl fr to (zn mk (bl s) (mk (bl s)+1))∧
  (∀x,x<n→(Mkd (zn (zn pl (st (fr (bl s)+mk (bl s))) (pl s)) s (fr (bl s)+mk (bl s))) bl fr (zn mk (bl s) (mk (bl s)+1)) x↔Mkd pl bl fr mk x∨x=s)):=by
 unfold Mkd at hm;have hb:=h.bl_lt s hs;have Q3:=h.lo s hs;have M5:=h.hi s hs;have S0:=h.le _ hb;have Q6:=h.pl_lt s hs;have Ja:=h.st_pl s hs;have Pa:=h.mk_le _ hb;obtain⟨p,hp⟩: ∃p,p=fr (bl s)+mk (bl s):=⟨_,rfl⟩;rw[←hp] at hm Pa⊢;have A5:p<n:=by omega
 obtain⟨t,ht⟩: ∃t,t=st p:=⟨_,rfl⟩;rw[←ht];have L1:t<n:=by rw[ht];exact h.st_lt p A5
 have T7:pl t=p:=by rw[ht];exact h.pl_st p A5
 have Oa:bl t=bl s:=by rw[ht];exact h.own _ p hb Ko Ko
 have P3:t≠s→pl s≠p:=fun e e2=>e (by rw[ht,←e2,Ja]);refine⟨⟨fun i hi=>?_,fun x hx=>?_,fun i hi=>?_,fun x hx=>?_,h.bl_lt,fun x hx=>?_,fun x hx=>?_,h.ne,h.le,fun b F4=>?_,fun b i F4 h1 h2=>?_⟩,fun x hx=>?_⟩
 ·unfold zn;split
  ·exact L1
  ·split
   ·exact hs
   ·exact h.st_lt i hi
 ·unfold zn;split
  ·exact A5
  ·split
   ·exact Q6
   ·exact h.pl_lt x hx
 ·have h0:=h.pl_st i hi;unfold zn;by_cases e1:i=pl s
  ·rw[if_pos e1];by_cases e2:t=s
   ·rw[if_pos e2,←T7,e2,e1]
   ·rw[if_neg e2,if_pos rfl,e1]
  ·rw[if_neg e1];by_cases e2:i=p
   ·rw[if_pos e2,if_pos rfl,e2]
   ·rw[if_neg e2];have e3:st i≠s:=fun e=>e1 (by rw[←e,h0]);have e4:st i≠t:=fun e=>e2 (by rw[←h0,e,T7]);rw[if_neg e3,if_neg e4,h0]
 ·have h0:=h.st_pl x hx;unfold zn;by_cases e1:x=s
  ·rw[if_pos e1];by_cases e2:p=pl s
   ·rw[if_pos e2,e1,ht,e2,Ja]
   ·rw[if_neg e2,if_pos rfl,e1]
  ·rw[if_neg e1];by_cases e2:x=t
   ·rw[if_pos e2,if_pos rfl,e2]
   ·rw[if_neg e2];have e3:pl x≠pl s:=fun e=>e1 (by rw[←h0,e,Ja]);have e4:pl x≠p:=fun e=>e2 (by rw[←h0,e,ht]);rw[if_neg e3,if_neg e4,h0]
 ·have h0:=h.lo x hx;unfold zn;by_cases e1:x=s
  ·rw[if_pos e1,e1];omega
  ·rw[if_neg e1];by_cases e2:x=t
   ·rw[if_pos e2,e2,Oa];omega
   ·rw[if_neg e2];exact h0
 ·have h0:=h.hi x hx;unfold zn;by_cases e1:x=s
  ·rw[if_pos e1,e1];omega
  ·rw[if_neg e1];by_cases e2:x=t
   ·rw[if_pos e2,e2,Oa];omega
   ·rw[if_neg e2];exact h0
 ·have h0:=h.mk_le b F4;unfold zn;by_cases e1:b=bl s
  ·rw[if_pos e1,e1];omega
  ·rw[if_neg e1];exact h0
 ·have h0:=h.own b i F4 h1 h2;unfold zn;by_cases e1:i=pl s
  ·rw[if_pos e1,Oa];rw[e1,Ja] at h0;exact h0
  ·rw[if_neg e1];by_cases e2:i=p
   ·rw[if_pos e2];rw[e2,←ht,Oa] at h0;exact h0
   ·rw[if_neg e2];exact h0
 ·have hpx:=h.pl_lt x hx;have hxp:=h.st_pl x hx;unfold Mkd zn;by_cases e1:x=s
  ·rw[if_pos e1,e1,if_pos rfl];exact⟨fun _=> .inr rfl,fun _=>by omega⟩
  ·rw[if_neg e1];by_cases e2:x=t
   ·rw[if_pos e2,e2,Oa,if_pos rfl,T7];have:=P3 (by rw[←e2];exact e1);exact⟨fun _=>by omega,fun h=>by rcases h with h|h <;> omega⟩
   ·rw[if_neg e2];have e4:pl x≠p:=fun e=>e2 (by rw[←hxp,e,ht]);by_cases e3:bl x=bl s
    ·rw[if_pos e3,e3];exact⟨fun _=> .inl Ko,fun h=>by rcases h with h|h <;> omega⟩
    ·rw[if_neg e3];exact⟨.inl,fun h=>by rcases h with h|h <;> omega⟩
theorem PInv.part (h:PInv n nb st pl bl fr to mk) {b:Nat} (hb:b<nb) (h1:1≤mk b) (h2:mk b<to b - fr b):
  PInv n (nb+1) st pl (fun s=>if bl s=b∧pl s<fr b+mk b then nb else bl s) (zn (zn fr b (fr b+mk b)) nb (fr b)) (zn to nb (fr b+mk b)) (zn (zn mk b 0) nb 0):=by
 have P3:=h.ne b hb;have S0:=h.le b hb;refine⟨h.st_lt,h.pl_lt,h.pl_st,h.st_pl,fun s hs=>?_,fun s hs=>?_,fun s hs=>?_,fun c hc=>?_,fun c hc=>?_,fun c hc=>?_,fun c i hc g1 g2=>?_⟩
 ·have:=h.bl_lt s hs;show(if _ then _ else _) <_;split <;> omega
 ·have h3:=h.bl_lt s hs;have h4:=h.lo s hs;show zn _ nb _ (if _ then _ else _)≤_;unfold zn;split
  ·rename_i e;rw[if_pos rfl,←e.1];exact h4
  ·rename_i e;rw[if_neg Ko];by_cases e2:bl s=b
   ·rw[if_pos e2];have: ¬pl s<fr b+mk b:=fun h=>e ⟨e2,h⟩;omega
   ·rw[if_neg e2];exact h4
 ·have h3:=h.bl_lt s hs;have h4:=h.hi s hs;show _<zn _ nb _ (if _ then _ else _);unfold zn;split
  ·rename_i e;rw[if_pos rfl];exact e.2
  ·rename_i e;rw[if_neg Ko];exact h4
 ·have:=h.ne c;unfold zn;by_cases e:c=nb
  ·rw[if_pos e,if_pos e];omega
  ·rw[if_neg e,if_neg e];by_cases e2:c=b
   ·rw[if_pos e2,e2];omega
   ·rw[if_neg e2];exact this Ko
 ·have:=h.le c;unfold zn;by_cases e:c=nb
  ·rw[if_pos e];omega
  ·rw[if_neg e];exact this Ko
 ·have h3:=h.mk_le c;have h4:=h.ne c;unfold zn;by_cases e:c=nb
  ·rw[if_pos e,if_pos e,if_pos e];omega
  ·rw[if_neg e,if_neg e,if_neg e];by_cases e2:c=b
   ·rw[if_pos e2,if_pos e2,e2];omega
   ·rw[if_neg e2,if_neg e2];exact h3 Ko
 ·have h3:=h.own c i;have h4:=h.own b i hb;have T1:=h.le c;unfold zn at g1 g2;show(if _ then _ else _)=_;by_cases e:c=nb
  ·rw[if_pos e] at g1 g2;rw[if_pos ⟨h4 g1 Ko,by rw[h.pl_st i Ko];exact g2⟩,e]
  ·rw[if_neg e] at g1 g2;by_cases e2:c=b
   ·rw[if_pos e2] at g1;rw[e2] at g2;rw[if_neg (by rw[h.pl_st i Ko];omega),h4 Ko g2,e2]
   ·rw[if_neg e2] at g1;have h5:=h3 Ko g1 g2;rw[if_neg (by rw[h5];omega),h5]
theorem PInv.clear (h:PInv n nb st pl bl fr to mk) (b:Nat):PInv n nb st pl bl fr to (zn mk b 0):=by
 refine⟨h.st_lt,h.pl_lt,h.pl_st,h.st_pl,h.bl_lt,h.lo,h.hi,h.ne,h.le,fun c hc=>?_,h.own⟩;have h3:=h.mk_le c hc;have h4:=h.ne c hc;unfold zn;split <;> omega
end
def zcy (ws:List (Nat×Nat)) (x:Nat×Nat):List (Nat×Nat):=if x∈ws then ws else ws++[x]
theorem zhT (ws:List (Nat×Nat)) (x:Nat×Nat):x∈zcy ws x:=by
 unfold zcy;split
 ·assumption
 ·simp
theorem zj9 {ws:List (Nat×Nat)} {x y:Nat×Nat} (h:y∈ws):y∈zcy ws x:=by
 unfold zcy;split
 ·exact h
 ·exact List.mem_append_left _ h
theorem zlT {ws:List (Nat×Nat)} {x y:Nat×Nat} (h:y∈zcy ws x):y∈ws∨y=x:=by
 unfold zcy at h;split at h
 ·exact .inl h
 ·rcases List.mem_append.1 h with h|h
  ·exact .inl h
  ·exact .inr (List.mem_singleton.1 h)
theorem zk4 {ws:List (Nat×Nat)} {x:Nat×Nat} (h:ws.Nodup):(zcy ws x).Nodup:=by
 unfold zcy;split
 ·exact h
 ·rename_i hx;exact List.nodup_append.2 ⟨h,by simp,fun a ha b hb=>by rw[Vg] at hb;subst hb;intro e;subst e;exact hx ha⟩
theorem zka (ws:List (Nat×Nat)) (x:Nat×Nat):(zcy ws x).length≤ws.length+1:=by
 unfold zcy;split <;> simp
def zcb (small:Bool) (old fresh:Nat) (ws:List (Nat×Nat)) (k:Nat):List (Nat×Nat):=if (old,k)∈ws∨small=true then zcy ws (fresh,k) else zcy ws (old,k)
def zcq (small:Bool) (old fresh:Nat) (ws:List (Nat×Nat)) (W:Nat):List (Nat×Nat):=(Hg W).foldl (zcb small old fresh) ws
theorem zk5 (small:Bool) (old fresh:Nat) (ws:List (Nat×Nat)) (W:Nat):zcq small old fresh ws (W+1)=zcb small old fresh (zcq small old fresh ws W) W:=by
 unfold zcq;rw[Sf,List.foldl_append];rfl
theorem zvD {small:Bool} {old fresh:Nat} {ws:List (Nat×Nat)} {k:Nat} {y:Nat×Nat} (h:y∈zcb small old fresh ws k):y∈ws∨y=(fresh,k)∨y=(old,k):=by
 unfold zcb at h;split at h
 ·rcases zlT h with h|h
  ·exact .inl h
  ·exact .inr (.inl h)
 ·rcases zlT h with h|h
  ·exact .inl h
  ·exact .inr (.inr h)
theorem zgK {small:Bool} {old fresh:Nat} {ws:List (Nat×Nat)} {k:Nat} {y:Nat×Nat} (h:y∈ws):y∈zcb small old fresh ws k:=by
 unfold zcb;split <;> exact zj9 h
theorem ziO (small:Bool) (old fresh:Nat) (ws:List (Nat×Nat)): ∀W,(∀y∈ws,y∈zcq small old fresh ws W)∧(∀y∈zcq small old fresh ws W,y∈ws∨((y.1=fresh∨y.1=old)∧y.2<W))∧
  (∀j,j<W→(old,j)∈ws→(fresh,j)∈zcq small old fresh ws W)∧(∀j,j<W→(fresh,j)∈zcq small old fresh ws W∨(old,j)∈zcq small old fresh ws W)∧(zcq small old fresh ws W).length≤ws.length+W∧(ws.Nodup→(zcq small old fresh ws W).Nodup)
 |0=>⟨fun y h=>h,fun y h=> .inl h,fun j h=>by omega,fun j h=>by omega,Qe _,id⟩
 |W+1=>by
  obtain⟨h1,h2,h3,h4,h5,h6⟩:=ziO small old fresh ws W;rw[zk5];refine⟨fun y h=>zgK (h1 y h),fun y h=>?_,fun j hj ho=>?_,fun j hj=>?_,?_,fun I6=>?_⟩
  ·rcases zvD h with h|rfl|rfl
   ·rcases h2 y h with h|h
    ·exact .inl h
    ·exact .inr ⟨h.1,by omega⟩
   ·exact .inr ⟨.inl rfl,Nat.lt_succ_self _⟩
   ·exact .inr ⟨.inr rfl,Nat.lt_succ_self _⟩
  ·rcases Eg j W with g|g
   ·exact zgK (h3 j g ho)
   ·obtain rfl:j=W:=by omega
    unfold zcb;rw[if_pos (.inl (h1 _ ho))];exact zhT _ _
  ·rcases Eg j W with g|g
   ·rcases h4 j g with h|h
    ·exact .inl (zgK h)
    ·exact .inr (zgK h)
   ·obtain rfl:j=W:=by omega
    unfold zcb;split
    ·exact .inl (zhT _ _)
    ·exact .inr (zhT _ _)
  ·unfold zcb;split
   ·have:=zka (zcq small old fresh ws W) (fresh,W);omega
   ·have:=zka (zcq small old fresh ws W) (old,W);omega
  ·unfold zcb;split <;> exact zk4 (h6 I6)
section law
variable {n W:Nat} {bl:Nat→Nat} {dl:Nat→Nat→Nat}
def zdn (n W:Nat) (bl:Nat→Nat) (dl:Nat→Nat→Nat) (ws:List (Nat×Nat)) (k0:Nat) (X:Nat→Prop):Prop:= ∀s t j,s<n→t<n→j<W→bl s=bl t→bl (dl j s)≠bl (dl j t)→(bl (dl j s),j)∈ws∨(bl (dl j t),j)∈ws∨(j=k0∧ ¬(X s↔X t))
theorem zdn.take {ws:List (Nat×Nat)} {b k k1:Nat} (h:zdn n W bl dl (ws++[(b,k)]) k1 fun _=>False):zdn n W bl dl ws k fun s=>bl (dl k s)=b:=by
 intro s t j hs ht hj e ne
 have hm: ∀u v,bl (dl j u)≠bl (dl j v)→(bl (dl j u),j)∈ws++[(b,k)]→(bl (dl j u),j)∈ws∨(j=k∧bl (dl k u)=b∧ ¬bl (dl k v)=b):=fun u v P3 hm=>by
  rcases List.mem_append.1 hm with hm|hm
  ·exact .inl hm
  ·rw[Vg,Prod.mk.injEq] at hm;obtain⟨e1,rfl⟩:=hm;exact .inr ⟨rfl,e1,fun h=>P3 (by rw[e1,h])⟩
 rcases h s t j hs ht hj e ne with h|h|h
 ·rcases hm s t ne h with h| ⟨h1,h2,h3⟩
  ·exact .inl h
  ·exact .inr (.inr ⟨h1,fun g=>h3 (g.1 h2)⟩)
 ·rcases hm t s (Ne.symm ne) h with h| ⟨h1,h2,h3⟩
  ·exact .inr (.inl h)
  ·exact .inr (.inr ⟨h1,fun g=>h3 (g.2 h2)⟩)
 ·exact(h.2 Iff.rfl).elim
theorem zdn.split {ws ws':List (Nat×Nat)} {k0:Nat} {X Y:Nat→Prop} {c nb:Nat} [DecidablePred Y] (E7: ∀j s,j<W→s<n→dl j s<n) (O9: ∀s,s<n→bl s<nb) (h:zdn n W bl dl ws k0 X)
  (h1: ∀y∈ws,y∈ws') (h2: ∀j,j<W→(c,j)∈ws→(nb,j)∈ws') (h3: ∀j,j<W→(nb,j)∈ws'∨(c,j)∈ws'):zdn n W (fun s=>if bl s=c∧Y s then nb else bl s) dl ws' k0 X:=by
 intro s t j hs ht hj e ne;simp only at e ne⊢;have hss:=O9 s hs;have hts:=O9 t ht
 have e0:bl s=bl t:=by
  split at e
  ·rename_i g1;split at e
   ·rename_i g2;rw[g1.1,g2.1]
   ·omega
  ·split at e
   ·omega
   ·exact e
 have both: ∀u,u<n→(bl (dl j u),j)∈ws→((if bl (dl j u)=c∧Y (dl j u) then nb else bl (dl j u)),j)∈ws':=fun u hu hm=>by
  split
  ·rename_i g;rw[g.1] at hm;exact h2 j hj hm
  ·exact h1 _ hm
 by_cases e1:bl (dl j s)=bl (dl j t)
 · -- the targets have just been parted
  rw[e1] at ne⊢;by_cases ec:bl (dl j t)=c
  ·rw[ec] at ne⊢;simp only[true_and] at ne⊢;by_cases y1:Y (dl j s)
   ·rw[if_pos y1] at ne⊢;by_cases y2:Y (dl j t)
    ·rw[if_pos y2] at ne;exact(ne rfl).elim
    ·rw[if_neg y2];rcases h3 j hj with h|h
     ·exact .inl h
     ·exact .inr (.inl h)
   ·rw[if_neg y1] at ne⊢;by_cases y2:Y (dl j t)
    ·rw[if_pos y2];rcases h3 j hj with h|h
     ·exact .inr (.inl h)
     ·exact .inl h
    ·rw[if_neg y2] at ne;exact(ne rfl).elim
  ·rw[if_neg (fun g=>ec g.1),if_neg (fun g=>ec g.1)] at ne;exact(ne rfl).elim
 ·rcases h s t j hs ht hj e0 e1 with h|h|h
  ·exact .inl (both s hs h)
  ·exact .inr (.inl (both t ht h))
  ·exact .inr (.inr h)
theorem zdn.end {ws:List (Nat×Nat)} {k0 k1:Nat} {X:Nat→Prop} (h:zdn n W bl dl ws k0 X) (hx: ∀s t,s<n→t<n→bl s=bl t→(X s↔X t)):zdn n W bl dl ws k1 fun _=>False:=by
 intro s t j hs ht hj e ne;rcases h s t j hs ht hj e ne with h|h|h
 ·exact .inl h
 ·exact .inr (.inl h)
 ·exact(h.2 (hx s t hs ht e)).elim
theorem zdn.done {k0:Nat} (h:zdn n W bl dl [] k0 fun _=>False) {s t j:Nat} (hs:s<n) (ht:t<n) (hj:j<W) (e:bl s=bl t):bl (dl j s)=bl (dl j t):=by
 apply Zg;intro ne;rcases h s t j hs ht hj e ne with h|h|h
 ·cases h
 ·cases h
 ·exact h.2 Iff.rfl
end law
def zk (n:Nat) (f:Nat→Nat):List Value:=(Hg n).map fun i=> .int .i64 (f i:Nat)
theorem zbB (n:Nat) (f:Nat→Nat):(zk n f).length=n:=by simp [zk]
theorem zdD {n:Nat} (f:Nat→Nat) {i:Nat} (h:i<n):(zk n f)[i]? =some (.int .i64 (f i:Nat)):=by
 unfold zk;rw[List.getElem?_map,List.getElem?_range h];rfl
theorem zaW {n:Nat} (f:Nat→Nat) {sp:List Value} {i:Nat} (h:i<n):(zk n f++sp)[i]? =some (.int .i64 (f i:Nat)):=by
 rw[Fh (by rw[zbB];exact h),zdD f h]
theorem zvE (n:Nat) (f:Nat→Nat):(zk n f).all zax=true:=by simp [zk,zax]
theorem zet {n:Nat} {f g:Nat→Nat} (h: ∀i,i<n→f i=g i):zk n f=zk n g:=by
 unfold zk;refine List.map_congr_left fun i hi=>?_;rw[h i (List.mem_range.1 hi)]
theorem zbk {n:Nat} (f:Nat→Nat) {i:Nat} (h:i<n) (x:Nat):zf (zk n f) i [.int .i64 (x:Nat)]=zk n (zn f i x):=by
 unfold zf;apply List.ext_getElem?;intro j;have hl:((zk n f).take i).length=i:=by rw[Ge,zbB];omega
 rcases Eg j n with hj|hj
 ·rw[zdD _ hj];unfold zn;rcases Sh j i with g|g|g
  ·rw[Fh (by rw[Ve,hl];omega),Fh Ko,List.getElem?_take,if_pos g,zdD f hj,if_neg Ko]
  ·subst g;rw[Fh (by rw[Ve,hl];simp),Nf Ko,if_pos rfl];simp [hl]
  ·rw[Nf (by rw[Ve,hl];simp;omega),List.getElem?_drop,if_neg Ko];simp only[Ve,hl,List.length_singleton];rw[show i+1+(j - (i+1))=j by omega,zdD f hj]
 ·rw[List.getElem?_eq_none (by simp [zbB];omega),List.getElem?_eq_none (by rw[zbB];exact hj)]
theorem zxK {l:List Int} {f:Nat→Nat} (h: ∀i (hi:i<l.length),l[i]=(f i:Int)):l.map (Yd .i64)=zk l.length f:=by
 unfold zk;apply Tg
 ·simp
 ·intro i h1 h2;rw[Be] at h1;simp [h i h1]
theorem ztA (n:Nat):Fe n (Yd .i64 0)=zk n fun _=>0:=by
 unfold zk;rw[List.map_const',Qh];rfl
def Rea (a b:Nat) (f g:Nat→Nat):Prop:= ∃σ τ:Nat→Nat,(∀i,τ (σ i)=i)∧(∀i,σ (τ i)=i)∧(∀i,g i=f (σ i))∧ ∀i,i<a∨b≤i→σ i=i
theorem Rea.refl (a b:Nat) (f:Nat→Nat):Rea a b f f:=⟨id,id,fun _=>rfl,fun _=>rfl,fun _=>rfl,fun _ _=>rfl⟩
theorem Rea.trans {a b:Nat} {f g h:Nat→Nat} (h1:Rea a b f g) (h2:Rea a b g h):Rea a b f h:=by
 obtain⟨σ,τ,a1,a2,a3,a4⟩:=h1;obtain⟨σ',τ',b1,b2,b3,b4⟩:=h2;refine⟨fun i=>σ (σ' i),fun i=>τ' (τ i),fun i=>by simp only[a1,b1],fun i=>by simp only[a2,b2],fun i=>by rw[b3,a3],fun i hi=>?_⟩;simp only[b4 i hi,a4 i hi]
theorem Rea.wide {a b a' b':Nat} {f g:Nat→Nat} (h:Rea a b f g) (h1:a'≤a) (h2:b≤b'):Rea a' b' f g:=by
 obtain⟨σ,τ,a1,a2,a3,a4⟩:=h;exact⟨σ,τ,a1,a2,a3,fun i hi=>a4 i Ko⟩
theorem Rea.out {a b:Nat} {f g:Nat→Nat} (h:Rea a b f g) {i:Nat} (hi:i<a∨b≤i):g i=f i:=by
 obtain⟨σ,τ,a1,a2,a3,a4⟩:=h;rw[a3,a4 i hi]
theorem Rea.from {a b:Nat} {f g:Nat→Nat} (h:Rea a b f g) {i:Nat} (h1:a≤i) (h2:i<b): ∃j,a≤j∧j<b∧g i=f j:=by
 obtain⟨σ,τ,a1,a2,a3,a4⟩:=h;refine⟨σ i,?_,?_,a3 i⟩
 ·apply Zg;intro hn;have h3:=a4 (σ i) Ko;have h4:σ i=i:=by rw[←a1 (σ i),h3,a1]
  omega
 ·apply Zg;intro hn;have h3:=a4 (σ i) Ko;have h4:σ i=i:=by rw[←a1 (σ i),h3,a1]
  omega
def zf8 (f:Nat→Nat) (i j:Nat):Nat→Nat:=zn (zn f i (f j)) j (f i)
theorem Rea.swap {a b:Nat} (f:Nat→Nat) {i j:Nat} (h1:a≤i) (h2:i<b) (h3:a≤j) (h4:j<b):Rea a b f (zf8 f i j):=by
 have hinv: ∀x:Nat,(if (if x=j then i else if x=i then j else x)=j then i else if (if x=j then i else if x=i then j else x)=i then j else(if x=j then i else if x=i then j else x))=x:=fun x=>by
  by_cases e1:x=j
  ·subst e1;rw[if_pos rfl];by_cases e2:i=x
   ·rw[if_pos e2,e2]
   ·rw[if_neg e2,if_pos rfl]
  ·rw[if_neg e1];by_cases e2:x=i
   ·rw[if_pos e2,if_pos rfl,e2]
   ·rw[if_neg e2,if_neg e1,if_neg e2]
 refine⟨fun x=>if x=j then i else if x=i then j else x,fun x=>if x=j then i else if x=i then j else x,hinv,hinv,fun x=>?_,fun x hx=>?_⟩
 ·simp only[zf8,zn];repeat' split
  all_goals rfl
 ·simp only;rw[if_neg Ko,if_neg Ko]
def zkb (n:Nat) (f:Nat→Nat):Prop:= ∃p:Nat→Nat,(∀i,i<n→f i<n∧p (f i)=i)∧ ∀s,s<n→p s<n∧f (p s)=s
theorem zkb.rea {n:Nat} {f g:Nat→Nat} (h:zkb n f) (hr:Rea 0 n f g):zkb n g:=by
 obtain⟨p,h1,h2⟩:=h;have V1:=hr;obtain⟨σ,τ,a1,a2,a3,a4⟩:=hr
 have hs: ∀i,i<n→σ i<n:=fun i hi=>by
  apply Zg;intro hn;have h3:=a4 (σ i) Ko;have h4:σ i=i:=by rw[←a1 (σ i),h3,a1]
  omega
 have ht: ∀i,i<n→τ i<n:=fun i hi=>by
  apply Zg;intro hn;have h3:=a4 (τ i) Ko;rw[a2] at h3;omega
 refine⟨fun s=>τ (p s),fun i hi=>?_,fun s hs'=>?_⟩
 ·obtain⟨g1,g2⟩:=h1 (σ i) (hs i hi);rw[a3];exact⟨g1,by show τ (p (f (σ i)))=i;rw[g2,a1]⟩
 ·obtain⟨g1,g2⟩:=h2 s hs';exact⟨ht _ g1,by show g (τ (p s))=s;rw[a3,a2,g2]⟩
def zS (key:Nat→Int) (f:Nat→Nat) (a b:Nat):Prop:= ∀i j,a≤i→i<j→j<b→key (f i)≤key (f j)
theorem zS.le {key:Nat→Int} {f:Nat→Nat} {a b:Nat} (h:zS key f a b) {i j:Nat} (h1:a≤i) (h2:i≤j) (h3:j<b):key (f i)≤key (f j):=by
 rcases Eg i j with g|g
 ·exact h i j h1 g h3
 ·obtain rfl:i=j:=by omega
  exact Int.le_refl _
theorem zS.sub {key:Nat→Int} {f:Nat→Nat} {a b a' b':Nat} (h:zS key f a b) (h1:a≤a') (h2:b'≤b):zS key f a' b':=fun i j g1 g2 g3=>h i j Ko g2 Ko
theorem zS.same {key:Nat→Int} {f g:Nat→Nat} {a b:Nat} (h:zS key f a b) (he: ∀i,a≤i→i<b→g i=f i):zS key g a b:=fun i j g1 g2 g3=>by
 rw[he i g1 Ko,he j Ko g3];exact h i j g1 g2 g3
theorem zS.small {key:Nat→Int} {f:Nat→Nat} {a b:Nat} (h:b≤a+1):zS key f a b:=fun i j g1 g2 g3=>by omega
theorem zS.join {key:Nat→Int} {f:Nat→Nat} {a m b:Nat} (h1:zS key f a m) (h2:zS key f m b) (h3: ∀i j,a≤i→i<m→m≤j→j<b→key (f i)≤key (f j)):zS key f a b:=fun i j g1 g2 g3=>by
 rcases Eg j m with e|e
 ·exact h1 i j g1 g2 e
 ·rcases Eg i m with e2|e2
  ·exact h3 i j g1 e2 e g3
  ·exact h2 i j e2 g2 g3
def upM (f:Nat→Nat) (a k:Nat):Nat→Nat:=fun x=>if a≤x∧x<k then f (x+1) else if x=k then f a else f x
theorem zkc (f:Nat→Nat) (a:Nat):upM f a a=f:=by
 funext x;unfold upM;rw[if_neg Ko];by_cases e:x=a
 ·rw[if_pos e,e]
 ·rw[if_neg e]
theorem zoq (f:Nat→Nat) {a k:Nat} (h:a≤k):zf8 (upM f a k) k (k+1)=upM f a (k+1):=by
 funext x;unfold zf8 zn upM;by_cases e1:x=k+1
 ·rw[if_pos e1,if_neg Ko,if_pos rfl,if_neg Ko,if_pos e1]
 ·rw[if_neg e1];by_cases e2:x=k
  ·rw[if_pos e2,if_neg Ko,if_neg Ko,if_pos Ko,e2]
  ·rw[if_neg e2];by_cases e3:a≤x∧x<k
   ·rw[if_pos e3,if_pos Ko]
   ·rw[if_neg e3,if_neg e2,if_neg Ko,if_neg e1]
def dnM (f:Nat→Nat) (m k:Nat):Nat→Nat:=fun x=>if k<x∧x≤m then f (x - 1) else if x=k then f m else f x
theorem zor (f:Nat→Nat) (m:Nat):dnM f m m=f:=by
 funext x;unfold dnM;rw[if_neg Ko];by_cases e:x=m
 ·rw[if_pos e,e]
 ·rw[if_neg e]
theorem zos (f:Nat→Nat) {m k:Nat} (h:k≤m) (h0:0<k):zf8 (dnM f m k) k (k - 1)=dnM f m (k - 1):=by
 funext x;unfold zf8 zn dnM;by_cases e1:x=k - 1
 ·rw[if_pos e1,if_neg Ko,if_pos rfl,if_neg Ko,if_pos e1]
 ·rw[if_neg e1];by_cases e2:x=k
  ·rw[if_pos e2,if_neg Ko,if_neg Ko,if_pos Ko,e2]
  ·rw[if_neg e2];by_cases e3:k<x∧x≤m
   ·rw[if_pos e3,if_pos Ko]
   ·rw[if_neg e3,if_neg e2,if_neg Ko,if_neg e1]
theorem zqt (f:Nat→Nat) {a b:Nat}: ∀k,a≤k→k<b→Rea a b f (upM f a k)
 |0,h,h2=>by
  obtain rfl:a=0:=by omega
  rw[zkc];exact Rea.refl _ _ _
 |k+1,h,h2=>by
  rcases Eg k a with g|g
  ·obtain rfl:a=k+1:=by omega
   rw[zkc];exact Rea.refl _ _ _
  ·rw[←zoq f g];exact(zqt f k g Ko).trans (Rea.swap _ g Ko Ko h2)
theorem zqu (f:Nat→Nat) {a b m:Nat} (hm:m<b): ∀c k,k+c=m→a≤k→Rea a b f (dnM f m k)
 |0,k,h,h2=>by
  obtain rfl:k=m:=by omega
  rw[zor];exact Rea.refl _ _ _
 |c+1,k,h,h2=>by
  have:=zos f (m:=m) (k:=k+1) Ko Ko;rw[Kh] at this;rw[←this];exact(zqu f hm c (k+1) Ko Ko).trans (Rea.swap _ Ko Ko Ko Ko)
theorem zrV {key:Nat→Int} {f:Nat→Nat} {a b i:Nat} (hs:zS key f (a+1) b) (h1:a+1≤i) (h2:i≤b) (Q3: ∀x,a+1≤x→x<i→key (f x) <key (f a)) (M5: ∀x,i≤x→x<b→key (f a)≤key (f x)):zS key (upM f a (i - 1)) a b:=by
 intro x y g1 g2 g3
 have ex: ∀z,a≤z→z<b→(z<i - 1∧upM f a (i - 1) z=f (z+1))∨(z=i - 1∧upM f a (i - 1) z=f a)∨(i≤z∧upM f a (i - 1) z=f z):=fun z z1 z2=>by
  unfold upM;by_cases e:a≤z∧z<i - 1
  ·exact .inl ⟨e.2,by rw[if_pos e]⟩
  ·by_cases e2:z=i - 1
   ·exact .inr (.inl ⟨e2,by rw[if_neg e,if_pos e2]⟩)
   ·exact .inr (.inr ⟨by omega,by rw[if_neg e,if_neg e2]⟩)
 rcases ex x g1 Ko with ⟨a1,a2⟩| ⟨a1,a2⟩| ⟨a1,a2⟩ <;> rcases ex y Ko g3 with ⟨b1,b2⟩| ⟨b1,b2⟩| ⟨b1,b2⟩ <;> rw[a2,b2]
 ·exact hs _ _ Ko Ko Ko
 ·exact Mh (Q3 _ Ko Ko)
 ·exact Int.le_trans (Mh (Q3 _ Ko Ko)) (M5 _ b1 g3)
 ·omega
 ·omega
 ·exact M5 _ b1 g3
 ·omega
 ·omega
 ·exact hs _ _ Ko g2 g3
theorem zrW {key:Nat→Int} {f:Nat→Nat} {a m i:Nat} (hs:zS key f a m) (h1:a≤i) (h2:i≤m) (Q3: ∀x,a≤x→x<i→key (f x)≤key (f m)) (M5: ∀x,i≤x→x<m→key (f m) <key (f x)):zS key (dnM f m i) a (m+1):=by
 intro x y g1 g2 g3
 have ex: ∀z,a≤z→z<m+1→(z<i∧dnM f m i z=f z)∨(z=i∧dnM f m i z=f m)∨(i<z∧dnM f m i z=f (z - 1)):=fun z z1 z2=>by
  unfold dnM;by_cases e:i<z∧z≤m
  ·exact .inr (.inr ⟨e.1,by rw[if_pos e]⟩)
  ·by_cases e2:z=i
   ·exact .inr (.inl ⟨e2,by rw[if_neg e,if_pos e2]⟩)
   ·exact .inl ⟨by omega,by rw[if_neg e,if_neg e2]⟩
 rcases ex x g1 Ko with ⟨a1,a2⟩| ⟨a1,a2⟩| ⟨a1,a2⟩ <;> rcases ex y Ko g3 with ⟨b1,b2⟩| ⟨b1,b2⟩| ⟨b1,b2⟩ <;> rw[a2,b2]
 ·exact hs _ _ g1 g2 Ko
 ·exact Q3 _ g1 a1
 ·exact Int.le_trans (Q3 _ g1 a1) (Mh (M5 _ Ko Ko))
 ·omega
 ·omega
 ·exact Mh (M5 _ Ko Ko)
 ·omega
 ·omega
 ·exact hs _ _ Ko Ko Ko
def zhU (key:Nat→Int) (f:Nat→Nat) (a i j:Nat):Prop:= ∀x y,a≤x→x<y→y≤i→y≠j→key (f x)≤key (f y)
theorem zhU.start {key:Nat→Int} {f:Nat→Nat} {a i:Nat} (h:zS key f a i):zhU key f a i i:=fun x y h1 h2 h3 h4=>h x y h1 h2 Ko
theorem zhU.swap {key:Nat→Int} {f:Nat→Nat} {a i j:Nat} (h:zhU key f a i j) (ha:a<j) (hj:j≤i) (J2:key (f j) <key (f (j - 1))):zhU key (zf8 f j (j - 1)) a i (j - 1):=by
 intro x y h1 h2 h3 h4;have ev: ∀z,zf8 f j (j - 1) z=if z=j - 1 then f j else if z=j then f (j - 1) else f z:=fun z=>rfl;rw[ev,ev,if_neg h4];by_cases e:y=j
 ·rw[if_pos e];by_cases e2:x=j - 1
  ·rw[if_pos e2];omega
  ·rw[if_neg e2,if_neg Ko];exact h x (j - 1) h1 Ko Ko Ko
 ·rw[if_neg e];by_cases e2:x=j - 1
  ·rw[if_pos e2];have:=h (j - 1) y Ko Ko h3 e;omega
  ·rw[if_neg e2];by_cases e3:x=j
   ·rw[if_pos e3];exact h (j - 1) y Ko Ko h3 e
   ·rw[if_neg e3];exact h x y h1 h2 h3 e
theorem zhU.done {key:Nat→Int} {f:Nat→Nat} {a i j:Nat} (h:zhU key f a i j) (ha:a≤j) (hd:j=a∨key (f (j - 1))≤key (f j)):zS key f a (i+1):=by
 intro x y h1 h2 h3;by_cases e:y=j
 ·rcases hd with g|g
  ·omega
  ·subst e;rcases Eg x (y - 1) with q|q
   ·exact Int.le_trans (h x (y - 1) h1 q Ko Ko) g
   ·rw[show x=y - 1 by omega];exact g
 ·exact h x y h1 h2 Ko e
def zbM (f:Nat→Nat) (a b c:Nat):Nat→Nat:=fun x=>if a≤x∧x<a+c then f (x - a+b) else if b≤x∧x<b+c then f (x - b+a) else f x
theorem ztB (f:Nat→Nat) (a b:Nat):zbM f a b 0=f:=by
 funext x;unfold zbM;rw[if_neg Ko,if_neg Ko]
theorem ztC (f:Nat→Nat) {a b c:Nat} (h:a+c<b):zf8 (zbM f a b c) (a+c) (b+c)=zbM f a b (c+1):=by
 funext x;simp only[zf8,zn,zbM];repeat' split
 all_goals first|omega| (congr 1;omega)|rfl
def zcz (f:Nat→Nat) (a m b:Nat):Nat→Nat:=fun x=>if a≤x∧x<a+(b - m) then f (x+(m - a)) else if a+(b - m)≤x∧x<b then f (x - (b - m)) else f x
theorem ztD (f:Nat→Nat) {m i j:Nat} (hi:i≤m) (hj:0<j) (h:j<i):zcz (zbM f (m - i) m j) (m - (i - j)) m (m+j)=zcz f (m - i) m (m+j):=by
 funext x;unfold zcz zbM;by_cases e1:m - i≤x∧x<m - i+(m+j - m)
 ·rw[if_pos e1,if_neg Ko,if_neg Ko,if_pos Ko];congr 1;omega
 ·rw[if_neg e1];by_cases e2:m - i+(m+j - m)≤x∧x<m+j
  ·rw[if_pos e2];by_cases e3:m - (i - j)≤x∧x<m - (i - j)+(m+j - m)
   ·rw[if_pos e3,if_neg Ko,if_pos Ko];congr 1;omega
   ·rw[if_neg e3,if_pos Ko,if_neg Ko,if_neg Ko]
  ·rw[if_neg e2,if_neg Ko,if_neg Ko,if_neg Ko,if_neg Ko]
theorem zrX (f:Nat→Nat) {m i j:Nat} (hi:i≤m) (hj:0<i) (h:i<j):zcz (zbM f (m - i) (m+j - i) i) (m - i) m (m+(j - i))=zcz f (m - i) m (m+j):=by
 funext x;unfold zcz zbM;by_cases e1:m - i≤x∧x<m - i+(m+j - m)
 ·rw[if_pos e1];by_cases e3:m - i≤x∧x<m - i+(m+(j - i) - m)
  ·rw[if_pos e3];by_cases e4:m - i≤x+(m - (m - i))∧x+(m - (m - i)) <m - i+i
   ·omega
   ·rw[if_neg e4,if_neg Ko]
  ·rw[if_neg e3,if_pos Ko,if_pos Ko];congr 1;omega
 ·rw[if_neg e1];by_cases e2:m - i+(m+j - m)≤x∧x<m+j
  ·rw[if_pos e2,if_neg Ko,if_neg Ko,if_neg Ko,if_pos Ko];congr 1;omega
  ·rw[if_neg e2,if_neg Ko,if_neg Ko,if_neg Ko,if_neg Ko]
theorem ztE (f:Nat→Nat) {m i:Nat} (hi:i≤m):zbM f (m - i) m i=zcz f (m - i) m (m+i):=by
 funext x;simp only[zcz,zbM];repeat' split
 all_goals first|omega| (congr 1;omega)|rfl
theorem zvF (f:Nat→Nat) {a m b:Nat} (h1:a≤m) (h2:m≤b):Rea a b f (zcz f a m b):=by
 refine⟨fun x=>if a≤x∧x<a+(b - m) then x+(m - a) else if a+(b - m)≤x∧x<b then x - (b - m) else x,fun x=>if a≤x∧x<m then x+(b - m) else if m≤x∧x<b then x - (m - a) else x,fun x=>?_,fun x=>?_,fun x=>?_,fun x hx=>?_⟩
 ·simp only;by_cases e1:a≤x∧x<a+(b - m)
  ·rw[if_pos e1,if_neg Ko,if_pos Ko];omega
  ·rw[if_neg e1];by_cases e2:a+(b - m)≤x∧x<b
   ·rw[if_pos e2,if_pos Ko];omega
   ·rw[if_neg e2,if_neg Ko,if_neg Ko]
 ·simp only;by_cases e1:a≤x∧x<m
  ·rw[if_pos e1,if_neg Ko,if_pos Ko];omega
  ·rw[if_neg e1];by_cases e2:m≤x∧x<b
   ·rw[if_pos e2,if_pos Ko];omega
   ·rw[if_neg e2,if_neg Ko,if_neg Ko]
 ·simp only[zcz];repeat' split
  all_goals rfl
 ·simp only;rw[if_neg Ko,if_neg Ko]
section merge
variable {key:Nat→Int} {f:Nat→Nat} {a m b mid s:Nat}
structure CutO (key:Nat→Int) (f:Nat→Nat) (a m b mid s:Nat):Prop where
 sa:a≤s
 sm:s≤m
 smid:s≤mid
 eb:mid+m≤b+s
 one: ∀x y,a≤x→x<s→mid+m - s≤y→y<b→key (f x)≤key (f y)
 two: ∀x y,m≤x→x<mid+m - s→s≤y→y<m→key (f x)≤key (f y)
theorem zyC (h1:zS key f a m) (h2:zS key f m b) {lo hi:Nat} (ham:a<m) (hmb:m<b) (Jc:mid=(a+b) / 2) (Q3:lo=if mid<m then mid+m - b else a) (M5:hi=if mid<m then mid else m)
  (V0:lo≤s) (R0:s≤hi) (K6:lo<s→key (f (s - 1))≤key (f (mid+m - s))) (P7:s<hi→key (f (mid+m - 1 - s))≤key (f s)):CutO key f a m b mid s:=by
 have M8:a≤lo∧hi≤m∧hi≤mid∧mid+m≤b+lo∧lo≤hi:=by
  by_cases e:mid<m
  ·rw[if_pos e] at Q3 M5;omega
  ·rw[if_neg e] at Q3 M5;omega
 refine⟨by omega,by omega,by omega,by omega,fun x y g1 g2 g3 g4=>?_,fun x y g1 g2 g3 g4=>?_⟩
 ·rcases Eg lo s with q|q
  ·have e1:=h1.le (i:=x) (j:=s - 1) g1 Ko Ko;have e2:=h2.le (i:=mid+m - s) (j:=y) Ko g3 g4;have e3:=K6 q;omega
  ·by_cases e:mid<m
   ·rw[if_pos e] at Q3;omega
   ·rw[if_neg e] at Q3;omega
 ·rcases Eg s hi with q|q
  ·have e1:=h2.le (i:=x) (j:=mid+m - 1 - s) g1 Ko Ko;have e2:=h1.le (i:=s) (j:=y) Ko g3 g4;have e3:=P7 q;omega
  ·by_cases e:mid<m
   ·rw[if_pos e] at M5;omega
   ·rw[if_neg e] at M5;omega
theorem CutO.parts (h:CutO key f a m b mid s) (h1:zS key f a m) (h2:zS key f m b) {g:Nat→Nat} (hg:g=zcz f s m (mid+m - s)):
  zS key g a s∧zS key g s mid∧zS key g mid (mid+m - s)∧zS key g (mid+m - s) b∧ ∀x y,a≤x→x<mid→mid≤y→y<b→key (g x)≤key (g y):=by
 obtain⟨sa,sm,smid,eb,one,two⟩:=h;have ev1: ∀x,x<s→g x=f x:=fun x hx=>by rw[hg];unfold zcz;rw[if_neg Ko,if_neg Ko]
 have ev2: ∀x,s≤x→x<mid→g x=f (x+(m - s)):=fun x hx N5=>by rw[hg];unfold zcz;rw[if_pos Ko]
 have ev3: ∀x,mid≤x→x<mid+m - s→g x=f (x - (mid+m - s - m)):=fun x hx N5=>by rw[hg];unfold zcz;rw[if_neg Ko,if_pos Ko]
 have ev4: ∀x,mid+m - s≤x→g x=f x:=fun x hx=>by rw[hg];unfold zcz;rw[if_neg Ko,if_neg Ko]
 refine⟨fun i j g1 g2 g3=>?_,fun i j g1 g2 g3=>?_,fun i j g1 g2 g3=>?_,fun i j g1 g2 g3=>?_,fun x y g1 g2 g3 g4=>?_⟩
 ·rw[ev1 i Ko,ev1 j g3];exact h1 i j g1 g2 Ko
 ·rw[ev2 i g1 Ko,ev2 j Ko g3];exact h2 _ _ Ko Ko Ko
 ·rw[ev3 i g1 Ko,ev3 j Ko g3];exact h1 _ _ Ko Ko Ko
 ·rw[ev4 i g1,ev4 j Ko];exact h2 _ _ Ko g2 g3
 ·rcases Eg x s with q|q
  ·rw[ev1 x q];rcases Eg y (mid+m - s) with r|r
   ·rw[ev3 y g3 r];exact h1.le g1 Ko Ko
   ·rw[ev4 y r];exact one x y g1 q r g4
  ·rw[ev2 x q g2];rcases Eg y (mid+m - s) with r|r
   ·rw[ev3 y g3 r];exact two _ _ Ko Ko Ko Ko
   ·rw[ev4 y r];exact h2.le Ko Ko g4
theorem ztF {f1 f2 f3:Nat→Nat} (U3:a≤mid) (M2:mid≤b) (S0: ∀x y,a≤x→x<mid→mid≤y→y<b→key (f1 x)≤key (f1 y)) (r1:Rea a mid f1 f2) (s1:zS key f2 a mid) (r2:Rea mid b f2 f3) (s2:zS key f3 mid b):zS key f3 a b:=by
 refine zS.join (m:=mid) (s1.same fun i g1 g2=>r2.out (.inl g2)) s2 fun i j g1 g2 g3 g4=>?_;rw[r2.out (.inl g2)];obtain⟨j',k1,k2,k3⟩:=r2.from g3 g4;obtain⟨i',l1,l2,l3⟩:=r1.from g1 g2;rw[k3,l3,r1.out (.inr k1)];exact S0 _ _ l1 l2 k1 k2
end merge
def zkd (key:Nat→Int) (f:Nat→Nat) (n w:Nat):Prop:= ∀a,(∃q,a=q * w)→zS key f a (min (a+w) n)
def zke (key:Nat→Int) (f:Nat→Nat) (n w a:Nat):Prop:=(∀c,(∃q,c=q * w)→a≤c→zS key f c (min (c+w) n))∧ ∀c,(∃q,c=q * (2 * w))→c<a→zS key f c (min (c+2 * w) n)
theorem zkd.start {key:Nat→Int} {f:Nat→Nat} {n w:Nat} (h:zkd key f n w):zke key f n w 0:=⟨fun c h1 _=>h c h1,fun c _ h2=>by omega⟩
theorem zke.step {key:Nat→Int} {f g:Nat→Nat} {n w a:Nat} (h:zke key f n w a) (ha: ∃q,a=q * (2 * w)) (hw:0<w) {b:Nat} (hb:b=min (a+2 * w) n) (hr:Rea a b f g) (hs:zS key g a b):zke key g n w (a+2 * w):=by
 obtain⟨q,hq⟩:=ha;refine⟨fun c hc h1=>?_,fun c hc h1=>?_⟩
 ·exact(h.1 c hc Ko).same fun i g1 g2=>hr.out (.inr Ko)
 ·obtain⟨p,hp⟩:=hc;rcases Eg c a with e|e
  ·have S0:c+2 * w≤a:=by
    have:p<q:=by
     apply Zg;intro hn;have:=Gh (2 * w) (show q≤p by omega);omega
    have:=Gh (2 * w) (show p+1≤q by omega);rw[Bh] at this;omega
   exact(h.2 c ⟨p,hp⟩ e).same fun i g1 g2=>hr.out (.inl Ko)
  ·have:c=a:=by
    have h2:p≤q:=by
     apply Zg;intro hn;have:=Gh (2 * w) (show q+1≤p by omega);rw[Bh] at this;omega
    have h3:q≤p:=by
     apply Zg;intro hn;have:=Gh (2 * w) (show p+1≤q by omega);rw[Bh] at this;omega
    rw[hp,hq,Nat.le_antisymm h2 h3]
   subst this;rw[←hb];exact hs
theorem zke.done {key:Nat→Int} {f:Nat→Nat} {n w a:Nat} (h:zke key f n w a) (hw:0<w) (ha: ∃q,a=q * (2 * w)) (hn:n≤a+w):zkd key f n (2 * w):=by
 intro c hc;rcases Eg c a with e|e
 ·exact h.2 c hc e
 ·obtain⟨p,hp⟩:=hc;have h1:=h.1 c ⟨2 * p,by rw[hp,Nat.mul_comm 2 p,Nat.mul_assoc]⟩ e;exact h1.sub (Qe _) Ko
theorem zkd.all {key:Nat→Int} {f:Nat→Nat} {n w:Nat} (h:zkd key f n w) (hn:n≤w):zS key f 0 n:=by
 have:=h 0 ⟨0,by omega⟩;exact this.sub (Qe _) Ko
theorem Rea.lt {a b n:Nat} {f g:Nat→Nat} (h:Rea a b f g) (hb:b≤n) (hf: ∀i,i<n→f i<n): ∀i,i<n→g i<n:=fun i hi=>by
 by_cases h1:a≤i∧i<b
 ·obtain⟨j,h2,h3,h4⟩:=h.from h1.1 h1.2;rw[h4];exact hf j Ko
 ·rw[h.out Ko];exact hf i hi
theorem zg1 {n a b c:Nat} (h:a+c≤b) (hb:b+c≤n) (hn:n≤2000000) {f:Nat→Nat} {sp:List Value} {bd cd:Nat} {vf:Value} {G:zb} {H:za} {R:Value→zb→za→Prop}
  (hR:R (.tuple #[]) G ((bd, .cells (zk n (zbM f a b c)) sp 3)::H)):FnT Tryz.prog 174 [.slice (some ⟨bd,0,none⟩) n cd, .int .i64 (a:Nat), .int .i64 (b:Nat), .int .i64 (c:Nat),vf] G ((bd, .cells (zk n f) sp 3)::H) R:=by
 refine Ee tok zvu Tryz.func174 rfl Kk Kk Kn fun M0=>?_;rw[Tryz.results174];have hE:=M0;try simp only[zzs] at hE
 repeat(obtain⟨J0,hE⟩:=hE)
 repeat' first
  |with_reducible first|refine Zd ?_ |refine Ae (fun _=>?_) fun _=>?_ |refine Nb fun nb A0 C0 B0=>?_
  |simp -dsimp -implicitDefEqProofs (disch:=first|exact Kd|fail) only[go_sem,↓reduceIte,seval]
 refine Je tok zvu Kk [0,1,2,3,10] (fun q G' fr H'=> ∃i:Nat,i+q=c∧G'=G∧H'=(bd, .cells (zk n (zbM f a b i)) sp 3)::H∧fr=[(0, .slice (some ⟨bd,0,none⟩) n cd),(1, .int .i64 (a:Nat)),(2, .int .i64 (b:Nat)),(3, .int .i64 (c:Nat)),(10, .int .i64 (i:Nat))]) (c) ?_ ?_
 ·exact Ce ⟨0,by omega,rfl,by rw[ztB],rfl⟩
 ·rintro q G1 fr H1 S0 V0 ⟨i,Q5,rfl,rfl,rfl⟩;have hE:=V0;try simp only[zzs] at hE
  repeat(obtain⟨J0,hE⟩:=hE)
  by_cases hi:i<c
  ·have e1:(a:Int)+(i:Int)=((a+i:Nat):Int):=by omega
   have e2:(b:Int)+(i:Int)=((b+i:Nat):Int):=by omega
   have Z2:=zaW (zbM f a b i) (sp:=sp) (show b+i<n by omega);have P2:=zaW (zbM f a b i) (sp:=sp) (show a+i<n by omega);have K6:=zbk (zbM f a b i) (show a+i<n by omega) (zbM f a b i (b+i));have P7:=zbk (zn (zbM f a b i) (a+i) (zbM f a b i (b+i))) (show b+i<n by omega) (zbM f a b i (a+i));have N1:zn (zn (zbM f a b i) (a+i) (zbM f a b i (b+i))) (b+i) (zbM f a b i (a+i))=zbM f a b (i+1):=ztC f Ko;rw[N1] at P7
   repeat' first
    |with_reducible first|refine Zd ?_ |refine Ae (fun _=>?_) fun _=>?_ |refine Nb fun nb A0 C0 B0=>?_
    |simp -dsimp -implicitDefEqProofs (disch:=first|exact Kd|fail) only[go_sem,↓reduceIte,seval,e1,e2,Z2,P2,K6,P7,zbB]
    |with_reducible refine Wg tok mixed zvu 3 [13,19] (.op 0 .plain (.op 1 .plain (.op 2 .plain (.op 3 .plain (.op 4 .plain (.op 5 .plain (.op 6 .plain (.op 7 .plain (.op 8 .plain (.op 9 .plain (.op 10 .plain (.op 11 .plain (.op 12 .plain (.op 13 .held (.op 14 .plain (.op 15 .plain (.op 16 .plain (.op 17 .plain (.op 18 .plain (.op 19 .held (.op 20 .plain (.op 21 .plain (.op 22 .plain (.op 23 .plain .nil)))))))))))))))))))))))) Kk [(bd, .cells (zk n (zbM f a b i)) sp 3)] Ks ?_
   exact Ce ⟨q - 1,by omega,i+1,by omega,rfl,rfl,rfl⟩
  ·obtain rfl:i=c:=by omega
   repeat' first
    |with_reducible first|refine Zd ?_ |refine Ae (fun _=>?_) fun _=>?_ |refine Nb fun nb A0 C0 B0=>?_
    |simp -dsimp -implicitDefEqProofs (disch:=first|exact Kd|fail) only[go_sem,↓reduceIte,seval]
   all_goals refine De ?_ hR ?_
   any_goals first|exact Ks|skip
   rfl
theorem zvG {n a m b:Nat} (h1:a<m) (h2:m<b) (hb:b≤n) (hn:n≤2000000) {f:Nat→Nat} {sp:List Value} {bd cd:Nat} {vf:Value} {G:zb} {H:za} {R:Value→zb→za→Prop}
  (hR:R (.tuple #[]) G ((bd, .cells (zk n (zcz f a m b)) sp 3)::H)):FnT Tryz.prog 173 [.slice (some ⟨bd,0,none⟩) n cd, .int .i64 (a:Nat), .int .i64 (m:Nat), .int .i64 (b:Nat),vf] G ((bd, .cells (zk n f) sp 3)::H) R:=by
 have e1:(m:Int) - (a:Int)=((m - a:Nat):Int):=by omega
 have e2:(b:Int) - (m:Int)=((b - m:Nat):Int):=by omega
 refine Ee tok zyA Tryz.func173 rfl Kk Kk Kn fun M0=>?_;rw[Tryz.results173];have hE:=M0;try simp only[zzs] at hE
 repeat(obtain⟨J0,hE⟩:=hE)
 repeat' first
  |with_reducible first|refine Zd ?_ |refine Ae (fun _=>?_) fun _=>?_ |refine Nb fun nb A0 C0 B0=>?_
  |simp -dsimp -implicitDefEqProofs (disch:=first|exact Kd|fail) only[go_sem,↓reduceIte,seval,e1,e2]
 refine Je tok zyA Kk [0,1,2,3,4,10,11] (fun q G' fr H'=> ∃ (i j:Nat) (g:Nat→Nat),i+j=q∧0<i∧0<j∧i≤m∧m+j≤n∧zcz g (m - i) m (m+j)=zcz f a m b∧G'=G∧H'=(bd, .cells (zk n g) sp 3)::H∧fr=[(0, .slice (some ⟨bd,0,none⟩) n cd),(1, .int .i64 (a:Nat)),(2, .int .i64 (m:Nat)),(3, .int .i64 (b:Nat)),(4,vf),(10, .int .i64 (i:Nat)),(11, .int .i64 (j:Nat))]) ((b - a)) ?_ ?_
 ·exact Ce ⟨m - a,b - m,f,by omega,by omega,by omega,by omega,by omega,by rw[show m - (m - a)=a by omega,show m+(b - m)=b by omega],rfl,rfl,rfl⟩
 ·rintro q G1 fr H1 S0 V0 ⟨i,j,g,hq,hi,hj,him,hmj,hrot,rfl,rfl,rfl⟩;have hE:=V0;try simp only[zzs] at hE
  repeat(obtain⟨J0,hE⟩:=hE)
  have e3:(m:Int) - (i:Int)=((m - i:Nat):Int):=by omega
  rcases Sh i j with Z3|Z3|Z3
  ·have e4:(m:Int)+(j:Int) - (i:Int)=((m+j - i:Nat):Int):=by omega
   have e5:(j:Int) - (i:Int)=((j - i:Nat):Int):=by omega
   repeat' first
    |with_reducible first|refine Zd ?_ |refine Ae (fun _=>?_) fun _=>?_ |refine Nb fun nb A0 C0 B0=>?_
    |simp -dsimp -implicitDefEqProofs (disch:=first|exact Kd|fail) only[go_sem,↓reduceIte,seval,e3,e4,e5]
    |with_reducible refine zg1 Ko Ko hn ?_
   exact Ce ⟨q - i,by omega,i,j - i,_,by omega,hi,by omega,him,by omega,by rw[zrX g him hi Z3,hrot],rfl,rfl,rfl⟩
  ·subst Z3;rw[←hrot,←ztE g him] at hR
   repeat' first
    |with_reducible first|refine Zd ?_ |refine Ae (fun _=>?_) fun _=>?_ |refine Nb fun nb A0 C0 B0=>?_
    |simp -dsimp -implicitDefEqProofs (disch:=first|exact Kd|fail) only[go_sem,↓reduceIte,seval,e3]
    |with_reducible refine zg1 Ko Ko hn ?_
   all_goals refine De ?_ hR ?_
   any_goals first|exact Ks|skip
   rfl
  ·have e5:(i:Int) - (j:Int)=((i - j:Nat):Int):=by omega
   repeat' first
    |with_reducible first|refine Zd ?_ |refine Ae (fun _=>?_) fun _=>?_ |refine Nb fun nb A0 C0 B0=>?_
    |simp -dsimp -implicitDefEqProofs (disch:=first|exact Kd|fail) only[go_sem,↓reduceIte,seval,e3,e5]
    |with_reducible refine zg1 Ko Ko hn ?_
   exact Ce ⟨q - j,by omega,i - j,j,_,by omega,by omega,hj,by omega,hmj,by rw[ztD g him hj Z3,hrot],rfl,rfl,rfl⟩
def zd4 (P:Program) (fid:FuncId) (cp:Value) (key:Nat→Int) (n:Nat) (bd:Nat) (sp:List Value) (G:zb) (H:za):Prop:= ∀ (x y:Nat) (g:Nat→Nat) (R:Value→zb→za→Prop),x<n→y<n→R (.int .i64 (key x - key y)) G ((bd, .cells (zk n g) sp 3)::H)→FnT P fid [.int .i64 (x:Nat), .int .i64 (y:Nat),cp] G ((bd, .cells (zk n g) sp 3)::H) R
theorem zd4.go {P:Program} {fid:FuncId} {cp:Value} {key:Nat→Int} {n bd:Nat} {sp:List Value} {G:zb} {H:za} (hc:zd4 P fid cp key n bd sp G H) {x y:Nat} {g:Nat→Nat} {R:Value→zb→za→Prop} (hx:x<n) (hy:y<n) (hR:R (.int .i64 (key x - key y)) G ((bd, .cells (zk n g) sp 3)::H)):FnT P fid [.int .i64 (x:Nat), .int .i64 (y:Nat),cp] G ((bd, .cells (zk n g) sp 3)::H) R:=hc x y g R hx hy hR
theorem zot {n a b:Nat} (M8:a≤b) (hb:b≤n) (hn:n≤2000000) {f:Nat→Nat} (hf: ∀i,i<n→f i<n) {key:Nat→Int} {sp:List Value} {bd cd:Nat} {fid:FuncId} {cp:Value} {G:zb} {H:za} {R:Value→zb→za→Prop} (hc:zd4 Tryz.prog fid cp key n bd sp G H)
  (hR: ∀g,Rea a b f g→zS key g a b→R (.tuple #[]) G ((bd, .cells (zk n g) sp 3)::H)):FnT Tryz.prog 170 [.slice (some ⟨bd,0,none⟩) n cd, .int .i64 (a:Nat), .int .i64 (b:Nat), .func (.func fid) #[] #[cp]] G ((bd, .cells (zk n f) sp 3)::H) R:=by
 refine Ee tok zj5 Tryz.func170 rfl Kk Kk Kn fun M0=>?_;rw[Tryz.results170];have hE:=M0;try simp only[zzs] at hE
 repeat(obtain⟨J0,hE⟩:=hE)
 repeat' first
  |with_reducible first|refine Zd ?_ |refine Ae (fun _=>?_) fun _=>?_ |refine Nb fun nb A0 C0 B0=>?_
  |simp -dsimp -implicitDefEqProofs (disch:=first|exact Kd|fail) only[go_sem,↓reduceIte,seval]
 refine Je tok zj5 Kk [0,1,2,3,8] (fun q G' fr H'=> ∃ (i:Nat) (g:Nat→Nat),(i - a)+q=b - a+1∧a<i∧(i≤b∨i=a+1)∧Rea a b f g∧zS key g a i∧G'=G∧H'=(bd, .cells (zk n g) sp 3)::H∧fr=[(0, .slice (some ⟨bd,0,none⟩) n cd),(1, .int .i64 (a:Nat)),(2, .int .i64 (b:Nat)),(3, .func (.func fid) #[] #[cp]),(8, .int .i64 (i:Nat))]) ((b - a)) ?_ ?_
 ·exact Ce ⟨a+1,f,by omega,by omega, .inr rfl,Rea.refl _ _ _,zS.small (Qe _),rfl,rfl,rfl⟩
 ·rintro q G1 fr H1 S0 V0 ⟨i,g,hq,hai,hib,hr,hs,rfl,rfl,rfl⟩;have hE:=V0;try simp only[zzs] at hE
  repeat(obtain⟨J0,hE⟩:=hE)
  by_cases hi:i<b
  ·repeat' first
    |with_reducible first|refine Zd ?_ |refine Ae (fun _=>?_) fun _=>?_ |refine Nb fun nb A0 C0 B0=>?_
    |simp -dsimp -implicitDefEqProofs (disch:=first|exact Kd|fail) only[go_sem,↓reduceIte,seval]
   refine Je tok zj5 Kk [0,1,2,3,8,9] (fun q2 G' fr H'=> ∃ (j:Nat) (g:Nat→Nat),j=q2∧a≤j∧j≤i∧Rea a b f g∧zhU key g a i j∧G'=G1∧H'=(bd, .cells (zk n g) sp 3)::H∧fr=[(0, .slice (some ⟨bd,0,none⟩) n cd),(1, .int .i64 (a:Nat)),(2, .int .i64 (b:Nat)),(3, .func (.func fid) #[] #[cp]),(8, .int .i64 (i:Nat)),(9, .int .i64 (j:Nat))]) (i) ?_ ?_
   ·exact Ce ⟨i,g,rfl,by omega,Qe _,hr,zhU.start hs,rfl,rfl,rfl⟩
   ·rintro q2 G2 fr H2 Q0 R0 ⟨j,g,rfl,haj,hji,hr,hI,rfl,rfl,rfl⟩;have hE:=R0;try simp only[zzs] at hE
    repeat(obtain⟨J0,hE⟩:=hE)
    by_cases hj:a<j
    ·have e1:(j:Int) - 1=((j - 1 :Nat):Int):=by omega
     have Z2:=zaW g (sp:=sp) (show j<n by omega);have P2:=zaW g (sp:=sp) (show j - 1<n by omega);have Na:=hr.lt hb hf;have D4:=Na j Ko;have Z0:=Na (j - 1) Ko;by_cases hk:key (g j) <key (g (j - 1))
     ·have K6:=zbk g (show j<n by omega) (g (j - 1));have P7:=zbk (zn g j (g (j - 1))) (show j - 1<n by omega) (g j);have hsw:zn (zn g j (g (j - 1))) (j - 1) (g j)=zf8 g j (j - 1):=rfl;rw[hsw] at P7
      repeat' first
       |with_reducible first|refine Zd ?_ |refine Ae (fun _=>?_) fun _=>?_ |refine Nb fun nb A0 C0 B0=>?_
       |simp -dsimp -implicitDefEqProofs (disch:=first|exact Kd|fail) only[go_sem,↓reduceIte,seval,e1,Z2,P2,K6,P7,zbB]
       |with_reducible refine Wg tok mixed zj5 4 [8,13] (.op 0 .plain (.op 1 .plain (.op 2 .plain (.op 3 .plain (.op 4 .plain (.op 5 .plain (.op 6 .plain (.op 7 .plain (.op 8 .held (.op 9 .plain (.op 10 .plain (.op 11 .plain (.op 12 .plain (.op 13 .held (.op 14 .plain (.op 15 .plain (.op 16 .plain .nil))))))))))))))))) Kk [(bd, .cells (zk n g) sp 3)] Ks ?_
       |with_reducible refine Wg tok mixed zj5 6 [9,13] (.op 0 .plain (.op 1 .plain (.op 2 .plain (.op 3 .plain (.op 4 .plain (.op 5 .plain (.op 6 .plain (.op 7 .plain (.op 8 .plain (.op 9 .held (.op 10 .plain (.op 11 .plain (.op 12 .plain (.op 13 .held (.op 14 .plain (.op 15 .plain (.op 16 .plain (.op 17 .plain .nil)))))))))))))))))) Kk [(bd, .cells (zk n g) sp 3)] Ks ?_
       |with_reducible refine zd4.go hc D4 Z0 ?_
      exact Ce ⟨j - 1,by omega,j - 1,_,rfl,by omega,by omega,hr.trans (Rea.swap g Ko Ko Ko Ko),hI.swap hj hji hk,rfl,rfl,rfl⟩
     ·repeat' first
       |with_reducible first|refine Zd ?_ |refine Ae (fun _=>?_) fun _=>?_ |refine Nb fun nb A0 C0 B0=>?_
       |simp -dsimp -implicitDefEqProofs (disch:=first|exact Kd|fail) only[go_sem,↓reduceIte,seval,e1,Z2,P2,zbB]
       |with_reducible refine Wg tok mixed zj5 4 [8,13] (.op 0 .plain (.op 1 .plain (.op 2 .plain (.op 3 .plain (.op 4 .plain (.op 5 .plain (.op 6 .plain (.op 7 .plain (.op 8 .held (.op 9 .plain (.op 10 .plain (.op 11 .plain (.op 12 .plain (.op 13 .held (.op 14 .plain (.op 15 .plain (.op 16 .plain .nil))))))))))))))))) Kk [(bd, .cells (zk n g) sp 3)] Ks ?_
       |with_reducible refine zd4.go hc D4 Z0 ?_
      exact Ce ⟨q - 1,by omega,i+1,g,by omega,by omega, .inl Ko,hr,hI.done haj (.inr Ko),rfl,rfl,rfl⟩
    ·repeat' first
      |with_reducible first|refine Zd ?_ |refine Ae (fun _=>?_) fun _=>?_ |refine Nb fun nb A0 C0 B0=>?_
      |simp -dsimp -implicitDefEqProofs (disch:=first|exact Kd|fail) only[go_sem,↓reduceIte,seval]
      |with_reducible refine Wg tok mixed zj5 4 [8,13] (.op 0 .plain (.op 1 .plain (.op 2 .plain (.op 3 .plain (.op 4 .plain (.op 5 .plain (.op 6 .plain (.op 7 .plain (.op 8 .held (.op 9 .plain (.op 10 .plain (.op 11 .plain (.op 12 .plain (.op 13 .held (.op 14 .plain (.op 15 .plain (.op 16 .plain .nil))))))))))))))))) Kk [(bd, .cells (zk n g) sp 3)] Ks ?_
     exact Ce ⟨q - 1,by omega,i+1,g,by omega,by omega, .inl Ko,hr,hI.done haj (.inl Ko),rfl,rfl,rfl⟩
  ·repeat' first
    |with_reducible first|refine Zd ?_ |refine Ae (fun _=>?_) fun _=>?_ |refine Nb fun nb A0 C0 B0=>?_
    |simp -dsimp -implicitDefEqProofs (disch:=first|exact Kd|fail) only[go_sem,↓reduceIte,seval]
   all_goals refine De ?_ (hR g hr (hs.sub (Qe _) Ko)) ?_
   any_goals first|exact Ks|skip
   rfl
theorem zyD {n a m b:Nat} (ham:m=a+1) (hmb:m<b) (hb:b≤n) (hn:n≤2000000) {f:Nat→Nat} (hf: ∀i,i<n→f i<n) {key:Nat→Int} {sp:List Value} {bd cd:Nat} {fid:FuncId} {cp:Value} {G:zb} {H:za} (hc:zd4 Tryz.prog fid cp key n bd sp G H) (hs:zS key f m b):
  Tri Tryz.prog Tryz.f171.ntmps (piece [0,1,0] Tryz.f171) G [(0, .slice (some ⟨bd,0,none⟩) n cd),(1, .int .i64 (a:Nat)),(2, .int .i64 (m:Nat)),(3, .int .i64 (b:Nat)),(4, .func (.func fid) #[] #[cp])] ((bd, .cells (zk n f) sp 3)::H) (V.onlyR fun G' l' H'=> ∃g,Rea a b f g∧zS key g a b∧G'=G∧H'=(bd, .cells (zk n g) sp 3)::H):=by
 have hfa:=hf a Ko;have hga:=zaW f (sp:=sp) (show a<n by omega);refine Xg (f:=Tryz.f171) rfl ?_;refine Tri.runS tok zbH (.seq .run (.seq .run (.seq .run .cut))) Kk ?_
 repeat' first
  |with_reducible first|refine Zd ?_ |refine Ae (fun _=>?_) fun _=>?_ |refine Nb fun nb A0 C0 B0=>?_ |refine Nr fun nb D0 E0 A0 I0 C0 B0=>?_
  |simp -dsimp -implicitDefEqProofs (disch:=first|exact Kd|fail) only[go_sem,↓reduceIte,seval]
 refine Je tok zbH Kk [0,1,2,3,4,10,11] (fun q G' fr H'=> ∃ (i j:Nat),j - i=q∧m≤i∧i≤j∧j≤b∧(∀x,m≤x→x<i→key (f x) <key (f a))∧(∀x,j≤x→x<b→key (f a)≤key (f x))∧G'=G∧H'=(bd, .cells (zk n f) sp 3)::H∧fr=[(0, .slice (some ⟨bd,0,none⟩) n cd),(1, .int .i64 (a:Nat)),(2, .int .i64 (m:Nat)),(3, .int .i64 (b:Nat)),(4, .func (.func fid) #[] #[cp]),(10, .int .i64 (i:Nat)),(11, .int .i64 (j:Nat))]) ((b - m)) ?_ ?_
 ·exact Ce ⟨m,b,rfl,by omega,by omega,by omega,fun x h1 h2=>by omega,fun x h1 h2=>by omega,rfl,rfl,rfl⟩
 ·rintro q G1 fr H1 S0 V0 ⟨i,j,hq,hmi,Z3,H6,Q3,M5,rfl,rfl,rfl⟩;have hE:=V0;try simp only[zzs] at hE
  repeat(obtain⟨J0,hE⟩:=hE)
  by_cases J2:i<j
  ·obtain⟨h,hh⟩: ∃h,h=(i+j) / 2:=⟨_,rfl⟩;have e1:((i:Int)+(j:Int)) / 2=(h:Int):=by omega
   have Z2:=zaW f (sp:=sp) (show h<n by omega);have D4:=hf h Ko
   repeat' first
    |with_reducible first|refine Zd ?_ |refine Ae (fun _=>?_) fun _=>?_ |refine Nb fun nb A0 C0 B0=>?_ |refine Nr fun nb D0 E0 A0 I0 C0 B0=>?_
    |simp -dsimp -implicitDefEqProofs (disch:=first|exact Kd|fail) only[go_sem,↓reduceIte,seval,e1,Z2,hga,zbB]
    |with_reducible refine Wg tok mixed zbH 5 [4,8] (.op 0 .plain (.op 1 .plain (.op 2 .plain (.op 3 .plain (.op 4 .held (.op 5 .plain (.op 6 .plain (.op 7 .plain (.op 8 .held (.op 9 .plain (.op 10 .plain .nil))))))))))) Kk [(bd, .cells (zk n f) sp 3)] Ks ?_
    |with_reducible refine zd4.go hc D4 hfa ?_
   ·rename_i hk
    exact Ce ⟨j - (h+1),by omega,h+1,j,rfl,by omega,by omega,H6,fun x h1 h2=>by
     have:=hs.le h1 (show x≤h by omega) Ko;omega,M5,rfl,rfl,rfl⟩
   ·rename_i hk
    exact Ce ⟨h - i,by omega,i,h,rfl,hmi,by omega,by omega,Q3,fun x h1 h2=>by
     have:=hs.le (show m≤h by omega) h1 Ko;omega,rfl,rfl,rfl⟩
  ·obtain rfl:i=j:=by omega
   repeat' first
    |with_reducible first|refine Zd ?_ |refine Ae (fun _=>?_) fun _=>?_ |refine Nb fun nb A0 C0 B0=>?_ |refine Nr fun nb D0 E0 A0 I0 C0 B0=>?_
    |simp -dsimp -implicitDefEqProofs (disch:=first|exact Kd|fail) only[go_sem,↓reduceIte,seval]
   refine Yg tok zbH Kk ?_
   repeat' first
    |with_reducible first|refine Zd ?_ |refine Ae (fun _=>?_) fun _=>?_ |refine Nb fun nb A0 C0 B0=>?_ |refine Nr fun nb D0 E0 A0 I0 C0 B0=>?_
    |simp -dsimp -implicitDefEqProofs (disch:=first|exact Kd|fail) only[go_sem,↓reduceIte,seval]
   refine Je tok zbH Kk [0,10,13] (fun q G' fr H'=> ∃k:Nat,i - 1 - k=q∧a≤k∧k≤i - 1∧G'=G1∧H'=(bd, .cells (zk n (upM f a k)) sp 3)::H∧fr=[(0, .slice (some ⟨bd,0,none⟩) n cd),(10, .int .i64 (i:Nat)),(13, .int .i64 (k:Nat))]) ((i - 1 - a)) ?_ ?_
   ·exact Ce ⟨a,rfl,Qe _,by omega,rfl,by rw[zkc],rfl⟩
   ·rintro q2 G2 fr H2 Q0 R0 ⟨k,hq2,hak,hki,rfl,rfl,rfl⟩;have hE:=R0;try simp only[zzs] at hE
    repeat(obtain⟨J0,hE⟩:=hE)
    have e1:(i:Int) - 1=((i - 1 :Nat):Int):=by omega
    by_cases hk:k<i - 1
    ·have e2:(k:Int)+1=((k+1 :Nat):Int):=by omega
     have Z2:=zaW (upM f a k) (sp:=sp) (show k<n by omega);have P2:=zaW (upM f a k) (sp:=sp) (show k+1<n by omega);have K6:=zbk (upM f a k) (show k<n by omega) (upM f a k (k+1));have P7:=zbk (zn (upM f a k) k (upM f a k (k+1))) (show k+1<n by omega) (upM f a k k);have hsw:zn (zn (upM f a k) k (upM f a k (k+1))) (k+1) (upM f a k k)=upM f a (k+1):=zoq f hak;rw[hsw] at P7
     repeat' first
      |with_reducible first|refine Zd ?_ |refine Ae (fun _=>?_) fun _=>?_ |refine Nb fun nb A0 C0 B0=>?_ |refine Nr fun nb D0 E0 A0 I0 C0 B0=>?_
      |simp -dsimp -implicitDefEqProofs (disch:=first|exact Kd|fail) only[go_sem,↓reduceIte,seval,e1,e2,Z2,P2,K6,P7,zbB]
      |with_reducible refine Wg tok mixed zbH 11 [9,13] (.op 0 .plain (.op 1 .plain (.op 2 .plain (.op 3 .plain (.op 4 .plain (.op 5 .plain (.op 6 .plain (.op 7 .plain (.op 8 .plain (.op 9 .held (.op 10 .plain (.op 11 .plain (.op 12 .plain (.op 13 .held (.op 14 .plain (.op 15 .plain (.op 16 .plain (.op 17 .plain .nil)))))))))))))))))) Kk [(bd, .cells (zk n (upM f a k)) sp 3)] Ks ?_
     exact Ce ⟨i - 1 - (k+1),by omega,k+1,rfl,by omega,by omega,rfl,rfl,rfl⟩
    ·obtain rfl:k=i - 1:=by omega
     repeat' first
      |with_reducible first|refine Zd ?_ |refine Ae (fun _=>?_) fun _=>?_ |refine Nb fun nb A0 C0 B0=>?_ |refine Nr fun nb D0 E0 A0 I0 C0 B0=>?_
      |simp -dsimp -implicitDefEqProofs (disch:=first|exact Kd|fail) only[go_sem,↓reduceIte,seval,e1]
     exact Ce ⟨_,zqt f (i - 1) hak Ko,zrV (hs.sub Ko (Qe _)) Ko H6 (fun x h1 h2=>Q3 x Ko h2) M5,rfl,rfl⟩
theorem zyE {n a m b:Nat} (ham:a<m) (hmb:b=m+1) (hb:b≤n) (hn:n≤2000000) {f:Nat→Nat} (hf: ∀i,i<n→f i<n) {key:Nat→Int} {sp:List Value} {bd cd:Nat} {fid:FuncId} {cp:Value} {G:zb} {H:za} (hc:zd4 Tryz.prog fid cp key n bd sp G H) (hs:zS key f a m):
  Tri Tryz.prog Tryz.f171.ntmps (piece [1,0,1,0] Tryz.f171) G [(0, .slice (some ⟨bd,0,none⟩) n cd),(1, .int .i64 (a:Nat)),(2, .int .i64 (m:Nat)),(3, .int .i64 (b:Nat)),(4, .func (.func fid) #[] #[cp])] ((bd, .cells (zk n f) sp 3)::H) (V.onlyR fun G' l' H'=> ∃g,Rea a b f g∧zS key g a b∧G'=G∧H'=(bd, .cells (zk n g) sp 3)::H):=by
 have hfm:=hf m Ko;have hgm:=zaW f (sp:=sp) (show m<n by omega);refine Xg (f:=Tryz.f171) rfl ?_;refine Tri.runS tok zbH (.seq .run (.seq .run (.seq .run .cut))) Kk ?_
 repeat' first
  |with_reducible first|refine Zd ?_ |refine Ae (fun _=>?_) fun _=>?_ |refine Nb fun nb A0 C0 B0=>?_ |refine Nr fun nb D0 E0 A0 I0 C0 B0=>?_
  |simp -dsimp -implicitDefEqProofs (disch:=first|exact Kd|fail) only[go_sem,↓reduceIte,seval]
 refine Je tok zbH Kk [0,1,2,3,4,14,15] (fun q G' fr H'=> ∃ (i j:Nat),j - i=q∧a≤i∧i≤j∧j≤m∧(∀x,a≤x→x<i→key (f x)≤key (f m))∧(∀x,j≤x→x<m→key (f m) <key (f x))∧G'=G∧H'=(bd, .cells (zk n f) sp 3)::H∧fr=[(0, .slice (some ⟨bd,0,none⟩) n cd),(1, .int .i64 (a:Nat)),(2, .int .i64 (m:Nat)),(3, .int .i64 (b:Nat)),(4, .func (.func fid) #[] #[cp]),(14, .int .i64 (i:Nat)),(15, .int .i64 (j:Nat))]) ((m - a)) ?_ ?_
 ·exact Ce ⟨a,m,rfl,by omega,by omega,by omega,fun x h1 h2=>by omega,fun x h1 h2=>by omega,rfl,rfl,rfl⟩
 ·rintro q G1 fr H1 S0 V0 ⟨i,j,hq,hmi,Z3,H6,Q3,M5,rfl,rfl,rfl⟩;have hE:=V0;try simp only[zzs] at hE
  repeat(obtain⟨J0,hE⟩:=hE)
  by_cases J2:i<j
  ·obtain⟨h,hh⟩: ∃h,h=(i+j) / 2:=⟨_,rfl⟩;have e1:((i:Int)+(j:Int)) / 2=(h:Int):=by omega
   have Z2:=zaW f (sp:=sp) (show h<n by omega);have D4:=hf h Ko
   repeat' first
    |with_reducible first|refine Zd ?_ |refine Ae (fun _=>?_) fun _=>?_ |refine Nb fun nb A0 C0 B0=>?_ |refine Nr fun nb D0 E0 A0 I0 C0 B0=>?_
    |simp -dsimp -implicitDefEqProofs (disch:=first|exact Kd|fail) only[go_sem,↓reduceIte,seval,e1,Z2,hgm,zbB]
    |with_reducible refine Wg tok mixed zbH 17 [4,8] (.op 0 .plain (.op 1 .plain (.op 2 .plain (.op 3 .plain (.op 4 .held (.op 5 .plain (.op 6 .plain (.op 7 .plain (.op 8 .held (.op 9 .plain (.op 10 .plain (.op 11 .plain .nil)))))))))))) Kk [(bd, .cells (zk n f) sp 3)] Ks ?_
    |with_reducible refine zd4.go hc hfm D4 ?_
   all_goals
    rename_i hk;first
    |exact Ce ⟨j - (h+1),by omega,h+1,j,rfl,by omega,by omega,H6,fun x h1 h2=>by
      have:=hs.le h1 (show x≤h by omega) Ko;omega,M5,rfl,rfl,rfl⟩
    |exact Ce ⟨h - i,by omega,i,h,rfl,hmi,by omega,by omega,Q3,fun x h1 h2=>by
      have:=hs.le (show a≤h by omega) h1 Ko;omega,rfl,rfl,rfl⟩
  ·obtain rfl:i=j:=by omega
   repeat' first
    |with_reducible first|refine Zd ?_ |refine Ae (fun _=>?_) fun _=>?_ |refine Nb fun nb A0 C0 B0=>?_ |refine Nr fun nb D0 E0 A0 I0 C0 B0=>?_
    |simp -dsimp -implicitDefEqProofs (disch:=first|exact Kd|fail) only[go_sem,↓reduceIte,seval]
   refine Yg tok zbH Kk ?_
   repeat' first
    |with_reducible first|refine Zd ?_ |refine Ae (fun _=>?_) fun _=>?_ |refine Nb fun nb A0 C0 B0=>?_ |refine Nr fun nb D0 E0 A0 I0 C0 B0=>?_
    |simp -dsimp -implicitDefEqProofs (disch:=first|exact Kd|fail) only[go_sem,↓reduceIte,seval]
   refine Je tok zbH Kk [0,14,17] (fun q G' fr H'=> ∃k:Nat,k - i=q∧i≤k∧k≤m∧G'=G1∧H'=(bd, .cells (zk n (dnM f m k)) sp 3)::H∧fr=[(0, .slice (some ⟨bd,0,none⟩) n cd),(14, .int .i64 (i:Nat)),(17, .int .i64 (k:Nat))]) ((m - i)) ?_ ?_
   ·exact Ce ⟨m,rfl,by omega,Qe _,rfl,by rw[zor],rfl⟩
   ·rintro q2 G2 fr H2 Q0 R0 ⟨k,hq2,hik,hkm,rfl,rfl,rfl⟩;have hE:=R0;try simp only[zzs] at hE
    repeat(obtain⟨J0,hE⟩:=hE)
    by_cases hk:i<k
    ·have e2:(k:Int) - 1=((k - 1 :Nat):Int):=by omega
     have Z2:=zaW (dnM f m k) (sp:=sp) (show k<n by omega);have P2:=zaW (dnM f m k) (sp:=sp) (show k - 1<n by omega);have K6:=zbk (dnM f m k) (show k<n by omega) (dnM f m k (k - 1));have P7:=zbk (zn (dnM f m k) k (dnM f m k (k - 1))) (show k - 1<n by omega) (dnM f m k k);have hsw:zn (zn (dnM f m k) k (dnM f m k (k - 1))) (k - 1) (dnM f m k k)=dnM f m (k - 1):=zos f hkm Ko;rw[hsw] at P7
     repeat' first
      |with_reducible first|refine Zd ?_ |refine Ae (fun _=>?_) fun _=>?_ |refine Nb fun nb A0 C0 B0=>?_ |refine Nr fun nb D0 E0 A0 I0 C0 B0=>?_
      |simp -dsimp -implicitDefEqProofs (disch:=first|exact Kd|fail) only[go_sem,↓reduceIte,seval,e2,Z2,P2,K6,P7,zbB]
      |with_reducible refine Wg tok mixed zbH 23 [9,13] (.op 0 .plain (.op 1 .plain (.op 2 .plain (.op 3 .plain (.op 4 .plain (.op 5 .plain (.op 6 .plain (.op 7 .plain (.op 8 .plain (.op 9 .held (.op 10 .plain (.op 11 .plain (.op 12 .plain (.op 13 .held (.op 14 .plain (.op 15 .plain (.op 16 .plain (.op 17 .plain .nil)))))))))))))))))) Kk [(bd, .cells (zk n (dnM f m k)) sp 3)] Ks ?_
     exact Ce ⟨k - 1 - i,by omega,k - 1,rfl,by omega,by omega,rfl,rfl,rfl⟩
    ·obtain rfl:i=k:=by omega
     have I9:=zrW hs hmi H6 Q3 M5;rw[←hmb] at I9
     repeat' first
      |with_reducible first|refine Zd ?_ |refine Ae (fun _=>?_) fun _=>?_ |refine Nb fun nb A0 C0 B0=>?_ |refine Nr fun nb D0 E0 A0 I0 C0 B0=>?_
      |simp -dsimp -implicitDefEqProofs (disch:=first|exact Kd|fail) only[go_sem,↓reduceIte,seval]
     exact Ce ⟨_,zqu f Ko (m - i) i Ko hmi,I9,rfl,rfl⟩
theorem zyF {n a m b mid:Nat} (ham:a<m) (hmb:m<b) (Jc:mid=(a+b) / 2) (hb:b≤n) (hn:n≤2000000) {f:Nat→Nat} (hf: ∀i,i<n→f i<n) {key:Nat→Int} {sp:List Value} {bd cd:Nat} {fid:FuncId} {cp:Value} {G:zb} {H:za} (hc:zd4 Tryz.prog fid cp key n bd sp G H) (V0:zS key f a m) (R0:zS key f m b) {lo hi:Nat} (Q3:lo=if mid<m then mid+m - b else a) (M5:hi=if mid<m then mid else m):
  Tri Tryz.prog Tryz.f171.ntmps (piece [1,1,1,1,1,1,1,0] Tryz.f171) G [(0, .slice (some ⟨bd,0,none⟩) n cd),(1, .int .i64 (a:Nat)),(2, .int .i64 (m:Nat)),(3, .int .i64 (b:Nat)),(4, .func (.func fid) #[] #[cp]),(18, .int .i64 (mid:Nat)),(19, .int .i64 ((mid+m:Nat):Int)),(20, .int .i64 (lo:Nat)),(21, .int .i64 (hi:Nat)),(22, .int .i64 ((mid+m - 1 :Nat):Int))] ((bd, .cells (zk n f) sp 3)::H) (onlyN fun G' fr' H'=> ∃s,CutO key f a m b mid s∧G'=G∧zy [0,1,2,3,4,18,19,20] fr'=[(0, .slice (some ⟨bd,0,none⟩) n cd),(1, .int .i64 (a:Nat)),(2, .int .i64 (m:Nat)),(3, .int .i64 (b:Nat)),(4, .func (.func fid) #[] #[cp]),(18, .int .i64 (mid:Nat)),(19, .int .i64 ((mid+m:Nat):Int)),(20, .int .i64 (s:Nat))]∧H'=(bd, .cells (zk n f) sp 3)::H):=by
 have M8:a≤lo∧hi≤m∧hi≤mid∧mid+m≤b+lo∧lo≤hi:=by
  by_cases e:mid<m
  ·rw[if_pos e] at Q3 M5;omega
  ·rw[if_neg e] at Q3 M5;omega
 have hcut:=fun s=>zyC (s:=s) V0 R0 ham hmb Jc Q3 M5;clear Q3 M5;refine Xg (f:=Tryz.f171) rfl ?_;refine Yg tok zbH Kk ?_
 repeat' first
  |with_reducible first|refine Zd ?_ |refine Ae (fun _=>?_) fun _=>?_ |refine Nb fun nb A0 C0 B0=>?_ |refine Nr fun nb D0 E0 A0 I0 C0 B0=>?_
  |simp -dsimp -implicitDefEqProofs (disch:=first|exact Kd|fail) only[go_sem,↓reduceIte,seval]
 refine Je tok zbH Kk [0,1,2,3,4,18,19,20,21,22] (fun q G' fr H'=> ∃ (i j:Nat),j - i=q∧lo≤i∧i≤j∧j≤hi∧(lo<i→key (f (i - 1))≤key (f (mid+m - i)))∧(j<hi→key (f (mid+m - 1 - j))≤key (f j))∧G'=G∧H'=(bd, .cells (zk n f) sp 3)::H∧fr=[(0, .slice (some ⟨bd,0,none⟩) n cd),(1, .int .i64 (a:Nat)),(2, .int .i64 (m:Nat)),(3, .int .i64 (b:Nat)),(4, .func (.func fid) #[] #[cp]),(18, .int .i64 (mid:Nat)),(19, .int .i64 ((mid+m:Nat):Int)),(20, .int .i64 (i:Nat)),(21, .int .i64 (j:Nat)),(22, .int .i64 ((mid+m - 1 :Nat):Int))]) ((hi - lo)) ?_ ?_
 ·exact Ce ⟨lo,hi,rfl,Qe _,by omega,Qe _,fun h=>by omega,fun h=>by omega,rfl,rfl,rfl⟩
 ·rintro q G1 fr H1 S0 J0 ⟨i,j,hq,hli,Z3,hjh,K6,P7,rfl,rfl,rfl⟩;have hE:=J0;try simp only[zzs] at hE
  repeat(obtain⟨J0,hE⟩:=hE)
  by_cases J2:i<j
  ·obtain⟨c,J4⟩: ∃c,c=(i+j) / 2:=⟨_,rfl⟩;have e1:((i:Int)+(j:Int)) / 2=(c:Int):=by omega
   have e2:((mid+m - 1 :Nat):Int) - (c:Int)=((mid+m - 1 - c:Nat):Int):=by omega
   have Z2:=zaW f (sp:=sp) (show c<n by omega);have P2:=zaW f (sp:=sp) (show mid+m - 1 - c<n by omega);have D4:=hf c Ko;have Z0:=hf (mid+m - 1 - c) Ko
   repeat' first
    |with_reducible first|refine Zd ?_ |refine Ae (fun _=>?_) fun _=>?_ |refine Nb fun nb A0 C0 B0=>?_ |refine Nr fun nb D0 E0 A0 I0 C0 B0=>?_
    |simp -dsimp -implicitDefEqProofs (disch:=first|exact Kd|fail) only[go_sem,↓reduceIte,seval,e1,e2,Z2,P2,zbB]
    |with_reducible refine Wg tok mixed zbH 35 [6,10] (.op 0 .plain (.op 1 .plain (.op 2 .plain (.op 3 .plain (.op 4 .plain (.op 5 .plain (.op 6 .held (.op 7 .plain (.op 8 .plain (.op 9 .plain (.op 10 .held (.op 11 .plain (.op 12 .plain (.op 13 .plain .nil)))))))))))))) Kk [(bd, .cells (zk n f) sp 3)] Ks ?_
    |with_reducible refine zd4.go hc Z0 D4 ?_
   all_goals
    rename_i hk;first
    |exact Ce ⟨j - (c+1),by omega,c+1,j,rfl,by omega,by omega,hjh,fun _=>by rw[show mid+m - (c+1)=mid+m - 1 - c by omega,Kh];omega,P7,rfl,rfl,rfl⟩
    |exact Ce ⟨c - i,by omega,i,c,rfl,hli,by omega,by omega,K6,fun _=>by omega,rfl,rfl,rfl⟩
  ·obtain rfl:i=j:=by omega
   repeat' first
    |with_reducible first|refine Zd ?_ |refine Ae (fun _=>?_) fun _=>?_ |refine Nb fun nb A0 C0 B0=>?_ |refine Nr fun nb D0 E0 A0 I0 C0 B0=>?_
    |simp -dsimp -implicitDefEqProofs (disch:=first|exact Kd|fail) only[go_sem,↓reduceIte,seval]
   exact Ce ⟨i,hcut i hli hjh K6 P7,rfl,rfl,rfl⟩
theorem ztG (f:Nat→Nat) {s m e:Nat} (h:s=m∨m=e):zcz f s m e=f:=by
 funext x;simp only[zcz];repeat' split
 all_goals first|omega| (congr 1;omega)|rfl
def zhV (P:Program) (fm fid:FuncId) (cp:Value) (key:Nat→Int) (n bd cd:Nat) (sp:List Value) (G:zb) (H:za) (a m b:Nat):Prop:= ∀ (f:Nat→Nat) (R:Value→zb→za→Prop),a<m→m<b→b≤n→(∀i,i<n→f i<n)→zS key f a m→zS key f m b→
 (∀g,Rea a b f g→zS key g a b→R (.tuple #[]) G ((bd, .cells (zk n g) sp 3)::H))→FnT P fm [.slice (some ⟨bd,0,none⟩) n cd, .int .i64 (a:Nat), .int .i64 (m:Nat), .int .i64 (b:Nat), .func (.func fid) #[] #[cp]] G ((bd, .cells (zk n f) sp 3)::H) R
theorem zhV.go {P:Program} {fm fid:FuncId} {cp:Value} {key:Nat→Int} {n bd cd:Nat} {sp:List Value} {G:zb} {H:za} {a m b:Nat} (h:zhV P fm fid cp key n bd cd sp G H a m b) {f:Nat→Nat} {R:Value→zb→za→Prop} (h1:a<m) (h2:m<b) (h3:b≤n) (h4: ∀i,i<n→f i<n) (h5:zS key f a m) (h6:zS key f m b)
 (hR: ∀g,Rea a b f g→zS key g a b→R (.tuple #[]) G ((bd, .cells (zk n g) sp 3)::H)):FnT P fm [.slice (some ⟨bd,0,none⟩) n cd, .int .i64 (a:Nat), .int .i64 (m:Nat), .int .i64 (b:Nat), .func (.func fid) #[] #[cp]] G ((bd, .cells (zk n f) sp 3)::H) R:=h f R h1 h2 h3 h4 h5 h6 hR
theorem zyG {n a m b mid s e:Nat} (hm:m≤e) (P0:s≤m) (he:e≤n) (hn:n≤2000000) {f:Nat→Nat} {sp:List Value} {bd cd:Nat} {vf:Value} {G:zb} {H:za}:
  Tri Tryz.prog Tryz.f171.ntmps (piece [1,1,1,1,1,1,1,1,1,0] Tryz.f171) G [(0, .slice (some ⟨bd,0,none⟩) n cd),(1, .int .i64 (a:Nat)),(2, .int .i64 (m:Nat)),(3, .int .i64 (b:Nat)),(4,vf),(18, .int .i64 (mid:Nat)),(20, .int .i64 (s:Nat)),(24, .int .i64 (e:Nat))] ((bd, .cells (zk n f) sp 3)::H) (onlyN fun G' fr' H'=>G'=G∧zy [0,1,3,4,18,20,24] fr'=[(0, .slice (some ⟨bd,0,none⟩) n cd),(1, .int .i64 (a:Nat)),(3, .int .i64 (b:Nat)),(4,vf),(18, .int .i64 (mid:Nat)),(20, .int .i64 (s:Nat)),(24, .int .i64 (e:Nat))]∧H'=(bd, .cells (zk n (zcz f s m e)) sp 3)::H):=by
 refine Tri.sepT fun M1=>?_;have hE:=M1;try simp only[zzs] at hE
 repeat(obtain⟨J0,hE⟩:=hE)
 by_cases h1:s<m∧m<e
 ·obtain⟨h1,h2⟩:=h1;refine Xg (f:=Tryz.f171) rfl ?_;refine Yg tok zbH Kk ?_
  repeat' first
   |with_reducible first|refine Zd ?_ |refine Ae (fun _=>?_) fun _=>?_ |refine Nb fun nb A0 C0 B0=>?_ |refine Nr fun nb D0 E0 A0 I0 C0 B0=>?_
   |simp -dsimp -implicitDefEqProofs (disch:=first|exact Kd|fail) only[go_sem,↓reduceIte,seval]
   |with_reducible refine zvG h1 h2 he hn ?_
  exact Ce ⟨rfl,rfl,rfl⟩
 ·have h2:s=m∨m=e:=by omega
  rw[ztG f h2];refine Xg (f:=Tryz.f171) rfl ?_;refine Yg tok zbH Kk ?_
  repeat' first
   |with_reducible first|refine Zd ?_ |refine Ae (fun _=>?_) fun _=>?_ |refine Nb fun nb A0 C0 B0=>?_ |refine Nr fun nb D0 E0 A0 I0 C0 B0=>?_
   |simp -dsimp -implicitDefEqProofs (disch:=first|exact Kd|fail) only[go_sem,↓reduceIte,seval]
  all_goals first| (exfalso;omega)|exact Ce ⟨rfl,rfl,rfl⟩
theorem zyH {n a b mid s e:Nat} (has:a≤s) (P0:s≤mid) (he:mid≤n) (hn:n≤2000000) {f:Nat→Nat} (hf: ∀i,i<n→f i<n) {key:Nat→Int} {sp:List Value} {bd cd:Nat} {fid:FuncId} {cp:Value} {G:zb} {H:za} (hI:zhV Tryz.prog 171 fid cp key n bd cd sp G H a s mid) (V0:zS key f a s) (R0:zS key f s mid):
  Tri Tryz.prog Tryz.f171.ntmps (piece [1,1,1,1,1,1,1,1,1,1,0] Tryz.f171) G [(0, .slice (some ⟨bd,0,none⟩) n cd),(1, .int .i64 (a:Nat)),(3, .int .i64 (b:Nat)),(4, .func (.func fid) #[] #[cp]),(18, .int .i64 (mid:Nat)),(20, .int .i64 (s:Nat)),(24, .int .i64 (e:Nat))] ((bd, .cells (zk n f) sp 3)::H) (onlyN fun G' fr' H'=> ∃g,Rea a mid f g∧zS key g a mid∧G'=G∧zy [0,3,4,18,24] fr'=[(0, .slice (some ⟨bd,0,none⟩) n cd),(3, .int .i64 (b:Nat)),(4, .func (.func fid) #[] #[cp]),(18, .int .i64 (mid:Nat)),(24, .int .i64 (e:Nat))]∧H'=(bd, .cells (zk n g) sp 3)::H):=by
 refine Tri.sepT fun M1=>?_;have hE:=M1;try simp only[zzs] at hE
 repeat(obtain⟨J0,hE⟩:=hE)
 by_cases h1:a<s∧s<mid
 ·obtain⟨h1,h2⟩:=h1;refine Xg (f:=Tryz.f171) rfl ?_;refine Yg tok zbH Kk ?_
  repeat' first
   |with_reducible first|refine Zd ?_ |refine Ae (fun _=>?_) fun _=>?_ |refine Nb fun nb A0 C0 B0=>?_ |refine Nr fun nb D0 E0 A0 I0 C0 B0=>?_
   |simp -dsimp -implicitDefEqProofs (disch:=first|exact Kd|fail) only[go_sem,↓reduceIte,seval]
   |with_reducible refine zhV.go hI h1 h2 he hf V0 R0 fun g hr hs=>?_
  exact Ce ⟨g,hr,hs,rfl,rfl,rfl⟩
 ·have I9:zS key f a mid:=by
   rcases(show a=s∨s=mid by omega) with h2|h2
   ·rw[h2];exact R0
   ·rw[←h2];exact V0
  refine Xg (f:=Tryz.f171) rfl ?_;refine Yg tok zbH Kk ?_
  repeat' first
   |with_reducible first|refine Zd ?_ |refine Ae (fun _=>?_) fun _=>?_ |refine Nb fun nb A0 C0 B0=>?_ |refine Nr fun nb D0 E0 A0 I0 C0 B0=>?_
   |simp -dsimp -implicitDefEqProofs (disch:=first|exact Kd|fail) only[go_sem,↓reduceIte,seval]
  all_goals first| (exfalso;omega)|exact Ce ⟨f,Rea.refl _ _ _,I9,rfl,rfl,rfl⟩
theorem zyI {n b mid e:Nat} (hme:mid≤e) (heb:e≤b) (hb:b≤n) (hn:n≤2000000) {f:Nat→Nat} (hf: ∀i,i<n→f i<n) {key:Nat→Int} {sp:List Value} {bd cd:Nat} {fid:FuncId} {cp:Value} {G:zb} {H:za} (hI:zhV Tryz.prog 171 fid cp key n bd cd sp G H mid e b) (V0:zS key f mid e) (R0:zS key f e b):
  Tri Tryz.prog Tryz.f171.ntmps (piece [1,1,1,1,1,1,1,1,1,1,1] Tryz.f171) G [(0, .slice (some ⟨bd,0,none⟩) n cd),(3, .int .i64 (b:Nat)),(4, .func (.func fid) #[] #[cp]),(18, .int .i64 (mid:Nat)),(24, .int .i64 (e:Nat))] ((bd, .cells (zk n f) sp 3)::H) (onlyN fun G' fr' H'=> ∃g,Rea mid b f g∧zS key g mid b∧G'=G∧H'=(bd, .cells (zk n g) sp 3)::H):=by
 refine Tri.sepT fun M1=>?_;have hE:=M1;try simp only[zzs] at hE
 repeat(obtain⟨J0,hE⟩:=hE)
 by_cases h1:mid<e∧e<b
 ·obtain⟨h1,h2⟩:=h1;refine Xg (f:=Tryz.f171) rfl ?_;refine Yg tok zbH Kk ?_
  repeat' first
   |with_reducible first|refine Zd ?_ |refine Ae (fun _=>?_) fun _=>?_ |refine Nb fun nb A0 C0 B0=>?_ |refine Nr fun nb D0 E0 A0 I0 C0 B0=>?_
   |simp -dsimp -implicitDefEqProofs (disch:=first|exact Kd|fail) only[go_sem,↓reduceIte,seval]
   |with_reducible refine zhV.go hI h1 h2 hb hf V0 R0 fun g hr hs=>?_
  exact Ce ⟨g,hr,hs,rfl,rfl⟩
 ·have I9:zS key f mid b:=by
   rcases(show mid=e∨e=b by omega) with h2|h2
   ·rw[h2];exact R0
   ·rw[←h2];exact V0
  refine Xg (f:=Tryz.f171) rfl ?_;refine Yg tok zbH Kk ?_
  repeat' first
   |with_reducible first|refine Zd ?_ |refine Ae (fun _=>?_) fun _=>?_ |refine Nb fun nb A0 C0 B0=>?_ |refine Nr fun nb D0 E0 A0 I0 C0 B0=>?_
   |simp -dsimp -implicitDefEqProofs (disch:=first|exact Kd|fail) only[go_sem,↓reduceIte,seval]
  all_goals first| (exfalso;omega)|exact Ce ⟨f,Rea.refl _ _ _,I9,rfl,rfl⟩
set_option maxRecDepth 4000 in
theorem zrY {n:Nat} (hn:n≤2000000) {key:Nat→Int} {sp:List Value} {bd cd:Nat} {fid:FuncId} {cp:Value} {G:zb} {H:za} (hc:zd4 Tryz.prog fid cp key n bd sp G H): ∀w a m b,b - a≤w→zhV Tryz.prog 171 fid cp key n bd cd sp G H a m b:=by
 intro w;induction w with
 |zero=>intro a m b hw f R h1 h2;omega
 |succ w ih=>
  intro a m b hw f R ham hmb hb hf V0 R0 hR;have e1:(m:Int) - (a:Int)=((m - a:Nat):Int):=by omega
  have e2:(b:Int) - (m:Int)=((b - m:Nat):Int):=by omega
  by_cases hA:m - a=1
  ·rw[hA] at e1;refine FnT.bodyS tok zbH (.seq (.seq .run (.cond .cut .run)) .cut) Tryz.func171 rfl Kk Kk Kn fun M0=>?_;rw[Tryz.results171];have hE:=M0;try simp only[zzs] at hE
   repeat(obtain⟨J0,hE⟩:=hE)
   repeat' first
    |with_reducible first|refine Zd ?_ |refine Ae (fun _=>?_) fun _=>?_ |refine Nb fun nb A0 C0 B0=>?_ |refine Nr fun nb D0 E0 A0 I0 C0 B0=>?_
    |simp -dsimp -implicitDefEqProofs (disch:=first|exact Kd|fail) only[go_sem,↓reduceIte,seval,e1]
   refine Ch [0,1,2,3,4] ?_;refine Ah [0,1,0] Tryz.f171 Kk ?_;refine Tri.onlyR (zyD Ko hmb hb hn hf hc R0) fun G2 l2 H2 Q0 J0 hM=>?_;obtain⟨g,hr,hs,rfl,rfl⟩:=hM;simp only[go_sem];all_goals refine De ?_ (hR g hr hs) ?_
   any_goals first|exact Ks|skip
   rfl
  ·have P3:((m - a:Nat):Int)≠1:=by omega
   by_cases hB:b - m=1
   ·rw[hB] at e2;refine FnT.bodyS tok zbH (.seq (.seq .run (.cond .cut .run)) (.seq (.seq .run (.cond .cut .run)) .cut)) Tryz.func171 rfl Kk Kk Kn fun M0=>?_;rw[Tryz.results171];have hE:=M0;try simp only[zzs] at hE
    repeat(obtain⟨J0,hE⟩:=hE)
    repeat' first
     |with_reducible first|refine Zd ?_ |refine Ae (fun _=>?_) fun _=>?_ |refine Nb fun nb A0 C0 B0=>?_ |refine Nr fun nb D0 E0 A0 I0 C0 B0=>?_
     |simp -dsimp -implicitDefEqProofs (disch:=first|exact Kd|fail) only[go_sem,↓reduceIte,seval,e1,e2]
    refine Ch [0,1,2,3,4] ?_;refine Ah [1,0,1,0] Tryz.f171 Kk ?_;refine Tri.onlyR (zyE ham Ko hb hn hf hc V0) fun G2 l2 H2 Q0 J0 hM=>?_;obtain⟨g,hr,hs,rfl,rfl⟩:=hM;simp only[go_sem];all_goals refine De ?_ (hR g hr hs) ?_
    any_goals first|exact Ks|skip
    rfl
   ·have hne2:((b - m:Nat):Int)≠1:=by omega
    obtain⟨mid,Jc⟩: ∃mid,mid=(a+b) / 2:=⟨_,rfl⟩;have e3:((a:Int)+(b:Int)) / 2=(mid:Int):=by omega
    have e4:(mid:Int)+(m:Int)=((mid+m:Nat):Int):=by omega
    have e6:((mid+m:Nat):Int) - 1=((mid+m - 1 :Nat):Int):=by omega
    obtain⟨lo,Q3⟩: ∃lo,lo=if mid<m then mid+m - b else a:=⟨_,rfl⟩;obtain⟨hi,M5⟩: ∃hi,hi=if mid<m then mid else m:=⟨_,rfl⟩;have e5:mid<m→((mid+m:Nat):Int) - (b:Int)=((mid+m - b:Nat):Int):=fun h=>by omega
    have key1: ∀K:zaO,(∀s l2,CutO key f a m b mid s→zy [0,1,2,3,4,18,19,20] l2=[(0, .slice (some ⟨bd,0,none⟩) n cd),(1, .int .i64 (a:Nat)),(2, .int .i64 (m:Nat)),(3, .int .i64 (b:Nat)),(4, .func (.func fid) #[] #[cp]),(18, .int .i64 (mid:Nat)),(19, .int .i64 ((mid+m:Nat):Int)),(20, .int .i64 (s:Nat))]→K .normal G l2 ((bd, .cells (zk n f) sp 3)::H))→Tri Tryz.prog Tryz.f171.ntmps (piece [1,1,1,1,1,1,1,0] Tryz.f171) G [(0, .slice (some ⟨bd,0,none⟩) n cd),(1, .int .i64 (a:Nat)),(2, .int .i64 (m:Nat)),(3, .int .i64 (b:Nat)),(4, .func (.func fid) #[] #[cp]),(18, .int .i64 (mid:Nat)),(19, .int .i64 ((mid+m:Nat):Int)),(20, .int .i64 (lo:Nat)),(21, .int .i64 (hi:Nat)),(22, .int .i64 ((mid+m - 1 :Nat):Int))] ((bd, .cells (zk n f) sp 3)::H) K:=fun K hK=>
     Tri.onlyN (zyF ham hmb Jc hb hn hf hc V0 R0 Q3 M5) fun G2 l2 H2 Q0 J0 hM=>by
      obtain⟨s,c1,rfl,c2,rfl⟩:=hM;exact hK s l2 c1 c2
    have fin: ∀s l2 K,CutO key f a m b mid s→zy [0,1,2,3,4,18,19,20] l2=[(0, .slice (some ⟨bd,0,none⟩) n cd),(1, .int .i64 (a:Nat)),(2, .int .i64 (m:Nat)),(3, .int .i64 (b:Nat)),(4, .func (.func fid) #[] #[cp]),(18, .int .i64 (mid:Nat)),(19, .int .i64 ((mid+m:Nat):Int)),(20, .int .i64 (s:Nat))]→(∀l3 g,Rea a b f g→zS key g a b→K .normal G l3 ((bd, .cells (zk n g) sp 3)::H))→Tri Tryz.prog Tryz.f171.ntmps (piece [1,1,1,1,1,1,1,1] Tryz.f171) G l2 ((bd, .cells (zk n f) sp 3)::H) K:=by
     intro s l2 K hcut hl hK;have hcut2:=hcut;obtain⟨sa,sm,smid,eb,_,_⟩:=hcut;obtain⟨e,he⟩: ∃e,e=mid+m - s:=⟨_,rfl⟩;have e7:((mid+m:Nat):Int) - (s:Int)=(e:Int):=by omega
     have hpar:=hcut2.parts V0 R0 rfl;rw[←he] at hpar;obtain⟨p1,p2,p3,p4,p5⟩:=hpar;have hrr:=zvF f (show s≤m by omega) (show m≤e by omega);have hrf:=hrr.lt (show e≤n by omega) hf;refine Ch [0,1,2,3,4,18,19,20] ?_;rw[hl];refine Xg (f:=Tryz.f171) rfl ?_;refine Tri.runS tok zbH (.seq .run (.seq .cut (.seq .cut .cut))) Kk ?_
     repeat' first
      |with_reducible first|refine Zd ?_ |refine Ae (fun _=>?_) fun _=>?_ |refine Nb fun nb A0 C0 B0=>?_ |refine Nr fun nb D0 E0 A0 I0 C0 B0=>?_
      |simp -dsimp -implicitDefEqProofs (disch:=first|exact Kd|fail) only[go_sem,↓reduceIte,seval,e7]
     refine Ch [0,1,2,3,4,18,20,24] ?_;refine Ah [1,1,1,1,1,1,1,1,1,0] Tryz.f171 Kk ?_;refine Tri.onlyN (zyG Ko Ko Ko hn) fun G2 l3 H2 Q0 J0 hM=>?_;obtain⟨rfl,hl3,rfl⟩:=hM;simp only[go_sem];refine Ch [0,1,3,4,18,20,24] ?_;rw[hl3];refine Ah [1,1,1,1,1,1,1,1,1,1,0] Tryz.f171 Kk ?_;refine Tri.onlyN (zyH Ko Ko Ko hn hrf (ih a s mid Ko) p1 p2) fun G2' l4 H2 hle2' hx'' hM=>?_;obtain⟨g2,r2,s2,rfl,S5,rfl⟩:=hM;simp only[go_sem];refine Ch [0,3,4,18,24] ?_;rw[S5];have hrf2:=r2.lt (show mid≤n by omega) hrf;refine Ah [1,1,1,1,1,1,1,1,1,1,1] Tryz.f171 Kk ?_;refine Tri.onlyN (zyI Ko Ko hb hn hrf2 (ih mid e b Ko) (p3.same fun i g1 g3=>r2.out (.inr Ko)) (p4.same fun i g1 g3=>r2.out (.inr Ko))) fun G3 l5 H3 A1 hx'3 hM=>?_;obtain⟨g3,r3,s3,rfl,rfl⟩:=hM;exact hK _ _ ((hrr.wide Ko Ko).trans ((r2.wide Ko Ko).trans (r3.wide Ko Ko))) (ztF Ko Ko p5 r2 s2 r3 s3)
    by_cases hmm:mid<m
    ·rw[if_pos hmm] at Q3 M5;have e5:=e5 hmm;rw[←Q3] at e5;subst M5;refine FnT.bodyS tok zbH (.seq (.seq .run (.cond .cut .run)) (.seq (.seq .run (.cond .cut .run)) (.seq .run (.seq .run (.seq .run (.seq .run (.seq .run (.seq .cut .cut)))))))) Tryz.func171 rfl Kk Kk Kn fun M0=>?_;rw[Tryz.results171];have hE:=M0;try simp only[zzs] at hE
     repeat(obtain⟨J0,hE⟩:=hE)
     repeat' first
      |with_reducible first|refine Zd ?_ |refine Ae (fun _=>?_) fun _=>?_ |refine Nb fun nb A0 C0 B0=>?_ |refine Nr fun nb D0 E0 A0 I0 C0 B0=>?_
      |simp -dsimp -implicitDefEqProofs (disch:=first|exact Kd|fail) only[go_sem,↓reduceIte,seval,e1,e2,e3,e4,e5,e6]
     refine Ch [0,1,2,3,4,18,19,20,21,22] ?_;refine Ah [1,1,1,1,1,1,1,0] Tryz.f171 Kk ?_;refine key1 _ fun s l2 c1 c2=>?_;simp only[go_sem];refine Ah [1,1,1,1,1,1,1,1] Tryz.f171 Kk ?_;refine fin s l2 _ c1 c2 fun l3 g hr hs=>?_;simp only[go_sem];all_goals refine De ?_ (hR g hr hs) ?_
     any_goals first|exact Ks|skip
     rfl
    ·rw[if_neg hmm] at Q3 M5;subst M5;subst Q3;refine FnT.bodyS tok zbH (.seq (.seq .run (.cond .cut .run)) (.seq (.seq .run (.cond .cut .run)) (.seq .run (.seq .run (.seq .run (.seq .run (.seq .run (.seq .cut .cut)))))))) Tryz.func171 rfl Kk Kk Kn fun M0=>?_;rw[Tryz.results171];have hE:=M0;try simp only[zzs] at hE
     repeat(obtain⟨J0,hE⟩:=hE)
     repeat' first
      |with_reducible first|refine Zd ?_ |refine Ae (fun _=>?_) fun _=>?_ |refine Nb fun nb A0 C0 B0=>?_ |refine Nr fun nb D0 E0 A0 I0 C0 B0=>?_
      |simp -dsimp -implicitDefEqProofs (disch:=first|exact Kd|fail) only[go_sem,↓reduceIte,seval,e1,e2,e3,e4,e6]
     refine Ch [0,1,2,3,4,18,19,20,21,22] ?_;refine Ah [1,1,1,1,1,1,1,0] Tryz.f171 Kk ?_;refine key1 _ fun s l2 c1 c2=>?_;simp only[go_sem];refine Ah [1,1,1,1,1,1,1,1] Tryz.f171 Kk ?_;refine fin s l2 _ c1 c2 fun l3 g hr hs=>?_;simp only[go_sem];all_goals refine De ?_ (hR g hr hs) ?_
     any_goals first|exact Ks|skip
     rfl
def zlU (key:Nat→Int) (f:Nat→Nat) (n w a:Nat):Prop:= ∀c,(∃q,c=q * w)→c<a→zS key f c (min (c+w) n)
theorem zkf {c a w p q:Nat} (hp:c=p * w) (hq:a=q * w) (h:c<a):c+w≤a:=by
 have h1:p<q:=by
  apply Zg;intro hn;have:=Gh w (show q≤p by omega);omega
 have:=Gh w (show p+1≤q by omega);rw[Bh] at this;omega
theorem zmv {c a w p q:Nat} (hp:c=p * w) (hq:a=q * w) (h:c<a+w) (h2:a≤c):c=a:=by
 apply Zg;intro hn;have:=zkf hq hp (show a<c by omega);omega
theorem zlU.step {key:Nat→Int} {f g:Nat→Nat} {n w a:Nat} (h:zlU key f n w a) (ha: ∃q,a=q * w) (hb:a+w≤n) (hr:Rea a (a+w) f g) (hs:zS key g a (a+w)):zlU key g n w (a+w):=by
 obtain⟨q,hq⟩:=ha;intro c hc hca;obtain⟨p,hp⟩:=hc;rcases Eg c a with e|e
 ·have:=zkf hp hq e;exact(h c ⟨p,hp⟩ e).same fun i g1 g2=>hr.out (.inl Ko)
 ·have:=zmv hp hq hca e;subst this;exact hs.sub (Qe _) Ko
theorem zlU.done {key:Nat→Int} {f g:Nat→Nat} {n w a:Nat} (h:zlU key f n w a) (ha: ∃q,a=q * w) (hb:n<a+w) (hr:Rea a n f g) (hs:zS key g a n):zkd key g n w:=by
 obtain⟨q,hq⟩:=ha;intro c hc;obtain⟨p,hp⟩:=hc;rcases Eg c a with e|e
 ·have:=zkf hp hq e;exact(h c ⟨p,hp⟩ e).same fun i g1 g2=>hr.out (.inl Ko)
 ·rcases Eg c (a+w) with e2|e2
  ·have:=zmv hp hq e2 e;subst this;exact hs.sub (Qe _) Ko
  ·exact zS.small Ko
theorem ztH {n:Nat} (hn:n≤2000000) {f:Nat→Nat} (hf: ∀i,i<n→f i<n) {key:Nat→Int} {sp:List Value} {bd cd:Nat} {fid:FuncId} {cp:Value} {G:zb} {H:za} {R:Value→zb→za→Prop} (hc:zd4 Tryz.prog fid cp key n bd sp G H)
  (hR: ∀g,Rea 0 n f g→zS key g 0 n→R (.tuple #[]) G ((bd, .cells (zk n g) sp 3)::H)):FnT Tryz.prog 160 [.slice (some ⟨bd,0,none⟩) n cd, .int .i64 (n:Nat), .func (.func fid) #[] #[cp]] G ((bd, .cells (zk n f) sp 3)::H) R:=by
 have hsym:=fun a m b=>zrY (cd:=cd) hn hc (b - a) a m b (Qe _);refine FnT.bodyS tok zlL (.seq .run (.seq .run (.seq .run .cut))) Tryz.func160 rfl Kk Kk Kn fun M0=>?_;rw[Tryz.results160];have hE:=M0;try simp only[zzs] at hE
 repeat(obtain⟨J0,hE⟩:=hE)
 repeat' first
  |with_reducible first|refine Zd ?_ |refine Ae (fun _=>?_) fun _=>?_ |refine Nb fun nb A0 C0 B0=>?_
  |simp -dsimp -implicitDefEqProofs (disch:=first|exact Kd|fail) only[go_sem,↓reduceIte,seval]
 refine Je tok zlL Kk [0,1,2,6,7,8] (fun q G' fr H'=> ∃ (a:Nat) (g:Nat→Nat),a+q=n∧(∃q,a=q * 20)∧Rea 0 n f g∧zlU key g n 20 a∧G'=G∧H'=(bd, .cells (zk n g) sp 3)::H∧fr=[(0, .slice (some ⟨bd,0,none⟩) n cd),(1, .int .i64 (n:Nat)),(2, .func (.func fid) #[] #[cp]),(6, .int .i64 20),(7, .int .i64 (a:Nat)),(8, .int .i64 ((a+20 :Nat):Int))]) (n) ?_ ?_
 ·exact Ce ⟨0,f,by omega,⟨0,rfl⟩,Rea.refl _ _ _,fun c _ h=>by omega,rfl,rfl,rfl⟩
 ·rintro q G1 fr H1 S0 V0 ⟨a,g,haq,hqa,hr,hI,rfl,rfl,rfl⟩;have hE:=V0;try simp only[zzs] at hE
  repeat(obtain⟨J0,hE⟩:=hE)
  have hgf:=hr.lt (Qe n) hf;by_cases M8:a+20≤n
  ·have e1:((a+20 :Nat):Int)+20=((a+20+20 :Nat):Int):=by omega
   repeat' first
    |with_reducible first|refine Zd ?_ |refine Ae (fun _=>?_) fun _=>?_ |refine Nb fun nb A0 C0 B0=>?_
    |simp -dsimp -implicitDefEqProofs (disch:=first|exact Kd|fail) only[go_sem,↓reduceIte,seval,e1]
    |with_reducible refine zot (Nat.le_add_right a 20) M8 hn hgf hc fun g2 V1 R0=>?_
   obtain⟨q0,hq0⟩:=hqa;exact Ce ⟨q - 20,by omega,a+20,g2,by omega,⟨q0+1,by rw[Bh];omega⟩,hr.trans (V1.wide (Pg _) M8),hI.step ⟨q0,hq0⟩ M8 V1 R0,rfl,rfl,rfl⟩
  ·repeat' first
    |with_reducible first|refine Zd ?_ |refine Ae (fun _=>?_) fun _=>?_ |refine Nb fun nb A0 C0 B0=>?_
    |simp -dsimp -implicitDefEqProofs (disch:=first|exact Kd|fail) only[go_sem,↓reduceIte,seval]
   refine Tri.runS tok zlL (.seq .run .cut) Kk ?_
   repeat' first
    |with_reducible first|refine Zd ?_ |refine Ae (fun _=>?_) fun _=>?_ |refine Nb fun nb A0 C0 B0=>?_
    |simp -dsimp -implicitDefEqProofs (disch:=first|exact Kd|fail) only[go_sem,↓reduceIte,seval]
    |with_reducible refine zot (show a≤n by omega) (Qe n) hn hgf hc fun g2 V1 R0=>?_
   have hB:=hI.done hqa Ko V1 R0;have D2:=hr.trans (V1.wide (Pg _) (Qe _));clear hI hr V1 R0 hgf hqa;refine Yg tok zlL Kk ?_
   repeat' first
    |with_reducible first|refine Zd ?_ |refine Ae (fun _=>?_) fun _=>?_ |refine Nb fun nb A0 C0 B0=>?_
    |simp -dsimp -implicitDefEqProofs (disch:=first|exact Kd|fail) only[go_sem,↓reduceIte,seval]
   refine Je tok zlL Kk [0,1,2,6] (fun q G' fr H'=> ∃ (w:Nat) (g:Nat→Nat),n - w=q∧20≤w∧w≤4000000∧Rea 0 n f g∧zkd key g n w∧G'=G1∧H'=(bd, .cells (zk n g) sp 3)::H∧fr=[(0, .slice (some ⟨bd,0,none⟩) n cd),(1, .int .i64 (n:Nat)),(2, .func (.func fid) #[] #[cp]),(6, .int .i64 (w:Nat))]) ((n - 20)) ?_ ?_
   ·exact Ce ⟨20,g2,rfl,Qe _,by omega,D2,hB,rfl,rfl,rfl⟩
   ·rintro q2 G2 fr H2 Q0 R0 ⟨w,g,hq2,E5,F7,hr,hB,rfl,rfl,rfl⟩;have hE:=R0;try simp only[zzs] at hE
    repeat(obtain⟨J0,hE⟩:=hE)
    by_cases hwn:w<n
    ·have e1:(2 :Int) * (w:Int)=((2 * w:Nat):Int):=by omega
     have e5:(w:Int) * 2=((2 * w:Nat):Int):=by omega
     repeat' first
      |with_reducible first|refine Zd ?_ |refine Ae (fun _=>?_) fun _=>?_ |refine Nb fun nb A0 C0 B0=>?_
      |simp -dsimp -implicitDefEqProofs (disch:=first|exact Kd|fail) only[go_sem,↓reduceIte,seval,e1]
     refine Je tok zlL Kk [0,1,2,6,7,8] (fun q G' fr H'=> ∃ (a:Nat) (g:Nat→Nat),a+q=n∧(∃q,a=q * (2 * w))∧Rea 0 n f g∧zke key g n w a∧G'=G2∧H'=(bd, .cells (zk n g) sp 3)::H∧fr=[(0, .slice (some ⟨bd,0,none⟩) n cd),(1, .int .i64 (n:Nat)),(2, .func (.func fid) #[] #[cp]),(6, .int .i64 (w:Nat)),(7, .int .i64 (a:Nat)),(8, .int .i64 ((a+2 * w:Nat):Int))]) (n) ?_ ?_
     ·exact Ce ⟨0,g,by omega,⟨0,(Nat.zero_mul _).symm⟩,hr,hB.start,rfl,rfl,by rw[Nat.zero_add];rfl⟩
     ·rintro q3 G3 fr H3 A1 K1 ⟨a,g,haq,hqa,hr,hM,rfl,rfl,rfl⟩;have hE:=K1;try simp only[zzs] at hE
      repeat(obtain⟨J0,hE⟩:=hE)
      have hgf:=hr.lt (Qe n) hf;obtain⟨q0,hq0⟩:=hqa;have hqw:a=(2 * q0) * w:=by rw[hq0,Nat.mul_comm 2 q0,Nat.mul_assoc]
      have hqw2:a+w=(2 * q0+1) * w:=by rw[hqw,Bh (2 * q0) w]
      have e2:(a:Int)+(w:Int)=((a+w:Nat):Int):=by omega
      have s1:=hM.1 a ⟨_,hqw⟩ (Qe _);have s2:=hM.1 (a+w) ⟨_,hqw2⟩ (Nat.le_add_right _ _);by_cases M8:a+2 * w≤n
      ·have e3:((a+2 * w:Nat):Int)+((2 * w:Nat):Int)=((a+2 * w+2 * w:Nat):Int):=by omega
       rw[Eh Ko] at s1;rw[Eh Ko,show a+w+w=a+2 * w by omega] at s2
       repeat' first
        |with_reducible first|refine Zd ?_ |refine Ae (fun _=>?_) fun _=>?_ |refine Nb fun nb A0 C0 B0=>?_
        |simp -dsimp -implicitDefEqProofs (disch:=first|exact Kd|fail) only[go_sem,↓reduceIte,seval,e1,e2,e3]
        |with_reducible refine zhV.go (hsym a (a+w) (a+2 * w)) Ko Ko M8 hgf s1 s2 fun g3 D2 K1=>?_
       exact Ce ⟨q3 - 2 * w,by omega,a+2 * w,g3,by omega,⟨q0+1,by rw[Bh q0 (2 * w)];omega⟩,hr.trans (D2.wide (Pg _) M8),hM.step ⟨q0,hq0⟩ Ko (Eh M8).symm D2 K1,rfl,rfl,rfl⟩
      ·by_cases hmn:a+w<n
       ·rw[Eh Ko] at s1;rw[Nat.min_eq_right Ko] at s2
        repeat' first
         |with_reducible first|refine Zd ?_ |refine Ae (fun _=>?_) fun _=>?_ |refine Nb fun nb A0 C0 B0=>?_
         |simp -dsimp -implicitDefEqProofs (disch:=first|exact Kd|fail) only[go_sem,↓reduceIte,seval,e1,e2,e5]
         |with_reducible refine zhV.go (hsym a (a+w) n) Ko hmn (Qe n) hgf s1 s2 fun g3 D2 K1=>?_
        have hM2:=hM.step ⟨q0,hq0⟩ Ko (Nat.min_eq_right (show n≤a+2 * w by omega)).symm D2 K1;exact Ce ⟨n - 2 * w,by omega,2 * w,g3,rfl,by omega,by omega,hr.trans (D2.wide (Pg _) (Qe _)),hM2.done Ko ⟨q0+1,by rw[Bh q0 (2 * w)];omega⟩ Ko,rfl,rfl,rfl⟩
       ·repeat' first
         |with_reducible first|refine Zd ?_ |refine Ae (fun _=>?_) fun _=>?_ |refine Nb fun nb A0 C0 B0=>?_
         |simp -dsimp -implicitDefEqProofs (disch:=first|exact Kd|fail) only[go_sem,↓reduceIte,seval,e1,e2,e5]
        exact Ce ⟨n - 2 * w,by omega,2 * w,g,rfl,by omega,by omega,hr,hM.done Ko ⟨q0,hq0⟩ Ko,rfl,rfl,rfl⟩
    ·repeat' first
      |with_reducible first|refine Zd ?_ |refine Ae (fun _=>?_) fun _=>?_ |refine Nb fun nb A0 C0 B0=>?_
      |simp -dsimp -implicitDefEqProofs (disch:=first|exact Kd|fail) only[go_sem,↓reduceIte,seval]
     all_goals refine De ?_ (hR g hr (hB.all Ko)) ?_
     any_goals first|exact Ks|skip
     rfl
theorem zou {n:Nat} (hn:n≤2000000) {f:Nat→Nat} (hf: ∀i,i<n→f i<n) {key:Nat→Int} {sp:List Value} {bd cd:Nat} {fid:FuncId} {cp:Value} {G:zb} {H:za} {R:Value→zb→za→Prop} (hc:zd4 Tryz.prog fid cp key n bd sp G H)
  (hR: ∀g,Rea 0 n f g→zS key g 0 n→R (.tuple #[]) G ((bd, .cells (zk n g) sp 3)::H)):FnT Tryz.prog 131 [.slice (some ⟨bd,0,none⟩) n cd, .func (.func fid) #[] #[cp]] G ((bd, .cells (zk n f) sp 3)::H) R:=by
 refine Ee tok [0,1] Tryz.func131 rfl Kk Kk Kn fun M0=>?_;rw[Tryz.results131];have hE:=M0;try simp only[zzs] at hE
 repeat(obtain⟨J0,hE⟩:=hE)
 repeat' first
  |with_reducible first|refine Zd ?_ |refine Ae (fun _=>?_) fun _=>?_
  |simp -dsimp -implicitDefEqProofs (disch:=first|exact Kd|fail) only[go_sem,↓reduceIte,seval]
  |with_reducible refine ztH hn hf hc fun g hr hs=>?_
 all_goals refine De ?_ (hR g hr hs) ?_
 any_goals first|exact Ks|skip
 rfl
def zfq (fr to mk:Nat→Nat) (i:Nat):List Value:=[.int .i64 (fr i:Nat), .int .i64 (to i:Nat), .int .i64 (mk i:Nat)]
def zF (n:Nat) (fr to mk:Nat→Nat):List Value:=(Hg n).flatMap (zfq fr to mk)
theorem zbr (n:Nat) (fr to mk:Nat→Nat):(zF n fr to mk).length=n * 3:=by
 unfold zF;rw[zbm (m:=3) (fun _=>rfl),Qh]
theorem zgL (n:Nat) (fr to mk:Nat→Nat):zF (n+1) fr to mk=zF n fr to mk++zfq fr to mk n:=by
 unfold zF;rw[Sf,List.flatMap_append];simp
theorem zhW {n:Nat} {fr to mk:Nat→Nat} {sp:List Value} {i j:Nat} (hi:i<n) (hj:j<3):(zF n fr to mk++sp)[i * 3+j]? =(zfq fr to mk i)[j]? :=by
 induction n with
 |zero=>omega
 |succ n ih=>
  rw[zgL,Uf];have hl:=zbr n fr to mk;by_cases e:i=n
  ·subst e;rw[Nf Ko,hl,show i * 3+j - i * 3=j by omega,Fh (by simp [zfq];omega)]
  ·have:=ih Ko;rw[Fh (by rw[hl];omega)] at this⊢;exact this
theorem zhX {n:Nat} {fr to mk fr' to' mk':Nat→Nat} (h: ∀i,i<n→fr i=fr' i∧to i=to' i∧mk i=mk' i):zF n fr to mk=zF n fr' to' mk':=by
 unfold zF;rw[List.flatMap_def,List.flatMap_def];congr 1;refine List.map_congr_left fun i hi=>?_;obtain⟨h1,h2,h3⟩:=h i (List.mem_range.1 hi);unfold zfq;rw[h1,h2,h3]
theorem zkg (n:Nat) (fr to mk:Nat→Nat) {i:Nat} (hi:i<n) (fr' to' mk':Nat→Nat) (he: ∀k,k≠i→fr k=fr' k∧to k=to' k∧mk k=mk' k)
  {j:Nat} {v:Value} (hv:(zfq fr to mk i).set j v=zfq fr' to' mk' i) (hj:j<3):(zF n fr to mk).set (i * 3+j) v=zF n fr' to' mk':=by
 induction n with
 |zero=>omega
 |succ n ih=>
  have hl:=zbr n fr to mk;rw[zgL,zgL];by_cases e:i=n
  ·subst e;rw[List.set_append_right _ _ Ko,hl,show i * 3+j - i * 3=j by omega,hv];rw[zhX fun k hk=>he k Ko]
  ·rw[List.set_append_left _ _ Ko,ih Ko];congr 1;obtain⟨h1,h2,h3⟩:=he n Ko;unfold zfq;rw[h1,h2,h3]
theorem zk6 {n:Nat} {fr to mk:Nat→Nat} {sp:List Value} {i:Nat} (hi:i<n):(zF n fr to mk++sp)[i * 3]? =some (.int .i64 (fr i:Nat)):=zhW (j:=0) hi Ko
theorem zhg {n:Nat} {fr to mk:Nat→Nat} {sp:List Value} {i:Nat} (hi:i<n):(zF n fr to mk++sp)[i * 3+1]? =some (.int .i64 (to i:Nat)):=zhW (j:=1) hi Ko
theorem zk7 {n:Nat} {fr to mk:Nat→Nat} {sp:List Value} {i:Nat} (hi:i<n):(zF n fr to mk++sp)[i * 3+2]? =some (.int .i64 (mk i:Nat)):=zhW (j:=2) hi Ko
theorem zg2 {xs:List Value} {o:Nat} {v:Value} (h:o<xs.length):zf xs o [v]=xs.set o v:=by
 unfold zf;rw[List.set_eq_take_append_cons_drop,if_pos h];simp
theorem zyJ {n:Nat} {fr to mk:Nat→Nat} {i:Nat} (hi:i<n) (x:Nat):zf (zF n fr to mk) (i * 3) [.int .i64 (x:Nat)]=zF n (zn fr i x) to mk:=by
 rw[zg2 (by rw[zbr];omega)];exact zkg n fr to mk hi _ _ _ (fun k hk=>⟨(zbf _ _ hk).symm,rfl,rfl⟩) (j:=0) (by simp [zfq,zbu]) Ko
theorem ztI {n:Nat} {fr to mk:Nat→Nat} {i:Nat} (hi:i<n) (x:Nat):zf (zF n fr to mk) (i * 3+1) [.int .i64 (x:Nat)]=zF n fr (zn to i x) mk:=by
 rw[zg2 (by rw[zbr];omega)];exact zkg n fr to mk hi _ _ _ (fun k hk=>⟨rfl,(zbf _ _ hk).symm,rfl⟩) (j:=1) (by simp [zfq,zbu]) Ko
theorem ztJ {n:Nat} {fr to mk:Nat→Nat} {i:Nat} (hi:i<n) (x:Nat):zf (zF n fr to mk) (i * 3+2) [.int .i64 (x:Nat)]=zF n fr to (zn mk i x):=by
 rw[zg2 (by rw[zbr];omega)];exact zkg n fr to mk hi _ _ _ (fun k hk=>⟨rfl,rfl,(zbf _ _ hk).symm⟩) (j:=2) (by simp [zfq,zbu]) Ko
theorem zmw (n:Nat) (fr to mk:Nat→Nat) (x y z:Nat):zF n fr to mk++[.int .i64 (x:Nat), .int .i64 (y:Nat), .int .i64 (z:Nat)]=zF (n+1) (zn fr n x) (zn to n y) (zn mk n z):=by
 rw[zgL];congr 1
 ·exact zhX fun i hi=>⟨(zbf _ _ Ko).symm,(zbf _ _ Ko).symm,(zbf _ _ Ko).symm⟩
 ·simp only[zfq,zbu]
theorem zvH (n:Nat) (fr to mk:Nat→Nat):(zF n fr to mk).all zax=true:=by
 unfold zF;rw[List.all_flatMap];exact List.all_eq_true.2 fun i _=>rfl
theorem zO.isS {e:TypeId} {v:Value} {n:Nat} {xs:List Value} {kb:za} (h:zO [] e 1 v n xs kb): ∃a c,v= .slice a n c:=by
 rcases h with ⟨a,rfl,rfl,_,_⟩| ⟨b,c,sp,rfl,_⟩
 ·exact⟨a,0,rfl⟩
 ·exact⟨_,c,rfl⟩
def PC (vs va vb vsp vk vw vm:Value) (W:Int):List Value:=[vs,va,vb,vsp,vk,vw,vm, .int .i64 W]
theorem zyK (vs va vb vsp vk vw vm:Value) (W:Int):(PC vs va vb vsp vk vw vm W).length=8:=rfl
theorem zzJ (vs va vb vsp vk vw vm:Value) (W:Int):(PC vs va vb vsp vk vw vm W)[0]? =some vs:=rfl
theorem zzK (vs va vb vsp vk vw vm:Value) (W:Int):(PC vs va vb vsp vk vw vm W)[1]? =some va:=rfl
theorem zzL (vs va vb vsp vk vw vm:Value) (W:Int):(PC vs va vb vsp vk vw vm W)[2]? =some vb:=rfl
theorem zzM (vs va vb vsp vk vw vm:Value) (W:Int):(PC vs va vb vsp vk vw vm W)[3]? =some vsp:=rfl
theorem zzN (vs va vb vsp vk vw vm:Value) (W:Int):(PC vs va vb vsp vk vw vm W)[4]? =some vk:=rfl
theorem zzO (vs va vb vsp vk vw vm:Value) (W:Int):(PC vs va vb vsp vk vw vm W)[5]? =some vw:=rfl
theorem zzP (vs va vb vsp vk vw vm:Value) (W:Int):(PC vs va vb vsp vk vw vm W)[6]? =some vm:=rfl
theorem zzQ (vs va vb vsp vk vw vm:Value) (W:Int):(PC vs va vb vsp vk vw vm W)[7]? =some (.int .i64 W):=rfl
theorem zzR (vs va vb vsp vk vw vm x:Value) (W:Int):zf (PC vs va vb vsp vk vw vm W) 0 [x]=PC x va vb vsp vk vw vm W:=rfl
theorem zzS (vs va vb vsp vk vw vm x:Value) (W:Int):zf (PC vs va vb vsp vk vw vm W) 1 [x]=PC vs x vb vsp vk vw vm W:=rfl
theorem zzT (vs va vb vsp vk vw vm x:Value) (W:Int):zf (PC vs va vb vsp vk vw vm W) 2 [x]=PC vs va x vsp vk vw vm W:=rfl
theorem zzU (vs va vb vsp vk vw vm x:Value) (W:Int):zf (PC vs va vb vsp vk vw vm W) 3 [x]=PC vs va vb x vk vw vm W:=rfl
theorem zzV (vs va vb vsp vk vw vm x:Value) (W:Int):zf (PC vs va vb vsp vk vw vm W) 4 [x]=PC vs va vb vsp x vw vm W:=rfl
theorem zzW (vs va vb vsp vk vw vm x:Value) (W:Int):zf (PC vs va vb vsp vk vw vm W) 5 [x]=PC vs va vb vsp vk x vm W:=rfl
theorem zzX (vs va vb vsp vk vw vm x:Value) (W:Int):zf (PC vs va vb vsp vk vw vm W) 6 [x]=PC vs va vb vsp vk vw x W:=rfl
attribute [go_sem] zyK zzJ zzK zzL zzM zzN zzO zzP zzQ zzR zzS zzT zzU zzV zzW zzX zbB zbr zvE zvH
theorem zxL {l:List Int} (X1:l.length≤2000000) {G:zb} {H:za} {R:Value→zb→za→Prop} {v:Value} (hv:Sl G (Yd .i64) v l)
  (hR: ∀v kb,Sep G (zm (H++kb))→zO [] 3 1 v l.length ((zd l).map (Yd .i64)) kb→R v G (H++kb)):FnT Tryz.prog 101 [v] G H R:=
 FnT.upd (zxp X1 hv fun v kb hs hO=>Oe (H':=H++kb) (by intro fsum;simp only[Ke,List.sum_append];omega) (Upd.sepI fun R0=>Ce (hR v kb R0 hO)))
theorem zxM {n bq bp bs ba bm b1:Nat} {W:Int} {vb:Value} {C xs:List Value} {G:zb} {Hc H kb:za} {l:Fr} (hO:zO [] 3 1 vb n xs kb) (hl:zy [1,3,4] l=[(1, .pointer (some ⟨b1,0,none⟩)),(3, .int .i64 (n:Nat)),(4, .pointer (some ⟨bq,0,none⟩))])
  (h1:(bq,Res.cells [.pointer (some ⟨bp,0,none⟩)] [] 129)∈Hc) (h2:(bp,Res.cells [.slice (some ⟨bs,0,none⟩) n n, .slice (some ⟨ba,0,none⟩) n n,vb, .slice none 0 0, .slice none 0 0, .slice none 0 0, .map (some bm), .int .i64 W] [] 135)∈Hc)
  (W7: ∀f:Nat×Res→Nat,(((bq,Res.cells [.pointer (some ⟨bp,0,none⟩)] [] 129):: (bp,Res.cells (PC (.slice (some ⟨bs,0,none⟩) n n) (.slice (some ⟨ba,0,none⟩) n n) vb (.slice none 0 0) (.slice none 0 0) (.slice none 0 0) (.map (some bm)) W) [] 135):: (bs,Res.cells (Fe n (.int .i64 0)) [] 3):: (ba,Res.cells (Fe n (.int .i64 0)) [] 3):: (bm,Res.map []):: (b1,Res.cells C [] 27):: (kb++H)).map f).sum≤(Hc.map f).sum):
  Upd G Hc fun G' H'=> ∃bq bp bs ba bm vb kb,zO [] 3 1 vb n xs kb∧G'=G∧zy [1,3,4] l=[(1, .pointer (some ⟨b1,0,none⟩)),(3, .int .i64 (n:Nat)),(4, .pointer (some ⟨bq,0,none⟩))]∧H'=(bq,Res.cells [.pointer (some ⟨bp,0,none⟩)] [] 129):: (bp,Res.cells (PC (.slice (some ⟨bs,0,none⟩) n n) (.slice (some ⟨ba,0,none⟩) n n) vb (.slice none 0 0) (.slice none 0 0) (.slice none 0 0) (.map (some bm)) W) [] 135):: (bs,Res.cells (Fe n (.int .i64 0)) [] 3):: (ba,Res.cells (Fe n (.int .i64 0)) [] 3):: (bm,Res.map []):: (b1,Res.cells C [] 27):: (kb++H):=
 Xf W7 ⟨bq,bp,bs,ba,bm,vb,kb,hO,rfl,hl,rfl⟩
theorem zzY {d:DfaT} (P0:zr d) {C:List Value} {an al ay:Option Addr} {cn cl cs:Nat} {rs:List Value} {G:zb} {H:za} (O:OpenD G d C an al ay cn cl cs rs) {b1:Nat} {v2:Value}:
  Tri Tryz.prog Tryz.f103.ntmps (piece [1,1,0] Tryz.f103) G [(1, .pointer (some ⟨b1,0,none⟩)),(2,v2),(3, .int .i64 (d.label.length:Nat))] ((b1, .cells C [] 27)::H) (onlyN fun G' l H'=>
   ∃bq bp bs ba bm vb kb,zO [] 3 1 vb d.label.length ((zd d.label).map (Yd .i64)) kb∧G'=G∧zy [1,3,4] l=[(1, .pointer (some ⟨b1,0,none⟩)),(3, .int .i64 (d.label.length:Nat)),(4, .pointer (some ⟨bq,0,none⟩))]∧H'=(bq,Res.cells [.pointer (some ⟨bp,0,none⟩)] [] 129):: (bp,Res.cells (PC (.slice (some ⟨bs,0,none⟩) d.label.length d.label.length) (.slice (some ⟨ba,0,none⟩) d.label.length d.label.length) vb (.slice none 0 0) (.slice none 0 0) (.slice none 0 0) (.map (some bm)) d.width) [] 135):: (bs,Res.cells (Fe d.label.length (.int .i64 0)) [] 3):: (ba,Res.cells (Fe d.label.length (.int .i64 0)) [] 3):: (bm,Res.map []):: (b1,Res.cells C [] 27):: (kb++H)):=by
 obtain⟨U3,M2,V3,A4,M4⟩:=id P0;have N0:=O.len;have X0:=O.l;have D1:=O.w;have L5:=O.label;refine Tri.sepT fun M1=>?_;have hE:=M1;try simp only[zzs] at hE
 repeat(obtain⟨J0,hE⟩:=hE)
 refine Xg (f:=Tryz.f103) rfl ?_;refine Yg tok zbS Kk ?_
 repeat' first
  |with_reducible first|refine Zd ?_ |refine Ae (fun _=>?_) fun _=>?_ |refine Nb fun nb A0 C0 B0=>?_ |refine Nr fun nb D0 E0 A0 I0 C0 B0=>?_
  |simp -dsimp -implicitDefEqProofs (disch:=first|exact Kd|fail) only[go_sem,↓reduceIte,seval, -He,N0,X0,D1]
  |with_reducible refine Wg tok mixed zbS 2 [5,9] (.op 0 .plain (.op 2 .plain (.op 4 .plain (.op 5 .held (.op 8 .plain (.op 9 .held (.both (.op 1 .keeps (.both (.op 3 .keeps (.both (.op 6 .keeps (.both (.op 7 .keeps (.op 10 .plain (.both (.op 11 .keeps (.op 12 .keeps (.op 13 .plain .nil))) (.op 12 .keeps (.op 11 .keeps (.op 13 .plain .nil)))))) (.op 12 .keeps (.op 7 .keeps (.op 10 .plain (.op 11 .keeps (.op 13 .plain .nil))))))) (.both (.op 7 .keeps (.both (.op 6 .keeps (.op 10 .plain (.both (.op 11 .keeps (.op 12 .keeps (.op 13 .plain .nil))) (.op 12 .keeps (.op 11 .keeps (.op 13 .plain .nil)))))) (.op 12 .keeps (.op 6 .keeps (.op 10 .plain (.op 11 .keeps (.op 13 .plain .nil))))))) (.op 12 .keeps (.both (.op 6 .keeps (.op 7 .keeps (.op 10 .plain (.op 11 .keeps (.op 13 .plain .nil))))) (.op 7 .keeps (.op 6 .keeps (.op 10 .plain (.op 11 .keeps (.op 13 .plain .nil)))))))))) (.both (.op 6 .keeps (.both (.op 3 .keeps (.both (.op 7 .keeps (.op 10 .plain (.both (.op 11 .keeps (.op 12 .keeps (.op 13 .plain .nil))) (.op 12 .keeps (.op 11 .keeps (.op 13 .plain .nil)))))) (.op 12 .keeps (.op 7 .keeps (.op 10 .plain (.op 11 .keeps (.op 13 .plain .nil))))))) (.both (.op 7 .keeps (.both (.op 3 .keeps (.op 10 .plain (.both (.op 11 .keeps (.op 12 .keeps (.op 13 .plain .nil))) (.op 12 .keeps (.op 11 .keeps (.op 13 .plain .nil)))))) (.op 12 .keeps (.op 3 .keeps (.op 10 .plain (.op 11 .keeps (.op 13 .plain .nil))))))) (.op 12 .keeps (.both (.op 3 .keeps (.op 7 .keeps (.op 10 .plain (.op 11 .keeps (.op 13 .plain .nil))))) (.op 7 .keeps (.op 3 .keeps (.op 10 .plain (.op 11 .keeps (.op 13 .plain .nil)))))))))) (.both (.op 7 .keeps (.both (.op 3 .keeps (.both (.op 6 .keeps (.op 10 .plain (.both (.op 11 .keeps (.op 12 .keeps (.op 13 .plain .nil))) (.op 12 .keeps (.op 11 .keeps (.op 13 .plain .nil)))))) (.op 12 .keeps (.op 6 .keeps (.op 10 .plain (.op 11 .keeps (.op 13 .plain .nil))))))) (.both (.op 6 .keeps (.both (.op 3 .keeps (.op 10 .plain (.both (.op 11 .keeps (.op 12 .keeps (.op 13 .plain .nil))) (.op 12 .keeps (.op 11 .keeps (.op 13 .plain .nil)))))) (.op 12 .keeps (.op 3 .keeps (.op 10 .plain (.op 11 .keeps (.op 13 .plain .nil))))))) (.op 12 .keeps (.both (.op 3 .keeps (.op 6 .keeps (.op 10 .plain (.op 11 .keeps (.op 13 .plain .nil))))) (.op 6 .keeps (.op 3 .keeps (.op 10 .plain (.op 11 .keeps (.op 13 .plain .nil)))))))))) (.op 12 .keeps (.both (.op 3 .keeps (.both (.op 6 .keeps (.op 7 .keeps (.op 10 .plain (.op 11 .keeps (.op 13 .plain .nil))))) (.op 7 .keeps (.op 6 .keeps (.op 10 .plain (.op 11 .keeps (.op 13 .plain .nil))))))) (.both (.op 6 .keeps (.both (.op 3 .keeps (.op 7 .keeps (.op 10 .plain (.op 11 .keeps (.op 13 .plain .nil))))) (.op 7 .keeps (.op 3 .keeps (.op 10 .plain (.op 11 .keeps (.op 13 .plain .nil))))))) (.op 7 .keeps (.both (.op 3 .keeps (.op 6 .keeps (.op 10 .plain (.op 11 .keeps (.op 13 .plain .nil))))) (.op 6 .keeps (.op 3 .keeps (.op 10 .plain (.op 11 .keeps (.op 13 .plain .nil)))))))))))))) (.both (.op 3 .keeps (.both (.op 1 .keeps (.both (.op 6 .keeps (.both (.op 7 .keeps (.op 10 .plain (.both (.op 11 .keeps (.op 12 .keeps (.op 13 .plain .nil))) (.op 12 .keeps (.op 11 .keeps (.op 13 .plain .nil)))))) (.op 12 .keeps (.op 7 .keeps (.op 10 .plain (.op 11 .keeps (.op 13 .plain .nil))))))) (.both (.op 7 .keeps (.both (.op 6 .keeps (.op 10 .plain (.both (.op 11 .keeps (.op 12 .keeps (.op 13 .plain .nil))) (.op 12 .keeps (.op 11 .keeps (.op 13 .plain .nil)))))) (.op 12 .keeps (.op 6 .keeps (.op 10 .plain (.op 11 .keeps (.op 13 .plain .nil))))))) (.op 12 .keeps (.both (.op 6 .keeps (.op 7 .keeps (.op 10 .plain (.op 11 .keeps (.op 13 .plain .nil))))) (.op 7 .keeps (.op 6 .keeps (.op 10 .plain (.op 11 .keeps (.op 13 .plain .nil)))))))))) (.both (.op 6 .keeps (.both (.op 1 .keeps (.both (.op 7 .keeps (.op 10 .plain (.both (.op 11 .keeps (.op 12 .keeps (.op 13 .plain .nil))) (.op 12 .keeps (.op 11 .keeps (.op 13 .plain .nil)))))) (.op 12 .keeps (.op 7 .keeps (.op 10 .plain (.op 11 .keeps (.op 13 .plain .nil))))))) (.both (.op 7 .keeps (.both (.op 1 .keeps (.op 10 .plain (.both (.op 11 .keeps (.op 12 .keeps (.op 13 .plain .nil))) (.op 12 .keeps (.op 11 .keeps (.op 13 .plain .nil)))))) (.op 12 .keeps (.op 1 .keeps (.op 10 .plain (.op 11 .keeps (.op 13 .plain .nil))))))) (.op 12 .keeps (.both (.op 1 .keeps (.op 7 .keeps (.op 10 .plain (.op 11 .keeps (.op 13 .plain .nil))))) (.op 7 .keeps (.op 1 .keeps (.op 10 .plain (.op 11 .keeps (.op 13 .plain .nil)))))))))) (.both (.op 7 .keeps (.both (.op 1 .keeps (.both (.op 6 .keeps (.op 10 .plain (.both (.op 11 .keeps (.op 12 .keeps (.op 13 .plain .nil))) (.op 12 .keeps (.op 11 .keeps (.op 13 .plain .nil)))))) (.op 12 .keeps (.op 6 .keeps (.op 10 .plain (.op 11 .keeps (.op 13 .plain .nil))))))) (.both (.op 6 .keeps (.both (.op 1 .keeps (.op 10 .plain (.both (.op 11 .keeps (.op 12 .keeps (.op 13 .plain .nil))) (.op 12 .keeps (.op 11 .keeps (.op 13 .plain .nil)))))) (.op 12 .keeps (.op 1 .keeps (.op 10 .plain (.op 11 .keeps (.op 13 .plain .nil))))))) (.op 12 .keeps (.both (.op 1 .keeps (.op 6 .keeps (.op 10 .plain (.op 11 .keeps (.op 13 .plain .nil))))) (.op 6 .keeps (.op 1 .keeps (.op 10 .plain (.op 11 .keeps (.op 13 .plain .nil)))))))))) (.op 12 .keeps (.both (.op 1 .keeps (.both (.op 6 .keeps (.op 7 .keeps (.op 10 .plain (.op 11 .keeps (.op 13 .plain .nil))))) (.op 7 .keeps (.op 6 .keeps (.op 10 .plain (.op 11 .keeps (.op 13 .plain .nil))))))) (.both (.op 6 .keeps (.both (.op 1 .keeps (.op 7 .keeps (.op 10 .plain (.op 11 .keeps (.op 13 .plain .nil))))) (.op 7 .keeps (.op 1 .keeps (.op 10 .plain (.op 11 .keeps (.op 13 .plain .nil))))))) (.op 7 .keeps (.both (.op 1 .keeps (.op 6 .keeps (.op 10 .plain (.op 11 .keeps (.op 13 .plain .nil))))) (.op 6 .keeps (.op 1 .keeps (.op 10 .plain (.op 11 .keeps (.op 13 .plain .nil)))))))))))))) (.both (.op 6 .keeps (.both (.op 1 .keeps (.both (.op 3 .keeps (.both (.op 7 .keeps (.op 10 .plain (.both (.op 11 .keeps (.op 12 .keeps (.op 13 .plain .nil))) (.op 12 .keeps (.op 11 .keeps (.op 13 .plain .nil)))))) (.op 12 .keeps (.op 7 .keeps (.op 10 .plain (.op 11 .keeps (.op 13 .plain .nil))))))) (.both (.op 7 .keeps (.both (.op 3 .keeps (.op 10 .plain (.both (.op 11 .keeps (.op 12 .keeps (.op 13 .plain .nil))) (.op 12 .keeps (.op 11 .keeps (.op 13 .plain .nil)))))) (.op 12 .keeps (.op 3 .keeps (.op 10 .plain (.op 11 .keeps (.op 13 .plain .nil))))))) (.op 12 .keeps (.both (.op 3 .keeps (.op 7 .keeps (.op 10 .plain (.op 11 .keeps (.op 13 .plain .nil))))) (.op 7 .keeps (.op 3 .keeps (.op 10 .plain (.op 11 .keeps (.op 13 .plain .nil)))))))))) (.both (.op 3 .keeps (.both (.op 1 .keeps (.both (.op 7 .keeps (.op 10 .plain (.both (.op 11 .keeps (.op 12 .keeps (.op 13 .plain .nil))) (.op 12 .keeps (.op 11 .keeps (.op 13 .plain .nil)))))) (.op 12 .keeps (.op 7 .keeps (.op 10 .plain (.op 11 .keeps (.op 13 .plain .nil))))))) (.both (.op 7 .keeps (.both (.op 1 .keeps (.op 10 .plain (.both (.op 11 .keeps (.op 12 .keeps (.op 13 .plain .nil))) (.op 12 .keeps (.op 11 .keeps (.op 13 .plain .nil)))))) (.op 12 .keeps (.op 1 .keeps (.op 10 .plain (.op 11 .keeps (.op 13 .plain .nil))))))) (.op 12 .keeps (.both (.op 1 .keeps (.op 7 .keeps (.op 10 .plain (.op 11 .keeps (.op 13 .plain .nil))))) (.op 7 .keeps (.op 1 .keeps (.op 10 .plain (.op 11 .keeps (.op 13 .plain .nil)))))))))) (.both (.op 7 .keeps (.both (.op 1 .keeps (.both (.op 3 .keeps (.op 10 .plain (.both (.op 11 .keeps (.op 12 .keeps (.op 13 .plain .nil))) (.op 12 .keeps (.op 11 .keeps (.op 13 .plain .nil)))))) (.op 12 .keeps (.op 3 .keeps (.op 10 .plain (.op 11 .keeps (.op 13 .plain .nil))))))) (.both (.op 3 .keeps (.both (.op 1 .keeps (.op 10 .plain (.both (.op 11 .keeps (.op 12 .keeps (.op 13 .plain .nil))) (.op 12 .keeps (.op 11 .keeps (.op 13 .plain .nil)))))) (.op 12 .keeps (.op 1 .keeps (.op 10 .plain (.op 11 .keeps (.op 13 .plain .nil))))))) (.op 12 .keeps (.both (.op 1 .keeps (.op 3 .keeps (.op 10 .plain (.op 11 .keeps (.op 13 .plain .nil))))) (.op 3 .keeps (.op 1 .keeps (.op 10 .plain (.op 11 .keeps (.op 13 .plain .nil)))))))))) (.op 12 .keeps (.both (.op 1 .keeps (.both (.op 3 .keeps (.op 7 .keeps (.op 10 .plain (.op 11 .keeps (.op 13 .plain .nil))))) (.op 7 .keeps (.op 3 .keeps (.op 10 .plain (.op 11 .keeps (.op 13 .plain .nil))))))) (.both (.op 3 .keeps (.both (.op 1 .keeps (.op 7 .keeps (.op 10 .plain (.op 11 .keeps (.op 13 .plain .nil))))) (.op 7 .keeps (.op 1 .keeps (.op 10 .plain (.op 11 .keeps (.op 13 .plain .nil))))))) (.op 7 .keeps (.both (.op 1 .keeps (.op 3 .keeps (.op 10 .plain (.op 11 .keeps (.op 13 .plain .nil))))) (.op 3 .keeps (.op 1 .keeps (.op 10 .plain (.op 11 .keeps (.op 13 .plain .nil)))))))))))))) (.both (.op 7 .keeps (.both (.op 1 .keeps (.both (.op 3 .keeps (.both (.op 6 .keeps (.op 10 .plain (.both (.op 11 .keeps (.op 12 .keeps (.op 13 .plain .nil))) (.op 12 .keeps (.op 11 .keeps (.op 13 .plain .nil)))))) (.op 12 .keeps (.op 6 .keeps (.op 10 .plain (.op 11 .keeps (.op 13 .plain .nil))))))) (.both (.op 6 .keeps (.both (.op 3 .keeps (.op 10 .plain (.both (.op 11 .keeps (.op 12 .keeps (.op 13 .plain .nil))) (.op 12 .keeps (.op 11 .keeps (.op 13 .plain .nil)))))) (.op 12 .keeps (.op 3 .keeps (.op 10 .plain (.op 11 .keeps (.op 13 .plain .nil))))))) (.op 12 .keeps (.both (.op 3 .keeps (.op 6 .keeps (.op 10 .plain (.op 11 .keeps (.op 13 .plain .nil))))) (.op 6 .keeps (.op 3 .keeps (.op 10 .plain (.op 11 .keeps (.op 13 .plain .nil)))))))))) (.both (.op 3 .keeps (.both (.op 1 .keeps (.both (.op 6 .keeps (.op 10 .plain (.both (.op 11 .keeps (.op 12 .keeps (.op 13 .plain .nil))) (.op 12 .keeps (.op 11 .keeps (.op 13 .plain .nil)))))) (.op 12 .keeps (.op 6 .keeps (.op 10 .plain (.op 11 .keeps (.op 13 .plain .nil))))))) (.both (.op 6 .keeps (.both (.op 1 .keeps (.op 10 .plain (.both (.op 11 .keeps (.op 12 .keeps (.op 13 .plain .nil))) (.op 12 .keeps (.op 11 .keeps (.op 13 .plain .nil)))))) (.op 12 .keeps (.op 1 .keeps (.op 10 .plain (.op 11 .keeps (.op 13 .plain .nil))))))) (.op 12 .keeps (.both (.op 1 .keeps (.op 6 .keeps (.op 10 .plain (.op 11 .keeps (.op 13 .plain .nil))))) (.op 6 .keeps (.op 1 .keeps (.op 10 .plain (.op 11 .keeps (.op 13 .plain .nil)))))))))) (.both (.op 6 .keeps (.both (.op 1 .keeps (.both (.op 3 .keeps (.op 10 .plain (.both (.op 11 .keeps (.op 12 .keeps (.op 13 .plain .nil))) (.op 12 .keeps (.op 11 .keeps (.op 13 .plain .nil)))))) (.op 12 .keeps (.op 3 .keeps (.op 10 .plain (.op 11 .keeps (.op 13 .plain .nil))))))) (.both (.op 3 .keeps (.both (.op 1 .keeps (.op 10 .plain (.both (.op 11 .keeps (.op 12 .keeps (.op 13 .plain .nil))) (.op 12 .keeps (.op 11 .keeps (.op 13 .plain .nil)))))) (.op 12 .keeps (.op 1 .keeps (.op 10 .plain (.op 11 .keeps (.op 13 .plain .nil))))))) (.op 12 .keeps (.both (.op 1 .keeps (.op 3 .keeps (.op 10 .plain (.op 11 .keeps (.op 13 .plain .nil))))) (.op 3 .keeps (.op 1 .keeps (.op 10 .plain (.op 11 .keeps (.op 13 .plain .nil)))))))))) (.op 12 .keeps (.both (.op 1 .keeps (.both (.op 3 .keeps (.op 6 .keeps (.op 10 .plain (.op 11 .keeps (.op 13 .plain .nil))))) (.op 6 .keeps (.op 3 .keeps (.op 10 .plain (.op 11 .keeps (.op 13 .plain .nil))))))) (.both (.op 3 .keeps (.both (.op 1 .keeps (.op 6 .keeps (.op 10 .plain (.op 11 .keeps (.op 13 .plain .nil))))) (.op 6 .keeps (.op 1 .keeps (.op 10 .plain (.op 11 .keeps (.op 13 .plain .nil))))))) (.op 6 .keeps (.both (.op 1 .keeps (.op 3 .keeps (.op 10 .plain (.op 11 .keeps (.op 13 .plain .nil))))) (.op 3 .keeps (.op 1 .keeps (.op 10 .plain (.op 11 .keeps (.op 13 .plain .nil)))))))))))))) (.op 12 .keeps (.both (.op 1 .keeps (.both (.op 3 .keeps (.both (.op 6 .keeps (.op 7 .keeps (.op 10 .plain (.op 11 .keeps (.op 13 .plain .nil))))) (.op 7 .keeps (.op 6 .keeps (.op 10 .plain (.op 11 .keeps (.op 13 .plain .nil))))))) (.both (.op 6 .keeps (.both (.op 3 .keeps (.op 7 .keeps (.op 10 .plain (.op 11 .keeps (.op 13 .plain .nil))))) (.op 7 .keeps (.op 3 .keeps (.op 10 .plain (.op 11 .keeps (.op 13 .plain .nil))))))) (.op 7 .keeps (.both (.op 3 .keeps (.op 6 .keeps (.op 10 .plain (.op 11 .keeps (.op 13 .plain .nil))))) (.op 6 .keeps (.op 3 .keeps (.op 10 .plain (.op 11 .keeps (.op 13 .plain .nil)))))))))) (.both (.op 3 .keeps (.both (.op 1 .keeps (.both (.op 6 .keeps (.op 7 .keeps (.op 10 .plain (.op 11 .keeps (.op 13 .plain .nil))))) (.op 7 .keeps (.op 6 .keeps (.op 10 .plain (.op 11 .keeps (.op 13 .plain .nil))))))) (.both (.op 6 .keeps (.both (.op 1 .keeps (.op 7 .keeps (.op 10 .plain (.op 11 .keeps (.op 13 .plain .nil))))) (.op 7 .keeps (.op 1 .keeps (.op 10 .plain (.op 11 .keeps (.op 13 .plain .nil))))))) (.op 7 .keeps (.both (.op 1 .keeps (.op 6 .keeps (.op 10 .plain (.op 11 .keeps (.op 13 .plain .nil))))) (.op 6 .keeps (.op 1 .keeps (.op 10 .plain (.op 11 .keeps (.op 13 .plain .nil)))))))))) (.both (.op 6 .keeps (.both (.op 1 .keeps (.both (.op 3 .keeps (.op 7 .keeps (.op 10 .plain (.op 11 .keeps (.op 13 .plain .nil))))) (.op 7 .keeps (.op 3 .keeps (.op 10 .plain (.op 11 .keeps (.op 13 .plain .nil))))))) (.both (.op 3 .keeps (.both (.op 1 .keeps (.op 7 .keeps (.op 10 .plain (.op 11 .keeps (.op 13 .plain .nil))))) (.op 7 .keeps (.op 1 .keeps (.op 10 .plain (.op 11 .keeps (.op 13 .plain .nil))))))) (.op 7 .keeps (.both (.op 1 .keeps (.op 3 .keeps (.op 10 .plain (.op 11 .keeps (.op 13 .plain .nil))))) (.op 3 .keeps (.op 1 .keeps (.op 10 .plain (.op 11 .keeps (.op 13 .plain .nil)))))))))) (.op 7 .keeps (.both (.op 1 .keeps (.both (.op 3 .keeps (.op 6 .keeps (.op 10 .plain (.op 11 .keeps (.op 13 .plain .nil))))) (.op 6 .keeps (.op 3 .keeps (.op 10 .plain (.op 11 .keeps (.op 13 .plain .nil))))))) (.both (.op 3 .keeps (.both (.op 1 .keeps (.op 6 .keeps (.op 10 .plain (.op 11 .keeps (.op 13 .plain .nil))))) (.op 6 .keeps (.op 1 .keeps (.op 10 .plain (.op 11 .keeps (.op 13 .plain .nil))))))) (.op 6 .keeps (.both (.op 1 .keeps (.op 3 .keeps (.op 10 .plain (.op 11 .keeps (.op 13 .plain .nil))))) (.op 3 .keeps (.op 1 .keeps (.op 10 .plain (.op 11 .keeps (.op 13 .plain .nil)))))))))))))))))))))))) Kk [(b1, .cells C [] 27)] Ks ?_
 repeat' (with_reducible refine And.intro ?_ ?_)
 all_goals as_aux_lemma=>
  repeat' first
   |with_reducible first|refine Zd ?_ |refine Ae (fun _=>?_) fun _=>?_ |refine Nb fun nb A0 C0 B0=>?_ |refine Nr fun nb D0 E0 A0 I0 C0 B0=>?_
   |simp -dsimp -implicitDefEqProofs (disch:=first|exact Kd|fail) only[go_sem,↓reduceIte,seval, -He,N0,X0,D1,Og,List.replicate_zero]
   | ((with_reducible refine zxL V3 L5 fun vb kb hsk hO=>?_);obtain⟨av,cv,rfl⟩:=zO.isS hO;(have hE:=hsk;try simp only[zzs] at hE;repeat(obtain⟨J0,hE⟩:=hE)))
   |with_reducible refine And.intro ?_ ?_
  all_goals
   apply zxM hO rfl
   ·repeat first
     |exact List.Mem.head _
     |with_reducible refine List.mem_append_right _ ?_
     |refine List.Mem.tail _ ?_
   ·repeat first
     |exact List.Mem.head _
     |with_reducible refine List.mem_append_right _ ?_
     |refine List.Mem.tail _ ?_
   ·intro fsum;simp only[PC,Ke,List.map_cons,List.map_nil,List.sum_append,List.sum_cons,List.sum_nil,List.cons_append,Af];omega
end Go.Proofs.YtomdbjfdbkejoaaGreatDoor
