/- A part of the proof, joined of several texts: the verification layer, contracts of functions, plain law. -/
import Derived.Test.YtomdbjfdbkejoaaGreatDoorU10
import Derived.Sort.Walk0
set_option maxHeartbeats 64000000
set_option linter.unusedSimpArgs false
set_option linter.unusedVariables false
set_option linter.unusedSectionVars false
open Go.V.Nx renaming go→Zd
open Go.V.Bk renaming go→Ae
open List renaming length_map→Be,reduceReplicate→He,getElem_map→Le,toList_toArray→Ye,getElem_mem→Me,getElem?_eq_getElem→Xe,length_append→Ve,replicate_one→Zh,getD_eq_getElem?_getD→Fg,map_append→Ke,take_succ_eq_append_getElem→Re,getElem_of_mem→Ue,length_take→Ge,replicate_zero→Wh,getElem_append_left→Ag,take_zero→Se,take_length→Te,length→Ji,take_of_length_le→Pe,mem_cons_self→Jh,append_nil→Bf,ext_getElem→Tg,drop_of_length_le→Gf,take→Hf,mem_cons_of_mem→Oh,nodup_iff_pairwise_ne→Ki,range→Hg,eq_nil_of_length_eq_zero→Df,mem_of_mem_take→Li,range_succ→Sf,findIdx?_eq_some_iff_getElem→Cf,getElem_range→Ci,nil_append→Af,length_singleton→Bg,append_assoc→Uf,length_pos_of_mem→Ni,not_mem_nil→Pi,pairwise_iff_getElem→Qi,lt_irrefl→Ri,getElem_append_right→Ng,nodup_append→Gi,length_cons→Ph,replicate→Fe,length_range→Qh,length_drop→Of
open Go.V.Row renaming obj→Ie
open Go.Value renaming int→Yd,slice→Wf
open Go.V.Upd renaming now→Ce,go→Oe,leave→Xf,shareRow→Jf,finL→De
open Int renaming toNat_natCast→Yf,eq_ofNat_of_zero_le→Dg
open Go.V.FnT renaming body→Ee,sep→Zf
open Nat renaming sub_self→Og,le_refl→Qe,mul_one→Gg,zero_le→Pg,add_zero→Mi,lt_or_ge→Eg,add_sub_cancel'→Oi
open Go.V.Tri renaming loopU→Je,live→Ch,run→Yg,drawS→Wg,piece→Xg,drawH→Vf,isPiece→Ah
open Option renaming getD_some→Ei
open Bool renaming eq_iff_iff→Lf
open Classical renaming byContradiction→Zg
namespace Go.Proofs.YtomdbjfdbkejoaaGreatDoor
abbrev zv3:List Nat:=[0,1,2,4,5,6,7,8,17,26]
abbrev zbN:List Nat:=[0,1,2,4,5,6,7,8,9,10,11,20,32,59,64,71,88]
abbrev zr9:List Nat:=[0,1,2,3,4,5,6,11,17,34]
abbrev zoK:List Nat:=[0,1,2,4,5,6,7,18,22,41,45,70]
abbrev zgf:List Nat:=[0,1,2,4,5,6,7,8,9,10,13,18,32,42,47]
abbrev zyU:List Nat:=[0,1,2,3,4,7]
abbrev zv4:List Nat:=[0,1,4,5,6,10,24]
abbrev zv5:List Nat:=[0,1,2,3,4,5,8,10,11,12,13,21]
abbrev zsa:List Nat:=[0,1,2,3,4,8,14,22]
open Go Go.V Go.Proofs
def zdq (L:List Int) (m:Nat):List Int:=(Hg m).map fun s:Nat=>(((place L (atL L s)).getD 0 :Nat):Int)
theorem zgg (L:List Int) (m:Nat):(zdq L m).length=m:=by simp [zdq]
theorem zt8 (L:List Int) (m:Nat):zdq L (m+1)=zdq L m++[(((place L (atL L m)).getD 0 :Nat):Int)]:=by
 unfold zdq;rw[Sf,Ke];rfl
theorem zt9 {L:List Int} {x:Int} {p:Nat} (h:place L x=some p): ∀j (hj:j<L.length),j<p→L[j]≠x:=by
 unfold place at h;rw[Cf] at h;obtain⟨h1,h2,h3⟩:=h;intro j hj hjp e;have:=h3 j hjp;simp [e] at this
theorem zua (L:List Int):zd (zdq L L.length)=zd L:=by
 refine zdj (zgg _ _) fun i j hi hj=>?_;rw[zgg] at hi hj;obtain⟨p,h1,h2,⟨h3,h4⟩,h5⟩:=zaU hi;obtain⟨p',g1,g2,⟨g3,g4⟩,g5⟩:=zaU hj
 have e1:(zdq L L.length)[i]'(by rw[zgg];exact hi)=(p:Int):=by
  simp only[zdq,Le,Ci];rw[zL (l:=L) (x:=(i:Int)) Ko];simp only[Yf,h1,Ei]
 have e2:(zdq L L.length)[j]'(by rw[zgg];exact hj)=(p':Int):=by
  simp only[zdq,Le,Ci];rw[zL (l:=L) (x:=(j:Int)) Ko];simp only[Yf,g1,Ei]
 rw[e1,e2];constructor
 ·intro e;obtain rfl:p=p':=by omega
  rw[←h4,g4]
 ·intro e;rw[e,g1] at h1;cases h1;rfl
theorem zsb:V.Callee Tryz.prog 114:=⟨_,_,Tryz.func114,rfl,by kernel_rfl⟩
theorem zv6 {d:DfaT} (P0:zr d) (K0:zg d) {k:Int} (hk:k<9223372036854775808) {G:zb} {H:za} {R:Value→zb→za→Prop} {v:Value} (hv:IsD G d v)
  (hR: ∀G' v',PLe G G'→Sep G' (zm H)→Sl G' (Yd .i64) v' (lvl d k.toNat)→R v' G' H):FnT Tryz.prog 115 [v, .int .i64 k] G H R:=by
 obtain⟨C,an,al,ay,cn,cl,cs,rs,rfl,O⟩:=hv.opened;have Y2:=K0.1;have K2:=K0.2.1;have N0:=O.len;have T0:=O.all;have X0:=O.l;have hlv:=zP K0.2.2.1 k.toNat;rw[K0.2.2.1] at hlv;refine Zf ?_;refine Ee tok zv3 Tryz.func115 rfl Kk Kk Kn fun M0=>?_;rw[Tryz.results115];have hE:=M0;try simp only[zzs] at hE
 repeat(obtain⟨J0,hE⟩:=hE)
 repeat' first
  |with_reducible first|refine Zd ?_ |refine Ae (fun _=>?_) fun _=>?_ |refine Nb fun nb A0 C0 B0=>?_ |refine Nr fun nb D0 E0 A0 I0 C0 B0=>?_
  |simp -dsimp -implicitDefEqProofs (disch:=first|exact Kd|fail) only[go_sem,↓reduceIte,seval, -He,Ye,N0,T0,X0,Og]
 refine zxW P0 K0 hk rfl O.is fun G2 a2 c2 Q0 R0 hW J4=>?_;have hE:=R0;try simp only[zzs] at hE
 repeat(obtain⟨J0,hE⟩:=hE)
 obtain⟨wv,R8,P4,hwg⟩:=hW;have hadw:Adr a2:=R8.adr Ko;obtain⟨nb1,e0⟩: ∃x,x=nb:=⟨_,rfl⟩;subst e0
 repeat' first
  |with_reducible first|refine Zd ?_ |refine Ae (fun _=>?_) fun _=>?_ |refine Nb fun nb A0 C0 B0=>?_ |refine Nr fun nb D0 E0 A0 I0 C0 B0=>?_
  |simp -dsimp -implicitDefEqProofs (disch:=first|exact Kd|fail) only[go_sem,↓reduceIte,seval, -He,Ye,N0,T0,X0,Og]
 refine Je tok zv3 Kk [2,4,5,6,7] (fun q G' fr H'=> ∃ (s b c:Nat) (sp:List Value),s+q=d.label.length∧s+sp.length=c∧G'=G2∧H'=(b, .cells ((zdq (lvl d k.toNat) s).map (Yd .i64)) sp 3):: (nb1, .cells C [] 27)::H∧fr=[(2, .pointer (some ⟨nb1,0,none⟩)),(4, .slice none 0 0),(5, .slice a2 d.label.length c2),(6, .slice (some ⟨b,0,none⟩) s c),(7, .int .i64 (s:Nat))]) (d.label.length) ?_ ?_
 ·exact Ce ⟨0,nb,0,[],by omega,rfl,rfl,rfl,rfl⟩
 ·rintro q G1 fr H' S0 V0 ⟨s,b,c,sp,hsq,hc,rfl,rfl,rfl⟩;have hE:=V0;try simp only[zzs] at hE
  repeat(obtain⟨J0,hE⟩:=hE)
  have B9:=zgg (lvl d k.toNat) s;by_cases I1:s<d.label.length
  ·obtain⟨p,h1,h2,⟨h3,h4⟩,h5⟩:=zaU (l:=lvl d k.toNat) (i:=s) Ko;have hmin:=zt9 h1;obtain⟨ar,cr,e1,hrr,e3⟩:=hwg s I1 Ko;have I2:=zY d.label.length (fL d k.toNat s);have hadr:Adr ar:=hrr.adr (by rw[zY];omega)
   have T5:(zdq (lvl d k.toNat) (s+1)).map (Yd .i64)=(zdq (lvl d k.toNat) s).map (Yd .i64)++[.int .i64 (p:Nat)]:=by
    rw[zt8,Ke,zL (l:=lvl d k.toNat) (x:=(s:Int)) Ko];simp only[Yf,h1,Ei];rfl
   repeat' first
    |with_reducible first|refine Zd ?_ |refine Ae (fun _=>?_) fun _=>?_ |refine Nb fun nb A0 C0 B0=>?_ |refine Nr fun nb D0 E0 A0 I0 C0 B0=>?_
    |simp -dsimp -implicitDefEqProofs (disch:=first|exact Kd|fail) only[go_sem,↓reduceIte,seval, -He,Ye,N0,T0,X0,Og]
   all_goals try(exfalso;omega)
   refine Je tok zv3 Kk [2,4,5,6,7,8] (fun q' G' fr H'=> ∃t:Nat,t+q'=p∧G'=G1∧H'=(b, .cells ((zdq (lvl d k.toNat) s).map (Yd .i64)) sp 3):: (nb1, .cells C [] 27)::H∧fr=[(2, .pointer (some ⟨nb1,0,none⟩)),(4, .slice none 0 0),(5, .slice a2 d.label.length c2),(6, .slice (some ⟨b,0,none⟩) s c),(7, .int .i64 (s:Nat)),(8, .int .i64 (t:Nat))]) (p) ?_ ?_
   ·refine Ce ?_;exact⟨0,by omega,rfl,rfl,rfl⟩
   ·rintro q' G9 fr H' hle' hs1' ⟨t,htq,rfl,rfl,rfl⟩;have L1:t<d.label.length:=by omega
    have hft:fL d k.toNat s t= !decide (t=p):=by
     rw[Lf,zhk K0.2.2.1 I1 L1,Bool.not_eq_true',decide_eq_false_iff_not];constructor
     ·intro P3 e;subst e;exact P3 h4.symm
     ·intro P3 e;exact hmin t Ko Ko e.symm
    by_cases htp:t<p
    ·have hft:fL d k.toNat s t=true:=by rw[hft,decide_eq_false Ko];rfl
     repeat' first
      |with_reducible first|refine Zd ?_ |refine Ae (fun _=>?_) fun _=>?_ |refine Nb fun nb A0 C0 B0=>?_ |refine Nr fun nb D0 E0 A0 I0 C0 B0=>?_
      |simp -dsimp -implicitDefEqProofs (disch:=first|exact Kd|fail) only[go_sem,↓reduceIte,seval, -He,Ye,N0,T0,X0,Ie R8,e1,Ie hrr,zdX _ L1,hft]
     exact Ce ⟨q' - 1,by omega,t+1,by omega,rfl,rfl,rfl⟩
    ·obtain rfl:t=p:=by omega
     have hft:fL d k.toNat s t=false:=by rw[hft,decide_eq_true rfl];rfl
     repeat' first
      |with_reducible first|refine Zd ?_ |refine Ae (fun _=>?_) fun _=>?_ |refine Nb fun nb A0 C0 B0=>?_ |refine Nr fun nb D0 E0 A0 I0 C0 B0=>?_
      |simp -dsimp -implicitDefEqProofs (disch:=first|exact Kd|fail) only[go_sem,↓reduceIte,seval, -He,Ye,Zh,N0,T0,X0,Ie R8,e1,Ie hrr,zdX _ L1,hft]
     rw[←T5];exact Oe (H':=(nb, .cells ((zdq (lvl d k.toNat) (s+1)).map (Yd .i64)) D0 3):: (nb1, .cells C [] 27)::H) Ks (Ce ⟨q - 1,by omega,s+1,nb,E0,D0,by omega,by simp [B9] at I0⊢;omega,rfl,rfl,rfl⟩)
  ·obtain rfl:s=d.label.length:=by omega
   have B5:=zua (lvl d k.toNat);rw[hlv,zbL] at B5
   repeat' first
    |with_reducible first|refine Zd ?_ |refine Ae (fun _=>?_) fun _=>?_ |refine Nb fun nb A0 C0 B0=>?_ |refine Nr fun nb D0 E0 A0 I0 C0 B0=>?_
    |simp -dsimp -implicitDefEqProofs (disch:=first|exact Kd|fail) only[go_sem,↓reduceIte,seval, -He,Ye,N0,T0,X0]
   all_goals try(exfalso;omega)
   refine FnT.pre zsb ?_;refine Oe (H':=(b, .cells ((zdq (lvl d k.toNat) d.label.length).map (Yd .i64)) sp 3)::H) Ks (Jf Ka fun G3 A1 K1 D2=>?_);refine zqf (l:=zdq (lvl d k.toNat) d.label.length) Ko ⟨some ⟨b,0,none⟩,c,by rw[B9],D2,by omega⟩ fun G4 v4 Z1 S1 Za=>?_;rw[B5] at Za;have hE:=S1;try simp only[zzs] at hE
   repeat(obtain⟨J0,hE⟩:=hE)
   repeat' first
    |with_reducible first|refine Zd ?_ |refine Ae (fun _=>?_) fun _=>?_ |refine Nb fun nb A0 C0 B0=>?_ |refine Nr fun nb D0 E0 A0 I0 C0 B0=>?_
    |simp -dsimp -implicitDefEqProofs (disch:=first|exact Kd|fail) only[go_sem,↓reduceIte,seval, -He,Ye,N0,T0,X0]
   unfold zo;refine Xf (H':=H) Ks ?_;exact fun _ hs=>hR G4 _ (Q0.trans (A1.trans Z1)) hs Za
theorem zub {d:DfaT} (P0:zr d) (K0:zg d) {G:zb} {H:za} {R:Value→zb→za→Prop} {v:Value} (hv:IsD G d v)
  (hR: ∀G' v',PLe G G'→Sep G' (zm H)→Sl G' (Yd .i64) v' (lvl d d.label.length)→R v' G' H):FnT Tryz.prog 76 [v] G H R:=by
 obtain⟨C,an,al,ay,cn,cl,cs,rs,rfl,O⟩:=hv.opened;have N0:=O.len;have T0:=O.all;have X0:=O.l;have K2:=K0.2.1;refine Zf ?_;refine Ee tok [0,1,2] Tryz.func76 rfl Kk Kk Kn fun M0=>?_;rw[Tryz.results76];have hE:=M0;try simp only[zzs] at hE
 repeat(obtain⟨J0,hE⟩:=hE)
 repeat' first
  |with_reducible first|refine Zd ?_ |refine Ae (fun _=>?_) fun _=>?_ |refine Nb fun nb A0 C0 B0=>?_
  |simp -dsimp -implicitDefEqProofs (disch:=first|exact Kd|fail) only[go_sem,↓reduceIte,seval, -He,Ye,N0,T0,X0]
 refine zv6 P0 K0 Ko O.is fun G2 v2 Q0 R0 V5=>?_;have hE:=R0;try simp only[zzs] at hE
 repeat(obtain⟨J0,hE⟩:=hE)
 rw[Yf] at V5
 repeat' first
  |with_reducible first|refine Zd ?_ |refine Ae (fun _=>?_) fun _=>?_ |refine Nb fun nb A0 C0 B0=>?_
  |simp -dsimp -implicitDefEqProofs (disch:=first|exact Kd|fail) only[go_sem,↓reduceIte,seval]
 unfold zo;refine Xf (H':=H) Ks ?_;exact fun _ hs=>hR G2 _ Q0 hs V5
theorem zv7 {d:DfaT} {n:Nat} (hn:zk3 d n):lvl d d.label.length=lvl d n:=by
 have:=hn.1;exact zfe hn.2.1 Ko
theorem zgh {l:List Int} (hl:l.length≤2000000) {x:Int} {G:zb} {H:za} {R:Value→zb→za→Prop} {v:Value} (hv:Sl G (Yd .i64) v l)
  (hR:R (.int .i64 (zw l x)) G H):FnT Tryz.prog 111 [v, .int .i64 x] G H R:=by
 obtain⟨a,cap,rfl,U0,D5⟩:=hv;refine Ee tok kp2 Tryz.func111 rfl Kk Kk Kn fun M0=>?_;rw[Tryz.results111];have hE:=M0;try simp only[zzs] at hE
 repeat(obtain⟨J0,hE⟩:=hE)
 repeat' first
  |with_reducible first|refine Zd ?_ |refine Ae (fun _=>?_) fun _=>?_ |refine Nb fun nb A0 C0 B0=>?_
  |simp -dsimp -implicitDefEqProofs (disch:=first|exact Kd|fail) only[go_sem,↓reduceIte,seval]
 refine Je tok kp2 Kk [0,1,4,5] (fun q G' fr H'=> ∃i:Nat,i+q=l.length∧(∀j (h:j<l.length),j<i→l[j]≠x)∧G'=G∧H'=H∧fr=[(0, .slice a l.length cap),(1, .int .i64 x),(4, .int .i64 0),(5, .int .i64 (i:Nat))]) (l.length) (Ce ?_) ?_
 ·exact⟨0,by omega,fun j _ h=>by omega,rfl,rfl,rfl⟩
 ·rintro q G' fr H' S0 hs ⟨i,hi,B1,rfl,rfl,rfl⟩;by_cases Y0:i<l.length
  ·have B3:Adr a:=U0.adr (by rw[Be];omega);by_cases hx:l[i]=x
   ·have hf:zw l x=(i:Int):=zB (zvh Y0 ⟨Y0,rfl⟩ (fun j h hj=>by rw[hx];exact B1 j h hj) |> fun h=>by rw[hx] at h;exact h);rw[hf] at hR
    repeat' first
     |with_reducible first|refine Zd ?_ |refine Ae (fun _=>?_) fun _=>?_ |refine Nb fun nb A0 C0 B0=>?_
     |simp -dsimp -implicitDefEqProofs (disch:=first|exact Kd|fail) only[go_sem,↓reduceIte,seval,Ie U0,Le,hx]
    all_goals refine De ?_ hR ?_
    any_goals first|exact Ks|skip
    all_goals rfl
   ·repeat' first
     |with_reducible first|refine Zd ?_ |refine Ae (fun _=>?_) fun _=>?_ |refine Nb fun nb A0 C0 B0=>?_
     |simp -dsimp -implicitDefEqProofs (disch:=first|exact Kd|fail) only[go_sem,↓reduceIte,seval,Ie U0,Le,hx]
    exact Ce ⟨q - 1,by omega,i+1,by omega,fun j h hj=>by
     by_cases e:j=i
     ·subst e;exact hx
     ·exact B1 j h Ko,rfl,rfl,rfl⟩
  ·obtain rfl:i=l.length:=by omega
   have hf:zw l x= -1:=zbp (zbo fun h=>by obtain⟨j,hj,e⟩:=Ue h;exact B1 j hj hj e);rw[hf] at hR
   repeat' first
    |with_reducible first|refine Zd ?_ |refine Ae (fun _=>?_) fun _=>?_ |refine Nb fun nb A0 C0 B0=>?_
    |simp -dsimp -implicitDefEqProofs (disch:=first|exact Kd|fail) only[go_sem,↓reduceIte,seval]
   all_goals refine De ?_ hR ?_
   any_goals first|exact Ks|skip
   all_goals rfl
theorem zyV {d:DfaT} (P0:zr d) {C:List Value} {an al ay:Option Addr} {cn cl cs:Nat} {rs:List Value} {G:zb} {H:za} (O:OpenD G d C an al ay cn cl cs rs) {v0 v1:Value} {b2 b4:Nat}:
  Tri Tryz.prog Tryz.f73.ntmps (piece [1,1,0] Tryz.f73) G [(0,v0),(1,v1),(2, .pointer (some ⟨b2,0,none⟩)),(4, .pointer (some ⟨b4,0,none⟩)),(5, .int .i64 0)] ((b4, .cells zz [] 27):: (b2, .cells C [] 27)::H) (onlyN fun G' fr' H'=>
   ∃b7 vs,PLe G G'∧Sl G' str vs d.names∧zy [0,1,2,4,5,6] fr'=[(0,v0),(1,v1),(2, .pointer (some ⟨b2,0,none⟩)),(4, .pointer (some ⟨b4,0,none⟩)),(5, .int .i64 0),(6, .pointer (some ⟨b7,0,none⟩))]∧H'=(b7, .cells (zc d (.slice none 0 0) (.slice none 0 0) vs) [] 27):: (b4, .cells zz [] 27):: (b2, .cells C [] 27)::H):=by
 obtain⟨U3,M2,V3,A4,M4⟩:=id P0;have N0:=O.len;have D1:=O.w;have S2:=O.s;have E4:=O.of;have R5:(u8L d.of).length=256:=by rw[Be,O.ofl]
 have R3:=zdl O.ofl;have F4:=zc2 O.ofl;have D4:(u8L d.of++[Yd .i64 0,Wf none 0 0,Wf none 0 0,Wf none 0 0]).length=260:=by rw[Ve,R5];rfl
 have Z0: ∀v:Value,(zc d (.slice none 0 0) (.slice none 0 0) v).length=260:=fun v=>zN O.ofl _ _ _;have hb3:=zcG O.ofl (.slice none 0 0) (.slice none 0 0) (.slice none 0 0)
 have T4: ∀v:Value,zf zz 0 (zc d (.slice none 0 0) (.slice none 0 0) v)=zc d (.slice none 0 0) (.slice none 0 0) v:=fun v=>by
  unfold zf;rw[Se,Af,Gf (by rw[zj,Z0];omega),Bf]
 have S3:=zaC (d:=d) (vn:= .slice none 0 0) (vl:= .slice none 0 0) (vs:= .slice ay d.names.length cs) rfl rfl rfl;refine Tri.sepT fun M1=>?_;have hE:=M1;try simp only[zzs] at hE
 repeat(obtain⟨J0,hE⟩:=hE)
 refine Xg (f:=Tryz.f73) rfl ?_;refine Yg tok zbN Kk ?_
 repeat' first
  |with_reducible first|refine Zd ?_ |refine Ae (fun _=>?_) fun _=>?_ |refine Nb fun nb A0 C0 B0=>?_ |refine Nr fun nb D0 E0 A0 I0 C0 B0=>?_
  |with_reducible refine Vf tok mixed zbN 7 [3,9,11,20] (.op 0 .plain (.op 1 .plain (.op 2 .plain (.op 3 .held (.op 4 .plain (.op 5 .plain (.op 6 .plain (.op 7 .plain (.op 8 .plain (.op 9 .held (.op 10 .plain (.op 11 .held (.op 12 .plain (.op 13 .plain (.op 14 .plain (.op 15 .plain (.op 16 .plain (.op 17 .plain (.op 18 .plain (.op 19 .plain (.op 20 .held (.op 22 .plain (.op 21 .keeps (.op 23 .plain (.op 24 .plain .nil))))))))))))))))))))))))) Kk [1,2] ?_
  |with_reducible refine Tri.drawM tok mixed zbN 16 [2,6,8,11] (.op 0 .plain (.op 1 .plain (.op 2 .held (.op 3 .plain (.op 4 .plain (.op 5 .plain (.op 6 .held (.op 7 .plain (.op 8 .held (.op 9 .plain (.op 10 .plain (.op 11 .held (.op 12 .keeps (.op 13 .plain .nil)))))))))))))) Kk _ (List.Sublist.refl _) ?_
  |with_reducible refine Tri.drawM tok mixed zbN 21 [1,3,7,9] (.op 0 .plain (.op 1 .held (.op 2 .plain (.op 3 .held (.op 4 .plain (.op 5 .plain (.op 6 .plain (.op 7 .held (.op 8 .plain (.op 9 .held (.op 10 .keeps (.op 11 .keeps (.op 12 .plain (.op 13 .plain .nil)))))))))))))) Kk _ (List.Sublist.refl _) ?_
  |simp -dsimp -implicitDefEqProofs (disch:=first|exact Kd|fail) only[go_sem,↓reduceIte,seval, -He,Ye,N0,D1,S2,E4,R5,R3,F4,hb3,D4,Z0,zj,zG,T4,S3]
  | (with_reducible refine And.intro ?_ ?_)
 all_goals exact Ce ⟨nb,_,PLe.refl _,O.names,rfl,rfl⟩
theorem zqy {d:DfaT} {l:List Int} {C:List Value} {an al ay:Option Addr} {cn cl cs:Nat} {rs:List Value} {G:zb} {H:za} (O:OpenD G d C an al ay cn cl cs rs) {v0:Value} {aw:Option Addr} {cw:Nat} (hrw:Row G aw (l.map (Yd .i64))) {b2 b4 b7:Nat} {j t:Nat} (hj:j<l.length) (H6:j<65536) (ht:t<d.label.length) (A3:l[j]=(t:Int)) {vn vl vs:Value} {kl:za} (H8:zg4 d l j vl kl):
  Tri Tryz.prog Tryz.f73.ntmps (piece [1,1,1,1,0,1,0,0,1,0,0,1,1,1] Tryz.f73) G [(0,v0),(1, .slice aw l.length cw),(2, .pointer (some ⟨b2,0,none⟩)),(4, .pointer (some ⟨b4,0,none⟩)),(5, .int .i64 0),(6, .pointer (some ⟨b7,0,none⟩)),(8, .int .i64 (j:Nat))] ((b7, .cells (zc d vn vl vs) [] 27):: (b2, .cells C [] 27):: (kl++H)) (onlyN fun G' fr' H'=>
   ∃vl' kl',G'=G∧zg4 d l (j+1) vl' kl'∧zy [0,1,2,4,5,6,8] fr'=[(0,v0),(1, .slice aw l.length cw),(2, .pointer (some ⟨b2,0,none⟩)),(4, .pointer (some ⟨b4,0,none⟩)),(5, .int .i64 0),(6, .pointer (some ⟨b7,0,none⟩)),(8, .int .i64 (j:Nat))]∧H'=(b7, .cells (zc d vn vl' vs) [] 27):: (b2, .cells C [] 27):: (kl'++H)):=by
 have N0:=O.len;have X0:=O.l;have Z0: ∀a b c:Value,(zc d a b c).length=260:=fun a b c=>zN O.ofl _ _ _;have P2: ∀a b c:Value,(zc d a b c)[258]? =some b:=fun a b c=>zbz O.ofl _ _ _;have K4: ∀a b c x:Value,zf (zc d a b c) 258 [x]=zc d a x c:=fun a b c x=>zaH O.ofl _ _ _ _;have J2:d.label[t]=d.label.getD t 0:=by rw[Fg,Xe ht];rfl
 have L5:(zal d l).take (j+1)=(zal d l).take j++[d.label.getD t 0]:=by
  have U4:j< (zal d l).length:=by unfold zal;rw[Be];exact hj
  rw[Re U4];congr 2;simp only[zal,Le,A3,Yf]
 have L7:((zal d l).take j).length=j:=by rw[Ge];unfold zal;rw[Be];omega
 have hadw:Adr aw:=hrw.adr (by rw[Be];omega);have V6:Adr al:=O.rl.adr (by rw[Be];omega);refine Tri.sepT fun M1=>?_;rcases H8 with ⟨X2,rfl,rfl⟩| ⟨bl,c2,sp2,rfl,rfl,J4⟩
 ·have hE:=M1;try simp only[zzs] at hE
  repeat(obtain⟨J0,hE⟩:=hE)
  have T2:((zal d l).take (j+1)).map (Yd .i64)=[Yd .i64 (d.label.getD t 0)]:=by rw[L5,Ke,Df (L7.trans X2)];rfl
  refine Xg (f:=Tryz.f73) rfl ?_;refine Yg tok zbN Kk ?_
  repeat' first
   |with_reducible first|refine Zd ?_ |refine Ae (fun _=>?_) fun _=>?_ |refine Nb fun nb A0 C0 B0=>?_ |refine Nr fun nb D0 E0 A0 I0 C0 B0=>?_
   |simp -dsimp -implicitDefEqProofs (disch:=first|exact Kd|fail) only[go_sem,↓reduceIte,seval, -He,Zh,Ye,N0,X0,Z0,P2,K4,Ie hrw,Ie O.rl,Le,A3,J2,Yf,Og]
   |with_reducible refine Vf tok mixed zbN 21 [1,3,7,9] (.op 0 .plain (.op 1 .held (.op 2 .plain (.op 3 .held (.op 4 .plain (.op 5 .plain (.op 6 .plain (.op 7 .held (.op 8 .plain (.op 9 .held (.op 10 .keeps (.op 11 .keeps (.op 12 .plain (.op 13 .plain .nil)))))))))))))) Kk [6,2,1] ?_
  rw[←T2];exact Oe (H':=(b7, .cells (zc d vn (.slice (some ⟨nb,0,none⟩) 1 E0) vs) [] 27):: (b2, .cells C [] 27):: ([(nb, .cells (((zal d l).take (j+1)).map (Yd .i64)) D0 3)]++H)) Ks (Ce ⟨.slice (some ⟨nb,0,none⟩) 1 E0,_,rfl, .inr ⟨nb,E0,D0,by rw[X2],rfl,by omega⟩,rfl,rfl⟩)
 ·have hE:=M1;try simp only[zzs] at hE
  repeat(obtain⟨J0,hE⟩:=hE)
  obtain⟨ps,Q6,J3⟩: ∃ps,ps=((zal d l).take j).map (Yd .i64)∧ps.length=j:=⟨_,rfl,by rw[Be,L7]⟩;have T2:((zal d l).take (j+1)).map (Yd .i64)=ps++[Yd .i64 (d.label.getD t 0)]:=by rw[L5,Ke,←Q6];rfl
  rw[←Q6];refine Xg (f:=Tryz.f73) rfl ?_;refine Yg tok zbN Kk ?_
  repeat' first
   |with_reducible first|refine Zd ?_ |refine Ae (fun _=>?_) fun _=>?_ |refine Nb fun nb A0 C0 B0=>?_ |refine Nr fun nb D0 E0 A0 I0 C0 B0=>?_
   |simp -dsimp -implicitDefEqProofs (disch:=first|exact Kd|fail) only[go_sem,↓reduceIte,seval, -He,Zh,Ye,N0,X0,Z0,P2,K4,Ie hrw,Ie O.rl,Le,A3,J2,Yf,Og]
   |with_reducible refine Vf tok mixed zbN 21 [1,3,7,9] (.op 0 .plain (.op 1 .held (.op 2 .plain (.op 3 .held (.op 4 .plain (.op 5 .plain (.op 6 .plain (.op 7 .held (.op 8 .plain (.op 9 .held (.op 10 .keeps (.op 11 .keeps (.op 12 .plain (.op 13 .plain .nil)))))))))))))) Kk [6,2,1] ?_
  rw[←T2];exact Oe (H':=(b7, .cells (zc d vn (.slice (some ⟨nb,0,none⟩) (j+1) E0) vs) [] 27):: (b2, .cells C [] 27):: ([(nb, .cells (((zal d l).take (j+1)).map (Yd .i64)) D0 3)]++H)) Ks (Ce ⟨_,_,rfl, .inr ⟨nb,E0,D0,rfl,rfl,by omega⟩,rfl,rfl⟩)
theorem zAe {d:DfaT} (P0:zr d) (K0:zg d) {l:List Int} (hO:zaL d.label.length l) {C:List Value} {an al ay:Option Addr} {cn cl cs:Nat} {rs:List Value} {G:zb} {H:za} (O:OpenD G d C an al ay cn cl cs rs) {v0:Value} {b2 b4 b7:Nat} {ah:Option Addr} {ch:Nat} (hch:l.length≤ch) (S4:Row G ah ((l).map (Yd .i64))) {j:Nat} (hj:j<l.length) {vn vl vs:Value} {kn kl:za} (H8:zlX d l G j vn kn) (M9:zg4 d l j vl kl) (J6:zax vs=true) (Bb:zfE d l (l[j]'hj)):
  Tri Tryz.prog Tryz.f73.ntmps (piece [1,1,1,1,0,1,0,0,1,0,0] Tryz.f73) G [(0,v0),(1, .slice ah l.length ch),(2, .pointer (some ⟨b2,0,none⟩)),(4, .pointer (some ⟨b4,0,none⟩)),(5, .int .i64 0),(6, .pointer (some ⟨b7,0,none⟩)),(8, .int .i64 (j:Nat))] ((b7, .cells (zc d vn vl vs) [] 27):: (b2, .cells C [] 27):: (kn++(kl++H))) (onlyN fun G' fr' H'=>
   ∃vn' vl' kn' kl',PLe G G'∧zlX d l G' (j+1) vn' kn'∧zg4 d l (j+1) vl' kl'∧zy [0,1,2,4,5,6,8] fr'=[(0,v0),(1, .slice ah l.length ch),(2, .pointer (some ⟨b2,0,none⟩)),(4, .pointer (some ⟨b4,0,none⟩)),(5, .int .i64 0),(6, .pointer (some ⟨b7,0,none⟩)),(8, .int .i64 (j:Nat))]∧H'=(b7, .cells (zc d vn' vl' vs) [] 27):: (b2, .cells C [] 27):: (kn'++(kl'++H))):=by
 obtain⟨U3,M2,V3,A4,M4⟩:=id P0;obtain⟨Y2,K2,U2,N3,X3,Y3,Y1⟩:=id K0;have N0:=O.len;have D1:=O.w;have J1:=O.n;have X0:=O.l;have Z0: ∀a b c:Value,(zc d a b c).length=260:=fun a b c=>zN O.ofl _ _ _;have Z2: ∀a b c:Value,(zc d a b c)[257]? =some a:=fun a b c=>zcx O.ofl _ _ _;have P2: ∀a b c:Value,(zc d a b c)[258]? =some b:=fun a b c=>zbz O.ofl _ _ _;have U5: ∀a b c x:Value,zf (zc d a b c) 257 [x]=zc d x b c:=fun a b c x=>zbi O.ofl _ _ _ _;have K4: ∀a b c x:Value,zf (zc d a b c) 258 [x]=zc d a x c:=fun a b c x=>zaH O.ofl _ _ _ _;have Z9:=hO.2 _ (Me hj);obtain⟨t,A3⟩:=Dg Z9.1;have L3:t<d.label.length:=by omega
 have L1:t<d.next.length:=by omega
 have K7:t<d.label.length:=by omega
 have V8:t<rs.length:=by have:=O.rnl;omega
 obtain⟨b,c,e1,e2,e3⟩:=O.rs t L1 V8;obtain⟨I3,Ib,Ra,Y7⟩:=Y1 t L1 K7;obtain⟨row,U0⟩: ∃row,row=d.next[t]:=⟨_,rfl⟩;have I2:=M2 _ (Me L1);rw[←U0] at e1 e2 e3 I3 Y7 I2;have hw:d.width=(row.length:Int):=I3.symm;obtain⟨r,hr⟩: ∃r,r=zcJ d l (t:Nat):=⟨_,rfl⟩;have I8:r=row.map (zw l):=by rw[hr];unfold zcJ;rw[zas L1,U0]
 have L4: ∀x∈row,x∈l:=fun x hx=>by
  have h1:=Bb x;rw[A3,zas L1,←U0] at h1;exact h1 hx
 have I5:r.length=row.length:=by rw[I8,Be]
 have J2:d.label[t]=d.label.getD t 0:=by rw[Fg,Xe K7];rfl
 have L5:(zal d l).take (j+1)=(zal d l).take j++[d.label.getD t 0]:=by
  have U4:j< (zal d l).length:=by unfold zal;rw[Be];exact hj
  rw[Re U4];congr 2;simp only[zal,Le,A3,Yf]
 have L7:((zal d l).take j).length=j:=by rw[Ge];unfold zal;rw[Be];omega
 have Y5:zcJ d l l[j]=r:=by rw[A3,hr]
 have B3:Adr an:=O.rn.adr Ko;have V6:Adr al:=O.rl.adr (by rw[Be];omega);have Xa:Adr ah:=S4.adr (by rw[Be];omega);have R6:=hO.len;have hslh:Sl G (Yd .i64) (.slice ah l.length ch) l:=⟨ah,ch,rfl,S4,hch⟩
 have H6:j<65536:=by
  have h1:=hO.len;omega
 refine Tri.sepT fun M1=>?_;have hE:=M1;try simp only[zzs] at hE
 repeat(obtain⟨J0,hE⟩:=hE)
 refine Xg (f:=Tryz.f73) rfl ?_;refine Tri.runS tok zbN (.seq .run (.seq .run (.seq .run .cut))) Kk ?_
 repeat' first
  |with_reducible first|refine Zd ?_ |refine Ae (fun _=>?_) fun _=>?_ |refine Nb fun nb A0 C0 B0=>?_ |refine Nr fun nb D0 E0 A0 I0 C0 B0=>?_
  |simp -dsimp -implicitDefEqProofs (disch:=first|exact Kd|fail) only[go_sem,↓reduceIte,seval, -He,Ye,N0,D1,J1,X0,hw,Z0,Z2,P2,U5,K4,Ie S4,Ie O.rn,e1,Ie O.rl,Le,A3,J2,Yf,Og,Wh]
 refine Je tok zbN Kk [0,1,2,4,5,6,8,9,10] (fun q G' fr H'=> ∃ (k br cR:Nat) (spR:List Value),k+q=row.length∧k+spR.length=cR∧G'=G∧H'=(br, .cells ((r.take k).map (Yd .i64)) spR 3):: (b7, .cells (zc d vn vl vs) [] 27):: (b2, .cells C [] 27):: (kn++(kl++H))∧fr=[(0,v0),(1, .slice ah l.length ch),(2, .pointer (some ⟨b2,0,none⟩)),(4, .pointer (some ⟨b4,0,none⟩)),(5, .int .i64 0),(6, .pointer (some ⟨b7,0,none⟩)),(8, .int .i64 (j:Nat)),(9, .slice (some ⟨br,0,none⟩) k cR),(10, .int .i64 (k:Nat))]) (row.length) ?_ ?_
 ·refine Ce ?_;exact⟨0,nb,0,[],by omega,rfl,rfl,rfl,rfl⟩
 ·rintro q G1 fr H' S0 hs ⟨k,br,cR,spR,hk,hcR,rfl,rfl,rfl⟩;have X4:((r.take k).map (Yd .i64)).length=k:=by rw[Be,Ge];omega
  have Oc:(r.take k).length=k:=by rw[Ge];omega
  by_cases Q2:k<row.length
  ·have hE:=hs;try simp only[zzs] at hE
   repeat(obtain⟨J0,hE⟩:=hE)
   have D7:k<r.length:=by omega
   have Cd:Adr b:=e2.adr (by rw[Be];omega);have hx:=Y7 _ (Me Q2);obtain⟨y,Z4⟩:=Dg hx.1;have hym:y<d.label.length:=by omega
   have P5:zw l (row[k])=r[k]:=by
    simp only[I8,Le]
   have Ta:0≤r[k]:=by
    rw[←P5];refine zcr.2 ?_;exact L4 _ (Me Q2)
   have B2:=Re D7;have M2:(r.take k).map (Yd .i64)++[.int .i64 r[k]]=(r.take (k+1)).map (Yd .i64):=by rw[B2,Ke];rfl
   repeat' first
    |with_reducible first|refine Zd ?_ |refine Ae (fun _=>?_) fun _=>?_ |refine Nb fun nb A0 C0 B0=>?_ |refine Nr fun nb D0 E0 A0 I0 C0 B0=>?_
    |simp -dsimp -implicitDefEqProofs (disch:=first|exact Kd|fail) only[go_sem,↓reduceIte,seval, -He,N0,D1,J1,hw,Ie O.rn,Ie S4,e1,Ie e2,Le,A3,Oc,Zh]
    |with_reducible refine Wg tok mixed zbN 16 [2,6,8,11] (.op 0 .plain (.op 1 .plain (.op 2 .held (.op 3 .plain (.op 4 .plain (.op 5 .plain (.op 6 .held (.op 7 .plain (.op 8 .held (.op 9 .plain (.op 10 .plain (.op 11 .held (.op 12 .keeps (.op 13 .plain .nil)))))))))))))) Kk [(b2, .cells C [] 27)] Ks ?_
   refine zgh Ko hslh ?_;rw[P5]
   repeat' first
    |with_reducible first|refine Zd ?_ |refine Ae (fun _=>?_) fun _=>?_ |refine Nb fun nb A0 C0 B0=>?_ |refine Nr fun nb D0 E0 A0 I0 C0 B0=>?_
    |simp -dsimp -implicitDefEqProofs (disch:=first|exact Kd|fail) only[go_sem,↓reduceIte,seval, -He,N0,D1,J1,hw,Ie O.rn,Ie S4,e1,Ie e2,Le,A3,Oc,Zh]
   all_goals try(exfalso;omega)
   rw[M2];exact Oe (H':=(nb, .cells ((r.take (k+1)).map (Yd .i64)) D0 3):: (b7, .cells (zc d vn vl vs) [] 27):: (b2, .cells C [] 27):: (kn++(kl++H))) Ks (Ce ⟨q - 1,by omega,k+1,nb,E0,D0,by omega,by omega,rfl,rfl,rfl⟩)
  ·obtain rfl:k=row.length:=by omega
   have hpa:r.take row.length=r:=by rw[←I5,Te]
   rw[hpa] at hs⊢;rcases H8 with ⟨X2,rfl,rfl⟩| ⟨bn,c1,rv,sp1,rfl,rfl,T3,V7,F5⟩
   ·have hE:=hs;try simp only[zzs] at hE
    repeat(obtain⟨J0,hE⟩:=hE)
    repeat' first
     |with_reducible first|refine Zd ?_ |refine Ae (fun _=>?_) fun _=>?_ |refine Nb fun nb A0 C0 B0=>?_ |refine Nr fun nb D0 E0 A0 I0 C0 B0=>?_
     |simp -dsimp -implicitDefEqProofs (disch:=first|exact Kd|fail) only[go_sem,↓reduceIte,seval, -He,Be,L7,Zh,Ye,N0,D1,J1,X0,hw,Z0,Z2,P2,U5,K4,Ie S4,Ie O.rn,e1,Ie O.rl,Le,A3,J2,Yf,Og,Wh]
    refine Tri.upd (Oe (H':=(b7, .cells (zc d (.slice (some ⟨nb,0,none⟩) 1 E0) vl vs) [] 27):: (b2, .cells C [] 27):: (kl++((br, .cells (r.map (Yd .i64)) spR 3):: (nb, .cells [.slice (some ⟨br,0,none⟩) row.length cR] D0 24)::H))) Ks (Ce ?_));refine Ch [0,1,2,4,5,6,8] ?_;refine Ah [1,1,1,1,0,1,0,0,1,0,0,1,1,1] Tryz.f73 Kk ?_;refine Tri.onlyN (zqy O S4 hj H6 K7 A3 M9) fun G5 l5 H5 A2 P1 hM=>?_;obtain⟨vl',kl',rfl,X8,L4,rfl⟩:=hM;rw[zb1];have hE:=P1;try simp only[zzs] at hE
    repeat(obtain⟨J0,hE⟩:=hE)
    refine Oe (H':=(br, .cells (r.map (Yd .i64)) spR 3):: (b7, .cells (zc d (.slice (some ⟨nb,0,none⟩) 1 E0) vl' vs) [] 27):: (b2, .cells C [] 27):: ([(nb, .cells [.slice (some ⟨br,0,none⟩) row.length cR] D0 24)]++(kl'++H))) Ks (Jf Ka fun G6 Q1 E3 C6=>?_);refine⟨_,vl',_,kl',Q1, .inr ⟨nb,E0,_,D0,by rw[X2],rfl,by rw[X2];rfl,by omega,fun i h h2 h3=>?_⟩,X8,L4,rfl⟩;obtain rfl:i=0:=by omega
    obtain rfl:j=0:=X2;refine⟨some ⟨br,0,none⟩,cR,?_,?_,?_⟩
    ·rw[Y5,I5];rfl
    ·rw[Y5];exact C6
    ·rw[Y5,I5];omega
   ·have hE:=hs;try simp only[zzs] at hE
    repeat(obtain⟨J0,hE⟩:=hE)
    repeat' first
     |with_reducible first|refine Zd ?_ |refine Ae (fun _=>?_) fun _=>?_ |refine Nb fun nb A0 C0 B0=>?_ |refine Nr fun nb D0 E0 A0 I0 C0 B0=>?_
     |simp -dsimp -implicitDefEqProofs (disch:=first|exact Kd|fail) only[go_sem,↓reduceIte,seval, -He,Be,L7,Zh,Ye,N0,D1,J1,X0,hw,Z0,Z2,P2,U5,K4,Ie S4,Ie O.rn,e1,Ie O.rl,Le,A3,J2,Yf,Og,Wh]
    refine Tri.upd (Oe (H':=(b7, .cells (zc d (.slice (some ⟨nb,0,none⟩) (j+1) E0) vl vs) [] 27):: (b2, .cells C [] 27):: (kl++((br, .cells (r.map (Yd .i64)) spR 3):: (nb, .cells (rv++[.slice (some ⟨br,0,none⟩) row.length cR]) D0 24)::H))) Ks (Ce ?_));refine Ch [0,1,2,4,5,6,8] ?_;refine Ah [1,1,1,1,0,1,0,0,1,0,0,1,1,1] Tryz.f73 Kk ?_;refine Tri.onlyN (zqy O S4 hj H6 K7 A3 M9) fun G5 l5 H5 A2 P1 hM=>?_;obtain⟨vl',kl',rfl,X8,L4,rfl⟩:=hM;rw[zb1];have hE:=P1;try simp only[zzs] at hE
    repeat(obtain⟨J0,hE⟩:=hE)
    refine Oe (H':=(br, .cells (r.map (Yd .i64)) spR 3):: (b7, .cells (zc d (.slice (some ⟨nb,0,none⟩) (j+1) E0) vl' vs) [] 27):: (b2, .cells C [] 27):: ([(nb, .cells (rv++[.slice (some ⟨br,0,none⟩) row.length cR]) D0 24)]++(kl'++H))) Ks (Jf Ka fun G6 Q1 E3 C6=>?_);refine⟨_,vl',_,kl',Q1, .inr ⟨nb,E0,_,D0,rfl,rfl,by rw[Ve,T3];rfl,by omega,fun i h h2 h3=>?_⟩,X8,L4,rfl⟩;rcases Eg i j with Z3|Z3
    ·obtain⟨b',c',f1,f2,f3⟩:=F5 i Z3 Ko h3;exact⟨b',c',by rw[Ag Ko];exact f1,f2.mono Q1,f3⟩
    ·obtain rfl:i=j:=by omega
     refine⟨some ⟨br,0,none⟩,cR,?_,?_,?_⟩
     ·rw[Y5,I5,Ng Ko];simp [T3]
     ·rw[Y5];exact C6
     ·rw[Y5,I5];omega
theorem zyW {d:DfaT} (P0:zr d) (K0:zg d) {l:List Int} (hO:zaL d.label.length l) {C:List Value} {an al ay:Option Addr} {cn cl cs:Nat} {rs:List Value} {G:zb} {H:za} (O:OpenD G d C an al ay cn cl cs rs) {v0:Value} {b2 b4 b7:Nat} {ah:Option Addr} {ch:Nat} (hch:l.length≤ch) (S4:Row G ah ((l).map (Yd .i64))) {j:Nat} (hj:j<l.length) {B7:List Value} (W5: ¬zfE d l (l[j]'hj)):
  Tri Tryz.prog Tryz.f73.ntmps (piece [1,1,1,1,0,1,0,0,1,0,0] Tryz.f73) G [(0,v0),(1, .slice ah l.length ch),(2, .pointer (some ⟨b2,0,none⟩)),(4, .pointer (some ⟨b4,0,none⟩)),(5, .int .i64 0),(6, .pointer (some ⟨b7,0,none⟩)),(8, .int .i64 (j:Nat))] ((b4, .cells zz [] 27):: (b7, .cells B7 [] 27):: (b2, .cells C [] 27)::H) (onlyR fun G' fr' H'=>PLe G G'∧zy [4,5] fr'=[(4, .pointer (some ⟨b4,0,none⟩)),(5, .int .i64 1)]∧H'=(b4, .cells zz [] 27)::H):=by
 obtain⟨U3,M2,V3,A4,M4⟩:=id P0;obtain⟨Y2,K2,U2,N3,X3,Y3,Y1⟩:=id K0;have N0:=O.len;have D1:=O.w;have J1:=O.n;have X0:=O.l;have Z9:=hO.2 _ (Me hj);obtain⟨t,A3⟩:=Dg Z9.1;have L3:t<d.label.length:=by omega
 have L1:t<d.next.length:=by omega
 have K7:t<d.label.length:=by omega
 have V8:t<rs.length:=by have:=O.rnl;omega
 obtain⟨b,c,e1,e2,e3⟩:=O.rs t L1 V8;obtain⟨I3,Ib,Ra,Y7⟩:=Y1 t L1 K7;obtain⟨row,U0⟩: ∃row,row=d.next[t]:=⟨_,rfl⟩;have I2:=M2 _ (Me L1);rw[←U0] at e1 e2 e3 I3 Y7 I2;have hw:d.width=(row.length:Int):=I3.symm;obtain⟨r,hr⟩: ∃r,r=zcJ d l (t:Nat):=⟨_,rfl⟩;have I8:r=row.map (zw l):=by rw[hr];unfold zcJ;rw[zas L1,U0]
 have L4: ¬ ∀x∈row,x∈l:=fun h=>W5 fun y hy=>by
  rw[A3,zas L1,←U0] at hy;exact h y hy
 have I5:r.length=row.length:=by rw[I8,Be]
 have B3:Adr an:=O.rn.adr Ko;have Xa:Adr ah:=S4.adr (by rw[Be];omega);have R6:=hO.len;have hslh:Sl G (Yd .i64) (.slice ah l.length ch) l:=⟨ah,ch,rfl,S4,hch⟩
 have H6:j<65536:=by
  have h1:=hO.len;omega
 refine Tri.sepT fun M1=>?_;have hE:=M1;try simp only[zzs] at hE
 repeat(obtain⟨J0,hE⟩:=hE)
 refine Xg (f:=Tryz.f73) rfl ?_;refine Yg tok zbN Kk ?_
 repeat' first
  |with_reducible first|refine Zd ?_ |refine Ae (fun _=>?_) fun _=>?_ |refine Nb fun nb A0 C0 B0=>?_ |refine Nr fun nb D0 E0 A0 I0 C0 B0=>?_
  |simp -dsimp -implicitDefEqProofs (disch:=first|exact Kd|fail) only[go_sem,↓reduceIte,seval, -He,Ye,N0,D1,J1,X0,hw,Ie S4,Ie O.rn,e1,Le,A3,Yf,Og,Wh]
 refine Je tok zbN Kk [0,1,2,4,5,6,8,9,10] (fun q G' fr H'=> ∃ (k br cR:Nat) (spR:List Value),k+q=row.length∧(∀i (h:i<row.length),i<k→row[i]∈l)∧k+spR.length=cR∧G'=G∧H'=(br, .cells ((r.take k).map (Yd .i64)) spR 3):: (b4, .cells zz [] 27):: (b7, .cells B7 [] 27):: (b2, .cells C [] 27)::H∧fr=[(0,v0),(1, .slice ah l.length ch),(2, .pointer (some ⟨b2,0,none⟩)),(4, .pointer (some ⟨b4,0,none⟩)),(5, .int .i64 0),(6, .pointer (some ⟨b7,0,none⟩)),(8, .int .i64 (j:Nat)),(9, .slice (some ⟨br,0,none⟩) k cR),(10, .int .i64 (k:Nat))]) (row.length) ?_ ?_
 ·refine Ce ?_;exact⟨0,nb,0,[],by omega,fun i h h2=>by omega,rfl,rfl,rfl,rfl⟩
 ·rintro q G1 fr H' S0 hs ⟨k,br,cR,spR,hk,R4,hcR,rfl,rfl,rfl⟩;have X4:((r.take k).map (Yd .i64)).length=k:=by rw[Be,Ge];omega
  have Oc:(r.take k).length=k:=by rw[Ge];omega
  by_cases Q2:k<row.length
  ·have hE:=hs;try simp only[zzs] at hE
   repeat(obtain⟨J0,hE⟩:=hE)
   have D7:k<r.length:=by omega
   have Cd:Adr b:=e2.adr (by rw[Be];omega);have hx:=Y7 _ (Me Q2);obtain⟨y,Z4⟩:=Dg hx.1;have hym:y<d.label.length:=by omega
   have P5:zw l (row[k])=r[k]:=by
    simp only[I8,Le]
   have B2:=Re D7;have M2:(r.take k).map (Yd .i64)++[.int .i64 r[k]]=(r.take (k+1)).map (Yd .i64):=by rw[B2,Ke];rfl
   by_cases T1:row[k]∈l
   ·have Ta:0≤r[k]:=by
     rw[←P5];exact zcr.2 T1
    repeat' first
     |with_reducible first|refine Zd ?_ |refine Ae (fun _=>?_) fun _=>?_ |refine Nb fun nb A0 C0 B0=>?_ |refine Nr fun nb D0 E0 A0 I0 C0 B0=>?_
     |simp -dsimp -implicitDefEqProofs (disch:=first|exact Kd|fail) only[go_sem,↓reduceIte,seval, -He,N0,D1,J1,hw,Ie O.rn,Ie S4,e1,Ie e2,Le,A3,Oc,Zh]
     |with_reducible refine Wg tok mixed zbN 16 [2,6,8,11] (.op 0 .plain (.op 1 .plain (.op 2 .held (.op 3 .plain (.op 4 .plain (.op 5 .plain (.op 6 .held (.op 7 .plain (.op 8 .held (.op 9 .plain (.op 10 .plain (.op 11 .held (.op 12 .keeps (.op 13 .plain .nil)))))))))))))) Kk [(b2, .cells C [] 27)] Ks ?_
    refine zgh Ko hslh ?_;rw[P5]
    repeat' first
     |with_reducible first|refine Zd ?_ |refine Ae (fun _=>?_) fun _=>?_ |refine Nb fun nb A0 C0 B0=>?_ |refine Nr fun nb D0 E0 A0 I0 C0 B0=>?_
     |simp -dsimp -implicitDefEqProofs (disch:=first|exact Kd|fail) only[go_sem,↓reduceIte,seval, -He,N0,D1,J1,hw,Ie O.rn,Ie S4,e1,Ie e2,Le,A3,Oc,Zh]
    all_goals try(exfalso;omega)
    rw[M2]
    exact Oe (H':=(nb, .cells ((r.take (k+1)).map (Yd .i64)) D0 3):: (b4, .cells zz [] 27):: (b7, .cells B7 [] 27):: (b2, .cells C [] 27)::H) Ks (Ce ⟨q - 1,by omega,k+1,nb,E0,D0,by omega,fun i h h2=>by
     by_cases e:i=k
     ·subst e;exact T1
     ·exact R4 i h Ko,by omega,rfl,rfl,rfl⟩)
   ·have hneg:r[k] <0:=by
     rw[←P5];rcases Int.lt_or_le (zw l (row[k])) 0 with h|h
     ·exact h
     ·exact absurd (zcr.1 h) T1
    repeat' first
     |with_reducible first|refine Zd ?_ |refine Ae (fun _=>?_) fun _=>?_ |refine Nb fun nb A0 C0 B0=>?_ |refine Nr fun nb D0 E0 A0 I0 C0 B0=>?_
     |simp -dsimp -implicitDefEqProofs (disch:=first|exact Kd|fail) only[go_sem,↓reduceIte,seval, -He,N0,D1,J1,hw,Ie O.rn,Ie S4,e1,Ie e2,Le,A3,Oc,Zh]
     |with_reducible refine Wg tok mixed zbN 16 [2,6,8,11] (.op 0 .plain (.op 1 .plain (.op 2 .held (.op 3 .plain (.op 4 .plain (.op 5 .plain (.op 6 .held (.op 7 .plain (.op 8 .held (.op 9 .plain (.op 10 .plain (.op 11 .held (.op 12 .keeps (.op 13 .plain .nil)))))))))))))) Kk [(b2, .cells C [] 27)] Ks ?_
    refine zgh Ko hslh ?_;rw[P5]
    repeat' first
     |with_reducible first|refine Zd ?_ |refine Ae (fun _=>?_) fun _=>?_ |refine Nb fun nb A0 C0 B0=>?_ |refine Nr fun nb D0 E0 A0 I0 C0 B0=>?_
     |simp -dsimp -implicitDefEqProofs (disch:=first|exact Kd|fail) only[go_sem,↓reduceIte,seval, -He,N0,D1,J1,hw,Ie O.rn,Ie S4,e1,Ie e2,Le,A3,Oc,zj,zG,zI,zM]
    all_goals try(exfalso;omega)
    exact Oe (H':=(b4, .cells zz [] 27)::H) Ks (Ce ⟨S0,rfl,rfl⟩)
  ·exact absurd (fun x hx=>by
    obtain⟨i,hi,rfl⟩:=Ue hx;exact R4 i hi Ko) L4
theorem zyX {l:List Int} (hl:l.length≤2000000) {x:Int} {b cap:Nat} {sp:List Value} {e:TypeId} {G:zb} {H:za} {R:Value→zb→za→Prop} (hg:G b=none) (hf:zq H b=some (.cells (l.map (Yd .i64)) sp e))
  (hR:R (.bool (decide (x∈l))) G H):FnT Tryz.prog 112 [.slice (some ⟨b,0,none⟩) l.length cap, .int .i64 x] G H R:=by
 refine Ee tok kp2 Tryz.func112 rfl Kk Kk Kn fun M0=>?_;rw[Tryz.results112];have hE:=M0;try simp only[zzs] at hE
 repeat(obtain⟨J0,hE⟩:=hE)
 repeat' first
  |with_reducible first|refine Zd ?_ |refine Ae (fun _=>?_) fun _=>?_ |refine Nb fun nb A0 C0 B0=>?_
  |simp -dsimp -implicitDefEqProofs (disch:=first|exact Kd|fail) only[go_sem,↓reduceIte,seval]
 refine Je tok kp2 Kk [0,1,4,5] (fun q G' fr H'=> ∃i:Nat,i+q=l.length∧(∀j (h:j<l.length),j<i→l[j]≠x)∧G'=G∧H'=H∧fr=[(0, .slice (some ⟨b,0,none⟩) l.length cap),(1, .int .i64 x),(4, .bool false),(5, .int .i64 (i:Nat))]) (l.length) (Ce ?_) ?_
 ·exact⟨0,by omega,fun j _ h=>by omega,rfl,rfl,rfl⟩
 ·rintro q G' fr H' S0 hs ⟨i,hi,B1,rfl,rfl,rfl⟩;by_cases Y0:i<l.length
  ·by_cases hx:l[i]=x
   ·rw[decide_eq_true (show x∈l from hx▸Me Y0)] at hR
    repeat' first
     |with_reducible first|refine Zd ?_ |refine Ae (fun _=>?_) fun _=>?_ |refine Nb fun nb A0 C0 B0=>?_
     |simp -dsimp -implicitDefEqProofs (disch:=first|exact Kd|fail) only[go_sem,↓reduceIte,seval,hf,Ag,Le,hx]
    all_goals refine De ?_ hR ?_
    any_goals first|exact Ks|skip
    all_goals rfl
   ·repeat' first
     |with_reducible first|refine Zd ?_ |refine Ae (fun _=>?_) fun _=>?_ |refine Nb fun nb A0 C0 B0=>?_
     |simp -dsimp -implicitDefEqProofs (disch:=first|exact Kd|fail) only[go_sem,↓reduceIte,seval,hf,Ag,Le,hx]
    exact Ce ⟨q - 1,by omega,i+1,by omega,fun j h hj=>by
     by_cases e:j=i
     ·subst e;exact hx
     ·exact B1 j h Ko,rfl,rfl,rfl⟩
  ·obtain rfl:i=l.length:=by omega
   rw[decide_eq_false (fun h=>by obtain⟨j,hj,e⟩:=Ue h;exact B1 j hj hj e)] at hR
   repeat' first
    |with_reducible first|refine Zd ?_ |refine Ae (fun _=>?_) fun _=>?_ |refine Nb fun nb A0 C0 B0=>?_
    |simp -dsimp -implicitDefEqProofs (disch:=first|exact Kd|fail) only[go_sem,↓reduceIte,seval]
   all_goals refine De ?_ hR ?_
   any_goals first|exact Ks|skip
   all_goals rfl
theorem zv8 {d:DfaT} (P0:zr d) (K0:zg d) {G:zb} {H:za} {R:Value→zb→za→Prop} {v:Value} (hv:IsD G d v)
  (hR: ∀G' v',PLe G G'→Sep G' (zm H)→Sl G' (Yd .i64) v' (zaj d)→R v' G' H):FnT Tryz.prog 74 [v] G H R:=by
 obtain⟨C,an,al,ay,cn,cl,cs,rs,rfl,O⟩:=hv.opened;have N0:=O.len;have T0:=O.all;have D1:=O.w;have J1:=O.n;obtain⟨Y2,K2,U2,N3,X3,Y3,Y1⟩:=id K0;have La:=O.rnl;have R7:=zgd K0;have hO:zaL d.label.length [0]:=⟨by simp,fun x hx=>by rw[List.mem_singleton] at hx;omega⟩;have B3:Adr an:=O.rn.adr Ko;have htw:=zZ d.of;have R5:=O.ofl;obtain⟨W,hWd⟩:=Dg (show 0≤d.width by omega);refine Zf ?_;refine Ee tok zr9 Tryz.func74 rfl Kk Kk Kn fun M0=>?_;rw[Tryz.results74];have hE:=M0;try simp only[zzs] at hE
 repeat(obtain⟨J0,hE⟩:=hE)
 repeat' first
  |with_reducible first|refine Zd ?_ |refine Ae (fun _=>?_) fun _=>?_ |refine Nb fun nb A0 C0 B0=>?_ |refine Nr fun nb D0 E0 A0 I0 C0 B0=>?_
  |simp -dsimp -implicitDefEqProofs (disch:=first|exact Kd|fail) only[go_sem,↓reduceIte,seval, -He,Ye,N0,T0,Zh]
 rename_i b1 x1 x2 x3;refine Je tok zr9 Kk [1,2,3,4] (fun q G' fr H'=> ∃ (i b c:Nat) (sp:List Value),i+q=d.label.length∧i≤(bw (zJ d) [0] i).length∧(bw (zJ d) [0] i).length+sp.length=c∧G'=G∧H'=(b, .cells ((bw (zJ d) [0] i).map (Yd .i64)) sp 3):: (b1, .cells C [] 27)::H∧fr=[(1, .pointer (some ⟨b1,0,none⟩)),(2, .slice none 0 0),(3, .slice (some ⟨b,0,none⟩) (bw (zJ d) [0] i).length c),(4, .int .i64 (i:Nat))]) (d.label.length) ?_ ?_
 ·refine Ce ?_;exact⟨0,nb,1,[],by omega,Pg _,rfl,rfl,rfl,rfl⟩
 ·rintro q G1 fr H' S0 V0 ⟨i,b,c,sp,Q5,Y0,hc,rfl,rfl,rfl⟩;have hOi:=zec hO R7 i;have hOl:=hOi.len;have hE:=V0;try simp only[zzs] at hE
  repeat(obtain⟨J0,hE⟩:=hE)
  by_cases hi:i< (bw (zJ d) [0] i).length
  ·have E8:=zc3 hi;have hx:=hOi.2 _ (Me hi);generalize hBi:bw (zJ d) [0] i=B at *;obtain⟨s,hss⟩:=Dg hx.1;have I1:s<d.next.length:=by omega
   obtain⟨br,cr,e1,e2,e3⟩:=O.rs s I1 Ko;obtain⟨E5,F7,C8,D6⟩:=Y1 s I1 Ko;have I2:=P0.2.1 _ (Me I1);rw[hss,zas I1] at E8;generalize hr:d.next[s]=r at *
   repeat' first
    |with_reducible first|refine Zd ?_ |refine Ae (fun _=>?_) fun _=>?_ |refine Nb fun nb A0 C0 B0=>?_ |refine Nr fun nb D0 E0 A0 I0 C0 B0=>?_
    |simp -dsimp -implicitDefEqProofs (disch:=first|exact Kd|fail) only[go_sem,↓reduceIte,seval]
   refine Je tok zr9 Kk [1,2,3,4,5] (fun q' G' fr H'=> ∃ (k b c:Nat) (sp:List Value),k+q'=W∧(addN B (r.take k)).length+sp.length=c∧G'=G1∧H'=(b, .cells ((addN B (r.take k)).map (Yd .i64)) sp 3):: (b1, .cells C [] 27)::H∧fr=[(1, .pointer (some ⟨b1,0,none⟩)),(2, .slice none 0 0),(3, .slice (some ⟨b,0,none⟩) (addN B (r.take k)).length c),(4, .int .i64 (i:Nat)),(5, .int .i64 (k:Nat))]) (W) ?_ ?_
   ·refine Ce ?_;exact⟨0,b,c,sp,by omega,by rw[Se,zga];exact hc,rfl,rfl,rfl⟩
   ·rintro q' G9 fr H' hle' R0 ⟨k,b',c',sp',hkq,hc',rfl,rfl,rfl⟩;have hOk:zaL d.label.length (addN B (r.take k)):=hOi.addN fun x hx=>D6 x (Li hx);have hOkl:=hOk.len;obtain⟨X,hX⟩:=zgb (r.take k) B;have hXl:=congrArg Ji hX;rw[Ve] at hXl;have hE:=R0;try simp only[zzs] at hE
    repeat(obtain⟨J0,hE⟩:=hE)
    by_cases hk:k<W
    ·have D7:k<r.length:=by omega
     have V6:Adr br:=e2.adr (by rw[Be];omega);have T5:=zmy B r D7
     have hgi:(addN B (r.take k))[i]'Ko=(s:Nat):=by
      rw[←hss];simp only[hX];rw[Ag hi]
     have hga:((addN B (r.take k)).map (Yd .i64)++sp')[i]'(by rw[Ve,Be];omega)= .int .i64 (s:Nat):=by
      rw[Ag (by rw[Be];omega),Le,hgi]
     have R3:G9 b'=none:=by assumption
     have hy:=D6 _ (Me D7);obtain⟨t,ht⟩:=Dg hy.1;rw[ht] at T5;have hfb:zq ((b', .cells ((addN B (r.take k)).map (Yd .i64)) sp' 3):: (b1, .cells C [] 27)::H) b'=some (.cells ((addN B (r.take k)).map (Yd .i64)) sp' 3):=zkB _ _ _
     repeat' first
      |with_reducible first|refine Zd ?_ |refine Ae (fun _=>?_) fun _=>?_ |refine Nb fun nb A0 C0 B0=>?_ |refine Nr fun nb D0 E0 A0 I0 C0 B0=>?_
      |simp -dsimp -implicitDefEqProofs (disch:=first|exact Kd|fail) only[go_sem,↓reduceIte,seval, -He,N0,D1,hWd,J1,Ie O.rn,e1,Ie e2,Le,ht,hga]
      |with_reducible refine Wg tok mixed zr9 8 [1,5,7,10] (.op 0 .plain (.op 1 .held (.op 2 .plain (.op 3 .plain (.op 4 .plain (.op 5 .held (.op 6 .plain (.op 7 .held (.op 8 .plain (.op 9 .plain (.op 10 .held (.op 11 .plain .nil)))))))))))) Kk [(b1, .cells C [] 27),(b', .cells ((addN B (r.take k)).map (Yd .i64)) sp' 3)] Ks ?_
     refine zyX Ko R3 hfb ?_;by_cases T1:(t:Int)∈addN B (r.take k)
     ·have Q4:addN B (r.take (k+1))=addN B (r.take k):=by rw[T5];unfold add1;rw[if_pos T1]
      rw[decide_eq_true T1]
      repeat' first
       |with_reducible first|refine Zd ?_ |refine Ae (fun _=>?_) fun _=>?_ |refine Nb fun nb A0 C0 B0=>?_ |refine Nr fun nb D0 E0 A0 I0 C0 B0=>?_
       |simp -dsimp -implicitDefEqProofs (disch:=first|exact Kd|fail) only[go_sem,↓reduceIte,seval]
      refine Ce ?_;exact⟨q' - 1,by omega,k+1,b',c',sp',by omega,by rw[Q4];exact hc',rfl,by rw[Q4],by rw[Q4];rfl⟩
     ·have Q4:addN B (r.take (k+1))=addN B (r.take k)++[(t:Int)]:=by rw[T5];unfold add1;rw[if_neg T1]
      have M2:(addN B (r.take k)).map (Yd .i64)++[.int .i64 (t:Nat)]=(addN B (r.take (k+1))).map (Yd .i64):=by rw[Q4,Ke];rfl
      have Z0:=congrArg Ji Q4;rw[Ve,Bg] at Z0;rw[decide_eq_false T1]
      repeat' first
       |with_reducible first|refine Zd ?_ |refine Ae (fun _=>?_) fun _=>?_ |refine Nb fun nb A0 C0 B0=>?_ |refine Nr fun nb D0 E0 A0 I0 C0 B0=>?_
       |simp -dsimp -implicitDefEqProofs (disch:=first|exact Kd|fail) only[go_sem,↓reduceIte,seval,Zh]
      rw[M2,←Z0];exact Oe (H':=(nb, .cells ((addN B (r.take (k+1))).map (Yd .i64)) D0 3):: (b1, .cells C [] 27)::H) Ks (Ce ⟨q' - 1,by omega,k+1,nb,E0,D0,by omega,by omega,rfl,rfl,rfl⟩)
    ·obtain rfl:k=W:=by omega
     have hbr:addN B (r.take k)=bw (zJ d) [0] (i+1):=by rw[Pe Ko,E8]
     rw[hbr] at hc' hXl⊢
     repeat' first
      |with_reducible first|refine Zd ?_ |refine Ae (fun _=>?_) fun _=>?_ |refine Nb fun nb A0 C0 B0=>?_ |refine Nr fun nb D0 E0 A0 I0 C0 B0=>?_
      |simp -dsimp -implicitDefEqProofs (disch:=first|exact Kd|fail) only[go_sem,↓reduceIte,seval, -He,N0,D1,hWd]
     all_goals try(exfalso;omega)
     refine Ce ?_;exact⟨q - 1,by omega,i+1,b',c',sp',by omega,by omega,hc',rfl,rfl,rfl⟩
  ·have he:bw (zJ d) [0] i=zaj d:=zoA hO R7 Ko;rw[he] at Y0 hc hi hOl⊢
   repeat' first
    |with_reducible first|refine Zd ?_ |refine Ae (fun _=>?_) fun _=>?_ |refine Nb fun nb A0 C0 B0=>?_ |refine Nr fun nb D0 E0 A0 I0 C0 B0=>?_
    |simp -dsimp -implicitDefEqProofs (disch:=first|exact Kd|fail) only[go_sem,↓reduceIte,seval]
   all_goals try(exfalso;omega)
   unfold zo;refine Oe (H':=(b, .cells ((zaj d).map (Yd .i64)) sp 3)::H) Ks (Jf Ka fun G3 A1 E3 D2=>?_);exact fun S0 hs=>hR G3 _ A1 hs ⟨some ⟨b,0,none⟩,c,rfl,D2,by omega⟩
theorem zxX {C:List Value} (h:C.length=260):Hf 260 C=C:=Pe Ko
theorem zxY {d:DfaT} (P0:zr d) (K0:zg d) {l:List Int} (hl:l.length≤2000000) {G:zb} {H:za} {R:Value→zb→za→Prop} {v w:Value} (hv:IsD G d v) (P4:Sl G (Yd .i64) w l)
  (hR: ∀G' v',PLe G G'→Sep G' (zm H)→IsD G' (zeu d l).1 v'→R (.tuple #[v', .int .i64 (zeu d l).2]) G' H):FnT Tryz.prog 73 [v,w] G H R:=by
 obtain⟨C,an,al,ay,cn,cl,cs,rs,rfl,O⟩:=hv.opened;obtain⟨U3,M2,V3,A4,M4⟩:=id P0;have I3:=P4;obtain⟨aw,cw,rfl,Sa,R9⟩:=P4;have N0:=O.len;have T0:=O.all;have X0:=O.l;obtain⟨Y2,K2,U2,N3,X3,Y3,Y1⟩:=id K0;have Z0: ∀a b c:Value,(zc d a b c).length=260:=fun a b c=>zN O.ofl _ _ _;have X7: ∀a b c:Value,Hf 260 (zc d a b c)=zc d a b c:=fun a b c=>zbQ O.ofl _ _ _
 have T4: ∀a b c:Value,zf zz 0 (zc d a b c)=zc d a b c:=fun a b c=>by
  unfold zf;rw[Se,Af,Gf (by rw[zj,Z0];omega),Bf]
 refine Zf ?_;by_cases hh:l.head? =some 0
 ·have Ta:0<l.length:=by
   rcases l with _| ⟨x,l⟩
   ·cases hh
   ·simp
  have A9:l[0]=0:=by
   rw[List.head?_eq_getElem?,Xe Ta] at hh;exact Option.some.inj hh
  have hadw:Adr aw:=Sa.adr (by rw[Be];omega)
  have O8: ∀ (H:za) (k:Value→Prop),zen G H (blk aw) (G (blk aw)) (ofs aw) k=k (.int .i64 0):=fun H k=>by
   have:=Ie Sa (i:=0) (by rw[Be];omega) H k;rw[Mi,Le,A9] at this;exact this
  refine FnT.bodyS tok zbN (.seq .run (.seq .run (.seq .cut .cut))) Tryz.func73 rfl Kk Kk Kn fun M0=>?_;rw[Tryz.results73];have hE:=M0;try simp only[zzs] at hE
  repeat(obtain⟨J0,hE⟩:=hE)
  repeat' first
   |with_reducible first|refine Zd ?_ |refine Ae (fun _=>?_) fun _=>?_ |refine Nb fun nb A0 C0 B0=>?_ |refine Nr fun nb D0 E0 A0 I0 C0 B0=>?_
   |simp -dsimp -implicitDefEqProofs (disch:=first|exact Kd|fail) only[go_sem,↓reduceIte,seval, -He,Ye,N0,T0,X0,O8]
  all_goals try(exfalso;omega)
  rename_i b2 Ec J8 A8;obtain⟨b4,e0⟩: ∃x,x=nb:=⟨_,rfl⟩;subst e0;refine Ch [0,1,2,4,5] ?_;refine Ah [1,1,0] Tryz.f73 Kk ?_;refine Tri.onlyN (zyV P0 O) fun G4 l4 H4 Z1 S1 hM=>?_;obtain⟨b7,vs,_,J6,L4,rfl⟩:=hM;simp only[go_sem];refine Ch [0,1,2,4,5,6] ?_;rw[L4];have hE:=S1;try simp only[zzs] at hE
  repeat(obtain⟨J0,hE⟩:=hE)
  have O4:=O.mono Z1;obtain⟨ay4,cy4,rfl,hr4y,hcy4⟩:=id J6;have hrow4:=Sa.mono Z1;have Za:=I3.mono Z1;refine Yg tok zbN Kk ?_
  repeat' first
   |with_reducible first|refine Zd ?_ |refine Ae (fun _=>?_) fun _=>?_ |refine Nb fun nb A0 C0 B0=>?_ |refine Nr fun nb D0 E0 A0 I0 C0 B0=>?_
   |simp -dsimp -implicitDefEqProofs (disch:=first|exact Kd|fail) only[go_sem,↓reduceIte,seval, -He,Ye]
  refine Je tok zbN Kk [0,1,2,4,5,6,7] (fun q G' fr H'=> ∃i:Nat,i+q=l.length∧zaL d.label.length (l.take i)∧G'=G4∧H'=(b7, .cells (zc d (.slice none 0 0) (.slice none 0 0) (.slice ay4 d.names.length cy4)) [] 27):: (b4, .cells zz [] 27):: (b2, .cells C [] 27)::H∧fr=[(0, .agg (List.toArray C)),(1, .slice aw l.length cw),(2, .pointer (some ⟨b2,0,none⟩)),(4, .pointer (some ⟨b4,0,none⟩)),(5, .int .i64 0),(6, .pointer (some ⟨b7,0,none⟩)),(7, .int .i64 (i:Nat))]) (l.length) ?_ ?_
  ·refine Ce ?_;exact⟨0,by omega,⟨by rw[Se];exact List.nodup_nil,fun x hx=>by rw[Se] at hx;cases hx⟩,rfl,rfl,rfl⟩
  ·rintro q0 G5 fr H' A2 P1 ⟨i,Q5,hOi,rfl,rfl,rfl⟩;have hE:=P1;try simp only[zzs] at hE
   repeat(obtain⟨J0,hE⟩:=hE)
   by_cases Y0:i<l.length
   ·have B2:=Re Y0;obtain⟨p,hp,hpi,_,A5⟩:=zaU Y0;have hfp:=zB hp;by_cases hr:0≤l[i]∧l[i] <d.label.length
    ·by_cases T1:l[i]∈l.take i
     ·have B1: ¬zbO d l:=fun h=>by
       have h2:=h.1.1.1.sublist (List.take_sublist (i+1) l);rw[B2,Gi] at h2;exact h2.2.2 _ T1 _ (List.mem_singleton.2 rfl) rfl
      have hpi2:p≠i:=fun e=>(A5.1 e) T1;rw[zdp K0 B1] at hR
      repeat' first
       |with_reducible first|refine Zd ?_ |refine Ae (fun _=>?_) fun _=>?_ |refine Nb fun nb A0 C0 B0=>?_ |refine Nr fun nb D0 E0 A0 I0 C0 B0=>?_
       |simp -dsimp -implicitDefEqProofs (disch:=first|exact Kd|fail) only[go_sem,↓reduceIte,seval, -He,N0,X0,Ie hrow4,Le]
       |with_reducible refine Wg tok mixed zbN 7 [3,9,11,20] (.op 0 .plain (.op 1 .plain (.op 2 .plain (.op 3 .held (.op 4 .plain (.op 5 .plain (.op 6 .plain (.op 7 .plain (.op 8 .plain (.op 9 .held (.op 10 .plain (.op 11 .held (.op 12 .plain (.op 13 .plain (.op 14 .plain (.op 15 .plain (.op 16 .plain (.op 17 .plain (.op 18 .plain (.op 19 .plain (.op 20 .held (.op 22 .plain (.op 21 .keeps (.op 23 .plain (.op 24 .plain .nil))))))))))))))))))))))))) Kk [(b2, .cells C [] 27)] Ks ?_
      all_goals try(exfalso;omega)
      refine zgh hl Za ?_;rw[hfp]
      repeat' first
       |with_reducible first|refine Zd ?_ |refine Ae (fun _=>?_) fun _=>?_ |refine Nb fun nb A0 C0 B0=>?_ |refine Nr fun nb D0 E0 A0 I0 C0 B0=>?_
       |simp -dsimp -implicitDefEqProofs (disch:=first|exact Kd|fail) only[go_sem,↓reduceIte,seval, -He,N0,X0,zj,zG,zI,zM]
      all_goals try(exfalso;omega)
      unfold zo;refine Xf (H':=H) Ks ?_;exact fun _ hs=>hR _ _ Z1 hs (zak _)
     ·have hpi2:p=i:=A5.2 T1
      have hO2:zaL d.label.length (l.take (i+1)):=by
       have h3:=hOi.add1 hr;unfold add1 at h3;rw[if_neg T1,←B2] at h3;exact h3
      repeat' first
       |with_reducible first|refine Zd ?_ |refine Ae (fun _=>?_) fun _=>?_ |refine Nb fun nb A0 C0 B0=>?_ |refine Nr fun nb D0 E0 A0 I0 C0 B0=>?_
       |simp -dsimp -implicitDefEqProofs (disch:=first|exact Kd|fail) only[go_sem,↓reduceIte,seval, -He,N0,X0,Ie hrow4,Le]
       |with_reducible refine Wg tok mixed zbN 7 [3,9,11,20] (.op 0 .plain (.op 1 .plain (.op 2 .plain (.op 3 .held (.op 4 .plain (.op 5 .plain (.op 6 .plain (.op 7 .plain (.op 8 .plain (.op 9 .held (.op 10 .plain (.op 11 .held (.op 12 .plain (.op 13 .plain (.op 14 .plain (.op 15 .plain (.op 16 .plain (.op 17 .plain (.op 18 .plain (.op 19 .plain (.op 20 .held (.op 22 .plain (.op 21 .keeps (.op 23 .plain (.op 24 .plain .nil))))))))))))))))))))))))) Kk [(b2, .cells C [] 27)] Ks ?_
      all_goals try(exfalso;omega)
      refine zgh hl Za ?_;rw[hfp,hpi2]
      repeat' first
       |with_reducible first|refine Zd ?_ |refine Ae (fun _=>?_) fun _=>?_ |refine Nb fun nb A0 C0 B0=>?_ |refine Nr fun nb D0 E0 A0 I0 C0 B0=>?_
       |simp -dsimp -implicitDefEqProofs (disch:=first|exact Kd|fail) only[go_sem,↓reduceIte,seval, -He,N0,X0]
      all_goals try(exfalso;omega)
      refine Ce ?_;exact⟨q0 - 1,by omega,i+1,by omega,hO2,rfl,rfl,rfl⟩
    ·have B1: ¬zbO d l:=fun h=>hr (h.1.1.2 _ (Me Y0));rw[zdp K0 B1] at hR
     repeat' first
      |with_reducible first|refine Zd ?_ |refine Ae (fun _=>?_) fun _=>?_ |refine Nb fun nb A0 C0 B0=>?_ |refine Nr fun nb D0 E0 A0 I0 C0 B0=>?_
      |simp -dsimp -implicitDefEqProofs (disch:=first|exact Kd|fail) only[go_sem,↓reduceIte,seval, -He,N0,X0,Ie hrow4,Le,zj,zG,zI,zM]
      |with_reducible refine Wg tok mixed zbN 7 [3,9,11,20] (.op 0 .plain (.op 1 .plain (.op 2 .plain (.op 3 .held (.op 4 .plain (.op 5 .plain (.op 6 .plain (.op 7 .plain (.op 8 .plain (.op 9 .held (.op 10 .plain (.op 11 .held (.op 12 .plain (.op 13 .plain (.op 14 .plain (.op 15 .plain (.op 16 .plain (.op 17 .plain (.op 18 .plain (.op 19 .plain (.op 20 .held (.op 22 .plain (.op 21 .keeps (.op 23 .plain (.op 24 .plain .nil))))))))))))))))))))))))) Kk [(b2, .cells C [] 27)] Ks ?_
     all_goals try(exfalso;omega)
     all_goals unfold zo
     all_goals refine Xf (H':=H) Ks ?_
     all_goals exact fun _ hs=>hR _ _ Z1 hs (zak _)
   ·obtain rfl:i=l.length:=by omega
    rw[Te] at hOi;have hO:=hOi;have hln:l.length≤d.label.length:=hO.len
    repeat' first
     |with_reducible first|refine Zd ?_ |refine Ae (fun _=>?_) fun _=>?_ |refine Nb fun nb A0 C0 B0=>?_ |refine Nr fun nb D0 E0 A0 I0 C0 B0=>?_
     |simp -dsimp -implicitDefEqProofs (disch:=first|exact Kd|fail) only[go_sem,↓reduceIte,seval, -He]
    all_goals try(exfalso;omega)
    refine Tri.loopS tok zbN (.seq .run (.seq (.block .cut) .cut)) Kk [0,1,2,4,5,6,8] (fun q G' fr H'=> ∃ (j:Nat) (vn vl:Value) (kn kl:za),j+q=l.length∧PLe G5 G'∧(∀i (h:i<l.length),i<j→zfE d l l[i])∧zlX d l G' j vn kn∧zg4 d l j vl kl∧H'=(b7, .cells (zc d vn vl (.slice ay4 d.names.length cy4)) [] 27):: (b2, .cells C [] 27):: (kn++(kl++((b4, .cells zz [] 27)::H)))∧fr=[(0, .agg (List.toArray C)),(1, .slice aw l.length cw),(2, .pointer (some ⟨b2,0,none⟩)),(4, .pointer (some ⟨b4,0,none⟩)),(5, .int .i64 0),(6, .pointer (some ⟨b7,0,none⟩)),(8, .int .i64 (j:Nat))]) (l.length) ?_ ?_
    ·exact Oe (H':=(b7, .cells (zc d (.slice none 0 0) (.slice none 0 0) (.slice ay4 d.names.length cy4)) [] 27):: (b2, .cells C [] 27):: ([]++([]++((b4, .cells zz [] 27)::H)))) Ks (Ce ⟨0,_,_,[],[],by omega,PLe.refl _,fun i h h2=>by omega, .inl ⟨rfl,rfl,rfl⟩, .inl ⟨rfl,rfl,rfl⟩,rfl,rfl⟩)
    ·rintro q G6 fr H' Q1 E3 ⟨j,vn,vl,kn,kl,hj,Cb,Bb,Y4,Q3,rfl,rfl⟩;have O6:=O4.mono Cb;have k6:=Z1.trans Cb;by_cases U4:j<l.length
     ·by_cases hfj:zfE d l l[j]
      ·repeat' first
        |with_reducible first|refine Zd ?_ |refine Ae (fun _=>?_) fun _=>?_ |refine Nb fun nb A0 C0 B0=>?_ |refine Nr fun nb D0 E0 A0 I0 C0 B0=>?_
        |simp -dsimp -implicitDefEqProofs (disch:=first|exact Kd|fail) only[go_sem,↓reduceIte,seval, -He,Ye]
       refine Ch [0,1,2,4,5,6,8] ?_;refine Ah [1,1,1,1,0,1,0,0,1,0,0] Tryz.f73 Kk ?_;refine Tri.onlyN (zAe P0 K0 hO O6 R9 (Sa.mono k6) U4 Y4 Q3 rfl hfj) fun G7 l7 H7 W2 B4 hM=>?_;obtain⟨vn',vl',kn',kl',_,Tb,Mc,I7,rfl⟩:=hM;simp only[go_sem];refine Ch [0,1,2,4,5,6,8] ?_;rw[I7];refine Yg tok zbN Kk ?_
       repeat' first
        |with_reducible first|refine Zd ?_ |refine Ae (fun _=>?_) fun _=>?_ |refine Nb fun nb A0 C0 B0=>?_ |refine Nr fun nb D0 E0 A0 I0 C0 B0=>?_
        |simp -dsimp -implicitDefEqProofs (disch:=first|exact Kd|fail) only[go_sem,↓reduceIte,seval, -He,Ye]
       refine Ce ?_
       exact⟨q - 1,by omega,j+1,vn',vl',kn',kl',by omega,Cb.trans W2,fun i h h2=>by
        by_cases e:i=j
        ·subst e;exact hfj
        ·exact Bb i h Ko,Tb,Mc,rfl,rfl⟩
      ·have B1: ¬zbO d l:=fun h=>hfj (h.2 _ (Me U4));rw[zdp K0 B1] at hR
       repeat' first
        |with_reducible first|refine Zd ?_ |refine Ae (fun _=>?_) fun _=>?_ |refine Nb fun nb A0 C0 B0=>?_ |refine Nr fun nb D0 E0 A0 I0 C0 B0=>?_
        |simp -dsimp -implicitDefEqProofs (disch:=first|exact Kd|fail) only[go_sem,↓reduceIte,seval, -He,Ye]
       refine Ch [0,1,2,4,5,6,8] ?_;refine Tri.upd (Oe (H':=(b4, .cells zz [] 27):: (b7, .cells (zc d vn vl (.slice ay4 d.names.length cy4)) [] 27):: (b2, .cells C [] 27):: (kn++(kl++H))) Ks (Ce ?_));refine Ah [1,1,1,1,0,1,0,0,1,0,0] Tryz.f73 Kk ?_;refine Tri.onlyR (zyW P0 K0 hO O6 R9 (Sa.mono k6) U4 hfj) fun G7 l7 H7 W2 B4 hM=>?_;obtain⟨_,I7,rfl⟩:=hM;have hE:=B4;try simp only[zzs] at hE
       repeat(obtain⟨J0,hE⟩:=hE)
       have h4:V.look l7 4=some (.pointer (some ⟨b4,0,none⟩)):=zaX [4,5] l7 4 _ (by rw[I7];rfl);have h5:V.look l7 5=some (.int .i64 1):=zaX [4,5] l7 5 _ (by rw[I7];rfl)
       repeat' first
        |with_reducible first|refine Zd ?_ |refine Ae (fun _=>?_) fun _=>?_ |refine Nb fun nb A0 C0 B0=>?_ |refine Nr fun nb D0 E0 A0 I0 C0 B0=>?_
        |simp -dsimp -implicitDefEqProofs (disch:=first|exact Kd|fail) only[go_sem,↓reduceIte,seval, -He,Ye,h4,h5,zj,zG,zI,zM]
       unfold zo;refine Xf (H':=H) Ks ?_;exact fun _ hs=>hR G7 _ (k6.trans W2) hs (zak _)
     ·obtain rfl:j=l.length:=by omega
      have hko:zbO d l:=⟨⟨hO,hh⟩,fun x hx=>by
       obtain⟨i,hi,rfl⟩:=Ue hx;exact Bb i hi hi⟩
      rw[zh2 K0 hko] at hR;rcases Y4 with ⟨X2,_,_⟩| ⟨bn,c1,rv,sp1,rfl,rfl,T3,V7,F5⟩
      ·exact absurd X2 Ko
      rcases Q3 with ⟨X2,_,_⟩| ⟨bl,c2,sp2,rfl,rfl,J4⟩
      ·exact absurd X2 Ko
      have hE:=E3;try simp only[zzs] at hE
      repeat(obtain⟨J0,hE⟩:=hE)
      have S3:=zaC (d:=d) (vn:= .slice (some ⟨bn,0,none⟩) l.length c1) (vl:= .slice (some ⟨bl,0,none⟩) l.length c2) (vs:= .slice ay4 d.names.length cy4) rfl rfl rfl;have F8:(zal d l).length=l.length:=by unfold zal;rw[Be]
      rw[show(zal d l).take l.length=zal d l by rw[←F8,Te]]
      repeat' first
       |with_reducible first|refine Zd ?_ |refine Ae (fun _=>?_) fun _=>?_ |refine Nb fun nb A0 C0 B0=>?_ |refine Nr fun nb D0 E0 A0 I0 C0 B0=>?_
       |simp -dsimp -implicitDefEqProofs (disch:=first|exact Kd|fail) only[go_sem,↓reduceIte,seval, -He,Ye,Z0,X7,T4,S3,zj]
      unfold zo;refine Oe (H':=(bn, .cells rv sp1 24):: (bl, .cells ((zal d l).map (Yd .i64)) sp2 3)::H) Ks (Upd.trans (Jf Ka fun G7 W2 B4 Q7=>?_));refine Jf B4.1.1 fun G8 N4 B6 N6=>?_;have k8:=W2.trans N4;refine fun _ hs=>hR G8 _ (k6.trans k8) hs ?_;refine⟨O.ofl,O.ofb,_,_,_,rfl,⟨some ⟨bn,0,none⟩,c1,rv,?_,Q7.mono N4,?_,?_,fun i h h2=>?_⟩,⟨some ⟨bl,0,none⟩,c2,?_,N6,?_⟩,⟨ay4,cy4,rfl,hr4y.mono (Cb.trans k8),hcy4⟩⟩
      ·simp only[zai,Be]
      ·simp only[zai,Be];exact T3
      ·simp only[zai,Be];omega
      ·have hi:i<l.length:=by simp only[zai,Be] at h;exact h
       obtain⟨b',c',f1,f2,f3⟩:=F5 i hi h2 hi;refine⟨b',c',?_,?_,?_⟩
       ·simp only[zai,Le];exact f1
       ·simp only[zai,Le];exact f2.mono k8
       ·simp only[zai,Le];exact f3
      ·simp only[zai,F8]
      ·simp only[zai,F8];omega
 ·have B1: ¬zbO d l:=fun h=>hh h.1.2;rw[zdp K0 B1] at hR;by_cases h0:l.length=0
  ·refine Ee tok zbN Tryz.func73 rfl Kk Kk Kn fun M0=>?_;rw[Tryz.results73];have hE:=M0;try simp only[zzs] at hE
   repeat(obtain⟨J0,hE⟩:=hE)
   repeat' first
    |with_reducible first|refine Zd ?_ |refine Ae (fun _=>?_) fun _=>?_ |refine Nb fun nb A0 C0 B0=>?_ |refine Nr fun nb D0 E0 A0 I0 C0 B0=>?_
    |simp -dsimp -implicitDefEqProofs (disch:=first|exact Kd|fail) only[go_sem,↓reduceIte,seval, -He,Ye,N0,T0,zj,zG,zI,zM]
   all_goals try(exfalso;omega)
   unfold zo;refine Xf (H':=H) Ks ?_;exact fun _ hs=>hR G _ (PLe.refl _) hs (zak _)
  ·have Ta:0<l.length:=by omega
   have A9:l[0]≠0:=fun e=>hh (by rw[List.head?_eq_getElem?,Xe Ta,e]);have hadw:Adr aw:=Sa.adr (by rw[Be];omega)
   have O8: ∀ (H:za) (k:Value→Prop),zen G H (blk aw) (G (blk aw)) (ofs aw) k=k (.int .i64 l[0]):=fun H k=>by
    have:=Ie Sa (i:=0) (by rw[Be];omega) H k;rw[Mi,Le] at this;exact this
   refine Ee tok zbN Tryz.func73 rfl Kk Kk Kn fun M0=>?_;rw[Tryz.results73];have hE:=M0;try simp only[zzs] at hE
   repeat(obtain⟨J0,hE⟩:=hE)
   repeat' first
    |with_reducible first|refine Zd ?_ |refine Ae (fun _=>?_) fun _=>?_ |refine Nb fun nb A0 C0 B0=>?_ |refine Nr fun nb D0 E0 A0 I0 C0 B0=>?_
    |simp -dsimp -implicitDefEqProofs (disch:=first|exact Kd|fail) only[go_sem,↓reduceIte,seval, -He,Ye,N0,T0,O8,zj,zG,zI,zM]
   all_goals try(exfalso;omega)
   unfold zo;refine Xf (H':=H) Ks ?_;exact fun _ hs=>hR G _ (PLe.refl _) hs (zak _)
theorem zl0 {d:DfaT} (P0:zr d) (K0:zg d) {G:zb} {H:za} {R:Value→zb→za→Prop} {v:Value} (hv:IsD G d v)
  (hR: ∀G' v',PLe G G'→Sep G' (zm H)→IsD G' (zW d) v'→R v' G' H):FnT Tryz.prog 45 [v] G H R:=by
 obtain⟨C,an,al,ay,cn,cl,cs,rs,rfl,O⟩:=hv.opened;have N0:=O.len;have T0:=O.all;have K2:=K0.2.1;have I2:=(zdL K0).len;have D7:=zh2 K0 (zdM K0);have hrl2:(zaj d).length≤2000000:=by omega
 refine Zf ?_;refine Ee tok kp5 Tryz.func45 rfl Kk Kk Kn fun M0=>?_;rw[Tryz.results45];have hE:=M0;try simp only[zzs] at hE
 repeat(obtain⟨J0,hE⟩:=hE)
 repeat' first
  |with_reducible first|refine Zd ?_ |refine Ae (fun _=>?_) fun _=>?_ |refine Nb fun nb A0 C0 B0=>?_
  |simp -dsimp -implicitDefEqProofs (disch:=first|exact Kd|fail) only[go_sem,↓reduceIte,seval, -He,Ye,N0,T0,zbh,zxX,zj,zG]
  |with_reducible refine Vf tok mixed kp5 1 [0,1] (.op 0 .held (.op 1 .held (.both (.op 2 .keeps (.both (.op 3 .keeps (.op 4 .plain (.op 5 .plain (.op 6 .plain (.op 7 .keeps (.op 8 .plain (.op 9 .plain .nil))))))) (.op 7 .keeps (.op 3 .keeps (.op 4 .plain (.op 5 .plain (.op 6 .plain (.op 8 .plain (.op 9 .plain .nil))))))))) (.op 7 .keeps (.op 2 .keeps (.op 3 .keeps (.op 4 .plain (.op 5 .plain (.op 6 .plain (.op 8 .plain (.op 9 .plain .nil))))))))))) Kk [1] ?_
  | (with_reducible refine And.intro ?_ ?_)
  | ((with_reducible refine zv8 P0 K0 O.is fun G2 v2 Q0 R0 V5=>?_);(have hE:=R0;try simp only[zzs] at hE;repeat(obtain⟨J0,hE⟩:=hE)))
  | ((with_reducible refine zxY P0 K0 hrl2 (O.is.mono Q0) V5 fun G3 v3 A1 K1 hI=>?_);rw[D7] at hI⊢;obtain⟨C',an',al',ay',cn',cl',cs',rs',rfl,O'⟩:=IsD.opened (d:=zW d) hI;have D8:=O'.len;have S3:=zbg O'.is;have O8:C'.length≤260∧C'.all zax=true:=⟨Nat.le_of_eq D8,S3⟩;(have hE:=K1;try simp only[zzs] at hE;repeat(obtain⟨J0,hE⟩:=hE)))
 all_goals unfold zo
 all_goals refine Xf (H':=H) Ks ?_
 all_goals exact fun _ hs=>hR G3 _ (Q0.trans A1) hs O'.is
theorem zqz {m:List Int} {x y:Int} (hx:0≤x∧x<m.length) (hy:0≤y∧y<m.length):atL (zd m) x=atL (zd m) y↔atL m x=atL m y:=by
 have C1:=zt m;have h1:x.toNat<m.length:=by omega
 have h2:y.toNat<m.length:=by omega
 rw[zL Ko,zL Ko,zL h1,zL h2];exact zdY h1 h2
theorem zuc {d : DfaT} (P0 : zr d) {m : List Int} (X4 : m.length ≤ 2000000) {G : zb} {H : za} {R : Value → zb → za → Prop} {v w : Value} (hv : IsD G d v) (hw : Sl G (Yd .i64) w m)
    (hR: ∀G',PLe G G'→Sep G' (zm H)→R (.bool (zaz (zaY d m))) G' H):FnT Tryz.prog 113 [v,w] G H R:=by
  obtain⟨C,an,al,ay,cn,cl,cs,rs,rfl,O⟩:=hv.opened;obtain⟨U3,M2,V3,A4,M4⟩:=id P0;have N0:=O.len;have D1:=O.w;have J1:=O.n;have X0:=O.l;have T0:=O.all;have I3:=hw;obtain⟨a,cap,rfl,U0,D5⟩:=hw;refine Zf ?_;refine Ee tok zoK Tryz.func113 rfl Kk Kk Kn fun M0=>?_;rw[Tryz.results113];have hE:=M0;try simp only[zzs] at hE
  repeat(obtain⟨J0,hE⟩:=hE)
  repeat' first
    |with_reducible first|refine Zd ?_ |refine Ae (fun _=>?_) fun _=>?_ |refine Nb fun nb A0 C0 B0=>?_
    |simp -dsimp -implicitDefEqProofs (disch:=first|exact Kd|fail) only[go_sem,↓reduceIte,seval, -He,Ye,N0,T0]
  revert nb;intro b2 F4 J8 A8;refine za1 P0 O.is fun G2 Q0 R0=>?_;have hE:=R0;try simp only[zzs] at hE
  repeat(obtain⟨J0,hE⟩:=hE)
  by_cases K0:zg d
  · rw[zA K0];obtain⟨Y2,K2,U2,N3,X3,Y3,Y1⟩:=id K0;have O2:=OpenD.mono Q0 O;have Ya:=U0.mono Q0;have M6:=O2.rn;have I2:=O2.rl;have La:=O2.rnl
    repeat' first
      |with_reducible first|refine Zd ?_ |refine Ae (fun _=>?_) fun _=>?_ |refine Nb fun nb A0 C0 B0=>?_
      |simp -dsimp -implicitDefEqProofs (disch:=first|exact Kd|fail) only[go_sem,↓reduceIte,seval, -He,Ye,N0,D1,J1,X0]
    · rename_i P3;have hm:m.length=d.label.length:=by omega
      refine Je tok zoK Kk [1,2,4,5] (fun q G' fr H'=> ∃s:Nat,s+q=m.length∧(∀j t (hj:j<s) (hs:j<m.length) (h1:j<d.label.length) (h2:t<d.label.length) (h3:j<d.next.length) (h4:t<d.next.length),place m m[j]=some t→d.label[j]=d.label[t]∧zd1 (zd m) d.next[j] d.next[t])∧G'=G2∧H'=(b2, .cells C [] 27)::H∧fr=[(1, .slice a m.length cap),(2, .pointer (some ⟨b2,0,none⟩)),(4, .bool false),(5, .int .i64 (s:Nat))]) (m.length) ?_ ?_
      · exact Ce ⟨0,by omega,fun j t hj=>by omega,rfl,rfl,rfl⟩
      · rintro q G3 fr H' S0 hs ⟨s,hi,B1,rfl,rfl,rfl⟩;have hE:=hs;try simp only[zzs] at hE
        repeat(obtain⟨J0,hE⟩:=hE)
        by_cases D3:s<m.length
        · have I1:s<d.next.length:=by omega
          have hsL:s<d.label.length:=by omega
          have hsv:s<rs.length:=by omega
          obtain⟨t,T7,L3,⟨K7,hte⟩,_⟩:=zaU D3;have L1:t<d.next.length:=by omega
          have htL:t<d.label.length:=by omega
          have V8:t<rs.length:=by omega
          obtain⟨b,c,e1,e2,e3⟩:=O2.rs s I1 hsv;obtain⟨b',c',f1,f2,f3⟩:=O2.rs t L1 V8;have hfs:=zB T7;have B3:Adr an:=M6.adr Ko;have V6:Adr al:=I2.adr (by rw[Be];omega);have Xa:Adr a:=Ya.adr (by rw[Be];omega);obtain⟨E5,_,_,U1⟩:=Y1 s I1 hsL;obtain⟨F7,_,_,V1⟩:=Y1 t L1 htL;obtain⟨row,Ud⟩: ∃row,row=d.next[s]:=⟨_,rfl⟩;obtain⟨row',Xd⟩: ∃row',row'=d.next[t]:=⟨_,rfl⟩;have hrm:=M2 _ (Me I1);rw[←Ud] at e1 e2 e3 E5 U1 hrm;rw[←Xd] at f1 f2 f3 F7 V1;have hrr:row.length=row'.length:=by omega
          have hw:d.width=(row.length:Int):=E5.symm
          repeat' first
            |with_reducible first|refine Zd ?_ |refine Ae (fun _=>?_) fun _=>?_ |refine Nb fun nb A0 C0 B0=>?_
            |with_reducible refine Tri.drawM tok mixed zoK 7 [1,4,6,9] (.op 0 .plain (.op 1 .held (.op 2 .plain (.op 3 .plain (.op 4 .held (.op 5 .plain (.op 6 .held (.op 7 .plain (.op 8 .plain (.op 9 .held (.op 10 .plain .nil))))))))))) Kk _ (List.Sublist.refl _) ?_
            |simp -dsimp -implicitDefEqProofs (disch:=first|exact Kd|fail) only[go_sem,↓reduceIte,seval, -He,Ye,N0,D1,J1,X0,Ie Ya,Ie I2,Le,hfs]
            |with_reducible refine zlD m m[s] X4 (I3.mono Q0) ?_
          · rename_i L5;refine Je tok zoK Kk [1,2,4,5,6,7] (fun q2 G' fr H'=> ∃k:Nat,k+q2=row.length∧(∀j (h:j<row.length),j<k→atL m row[j]=atL m (row'[j]'Ko))∧G'=G3∧H'=(b2, .cells C [] 27)::H∧fr=[(1, .slice a m.length cap),(2, .pointer (some ⟨b2,0,none⟩)),(4, .bool false),(5, .int .i64 (s:Nat)),(6, .int .i64 (t:Nat)),(7, .int .i64 (k:Nat))]) (row.length) ?_ ?_
            · exact Ce ⟨0,by omega,fun j _ h=>by omega,rfl,rfl,rfl⟩
            · rintro q2 G4 fr H' Z1 S1 ⟨k,hk,Xb,rfl,rfl,rfl⟩;have hE:=S1;try simp only[zzs] at hE
              repeat(obtain⟨J0,hE⟩:=hE)
              by_cases Q2:k<row.length
              · have Ba:k<row'.length:=by omega
                have Yc:Adr b:=e2.adr (by rw[Be];omega);have Cd:Adr b':=f2.adr (by rw[Be];omega);have hy1:=U1 _ (Me Q2);have hy2:=V1 _ (Me Ba);obtain⟨y,hy⟩:=Dg hy1.1;obtain⟨y',hy'⟩:=Dg hy2.1;have hym:y<m.length:=by omega
                have hym':y'<m.length:=by omega
                have g1:atL m row[k]=m[y]:=by rw[hy,zL (by simpa using hym)];simp only[Yf]
                have g2:atL m row'[k]=m[y']:=by rw[hy',zL (by simpa using hym')];simp only[Yf]
                repeat' first
                  |with_reducible first|refine Zd ?_ |refine Ae (fun _=>?_) fun _=>?_ |refine Nb fun nb A0 C0 B0=>?_
                  |with_reducible refine Tri.drawM tok mixed zoK 12 [2,5,8,10,13,16,19,21] (.op 0 .plain (.op 1 .plain (.op 2 .held (.op 3 .plain (.op 4 .plain (.op 5 .held (.op 6 .plain (.op 7 .plain (.op 8 .held (.op 9 .plain (.op 10 .held (.op 11 .plain (.op 12 .plain (.op 13 .held (.op 14 .plain (.op 15 .plain (.op 16 .held (.op 17 .plain (.op 18 .plain (.op 19 .held (.op 20 .plain (.op 21 .held (.op 22 .plain .nil))))))))))))))))))))))) Kk _ (List.Sublist.refl _) ?_
                  |simp -dsimp -implicitDefEqProofs (disch:=first|exact Kd|fail) only[go_sem,↓reduceIte,seval, -He,Ye,N0,D1,J1,X0,hw,Ie Ya,Ie M6,e1,f1,Ie e2,Ie f2,Le,hy,hy',Yf]
                all_goals try(exfalso;omega)
                all_goals first
                  | (rename_i hs
                     exact Ce ⟨q2 - 1,by omega,k+1,by omega,fun j h hj=>by
                        by_cases e:j=k
                        · subst e;rw[g1,g2];exact hs
                        · exact Xb j h Ko,rfl,rfl,rfl⟩)
                  | (rename_i hs
                     have Nc: ¬zaY d m:=fun h=>by
                        obtain⟨_,_,h3⟩:=h;obtain⟨hl,hh⟩:=(h3 s t D3 hsL htL I1 L1 T7).2;have:=hh k (by rw[←Ud];exact Q2);simp only[←Ud,←Xd] at this;rw[zqz Ko Ko,g1,g2] at this;exact hs this
                     unfold zo;refine Xf (H':=H) Ks ?_;rw[zu Nc] at hR;exact fun _ hs=>hR _ Q0 hs)
              · obtain rfl:k=row.length:=by omega
                repeat' first
                  |with_reducible first|refine Zd ?_ |refine Ae (fun _=>?_) fun _=>?_ |refine Nb fun nb A0 C0 B0=>?_
                  |simp -dsimp -implicitDefEqProofs (disch:=first|exact Kd|fail) only[go_sem,↓reduceIte,seval, -He,Ye,N0,D1,J1,X0,hw]
                all_goals try(exfalso;omega)
                exact Ce ⟨q - 1,by omega,s+1,by omega,fun j t' hj hs h1 h2 h3 h4 hp=>by
                  by_cases e:j=s
                  · subst e;rw[T7,Option.some.injEq] at hp;subst hp;refine⟨L5,?_⟩;rw[←Ud,←Xd]
                    exact⟨hrr,fun k hk=>by
                      have h1:=U1 _ (Me hk);have h2:=V1 _ (Me (show k<row'.length by omega));rw[zqz Ko Ko];exact Xb k hk hk⟩
                  · exact B1 j t' Ko hs h1 h2 h3 h4 hp,rfl,rfl,rfl⟩
          · rename_i L5;have Nc: ¬zaY d m:=fun h=>L5 (h.2.2 s t D3 hsL htL I1 L1 T7).1;unfold zo;refine Xf (H':=H) Ks ?_;rw[zu Nc] at hR;exact fun _ hs=>hR _ Q0 hs
        · obtain rfl:s=m.length:=by omega
          repeat' first
            |with_reducible first|refine Zd ?_ |refine Ae (fun _=>?_) fun _=>?_ |refine Nb fun nb A0 C0 B0=>?_
            |simp -dsimp -implicitDefEqProofs (disch:=first|exact Kd|fail) only[go_sem,↓reduceIte,seval, -He]
          unfold zo;refine Xf (H':=H) Ks ?_;rw[zA (p:=zaY d m) ⟨K0,hm,fun s t hs h1 h2 h3 h4 hp=>B1 s t hs hs h1 h2 h3 h4 hp⟩] at hR;exact fun _ hs=>hR _ Q0 hs
    · rename_i P3;unfold zo;refine Xf (H':=H) Ks ?_;rw[zu (p:=zaY d m) fun h=>by have:=h.2.1;omega] at hR;exact fun _ hs=>hR _ Q0 hs
  · rw[zu K0]
    repeat' first
      |with_reducible first|refine Zd ?_ |refine Ae (fun _=>?_) fun _=>?_ |refine Nb fun nb A0 C0 B0=>?_
      |simp -dsimp -implicitDefEqProofs (disch:=first|exact Kd|fail) only[go_sem,↓reduceIte,seval, -He]
    unfold zo;refine Xf (H':=H) Ks ?_;rw[zu (p:=zaY d m) fun h=>K0 h.1] at hR;exact fun _ hs=>hR _ Q0 hs
theorem DfaT.ext' {d e:DfaT} (h1:d.of=e.of) (h2:d.width=e.width) (h3:d.next=e.next) (h4:d.label=e.label) (h5:d.names=e.names):d=e:=by
 cases d;cases e;simp only at h1 h2 h3 h4 h5;subst h1 h2 h3 h4 h5;rfl
theorem zv9 {α:Type} [DecidableEq α] (l:List α) (k:Nat) {i:Nat} (h:i< (zl (l.take k)).length) (h2:i< (zl l).length):(zl l)[i]=(zl (l.take k))[i]:=by
 have key: ∀n,∃s,zl (l.take (k+n))=zl (l.take k)++s:=fun n=>by
  induction n with
  |zero=>exact⟨[],by simp⟩
  |succ n ih=>
   obtain⟨s,hs⟩:=ih;rcases Eg (k+n) l.length with h3|h3
   ·rw[show k+(n+1)=(k+n)+1 by omega,Re h3,zaG];split
    ·exact⟨s,hs⟩
    ·exact⟨s++[l[k+n]],by rw[hs,Uf]⟩
   ·exact⟨s,by rw[Pe Ko,←hs,Pe Ko]⟩
 obtain⟨s,hs⟩:=key l.length;rw[Pe Ko] at hs;simp only[hs];rw[Ag h]
theorem zmC {α:Type} [DecidableEq α]: ∀ {a b:List α},a.Nodup→a ⊆ b→a.length≤b.length
 | [],_,_,_=>Pg _
 |x::a,b,h,hs=>by
  have h':=List.nodup_cons.1 h;have hx:x∈b:=hs (Jh ..)
  have:=zmC (a:=a) (b:=b.erase x) h'.2 fun y hy=>by
   have P3:y≠x:=fun e=>by subst e;exact h'.1 hy
   exact(List.mem_erase_of_ne P3).2 (hs (Oh _ hy))
  rw[List.length_erase_of_mem hx] at this;have:=Ni hx;simp only[Ph];omega
theorem zmD {m:List Int} {s:Nat} (hs:s<m.length) (W4:m[s]∉m.take s): ∃h:(zl (m.take s)).length< (zv m).length,(zv m)[(zl (m.take s)).length]=(s:Int):=by
 have ht:zl (m.take (s+1))=zl (m.take s)++[m[s]]:=by
  rw[Re hs,zaG,if_neg fun h=>W4 ((zK _).1 h)]
 have S0:(zl (m.take (s+1))).length≤(zl m).length:=by
  have hn:=(zcR (m.take (s+1)));have L6:zl (m.take (s+1)) ⊆ zl m:=fun x hx=>(zK _).2 (Li ((zK _).1 hx));exact zmC hn L6
 have h1:(zl (m.take s)).length< (zl m).length:=by rw[ht,Ve,Bg] at S0;omega
 refine⟨by unfold zv;rw[Be];exact h1,?_⟩;simp only[zv,Le];have hp:=zv9 m (s+1) (i:=(zl (m.take s)).length) (by rw[ht,Ve];simp) h1
 have:(zl (m.take (s+1)))[(zl (m.take s)).length]'(by rw[ht,Ve];simp)=m[s]:=by
  simp only[ht,List.getElem_concat_length]
 rw[hp,this];obtain⟨p,hpp,_,_,A5⟩:=zaU hs;rw[zB hpp,A5.2 W4]
theorem zud {d:DfaT} {m:List Int} {C:List Value} {an al ay:Option Addr} {cn cl cs:Nat} {rs:List Value} {G:zb} {H:za} (O:OpenD G d C an al ay cn cl cs rs) {v6:Value} {b2 b4 b7:Nat} {j t:Nat} (hj:j< (zv m).length) (H6:j<65536) (ht:t<d.label.length) (A3:(zv m)[j]=(t:Int)) {vn vl vs:Value} {kl:za} (H8:zg3 d m j vl kl):
  Tri Tryz.prog Tryz.f75.ntmps (piece [1,1,1,1,1,0,1,0,0,1,0,0,1,1,1,1] Tryz.f75) G [(2, .pointer (some ⟨b2,0,none⟩)),(4, .pointer (some ⟨b4,0,none⟩)),(5, .int .i64 0),(6,v6),(7, .pointer (some ⟨b7,0,none⟩)),(8, .int .i64 (t:Nat))] ((b7, .cells (zc d vn vl vs) [] 27):: (b2, .cells C [] 27):: (kl++H)) (onlyN fun G' fr' H'=>
   ∃vl' kl',G'=G∧zg3 d m (j+1) vl' kl'∧zy [2,4,5,6,7,8] fr'=[(2, .pointer (some ⟨b2,0,none⟩)),(4, .pointer (some ⟨b4,0,none⟩)),(5, .int .i64 0),(6,v6),(7, .pointer (some ⟨b7,0,none⟩)),(8, .int .i64 (t:Nat))]∧H'=(b7, .cells (zc d vn vl' vs) [] 27):: (b2, .cells C [] 27):: (kl'++H)):=by
 have N0:=O.len;have X0:=O.l;have Z0: ∀a b c:Value,(zc d a b c).length=260:=fun a b c=>zN O.ofl _ _ _;have P2: ∀a b c:Value,(zc d a b c)[258]? =some b:=fun a b c=>zbz O.ofl _ _ _;have K4: ∀a b c x:Value,zf (zc d a b c) 258 [x]=zc d a x c:=fun a b c x=>zaH O.ofl _ _ _ _;have J2:d.label[t]=d.label.getD t 0:=by rw[Fg,Xe ht];rfl
 have L5:(zao d m).take (j+1)=(zao d m).take j++[d.label.getD t 0]:=by
  have U4:j< (zao d m).length:=by unfold zao;rw[Be];exact hj
  rw[Re U4];congr 2;simp only[zao,Le,A3,Yf]
 have L7:((zao d m).take j).length=j:=by rw[Ge];unfold zao;rw[Be];omega
 have V6:Adr al:=O.rl.adr (by rw[Be];omega);refine Tri.sepT fun M1=>?_;rcases H8 with ⟨X2,rfl,rfl⟩| ⟨bl,c2,sp2,rfl,rfl,J4⟩
 ·have hE:=M1;try simp only[zzs] at hE
  repeat(obtain⟨J0,hE⟩:=hE)
  have T2:((zao d m).take (j+1)).map (Yd .i64)=[Yd .i64 (d.label.getD t 0)]:=by rw[L5,Ke,Df (L7.trans X2)];rfl
  refine Xg (f:=Tryz.f75) rfl ?_;refine Yg tok zgf Kk ?_
  repeat' first
   |with_reducible first|refine Zd ?_ |refine Ae (fun _=>?_) fun _=>?_ |refine Nb fun nb A0 C0 B0=>?_ |refine Nr fun nb D0 E0 A0 I0 C0 B0=>?_
   |simp -dsimp -implicitDefEqProofs (disch:=first|exact Kd|fail) only[go_sem,↓reduceIte,seval, -He,Zh,Ye,N0,X0,Z0,P2,K4,Ie O.rl,Le,J2,Yf,Og]
   |with_reducible refine Vf tok mixed zgf 17 [1,3,6] (.op 0 .plain (.op 1 .held (.op 2 .plain (.op 3 .held (.op 4 .plain (.op 5 .plain (.op 6 .held (.op 7 .keeps (.op 8 .keeps (.op 9 .plain (.op 10 .plain .nil))))))))))) Kk [7,2] ?_
  rw[←T2];exact Oe (H':=(b7, .cells (zc d vn (.slice (some ⟨nb,0,none⟩) 1 E0) vs) [] 27):: (b2, .cells C [] 27):: ([(nb, .cells (((zao d m).take (j+1)).map (Yd .i64)) D0 3)]++H)) Ks (Ce ⟨.slice (some ⟨nb,0,none⟩) 1 E0,_,rfl, .inr ⟨nb,E0,D0,by rw[X2],rfl,by omega⟩,rfl,rfl⟩)
 ·have hE:=M1;try simp only[zzs] at hE
  repeat(obtain⟨J0,hE⟩:=hE)
  obtain⟨ps,Q6,J3⟩: ∃ps,ps=((zao d m).take j).map (Yd .i64)∧ps.length=j:=⟨_,rfl,by rw[Be,L7]⟩;have T2:((zao d m).take (j+1)).map (Yd .i64)=ps++[Yd .i64 (d.label.getD t 0)]:=by rw[L5,Ke,←Q6];rfl
  rw[←Q6];refine Xg (f:=Tryz.f75) rfl ?_;refine Yg tok zgf Kk ?_
  repeat' first
   |with_reducible first|refine Zd ?_ |refine Ae (fun _=>?_) fun _=>?_ |refine Nb fun nb A0 C0 B0=>?_ |refine Nr fun nb D0 E0 A0 I0 C0 B0=>?_
   |simp -dsimp -implicitDefEqProofs (disch:=first|exact Kd|fail) only[go_sem,↓reduceIte,seval, -He,Zh,Ye,N0,X0,Z0,P2,K4,Ie O.rl,Le,J2,Yf,Og]
   |with_reducible refine Vf tok mixed zgf 17 [1,3,6] (.op 0 .plain (.op 1 .held (.op 2 .plain (.op 3 .held (.op 4 .plain (.op 5 .plain (.op 6 .held (.op 7 .keeps (.op 8 .keeps (.op 9 .plain (.op 10 .plain .nil))))))))))) Kk [7,2] ?_
  rw[←T2];exact Oe (H':=(b7, .cells (zc d vn (.slice (some ⟨nb,0,none⟩) (j+1) E0) vs) [] 27):: (b2, .cells C [] 27):: ([(nb, .cells (((zao d m).take (j+1)).map (Yd .i64)) D0 3)]++H)) Ks (Ce ⟨_,_,rfl, .inr ⟨nb,E0,D0,rfl,rfl,by omega⟩,rfl,rfl⟩)
theorem zAF {d:DfaT} (P0:zr d) {m:List Int} (N1:zaY d m) {C:List Value} {an al ay:Option Addr} {cn cl cs:Nat} {rs:List Value} {G:zb} {H:za} (O:OpenD G d C an al ay cn cl cs rs) {b2 b4 b7:Nat} {an3:Option Addr} {cn3:Nat} (D2:Row G an3 ((zd m).map (Yd .i64))) {t:Nat} (htm:t<m.length) {vn vl vs:Value} {kn kl:za} (H8:zlV d m G (zl (m.take t)).length vn kn) (M9:zg3 d m (zl (m.take t)).length vl kl) (J6:zax vs=true):
  Tri Tryz.prog Tryz.f75.ntmps (piece [1,1,1,1,1,0,1,0,0,1,0] Tryz.f75) G [(2, .pointer (some ⟨b2,0,none⟩)),(4, .pointer (some ⟨b4,0,none⟩)),(5, .int .i64 0),(6, .slice an3 (zd m).length cn3),(7, .pointer (some ⟨b7,0,none⟩)),(8, .int .i64 (t:Nat))] ((b7, .cells (zc d vn vl vs) [] 27):: (b2, .cells C [] 27):: (kn++(kl++H))) (onlyN fun G' fr' H'=>
   ∃vn' vl' kn' kl',PLe G G'∧zlV d m G' (zl (m.take (t+1))).length vn' kn'∧zg3 d m (zl (m.take (t+1))).length vl' kl'∧zy [2,4,5,6,7,8] fr'=[(2, .pointer (some ⟨b2,0,none⟩)),(4, .pointer (some ⟨b4,0,none⟩)),(5, .int .i64 0),(6, .slice an3 (zd m).length cn3),(7, .pointer (some ⟨b7,0,none⟩)),(8, .int .i64 (t:Nat))]∧H'=(b7, .cells (zc d vn' vl' vs) [] 27):: (b2, .cells C [] 27):: (kn'++(kl'++H))):=by
 obtain⟨U3,M2,V3,A4,M4⟩:=id P0;have K0:=N1.1;have X4:m.length=d.label.length:=N1.2.1;obtain⟨Y2,K2,U2,N3,X3,Y3,Y1⟩:=id K0;have N0:=O.len;have D1:=O.w;have J1:=O.n;have X0:=O.l;have C1:=zt m;have M6:=O.rn;have I2:=O.rl;have La:=O.rnl;have hr1': ∀x:Value,Fe 1 x=[x]:=fun _=>rfl;have Z0: ∀a b c:Value,(zc d a b c).length=260:=fun a b c=>zN O.ofl _ _ _;have Z2: ∀a b c:Value,(zc d a b c)[257]? =some a:=fun a b c=>zcx O.ofl _ _ _;have P2: ∀a b c:Value,(zc d a b c)[258]? =some b:=fun a b c=>zbz O.ofl _ _ _;have U5: ∀a b c x:Value,zf (zc d a b c) 257 [x]=zc d x b c:=fun a b c x=>zbi O.ofl _ _ _ _;have K4: ∀a b c x:Value,zf (zc d a b c) 258 [x]=zc d a x c:=fun a b c x=>zaH O.ofl _ _ _ _;have L1:t<d.next.length:=by omega
 have htL:t<d.label.length:=by omega
 have V8:t<rs.length:=by omega
 have htnm:t< (zd m).length:=by omega
 obtain⟨b,c,e1,e2,e3⟩:=O.rs t L1 V8;obtain⟨I3,Ib,Ra,Y7⟩:=Y1 t L1 htL;obtain⟨row,U0⟩: ∃row,row=d.next[t]:=⟨_,rfl⟩;have hrm:=M2 _ (Me L1);rw[←U0] at e1 e2 e3 I3 Y7 hrm;have hw:d.width=(row.length:Int):=I3.symm;obtain⟨r,hr⟩: ∃r,r=zdk d m t:=⟨_,rfl⟩;have I8:r=row.map (atL (zd m)):=by rw[hr];unfold zdk;rw[Fg,Xe L1,U0];rfl
 have I5:r.length=row.length:=by rw[I8,Be]
 have B3:Adr an:=M6.adr Ko;have V6:Adr al:=I2.adr (by rw[Be];omega);have Yc:Adr an3:=D2.adr (by rw[Be];omega);obtain⟨j,hjd⟩: ∃j,j=(zl (m.take t)).length:=⟨_,rfl⟩;rw[←hjd] at H8 M9;have hjt:=zZ (m.take t);rw[Ge] at hjt;have H6:j<65536:=by omega
 have Ga:=zlJ htm;rw[←hjd] at Ga
 have hvl: ∃avl cvl,vl= .slice avl j cvl:=by
  rcases M9 with ⟨h0,rfl,_⟩| ⟨bl,c2,sp2,rfl,_,_⟩
  ·exact⟨none,0,by rw[h0]⟩
  ·exact⟨_,_,rfl⟩
 obtain⟨avl,cvl,rfl⟩:=hvl;refine Tri.sepT fun M1=>?_;have hE:=M1;try simp only[zzs] at hE
 repeat(obtain⟨J0,hE⟩:=hE)
 refine Xg (f:=Tryz.f75) rfl ?_;refine Tri.runS tok zgf (.block (.seq .run (.seq .run (.seq .run (.seq .run .cut))))) Kk ?_;by_cases W4:m[t]∉m.take t
 ·have hyes:=Ga.2 W4;obtain⟨hj,A3⟩:=zmD htm W4;simp only[←hjd] at hj A3
  have Ca:(zl (m.take (t+1))).length=j+1:=by
   rw[Re htm,zaG,if_neg fun h=>W4 ((zK _).1 h),Ve,←hjd];rfl
  have Y5:zdk d m (zv m)[j].toNat=r:=by rw[A3,Yf,hr]
  repeat' first
   |with_reducible first|refine Zd ?_ |refine Ae (fun _=>?_) fun _=>?_ |refine Nb fun nb A0 C0 B0=>?_ |refine Nr fun nb D0 E0 A0 I0 C0 B0=>?_
   |with_reducible refine Vf tok mixed zgf 10 [3,5] (.op 0 .plain (.op 1 .plain (.op 2 .plain (.op 3 .held (.op 4 .plain (.op 5 .held (.op 6 .plain (.op 7 .plain .nil)))))))) Kk [6,7] ?_
   |simp -dsimp -implicitDefEqProofs (disch:=first|exact Kd|fail) only[go_sem,↓reduceIte,seval, -He,Be,hr1',Ye,N0,D1,J1,X0,hw,Z0,Z2,P2,U5,K4,Ie M6,e1,Ie e2,Ie I2,Ie D2,Le,Yf,Og,Wh,hyes]
  refine Je tok zgf Kk [2,4,5,6,7,8,9,10] (fun q G' fr H'=> ∃ (k br cc:Nat) (spr:List Value),k+q=row.length∧k+spr.length=cc∧G'=G∧H'=(br, .cells ((r.take k).map (Yd .i64)) spr 3):: (b7, .cells (zc d vn (.slice avl j cvl) vs) [] 27):: (b2, .cells C [] 27):: (kn++(kl++H))∧fr=[(2, .pointer (some ⟨b2,0,none⟩)),(4, .pointer (some ⟨b4,0,none⟩)),(5, .int .i64 0),(6, .slice an3 (zd m).length cn3),(7, .pointer (some ⟨b7,0,none⟩)),(8, .int .i64 (t:Nat)),(9, .slice (some ⟨br,0,none⟩) k cc),(10, .int .i64 (k:Nat))]) (row.length) ?_ ?_
  ·exact Ce ⟨0,nb,0,[],by omega,rfl,rfl,rfl,rfl⟩
  ·rintro q G1 fr H' S0 hs ⟨k,br,cc,spr,hk,hcc,rfl,rfl,rfl⟩;have hE:=hs;try simp only[zzs] at hE
   repeat(obtain⟨J0,hE⟩:=hE)
   by_cases Q2:k<row.length
   ·have D7:k<r.length:=by omega
    obtain⟨ps,Q6,J3⟩: ∃ps,ps=(r.take k).map (Yd .i64)∧ps.length=k:=⟨_,rfl,by rw[Be,Ge];omega⟩;have T2:(r.take (k+1)).map (Yd .i64)=ps++[Yd .i64 r[k]]:=by rw[Re D7,Ke,←Q6];rfl
    rw[←Q6];have Cd:Adr b:=e2.adr (by rw[Be];omega);have hx:=Y7 _ (Me Q2);obtain⟨y,Z4⟩:=Dg hx.1;have hym:y< (zd m).length:=by omega
    have P5:(zd m)[y]=r[k]:=by
     simp only[I8,Le];rw[Z4,zL (by simpa using hym)];simp only[Yf]
    repeat' first
     |with_reducible first|refine Zd ?_ |refine Ae (fun _=>?_) fun _=>?_ |refine Nb fun nb A0 C0 B0=>?_ |refine Nr fun nb D0 E0 A0 I0 C0 B0=>?_
     |simp -dsimp -implicitDefEqProofs (disch:=first|exact Kd|fail) only[go_sem,↓reduceIte,seval, -He,Be,hr1',Ye,N0,D1,J1,X0,hw,Z0,Z2,P2,U5,K4,Ie M6,e1,Ie e2,Ie I2,Ie D2,Le,Yf,Og,Wh,Z4,P5]
    all_goals try(exfalso;omega)
    rw[←T2];exact Oe (H':=_) Ks (Ce ⟨q - 1,by omega,k+1,nb,E0,D0,by omega,by simp at I0⊢;omega,rfl,rfl,rfl⟩)
   ·obtain rfl:k=row.length:=by omega
    have hpa:r.take row.length=r:=by rw[←I5,Te]
    rw[hpa] at hs⊢;have hrl5:(r.map (Yd .i64)).length=row.length:=by rw[Be,I5]
    rcases H8 with ⟨X2,rfl,rfl⟩| ⟨bn,c1,rv,sp1,rfl,rfl,T3,V7,F5⟩
    ·have hE:=hs;try simp only[zzs] at hE
     repeat(obtain⟨J0,hE⟩:=hE)
     repeat' first
      |with_reducible first|refine Zd ?_ |refine Ae (fun _=>?_) fun _=>?_ |refine Nb fun nb A0 C0 B0=>?_ |refine Nr fun nb D0 E0 A0 I0 C0 B0=>?_
      |simp -dsimp -implicitDefEqProofs (disch:=first|exact Kd|fail) only[go_sem,↓reduceIte,seval, -He,Be,hr1',Ye,N0,D1,J1,X0,hw,Z0,Z2,P2,U5,K4,Ie M6,e1,Ie e2,Ie I2,Ie D2,Le,Yf,Og,Wh]
     all_goals try(exfalso;omega)
     refine Tri.upd (Oe (H':=(b7, .cells (zc d (.slice (some ⟨nb,0,none⟩) 1 E0) (.slice avl j cvl) vs) [] 27):: (b2, .cells C [] 27):: (kl++((br, .cells (r.map (Yd .i64)) spr 3):: (nb, .cells [.slice (some ⟨br,0,none⟩) row.length cc] D0 24)::H))) Ks (Ce ?_));refine Ch [2,4,5,6,7,8] ?_;refine Ah [1,1,1,1,1,0,1,0,0,1,0,0,1,1,1,1] Tryz.f75 Kk ?_;refine Tri.onlyN (zud O hj H6 htL A3 M9) fun G5 l5 H5 A2 P1 hM=>?_;obtain⟨vl',kl',rfl,X8,L4,rfl⟩:=hM;simp only[go_sem];have hE:=P1;try simp only[zzs] at hE
     repeat(obtain⟨J0,hE⟩:=hE)
     refine Oe (H':=(br, .cells (r.map (Yd .i64)) spr 3):: (b7, .cells (zc d (.slice (some ⟨nb,0,none⟩) 1 E0) vl' vs) [] 27):: (b2, .cells C [] 27):: ([(nb, .cells [.slice (some ⟨br,0,none⟩) row.length cc] D0 24)]++(kl'++H))) Ks (Jf Ka fun G6 Q1 E3 C6=>?_);refine⟨_,vl',_,kl',Q1,?_,by rw[Ca];exact X8,L4,rfl⟩;rw[Ca];refine .inr ⟨nb,E0,_,D0,by rw[X2],rfl,by rw[X2];rfl,by omega,fun i h h2 h3=>?_⟩;obtain rfl:i=0:=by omega
     obtain rfl:j=0:=X2;refine⟨some ⟨br,0,none⟩,cc,?_,?_,?_⟩
     ·rw[Y5,I5];rfl
     ·rw[Y5];exact C6
     ·rw[Y5,I5];omega
    ·have hE:=hs;try simp only[zzs] at hE
     repeat(obtain⟨J0,hE⟩:=hE)
     repeat' first
      |with_reducible first|refine Zd ?_ |refine Ae (fun _=>?_) fun _=>?_ |refine Nb fun nb A0 C0 B0=>?_ |refine Nr fun nb D0 E0 A0 I0 C0 B0=>?_
      |simp -dsimp -implicitDefEqProofs (disch:=first|exact Kd|fail) only[go_sem,↓reduceIte,seval, -He,Be,hr1',Ye,N0,D1,J1,X0,hw,Z0,Z2,P2,U5,K4,Ie M6,e1,Ie e2,Ie I2,Ie D2,Le,Yf,Og,Wh]
     all_goals try(exfalso;omega)
     refine Tri.upd (Oe (H':=(b7, .cells (zc d (.slice (some ⟨nb,0,none⟩) (j+1) E0) (.slice avl j cvl) vs) [] 27):: (b2, .cells C [] 27):: (kl++((br, .cells (r.map (Yd .i64)) spr 3):: (nb, .cells (rv++[.slice (some ⟨br,0,none⟩) row.length cc]) D0 24)::H))) Ks (Ce ?_));refine Ch [2,4,5,6,7,8] ?_;refine Ah [1,1,1,1,1,0,1,0,0,1,0,0,1,1,1,1] Tryz.f75 Kk ?_;refine Tri.onlyN (zud O hj H6 htL A3 M9) fun G5 l5 H5 A2 P1 hM=>?_;obtain⟨vl',kl',rfl,X8,L4,rfl⟩:=hM;simp only[go_sem];have hE:=P1;try simp only[zzs] at hE
     repeat(obtain⟨J0,hE⟩:=hE)
     refine Oe (H':=(br, .cells (r.map (Yd .i64)) spr 3):: (b7, .cells (zc d (.slice (some ⟨nb,0,none⟩) (j+1) E0) vl' vs) [] 27):: (b2, .cells C [] 27):: ([(nb, .cells (rv++[.slice (some ⟨br,0,none⟩) row.length cc]) D0 24)]++(kl'++H))) Ks (Jf Ka fun G6 Q1 E3 C6=>?_);refine⟨_,vl',_,kl',Q1,?_,by rw[Ca];exact X8,L4,rfl⟩;rw[Ca];refine .inr ⟨nb,E0,_,D0,rfl,rfl,by rw[Ve,T3];rfl,by omega,fun i h h2 h3=>?_⟩;rcases Eg i j with Z3|Z3
     ·obtain⟨b',c',f1,f2,f3⟩:=F5 i Z3 Ko h3;exact⟨b',c',by rw[Ag Ko];exact f1,f2.mono Q1,f3⟩
     ·obtain rfl:i=j:=by omega
      refine⟨some ⟨br,0,none⟩,cc,?_,?_,?_⟩
      ·rw[Y5,I5,Ng Ko];simp [T3]
      ·rw[Y5];exact C6
      ·rw[Y5,I5];omega
 ·have B1:(zd m)[t]≠(j:Int):=fun e=>W4 (Ga.1 e)
  have Ca:(zl (m.take (t+1))).length=j:=by
   rw[Re htm,zaG,if_pos ((zK _).2 (Classical.not_not.1 W4)),←hjd]
  repeat' first
   |with_reducible first|refine Zd ?_ |refine Ae (fun _=>?_) fun _=>?_ |refine Nb fun nb A0 C0 B0=>?_ |refine Nr fun nb D0 E0 A0 I0 C0 B0=>?_
   |with_reducible refine Vf tok mixed zgf 10 [3,5] (.op 0 .plain (.op 1 .plain (.op 2 .plain (.op 3 .held (.op 4 .plain (.op 5 .held (.op 6 .plain (.op 7 .plain .nil)))))))) Kk [6,7] ?_
   |simp -dsimp -implicitDefEqProofs (disch:=first|exact Kd|fail) only[go_sem,↓reduceIte,seval, -He,Be,hr1',Ye,N0,D1,J1,X0,hw,Z0,Z2,P2,U5,K4,Ie M6,e1,Ie e2,Ie I2,Ie D2,Le,Yf,Og,Wh]
  all_goals try(exfalso;omega)
  exact Ce ⟨_,_,kn,kl,PLe.refl _,by rw[Ca];exact H8,by rw[Ca];exact M9,rfl,rfl⟩
theorem zAf {d:DfaT} (P0:zr d) {m:List Int} (N1:zaY d m) {G:zb} {H:za} {R:Value→zb→za→Prop} {v w:Value} (hv:IsD G d v) (P4:Sl G (Yd .i64) w m)
  (hR: ∀G' v',PLe G G'→Sep G' (zm H)→IsD G' (ofD d m) v'→R (.tuple #[v', .int .i64 0]) G' H):FnT Tryz.prog 75 [v,w] G H R:=by
 obtain⟨C,an,al,ay,cn,cl,cs,rs,rfl,O⟩:=hv.opened;obtain⟨U3,M2,V3,A4,M4⟩:=id P0;have I3:=P4;obtain⟨aw,cw,rfl,Sa,R9⟩:=P4;have K0:=N1.1;have X4:m.length=d.label.length:=N1.2.1;obtain⟨Y2,K2,U2,N3,X3,Y3,Y1⟩:=id K0;have hb:=zA K0;have F4:=zA N1;have N0:=O.len;have D1:=O.w;have S2:=O.s;have E4:=O.of;have T0:=O.all;have R5:(u8L d.of).length=256:=by rw[Be,O.ofl]
 have hbd1:=zdl O.ofl;have hbd2:=zc2 O.ofl;have hbd3:=zcG O.ofl (.slice none 0 0) (.slice none 0 0) (.slice none 0 0);have D4:(u8L d.of++[Yd .i64 0,Wf none 0 0,Wf none 0 0,Wf none 0 0]).length=260:=by rw[Ve,R5];rfl
 have hone0:=zaC (d:=d) (vn:= .slice none 0 0) (vl:= .slice none 0 0) (vs:= .slice ay d.names.length cs) rfl rfl rfl;have L3:=zZ m;have hhl:(zv m).length=(zl m).length:=by unfold zv;rw[Be]
 have H6:(zv m).length≤65536:=by omega
 have Ta:0< (zv m).length:=by
  have h0:0<m.length:=by omega
  have:m[0]∈zl m:=(zK m).2 (Me h0);rw[hhl];exact Ni this
 have Z0: ∀a b c:Value,(zc d a b c).length=260:=fun a b c=>zN O.ofl _ _ _;have X7: ∀a b c:Value,Hf 260 (zc d a b c)=zc d a b c:=fun a b c=>zbQ O.ofl _ _ _
 have T4: ∀a b c:Value,zf zz 0 (zc d a b c)=zc d a b c:=fun a b c=>by
  unfold zf;rw[Se,Af,Gf (by rw[zj,Z0];omega),Bf]
 refine Zf ?_;refine Ee tok zgf Tryz.func75 rfl Kk Kk Kn fun M0=>?_;rw[Tryz.results75];have hE:=M0;try simp only[zzs] at hE
 repeat(obtain⟨J0,hE⟩:=hE)
 repeat' first
  |with_reducible first|refine Zd ?_ |refine Ae (fun _=>?_) fun _=>?_ |refine Nb fun nb A0 C0 B0=>?_ |refine Nr fun nb D0 E0 A0 I0 C0 B0=>?_
  |simp -dsimp -implicitDefEqProofs (disch:=first|exact Kd|fail) only[go_sem,↓reduceIte,seval, -He,Ye,N0,T0]
 rename_i b2 Ec J8 A8;revert nb;intro b4 hb40 Fc Wb;refine za1 P0 O.is fun G0 N7 M1=>?_;rw[hb];have hE:=M1;try simp only[zzs] at hE
 repeat(obtain⟨J0,hE⟩:=hE)
 repeat' first
  |with_reducible first|refine Zd ?_ |refine Ae (fun _=>?_) fun _=>?_ |refine Nb fun nb A0 C0 B0=>?_ |refine Nr fun nb D0 E0 A0 I0 C0 B0=>?_
  |simp -dsimp -implicitDefEqProofs (disch:=first|exact Kd|fail) only[go_sem,↓reduceIte,seval, -He,Ye,N0,T0]
 refine zuc P0 Ko (O.is.mono N7) (I3.mono N7) fun G2 Q0 R0=>?_;rw[F4];have hE:=R0;try simp only[zzs] at hE
 repeat(obtain⟨J0,hE⟩:=hE)
 repeat' first
  |with_reducible first|refine Zd ?_ |refine Ae (fun _=>?_) fun _=>?_ |refine Nb fun nb A0 C0 B0=>?_ |refine Nr fun nb D0 E0 A0 I0 C0 B0=>?_
  |simp -dsimp -implicitDefEqProofs (disch:=first|exact Kd|fail) only[go_sem,↓reduceIte,seval, -He,Ye]
 refine zqf Ko ((I3.mono N7).mono Q0) fun G3 v3 A1 K1 T6=>?_;obtain⟨an3,cn3,rfl,D2,H9⟩:=T6;have hE:=K1;try simp only[zzs] at hE
 repeat(obtain⟨J0,hE⟩:=hE)
 have O3:OpenD G3 d C an al ay cn cl cs rs:=OpenD.mono ((N7.trans Q0).trans A1) O
 repeat' first
  |with_reducible first|refine Zd ?_ |refine Ae (fun _=>?_) fun _=>?_ |refine Nb fun nb A0 C0 B0=>?_ |refine Nr fun nb D0 E0 A0 I0 C0 B0=>?_
  |simp -dsimp -implicitDefEqProofs (disch:=first|exact Kd|fail) only[go_sem,↓reduceIte,seval, -He,Ye,N0,D1,S2,E4,R5,hbd1,hbd2,hbd3,D4,Z0,zj,zG,T4,hone0]
 revert nb;intro b7 hb70 hb71 hb72;rw[show(Fe 256 (Yd .u8 0)++[Yd .i64 0,Wf none 0 0,Wf none 0 0,Wf none 0 0])=zz from rfl];refine Tri.loopS tok zgf (.seq .run (.seq .cut .cut)) Kk [2,4,5,6,7,8] (fun q G' fr H'=> ∃ (s:Nat) (vn vl:Value) (kn kl:za),s+q=(zd m).length∧zlV d m G' (zl (m.take s)).length vn kn∧zg3 d m (zl (m.take s)).length vl kl∧H'=(b7, .cells (zc d vn vl (.slice ay d.names.length cs)) [] 27):: (b2, .cells C [] 27):: (kn++(kl++((b4, .cells zz [] 27)::H)))∧fr=[(2, .pointer (some ⟨b2,0,none⟩)),(4, .pointer (some ⟨b4,0,none⟩)),(5, .int .i64 0),(6, .slice an3 (zd m).length cn3),(7, .pointer (some ⟨b7,0,none⟩)),(8, .int .i64 (s:Nat))]) ((zd m).length) ?_ ?_
 ·exact Oe (H':=(b7, .cells (zc d (.slice none 0 0) (.slice none 0 0) (.slice ay d.names.length cs)) [] 27):: (b2, .cells C [] 27):: ([]++([]++((b4, .cells zz [] 27)::H)))) Ks (Ce ⟨0,_,_,[],[],by omega, .inl ⟨rfl,rfl,rfl⟩, .inl ⟨rfl,rfl,rfl⟩,rfl,rfl⟩)
 ·rintro q G6 fr H' Q1 E3 ⟨s,vn,vl,kn,kl,hj,Y4,Q3,rfl,rfl⟩;have C1:=zt m;by_cases D3:s<m.length
  ·repeat' first
    |with_reducible first|refine Zd ?_ |refine Ae (fun _=>?_) fun _=>?_ |refine Nb fun nb A0 C0 B0=>?_ |refine Nr fun nb D0 E0 A0 I0 C0 B0=>?_
    |simp -dsimp -implicitDefEqProofs (disch:=first|exact Kd|fail) only[go_sem,↓reduceIte,seval, -He,Ye]
   all_goals try(exfalso;omega)
   refine Ch [2,4,5,6,7,8] ?_;refine Ah [1,1,1,1,1,0,1,0,0,1,0] Tryz.f75 Kk ?_;refine Tri.onlyN (zAF P0 N1 (OpenD.mono Q1 O3) (D2.mono Q1) D3 Y4 Q3 rfl) fun G7 l7 H7 W2 B4 hM=>?_;obtain⟨vn',vl',kn',kl',_,Tb,Mc,I7,rfl⟩:=hM;simp only[go_sem];refine Ch [2,4,5,6,7,8] ?_;rw[I7];refine Yg tok zgf Kk ?_
   repeat' first
    |with_reducible first|refine Zd ?_ |refine Ae (fun _=>?_) fun _=>?_ |refine Nb fun nb A0 C0 B0=>?_ |refine Nr fun nb D0 E0 A0 I0 C0 B0=>?_
    |simp -dsimp -implicitDefEqProofs (disch:=first|exact Kd|fail) only[go_sem,↓reduceIte,seval, -He,Ye]
   exact Ce ⟨q - 1,by omega,s+1,vn',vl',kn',kl',by omega,Tb,Mc,rfl,rfl⟩
  ·obtain rfl:s=m.length:=by omega
   rw[Te,←hhl] at Y4 Q3;rcases Y4 with ⟨X2,_,_⟩| ⟨bn,c1,rv,sp1,rfl,rfl,T3,V7,F5⟩
   ·exact absurd X2 Ko
   rcases Q3 with ⟨X2,_,_⟩| ⟨bl,c2,sp2,rfl,rfl,J4⟩
   ·exact absurd X2 Ko
   have hE:=E3;try simp only[zzs] at hE
   repeat(obtain⟨J0,hE⟩:=hE)
   have S3:=zaC (d:=d) (vn:= .slice (some ⟨bn,0,none⟩) (zv m).length c1) (vl:= .slice (some ⟨bl,0,none⟩) (zv m).length c2) (vs:= .slice ay d.names.length cs) rfl rfl rfl;have F8:(zao d m).length=(zv m).length:=by unfold zao;rw[Be]
   rw[show(zao d m).take (zv m).length=zao d m by rw[←F8,Te]]
   repeat' first
    |with_reducible first|refine Zd ?_ |refine Ae (fun _=>?_) fun _=>?_ |refine Nb fun nb A0 C0 B0=>?_ |refine Nr fun nb D0 E0 A0 I0 C0 B0=>?_
    |simp -dsimp -implicitDefEqProofs (disch:=first|exact Kd|fail) only[go_sem,↓reduceIte,seval, -He,Ye,Z0,X7,T4,S3,zj]
   unfold zo;refine Oe (H':=(bn, .cells rv sp1 24):: (bl, .cells ((zao d m).map (Yd .i64)) sp2 3)::H) Ks (Upd.trans (Jf Ka fun G7 W2 B4 Q7=>?_));refine Jf B4.1.1 fun G8 N4 B6 N6=>?_;refine fun _ hs=>hR G8 _ (((N7.trans Q0).trans A1).trans (Q1.trans (W2.trans N4))) hs ?_;refine⟨O.ofl,O.ofb,_,_,_,rfl,⟨some ⟨bn,0,none⟩,c1,rv,?_,Q7.mono N4,?_,?_,fun i h h2=>?_⟩,⟨some ⟨bl,0,none⟩,c2,?_,N6,?_⟩,⟨ay,cs,rfl,O.ry.mono (((N7.trans Q0).trans A1).trans (Q1.trans (W2.trans N4))),O.ryc⟩⟩
   ·simp only[ofD,Be]
   ·simp only[ofD,Be];exact T3
   ·simp only[ofD,Be];omega
   ·have hi:i< (zv m).length:=by simp only[ofD,Be] at h;exact h
    obtain⟨b',c',f1,f2,f3⟩:=F5 i hi h2 hi;refine⟨b',c',?_,?_,?_⟩
    ·simp only[ofD,Le];exact f1
    ·simp only[ofD,Le];exact f2.mono (W2.trans N4)
    ·simp only[ofD,Le];exact f3
   ·simp only[ofD,Be]
   ·simp only[ofD,Be];omega
theorem zxZ {d:DfaT} (K0:zg d):lvl d d.label.length=zbC d 65536:=by
 obtain⟨N,hN⟩:=zlS K0.2.2.1 K0.1;have S0:N≤65536:=by have:=hN.1;have:=K0.2.1;omega
 rw[zv7 hN,zfN K0,zfe hN.2.1 S0]
theorem zwa {d:DfaT} (P0:zr d) (K0:zg d) {G:zb} {H:za} {R:Value→zb→za→Prop} {v:Value} (hv:IsD G d v)
  (hR: ∀G' v',PLe G G'→Sep G' (zm H)→IsD G' (zar d).1 v'→R (.tuple #[v', .int .i64 (zar d).2]) G' H):FnT Tryz.prog 46 [v] G H R:=by
 obtain⟨C,an,al,ay,cn,cl,cs,rs,rfl,O⟩:=hv.opened;have N0:=O.len;have T0:=O.all;have hb:=zA K0;have hok2:=zcs K0;have hsm2:=zcW P0 K0;have N1:=zev hok2;rw[zed K0] at hR;obtain⟨M,hM⟩: ∃M,M=zbC (zW d) 65536:=⟨_,rfl⟩;rw[←hM] at N1 hR;refine Zf ?_;refine Ee tok zyU Tryz.func46 rfl Kk Kk Kn fun M0=>?_;rw[Tryz.results46];have hE:=M0;try simp only[zzs] at hE
 repeat(obtain⟨J0,hE⟩:=hE)
 repeat' first
  |with_reducible first|refine Zd ?_ |refine Ae (fun _=>?_) fun _=>?_ |refine Nb fun nb A0 C0 B0=>?_ |refine Nr fun nb D0 E0 A0 I0 C0 B0=>?_
  |simp -dsimp -implicitDefEqProofs (disch:=first|exact Kd|fail) only[go_sem,↓reduceIte,seval, -He,Ye,N0,T0]
 obtain⟨b2,e20⟩: ∃x,x=nb:=⟨_,rfl⟩;subst e20;refine za1 P0 O.is fun G1 N2 V0=>?_;rw[hb];have hE:=V0;try simp only[zzs] at hE
 repeat(obtain⟨J0,hE⟩:=hE)
 repeat' first
  |with_reducible first|refine Zd ?_ |refine Ae (fun _=>?_) fun _=>?_ |refine Nb fun nb A0 C0 B0=>?_ |refine Nr fun nb D0 E0 A0 I0 C0 B0=>?_
  |simp -dsimp -implicitDefEqProofs (disch:=first|exact Kd|fail) only[go_sem,↓reduceIte,seval, -He,Ye,N0,T0]
 refine zl0 P0 K0 (O.is.mono N2) fun G2 v2 Q0 R0 K3=>?_;obtain⟨C2,an2,al2,ay2,cn2,cl2,cs2,rs2,rfl,O2⟩:=K3.opened;have V4:=O2.len;have Y6:=zbg O2.is;have Z6:=zbh V4;have A7:Hf 260 C2=C2:=Pe Ko;have hE:=R0;try simp only[zzs] at hE
 repeat(obtain⟨J0,hE⟩:=hE)
 repeat' first
  |with_reducible first|refine Zd ?_ |refine Ae (fun _=>?_) fun _=>?_ |refine Nb fun nb A0 C0 B0=>?_ |refine Nr fun nb D0 E0 A0 I0 C0 B0=>?_
  |simp -dsimp -implicitDefEqProofs (disch:=first|exact Kd|fail) only[go_sem,↓reduceIte,seval, -He,Ye,V4,Y6,Z6,A7,zj]
  |with_reducible refine Wg tok mixed zyU 4 [0,1] (.op 0 .held (.op 1 .held (.op 2 .keeps (.op 3 .keeps (.op 4 .plain (.op 5 .plain (.op 6 .plain (.op 7 .plain .nil)))))))) Kk [(nb, .cells C2 [] 27)] Ks ?_
 obtain⟨b4,e40⟩: ∃x,x=nb:=⟨_,rfl⟩;subst e40;refine zub hsm2 hok2 O2.is fun G3 v3 A1 K1 T6=>?_;rw[zxZ hok2,←hM] at T6;have hE:=K1;try simp only[zzs] at hE
 repeat(obtain⟨J0,hE⟩:=hE)
 repeat' first
  |with_reducible first|refine Zd ?_ |refine Ae (fun _=>?_) fun _=>?_ |refine Nb fun nb A0 C0 B0=>?_ |refine Nr fun nb D0 E0 A0 I0 C0 B0=>?_
  |simp -dsimp -implicitDefEqProofs (disch:=first|exact Kd|fail) only[go_sem,↓reduceIte,seval, -He,Ye,V4,Y6,Z6,A7,zj]
 refine zAf hsm2 N1 (O2.is.mono A1) T6 fun G4 v4 Z1 S1 hI4=>?_;obtain⟨C4,an4,al4,ay4,cn4,cl4,cs4,rs4,rfl,O4⟩:=hI4.opened;have Dc:=O4.len;have Ld:=zbg O4.is;have Md:=zbh Dc;have htk4:Hf 260 C4=C4:=Pe Ko;have hE:=S1;try simp only[zzs] at hE
 repeat(obtain⟨J0,hE⟩:=hE)
 repeat' first
  |with_reducible first|refine Zd ?_ |refine Ae (fun _=>?_) fun _=>?_ |refine Nb fun nb A0 C0 B0=>?_ |refine Nr fun nb D0 E0 A0 I0 C0 B0=>?_
  |simp -dsimp -implicitDefEqProofs (disch:=first|exact Kd|fail) only[go_sem,↓reduceIte,seval, -He,Ye,Dc,Ld,Md,htk4,zj]
 unfold zo;refine Xf (H':=H) Ks ?_;exact fun _ hs=>hR G4 _ (N2.trans (Q0.trans (A1.trans Z1))) hs O4.is
section
variable {α β:Type} [DecidableEq α] [DecidableEq β]
theorem zyY {l:List α} {c:Nat} (hc:c<l.length): ∃ (n:Nat) (h:n< (zl l).length),(zd l)[c]'(by rw[zt];exact hc)=(n:Nat)∧(zl l)[n]=l[c]:=by
 obtain⟨n,hn⟩:=zaf ((zK l).2 (Me hc));obtain⟨h1,h2⟩:=zaa hn;rw[Xe h1,Option.some.injEq] at h2;exact⟨n,h1,by rw[zbK hc,zB hn],h2⟩
end
theorem zkl {m:List Int} {j:Nat} (hj:j< (zv m).length): ∃ (x:Nat) (h:j< (zl m).length) (hx:x<m.length),(zv m)[j]=(x:Nat)∧place m m[x]=some x∧m[x]=(zl m)[j]:=by
 have h:j< (zl m).length:=by unfold zv at hj;rwa [Be] at hj
 obtain⟨x,hx⟩:=zaf ((zK m).1 (Me h));obtain⟨h1,h2⟩:=zaa hx;rw[Xe h1,Option.some.injEq] at h2;exact⟨x,h,h1,by simp only[zv,Le];exact zB hx,by rw[h2];exact hx,h2⟩
theorem zAg {d:DfaT} {m:List Int} (N1:zaY d m) {s:Nat} (hs:s<m.length): ∃ (j x:Nat) (hj:j< (zv m).length) (hx:x<d.next.length) (N5:x<d.label.length) (V0:s<d.next.length) (R0:s<d.label.length),(zd m)[s]'(by rw[zt];exact hs)=(j:Nat)∧(zv m)[j]=(x:Nat)∧d.label[s]=d.label[x]∧zd1 (zd m) d.next[s] d.next[x]:=by
 obtain⟨K0,X4,Ja⟩:=N1;have C1:=K0.2.2.1;obtain⟨j,hj,e1,e2⟩:=zyY hs;have hjh:j< (zv m).length:=by unfold zv;rwa [Be]
 obtain⟨x,h,hx,e3,e4,e5⟩:=zkl hjh;have J3:place m m[s]=some x:=by rw[←e2,←e5];exact e4
 obtain⟨f1,f2⟩:=Ja s x hs Ko Ko Ko Ko J3;exact⟨j,x,hjh,by omega,by omega,by omega,by omega,e1,e3,f1,f2⟩
theorem zwb {d:DfaT} {m:List Int} (N1:zaY d m) {s:Nat} (hs:s<m.length):atL (ofD d m).label (atL (zd m) (s:Nat))=atL d.label (s:Nat):=by
 obtain⟨j,x,hj,hx,N5,V0,R0,e1,e2,e3,_⟩:=zAg N1 hs;have B5:s< (zd m).length:=by rw[zt];exact hs
 have g1:atL (zd m) ((s:Nat):Int)=(j:Nat):=by rw[zL (by simpa using B5)];simp only[Yf];exact e1
 have hjn:j< (ofD d m).label.length:=by simp only[ofD,Be];exact hj
 rw[g1,zL (by simpa using hjn),zL (by simpa using R0)];simp only[Yf,ofD,Le];rw[e2,Yf,Fg,Xe N5,e3];rfl
theorem zhl (d:DfaT) (m:List Int):(ofD d m).label.length=(zl m).length:=by simp only[ofD,Be,zv]
theorem zkm {d:DfaT} {m:List Int} (N1:zaY d m):zg (ofD d m):=by
 obtain⟨Y2,K2,U2,N3,X3,Y3,Y1⟩:=id N1.1;have X4:m.length=d.label.length:=N1.2.1;have L3:=zZ m
 have Ta:0< (zl m).length:=by
  have:=(zK m).2 (Me (l:=m) (n:=0) Ko);exact Ni this
 have R6:=zhl d m;refine⟨by omega,by omega,by simp only[ofD,Be],N3,X3,Y3,fun j h h2=>?_⟩;have hj:j< (zv m).length:=by simp only[ofD,Be] at h;exact h
 obtain⟨x,hjt,hx,e1,e2,e3⟩:=zkl hj;have hxn:x<d.next.length:=by omega
 have hxl:x<d.label.length:=by omega
 obtain⟨E5,F7,C8,D6⟩:=Y1 x hxn hxl
 have g2:(ofD d m).next[j]=(d.next[x]).map (atL (zd m)):=by
  simp only[ofD,Le,zdk];rw[e1,Yf,Fg,Xe hxn];rfl
 have g3:(ofD d m).label[j]=d.label[x]:=by
  simp only[ofD,Le];rw[e1,Yf,Fg,Xe hxl];rfl
 rw[g2,g3];refine⟨by rw[Be];exact E5,F7,C8,fun t ht=>?_⟩;obtain⟨y,hy,rfl⟩:=List.mem_map.1 ht;have hyb:=D6 y hy;have hyn:y.toNat< (zd m).length:=by rw[zt];omega
 rw[zL hyn];have:=za9 (Me hyn);omega
theorem zlb {d:DfaT} {m:List Int} (N1:zaY d m) {s t:Nat} (hs:s<m.length) (ht:t<m.length) (h1:s<d.label.length) (h2:t<d.label.length) (h3:s<d.next.length) (h4:t<d.next.length) (e:m[s]=m[t]):d.label[s]=d.label[t]∧zd1 (zd m) d.next[s] d.next[t]:=by
 obtain⟨x,hx⟩:=zaf (Me hs);obtain⟨J7,_⟩:=zaa hx;have J0:place m m[t]=some x:=by rw[←e];exact hx
 have X4:m.length=d.label.length:=N1.2.1;have C1:=N1.1.2.2.1;obtain⟨a1,a2,a3⟩:=N1.2.2 s x hs h1 Ko h3 Ko hx;obtain⟨b1,b2,b3'⟩:=N1.2.2 t x ht h2 Ko h4 Ko J0;refine⟨a1.trans b1.symm,a2.trans b2.symm,fun k hk=>?_⟩;rw[a3 k hk,b3' k Ko]
def zau (n:Nat):List Int:=(Hg n).map fun i:Nat=>(i:Int)
theorem za2 (n:Nat):(zau n).length=n:=by unfold zau;rw[Be,Qh]
theorem zb8 {n i:Nat} (h:i<n):(zau n)[i]'(by rw[za2];exact h)=(i:Int):=by unfold zau;rw[Le,Ci]
theorem zmE (n:Nat):zau (n+1)=zau n++[(n:Int)]:=by unfold zau;rw[Sf,Ke];rfl
theorem zdr {n:Nat} {x:Int}:x∈zau n↔0≤x∧x<n:=by
 unfold zau;rw[List.mem_map];constructor
 ·rintro⟨i,hi,rfl⟩;have:=List.mem_range.1 hi;omega
 ·rintro⟨h0,h1⟩;obtain⟨i,rfl⟩:=Dg h0;exact⟨i,List.mem_range.2 Ko,rfl⟩
theorem zoL {n:Nat} {W X:List Int} (h:W++X=zau n):W=zau W.length∧W.length≤n:=by
 have hl:W.length≤n:=by have:=congrArg Ji h;rw[Ve,za2] at this;omega
 refine⟨Tg (by rw[za2]) fun i h1 h2=>?_,hl⟩;rw[zb8 h1];have h3:i< (W++X).length:=by rw[Ve];omega
 have e1:(W++X)[i]'h3=W[i]:=Ag h1;rw[←e1];simp only[h];exact zb8 Ko
theorem zwc (a b:List Int): ∃X,zl (a++b)=zl a++X:=by
 induction b using zhK with
 |h0=>exact⟨[],by rw[Bf,Bf]⟩
 |h1 l k ih=>
  obtain⟨X,e⟩:=ih;rw[←Uf,zaG];split
  ·exact⟨X,e⟩
  ·exact⟨X++[k],by rw[e,Uf]⟩
theorem zmF (m:List Int) (L:Nat): ∃X,zl m=zl (m.take L)++X:=by
 have:=zwc (m.take L) (m.drop L)
 rwa [List.take_append_drop] at this
def mN (m:List Int) (L:Nat):Nat:=(zl (m.take L)).length
theorem zjr {m:List Int} {L:Nat} (h:L<m.length):mN m (L+1)=mN m L+if m[L]∈m.take L then 0 else 1:=zfp m h
theorem zkn {m:List Int} (hm:zd m=m) {s:Nat} (h:s<m.length):m[s]=zw (zl m) m[s]:=by
 have:=zbK h;rw[←this];simp only[hm]
theorem zfP {m:List Int} (hm:zd m=m) {L:Nat} {x:Int} (hx:x∈m.take L):0≤x∧x<mN m L:=by
 obtain⟨i,hi,e⟩:=Ue ((zK _).2 hx);obtain⟨X,eX⟩:=zmF m L;have Da:i< (zl m).length:=by rw[eX,Ve];omega
 have e2:(zl m)[i]=x:=by
  rw[←e];have:(zl (m.take L)++X)[i]'(by rw[Ve];omega)=(zl (m.take L))[i]:=Ag hi;rw[←this];simp only[eX]
 obtain⟨s,hs,rfl⟩:=Ue (Li hx)
 have hf:zw (zl m) m[s]=(i:Nat):=by
  rw[←e2];exact zB (zdh (zcR m) Da)
 rw[zkn hm hs,hf];unfold mN;omega
theorem zh7 {m:List Int} (hm:zd m=m) {s:Nat} (h:s<m.length) (hn:m[s]∉m.take s):m[s]=(mN m s:Nat):=by
 have h1:=(zfP hm (L:=s+1) (x:=m[s]) (zc1 Ko Ko));rw[zjr h,if_neg hn] at h1
 have h3: ∀i:Nat,i<mN m s→(i:Int)∈m.take s:=fun i hi=>by
  have e1:(zl (m.take s))[i]'hi∈m.take s:=(zK _).1 (Me hi)
  have e2:(zl (m.take s))[i]'hi=(i:Nat):=by
   obtain⟨X,eX⟩:=zmF m s;have Da:i< (zl m).length:=by rw[eX,Ve];unfold mN at hi;omega
   have e3:(zl m)[i]=(zl (m.take s))[i]'hi:=by
    have:(zl (m.take s)++X)[i]'(by rw[Ve];unfold mN at hi;omega)=(zl (m.take s))[i]'hi:=Ag hi;rw[←this];simp only[eX]
   obtain⟨t,ht,et⟩:=Ue (Li e1);rw[←et,zkn hm ht,et,←e3];exact zB (zdh (zcR m) Da)
  rw[e2] at e1;exact e1
 obtain⟨v,hv⟩:=Dg h1.1;have: ¬v<mN m s:=fun J2=>hn (by rw[hv];exact h3 v J2);omega
theorem zaM {m:List Int} {s:Nat} (h:s<m.length):atL m (s:Nat)=m[s]:=by
 rw[zL (by rw[Yf];exact h)];simp only[Yf]
theorem zmG: ∀ {ts W:List Int},(∀t∈ts,t∈W)→addN W ts=W
 | [],W,_=>rfl
 |t::ts,W,h=>by
  rw[zdo];have:add1 W t=W:=by unfold add1;rw[if_pos (h t (Jh ..))]
  rw[this];exact zmG fun x hx=>h x (Oh _ hx)
theorem zko {m:List Int} (hm:zd m=m): ∀ (ts:List Int) {L L2:Nat},L2≤m.length→addN (zau L) ts=zau L2→L≤L2∧addN (zau (mN m L)) (ts.map (atL m))=zau (mN m L2)
 | [],L,L2,_,h=>by
  have:L=L2:=by have:=congrArg Ji h;rw[zga,za2,za2] at this;exact this
  subst this;exact⟨Qe _,rfl⟩
 |t::ts,L,L2,h2,h=>by
  rw[zdo] at h;rw[List.map_cons,zdo];by_cases ht:t∈zau L
  ·have e1:add1 (zau L) t=zau L:=by unfold add1;rw[if_pos ht]
   rw[e1] at h;obtain⟨g1,g2⟩:=zko hm ts h2 h;have hb:=zdr.1 ht;obtain⟨s,rfl⟩:=Dg hb.1;have hs:s<m.length:=by omega
   have e2:add1 (zau (mN m L)) (atL m (s:Nat))=zau (mN m L):=by
    unfold add1;rw[if_pos];rw[zaM hs];exact zdr.2 (zfP hm (zc1 Ko Ko))
   rw[e2];exact⟨g1,g2⟩
  ·have e1:add1 (zau L) t=zau L++[t]:=by unfold add1;rw[if_neg ht]
   rw[e1] at h;obtain⟨X,eX⟩:=zgb ts (zau L++[t]);rw[eX] at h;obtain⟨g1,g2⟩:=zoL h;rw[Ve,za2,Bg] at g1 g2;rw[g1] at eX h;have hL:L<m.length:=by omega
   rw[zmE] at g1
   have htL:t=(L:Nat):=by
    have:=List.append_cancel_left g1;simpa using this
   rw[h] at eX;obtain⟨k1,k2⟩:=zko hm ts h2 eX;refine⟨by omega,?_⟩;subst htL
   have e2:add1 (zau (mN m L)) (atL m (L:Nat))=zau (mN m (L+1)):=by
    rw[zaM hL,zjr hL];unfold add1;by_cases T1:m[L]∈m.take L
    ·rw[if_pos (zdr.2 (zfP hm T1)),if_pos T1];rfl
    ·rw[if_neg T1,zmE,if_neg,zh7 hm hL T1];intro hc;have:=zdr.1 hc;rw[zh7 hm hL T1] at this;omega
   rw[e2];exact k2
theorem zlc {d:DfaT} (hr:zaj d=zau d.label.length) {j:Nat} (hj:j≤d.label.length): ∃L,L≤d.label.length∧(j<d.label.length→j<L)∧bw (zJ d) [0] j=zau L:=by
 have hw:bw (zJ d) [0] d.label.length=zau d.label.length:=hr;obtain⟨X,eX⟩:=zfO (zJ d) [0] j (d.label.length - j);rw[Oi hj,hw] at eX;obtain⟨g1,g2⟩:=zoL eX.symm;refine⟨_,g2,fun J2=>?_,g1⟩;apply Zg;intro hn;have:=zeN (on:=zJ d) (W0:=[0]) (i:=j) Ko (d.label.length - j);rw[Oi hj,hw] at this;have h2:=congrArg Ji this;rw[za2] at h2;omega
theorem zmH {d:DfaT} {m:List Int} (hm:zd m=m) {i s:Nat} (hi:i< (zv m).length) (he:(zv m)[i]=(s:Nat)) (hs:s<d.next.length):zJ (ofD d m) (i:Nat)=d.next[s].map (atL m):=by
 unfold zJ;rw[Yf,Fg];show(((zv m).map fun s=>zdk d m s.toNat)[i]?).getD []=_;rw[List.getElem?_map,Xe hi];show zdk d m (zv m)[i].toNat=_;rw[he];unfold zdk;rw[Yf,Fg,Xe hs,hm];rfl
theorem zqA (m:List Int):mN m 0=0:=by unfold mN;rw[Se];rfl
theorem zue (m:List Int):mN m m.length=(zl m).length:=by unfold mN;rw[Te]
theorem zsc {d:DfaT} (hr:zaj d=zau d.label.length) {m:List Int} (hm:zd m=m) (N1:zaY d m):zaj (ofD d m)=zau (zl m).length:=by
 obtain⟨K0,X4,_⟩:=id N1;have Y2:=K0.1;have U2:=K0.2.2.1
 have key: ∀j,j≤d.label.length→ ∃L,L≤d.label.length∧(j<d.label.length→j<L)∧bw (zJ d) [0] j=zau L∧bw (zJ (ofD d m)) [0] (mN m j)=zau (mN m L):=fun j=>by
  induction j with
  |zero=>
   intro _;obtain⟨L,g1,g2,g3⟩:=zlc hr (Pg _);refine⟨L,g1,g2,g3,?_⟩;have hL:L=1:=by have:=congrArg Ji g3;rw[za2] at this;exact this.symm
   subst hL;rw[zqA,zjr (show 0<m.length by omega),zqA,if_neg (by rw[Se];exact Pi)];rfl
  |succ j ih=>
   intro hj;obtain⟨L,g1,g2,g3,g4⟩:=ih Ko;obtain⟨L',k1,k2,k3⟩:=zlc hr hj;have hjL:j<L:=g2 Ko;have Z9:j<m.length:=by omega
   have hjn:j<d.next.length:=by omega
   refine⟨L',k1,k2,k3,?_⟩;have X1:j< (bw (zJ d) [0] j).length:=by rw[g3,za2];exact hjL
   have E6:(bw (zJ d) [0] j)[j]'X1=(j:Nat):=by simp only[g3];exact zb8 hjL
   have Q9:addN (zau L) d.next[j]=zau L':=by
    rw[←k3,zc3 X1,E6,zas hjn,g3]
   obtain⟨hLL,hadd⟩:=zko hm d.next[j] Ko Q9;rw[zjr Z9];by_cases T1:m[j]∈m.take j
   ·rw[if_pos T1,Mi,g4];obtain⟨j0,X2,e0⟩:=(zaQ Z9).1 T1;have hj0m:j0<m.length:=by omega
    obtain⟨_,D3,hsr⟩:=zlb N1 hj0m Z9 Ko Ko Ko hjn e0
    have R4: ∀t∈d.next[j].map (atL m),t∈zau (mN m L):=fun t ht=>by
     obtain⟨x,hx,rfl⟩:=List.mem_map.1 ht;obtain⟨k,hk,rfl⟩:=Ue hx;have hk0:k<d.next[j0].length:=by omega
     have e:=hsr k hk0;rw[hm] at e;rw[←e]
     have hj0len:j0< (bw (zJ d) [0] j0).length:=by
      obtain⟨L0,_,a2,a3⟩:=zlc hr (show j0≤d.label.length by omega);rw[a3,za2];exact a2 Ko
     have hin2:d.next[j0][k]∈bw (zJ d) [0] (j0+1):=by
      rw[zc3 hj0len]
      have hg0:(bw (zJ d) [0] j0)[j0]'hj0len=(j0:Nat):=by
       obtain⟨L0,_,a2,a3⟩:=zlc hr (show j0≤d.label.length by omega);simp only[a3];exact zb8 (a2 Ko)
      rw[hg0,zas Ko];exact zh1.2 (.inr (Me hk0))
     obtain⟨Y,eY⟩:=zfO (zJ d) [0] (j0+1) (j - (j0+1));rw[Oi Ko,g3] at eY;have hin3:d.next[j0][k]∈zau L:=by rw[eY];exact List.mem_append_left _ hin2
     obtain⟨p0,p1⟩:=zdr.1 hin3;obtain⟨v,hv⟩:=Dg p0;rw[hv] at p1⊢;rw[zaM (show v<m.length by omega)];exact zdr.2 (zfP hm (zc1 Ko Ko))
    rw[zmG R4] at hadd;exact hadd
   ·rw[if_neg T1];obtain⟨q1,q2⟩:=zmD Z9 T1;have W4:=zh7 hm Z9 T1
    have J2:mN m j<mN m L:=by
     have:=zfP hm (L:=L) (zc1 hjL Ko:m[j]∈m.take L);rw[W4] at this;omega
    have hlen2:mN m j< (bw (zJ (ofD d m)) [0] (mN m j)).length:=by rw[g4,za2];exact J2
    have Pc:(bw (zJ (ofD d m)) [0] (mN m j))[mN m j]'hlen2=(mN m j:Nat):=by simp only[g4];exact zb8 J2
    have hq:zJ (ofD d m) (mN m j:Nat)=d.next[j].map (atL m):=zmH hm q1 q2 hjn;rw[zc3 hlen2,Pc,hq,g4];exact hadd
 obtain⟨L,g1,_,g3,g4⟩:=key d.label.length (Qe _)
 have hL:L=d.label.length:=by
  have hw:bw (zJ d) [0] d.label.length=zau d.label.length:=hr;rw[hw] at g3;have:=congrArg Ji g3;rw[za2,za2] at this;exact this.symm
 subst hL;rw[←X4,zue] at g4;show bw (zJ (ofD d m)) [0] (ofD d m).label.length=_;rw[zhl];exact g4
theorem zmI {d:DfaT} (h:d.next.length=d.label.length) {s t:Nat} (hs:s<d.label.length) (ht:t<d.label.length):atL (lvl d 0) (s:Nat)=atL (lvl d 0) (t:Nat)↔atL d.label (s:Nat)=atL d.label (t:Nat):=by
 rw[zaM (by rw[zP h];omega),zaM (by rw[zP h];omega),zaM hs,zaM ht];exact zf7 h hs ht
theorem zmJ {d:DfaT} (h:d.next.length=d.label.length) (i:Nat) {s t:Nat} (hs:s<d.label.length) (ht:t<d.label.length):atL (lvl d (i+1)) (s:Nat)=atL (lvl d (i+1)) (t:Nat)↔atL (lvl d i) (s:Nat)=atL (lvl d i) (t:Nat)∧ ∀c:Nat,c<d.width.toNat→atL (lvl d i) (atL (zJ d (s:Nat)) c)=atL (lvl d i) (atL (zJ d (t:Nat)) c):=by
 rw[zaM (by rw[zP h];omega),zaM (by rw[zP h];omega),zaM (by rw[zP h];omega),zaM (by rw[zP h];omega),zas Ko,zas Ko];exact zd3 h i Ko Ko
structure HomP (A B:DfaT) (f:Nat→Nat):Prop where
 w:A.width=B.width
 dom: ∀s:Nat,s<A.label.length→f s<B.label.length
 lab: ∀s:Nat,s<A.label.length→atL A.label (s:Nat)=atL B.label (f s:Nat)
 nxt: ∀s:Nat,s<A.label.length→ ∀k:Nat,k<A.width.toNat→ ∃t:Nat,t<A.label.length∧atL (zJ A (s:Nat)) k=(t:Nat)∧atL (zJ B (f s:Nat)) k=(f t:Nat)
theorem zjs {A B:DfaT} {f:Nat→Nat} (hA:A.next.length=A.label.length) (hB:B.next.length=B.label.length) (h:HomP A B f): ∀ (i:Nat) {s t:Nat},s<A.label.length→t<A.label.length→(atL (lvl A i) (s:Nat)=atL (lvl A i) (t:Nat)↔atL (lvl B i) (f s:Nat)=atL (lvl B i) (f t:Nat))
 |0,s,t,hs,ht=>by rw[zmI hA hs ht,zmI hB (h.dom s hs) (h.dom t ht),h.lab s hs,h.lab t ht]
 |i+1,s,t,hs,ht=>by
  rw[zmJ hA i hs ht,zmJ hB i (h.dom s hs) (h.dom t ht),zjs hA hB h i hs ht,h.w];refine and_congr Iff.rfl ?_;constructor
  ·intro g c hc;obtain⟨x,hx,e1,e2⟩:=h.nxt s hs c (by rw[h.w];exact hc);obtain⟨y,hy,e3,e4⟩:=h.nxt t ht c (by rw[h.w];exact hc);have:=g c hc;rw[e1,e3,zjs hA hB h i hx hy] at this;rw[e2,e4];exact this
  ·intro g c hc;obtain⟨x,hx,e1,e2⟩:=h.nxt s hs c (by rw[h.w];exact hc);obtain⟨y,hy,e3,e4⟩:=h.nxt t ht c (by rw[h.w];exact hc);have:=g c hc;rw[e2,e4,←zjs hA hB h i hx hy] at this;rw[e1,e3];exact this
theorem zl1 {l:List Int} (h:l.Nodup):zl l=l:=by
 induction l using zhK with
 |h0=>rfl
 |h1 l k ih=>
  rw[Gi] at h;obtain⟨h1,_,h3⟩:=h;rw[zaG,ih h1,if_neg fun hk=>h3 k hk k (List.mem_singleton.2 rfl) rfl]
theorem zld (n:Nat):(zau n).Nodup:=by
 rw[Ki,Qi];intro i j hi hj Z3;rw[za2] at hi hj;rw[zb8 hi,zb8 hj];omega
theorem zle {n:Nat} {x:Int} (h:0≤x∧x<n):zw (zau n) x=x:=ziX h
theorem zuf (n:Nat):zd (zau n)=zau n:=by
 unfold zd;rw[zl1 (zld n)];refine Tg (by rw[Be]) fun i h1 h2=>?_;rw[Le];exact zle (zdr.1 (Me _))
theorem zwd {l:List Int} (hn:zd l=l) (hd:l.Nodup):l=zau l.length:=by
 have hk: ∀s,s≤l.length→mN l s=s:=fun s=>by
  intro hs;unfold mN;rw[zl1 (List.Sublist.nodup (List.take_sublist _ _) hd),Ge];omega
 refine Tg (by rw[za2]) fun i h1 h2=>?_;rw[zb8 h1]
 have Ga:l[i]∉l.take i:=fun hm=>by
  obtain⟨j,hj,e⟩:=(zaQ h1).1 hm;have:=(List.getElem_inj hd).1 e;omega
 rw[zh7 hn h1 Ga,hk i Ko]
theorem zAh {d:DfaT} (K0:zg d):ofD d (zau d.label.length)=d:=by
 obtain⟨Y2,K2,U2,N3,X3,Y3,Y1⟩:=id K0
 have hh:zv (zau d.label.length)=zau d.label.length:=by
  unfold zv;rw[zl1 (zld _)];refine Tg (by rw[Be]) fun i h1 h2=>?_;rw[Le];exact zle (zdr.1 (Me _))
 refine DfaT.ext' rfl rfl ?_ ?_ rfl
 ·show(zv (zau d.label.length)).map _=_;rw[hh];refine Tg (by rw[Be,za2];omega) fun i h1 h2=>?_;rw[Le,zb8 Ko];unfold zdk;rw[Yf,Fg,Xe h2,zuf];show d.next[i].map _=_;refine(List.map_congr_left fun x hx=>?_).trans (List.map_id _);obtain⟨g1,g2⟩:=(Y1 i h2 Ko).2.2.2 x hx;obtain⟨v,rfl⟩:=Dg g1;rw[zaM (by rw[za2];omega)];exact zb8 Ko
 ·show(zv (zau d.label.length)).map _=_;rw[hh];refine Tg (by rw[Be,za2]) fun i h1 h2=>?_;rw[Le,zb8 h2,Yf,Fg,Xe h2];rfl
theorem zh8 {m:List Int} (hm:zd m=m) {s:Nat} (hs:s<m.length): ∃v:Nat,v< (zl m).length∧m[s]=(v:Nat):=by
 have h:=zfP hm (L:=m.length) (x:=m[s]) (by rw[Te];exact Me hs);rw[zue] at h;obtain⟨v,hv⟩:=Dg h.1;exact⟨v,by omega,hv⟩
theorem zkp {m:List Int} (hm:zd m=m) {p:Nat} (hp:p< (zl m).length): ∃ (x:Nat) (h:p< (zv m).length) (hx:x<m.length),(zv m)[p]=(x:Nat)∧m[x]=(p:Nat):=by
 have hph:p< (zv m).length:=by unfold zv;rwa [Be]
 obtain⟨x,h,hx,e3,e4,e5⟩:=zkl hph;refine⟨x,hph,hx,e3,?_⟩;rw[zkn hm hx,e5];exact zB (zdh (zcR m) h)
theorem zyZ {d:DfaT} {m:List Int} (hm:zd m=m) (N1:zaY d m):HomP d (ofD d m) (fun s=>(atL m (s:Nat)).toNat):=by
 obtain⟨K0,X4,_⟩:=id N1;obtain⟨Y2,K2,U2,N3,X3,Y3,Y1⟩:=id K0;refine⟨rfl,fun s hs=>?_,fun s hs=>?_,fun s hs k hk=>?_⟩
 ·obtain⟨v,hv,e⟩:=zh8 hm (show s<m.length by omega);rw[zaM Ko,e,zhl,Yf];exact hv
 ·obtain⟨v,hv,e⟩:=zh8 hm (show s<m.length by omega);have h:=zwb N1 (s:=s) Ko;rw[hm] at h;have e2:atL m (s:Nat)=(v:Nat):=by rw[zaM Ko,e]
  rw[e2] at h⊢;rw[Yf,h]
 ·obtain⟨v,hv,e⟩:=zh8 hm (show s<m.length by omega);have e2:atL m (s:Nat)=(v:Nat):=by rw[zaM Ko,e]
  obtain⟨x,hph,hx,e3,e4⟩:=zkp hm hv;have I1:s<d.next.length:=by omega
  have hxn:x<d.next.length:=by omega
  obtain⟨_,D3,hsr⟩:=zlb N1 (show s<m.length by omega) hx Ko Ko I1 hxn (by rw[e,e4]);obtain⟨w1,_,_,w4⟩:=Y1 s I1 Ko;have Q2:k<d.next[s].length:=by omega
  obtain⟨t0,t1⟩:=w4 _ (Me Q2);obtain⟨t,ht⟩:=Dg t0;refine⟨t,by omega,?_,?_⟩
  ·rw[zas I1,zaM Q2,ht]
  ·have hr:=hsr k Q2;rw[hm,ht] at hr;show atL (zJ (ofD d m) ((atL m (s:Nat)).toNat:Nat)) k=((atL m (t:Nat)).toNat:Nat);rw[e2,Yf,zmH hm hph e3 hxn];have hkx:k<d.next[x].length:=by omega
   rw[zaM (by rw[Be];exact hkx),Le,←hr];obtain⟨u,hu,eu⟩:=zh8 hm (show t<m.length by omega);rw[zaM (show t<m.length by omega),eu,Yf]
theorem zy0 {d:DfaT} (K0:zg d):zbC (ofD d (zbC d 65536)) 65536=zau (ofD d (zbC d 65536)).label.length:=by
 have N1:=zev K0;have e0:=zfN K0 65536;obtain⟨m,hmd⟩: ∃m,m=zbC d 65536:=⟨_,rfl⟩;rw[←hmd] at N1 e0⊢;have hm:zd m=m:=by rw[e0];exact zbL d 65536
 have X4:=N1.2.1;have hoS:=zkm N1;have hA:=K0.2.2.1;have hB:=hoS.2.2.1;have hh:=fun(x y:Nat) (hx:x<d.label.length) (hy:y<d.label.length)=>zjs hA hB (zyZ hm N1) 65536 (s:=x) (t:=y) hx hy;have X1:(lvl (ofD d m) 65536).length=(ofD d m).label.length:=by rw[zP hB,hB]
 rw[zfN hoS]
 have key:=zwd (zbL (ofD d m) 65536) (by
  rw[Ki,Qi];intro p q hp hq hpq e;have hp':=hp;have hq':=hq;rw[X1,zhl] at hp' hq';obtain⟨x,_,hx,_,ex⟩:=zkp hm hp';obtain⟨y,_,hy,_,ey⟩:=zkp hm hq';have h1:=hh x y Ko Ko;simp only[zaM hx,zaM hy,ex,ey,Yf] at h1;rw[zaM hp,zaM hq] at h1;have h2:=h1.2 e;rw[←e0,zaM hx,zaM hy,ex,ey] at h2;omega)
 rw[X1] at key;exact key
theorem zwe {d:DfaT} (K0:zg d):zaj (zW d)=zau (zW d).label.length:=by
 have h:=zr8 K0;have hl:(zW d).label.length=(zaj d).length:=(zfg d (zaj d)).2;rw[hl];exact h
theorem zee {d:DfaT} (K0:zg d):zg (zar d).1∧(zar d).2=0∧zar (zar d).1=((zar d).1,0)∧zbC (zar d).1 65536=zau (zar d).1.label.length∧(zar d).1.label.length=(zl (zbC (zW d) 65536)).length∧(zar d).1.label.length≤(zaj d).length:=by
 have B2:zg (zW d):=zh5 K0 (zdM K0);have N1:=zev B2;have haf:=zy0 B2;have hm:zd (zbC (zW d) 65536)=zbC (zW d) 65536:=by rw[zfN B2];exact zbL _ _
 have hqr:=zsc (zwe K0) hm N1;have hoS:=zkm N1;rw[zed K0];show zg (ofD (zW d) (zbC (zW d) 65536))∧(0 :Int)=0∧zar (ofD (zW d) (zbC (zW d) 65536))=(ofD (zW d) (zbC (zW d) 65536),0)∧_;have hl:=zhl (zW d) (zbC (zW d) 65536);refine⟨hoS,rfl,?_,haf,hl,?_⟩
 ·rw[zed hoS];obtain⟨S,hS⟩: ∃S,S=ofD (zW d) (zbC (zW d) 65536):=⟨_,rfl⟩;rw[←hS] at hoS haf hqr hl⊢
  have htr:zW S=S:=by
   unfold zW;rw[hqr,←hl];exact zxU hoS
  rw[htr,haf,zAh hoS]
 ·show(ofD (zW d) (zbC (zW d) 65536)).label.length≤_;rw[hl];have h1:=zZ (zbC (zW d) 65536);have h2:=N1.2.1;have h3:(zW d).label.length=(zaj d).length:=(zfg d (zaj d)).2;omega
end Go.Proofs.YtomdbjfdbkejoaaGreatDoor
namespace Go.Proofs.YtomdbjfdbkejoaaGreatDoor
open Go Go.V Go.Proofs
section all2
variable {R:Int→Int→Prop}
variable (hf: ∀x y y',R x y→R x y'→y=y') (hg: ∀x x' y,R x y→R x' y→x=x')
include hf hg
end all2
abbrev Tx:=List UInt8
def zcY (l:List Tx):Prop:=l.Pairwise fun a b=>a<b
def zeP:List Tx→Tx→List Tx
 | [],s=>[s]
 |x::l,s=>if x<s then x::zeP l s else s::x::l
def zeQ (l:List Tx) (s:Tx):List Tx:=if s∈l then l else zeP l s
theorem tri {a b:Tx} (h: ¬a<b) (h2: ¬b<a):a=b:=List.le_antisymm (List.not_lt.1 h2) (List.not_lt.1 h)
theorem zkq {x s:Tx}: ∀ {l:List Tx},x∈zeP l s↔x∈l∨x=s
 | []=>by simp [zeP]
 |y::l=>by
  unfold zeP;split
  ·rw[List.mem_cons,zkq,List.mem_cons];constructor
   ·rintro(h|h|h)
    ·exact .inl (.inl h)
    ·exact .inl (.inr h)
    ·exact .inr h
   ·rintro((h|h)|h)
    ·exact .inl h
    ·exact .inr (.inl h)
    ·exact .inr (.inr h)
  ·rw[List.mem_cons];constructor
   ·rintro(h|h)
    ·exact .inr h
    ·exact .inl h
   ·rintro(h|h)
    ·exact .inr h
    ·exact .inl h
theorem zx0 {x s:Tx} {l:List Tx}:x∈zeQ l s↔x∈l∨x=s:=by
 unfold zeQ;split
 ·rename_i h;constructor
  ·exact fun h=> .inl h
  ·rintro(h2|rfl)
   ·exact h2
   ·exact h
 ·exact zkq
theorem zjP {s:Tx}: ∀ {l:List Tx},zcY l→s∉l→zcY (zeP l s)
 | [],_,_=>List.pairwise_singleton _ _
 |y::l,h,hs=>by
  obtain⟨h1,h2⟩:=List.pairwise_cons.1 h;unfold zeP;split
  ·rename_i hys;refine List.pairwise_cons.2 ⟨fun x hx=>?_,zjP h2 fun h=>hs (Oh _ h)⟩;rcases zkq.1 hx with hx|rfl
   ·exact h1 x hx
   ·exact hys
  ·rename_i hys
   have hsy:s<y:=by
    by_cases h3:s<y
    ·exact h3
    ·exact absurd (tri h3 hys) fun e=>hs (e▸Jh)
   refine List.pairwise_cons.2 ⟨fun x hx=>?_,h⟩;rcases List.mem_cons.1 hx with rfl|hx
   ·exact hsy
   ·exact List.lt_trans hsy (h1 x hx)
theorem zsd {s:Tx} {l:List Tx} (h:zcY l):zcY (zeQ l s):=by
 unfold zeQ;split
 ·exact h
 ·rename_i hs;exact zjP h hs
theorem zqB {s:Tx}: ∀ (l:List Tx) (i:Nat),i≤l.length→(∀j (h:j<l.length),j<i→l[j] <s)→(∀h:i<l.length,¬l[i] <s)→zeP l s=l.take i++s::l.drop i
 | [],i,hi,_,_=>by
  obtain rfl:i=0:=by simpa using hi
  rfl
 |y::l,0,_,_,h2=>by
  have:=h2 (by simp);unfold zeP;rw[if_neg (by simpa using this)];rfl
 |y::l,i+1,hi,h1,h2=>by
  have h0:=h1 0 (by simp) Ko;unfold zeP;rw[if_pos (by simpa using h0),zqB l i (by simpa using hi) (fun j h hj=>h1 (j+1) (by simpa using h) Ko) fun h=>h2 (by simpa using h)];rfl
theorem zmK: ∀ {a b:List Tx},zcY a→zcY b→(∀x,x∈a↔x∈b)→a=b
 | [],[],_,_,_=>rfl
 | [],y::b,_,_,h=>absurd ((h y).2 Jh) Pi
 |x::a,[],_,_,h=>absurd ((h x).1 Jh) Pi
 |x::a,y::b,h1,h2,h=>by
  obtain⟨p1,p2⟩:=List.pairwise_cons.1 h1;obtain⟨q1,q2⟩:=List.pairwise_cons.1 h2
  have Z4:x=y:=by
   rcases List.mem_cons.1 ((h x).1 Jh) with e|hx
   ·exact e
   ·rcases List.mem_cons.1 ((h y).2 Jh) with e|hy
    ·exact e.symm
    ·exact absurd (q1 x hx) (List.lt_asymm (p1 y hy))
  subst Z4;rw[zmK p2 q2 fun z=>?_];constructor
  ·intro hz;rcases List.mem_cons.1 ((h z).1 (Oh _ hz)) with rfl|W6
   ·exact absurd (p1 z hz) (Ri z)
   ·exact W6
  ·intro hz;rcases List.mem_cons.1 ((h z).2 (Oh _ hz)) with rfl|W6
   ·exact absurd (q1 z hz) (Ri z)
   ·exact W6
theorem zcY.nodup {l:List Tx} (h:zcY l):l.Nodup:=List.Pairwise.imp (fun{a b} h e=>by subst e;exact Ri _ h) h
def zgN (l:List Tx):List Tx:=l.mergeSort fun x y=>decide (x≤y)
theorem zfh (l:List Tx):(zgN l).length=l.length:=List.length_mergeSort _
theorem zmL {x:Tx} {l:List Tx}:x∈zgN l↔x∈l:=List.mem_mergeSort
theorem zoM {l:List Tx} (h:l.Nodup):zcY (zgN l):=by
 have h1:(zgN l).Pairwise fun a b=>decide (a≤b)=true:=List.pairwise_mergeSort (fun a b c h1 h2=>by
  rw[decide_eq_true_eq] at h1 h2⊢;exact List.le_trans h1 h2) (fun a b=>by
  rw[Bool.or_eq_true,decide_eq_true_eq,decide_eq_true_eq];exact List.le_total a b) l
 have h2:(zgN l).Nodup:=(List.mergeSort_perm l _).nodup_iff.2 h;unfold zcY;refine List.Pairwise.imp₂ (fun a b h1 h2=>?_) h1 h2;rw[decide_eq_true_eq] at h1;by_cases h3:a<b
 ·exact h3
 ·exact absurd (List.le_antisymm h1 (List.not_lt.1 h3)) h2
theorem zwf (l:List Int) (x:Int) (X1:l.length≤2000000) {G:zb} {H:za} {R:Value→zb→za→Prop} {v:Value} (hv:Sl G (Yd .i64) v l) (hR:R (.int .i64 (zw l x)) G H):FnT Tryz.prog 125 [v, .int .i64 x] G H R:=by
 obtain⟨a,cap,rfl,U0,D5⟩:=hv;refine Ee tok kp8 Tryz.func125 rfl Kk Kk Kn fun M0=>?_;rw[Tryz.results125];have hE:=M0;try simp only[zzs] at hE
 repeat(obtain⟨J0,hE⟩:=hE)
 repeat' first
  |with_reducible first|refine Zd ?_ |refine Ae (fun _=>?_) fun _=>?_ |refine Nb fun nb A0 C0 B0=>?_
  |simp -dsimp -implicitDefEqProofs (disch:=first|exact Kd|fail) only[go_sem,↓reduceIte,seval]
 refine Je tok kp8 Kk [0,1,4,7,8] (fun n G' fr H'=> ∃i:Nat,i+n=l.length∧(∀j (h:j<l.length),j<i→l[j]≠x)∧G'=G∧H'=H∧fr=[(0, .slice a l.length cap),(1, .int .i64 x),(4, .int .i64 0),(7, .int .i64 l.length),(8, .int .i64 i)]) (l.length) (Ce ?_) ?_
 ·exact⟨0,by omega,fun j _ h=>by omega,rfl,rfl,rfl⟩
 ·rintro n G' fr H' S0 hs ⟨i,hi,B1,rfl,rfl,rfl⟩;by_cases Y0:i<l.length
  ·have B3:Adr a:=U0.adr (by rw[Be];omega)
   repeat' first
    |with_reducible first|refine Zd ?_ |refine Ae (fun _=>?_) fun _=>?_ |refine Nb fun nb A0 C0 B0=>?_
    |simp -dsimp -implicitDefEqProofs (disch:=first|exact Kd|fail) only[go_sem,↓reduceIte,seval,Ie U0,Le]
   ·rename_i he
    have hp:place l x=some i:=by
     unfold place;rw[Cf];exact⟨Y0,by simp [he],fun j hj=>by have:=B1 j Ko hj;simp;exact fun e=>this e.symm⟩
    rw[zB hp] at hR;all_goals refine De ?_ hR ?_
    any_goals first|exact Ks|skip
    rfl
   ·rename_i he
    exact Ce ⟨n - 1,by omega,i+1,by omega,fun j h hj=>by
     by_cases e:j=i
     ·subst e;exact fun e=>he e.symm
     ·exact B1 j h Ko,rfl,rfl,rfl⟩
  ·obtain rfl:i=l.length:=by omega
   have hp:place l x=none:=zbo fun hm=>by
    obtain⟨j,hj,e⟩:=Ue hm;exact B1 j hj hj e
   rw[zbp hp] at hR
   repeat' first
    |with_reducible first|refine Zd ?_ |refine Ae (fun _=>?_) fun _=>?_ |refine Nb fun nb A0 C0 B0=>?_
    |simp -dsimp -implicitDefEqProofs (disch:=first|exact Kd|fail) only[go_sem,↓reduceIte,seval]
   all_goals refine De ?_ hR ?_
   any_goals first|exact Ks|skip
   rfl
theorem zg5 (l:List Int) (x:Int) (X1:l.length≤2000000) {G:zb} {H:za} {R:Value→zb→za→Prop} {v:Value} (hv:Sl G (Yd .i64) v l) (hR:R (.bool (decide (x∈l))) G H):FnT Tryz.prog 98 [v, .int .i64 x] G H R:=by
 have Q8:=hv;obtain⟨a,cap,rfl,U0,D5⟩:=hv;refine Ee tok [0,1,4] Tryz.func98 rfl Kk Kk Kn fun M0=>?_;rw[Tryz.results98];have hE:=M0;try simp only[zzs] at hE
 repeat(obtain⟨J0,hE⟩:=hE)
 repeat' first
  |with_reducible first|refine Zd ?_ |refine Ae (fun _=>?_) fun _=>?_
  |simp -dsimp -implicitDefEqProofs (disch:=first|exact Kd|fail) only[go_sem,↓reduceIte,seval]
  |with_reducible refine zwf l x X1 Q8 ?_
 all_goals refine De ?_ hR ?_
 any_goals first|exact Ks|skip
 simp only[Value.bool.injEq];rw[Lf,decide_eq_true_eq,decide_eq_true_eq];constructor
 ·intro h;cases hp:place l x with
  |none=>rw[zbp hp] at h;omega
  |some n=>
   obtain⟨h1,h2⟩:=zaa hp;rw[Xe h1,Option.some.injEq] at h2;exact h2▸Me _
 ·intro h;obtain⟨n,hn⟩:=zaf h;rw[zB hn];omega
theorem zgO (l:List Tx) (x:Tx) (X1:l.length≤9000000) {G:zb} {H:za} {R:Value→zb→za→Prop} {v:Value} (hv:Sl G str v l) (hR:R (.int .i64 (zw l x)) G H):FnT Tryz.prog 109 [v,str x] G H R:=by
 obtain⟨a,cap,rfl,U0,D5⟩:=hv;refine Ee tok kp2 Tryz.func109 rfl Kk Kk Kn fun M0=>?_;rw[Tryz.results109];have hE:=M0;try simp only[zzs] at hE
 repeat(obtain⟨J0,hE⟩:=hE)
 repeat' first
  |with_reducible first|refine Zd ?_ |refine Ae (fun _=>?_) fun _=>?_ |refine Nb fun nb A0 C0 B0=>?_
  |simp -dsimp -implicitDefEqProofs (disch:=first|exact Kd|fail) only[go_sem,↓reduceIte,seval]
 refine Je tok kp2 Kk [0,1,4,5] (fun n G' fr H'=> ∃i:Nat,i+n=l.length∧(∀j (h:j<l.length),j<i→l[j]≠x)∧G'=G∧H'=H∧fr=[(0, .slice a l.length cap),(1,str x),(4, .int .i64 0),(5, .int .i64 i)]) (l.length) (Ce ?_) ?_
 ·exact⟨0,by omega,fun j _ h=>by omega,rfl,rfl,rfl⟩
 ·rintro n G' fr H' S0 hs ⟨i,hi,B1,rfl,rfl,rfl⟩;by_cases Y0:i<l.length
  ·have B3:Adr a:=U0.adr (by rw[Be];omega)
   repeat' first
    |with_reducible first|refine Zd ?_ |refine Ae (fun _=>?_) fun _=>?_ |refine Nb fun nb A0 C0 B0=>?_
    |simp -dsimp -implicitDefEqProofs (disch:=first|exact Kd|fail) only[go_sem,↓reduceIte,seval,Ie U0,Le]
   ·rename_i he
    have hp:place l x=some i:=by
     unfold place;rw[Cf];exact⟨Y0,by simp [he],fun j hj=>by have:=B1 j Ko hj;simp;exact fun e=>this e.symm⟩
    rw[zB hp] at hR;all_goals refine De ?_ hR ?_
    any_goals first|exact Ks|skip
    rfl
   ·rename_i he
    exact Ce ⟨n - 1,by omega,i+1,by omega,fun j h hj=>by
     by_cases e:j=i
     ·subst e;exact he
     ·exact B1 j h Ko,rfl,rfl,rfl⟩
  ·obtain rfl:i=l.length:=by omega
   have hp:place l x=none:=zbo fun hm=>by
    obtain⟨j,hj,e⟩:=Ue hm;exact B1 j hj hj e
   rw[zbp hp] at hR
   repeat' first
    |with_reducible first|refine Zd ?_ |refine Ae (fun _=>?_) fun _=>?_ |refine Nb fun nb A0 C0 B0=>?_
    |simp -dsimp -implicitDefEqProofs (disch:=first|exact Kd|fail) only[go_sem,↓reduceIte,seval]
   all_goals refine De ?_ hR ?_
   any_goals first|exact Ks|skip
   rfl
theorem zgP {α:Type} [DecidableEq α] {l:List α} {x:α}:0≤zw l x↔x∈l:=by
 constructor
 ·intro h;cases hp:place l x with
  |none=>rw[zbp hp] at h;omega
  |some n=>
   obtain⟨h1,h2⟩:=zaa hp;rw[Xe h1,Option.some.injEq] at h2;exact h2▸Me _
 ·intro h;obtain⟨n,hn⟩:=zaf h;rw[zB hn];omega
theorem zx1 (l : List Tx) (s : Tx) (X1 : l.length ≤ 9000000) {G : zb} {H : za} {R : Value → zb → za → Prop} {v : Value} (hv : Sl G str v l)
    (hR: ∀G' v',PLe G G'→Sep G' (zm H)→Sl G' str v' (zeQ l s)→R v' G' H):FnT Tryz.prog 110 [v,str s] G H R:=by
  have Q8:=hv;obtain⟨a,cap,rfl,U0,D5⟩:=hv;refine Zf ?_;by_cases hm:s∈l
  · have e:zeQ l s=l:=by unfold zeQ;rw[if_pos hm]
    rw[e] at hR;have hf:=zgP.2 hm;refine Ee tok zv4 Tryz.func110 rfl Kk Kk Kn fun M0=>?_;rw[Tryz.results110];have hE:=M0;try simp only[zzs] at hE
    repeat(obtain⟨J0,hE⟩:=hE)
    repeat' first
      |with_reducible first|refine Zd ?_ |refine Ae (fun _=>?_) fun _=>?_ |refine Nb fun nb A0 C0 B0=>?_ |refine Nr fun nb D0 E0 A0 I0 C0 B0=>?_
      |simp -dsimp -implicitDefEqProofs (disch:=first|exact Kd|fail) only[go_sem,↓reduceIte,seval]
      |with_reducible refine zgO l s Ko Q8 ?_
    all_goals try(exfalso;omega)
    unfold zo;refine Xf (H':=H) Ks ?_;exact fun _ hs=>hR G _ (PLe.refl _) hs Q8
  · have e:zeQ l s=zeP l s:=by unfold zeQ;rw[if_neg hm]
    rw[e] at hR;have hf: ¬0≤zw l s:=fun h=>hm (zgP.1 h);refine Ee tok zv4 Tryz.func110 rfl Kk Kk Kn fun M0=>?_;rw[Tryz.results110];have hE:=M0;try simp only[zzs] at hE
    repeat(obtain⟨J0,hE⟩:=hE)
    repeat' first
      |with_reducible first|refine Zd ?_ |refine Ae (fun _=>?_) fun _=>?_ |refine Nb fun nb A0 C0 B0=>?_ |refine Nr fun nb D0 E0 A0 I0 C0 B0=>?_
      |simp -dsimp -implicitDefEqProofs (disch:=first|exact Kd|fail) only[go_sem,↓reduceIte,seval]
      |with_reducible refine zgO l s Ko Q8 ?_
    all_goals try(exfalso;omega)
    refine Je tok zv4 Kk [0,1,4,5,6] (fun q G' fr H'=> ∃ (i br cr:Nat) (sp:List Value),i+q=l.length∧G'=G∧i+sp.length=cr∧(∀j (h:j<l.length),j<i→l[j] <s)∧H'=(br, .cells ((l.take i).map str) sp 9)::H∧fr=[(0, .slice a l.length cap),(1,str s),(4, .slice none 0 0),(5, .slice (some ⟨br,0,none⟩) i cr),(6, .int .i64 (i:Nat))]) (l.length) ?_ ?_
    · exact Ce ⟨0,nb,0,[],by omega,rfl,rfl,fun j _ h=>by omega,rfl,rfl⟩
    · rintro q G1 fr H' S0 hs ⟨i,br,cr,sp,Q5,rfl,Ja,J2,rfl,rfl⟩;have hE:=hs;try simp only[zzs] at hE
      repeat(obtain⟨J0,hE⟩:=hE)
      have L3:((l.take i).map str).length=i:=by rw[Be,Ge];omega
      have L6:Row G1 (zbn a i cap i) ((l.drop i).map str):=by
        have:=U0.drop (l:=i) (m:=cap) (s:=1) (fun e=>by rw[Be];omega);rw[Gg,←List.map_drop] at this;exact this
      have hrd:=Row.rdSlAll (n:=l.length - i) L6 (by rw[Be,Of]);have E7:((l.drop i).map str).length=l.length - i:=by rw[Be,Of]
      have htl1:((l.take i).map str++[str s]).length=i+1:=by rw[Ve,L3];rfl
      have hblt: ∀x:Tx,Op.bytesLess x s=decide (x<s):=fun x=>bytesLess_eq x s;have J5:(∀h:i<l.length,¬l[i] <s)→ ∀G' v',PLe G1 G'→Sep G' (zm H)→Sl G' str v' (l.take i++s::l.drop i)→R v' G' H:=fun h G' v' h1 h2 h3=>hR G' v' h1 h2 (by rw[zqB l i Ko J2 h];exact h3);by_cases Y0:i<l.length
      · have B3:Adr a:=U0.adr (by rw[Be];omega);by_cases P8:l[i] <s
        · repeat' first
            |with_reducible first|refine Zd ?_ |refine Ae (fun _=>?_) fun _=>?_ |refine Nb fun nb A0 C0 B0=>?_ |refine Nr fun nb D0 E0 A0 I0 C0 B0=>?_
            |simp -dsimp -implicitDefEqProofs (disch:=first|exact Kd|fail) only[go_sem,↓reduceIte,seval,Ie U0,Le,hblt,decide_eq_true P8,Zh,L3,htl1,hrd,E7]
          have M2:(l.take i).map str++[str l[i]]=(l.take (i+1)).map str:=by rw[Re Y0,Ke];rfl
          rw[M2];refine Xf (H':=(nb, .cells ((l.take (i+1)).map str) D0 9)::H) Ks ?_
          exact⟨q - 1,by omega,i+1,nb,E0,D0,by omega,rfl,by simp at I0;omega,fun j h hj=>by
            by_cases e:j=i
            · subst e;exact P8
            · exact J2 j h Ko,rfl,rfl⟩
        · repeat' first
            |with_reducible first|refine Zd ?_ |refine Ae (fun _=>?_) fun _=>?_ |refine Nb fun nb A0 C0 B0=>?_ |refine Nr fun nb D0 E0 A0 I0 C0 B0=>?_
            |simp -dsimp -implicitDefEqProofs (disch:=first|exact Kd|fail) only[go_sem,↓reduceIte,seval,Ie U0,Le,hblt,decide_eq_false P8,Zh,L3,htl1,hrd,E7]
          all_goals try(exfalso;omega)
          all_goals (
            unfold zo
            first
              | (refine Oe (H':=(nb, .cells ((l.take i).map str++[str s]++(l.drop i).map str) D0 9)::H) Ks (Jf Ka fun G9 X5 P6 S6=>?_)
                 exact fun _ hs=>J5 (fun _=>P8) G9 _ X5 hs ⟨some ⟨nb,0,none⟩,E0,(by congr 1;simp;omega),by simpa using S6,by simp at I0⊢;omega⟩)
              | (refine Oe (H':=(nb, .cells ((l.take i).map str++[str s]) D0 9)::H) Ks (Jf Ka fun G9 X5 P6 S6=>?_)
                 have hd0:l.drop i=[]:=Gf Ko;exact fun _ hs=>J5 (fun _=>P8) G9 _ X5 hs ⟨some ⟨nb,0,none⟩,E0,(by congr 1;simp;omega),by rw[hd0];simpa using S6,by simp at I0⊢;omega⟩))
      · obtain rfl:i=l.length:=by omega
        have hrd0:=Row.rdSlAll (n:=0) (Row.nil G1 (zbn a l.length cap l.length)) rfl
        repeat' first
          |with_reducible first|refine Zd ?_ |refine Ae (fun _=>?_) fun _=>?_ |refine Nb fun nb A0 C0 B0=>?_ |refine Nr fun nb D0 E0 A0 I0 C0 B0=>?_
          |simp -dsimp -implicitDefEqProofs (disch:=first|exact Kd|fail) only[go_sem,↓reduceIte,seval,Zh,L3,htl1,hrd0,Og,Mi]
        all_goals try(exfalso;omega)
        all_goals (
          unfold zo
          first
            | (refine Oe (H':=(nb, .cells ((l.take l.length).map str++[str s]++(l.drop l.length).map str) D0 9)::H) Ks (Jf Ka fun G9 X5 P6 S6=>?_)
               exact fun _ hs=>J5 (fun h=>absurd h Y0) G9 _ X5 hs ⟨some ⟨nb,0,none⟩,E0,(by congr 1;simp),by simpa using S6,by simp at I0⊢;omega⟩)
            | (refine Oe (H':=(nb, .cells ((l.take l.length).map str++[str s]) D0 9)::H) Ks (Jf Ka fun G9 X5 P6 S6=>?_)
               have hd0:l.drop l.length=[]:=Gf Ko;exact fun _ hs=>J5 (fun h=>absurd h Y0) G9 _ X5 hs ⟨some ⟨nb,0,none⟩,E0,(by congr 1;simp),by rw[hd0];simpa using S6,by simp at I0⊢;omega⟩))
def zds (d:DfaT) (k:Nat):List Tx:=(d.label.take k).foldl (fun l x=>if 0<x then zeQ l (zcU d x) else l) []
theorem ze4 {d:DfaT} {k:Nat} (h:k<d.label.length):zds d (k+1)=if 0<d.label[k] then zeQ (zds d k) (zcU d d.label[k]) else zds d k:=by
 unfold zds;rw[Re h,List.foldl_append,List.foldl_cons,List.foldl_nil]
def zct (d:DfaT) (k:Nat):List Tx:=((Hg k).filter fun i:Nat=>decide ((((i:Nat):Int)+1)∈d.label)).map fun i=>d.names.getD i []
def zbJ (d:DfaT):List Tx:=zgN (zct d d.names.length)
theorem zse {d:DfaT} {k:Nat} (h:k<d.names.length):zct d (k+1)=if ((k:Int)+1)∈d.label then zct d k++[d.names[k]] else zct d k:=by
 unfold zct;rw[Sf,List.filter_append,Ke];by_cases hk:((k:Int)+1)∈d.label
 ·rw[if_pos hk,List.filter_cons_of_pos (by simpa using hk),List.filter_nil,List.map_singleton,Fg,Xe h];rfl
 ·rw[if_neg hk,List.filter_cons_of_neg (by simpa using hk),List.filter_nil,List.map_nil,Bf]
theorem zmM (d:DfaT) (k:Nat):(zct d k).length≤k:=by
 unfold zct;rw[Be];exact Nat.le_trans (List.length_filter_le _ _) (by rw[Qh];exact Qe _)
theorem zh9 {d:DfaT} {x:Tx}: ∀k,k≤d.label.length→(x∈zds d k↔ ∃i,∃h:i<d.label.length,i<k∧0<d.label[i]∧x=zcU d d.label[i])
 |0,_=>by
  constructor
  ·intro h;cases h
  ·rintro⟨i,_,h,_⟩;omega
 |k+1,hk=>by
  rw[ze4 Ko];have ih:=zh9 (d:=d) (x:=x) k Ko;by_cases h0:0<d.label[k]
  ·rw[if_pos h0,zx0,ih];constructor
   ·rintro(⟨i,h1,h2,h3,h4⟩|h)
    ·exact⟨i,h1,by omega,h3,h4⟩
    ·exact⟨k,by omega,by omega,h0,h⟩
   ·rintro⟨i,h1,h2,h3,h4⟩;by_cases e:i=k
    ·subst e;exact .inr h4
    ·exact .inl ⟨i,h1,by omega,h3,h4⟩
  ·rw[if_neg h0,ih];constructor
   ·rintro⟨i,h1,h2,h3,h4⟩;exact⟨i,h1,by omega,h3,h4⟩
   ·rintro⟨i,h1,h2,h3,h4⟩;by_cases e:i=k
    ·subst e;exact absurd h3 h0
    ·exact⟨i,h1,by omega,h3,h4⟩
theorem zdT (d:DfaT): ∀k,k≤d.label.length→zcY (zds d k)
 |0,_=>List.Pairwise.nil
 |k+1,hk=>by
  rw[ze4 Ko];split
  ·exact zsd (zdT d k Ko)
  ·exact zdT d k Ko
theorem zpV {d:DfaT} (K0:zg d):d.names.Nodup:=by
 obtain⟨_,h⟩:=K0.2.2.2.2.2.1;rw[Ki,Qi];intro i j hi hj Z3 e;refine(h j hj).2 ?_;rw[←e,List.mem_take_iff_getElem];exact⟨i,by omega,rfl⟩
theorem zpW {d:DfaT} (K0:zg d):(zct d d.names.length).Nodup:=by
 unfold zct;have hn:=zpV K0;rw[Ki,List.pairwise_map];have h1:((Hg d.names.length).filter fun i:Nat=>decide ((((i:Nat):Int)+1)∈d.label)).Nodup:=List.nodup_range.filter _;rw[Ki] at h1;refine List.Pairwise.imp_of_mem (fun{a b} ha hb P3 e=>?_) h1;have ha':=List.mem_range.1 (List.mem_filter.1 ha).1;have hb':=List.mem_range.1 (List.mem_filter.1 hb).1;rw[Fg,Fg,Xe ha',Xe hb'] at e;exact P3 ((List.getElem_inj hn).1 e)
theorem zeR {d:DfaT} {k:Nat} (h:k<d.names.length):zcU d ((k:Int)+1)=d.names[k]:=by
 unfold zcU;rw[if_pos Ko,show(((k:Int)+1) - 1).toNat=k by omega,Fg,Xe h];rfl
theorem zl2 {d:DfaT} (K0:zg d):zds d d.label.length=zbJ d:=by
 refine zmK (zdT d _ (Qe _)) (zoM (zpW K0)) fun x=>?_;rw[zh9 _ (Qe _)];unfold zbJ;rw[zmL];unfold zct;rw[List.mem_map];obtain⟨Y2,K2,U2,N3,X3,Y3,Y1⟩:=K0;constructor
 ·rintro⟨i,h1,_,h3,rfl⟩;obtain⟨_,w2,w3,_⟩:=Y1 i Ko h1;obtain⟨n,hn⟩: ∃n:Nat,d.label[i]=(n:Int)+1:=⟨(d.label[i] - 1).toNat,by omega⟩;have C1:n<d.names.length:=by omega
  refine⟨n,List.mem_filter.2 ⟨List.mem_range.2 C1,by rw[decide_eq_true_eq,←hn];exact Me _⟩,?_⟩;rw[hn,zeR C1,Fg,Xe C1];rfl
 ·rintro⟨n,hn,rfl⟩;obtain⟨h1,h2⟩:=List.mem_filter.1 hn;have C1:=List.mem_range.1 h1;rw[decide_eq_true_eq] at h2;obtain⟨i,hi,e⟩:=Ue h2;refine⟨i,hi,hi,by rw[e];omega,?_⟩;rw[e,zeR C1,Fg,Xe C1];rfl
theorem ziY (d:DfaT):(zbJ d).length≤d.names.length:=by unfold zbJ;rw[zfh];exact zmM d _
noncomputable def zdG (d:DfaT):List Tx:=if zaz (zg d)=true then zbJ d else[]
theorem zgi {d:DfaT} (h:zg d):zdG d=zbJ d:=by unfold zdG;rw[if_pos (zA h)]
theorem zmN {d:DfaT} (h: ¬zg d):zdG d=[]:=by unfold zdG;rw[if_neg (by rw[zu h];decide)]
theorem zug (d:DfaT):(zdG d).length≤d.names.length:=by
 unfold zdG;split
 ·exact ziY d
 ·exact Pg _
theorem zmO {d:DfaT} {x:Tx} (h:x∈zdG d):x∈d.names:=by
 unfold zdG at h;split at h
 ·have h:=zmL.1 h;unfold zct at h;obtain⟨n,hn,rfl⟩:=List.mem_map.1 h;have C1:=List.mem_range.1 (List.mem_filter.1 hn).1;rw[Fg,Xe C1];exact Me _
 ·cases h
def zm8:Go.Shelf.Ren:=⟨fun|190=>99|125=>127|258=>126|128=>156|129=>157|302=>147|303=>148|304=>149|305=>150|306=>151|307=>152|308=>153|309=>154|310=>155|333=>164|329=>165|330=>166|334=>167|335=>168|336=>169|344=>172|n=>n,fun|31=>25|9=>9|3=>3|46=>86|0=>0|51=>32|53=>99|4=>4|183=>172|182=>171|131=>177|5=>5|218=>190|222=>194|228=>198|229=>199|n=>n,fun n=>n⟩
theorem zmP:Lays.n190 Tryz.prog zm8 where
 mixed:=by kernel_rfl
 f125:=Tryz.func127.trans (congrArg some Kk)
 f128:=Tryz.func156.trans (congrArg some Kk)
 f129:=Tryz.func157.trans (congrArg some Kk)
 f190:=Tryz.func99.trans (congrArg some Kk)
 f258:=Tryz.func126.trans (congrArg some Kk)
 f302:=Tryz.func147.trans (congrArg some Kk)
 f303:=Tryz.func148.trans (congrArg some Kk)
 f304:=Tryz.func149.trans (congrArg some Kk)
 f305:=Tryz.func150.trans (congrArg some Kk)
 f306:=Tryz.func151.trans (congrArg some Kk)
 f307:=Tryz.func152.trans (congrArg some Kk)
 f308:=Tryz.func153.trans (congrArg some Kk)
 f309:=Tryz.func154.trans (congrArg some Kk)
 f310:=Tryz.func155.trans (congrArg some Kk)
 f329:=Tryz.func165.trans (congrArg some Kk)
 f330:=Tryz.func166.trans (congrArg some Kk)
 f333:=Tryz.func164.trans (congrArg some Kk)
 f334:=Tryz.func167.trans (congrArg some Kk)
 f335:=Tryz.func168.trans (congrArg some Kk)
 f336:=Tryz.func169.trans (congrArg some Kk)
 f344:=Tryz.func172.trans (congrArg some Kk)
 t0:=Tryz.underlying0
 a0:=Tryz.isAgg0
 z0:=Tryz.sizeOf0
 v0:=Tryz.zeroValue0
 t3:=Tryz.underlying3
 a3:=Tryz.isAgg3
 z3:=Tryz.sizeOf3
 v3:=Tryz.zeroValue3
 t4:=Tryz.underlying4
 a4:=Tryz.isAgg4
 z4:=Tryz.sizeOf4
 v4:=Tryz.zeroValue4
 t5:=Tryz.underlying5
 a5:=Tryz.isAgg5
 z5:=Tryz.sizeOf5
 v5:=Tryz.zeroValue5
 t9:=Tryz.underlying9
 a9:=Tryz.isAgg9
 z9:=Tryz.sizeOf9
 v9:=Tryz.zeroValue9
 t31:=Tryz.underlying25
 a31:=Tryz.isAgg25
 z31:=Tryz.sizeOf25
 v31:=Tryz.zeroValue25
 t46:=Tryz.underlying86
 a46:=Tryz.isAgg86
 z46:=Tryz.sizeOf86
 v46:=Tryz.zeroValue86
 t51:=Tryz.underlying32
 a51:=Tryz.isAgg32
 z51:=Tryz.sizeOf32
 v51:=Tryz.zeroValue32
 t53:=Tryz.underlying99
 a53:=Tryz.isAgg99
 z53:=Tryz.sizeOf99
 v53:=Tryz.zeroValue99
 t131:=Tryz.underlying177
 a131:=Tryz.isAgg177
 z131:=Tryz.sizeOf177
 v131:=Tryz.zeroValue177
 t182:=Tryz.underlying171
 a182:=Tryz.isAgg171
 z182:=Tryz.sizeOf171
 v182:=Tryz.zeroValue171
 t183:=Tryz.underlying172
 a183:=Tryz.isAgg172
 z183:=Tryz.sizeOf172
 v183:=Tryz.zeroValue172
 t218:=Tryz.underlying190
 a218:=Tryz.isAgg190
 z218:=Tryz.sizeOf190
 v218:=Tryz.zeroValue190
 t222:=Tryz.underlying194
 a222:=Tryz.isAgg194
 z222:=Tryz.sizeOf194
 v222:=Tryz.zeroValue194
 t228:=Tryz.underlying198
 a228:=Tryz.isAgg198
 z228:=Tryz.sizeOf198
 v228:=Tryz.zeroValue198
 t229:=Tryz.underlying199
 a229:=Tryz.isAgg199
 z229:=Tryz.sizeOf199
 v229:=Tryz.zeroValue199
theorem zjQ:V.Callee Tryz.prog 99:=⟨_,_,Tryz.func99,rfl,by kernel_rfl⟩
theorem zx2 {l:List Tx} (hl:l.length≤9000000) {b cap:Nat} {sp:List Value} {G:zb} {H:za} {R:Value→zb→za→Prop}
  (hR:R (.tuple #[]) G ((b, .cells ((zgN l).map str) sp 9)::H)):FnT Tryz.prog 99 [.slice (some ⟨b,0,none⟩) l.length cap] G ((b, .cells (l.map str) sp 9)::H) R:=
 FnT.sort zjQ (zfh l) (fun w hH hb=>Any.slices_Sort_string zmP b 0 cap l w hH hb Ko) hR
theorem zwg {a:Option Addr} {cap:Nat} {G:zb} {H:za} {R:Value→zb→za→Prop} (hR:R (.tuple #[]) G H):FnT Tryz.prog 99 [.slice a 0 cap] G H R:=
 FnT.sort0 zjQ (fun w=>Any.slices_Sort_string_none zmP a cap w) hR
theorem zuh {d:DfaT} (P0:zr d) {G:zb} {H:za} {R:Value→zb→za→Prop} {v:Value} (hv:IsD G d v)
  (hR: ∀G' v',PLe G G'→Sep G' (zm H)→Sl G' str v' (zdG d)→R v' G' H):FnT Tryz.prog 65 [v] G H R:=by
 obtain⟨C,an,al,ay,cn,cl,cs,rs,rfl,O⟩:=hv.opened;obtain⟨U3,M2,V3,A4,M4⟩:=id P0;have N0:=O.len;have T0:=O.all;have X0:=O.l;have S2:=O.s;refine Zf ?_;by_cases K0:zg d
 ·have hb:=zA K0;have hn64:=K0.2.2.2.2.2.1.1;rw[zgi K0] at hR;refine Ee tok zv5 Tryz.func65 rfl Kk Kk Kn fun M0=>?_;rw[Tryz.results65];have hE:=M0;try simp only[zzs] at hE
  repeat(obtain⟨J0,hE⟩:=hE)
  repeat' first
   |with_reducible first|refine Zd ?_ |refine Ae (fun _=>?_) fun _=>?_ |refine Nb fun nb A0 C0 B0=>?_ |refine Nr fun nb D0 E0 A0 I0 C0 B0=>?_
   |simp -dsimp -implicitDefEqProofs (disch:=first|exact Kd|fail) only[go_sem,↓reduceIte,seval, -He,Ye,N0,T0,X0,S2,hb]
   |with_reducible refine zaJ P0 O.is ?_
  obtain⟨b1,e0⟩: ∃x,x=nb:=⟨_,rfl⟩;subst e0;refine Je tok zv5 Kk [1,2,3,10,11,12] (fun q G' fr H'=> ∃ (i:Nat) (vs:Value) (ks:za),i+q=d.names.length∧G'=G∧zO [] 9 1 vs (zct d i).length ((zct d i).map str) ks∧H'=(b1, .cells C [] 27):: (ks++H)∧fr=[(1, .pointer (some ⟨b1,0,none⟩)),(2, .slice none 0 0),(3,vs),(10, .slice ay d.names.length cs),(11, .int .i64 d.names.length),(12, .int .i64 (i:Nat))]) (d.names.length) ?_ ?_
  ·exact Ce ⟨0,_,[],by omega,rfl, .inl ⟨none,rfl,rfl,rfl,rfl⟩,rfl,rfl⟩
  ·rintro q G1 fr H' S0 hs ⟨i,vs,ks,Q5,rfl,hks,rfl,rfl⟩;have T9:=zmM d i;by_cases Y0:i<d.names.length
   ·have B3:Adr ay:=O.ry.adr (by rw[Be];omega);have Y8:=zse Y0;by_cases T1:((i:Int)+1)∈d.label
    ·rw[if_pos T1] at Y8;have hdi:=decide_eq_true T1;rcases hks with ⟨aa,rfl,O7,hx,rfl⟩| ⟨bl,cc,sp,rfl,rfl,hx,V2⟩
     ·have hE:=hs;try simp only[zzs] at hE
      repeat(obtain⟨J0,hE⟩:=hE)
      repeat' first
       |with_reducible first|refine Zd ?_ |refine Ae (fun _=>?_) fun _=>?_ |refine Nb fun nb A0 C0 B0=>?_ |refine Nr fun nb D0 E0 A0 I0 C0 B0=>?_
       |simp -dsimp -implicitDefEqProofs (disch:=first|exact Kd|fail) only[go_sem,↓reduceIte,seval, -He,Ye,N0,T0,X0,S2,Ie O.ry,Le,Zh,hdi]
       |with_reducible refine zg5 d.label _ V3 O.label ?_
      refine Xf (H':=(b1, .cells C [] 27):: ([(nb, .cells [str d.names[i]] D0 9)]++H)) Ks ?_;exact⟨q - 1,by omega,i+1,_,_,by omega,rfl, .inr ⟨nb,E0,D0,by rw[Y8,Ve,O7];rfl,by rw[Y8,Ke,hx];rfl,by rw[Be,Gg],by rw[Y8,Ke,hx];simp at I0⊢;omega⟩,rfl,rfl⟩
     ·rw[Be,Gg] at hx V2;have hE:=hs;try simp only[zzs] at hE
      repeat(obtain⟨J0,hE⟩:=hE)
      repeat' first
       |with_reducible first|refine Zd ?_ |refine Ae (fun _=>?_) fun _=>?_ |refine Nb fun nb A0 C0 B0=>?_ |refine Nr fun nb D0 E0 A0 I0 C0 B0=>?_
       |simp -dsimp -implicitDefEqProofs (disch:=first|exact Kd|fail) only[go_sem,↓reduceIte,seval, -He,Ye,N0,T0,X0,S2,Ie O.ry,Le,Be,Zh,hdi]
       |with_reducible refine zg5 d.label _ V3 O.label ?_
      refine Xf (H':=(b1, .cells C [] 27):: ([(nb, .cells ((zct d i).map str++[str d.names[i]]) D0 9)]++H)) Ks ?_;exact⟨q - 1,by omega,i+1,_,_,by omega,rfl, .inr ⟨nb,E0,D0,by rw[Y8,Ve];rfl,by rw[Y8,Ke];rfl,by rw[Be,Gg],by rw[Y8];simp at I0⊢;omega⟩,rfl,rfl⟩
    ·rw[if_neg T1] at Y8;have hdi:=decide_eq_false T1;have hE:=hs;try simp only[zzs] at hE
     repeat(obtain⟨J0,hE⟩:=hE)
     repeat' first
      |with_reducible first|refine Zd ?_ |refine Ae (fun _=>?_) fun _=>?_ |refine Nb fun nb A0 C0 B0=>?_ |refine Nr fun nb D0 E0 A0 I0 C0 B0=>?_
      |simp -dsimp -implicitDefEqProofs (disch:=first|exact Kd|fail) only[go_sem,↓reduceIte,seval, -He,Ye,N0,T0,X0,S2,Ie O.ry,Le,Zh,hdi]
      |with_reducible refine zg5 d.label _ V3 O.label ?_
     exact Ce ⟨q - 1,by omega,i+1,vs,ks,by omega,rfl,by rw[Y8];exact hks,rfl,rfl⟩
   ·obtain rfl:i=d.names.length:=by omega
    rcases hks with ⟨aa,rfl,O7,hx,rfl⟩| ⟨bl,cc,sp,rfl,rfl,hx,V2⟩
    ·have hE:=hs;try simp only[zzs] at hE
     repeat(obtain⟨J0,hE⟩:=hE)
     have h0:zct d d.names.length=[]:=Df Ko;have hus:zbJ d=[]:=Df (by unfold zbJ;rw[zfh,h0];rfl)
     repeat' first
      |with_reducible first|refine Zd ?_ |refine Ae (fun _=>?_) fun _=>?_ |refine Nb fun nb A0 C0 B0=>?_ |refine Nr fun nb D0 E0 A0 I0 C0 B0=>?_
      |simp -dsimp -implicitDefEqProofs (disch:=first|exact Kd|fail) only[go_sem,↓reduceIte,seval, -He,Ye,N0,T0]
      |with_reducible refine zwg ?_
     unfold zo;refine Xf (H':=H) Ks ?_;exact fun _ hs=>hR G1 _ (PLe.refl _) hs ⟨_,0,by rw[hus];rfl,by rw[hus];exact Row.nil _ _,by rw[hus];exact Qe _⟩
    ·rw[Be,Gg] at hx V2;have hE:=hs;try simp only[zzs] at hE
     repeat(obtain⟨J0,hE⟩:=hE)
     repeat' first
      |with_reducible first|refine Zd ?_ |refine Ae (fun _=>?_) fun _=>?_ |refine Nb fun nb A0 C0 B0=>?_ |refine Nr fun nb D0 E0 A0 I0 C0 B0=>?_
      |simp -dsimp -implicitDefEqProofs (disch:=first|exact Kd|fail) only[go_sem,↓reduceIte,seval, -He,Ye,N0,T0]
     refine FnT.leave (H':=(bl, .cells ((zct d d.names.length).map str) sp 9):: (b1, .cells C [] 27)::H) ?_ Ks;refine zx2 Ko ?_
     repeat' first
      |with_reducible first|refine Zd ?_ |refine Ae (fun _=>?_) fun _=>?_ |refine Nb fun nb A0 C0 B0=>?_ |refine Nr fun nb D0 E0 A0 I0 C0 B0=>?_
      |simp -dsimp -implicitDefEqProofs (disch:=first|exact Kd|fail) only[go_sem,↓reduceIte,seval, -He,Ye,N0,T0]
     unfold zo;refine Oe (H':=(bl, .cells ((zgN (zct d d.names.length)).map str) sp 9)::H) Ks (Jf Ka fun G9 X5 P6 S6=>?_);exact fun _ hs=>hR G9 _ X5 hs ⟨some ⟨bl,0,none⟩,cc,by unfold zbJ;rw[zfh],S6,by unfold zbJ;rw[zfh];omega⟩
 ·have hb:=zu K0;rw[zmN K0] at hR;refine Ee tok zv5 Tryz.func65 rfl Kk Kk Kn fun M0=>?_;rw[Tryz.results65];have hE:=M0;try simp only[zzs] at hE
  repeat(obtain⟨J0,hE⟩:=hE)
  repeat' first
   |with_reducible first|refine Zd ?_ |refine Ae (fun _=>?_) fun _=>?_ |refine Nb fun nb A0 C0 B0=>?_ |refine Nr fun nb D0 E0 A0 I0 C0 B0=>?_
   |simp -dsimp -implicitDefEqProofs (disch:=first|exact Kd|fail) only[go_sem,↓reduceIte,seval, -He,Ye,N0,T0,X0,S2,hb]
   |with_reducible refine zaJ P0 O.is ?_
  unfold zo;refine Xf (H':=H) Ks ?_;exact fun _ hs=>hR G _ (PLe.refl _) hs (Sl.nil _ _)
theorem zoN (s:Tx): ∀l:List Tx,(zeP l s).length=l.length+1
 | []=>rfl
 |x::l=>by
  unfold zeP;split
  ·rw[Ph,zoN s l];rfl
  ·rfl
theorem zwh (l:List Tx) (s:Tx):(zeQ l s).length≤l.length+1:=by
 unfold zeQ;split
 ·omega
 ·rw[zoN];exact Qe _
theorem zlf (d:DfaT): ∀k,k≤d.label.length→(zds d k).length≤k
 |0,_=>Qe _
 |k+1,h=>by
  have ih:=zlf d k Ko;rw[ze4 Ko];split
  ·have:=zwh (zds d k) (zcU d d.label[k]);omega
  ·omega
theorem zx3 {d:DfaT} (P0:zr d) {G:zb} {H:za} {R:Value→zb→za→Prop} {v:Value} (hv:IsD G d v)
  (hR: ∀G' v',PLe G G'→Sep G' (zm H)→Sl G' str v' (zdG d)→R v' G' H):FnT Tryz.prog 72 [v] G H R:=by
 obtain⟨C,an,al,ay,cn,cl,cs,rs,rfl,O⟩:=hv.opened;obtain⟨U3,M2,V3,A4,M4⟩:=id P0;have N0:=O.len;have T0:=O.all;have X0:=O.l;have S2:=O.s;refine Zf ?_;by_cases K0:zg d
 ·have hb:=zA K0;have hn64:=K0.2.2.2.2.2.1.1;rw[zgi K0,←zl2 K0] at hR;refine Ee tok zsa Tryz.func72 rfl Kk Kk Kn fun M0=>?_;rw[Tryz.results72];have hE:=M0;try simp only[zzs] at hE
  repeat(obtain⟨J0,hE⟩:=hE)
  repeat' first
   |with_reducible first|refine Zd ?_ |refine Ae (fun _=>?_) fun _=>?_ |refine Nb fun nb A0 C0 B0=>?_ |refine Nr fun nb D0 E0 A0 I0 C0 B0=>?_
   |simp -dsimp -implicitDefEqProofs (disch:=first|exact Kd|fail) only[go_sem,↓reduceIte,seval, -He,Ye,N0,T0,X0,S2,hb,Wh]
   | ((with_reducible refine za1 P0 O.is fun G2 Q0 R0=>?_);(have hE:=R0;try simp only[zzs] at hE;repeat(obtain⟨J0,hE⟩:=hE)))
  rename_i b1 hb10 T8 B8 g1 g2 g3 g4;obtain⟨b3,e0⟩: ∃x,x=nb:=⟨_,rfl⟩;subst e0;refine Je tok zsa Kk [1,2,3,4] (fun q G' fr H'=> ∃ (i:Nat) (v:Value),i+q=d.label.length∧PLe G G'∧Sl G' str v (zds d i)∧H'=(b1, .cells C [] 27)::H∧fr=[(1, .pointer (some ⟨b1,0,none⟩)),(2, .slice none 0 0),(3,v),(4, .int .i64 (i:Nat))]) (d.label.length) ?_ ?_
  ·refine Oe (H':=(b3, .cells [] [] 9):: (b1, .cells C [] 27)::H) Ks (Jf Ka fun G9 X5 P6 S6=>?_);exact⟨0,_,by omega,Q0.trans X5,⟨_,0,rfl,S6,Qe _⟩,rfl,rfl⟩
  ·rintro q G3 fr H' S0 hs ⟨i,v,Q5,A1,D3,rfl,rfl⟩;obtain⟨av,cv,rfl,T3,hcv⟩:=id D3;have O3:=O.mono A1;have hE:=hs;try simp only[zzs] at hE
   repeat(obtain⟨J0,hE⟩:=hE)
   by_cases Y0:i<d.label.length
   ·have B3:Adr al:=O.rl.adr (by rw[Be];omega);have Y8:=ze4 Y0;have I2:=zlf d i Ko;have D9:=K0.2.1;obtain⟨_,w2,w3,_⟩:=K0.2.2.2.2.2.2 i (by have:=K0.2.2.1;omega) Y0;by_cases h0:0<d.label[i]
    ·rw[if_pos h0] at Y8;obtain⟨n,hn⟩: ∃n:Nat,d.label[i]=(n:Int)+1:=⟨(d.label[i] - 1).toNat,by omega⟩;have C1:n<d.names.length:=by omega
     rw[hn,zeR C1] at Y8;have V6:Adr ay:=O.ry.adr (by rw[Be];omega);have L6:((n:Int)+1) - 1=(n:Nat):=by omega
     repeat' first
      |with_reducible first|refine Zd ?_ |refine Ae (fun _=>?_) fun _=>?_ |refine Nb fun nb A0 C0 B0=>?_ |refine Nr fun nb D0 E0 A0 I0 C0 B0=>?_
      |simp -dsimp -implicitDefEqProofs (disch:=first|exact Kd|fail) only[go_sem,↓reduceIte,seval, -He,Ye,N0,T0,X0,S2,Ie O3.rl,Ie O3.ry,Le,hn,L6]
      |with_reducible refine Wg tok mixed zsa 8 [2,4,7,10] (.op 0 .plain (.op 1 .plain (.op 2 .held (.op 3 .plain (.op 4 .held (.op 5 .plain (.op 6 .plain (.op 7 .held (.op 8 .plain (.op 9 .plain (.op 10 .held (.op 11 .keeps (.op 12 .plain .nil))))))))))))) Kk [(b1, .cells C [] 27)] Ks ?_
     refine zx1 (zds d i) d.names[n] Ko D3 fun G5 v5 A2 P1 Sb=>?_;have hE:=P1;try simp only[zzs] at hE
     repeat(obtain⟨J0,hE⟩:=hE)
     repeat' first
      |with_reducible first|refine Zd ?_ |refine Ae (fun _=>?_) fun _=>?_ |refine Nb fun nb A0 C0 B0=>?_ |refine Nr fun nb D0 E0 A0 I0 C0 B0=>?_
      |simp -dsimp -implicitDefEqProofs (disch:=first|exact Kd|fail) only[go_sem,↓reduceIte,seval, -He,Ye,N0,T0,X0,S2]
     exact Ce ⟨q - 1,by omega,i+1,_,by omega,A1.trans A2,by rw[Y8];exact Sb,rfl,rfl⟩
    ·rw[if_neg h0] at Y8
     repeat' first
      |with_reducible first|refine Zd ?_ |refine Ae (fun _=>?_) fun _=>?_ |refine Nb fun nb A0 C0 B0=>?_ |refine Nr fun nb D0 E0 A0 I0 C0 B0=>?_
      |simp -dsimp -implicitDefEqProofs (disch:=first|exact Kd|fail) only[go_sem,↓reduceIte,seval, -He,Ye,N0,T0,X0,S2,Ie O3.rl,Le]
     exact Ce ⟨q - 1,by omega,i+1,_,by omega,A1,by rw[Y8];exact D3,rfl,rfl⟩
   ·obtain rfl:i=d.label.length:=by omega
    repeat' first
     |with_reducible first|refine Zd ?_ |refine Ae (fun _=>?_) fun _=>?_ |refine Nb fun nb A0 C0 B0=>?_ |refine Nr fun nb D0 E0 A0 I0 C0 B0=>?_
     |simp -dsimp -implicitDefEqProofs (disch:=first|exact Kd|fail) only[go_sem,↓reduceIte,seval, -He,Ye,N0,T0,X0]
    unfold zo;refine Xf (H':=H) Ks ?_;exact fun _ hs=>hR G3 _ A1 hs D3
 ·have hb:=zu K0;rw[zmN K0] at hR;refine Ee tok zsa Tryz.func72 rfl Kk Kk Kn fun M0=>?_;rw[Tryz.results72];have hE:=M0;try simp only[zzs] at hE
  repeat(obtain⟨J0,hE⟩:=hE)
  repeat' first
   |with_reducible first|refine Zd ?_ |refine Ae (fun _=>?_) fun _=>?_ |refine Nb fun nb A0 C0 B0=>?_ |refine Nr fun nb D0 E0 A0 I0 C0 B0=>?_
   |simp -dsimp -implicitDefEqProofs (disch:=first|exact Kd|fail) only[go_sem,↓reduceIte,seval, -He,Ye,N0,T0,X0,S2,hb,Wh]
   | ((with_reducible refine za1 P0 O.is fun G2 Q0 R0=>?_);(have hE:=R0;try simp only[zzs] at hE;repeat(obtain⟨J0,hE⟩:=hE)))
  unfold zo;refine Oe (H':=(nb, .cells [] [] 9)::H) Ks (Jf Ka fun G9 X5 P6 S6=>?_);exact fun _ hs=>hR G9 _ (Q0.trans X5) hs ⟨_,0,rfl,S6,Qe _⟩
end Go.Proofs.YtomdbjfdbkejoaaGreatDoor
