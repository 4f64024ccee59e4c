/- Law 35, PackBytes: any machine's bytes, and its key, or that there are none: the law answers true. -/
import Derived.Test.YtomdbjfdbkejoaaGreatDoorU12
import Derived.OpenShut
import Derived.Deep.DeepHandedRow
import Derived.Lib.LaidTab
import Derived.Test.YtomdbjfdbkejoaaGreatDoorProg
import Derived.Test.YtomdbjfdbkejoaaGreatDoorCards
import Derived.Test.YtomdbjfdbkejoaaGreatDoorTie
set_option maxHeartbeats 64000000
set_option linter.unusedSimpArgs false
set_option linter.unusedVariables false
set_option linter.unusedSectionVars false
open Go.V.Nx renaming go→Zd
open Go.V.Bk renaming go→Ae
open List renaming reduceReplicate→He,toList_toArray→Ye,length_map→Be,take→Hf,take_of_length_le→Pe,replicate→Fe,length_replicate→We,getElem_map→Le,length_append→Ve,all_map→Mg,take_zero→Se,nil_append→Af,drop_of_length_le→Gf,append_nil→Bf,getElem_mem→Me,getElem?_map→Lg,getElem?_eq_getElem→Xe,replicate_one→Zh,getElem_append_left→Ag,getElem_append_right→Ng
open Go.Value renaming slice→Wf,int→Yd
open Go.V.FnT renaming body→Ee,sep→Zf
open Go.V.Upd renaming leave→Xf,now→Ce,go→Oe,shareRow→Jf,finL→De
open Int renaming toNat_natCast→Yf,eq_ofNat_of_zero_le→Dg
open Go.V.Row renaming obj→Ie
open Go.V.Tri renaming loopU→Je,drawH→Vf,drawS→Wg
open Nat renaming le_refl→Qe,lt_or_ge→Eg,zero_le→Pg
open Classical renaming propDecidable→Mf
namespace Go.Proofs.YtomdbjfdbkejoaaGreatDoor
abbrev zoY:List Nat:=[0,1,2,3,4,5,6,7,9,10,11,12,15,34,35,36,37,42,43,44,45]
abbrev zzg:List Nat:=[0,2,3,4,6,11,12,13,14]
abbrev zoZ:List Nat:=[0,1,2,3,4,5,6,7,8,9,10,13,33,39]
abbrev zzh:List Nat:=[0,1,2,3,4,6,8,12]
open Go Go.V Go.Proofs
theorem zyb {d:DfaT} (P0:zr d) {G:zb} {H:za} {R:Value→zb→za→Prop} {v:Value} (hg:zcK G) (hv:IsD G d v)
  (hR: ∀G' v',PLe G G'→Sep G' (zm H)→IsD G' (zcu d).1 v'→R (.tuple #[v', .int .i64 (zcu d).2]) G' H):FnT Tryz.prog 43 [v] G H R:=by
 obtain⟨C,an,al,ay,cn,cl,cs,rs,rfl,O⟩:=hv.opened;obtain⟨U3,M2,V3,A4,M4⟩:=id P0;have N0:=O.len;have T0:=O.all;have J1:=O.n;have X0:=O.l;have S2:=O.s;refine Zf ?_;by_cases K0:zg d
 ·have hb:=zA K0;rw[zeg K0] at hR;have U6:(zd (clL d)).length=256:=by rw[zt,zbD O.ofl]
  have F6:(u8L (zd (clL d))).length=256:=by rw[Be,U6]
  have Wa:(u8L (zd (clL d))).all zax=true:=by rw[Mg];exact List.all_eq_true.2 fun _ _=>rfl
  have E9:zf (Fe 256 (Yd .u8 0)) 0 (u8L (zd (clL d)))=u8L (zd (clL d)):=by rw[za5,←zeG (zbD O.ofl),zaA]
  have bu1:zf zz 0 (u8L (zd (clL d)))=u8L (zd (clL d))++[Yd .i64 0,Wf none 0 0,Wf none 0 0,Wf none 0 0]:=zdl (d:=zH d) U6;have bu2:zf (u8L (zd (clL d))++[Yd .i64 0,Wf none 0 0,Wf none 0 0,Wf none 0 0]) 256 [Yd .i64 ((zl (clL d)).length:Nat)]=zc (zH d) (.slice none 0 0) (.slice none 0 0) (.slice none 0 0):=zc2 (d:=zH d) U6;have bu3: ∀x,zf (zc (zH d) (.slice none 0 0) (.slice none 0 0) (.slice none 0 0)) 258 [x]=zc (zH d) (.slice none 0 0) x (.slice none 0 0):=fun x=>zaH (d:=zH d) U6 _ _ _ _;have bu4: ∀vl x,zf (zc (zH d) (.slice none 0 0) vl (.slice none 0 0)) 259 [x]=zc (zH d) (.slice none 0 0) vl x:=fun vl x=>zcG (d:=zH d) U6 _ _ _ _;have bu5: ∀vn vl vs x,zf (zc (zH d) vn vl vs) 257 [x]=zc (zH d) x vl vs:=fun vn vl vs x=>zbi (d:=zH d) U6 _ _ _ _;have D4:(u8L (zd (clL d))++[Yd .i64 0,Wf none 0 0,Wf none 0 0,Wf none 0 0]).length=260:=by rw[Ve,F6];rfl
  have Z0: ∀a b c:Value,(zc (zH d) a b c).length=260:=fun a b c=>zN (d:=zH d) U6 _ _ _;have P2: ∀a b c:Value,(zc (zH d) a b c)[257]? =some a:=fun a b c=>zcx (d:=zH d) U6 _ _ _
  have T4: ∀vn vl vs,zf zz 0 (zc (zH d) vn vl vs)=zc (zH d) vn vl vs:=fun vn vl vs=>by
   unfold zf;rw[Se,Af,Gf (by rw[zj,Z0];omega),Bf]
  have S3: ∀ (a a' a'':Option Addr) (b c b' c' b'' c'':Nat),(zc (zH d) (.slice a'' b'' c'') (.slice a b c) (.slice a' b' c')).all zax=true:=fun a a' a'' b c b' c' b'' c''=>zaC rfl rfl rfl;have A7: ∀vn vl vs,Hf 260 (zc (zH d) vn vl vs)=zc (zH d) vn vl vs:=fun vn vl vs=>Pe (by rw[Z0];omega);have L8:Hf 256 (u8L (zd (clL d)))=u8L (zd (clL d)):=Pe Ko;refine Ee tok zoY Tryz.func43 rfl Kk Kk Kn fun M0=>?_;rw[Tryz.results43];have hE:=M0;try simp only[zzs] at hE
  repeat(obtain⟨J0,hE⟩:=hE)
  repeat' first
   |with_reducible first|refine Zd ?_ |refine Ae (fun _=>?_) fun _=>?_ |refine Nb fun nb A0 C0 B0=>?_ |refine Nr fun nb D0 E0 A0 I0 C0 B0=>?_
   |simp -dsimp -implicitDefEqProofs (disch:=first|exact Kd|fail) only[go_sem,↓reduceIte,seval, -He,Ye,N0,T0,hb,zj]
   |with_reducible refine zaJ P0 O.is ?_
  rename_i b1 R3 T8 B8;revert nb;intro b2 F4 J8 A8;refine zup P0 O.is fun G2 Q0 R0=>?_;rw[if_pos hb];have hE:=R0;try simp only[zzs] at hE
  repeat(obtain⟨J0,hE⟩:=hE)
  repeat' first
   |with_reducible first|refine Zd ?_ |refine Ae (fun _=>?_) fun _=>?_ |refine Nb fun nb A0 C0 B0=>?_ |refine Nr fun nb D0 E0 A0 I0 C0 B0=>?_
   |simp -dsimp -implicitDefEqProofs (disch:=first|exact Kd|fail) only[go_sem,↓reduceIte,seval, -He,Ye,N0,T0,hb,We,E9,F6,Wa,L8]
  revert nb;intro b4 hb4 Fc Wb;refine zuo U6 (hg.mono Q0) fun G3 v3 A1 K1 T6=>?_;obtain⟨a3,c3,rfl,D2,H9⟩:=T6;have hE:=K1;try simp only[zzs] at hE
  repeat(obtain⟨J0,hE⟩:=hE)
  have O3:=O.mono (Q0.trans A1);have hlab3:=O3.label;have hnam3:=O3.names
  repeat' first
   |with_reducible first|refine Zd ?_ |refine Ae (fun _=>?_) fun _=>?_ |refine Nb fun nb A0 C0 B0=>?_ |refine Nr fun nb D0 E0 A0 I0 C0 B0=>?_
   |simp -dsimp -implicitDefEqProofs (disch:=first|exact Kd|fail) only[go_sem,↓reduceIte,seval, -He,Ye,N0,T0,J1,X0,S2,L8,F6,bu1,bu2,bu3,bu4,D4,Z0,T4,S3,zj]
   |with_reducible refine Wg tok mixed zoY 5 [0,3,6] (.op 0 .held (.op 1 .plain (.op 2 .plain (.op 3 .held (.op 5 .plain (.op 6 .held (.both (.op 4 .keeps (.both (.op 7 .keeps (.op 8 .plain (.op 9 .keeps (.op 10 .plain .nil)))) (.op 9 .keeps (.op 7 .keeps (.op 8 .plain (.op 10 .plain .nil)))))) (.op 9 .keeps (.op 4 .keeps (.op 7 .keeps (.op 8 .plain (.op 10 .plain .nil)))))))))))) Kk [(b4, .cells (u8L (zd (clL d))) [] 22),(b1, .cells C [] 27)] Ks ?_
   | ((with_reducible refine zwH d.label V3 (by first|exact hlab3|exact hlab3.mono Ka) fun G8 v8 N4 B6 hsl8=>?_);obtain⟨a8,c8,rfl,N6,Ea⟩:=hsl8;(have hE:=B6;try simp only[zzs] at hE;repeat(obtain⟨J0,hE⟩:=hE)))
   | ((with_reducible refine zhP d.names A4 (by first|exact hnam3|exact hnam3.mono Ka) fun G9 v9 X5 P6 hsl9=>?_);obtain⟨a9,c9,rfl,S6,hc9⟩:=hsl9;(have hE:=P6;try simp only[zzs] at hE;repeat(obtain⟨J0,hE⟩:=hE)))
   | (with_reducible refine And.intro ?_ ?_)
  all_goals (first
   | (have hx9:PLe G8 G9:=X5;have N6:=N6.mono X5;have A2:PLe G3 G9:=N4.trans X5;rename zb=>G5)
   | (have hx9:PLe G9 G8:=N4;have S6:=S6.mono N4;have A2:PLe G3 G8:=X5.trans N4;rename zb=>G5))
  all_goals have O5:=O3.mono A2
  all_goals have hr35:=D2.mono A2
  all_goals (revert nb;intro b7 hb7 hb71 hb72;intros)
  all_goals clear D2 O3 hlab3 hnam3
  all_goals try clear hE
  all_goals
   refine Je tok zoY Kk [1,2,5,6,7,34,35,36] (fun q G' fr H'=> ∃ (s:Nat) (vn:Value) (kn:za),s+q=d.next.length∧PLe G5 G'∧zze (za3 d) G' s vn kn∧H'=(b7, .cells (zc (zH d) vn (.slice a8 d.label.length c8) (.slice a9 d.names.length c9)) [] 27):: (b4, .cells (u8L (zd (clL d))) [] 22):: (b2, .cells zz [] 27):: (b1, .cells C [] 27):: (kn++H)∧fr=[(1, .pointer (some ⟨b1,0,none⟩)),(2, .pointer (some ⟨b2,0,none⟩)),(5, .int .i64 (zl (clL d)).length),(6, .slice a3 (zan (zd (clL d))).length c3),(7, .pointer (some ⟨b7,0,none⟩)),(34, .slice an d.next.length cn),(35, .int .i64 d.next.length),(36, .int .i64 (s:Nat))]) (d.next.length) ?_ ?_
   ·exact Ce ⟨0,_,[],by omega,PLe.refl _, .inl ⟨rfl,rfl,rfl⟩,rfl,rfl⟩
   ·rintro q G1 fr H' S0 V0 ⟨s,vn,kn,hsq,Q1,hX,rfl,rfl⟩;by_cases I1:s<d.next.length
    ·have O6:=O5.mono Q1;have hr36:=hr35.mono Q1;have B3:Adr an:=O6.rn.adr (by have:=O.rnl;omega);obtain⟨b,cc,e1,e2,e3⟩:=O6.rs s I1 (by have:=O.rnl;omega);obtain⟨E5,F7,C8,D6⟩:=K0.2.2.2.2.2.2 s I1 (by have:=K0.2.2.1;omega);obtain⟨row,U0⟩: ∃row,row=d.next[s]:=⟨_,rfl⟩;rw[←U0] at e1 e2 e3 E5 D6;obtain⟨r,hr⟩: ∃r,r=zic d row:=⟨_,rfl⟩;have I2:r.length=(zl (clL d)).length:=by rw[hr,zid]
     have R6:=zi1 d;have La:=O.rnl;have L3:=zZ (clL d);have V2:=zbD O.ofl;have M7:(za3 d)[s]'(by unfold za3;rw[Be];exact I1)=r:=by simp only[za3,Le];rw[hr,U0]
     have hE:=V0;try simp only[zzs] at hE
     repeat(obtain⟨J0,hE⟩:=hE)
     repeat' first
      |with_reducible first|refine Zd ?_ |refine Ae (fun _=>?_) fun _=>?_ |refine Nb fun nb A0 C0 B0=>?_ |refine Nr fun nb D0 E0 A0 I0 C0 B0=>?_
      |simp -dsimp -implicitDefEqProofs (disch:=first|exact Kd|fail) only[go_sem,↓reduceIte,seval, -He,Ie O6.rn,e1,Nat.sub_self,List.replicate_zero]
     revert nb;intro br hbr hbr1 hbr2;rw[show Fe (zl (clL d)).length (Yd .i64 0)=(zbq r 0).map (Yd .i64) by rw[←I2,zfB]];refine Je tok zoY Kk [1,2,5,6,7,9,10,34,35,36,42,43,44] (fun q2 G' fr H'=> ∃k:Nat,k+q2=r.length∧G'=G1∧H'=(br, .cells ((zbq r k).map (Yd .i64)) [] 3):: (b7, .cells (zc (zH d) vn (.slice a8 d.label.length c8) (.slice a9 d.names.length c9)) [] 27):: (b4, .cells (u8L (zd (clL d))) [] 22):: (b2, .cells zz [] 27):: (b1, .cells C [] 27):: (kn++H)∧fr=[(1, .pointer (some ⟨b1,0,none⟩)),(2, .pointer (some ⟨b2,0,none⟩)),(5, .int .i64 (zl (clL d)).length),(6, .slice a3 (zan (zd (clL d))).length c3),(7, .pointer (some ⟨b7,0,none⟩)),(9, .slice b row.length cc),(10, .slice (some ⟨br,0,none⟩) (zl (clL d)).length (zl (clL d)).length),(34, .slice an d.next.length cn),(35, .int .i64 d.next.length),(36, .int .i64 (s:Nat)),(42, .slice a3 (zan (zd (clL d))).length c3),(43, .int .i64 (zan (zd (clL d))).length),(44, .int .i64 (k:Nat))]) (r.length) ?_ ?_
     ·exact Ce ⟨0,by omega,rfl,rfl,rfl⟩
     ·rintro q2 G2' fr H' hle2' Jb ⟨k,hkq,rfl,rfl,rfl⟩;have J3:(zbq r k).length=r.length:=zgD r Ko;by_cases Q2:k<r.length
      ·have hE:=Jb;try simp only[zzs] at hE
       repeat(obtain⟨J0,hE⟩:=hE)
       obtain⟨x,J7,N5⟩:=zg8 O.ofl (d:=d) (k:=k) Ko;have hxl:x<d.of.length:=by rw[O.ofl];exact N5
       have Xa:Adr a3:=hr36.adr (by rw[Be,R6,←I2];omega);have hoc:=zd2 K0 (Me (l:=d.of) (n:=x) (by rw[O.ofl];exact N5));obtain⟨y,hy⟩:=Dg hoc.1;have hyr:y<row.length:=by omega
       have hadb:Adr b:=e2.adr (by rw[Be];omega)
       have Nd:C[x]? =some (.int .u8 (y:Nat)):=by
        have h1:(C.take 256)[x]? =some (.int .u8 d.of[x]):=by rw[O.of,Lg,Xe (by rw[O.ofl];exact N5)];rfl
        rw[List.getElem?_take,if_pos N5,hy] at h1;exact h1
       have P5:row[y]=r[k]:=by
        simp only[hr,zic,Le];have h1:atL d.of ((x:Nat):Int)=(y:Nat):=by rw[zL (by simp only[Yf];rw[O.ofl];exact N5)];simp only[Yf];exact hy
        rw[J7,h1,zL (by simpa using hyr)];simp only[Yf]
       have M3:=zgE Q2
       repeat' first
        |with_reducible first|refine Zd ?_ |refine Ae (fun _=>?_) fun _=>?_ |refine Nb fun nb A0 C0 B0=>?_ |refine Nr fun nb D0 E0 A0 I0 C0 B0=>?_
        |simp -dsimp -implicitDefEqProofs (disch:=first|exact Kd|fail) only[go_sem,↓reduceIte,seval, -He,Be,N0,Ie hr36,Ie e2,Le,J7,Nd,P5,M3,J3,Yf]
       exact Ce ⟨q2 - 1,by omega,k+1,by omega,rfl,rfl,rfl⟩
      ·obtain rfl:k=r.length:=by omega
       rw[ziL r] at Jb⊢;rcases hX with ⟨X2,rfl,rfl⟩| ⟨bn,c1,rv,sp1,rfl,rfl,T3,V7,F5⟩
       ·have hE:=Jb;try simp only[zzs] at hE
        repeat(obtain⟨J0,hE⟩:=hE)
        repeat' first
         |with_reducible first|refine Zd ?_ |refine Ae (fun _=>?_) fun _=>?_ |refine Nb fun nb A0 C0 B0=>?_ |refine Nr fun nb D0 E0 A0 I0 C0 B0=>?_
         |simp -dsimp -implicitDefEqProofs (disch:=first|exact Kd|fail) only[go_sem,↓reduceIte,seval, -He,Z0,P2,bu5,Zh]
        refine Oe (H':=(br, .cells (r.map (Yd .i64)) [] 3):: (b7, .cells (zc (zH d) (.slice (some ⟨nb,0,none⟩) 1 E0) (.slice a8 d.label.length c8) (.slice a9 d.names.length c9)) [] 27):: (b4, .cells (u8L (zd (clL d))) [] 22):: (b2, .cells zz [] 27):: (b1, .cells C [] 27):: ([(nb, .cells [.slice (some ⟨br,0,none⟩) (zl (clL d)).length (zl (clL d)).length] D0 24)]++H)) Ks (Jf Ka fun G6 W2 B4 Q7=>?_);refine⟨q - 1,by omega,s+1,_,_,by omega,Q1.trans W2, .inr ⟨nb,E0,_,D0,by rw[X2],rfl,by rw[X2];rfl,by omega,fun i h h2 h3=>?_⟩,rfl,rfl⟩;obtain rfl:i=0:=by omega
        obtain rfl:s=0:=X2;refine⟨some ⟨br,0,none⟩,(zl (clL d)).length,?_,?_,?_⟩
        ·rw[M7,I2];rfl
        ·rw[M7];exact Q7
        ·rw[M7,I2];exact Qe _
       ·have hE:=Jb;try simp only[zzs] at hE
        repeat(obtain⟨J0,hE⟩:=hE)
        repeat' first
         |with_reducible first|refine Zd ?_ |refine Ae (fun _=>?_) fun _=>?_ |refine Nb fun nb A0 C0 B0=>?_ |refine Nr fun nb D0 E0 A0 I0 C0 B0=>?_
         |simp -dsimp -implicitDefEqProofs (disch:=first|exact Kd|fail) only[go_sem,↓reduceIte,seval, -He,Z0,P2,bu5,Zh]
        refine Oe (H':=(br, .cells (r.map (Yd .i64)) [] 3):: (b7, .cells (zc (zH d) (.slice (some ⟨nb,0,none⟩) (s+1) E0) (.slice a8 d.label.length c8) (.slice a9 d.names.length c9)) [] 27):: (b4, .cells (u8L (zd (clL d))) [] 22):: (b2, .cells zz [] 27):: (b1, .cells C [] 27):: ([(nb, .cells (rv++[.slice (some ⟨br,0,none⟩) (zl (clL d)).length (zl (clL d)).length]) D0 24)]++H)) Ks (Jf Ka fun G6 W2 B4 Q7=>?_);refine⟨q - 1,by omega,s+1,_,_,by omega,Q1.trans W2, .inr ⟨nb,E0,_,D0,rfl,rfl,by rw[Ve,T3];rfl,by omega,fun i h h2 h3=>?_⟩,rfl,rfl⟩;rcases Eg i s with Z3|Z3
        ·obtain⟨b',c',f1,f2,f3⟩:=F5 i Z3 Ko h3;exact⟨b',c',by rw[Ag Ko];exact f1,f2.mono W2,f3⟩
        ·obtain rfl:i=s:=by omega
         refine⟨some ⟨br,0,none⟩,(zl (clL d)).length,?_,?_,?_⟩
         ·rw[M7,I2,Ng Ko];simp [T3]
         ·rw[M7];exact Q7
         ·rw[M7,I2];exact Qe _
    ·obtain rfl:s=d.next.length:=by omega
     have C1:(za3 d).length=d.next.length:=by unfold za3;rw[Be]
     have O8: ∀x∈(zH d).of,0≤x∧x≤255:=fun x hx=>by
      have h1:=za9 (l:=clL d) hx;have h2:=zZ (clL d);have h3:=zbD O.ofl;omega
     have hr86:=N6.mono Q1;have hr96:=S6.mono Q1;rcases hX with ⟨X2,rfl,rfl⟩| ⟨bn,c1,rv,sp1,rfl,rfl,T3,V7,F5⟩
     ·have:=K0.1;have:=K0.2.2.1;omega
     ·have hE:=V0;try simp only[zzs] at hE
      repeat(obtain⟨J0,hE⟩:=hE)
      repeat' first
       |with_reducible first|refine Zd ?_ |refine Ae (fun _=>?_) fun _=>?_ |refine Nb fun nb A0 C0 B0=>?_ |refine Nr fun nb D0 E0 A0 I0 C0 B0=>?_
       |simp -dsimp -implicitDefEqProofs (disch:=first|exact Kd|fail) only[go_sem,↓reduceIte,seval, -He,Ye,Z0,T4,S3,A7,zj]
      unfold zo;refine Oe (H':=(bn, .cells rv sp1 24)::H) Ks (Jf Ka fun G6 W2 B4 Q7=>?_)
      exact fun _ hs=>hR G6 _ (((Q0.trans A1).trans A2).trans (Q1.trans W2)) hs ⟨U6,O8,_,_,_,rfl,⟨some ⟨bn,0,none⟩,c1,rv,by show _=Wf _ (za3 d).length _;rw[C1],Q7,by show _=(za3 d).length;omega,by show(za3 d).length≤_;omega,fun i h h2=>by
       obtain⟨b',c',f1,f2,f3⟩:=F5 i (by have:i< (za3 d).length:=h;omega) h2 h;exact⟨b',c',f1,f2.mono W2,f3⟩⟩,⟨a8,c8,rfl,hr86.mono W2,Ea⟩,⟨a9,c9,rfl,hr96.mono W2,hc9⟩⟩
 ·have hb:=zu K0;rw[zfF K0] at hR;refine Ee tok zoY Tryz.func43 rfl Kk Kk Kn fun M0=>?_;rw[Tryz.results43];have hE:=M0;try simp only[zzs] at hE
  repeat(obtain⟨J0,hE⟩:=hE)
  repeat' first
   |with_reducible first|refine Zd ?_ |refine Ae (fun _=>?_) fun _=>?_ |refine Nb fun nb A0 C0 B0=>?_ |refine Nr fun nb D0 E0 A0 I0 C0 B0=>?_
   |simp -dsimp -implicitDefEqProofs (disch:=first|exact Kd|fail) only[go_sem,↓reduceIte,seval, -He,Ye,N0,T0,hb,zj,zG,zI,zM]
   |with_reducible refine zaJ P0 O.is ?_
  unfold zo;refine Xf (H':=H) Ks ?_;exact fun _ hs=>hR G _ (PLe.refl _) hs (zak _)
theorem zus {d:DfaT} (hl:d.of.length=256):(zH d).of.length=256:=by
 show(zd (clL d)).length=256;rw[zt,zbD hl]
theorem zgl {d:DfaT} (hl:d.of.length=256) (P0:zr d):zr (zH d):=by
 obtain⟨h1,h2,h3,h4,h5⟩:=P0;refine⟨?_,fun r hr=>?_,h3,h4,h5⟩
 ·show(za3 d).length≤_;unfold za3;rw[Be];exact h1
 ·have hr:r∈za3 d:=hr;unfold za3 at hr;obtain⟨row,_,rfl⟩:=List.mem_map.1 hr;rw[zid];have:=zZ (clL d);rw[zbD hl] at this;omega
abbrev zeU:=DfaT→DfaT×Int
structure StepV (G:zb) (f:Value) (act:zeU):Prop where
 shape: ∃k a c,f= .func (.func k) a c
 small: ∀d,d.of.length=256→zr d→zr (act d).1
 run: ∀ {G1:zb} {H:za} {R:Value→zb→za→Prop} {d:DfaT} {v:Value},PLe G G1→zr d→IsD G1 d v→(∀G' v',PLe G1 G'→Sep G' (zm H)→IsD G' (act d).1 v'→R (.tuple #[v', .int .i64 (act d).2]) G' H)→zje Tryz.prog f [v] G1 H R
theorem StepV.mono {G G':zb} {f:Value} {act:zeU} (h:StepV G f act) (S0:PLe G G'):StepV G' f act:=⟨h.shape,h.small,fun h1=>h.run (S0.trans h1)⟩
def zcE (a b:zeU):zeU:=fun d=>if (a d).2=0 then b (a d).1 else(zah,(a d).2)
theorem zd7 {a b:zeU} {d:DfaT} (h:(a d).2=0):zcE a b d=b (a d).1:=by unfold zcE;rw[if_pos h]
theorem zdy {a b:zeU} {d:DfaT} (h: ¬(a d).2=0):zcE a b d=(zah,(a d).2):=by unfold zcE;rw[if_neg h]
theorem zyc {G:zb} {s t:Value} {a b:zeU} {b2 b3:Nat} (hs:StepV G s a) (ht:StepV G t b) (h2:Row G (some ⟨b2,0,none⟩) [s]) (h3:Row G (some ⟨b3,0,none⟩) [t]) (ha: ∀d,d.of.length=256→(a d).1.of.length=256):
  StepV G (.func (.func 91) #[] #[.pointer (some ⟨b2,0,none⟩), .pointer (some ⟨b3,0,none⟩)]) (zcE a b):=by
 refine⟨⟨_,_,_,rfl⟩,fun d hd P0=>?_,fun{G1 H R d v} S0 P0 hv hR=>?_⟩
 ·by_cases h:(a d).2=0
  ·rw[zd7 h];exact ht.small _ (ha d hd) (hs.small d hd P0)
  ·rw[zdy h];exact zcA
 ·obtain⟨k1,a1,c1,rfl⟩:=hs.shape;obtain⟨k2,a2,c2,rfl⟩:=ht.shape;show FnT Tryz.prog 91 [v, .pointer (some ⟨b2,0,none⟩), .pointer (some ⟨b3,0,none⟩)] G1 H R;obtain⟨C,an,al,ay,cn,cl,cs,rs,rfl,O⟩:=hv.opened;have N0:=O.len;have T0:=O.all;have e2: ∀ {G2:zb},PLe G1 G2→ ∀ (H:za) (k:Value→Prop),zen G2 H b2 (G2 b2) 0 k=k (.func (.func k1) a1 c1):=fun hl H k=>Row.obj0 (h2.mono (S0.trans hl)) (by simp) H k;have e3: ∀ {G2:zb},PLe G1 G2→ ∀ (H:za) (k:Value→Prop),zen G2 H b3 (G2 b3) 0 k=k (.func (.func k2) a2 c2):=fun hl H k=>Row.obj0 (h3.mono (S0.trans hl)) (by simp) H k;have e21:=e2 (PLe.refl _);refine Zf ?_;refine Ee tok [0,1,2,3,4,5,6,7,15] Tryz.func91 rfl Kk Kk Kn fun M0=>?_;rw[Tryz.results91];have hE:=M0;try simp only[zzs] at hE
  repeat(obtain⟨J0,hE⟩:=hE)
  repeat' first
   |with_reducible first|refine Zd ?_ |refine Ae (fun _=>?_) fun _=>?_ |refine Nb fun nb A0 C0 B0=>?_ |refine Nr fun nb D0 E0 A0 I0 C0 B0=>?_
   |simp -dsimp -implicitDefEqProofs (disch:=first|exact Kd|fail) only[go_sem,↓reduceIte,seval, -He,Ye,N0,T0,e21]
  obtain⟨b5,e50⟩: ∃x,x=nb:=⟨_,rfl⟩;subst e50;refine hs.run S0 P0 O.is fun G2 v2 Q0 R0 K3=>?_;obtain⟨C2,an2,al2,ay2,cn2,cl2,cs2,rs2,rfl,O2⟩:=K3.opened;have V4:=O2.len;have Y6:=zbg O2.is;have Z6:=zbh V4;have A7:Hf 260 C2=C2:=Pe Ko;have e32:=e3 Q0;have hE:=R0;try simp only[zzs] at hE
  repeat(obtain⟨J0,hE⟩:=hE)
  by_cases h:(a d).2=0
  ·rw[zd7 h] at hR;rw[h]
   repeat' first
    |with_reducible first|refine Zd ?_ |refine Ae (fun _=>?_) fun _=>?_ |refine Nb fun nb A0 C0 B0=>?_ |refine Nr fun nb D0 E0 A0 I0 C0 B0=>?_
    |simp -dsimp -implicitDefEqProofs (disch:=first|exact Kd|fail) only[go_sem,↓reduceIte,seval, -He,Ye,N0,T0,V4,Y6,Z6,A7,zj,e32]
   obtain⟨b6,e60⟩: ∃x,x=nb:=⟨_,rfl⟩;subst e60;refine ht.run (S0.trans Q0) (hs.small d O.ofl P0) O2.is fun G3 v3 A1 K1 hI3=>?_;obtain⟨C3,an3,al3,ay3,cn3,cl3,cs3,rs3,rfl,O3⟩:=hI3.opened;have Vb:=O3.len;have Od:=zbg O3.is;have Pd:=zbh Vb;have htk3:Hf 260 C3=C3:=Pe Ko;have hE:=K1;try simp only[zzs] at hE
   repeat(obtain⟨J0,hE⟩:=hE)
   repeat' first
    |with_reducible first|refine Zd ?_ |refine Ae (fun _=>?_) fun _=>?_ |refine Nb fun nb A0 C0 B0=>?_ |refine Nr fun nb D0 E0 A0 I0 C0 B0=>?_
    |simp -dsimp -implicitDefEqProofs (disch:=first|exact Kd|fail) only[go_sem,↓reduceIte,seval, -He,Ye,Vb,Od,Pd,htk3,zj]
   unfold zo;refine Xf (H':=H) Ks ?_;exact fun _ hs=>hR G3 _ (Q0.trans A1) hs O3.is
  ·rw[zdy h] at hR
   repeat' first
    |with_reducible first|refine Zd ?_ |refine Ae (fun _=>?_) fun _=>?_ |refine Nb fun nb A0 C0 B0=>?_ |refine Nr fun nb D0 E0 A0 I0 C0 B0=>?_
    |simp -dsimp -implicitDefEqProofs (disch:=first|exact Kd|fail) only[go_sem,↓reduceIte,seval, -He,Ye,N0,T0,V4,Y6,Z6,A7,zj,zG,zI,zM]
   all_goals try(exfalso;exact h Ka)
   unfold zo;refine Xf (H':=H) Ks ?_;exact fun _ hs=>hR G2 _ Q0 hs (zak _)
theorem zzi {G:zb} {H:za} {R:Value→zb→za→Prop} {s t:Value} {a b:zeU} (hs:StepV G s a) (ht:StepV G t b) (ha: ∀d,d.of.length=256→(a d).1.of.length=256)
  (hR: ∀G' f,PLe G G'→Sep G' (zm H)→StepV G' f (zcE a b)→R f G' H):FnT Tryz.prog 61 [s,t] G H R:=by
 obtain⟨k1,a1,c1,rfl⟩:=hs.shape;obtain⟨k2,a2,c2,rfl⟩:=ht.shape;refine Zf ?_;refine Ee tok zj4 Tryz.func61 rfl Kk Kk Kn fun M0=>?_;rw[Tryz.results61];have hE:=M0;try simp only[zzs] at hE
 repeat(obtain⟨J0,hE⟩:=hE)
 repeat' first
  |with_reducible first|refine Zd ?_ |refine Ae (fun _=>?_) fun _=>?_ |refine Nb fun nb A0 C0 B0=>?_
  |simp -dsimp -implicitDefEqProofs (disch:=first|exact Kd|fail) only[go_sem,↓reduceIte,seval]
 rename_i b2 h20 h21 h22;obtain⟨b3,e3⟩: ∃x,x=nb:=⟨_,rfl⟩;subst e3;unfold zo;refine Oe (H':=(b3, .cells [.func (.func k2) a2 c2] [] 65):: (b2, .cells [.func (.func k1) a1 c1] [] 65)::H) Ks ?_;refine Upd.trans (Jf Ka fun G5 A2 P6 U7=>?_);refine Jf P6.1.1 fun G6 Q1 hs10 C6=>?_;exact fun _ _=>hR G6 _ (A2.trans Q1) hs10 (zyc (hs.mono (A2.trans Q1)) (ht.mono (A2.trans Q1)) C6 (U7.mono Q1) ha)
def chA (ac:Nat→zeU):Nat→zeU
 |0=>ac 0
 |i+1=>zcE (chA ac i) (ac (i+1))
theorem zut {ac:Nat→zeU} (h: ∀i d,d.of.length=256→(ac i d).1.of.length=256): ∀ (i:Nat) (d:DfaT),d.of.length=256→(chA ac i d).1.of.length=256
 |0,d,hd=>h 0 d hd
 |i+1,d,hd=>by
  have ih:=zut h i d hd;show(zcE (chA ac i) (ac (i+1)) d).1.of.length=256;by_cases e:(chA ac i d).2=0
  ·rw[zd7 e];exact h _ _ ih
  ·rw[zdy e];exact We
theorem zyd {G:zb} {H:za} {R:Value→zb→za→Prop} {f0 f1 f2 f3 f4:Value} {b:Nat} {ac:Nat→zeU} (h0:StepV G f0 (ac 0)) (h1:StepV G f1 (ac 1)) (h2:StepV G f2 (ac 2)) (h3:StepV G f3 (ac 3)) (h4:StepV G f4 (ac 4)) (ha: ∀i d,d.of.length=256→(ac i d).1.of.length=256)
  (hR: ∀G' f,PLe G G'→Sep G' (zm ((b, .cells [f0,f1,f2,f3,f4] [] 65)::H))→StepV G' f (chA ac 4)→R f G' ((b, .cells [f0,f1,f2,f3,f4] [] 65)::H)):
  FnT Tryz.prog 39 [.slice (some ⟨b,0,none⟩) 5 5] G ((b, .cells [f0,f1,f2,f3,f4] [] 65)::H) R:=by
 refine Zf ?_;refine Ee tok zzg Tryz.func39 rfl Kk Kk Kn fun M0=>?_;rw[Tryz.results39];have hE:=M0;try simp only[zzs] at hE
 repeat(obtain⟨J0,hE⟩:=hE)
 repeat' first
  |with_reducible first|refine Zd ?_ |refine Ae (fun _=>?_) fun _=>?_ |refine Nb fun nb A0 C0 B0=>?_
  |simp -dsimp -implicitDefEqProofs (disch:=first|exact Kd|fail) only[go_sem,↓reduceIte,seval]
 refine Je tok zzg Kk [3,4,11,12,13] (fun q G' fr H'=> ∃ (i:Nat) (al:Value),i+q=4∧PLe G G'∧StepV G' al (chA ac i)∧H'=(b, .cells [f0,f1,f2,f3,f4] [] 65)::H∧fr=[(3, .func (.func 61) #[] #[]),(4,al),(11, .slice (some ⟨b,1,none⟩) 4 4),(12, .int .i64 4),(13, .int .i64 (i:Nat))]) (4) ?_ ?_
 ·exact Ce ⟨0,f0,by omega,PLe.refl _,h0,rfl,rfl⟩
 ·rintro q G1 fr H1 N2 V0 ⟨i,al,Q5,S0,hal,rfl,rfl⟩;have hE:=V0;try simp only[zzs] at hE
  repeat(obtain⟨J0,hE⟩:=hE)
  by_cases hi:i<4
  ·have nxt: ∃f,StepV G1 f (ac (i+1))∧[f0,f1,f2,f3,f4][1+i]? =some f:=by
    match i,hi with
    |0,_=>exact⟨f1,h1.mono S0,rfl⟩
    |1,_=>exact⟨f2,h2.mono S0,rfl⟩
    |2,_=>exact⟨f3,h3.mono S0,rfl⟩
    |3,_=>exact⟨f4,h4.mono S0,rfl⟩
   obtain⟨f,hf,hg⟩:=nxt
   repeat' first
    |with_reducible first|refine Zd ?_ |refine Ae (fun _=>?_) fun _=>?_ |refine Nb fun nb A0 C0 B0=>?_
    |simp -dsimp -implicitDefEqProofs (disch:=first|exact Kd|fail) only[go_sem,↓reduceIte,seval,hg]
   all_goals try(exfalso;omega)
   refine zzi hal hf (zut ha i) fun G2 g Q0 R0 Q9=>?_;have hE:=R0;try simp only[zzs] at hE
   repeat(obtain⟨J0,hE⟩:=hE)
   repeat' first
    |with_reducible first|refine Zd ?_ |refine Ae (fun _=>?_) fun _=>?_ |refine Nb fun nb A0 C0 B0=>?_
    |simp -dsimp -implicitDefEqProofs (disch:=first|exact Kd|fail) only[go_sem,↓reduceIte,seval]
   exact Ce ⟨q - 1,by omega,i+1,g,by omega,S0.trans Q0,Q9,rfl,rfl⟩
  ·obtain rfl:i=4:=by omega
   repeat' first
    |with_reducible first|refine Zd ?_ |refine Ae (fun _=>?_) fun _=>?_ |refine Nb fun nb A0 C0 B0=>?_
    |simp -dsimp -implicitDefEqProofs (disch:=first|exact Kd|fail) only[go_sem,↓reduceIte,seval]
   all_goals try(exfalso;omega)
   unfold zo;exact Ce fun hle' hs'=>hR G1 _ S0 hs' hal
noncomputable def acD:Nat→zeU
 |1=>zc8
 |2=>zar
 |3=>zcu
 |_=>zdS
noncomputable def zgm (d:DfaT):DfaT×Int:=chA acD 4 d
theorem zi2 {d:DfaT} (K0:zg d) (A6:d.of.length=256):zgm d=(zeA d,0):=by
 have hT:=zcs K0;have hN:=zfG hT;have hS:=(zee hN).1;have hS0:=(zee hN).2.1;have e0:chA acD 0 d=(zW d,0):=zge K0
 have e1:chA acD 1 d=(zez (zW d),0):=by
  show zcE (chA acD 0) zc8 d=_;rw[zd7 (by rw[e0]),e0];exact zew hT
 have e2:chA acD 2 d=((zar (zez (zW d))).1,0):=by
  show zcE (chA acD 1) zar d=_;rw[zd7 (by rw[e1]),e1,←hS0]
 have e3:chA acD 3 d=(zH (zar (zez (zW d))).1,0):=by
  show zcE (chA acD 2) zcu d=_;rw[zd7 (by rw[e2]),e2];exact zeg hS
 show zcE (chA acD 3) zdS d=_;rw[zd7 (by rw[e3]),e3];exact zge (ze6 hS (by rw[(zgk hN).1];exact A6))
theorem zie {d:DfaT} (h: ¬zg d):zgm d=(zah,6):=by
 have e0:chA acD 0 d=(zah,6):=zgM h;have e1:chA acD 1 d=(zah,6):=by show zcE (chA acD 0) zc8 d=_;rw[zdy (by rw[e0];decide),e0]
 have e2:chA acD 2 d=(zah,6):=by show zcE (chA acD 1) zar d=_;rw[zdy (by rw[e1];decide),e1]
 have e3:chA acD 3 d=(zah,6):=by show zcE (chA acD 2) zcu d=_;rw[zdy (by rw[e2];decide),e2]
 show zcE (chA acD 3) zdS d=_;rw[zdy (by rw[e3];decide),e3]
theorem zwI (d:DfaT) (h:d.of.length=256):(zc8 d).1.of.length=256:=by
 by_cases K0:zg d
 ·rw[zew K0];exact h
 ·unfold zc8;rw[zia K0];exact We
theorem zo0 (d:DfaT) (h:d.of.length=256):(zdS d).1.of.length=256:=by
 by_cases K0:zg d
 ·rw[zge K0];exact h
 ·rw[zgM K0];exact We
theorem zuu (d:DfaT) (h:d.of.length=256):(zar d).1.of.length=256:=by
 by_cases K0:zg d
 ·rw[(zgk K0).1];exact h
 ·rw[zh6 K0];exact We
theorem zuv (d:DfaT) (h:d.of.length=256):(zcu d).1.of.length=256:=by
 by_cases K0:zg d
 ·rw[zeg K0];exact zus h
 ·rw[zfF K0];exact We
theorem zzj: ∀ (i:Nat) (d:DfaT),d.of.length=256→(acD i d).1.of.length=256
 |0,d,h=>zo0 d h
 |1,d,h=>zwI d h
 |2,d,h=>zuu d h
 |3,d,h=>zuv d h
 |_+4,d,h=>zo0 d h
theorem zp2 (d:DfaT) (P0:zr d):zr (zdS d).1:=by
 by_cases K0:zg d
 ·rw[zge K0];exact zcW P0 K0
 ·rw[zgM K0];exact zcA
theorem zzo {d:DfaT} (P0:zr d) {m:List Int} (h:zaY d m):zr (ofD d m):=by
 obtain⟨h1,h2,h3,h4,h5⟩:=P0;obtain⟨K0,X4,_⟩:=id h;have hl:=zhl d m;have ht:=zZ m;have hr:=zkm h;have h6:=K0.2.1;have h7:=hr.2.2.1;refine⟨by omega,fun r hr=>?_,by omega,h4,h5⟩;obtain⟨s,hs,rfl⟩:=List.mem_map.1 (show r∈(zv m).map (fun s=>zdk d m s.toNat) from hr);unfold zdk;rw[Be,List.getD_eq_getElem?_getD];cases hg:d.next[s.toNat]? with
 |none=>exact Pg _
 |some r=>exact h2 _ (List.mem_of_getElem? hg)
theorem zgn (d:DfaT) (P0:zr d):zr (zar d).1:=by
 by_cases K0:zg d
 ·rw[zed K0];exact zzo (zcW P0 K0) (zev (zcs K0))
 ·rw[zh6 K0];exact zcA
theorem zo1 (d:DfaT) (h:d.of.length=256) (P0:zr d):zr (zcu d).1:=by
 by_cases K0:zg d
 ·rw[zeg K0];exact zgl h P0
 ·rw[zfF K0];exact zcA
theorem zi3 {d:DfaT} (K0:zg d) (A6:d.of.length=256) (P0:zr d):zr (zeA d):=by
 have hT:=zcs K0;have hN:=zfG hT;have hS:=(zee hN).1;have hSf:(zar (zez (zW d))).1.of.length=256:=by rw[(zgk hN).1];exact A6
 have h1:=zg7 (zcW P0 K0);rw[zew hT] at h1;exact zcW (zgl hSf (zgn _ h1)) (ze6 hS hSf)
theorem zi4 {d:DfaT} (K0:zg d) (A6:d.of.length=256):zg (zeA d):=by
 have hN:=zfG (zcs K0);have hSf:(zar (zez (zW d))).1.of.length=256:=by rw[(zgk hN).1];exact A6
 exact zcs (ze6 (zee hN).1 hSf)
theorem zwX (G:zb):StepV G (.func (.func 40) #[] #[]) zdS:=⟨⟨_,_,_,rfl⟩,fun d _ h=>zp2 d h,fun _ P0 hv hR=>zt4 P0 hv hR⟩
theorem zAm (G:zb):StepV G (.func (.func 41) #[] #[]) zc8:=⟨⟨_,_,_,rfl⟩,fun d _ h=>zg7 h,fun _ P0 hv hR=>zx5 P0 hv hR⟩
theorem zzp (G:zb):StepV G (.func (.func 42) #[] #[]) zar:=⟨⟨_,_,_,rfl⟩,fun d _ h=>zgn d h,fun _ P0 hv hR=>zxV P0 hv hR⟩
theorem zzr {G:zb} (hg:zcK G):StepV G (.func (.func 43) #[] #[]) zcu:=⟨⟨_,_,_,rfl⟩,zo1,fun S0 P0 hv hR=>zyb P0 (hg.mono S0) hv hR⟩
theorem zye {d:DfaT} (P0:zr d) {G:zb} {H:za} {R:Value→zb→za→Prop} {v:Value} (hg:zcK G) (hv:IsD G d v)
  (hR: ∀G' v',PLe G G'→Sep G' (zm H)→IsD G' (zgm d).1 v'→R (.tuple #[v', .int .i64 (zgm d).2]) G' H):FnT Tryz.prog 22 [v] G H R:=by
 obtain⟨C,an,al,ay,cn,cl,cs,rs,rfl,O⟩:=hv.opened;have N0:=O.len;have T0:=O.all;refine Zf ?_;refine Ee tok kp5 Tryz.func22 rfl Kk Kk Kn fun M0=>?_;rw[Tryz.results22];have hE:=M0;try simp only[zzs] at hE
 repeat(obtain⟨J0,hE⟩:=hE)
 have U7: ∀v:Value,Fe 5 v=[v,v,v,v,v]:=fun _=>rfl
 repeat' first
  |with_reducible first|refine Zd ?_ |refine Ae (fun _=>?_) fun _=>?_ |refine Nb fun nb A0 C0 B0=>?_ |refine Nr fun nb D0 E0 A0 I0 C0 B0=>?_
  |simp -dsimp -implicitDefEqProofs (disch:=first|exact Kd|fail) only[go_sem,↓reduceIte,seval, -He,Ye,N0,T0,U7]
  |with_reducible refine Vf tok mixed kp5 1 [2] (.op 2 .held (.op 0 .keeps (.op 1 .keeps (.op 3 .plain (.op 4 .plain (.op 5 .plain (.op 6 .plain (.op 7 .plain .nil)))))))) Kk [1] ?_
 rename_i b1 h10 h11 h12 b2 h20 h21 h22;obtain⟨b4,e40⟩: ∃x,x=nb:=⟨_,rfl⟩;subst e40;refine zyd (zwX G) (zAm G) (zzp G) (zzr hg) (zwX G) zzj fun G2 f Q0 R0 hf=>?_;have O2:=O.mono Q0;obtain⟨kf,af,cf,rfl⟩:=hf.shape;have hE:=R0;try simp only[zzs] at hE
 repeat(obtain⟨J0,hE⟩:=hE)
 repeat' first
  |with_reducible first|refine Zd ?_ |refine Ae (fun _=>?_) fun _=>?_ |refine Nb fun nb A0 C0 B0=>?_ |refine Nr fun nb D0 E0 A0 I0 C0 B0=>?_
  |with_reducible refine Vf tok mixed kp5 1 [2] (.op 2 .held (.op 0 .keeps (.op 1 .keeps (.op 3 .plain (.op 4 .plain (.op 5 .plain (.op 6 .plain (.op 7 .plain .nil)))))))) Kk [1] ?_
  |simp -dsimp -implicitDefEqProofs (disch:=first|exact Kd|fail) only[go_sem,↓reduceIte,seval, -He,Ye,N0,T0]
 refine hf.run (PLe.refl _) P0 O2.is fun G3 v3 A1 K1 hI3=>?_;have hI3:IsD G3 (zgm d).1 v3:=hI3;obtain⟨C3,an3,al3,ay3,cn3,cl3,cs3,rs3,rfl,O3⟩:=hI3.opened;have Vb:=O3.len;have Od:=zbg O3.is;have Pd:=zbh Vb;have htk3:Hf 260 C3=C3:=Pe Ko;have hE:=K1;try simp only[zzs] at hE
 repeat(obtain⟨J0,hE⟩:=hE)
 repeat' first
  |with_reducible first|refine Zd ?_ |refine Ae (fun _=>?_) fun _=>?_ |refine Nb fun nb A0 C0 B0=>?_ |refine Nr fun nb D0 E0 A0 I0 C0 B0=>?_
  |with_reducible refine Vf tok mixed kp5 1 [2] (.op 2 .held (.op 0 .keeps (.op 1 .keeps (.op 3 .plain (.op 4 .plain (.op 5 .plain (.op 6 .plain (.op 7 .plain .nil)))))))) Kk [1] ?_
  |simp -dsimp -implicitDefEqProofs (disch:=first|exact Kd|fail) only[go_sem,↓reduceIte,seval, -He,Ye,N0,T0,Vb,Od,Pd,htk3,zj]
 unfold zo;refine Xf (H':=H) Ks ?_;exact fun _ hs=>hR G3 _ (Q0.trans A1) hs O3.is
noncomputable def zg9 (d:DfaT):List UInt8×Int:=haveI:=Mf;if zg d then(zaI (zeA d),0) else([],6)
theorem zqE {d:DfaT} (h:zg d):zg9 d=(zaI (zeA d),0):=by unfold zg9;rw[if_pos h]
theorem zo2 {d:DfaT} (h: ¬zg d):zg9 d=([],6):=by unfold zg9;rw[if_neg h]
theorem zAn {d:DfaT} (P0:zr d) {G:zb} {H:za} {R:Value→zb→za→Prop} {v:Value} (hg:zcK G) (hv:IsD G d v)
  (hR: ∀G',PLe G G'→Sep G' (zm H)→R (.tuple #[str (zg9 d).1, .int .i64 (zg9 d).2]) G' H):FnT Tryz.prog 12 [v] G H R:=by
 obtain⟨C,an,al,ay,cn,cl,cs,rs,rfl,O⟩:=hv.opened;have N0:=O.len;have T0:=O.all;refine Zf ?_;refine Ee tok zlW Tryz.func12 rfl Kk Kk Kn fun M0=>?_;rw[Tryz.results12];have hE:=M0;try simp only[zzs] at hE
 repeat(obtain⟨J0,hE⟩:=hE)
 repeat' first
  |with_reducible first|refine Zd ?_ |refine Ae (fun _=>?_) fun _=>?_ |refine Nb fun nb A0 C0 B0=>?_ |refine Nr fun nb D0 E0 A0 I0 C0 B0=>?_
  |simp -dsimp -implicitDefEqProofs (disch:=first|exact Kd|fail) only[go_sem,↓reduceIte,seval, -He,Ye,N0,T0]
 obtain⟨b1,e10⟩: ∃x,x=nb:=⟨_,rfl⟩;subst e10;refine zye P0 hg O.is fun G2 v2 Q0 R0 K3=>?_;by_cases K0:zg d
 ·rw[zi2 K0 O.ofl] at K3⊢;rw[zqE K0] at hR;have K3:IsD G2 (zeA d) v2:=K3;obtain⟨C2,an2,al2,ay2,cn2,cl2,cs2,rs2,rfl,O2⟩:=K3.opened;have V4:=O2.len;have Y6:=zbg O2.is;have Z6:=zbh V4;have A7:Hf 260 C2=C2:=Pe Ko;have hE:=R0;try simp only[zzs] at hE
  repeat(obtain⟨J0,hE⟩:=hE)
  repeat' first
   |with_reducible first|refine Zd ?_ |refine Ae (fun _=>?_) fun _=>?_ |refine Nb fun nb A0 C0 B0=>?_ |refine Nr fun nb D0 E0 A0 I0 C0 B0=>?_
   |simp -dsimp -implicitDefEqProofs (disch:=first|exact Kd|fail) only[go_sem,↓reduceIte,seval, -He,Ye,N0,T0,V4,Y6,Z6,A7,zj]
  obtain⟨b4,e40⟩: ∃x,x=nb:=⟨_,rfl⟩;subst e40;have hcr:=zi4 K0 O.ofl;refine zrS (zi3 K0 O.ofl P0) hcr O2.is fun v' kb' hbuf K1=>?_;have X1:=zf6 hcr O2.ofl;rcases hbuf with ⟨aa,rfl,h0,_,rfl⟩| ⟨bb,cap,sp,rfl,rfl,R3,F4⟩
  ·have:=(zcL (zeA d)).1;omega
  ·have hE:=K1;try simp only[zzs] at hE
   repeat(obtain⟨J0,hE⟩:=hE)
   repeat' first
    |with_reducible first|refine Zd ?_ |refine Ae (fun _=>?_) fun _=>?_ |refine Nb fun nb A0 C0 B0=>?_ |refine Nr fun nb D0 E0 A0 I0 C0 B0=>?_
    |simp -dsimp -implicitDefEqProofs (disch:=first|exact Kd|fail) only[go_sem,↓reduceIte,seval, -He,Ye,V4,A7]
   unfold zo;refine Xf (H':=H) Ks ?_;exact fun _ hs=>hR G2 Q0 hs
 ·rw[zie K0] at K3⊢;rw[zo2 K0] at hR;have K3:IsD G2 zah v2:=K3;obtain⟨C2,an2,al2,ay2,cn2,cl2,cs2,rs2,rfl,O2⟩:=K3.opened;have V4:=O2.len;have Y6:=zbg O2.is;have Z6:=zbh V4;have hE:=R0;try simp only[zzs] at hE
  repeat(obtain⟨J0,hE⟩:=hE)
  repeat' first
   |with_reducible first|refine Zd ?_ |refine Ae (fun _=>?_) fun _=>?_ |refine Nb fun nb A0 C0 B0=>?_ |refine Nr fun nb D0 E0 A0 I0 C0 B0=>?_
   |simp -dsimp -implicitDefEqProofs (disch:=first|exact Kd|fail) only[go_sem,↓reduceIte,seval, -He,Ye,N0,T0,V4,Y6,Z6,zj]
  all_goals refine De ?_ (fun _ hs=>hR G2 Q0 hs) ?_
  any_goals first|exact Ks|skip
  rfl
theorem zwJ {d:DfaT} (P0:zr d) {G:zb} {H:za} {R:Value→zb→za→Prop} {v:Value} (hv:IsD G d v)
  (hR: ∀G' v',PLe G G'→Sep G' (zm H)→IsD G' (zcu d).1 v'→R (.tuple #[v', .int .i64 (zcu d).2]) G' H):FnT Tryz.prog 47 [v] G H R:=by
 obtain⟨C,an,al,ay,cn,cl,cs,rs,rfl,O⟩:=hv.opened;obtain⟨U3,M2,V3,A4,M4⟩:=id P0;have N0:=O.len;have T0:=O.all;have J1:=O.n;have X0:=O.l;have S2:=O.s;refine Zf ?_;by_cases K0:zg d
 ·have hb:=zA K0;rw[zeg K0] at hR;have U6:(zd (clL d)).length=256:=by rw[zt,zbD O.ofl]
  have O8: ∀x∈zd (clL d),0≤x∧x≤255:=fun x hx=>by
   have h1:=za9 (l:=clL d) hx;have h2:=zZ (clL d);have h3:=zbD O.ofl;omega
  have F6:(u8L (zd (clL d))).length=256:=by rw[Be,U6]
  have Wa:(u8L (zd (clL d))).all zax=true:=by rw[Mg];exact List.all_eq_true.2 fun _ _=>rfl
  have E9:zf (Fe 256 (Yd .u8 0)) 0 (u8L (zd (clL d)))=u8L (zd (clL d)):=by rw[za5,←zeG (zbD O.ofl),zaA]
  have bu1:zf zz 0 (u8L (zd (clL d)))=u8L (zd (clL d))++[Yd .i64 0,Wf none 0 0,Wf none 0 0,Wf none 0 0]:=zdl (d:=zH d) U6;have bu2:zf (u8L (zd (clL d))++[Yd .i64 0,Wf none 0 0,Wf none 0 0,Wf none 0 0]) 256 [Yd .i64 ((zl (clL d)).length:Nat)]=zc (zH d) (.slice none 0 0) (.slice none 0 0) (.slice none 0 0):=zc2 (d:=zH d) U6;have bu3: ∀x,zf (zc (zH d) (.slice none 0 0) (.slice none 0 0) (.slice none 0 0)) 258 [x]=zc (zH d) (.slice none 0 0) x (.slice none 0 0):=fun x=>zaH (d:=zH d) U6 _ _ _ _;have bu4: ∀vl x,zf (zc (zH d) (.slice none 0 0) vl (.slice none 0 0)) 259 [x]=zc (zH d) (.slice none 0 0) vl x:=fun vl x=>zcG (d:=zH d) U6 _ _ _ _;have bu5: ∀vn vl vs x,zf (zc (zH d) vn vl vs) 257 [x]=zc (zH d) x vl vs:=fun vn vl vs x=>zbi (d:=zH d) U6 _ _ _ _;have D4:(u8L (zd (clL d))++[Yd .i64 0,Wf none 0 0,Wf none 0 0,Wf none 0 0]).length=260:=by rw[Ve,F6];rfl
  have Z0: ∀a b c:Value,(zc (zH d) a b c).length=260:=fun a b c=>zN (d:=zH d) U6 _ _ _;have P2: ∀a b c:Value,(zc (zH d) a b c)[257]? =some a:=fun a b c=>zcx (d:=zH d) U6 _ _ _
  have T4: ∀vn vl vs,zf zz 0 (zc (zH d) vn vl vs)=zc (zH d) vn vl vs:=fun vn vl vs=>by
   unfold zf;rw[Se,Af,Gf (by rw[zj,Z0];omega),Bf]
  have S3: ∀ (a a' a'':Option Addr) (b c b' c' b'' c'':Nat),(zc (zH d) (.slice a'' b'' c'') (.slice a b c) (.slice a' b' c')).all zax=true:=fun a a' a'' b c b' c' b'' c''=>zaC rfl rfl rfl;have A7: ∀vn vl vs,Hf 260 (zc (zH d) vn vl vs)=zc (zH d) vn vl vs:=fun vn vl vs=>Pe (by rw[Z0];omega);have L8:Hf 256 (u8L (zd (clL d)))=u8L (zd (clL d)):=Pe Ko;have U1: ∀v:Value,Fe 1 v=[v]:=fun _=>rfl;refine Ee tok zoZ Tryz.func47 rfl Kk Kk Kn fun M0=>?_;rw[Tryz.results47];have hE:=M0;try simp only[zzs] at hE
  repeat(obtain⟨J0,hE⟩:=hE)
  repeat' first
   |with_reducible first|refine Zd ?_ |refine Ae (fun _=>?_) fun _=>?_ |refine Nb fun nb A0 C0 B0=>?_ |refine Nr fun nb D0 E0 A0 I0 C0 B0=>?_
   |simp -dsimp -implicitDefEqProofs (disch:=first|exact Kd|fail) only[go_sem,↓reduceIte,seval, -He,Ye,N0,T0,hb,zj]
   |with_reducible refine za1 P0 O.is fun G0 N7 M1=>?_
  rename_i b1 R3 T8 B8;revert nb;intro b2 F4 J8 A8 M1;have hE:=M1;try simp only[zzs] at hE
  repeat(obtain⟨J0,hE⟩:=hE)
  repeat' first
   |with_reducible first|refine Zd ?_ |refine Ae (fun _=>?_) fun _=>?_ |refine Nb fun nb A0 C0 B0=>?_ |refine Nr fun nb D0 E0 A0 I0 C0 B0=>?_
   |simp -dsimp -implicitDefEqProofs (disch:=first|exact Kd|fail) only[go_sem,↓reduceIte,seval, -He,Ye,N0,T0,zj]
  have O0:=O.mono N7;refine zso P0 O0.is fun G2 Q0 R0=>?_;rw[if_pos hb];have hE:=R0;try simp only[zzs] at hE
  repeat(obtain⟨J0,hE⟩:=hE)
  repeat' first
   |with_reducible first|refine Zd ?_ |refine Ae (fun _=>?_) fun _=>?_ |refine Nb fun nb A0 C0 B0=>?_ |refine Nr fun nb D0 E0 A0 I0 C0 B0=>?_
   |simp -dsimp -implicitDefEqProofs (disch:=first|exact Kd|fail) only[go_sem,↓reduceIte,seval, -He,Ye,N0,T0,hb,We,E9,F6,Wa,L8]
  revert nb;intro b4 hb4 Fc Wb;refine zsn U6 O8 fun G3 v3 A1 K1 T6=>?_;obtain⟨a3,c3,rfl,D2,H9⟩:=T6;have hE:=K1;try simp only[zzs] at hE
  repeat(obtain⟨J0,hE⟩:=hE)
  have Rd:=(N7.trans Q0).trans A1;have O3:=O.mono Rd
  repeat' first
   |with_reducible first|refine Zd ?_ |refine Ae (fun _=>?_) fun _=>?_ |refine Nb fun nb A0 C0 B0=>?_ |refine Nr fun nb D0 E0 A0 I0 C0 B0=>?_
   |simp -dsimp -implicitDefEqProofs (disch:=first|exact Kd|fail) only[go_sem,↓reduceIte,seval, -He,Ye,N0,T0,J1,X0,S2,L8,F6,bu1,bu2,bu3,bu4,D4,Z0,T4,S3,zj]
  revert nb;intro b7 hb7 hb71 hb72;refine Je tok zoZ Kk [1,2,5,6,7,8] (fun q G' fr H'=> ∃ (s:Nat) (vn:Value) (kn:za),s+q=d.next.length∧PLe G3 G'∧zze (za3 d) G' s vn kn∧H'=(b7, .cells (zc (zH d) vn (.slice al d.label.length cl) (.slice ay d.names.length cs)) [] 27):: (b4, .cells (u8L (zd (clL d))) [] 22):: (b2, .cells zz [] 27):: (b1, .cells C [] 27):: (kn++H)∧fr=[(1, .pointer (some ⟨b1,0,none⟩)),(2, .pointer (some ⟨b2,0,none⟩)),(5, .int .i64 (zl (clL d)).length),(6, .slice a3 (zan (zd (clL d))).length c3),(7, .pointer (some ⟨b7,0,none⟩)),(8, .int .i64 (s:Nat))]) (d.next.length) ?_ ?_
  ·exact Ce ⟨0,_,[],by omega,PLe.refl _, .inl ⟨rfl,rfl,rfl⟩,rfl,rfl⟩
  ·rintro q G1 fr H' S0 V0 ⟨s,vn,kn,hsq,Q1,hX,rfl,rfl⟩;by_cases I1:s<d.next.length
   ·have O6:=O3.mono Q1;have hr36:=D2.mono Q1;have B3:Adr an:=O6.rn.adr (by have:=O.rnl;omega);obtain⟨b,cc,e1,e2,e3⟩:=O6.rs s I1 (by have:=O.rnl;omega);obtain⟨E5,F7,C8,D6⟩:=K0.2.2.2.2.2.2 s I1 (by have:=K0.2.2.1;omega);obtain⟨row,U0⟩: ∃row,row=d.next[s]:=⟨_,rfl⟩;rw[←U0] at e1 e2 e3 E5 D6;obtain⟨r,hr⟩: ∃r,r=zic d row:=⟨_,rfl⟩;have I2:r.length=(zl (clL d)).length:=by rw[hr,zid]
    have R6:=zi1 d;have La:=O.rnl;have L3:=zZ (clL d);have V2:=zbD O.ofl;have M7:(za3 d)[s]'(by unfold za3;rw[Be];exact I1)=r:=by simp only[za3,Le];rw[hr,U0]
    have hE:=V0;try simp only[zzs] at hE
    repeat(obtain⟨J0,hE⟩:=hE)
    repeat' first
     |with_reducible first|refine Zd ?_ |refine Ae (fun _=>?_) fun _=>?_ |refine Nb fun nb A0 C0 B0=>?_ |refine Nr fun nb D0 E0 A0 I0 C0 B0=>?_
     |simp -dsimp -implicitDefEqProofs (disch:=first|exact Kd|fail) only[go_sem,↓reduceIte,seval, -He,J1]
    refine Je tok zoZ Kk [1,2,5,6,7,8,9,10] (fun q2 G' fr H'=> ∃ (k br c2:Nat) (spr:List Value),k+q2=r.length∧k+spr.length=c2∧G'=G1∧H'=(br, .cells ((r.take k).map (Yd .i64)) spr 3):: (b7, .cells (zc (zH d) vn (.slice al d.label.length cl) (.slice ay d.names.length cs)) [] 27):: (b4, .cells (u8L (zd (clL d))) [] 22):: (b2, .cells zz [] 27):: (b1, .cells C [] 27):: (kn++H)∧fr=[(1, .pointer (some ⟨b1,0,none⟩)),(2, .pointer (some ⟨b2,0,none⟩)),(5, .int .i64 (zl (clL d)).length),(6, .slice a3 (zan (zd (clL d))).length c3),(7, .pointer (some ⟨b7,0,none⟩)),(8, .int .i64 (s:Nat)),(9, .slice (some ⟨br,0,none⟩) k c2),(10, .int .i64 (k:Nat))]) (r.length) ?_ ?_
    ·exact Ce ⟨0,nb,0,[],by omega,rfl,rfl,rfl,rfl⟩
    ·rintro q2 G2' fr H' hle2' Jb ⟨k,br,c2,spr,hkq,hcc,rfl,rfl,rfl⟩;by_cases Q2:k<r.length
     ·obtain⟨ps,Q6,J3⟩: ∃ps,ps=(r.take k).map (Yd .i64)∧ps.length=k:=⟨_,rfl,by rw[Be,List.length_take];omega⟩;have T2:(r.take (k+1)).map (Yd .i64)=ps++[Yd .i64 r[k]]:=by rw[List.take_succ_eq_append_getElem Q2,List.map_append,←Q6];rfl
      rw[←Q6] at Jb⊢;have hE:=Jb;try simp only[zzs] at hE
      repeat(obtain⟨J0,hE⟩:=hE)
      obtain⟨x,J7,N5⟩:=zg8 O.ofl (d:=d) (k:=k) Ko;have hxl:x<d.of.length:=by rw[O.ofl];exact N5
      have Xa:Adr a3:=hr36.adr (by rw[Be,R6,←I2];omega);have hoc:=zd2 K0 (Me (l:=d.of) (n:=x) (by rw[O.ofl];exact N5));obtain⟨y,hy⟩:=Dg hoc.1;have hyr:y<row.length:=by omega
      have hadb:Adr b:=e2.adr (by rw[Be];omega)
      have Nd:C[x]? =some (.int .u8 (y:Nat)):=by
       have h1:(C.take 256)[x]? =some (.int .u8 d.of[x]):=by rw[O.of,Lg,Xe (by rw[O.ofl];exact N5)];rfl
       rw[List.getElem?_take,if_pos N5,hy] at h1;exact h1
      have P5:row[y]=r[k]:=by
       simp only[hr,zic,Le];have h1:atL d.of ((x:Nat):Int)=(y:Nat):=by rw[zL (by simp only[Yf];rw[O.ofl];exact N5)];simp only[Yf];exact hy
       rw[J7,h1,zL (by simpa using hyr)];simp only[Yf]
      repeat' first
       |with_reducible first|refine Zd ?_ |refine Ae (fun _=>?_) fun _=>?_ |refine Nb fun nb A0 C0 B0=>?_ |refine Nr fun nb D0 E0 A0 I0 C0 B0=>?_
       |simp -dsimp -implicitDefEqProofs (disch:=first|exact Kd|fail) only[go_sem,↓reduceIte,seval, -He,U1,Be,N0,J1,Ie O6.rn,e1,Ie hr36,Ie e2,Le,J7,Nd,P5,J3,Yf]
       |with_reducible refine Wg tok mixed zoZ 13 [2,5,9,12,14] (.op 0 .plain (.op 1 .plain (.op 2 .held (.op 3 .plain (.op 4 .plain (.op 5 .held (.op 6 .plain (.op 7 .plain (.op 8 .plain (.op 9 .held (.op 10 .plain (.op 11 .plain (.op 12 .held (.op 13 .plain (.op 14 .held (.op 15 .keeps (.op 16 .keeps (.op 17 .plain .nil)))))))))))))))))) Kk [(b1, .cells C [] 27)] Ks ?_
      all_goals try(exfalso;omega)
      rw[←T2];exact Oe (H':=_) Ks (Ce ⟨q2 - 1,by omega,k+1,nb,E0,D0,by omega,by simp at I0⊢;omega,rfl,rfl,rfl⟩)
     ·obtain rfl:k=r.length:=by omega
      have hpa:r.take r.length=r:=List.take_length;rw[hpa] at Jb⊢;have hrl5:(r.map (Yd .i64)).length=r.length:=by rw[Be]
      rcases hX with ⟨X2,rfl,rfl⟩| ⟨bn,c1,rv,sp1,rfl,rfl,T3,V7,F5⟩
      ·have hE:=Jb;try simp only[zzs] at hE
       repeat(obtain⟨J0,hE⟩:=hE)
       repeat' first
        |with_reducible first|refine Zd ?_ |refine Ae (fun _=>?_) fun _=>?_ |refine Nb fun nb A0 C0 B0=>?_ |refine Nr fun nb D0 E0 A0 I0 C0 B0=>?_
        |simp -dsimp -implicitDefEqProofs (disch:=first|exact Kd|fail) only[go_sem,↓reduceIte,seval, -He,U1,Z0,P2,bu5]
       refine Oe (H':=(br, .cells (r.map (Yd .i64)) spr 3):: (b7, .cells (zc (zH d) (.slice (some ⟨nb,0,none⟩) 1 E0) (.slice al d.label.length cl) (.slice ay d.names.length cs)) [] 27):: (b4, .cells (u8L (zd (clL d))) [] 22):: (b2, .cells zz [] 27):: (b1, .cells C [] 27):: ([(nb, .cells [.slice (some ⟨br,0,none⟩) r.length c2] D0 24)]++H)) Ks (Jf Ka fun G6 W2 B4 Q7=>?_);refine⟨q - 1,by omega,s+1,_,_,by omega,Q1.trans W2, .inr ⟨nb,E0,_,D0,by rw[X2],rfl,by rw[X2];rfl,by omega,fun i h h2 h3=>?_⟩,rfl,rfl⟩;obtain rfl:i=0:=by omega
       obtain rfl:s=0:=X2;refine⟨some ⟨br,0,none⟩,c2,?_,?_,?_⟩
       ·rw[M7];rfl
       ·rw[M7];exact Q7
       ·rw[M7];omega
      ·have hE:=Jb;try simp only[zzs] at hE
       repeat(obtain⟨J0,hE⟩:=hE)
       repeat' first
        |with_reducible first|refine Zd ?_ |refine Ae (fun _=>?_) fun _=>?_ |refine Nb fun nb A0 C0 B0=>?_ |refine Nr fun nb D0 E0 A0 I0 C0 B0=>?_
        |simp -dsimp -implicitDefEqProofs (disch:=first|exact Kd|fail) only[go_sem,↓reduceIte,seval, -He,U1,Z0,P2,bu5]
       refine Oe (H':=(br, .cells (r.map (Yd .i64)) spr 3):: (b7, .cells (zc (zH d) (.slice (some ⟨nb,0,none⟩) (s+1) E0) (.slice al d.label.length cl) (.slice ay d.names.length cs)) [] 27):: (b4, .cells (u8L (zd (clL d))) [] 22):: (b2, .cells zz [] 27):: (b1, .cells C [] 27):: ([(nb, .cells (rv++[.slice (some ⟨br,0,none⟩) r.length c2]) D0 24)]++H)) Ks (Jf Ka fun G6 W2 B4 Q7=>?_);refine⟨q - 1,by omega,s+1,_,_,by omega,Q1.trans W2, .inr ⟨nb,E0,_,D0,rfl,rfl,by rw[Ve,T3];rfl,by omega,fun i h h2 h3=>?_⟩,rfl,rfl⟩;rcases Eg i s with Z3|Z3
       ·obtain⟨b',c',f1,f2,f3⟩:=F5 i Z3 Ko h3;exact⟨b',c',by rw[Ag Ko];exact f1,f2.mono W2,f3⟩
       ·obtain rfl:i=s:=by omega
        refine⟨some ⟨br,0,none⟩,c2,?_,?_,?_⟩
        ·rw[M7,Ng Ko];simp [T3]
        ·rw[M7];exact Q7
        ·rw[M7];omega
   ·obtain rfl:s=d.next.length:=by omega
    have C1:(za3 d).length=d.next.length:=by unfold za3;rw[Be]
    have O6:=O3.mono Q1;rcases hX with ⟨X2,rfl,rfl⟩| ⟨bn,c1,rv,sp1,rfl,rfl,T3,V7,F5⟩
    ·have:=K0.1;have:=K0.2.2.1;omega
    ·have hE:=V0;try simp only[zzs] at hE
     repeat(obtain⟨J0,hE⟩:=hE)
     repeat' first
      |with_reducible first|refine Zd ?_ |refine Ae (fun _=>?_) fun _=>?_ |refine Nb fun nb A0 C0 B0=>?_ |refine Nr fun nb D0 E0 A0 I0 C0 B0=>?_
      |simp -dsimp -implicitDefEqProofs (disch:=first|exact Kd|fail) only[go_sem,↓reduceIte,seval, -He,Ye,J1,Z0,T4,S3,A7,zj]
     unfold zo;refine Oe (H':=(bn, .cells rv sp1 24)::H) Ks (Jf Ka fun G6 W2 B4 Q7=>?_)
     exact fun _ hs=>hR G6 _ (Rd.trans (Q1.trans W2)) hs ⟨U6,O8,_,_,_,rfl,⟨some ⟨bn,0,none⟩,c1,rv,by show _=Wf _ (za3 d).length _;rw[C1],Q7,by show _=(za3 d).length;omega,by show(za3 d).length≤_;omega,fun i h h2=>by
       obtain⟨b',c',f1,f2,f3⟩:=F5 i (by have:i< (za3 d).length:=h;omega) h2 h;exact⟨b',c',f1,f2.mono W2,f3⟩⟩,(O6.mono W2).label,(O6.mono W2).names⟩
 ·have hb:=zu K0;rw[zfF K0] at hR;refine Ee tok zoZ Tryz.func47 rfl Kk Kk Kn fun M0=>?_;rw[Tryz.results47];have hE:=M0;try simp only[zzs] at hE
  repeat(obtain⟨J0,hE⟩:=hE)
  repeat' first
   |with_reducible first|refine Zd ?_ |refine Ae (fun _=>?_) fun _=>?_ |refine Nb fun nb A0 C0 B0=>?_ |refine Nr fun nb D0 E0 A0 I0 C0 B0=>?_
   |simp -dsimp -implicitDefEqProofs (disch:=first|exact Kd|fail) only[go_sem,↓reduceIte,seval, -He,Ye,N0,T0,hb,zj,zG,zI,zM]
   |with_reducible refine za1 P0 O.is fun G0 N7 M1=>?_
  rename_i b1 R3 T8 B8;revert nb;intro b2 F4 J8 A8 M1;have hE:=M1;try simp only[zzs] at hE
  repeat(obtain⟨J0,hE⟩:=hE)
  repeat' first
   |with_reducible first|refine Zd ?_ |refine Ae (fun _=>?_) fun _=>?_ |refine Nb fun nb A0 C0 B0=>?_ |refine Nr fun nb D0 E0 A0 I0 C0 B0=>?_
   |simp -dsimp -implicitDefEqProofs (disch:=first|exact Kd|fail) only[go_sem,↓reduceIte,seval, -He,Ye,N0,T0,hb,zj,zG,zI,zM]
  unfold zo;refine Xf (H':=H) Ks ?_;exact fun _ hs=>hR G0 _ N7 hs (zak _)
set_option maxRecDepth 8000 in
theorem zwK {d:DfaT} (P0:zr d) {G:zb} {H:za} {R:Value→zb→za→Prop} {v:Value} (hv:IsD G d v)
  (hR: ∀G' v',PLe G G'→Sep G' (zm H)→IsD G' (zgm d).1 v'→R (.tuple #[v', .int .i64 (zgm d).2]) G' H):FnT Tryz.prog 23 [v] G H R:=by
 obtain⟨C,an,al,ay,cn,cl,cs,rs,rfl,O⟩:=hv.opened;have N0:=O.len;have T0:=O.all;refine Zf ?_;by_cases K0:zg d
 ·have hb:=zA K0;have hT:=zcs K0;have hts:=zcW P0 K0;have hN:=zfG hT
  have E9:zr (zez (zW d)):=by
   have:=zg7 hts;rw[zew hT] at this;exact this
  have hSr:=(zee hN).1;have hS0:=(zee hN).2.1;have hSs:=zgn _ E9;have hSf:(zar (zez (zW d))).1.of.length=256:=by rw[(zgk hN).1];exact O.ofl
  have hMr:=ze6 hSr hSf;have hMs:=zgl hSf hSs;rw[zi2 K0 O.ofl] at hR;have hR: ∀G' v',PLe G G'→Sep G' (zm H)→IsD G' (zW (zH (zar (zez (zW d))).1)) v'→R (.tuple #[v', .int .i64 0]) G' H:=hR;obtain⟨N,hN'⟩: ∃N,N=zez (zW d):=⟨_,rfl⟩;have L8:zc8 (zW d)=(N,0):=by rw[hN'];exact zew hT
  rw[←hN'] at hN E9 hSr hS0 hSs hSf hMr hMs hR;obtain⟨S,hS⟩: ∃S,S=(zar N).1:=⟨_,rfl⟩;rw[←hS] at hSr hSs hSf hMr hMs hR;refine Ee tok zzh Tryz.func23 rfl Kk Kk Kn fun M0=>?_;rw[Tryz.results23];have hE:=M0;try simp only[zzs] at hE
  repeat(obtain⟨J0,hE⟩:=hE)
  repeat' first
   |with_reducible first|refine Zd ?_ |refine Ae (fun _=>?_) fun _=>?_ |refine Nb fun nb A0 C0 B0=>?_ |refine Nr fun nb D0 E0 A0 I0 C0 B0=>?_
   |simp -dsimp -implicitDefEqProofs (disch:=first|exact Kd|fail) only[go_sem,↓reduceIte,seval, -He,Ye,N0,T0,hb]
  refine za1 P0 O.is fun G0 N7 M1=>?_;rw[hb];have hE:=M1;try simp only[zzs] at hE
  repeat(obtain⟨J0,hE⟩:=hE)
  repeat' first
   |with_reducible first|refine Zd ?_ |refine Ae (fun _=>?_) fun _=>?_ |refine Nb fun nb A0 C0 B0=>?_ |refine Nr fun nb D0 E0 A0 I0 C0 B0=>?_
   |simp -dsimp -implicitDefEqProofs (disch:=first|exact Kd|fail) only[go_sem,↓reduceIte,seval, -He,Ye,N0,T0]
  refine zl0 P0 K0 (O.is.mono N7) fun G1 v1 N2 V0 hI1=>?_;have hE:=V0;try simp only[zzs] at hE
  repeat(obtain⟨J0,hE⟩:=hE)
  repeat' first
   |with_reducible first|refine Zd ?_ |refine Ae (fun _=>?_) fun _=>?_ |refine Nb fun nb A0 C0 B0=>?_ |refine Nr fun nb D0 E0 A0 I0 C0 B0=>?_
   |simp -dsimp -implicitDefEqProofs (disch:=first|exact Kd|fail) only[go_sem,↓reduceIte,seval, -He,Ye,N0,T0]
  refine zuk hts hI1 fun G2 v2 Q0 R0 K3=>?_;rw[L8] at K3⊢;have K3:IsD G2 N v2:=K3;obtain⟨C2,an2,al2,ay2,cn2,cl2,cs2,rs2,rfl,O2⟩:=K3.opened;have V4:=O2.len;have Y6:=zbg O2.is;have Z6:=zbh V4;have A7:Hf 260 C2=C2:=Pe Ko;have hE:=R0;try simp only[zzs] at hE
  repeat(obtain⟨J0,hE⟩:=hE)
  repeat' first
   |with_reducible first|refine Zd ?_ |refine Ae (fun _=>?_) fun _=>?_ |refine Nb fun nb A0 C0 B0=>?_ |refine Nr fun nb D0 E0 A0 I0 C0 B0=>?_
   |simp -dsimp -implicitDefEqProofs (disch:=first|exact Kd|fail) only[go_sem,↓reduceIte,seval, -He,Ye,N0,T0,V4,Y6,Z6,A7,zj]
  refine zwa E9 hN O2.is fun G3 v3 A1 K1 hI3=>?_;rw[hS0];rw[←hS] at hI3;obtain⟨C3,an3,al3,ay3,cn3,cl3,cs3,rs3,rfl,O3⟩:=hI3.opened;have Vb:=O3.len;have Od:=zbg O3.is;have Pd:=zbh Vb;have htk3:Hf 260 C3=C3:=Pe Ko;have hE:=K1;try simp only[zzs] at hE
  repeat(obtain⟨J0,hE⟩:=hE)
  repeat' first
   |with_reducible first|refine Zd ?_ |refine Ae (fun _=>?_) fun _=>?_ |refine Nb fun nb A0 C0 B0=>?_ |refine Nr fun nb D0 E0 A0 I0 C0 B0=>?_
   |simp -dsimp -implicitDefEqProofs (disch:=first|exact Kd|fail) only[go_sem,↓reduceIte,seval, -He,Ye,V4,Vb,Od,Pd,htk3,zj]
  refine zwJ hSs O3.is fun G4 v4 Z1 S1 hI4=>?_;rw[zeg hSr] at hI4⊢;have hI4:IsD G4 (zH S) v4:=hI4;obtain⟨C4,an4,al4,ay4,cn4,cl4,cs4,rs4,rfl,O4⟩:=hI4.opened;have Dc:=O4.len;have Ld:=zbg O4.is;have Md:=zbh Dc;have htk4:Hf 260 C4=C4:=Pe Ko;have hE:=S1;try simp only[zzs] at hE
  repeat(obtain⟨J0,hE⟩:=hE)
  repeat' first
   |with_reducible first|refine Zd ?_ |refine Ae (fun _=>?_) fun _=>?_ |refine Nb fun nb A0 C0 B0=>?_ |refine Nr fun nb D0 E0 A0 I0 C0 B0=>?_
   |simp -dsimp -implicitDefEqProofs (disch:=first|exact Kd|fail) only[go_sem,↓reduceIte,seval, -He,Ye,Vb,Dc,Ld,Md,htk4,zj]
  refine zl0 hMs hMr O4.is fun G5 v5 A2 P1 hI5=>?_;obtain⟨C5,an5,al5,ay5,cn5,cl5,cs5,rs5,rfl,O5⟩:=hI5.opened;have Db:=O5.len;have Qc:=zbg O5.is;have Rc:=zbh Db;have Sc:Hf 260 C5=C5:=Pe Ko;have hE:=P1;try simp only[zzs] at hE
  repeat(obtain⟨J0,hE⟩:=hE)
  repeat' first
   |with_reducible first|refine Zd ?_ |refine Ae (fun _=>?_) fun _=>?_ |refine Nb fun nb A0 C0 B0=>?_ |refine Nr fun nb D0 E0 A0 I0 C0 B0=>?_
   |simp -dsimp -implicitDefEqProofs (disch:=first|exact Kd|fail) only[go_sem,↓reduceIte,seval, -He,Ye,Db,Qc,Rc,Sc,zj]
  unfold zo;refine Xf (H':=H) Ks ?_;exact fun _ hs=>hR G5 _ (N7.trans (N2.trans (Q0.trans (A1.trans (Z1.trans A2))))) hs O5.is
 ·have hb:=zu K0;rw[zie K0] at hR;refine Ee tok zzh Tryz.func23 rfl Kk Kk Kn fun M0=>?_;rw[Tryz.results23];have hE:=M0;try simp only[zzs] at hE
  repeat(obtain⟨J0,hE⟩:=hE)
  repeat' first
   |with_reducible first|refine Zd ?_ |refine Ae (fun _=>?_) fun _=>?_ |refine Nb fun nb A0 C0 B0=>?_ |refine Nr fun nb D0 E0 A0 I0 C0 B0=>?_
   |simp -dsimp -implicitDefEqProofs (disch:=first|exact Kd|fail) only[go_sem,↓reduceIte,seval, -He,Ye,N0,T0,hb]
  refine za1 P0 O.is fun G0 N7 M1=>?_;rw[hb];have hE:=M1;try simp only[zzs] at hE
  repeat(obtain⟨J0,hE⟩:=hE)
  repeat' first
   |with_reducible first|refine Zd ?_ |refine Ae (fun _=>?_) fun _=>?_ |refine Nb fun nb A0 C0 B0=>?_ |refine Nr fun nb D0 E0 A0 I0 C0 B0=>?_
   |simp -dsimp -implicitDefEqProofs (disch:=first|exact Kd|fail) only[go_sem,↓reduceIte,seval, -He,Ye,N0,T0,zj,zG,zI,zM]
  unfold zo;refine Xf (H':=H) Ks ?_;exact fun _ hs=>hR G0 _ N7 hs (zak _)
theorem zzt {d:DfaT} (P0:zr d) {G:zb} {H:za} {R:Value→zb→za→Prop} {v:Value} (hv:IsD G d v)
  (hR: ∀G',PLe G G'→Sep G' (zm H)→R (.tuple #[str (zg9 d).1, .int .i64 (zg9 d).2]) G' H):FnT Tryz.prog 13 [v] G H R:=by
 obtain⟨C,an,al,ay,cn,cl,cs,rs,rfl,O⟩:=hv.opened;have N0:=O.len;have T0:=O.all;refine Zf ?_;refine Ee tok zlW Tryz.func13 rfl Kk Kk Kn fun M0=>?_;rw[Tryz.results13];have hE:=M0;try simp only[zzs] at hE
 repeat(obtain⟨J0,hE⟩:=hE)
 repeat' first
  |with_reducible first|refine Zd ?_ |refine Ae (fun _=>?_) fun _=>?_ |refine Nb fun nb A0 C0 B0=>?_ |refine Nr fun nb D0 E0 A0 I0 C0 B0=>?_
  |simp -dsimp -implicitDefEqProofs (disch:=first|exact Kd|fail) only[go_sem,↓reduceIte,seval, -He,Ye,N0,T0]
 obtain⟨b1,e10⟩: ∃x,x=nb:=⟨_,rfl⟩;subst e10;refine zwK P0 O.is fun G2 v2 Q0 R0 K3=>?_;by_cases K0:zg d
 ·rw[zi2 K0 O.ofl] at K3⊢;rw[zqE K0] at hR;have K3:IsD G2 (zeA d) v2:=K3;obtain⟨C2,an2,al2,ay2,cn2,cl2,cs2,rs2,rfl,O2⟩:=K3.opened;have V4:=O2.len;have Y6:=zbg O2.is;have Z6:=zbh V4;have A7:Hf 260 C2=C2:=Pe Ko;have hE:=R0;try simp only[zzs] at hE
  repeat(obtain⟨J0,hE⟩:=hE)
  repeat' first
   |with_reducible first|refine Zd ?_ |refine Ae (fun _=>?_) fun _=>?_ |refine Nb fun nb A0 C0 B0=>?_ |refine Nr fun nb D0 E0 A0 I0 C0 B0=>?_
   |simp -dsimp -implicitDefEqProofs (disch:=first|exact Kd|fail) only[go_sem,↓reduceIte,seval, -He,Ye,N0,T0,V4,Y6,Z6,A7,zj]
  obtain⟨b4,e40⟩: ∃x,x=nb:=⟨_,rfl⟩;subst e40;have hcr:=zi4 K0 O.ofl;refine ztv (zi3 K0 O.ofl P0) hcr O2.is fun v' kb' hbuf K1=>?_;have X1:=zf6 hcr O2.ofl;rcases hbuf with ⟨aa,rfl,h0,_,rfl⟩| ⟨bb,cap,sp,rfl,rfl,R3,F4⟩
  ·have:=(zcL (zeA d)).1;omega
  ·have hE:=K1;try simp only[zzs] at hE
   repeat(obtain⟨J0,hE⟩:=hE)
   repeat' first
    |with_reducible first|refine Zd ?_ |refine Ae (fun _=>?_) fun _=>?_ |refine Nb fun nb A0 C0 B0=>?_ |refine Nr fun nb D0 E0 A0 I0 C0 B0=>?_
    |simp -dsimp -implicitDefEqProofs (disch:=first|exact Kd|fail) only[go_sem,↓reduceIte,seval, -He,Ye,V4,A7]
   unfold zo;refine Xf (H':=H) Ks ?_;exact fun _ hs=>hR G2 Q0 hs
 ·rw[zie K0] at K3⊢;rw[zo2 K0] at hR;have K3:IsD G2 zah v2:=K3;obtain⟨C2,an2,al2,ay2,cn2,cl2,cs2,rs2,rfl,O2⟩:=K3.opened;have V4:=O2.len;have Y6:=zbg O2.is;have Z6:=zbh V4;have hE:=R0;try simp only[zzs] at hE
  repeat(obtain⟨J0,hE⟩:=hE)
  repeat' first
   |with_reducible first|refine Zd ?_ |refine Ae (fun _=>?_) fun _=>?_ |refine Nb fun nb A0 C0 B0=>?_ |refine Nr fun nb D0 E0 A0 I0 C0 B0=>?_
   |simp -dsimp -implicitDefEqProofs (disch:=first|exact Kd|fail) only[go_sem,↓reduceIte,seval, -He,Ye,N0,T0,V4,Y6,Z6,zj]
  all_goals refine De ?_ (fun _ hs=>hR G2 Q0 hs) ?_
  any_goals first|exact Ks|skip
  rfl
theorem zwL {d:DfaT} (P0:zr d) {G:zb} {H:za} {R:Value→zb→za→Prop} {v:Value} (hv:IsD G d v)
  (hR: ∀G' v',PLe G G'→Sep G' (zm H)→Sl G' zp v' (zdm d).1→R (.tuple #[v', .int .i64 (zdm d).2]) G' H):FnT Tryz.prog 6 [v] G H R:=by
 obtain⟨C,an,al,ay,cn,cl,cs,rs,rfl,O⟩:=hv.opened;have N0:=O.len;have T0:=O.all;refine Zf ?_;refine Ee tok zvt Tryz.func6 rfl Kk Kk Kn fun M0=>?_;rw[Tryz.results6];have hE:=M0;try simp only[zzs] at hE
 repeat(obtain⟨J0,hE⟩:=hE)
 repeat' first
  |with_reducible first|refine Zd ?_ |refine Ae (fun _=>?_) fun _=>?_ |refine Nb fun nb A0 C0 B0=>?_
  |simp -dsimp -implicitDefEqProofs (disch:=first|exact Kd|fail) only[go_sem,↓reduceIte,seval, -He,Ye,N0,T0]
 obtain⟨b1,e0⟩: ∃x,x=nb:=⟨_,rfl⟩;subst e0;refine za1 P0 O.is fun G1 N2 V0=>?_;have O1:=O.mono N2;by_cases K0:zg d
 ·have hb:=zA K0;rw[zgJ K0] at hR;rw[hb];have hE:=V0;try simp only[zzs] at hE
  repeat(obtain⟨J0,hE⟩:=hE)
  repeat' first
   |with_reducible first|refine Zd ?_ |refine Ae (fun _=>?_) fun _=>?_ |refine Nb fun nb A0 C0 B0=>?_
   |simp -dsimp -implicitDefEqProofs (disch:=first|exact Kd|fail) only[go_sem,↓reduceIte,seval, -He,Ye,N0,T0]
  refine ztv P0 K0 O1.is fun v8 kb8 hbf8 B6=>?_;have R6:=zf6 K0 O.ofl;obtain⟨x8,c8,sp8,rfl,rfl,Ea⟩:=hbf8.own (by have:=(zcL d).1;omega);have hE:=B6;try simp only[zzs] at hE
  repeat(obtain⟨J0,hE⟩:=hE)
  repeat' first
   |with_reducible first|refine Zd ?_ |refine Ae (fun _=>?_) fun _=>?_ |refine Nb fun nb A0 C0 B0=>?_
   |simp -dsimp -implicitDefEqProofs (disch:=first|exact Kd|fail) only[go_sem,↓reduceIte,seval, -He,Ye,N0,T0]
  unfold zo;refine Oe (H':=(x8, .cells ((zaI d).map zp) sp8 5)::H) Ks (Jf Ka fun G9 X5 P6 S6=>?_);exact fun _ hs=>hR G9 _ (N2.trans X5) hs ⟨_,_,rfl,S6,by show(zaI d).length≤_;omega⟩
 ·have hb:=zu K0;rw[zhS K0] at hR;rw[hb];have hE:=V0;try simp only[zzs] at hE
  repeat(obtain⟨J0,hE⟩:=hE)
  repeat' first
   |with_reducible first|refine Zd ?_ |refine Ae (fun _=>?_) fun _=>?_ |refine Nb fun nb A0 C0 B0=>?_
   |simp -dsimp -implicitDefEqProofs (disch:=first|exact Kd|fail) only[go_sem,↓reduceIte,seval, -He,Ye,N0,T0]
  unfold zo;refine Xf (H':=H) Ks ?_;exact fun _ hs=>hR G1 _ N2 hs ⟨none,0,rfl,Row.nil _ _,Qe _⟩
theorem zsp {d:DfaT} (A6:d.of.length=256):(zdm d).1.length≤50000004:=by
 by_cases K0:zg d
 ·rw[zgJ K0];exact zf6 K0 A6
 ·rw[zhS K0];exact Pg _
set_option maxRecDepth 8000 in
theorem zp3 {d:DfaT} (P0:zr d) {G:zb} {H:za} {R:Value→zb→za→Prop} {v:Value} (hg:zcK G) (hv:IsD G d v)
  (hR: ∀G',PLe G G'→R (.bool true) G' H):FnT Tryz.prog 3 [v] G H R:=by
 obtain⟨C,an,al,ay,cn,cl,cs,rs,rfl,O⟩:=hv.opened;have N0:=O.len;have T0:=O.all;have F8:=zsp (d:=d) O.ofl;have hpb:=fun(R:Value→zb→za→Prop) (G:zb) (H:za) (v:Value) (hv:IsD G d v)=>zok P0 (R:=R) (H:=H) hv;have hrb:=fun(R:Value→zb→za→Prop) (G:zb) (H:za) (v:Value) (hv:IsD G d v)=>zwL P0 (R:=R) (H:=H) hv;obtain⟨L,hL⟩: ∃L,L=(zdm d).1:=⟨_,rfl⟩;obtain⟨E,hE⟩: ∃E,E=(zdm d).2:=⟨_,rfl⟩;simp only[←hL,←hE] at hpb hrb F8;have hpk:=fun(R:Value→zb→za→Prop) (G:zb) (H:za) (v:Value) (hg:zcK G) (hv:IsD G d v)=>zAn P0 (R:=R) (H:=H) hg hv;have X9:=fun(R:Value→zb→za→Prop) (G:zb) (H:za) (v:Value) (hv:IsD G d v)=>zzt P0 (R:=R) (H:=H) hv;obtain⟨X,hX⟩: ∃X,X=(zg9 d).1:=⟨_,rfl⟩;obtain⟨F,hF⟩: ∃F,F=(zg9 d).2:=⟨_,rfl⟩;simp only[←hX,←hF] at hpk X9;clear hL hE hX hF;have hxx:(X==X)=true:=by simp
 have R6:(L==L)=true:=by simp
 refine Ee tok [0,1,2,3,4,5,6,7,8,9,10,37,44] Tryz.func3 rfl Kk Kk Kn fun M0=>?_;rw[Tryz.results3];have hE:=M0;try simp only[zzs] at hE
 repeat(obtain⟨J0,hE⟩:=hE)
 repeat' first
  |with_reducible first|refine Zd ?_ |refine Ae (fun _=>?_) fun _=>?_ |refine Nb fun nb A0 C0 B0=>?_ |refine Nr fun nb D0 E0 A0 I0 C0 B0=>?_
  |simp -dsimp -implicitDefEqProofs (disch:=first|exact Kd|fail) only[go_sem,↓reduceIte,seval, -He,Ye,N0,T0]
 obtain⟨b1,e10⟩: ∃x,x=nb:=⟨_,rfl⟩;subst e10;refine hpb _ _ _ _ O.is fun G1 v1 N2 V0 hsl1=>?_;have hE:=V0;try simp only[zzs] at hE
 repeat(obtain⟨J0,hE⟩:=hE)
 repeat' first
  |with_reducible first|refine Zd ?_ |refine Ae (fun _=>?_) fun _=>?_ |refine Nb fun nb A0 C0 B0=>?_ |refine Nr fun nb D0 E0 A0 I0 C0 B0=>?_
  |simp -dsimp -implicitDefEqProofs (disch:=first|exact Kd|fail) only[go_sem,↓reduceIte,seval, -He,Ye,N0,T0]
 refine hrb _ _ _ _ (O.is.mono N2) fun G2 v2 Q0 R0 V5=>?_;have k2:=N2.trans Q0;have hsl1:=hsl1.mono Q0;have hsl1':=hsl1;have hsl2':=V5;obtain⟨a1,c1,rfl,U1,V7⟩:=hsl1;obtain⟨a2,c2,rfl,V1,J4⟩:=V5;have hd1: ∀ (H:za) (k:List Value→Prop),rdSl G2 H a1 L.length k=k (L.map zp):=fun H k=>U1.rdSlAll (by rw[Be]) H k;have hd2: ∀ (H:za) (k:List Value→Prop),rdSl G2 H a2 L.length k=k (L.map zp):=fun H k=>V1.rdSlAll (by rw[Be]) H k;have hE:=R0;try simp only[zzs] at hE
 repeat(obtain⟨J0,hE⟩:=hE)
 repeat' first
  |with_reducible first|refine Zd ?_ |refine Ae (fun _=>?_) fun _=>?_ |refine Nb fun nb A0 C0 B0=>?_ |refine Nr fun nb D0 E0 A0 I0 C0 B0=>?_
  |simp -dsimp -implicitDefEqProofs (disch:=first|exact Kd|fail) only[go_sem,↓reduceIte,seval, -He,Ye,N0,T0,hd1,hd2,R6]
  |with_reducible refine zn1 Ko hsl1' ?_
  |with_reducible refine zyv Ko hsl1' ?_
 refine za1 P0 (O.is.mono k2) fun G3 A1 K1=>?_;have k3:=k2.trans A1;have hE:=K1;try simp only[zzs] at hE
 repeat(obtain⟨J0,hE⟩:=hE)
 cases hb:zaz (zg d)
 all_goals
  repeat' first
   |with_reducible first|refine Zd ?_ |refine Ae (fun _=>?_) fun _=>?_ |refine Nb fun nb A0 C0 B0=>?_ |refine Nr fun nb D0 E0 A0 I0 C0 B0=>?_
   |simp -dsimp -implicitDefEqProofs (disch:=first|exact Kd|fail) only[go_sem,↓reduceIte,seval, -He,Ye,N0,T0]
 ·refine hpk _ _ _ _ (hg.mono k3) (O.is.mono k3) fun G4 Z1 S1=>?_;have k4:=k3.trans Z1;have hE:=S1;try simp only[zzs] at hE
  repeat(obtain⟨J0,hE⟩:=hE)
  repeat' first
   |with_reducible first|refine Zd ?_ |refine Ae (fun _=>?_) fun _=>?_ |refine Nb fun nb A0 C0 B0=>?_ |refine Nr fun nb D0 E0 A0 I0 C0 B0=>?_
   |simp -dsimp -implicitDefEqProofs (disch:=first|exact Kd|fail) only[go_sem,↓reduceIte,seval, -He,Ye,N0,T0]
  refine X9 _ _ _ _ (O.is.mono k4) fun G5 A2 P1=>?_;have hE:=P1;try simp only[zzs] at hE
  repeat(obtain⟨J0,hE⟩:=hE)
  repeat' first
   |with_reducible first|refine Zd ?_ |refine Ae (fun _=>?_) fun _=>?_ |refine Nb fun nb A0 C0 B0=>?_ |refine Nr fun nb D0 E0 A0 I0 C0 B0=>?_
   |simp -dsimp -implicitDefEqProofs (disch:=first|exact Kd|fail) only[go_sem,↓reduceIte,seval, -He,Ye,N0,T0,hxx]
   | ((with_reducible refine zlQ fun G7 W2 B4=>?_);(have hE:=B4;try simp only[zzs] at hE;repeat(obtain⟨J0,hE⟩:=hE)))
  all_goals refine De ?_ (hR G7 (k4.trans (A2.trans W2))) ?_
  any_goals first|exact Ks|skip
  all_goals rfl
 ·refine zt6 P0 (O.is.mono k3) fun G4 Z1 S1=>?_;have k4:=k3.trans Z1;have hE:=S1;try simp only[zzs] at hE
  repeat(obtain⟨J0,hE⟩:=hE)
  cases h30:zlY d 30
  ·repeat' first
    |with_reducible first|refine Zd ?_ |refine Ae (fun _=>?_) fun _=>?_ |refine Nb fun nb A0 C0 B0=>?_ |refine Nr fun nb D0 E0 A0 I0 C0 B0=>?_
    |simp -dsimp -implicitDefEqProofs (disch:=first|exact Kd|fail) only[go_sem,↓reduceIte,seval, -He,Ye,N0,T0]
    | ((with_reducible refine zlQ fun G7 W2 B4=>?_);(have hE:=B4;try simp only[zzs] at hE;repeat(obtain⟨J0,hE⟩:=hE)))
   all_goals refine De ?_ (hR G7 (k4.trans W2)) ?_
   any_goals first|exact Ks|skip
   all_goals rfl
  ·repeat' first
    |with_reducible first|refine Zd ?_ |refine Ae (fun _=>?_) fun _=>?_ |refine Nb fun nb A0 C0 B0=>?_ |refine Nr fun nb D0 E0 A0 I0 C0 B0=>?_
    |simp -dsimp -implicitDefEqProofs (disch:=first|exact Kd|fail) only[go_sem,↓reduceIte,seval, -He,Ye,N0,T0]
   refine hpk _ _ _ _ (hg.mono k4) (O.is.mono k4) fun G5 A2 P1=>?_;have k5:=k4.trans A2;have hE:=P1;try simp only[zzs] at hE
   repeat(obtain⟨J0,hE⟩:=hE)
   repeat' first
    |with_reducible first|refine Zd ?_ |refine Ae (fun _=>?_) fun _=>?_ |refine Nb fun nb A0 C0 B0=>?_ |refine Nr fun nb D0 E0 A0 I0 C0 B0=>?_
    |simp -dsimp -implicitDefEqProofs (disch:=first|exact Kd|fail) only[go_sem,↓reduceIte,seval, -He,Ye,N0,T0]
   refine X9 _ _ _ _ (O.is.mono k5) fun G6 Q1 E3=>?_;have hE:=E3;try simp only[zzs] at hE
   repeat(obtain⟨J0,hE⟩:=hE)
   repeat' first
    |with_reducible first|refine Zd ?_ |refine Ae (fun _=>?_) fun _=>?_ |refine Nb fun nb A0 C0 B0=>?_ |refine Nr fun nb D0 E0 A0 I0 C0 B0=>?_
    |simp -dsimp -implicitDefEqProofs (disch:=first|exact Kd|fail) only[go_sem,↓reduceIte,seval, -He,Ye,N0,T0,hxx]
    | ((with_reducible refine zlQ fun G7 W2 B4=>?_);(have hE:=B4;try simp only[zzs] at hE;repeat(obtain⟨J0,hE⟩:=hE)))
   all_goals refine De ?_ (hR G7 (k5.trans (Q1.trans W2))) ?_
   any_goals first|exact Ks|skip
   all_goals rfl
end Go.Proofs.YtomdbjfdbkejoaaGreatDoor
namespace Go.Proofs.YtomdbjfdbkejoaaGreatDoor.lawPackBytes
open Go Go.V Go.Proofs Go.ChangeShapes Go.WideShapes Go.RowKit
theorem own:ownKnob Tryz.prog.godebug=none:=by kernel_rfl
theorem zzu:Tryz.prog.globalNamed "math/bits.deBruijn64tab" =some 0:=by kernel_rfl
theorem zwM:(Tryz.prog.globals[0]?).map (·.type)=some 185:=by kernel_rfl
theorem zzv:Tryz.prog.cellsOf 185=64:=by kernel_rfl
theorem zzw:Tryz.prog.cellsOf 5=1:=by kernel_rfl
def zzx:List Int:=[0,1,56,2,57,49,28,3,61,58,42,50,38,29,17,4,62,47,59,36,45,43,51,22,53,39,33,30,24,18,12,5,63,55,48,27,60,41,37,16,46,35,44,21,52,32,23,11,54,26,40,15,34,20,31,10,25,14,19,9,13,8,7,6]
theorem zAo {W:World} (h:laidMetH Tryz.prog Rows.packBytesUptoRow.laid W):Lib.TabIs Tryz.prog W "math/bits.deBruijn64tab" .u8 zzx:=
 Lib.tabIs_of_head (rest:=[]) zzu zwM Tryz.underlying185 Tryz.underlying5 zzw zzv h
theorem zzy {W:World} (h:laidMetH Tryz.prog Rows.packBytesUptoRow.laid W):zbP (fun b=>W.heap[b]?) 0 0 (zzx.map (Yd .u8)):=
 zbI.rowAt (W:=W) (fun j hj=>by
  rw[Be] at hj;have:=(zAo h).cell zzu j hj;rw[Nat.zero_add,Le,this];simp [List.getD,hj]) (by decide)
mutual
theorem bulk {H:Type}: ∀d:DataW H,zaw d≤Rows.uptoBulk d
 | .lit l=>by cases l <;> simp [zaw,Rows.uptoBulk]
 | .nil=>by simp [zaw,Rows.uptoBulk]
 | .ptr d=>by have:=bulk d;simp only[zaw,Rows.uptoBulk];omega
 | .slice elems spare=>by have:=bulks elems;have:=bulks spare;simp only[zaw,Rows.uptoBulk];omega
 | .agg parts=>by have:=bulks parts;simp only[zaw,Rows.uptoBulk];omega
 | .iface _ d=>by have:=bulk d;simp only[zaw,Rows.uptoBulk];omega
 | .map entries=>by simp [zaw]
 | .held _=>by simp [zaw,Rows.uptoBulk]
theorem bulks {H:Type}: ∀l:List (DataW H),bulkVs l≤Rows.uptoBulkAll l
 | []=>by simp [bulkVs]
 |d::l=>by have:=bulk d;have:=bulks l;simp only[bulkVs,Rows.uptoBulkAll];omega
end
set_option maxRecDepth 100000 in
theorem contract (H:Type) (enc:TypeId×Value→H) (W:World) (base:Nat) (args:Array Value) (ds gs:List (DataW H)) (before:List MemPlace)
  (P5: ∀ (j:Nat) t v,Tryz.f3.params[j]? =some t→args[j]? =some v→Value.okWide Tryz.prog W .any base t v)
  (hW:DataW.Whole enc Tryz.prog Tryz.f3.params.toList Rows.packBytesSpec.vars false W args.toList ds gs before) (hk:Rows.uptoSmall H (ds++gs)=true) (hL:laidMetH Tryz.prog Rows.packBytesUptoRow.laid W):
  Calls Tryz.prog 3 args W fun e W'=> ∃v,e= .returned v∧Rows.packBytesSpec.post enc Tryz.prog Tryz.f3 false true false false W args v W':=by
 refine zAt (tb:=4) seatok ⟨_,_,Tryz.func3,rfl,by kernel_rfl⟩ rfl Kk Tryz.underlying4 (fun t ht=>?_) (fun ds hd=>?_) hW ?_
 ·have:=List.all_eq_true.1 (show(Tryz.f3.params.toList.all fun t=>decide (t<Tryz.prog.types.size))=true by kernel_rfl) t ht;simpa using this
 ·rw[Tryz.params3] at hd;rcases ds with _| ⟨e0,_| ⟨e9,ds⟩⟩ <;> first|rfl| (simp at hd)
 obtain⟨p,q,hA,hV,rfl,hfz,I6⟩:=hW;rw[Tryz.params3] at hA P5;obtain⟨v0,vs0,d0,ds0,p0,q0,hargs0,rfl,rfl,h0,r_0⟩:=trodAll_cons hA;obtain⟨rfl,rfl,rfl⟩:=trodAll_nil r_0;obtain rfl:args= #[v0]:=by cases args;simp_all
 obtain⟨rfl,rfl⟩:=trodVars_none hV;have hb:bulkVs [d0]≤1048576:=Nat.le_trans (bulks _) (of_decide_eq_true hk);simp only[bulkVs] at hb;have Ca:=zzy hL;obtain⟨a0,s0,w0⟩:=zyt (P5 0 27 v0 rfl rfl) h0;exact zp3 (w0 Ko) Ca s0 fun _ _=>rfl
noncomputable def zi5 (os:Os):World:=
 {World.holding Tryz.prog os ⟨#[], #[],[]⟩ with heap:=(World.holding Tryz.prog os ⟨#[], #[],[]⟩).heap.modify 0 fun
   | .cells _ t frozen=> .cells #[.int .u8 0, .int .u8 1, .int .u8 56, .int .u8 2, .int .u8 57, .int .u8 49, .int .u8 28, .int .u8 3, .int .u8 61, .int .u8 58, .int .u8 42, .int .u8 50, .int .u8 38, .int .u8 29, .int .u8 17, .int .u8 4, .int .u8 62, .int .u8 47, .int .u8 59, .int .u8 36, .int .u8 45, .int .u8 43, .int .u8 51, .int .u8 22, .int .u8 53, .int .u8 39, .int .u8 33, .int .u8 30, .int .u8 24, .int .u8 18, .int .u8 12, .int .u8 5, .int .u8 63, .int .u8 55, .int .u8 48, .int .u8 27, .int .u8 60, .int .u8 41, .int .u8 37, .int .u8 16, .int .u8 46, .int .u8 35, .int .u8 44, .int .u8 21, .int .u8 52, .int .u8 32, .int .u8 23, .int .u8 11, .int .u8 54, .int .u8 26, .int .u8 40, .int .u8 15, .int .u8 34, .int .u8 20, .int .u8 31, .int .u8 10, .int .u8 25, .int .u8 14, .int .u8 19, .int .u8 9, .int .u8 13, .int .u8 8, .int .u8 7, .int .u8 6] t frozen
   |o=>o}
theorem zwN (os:Os):laidMet Tryz.prog Rows.packBytesUptoRow.laid ((zi5 os).forCall (fun _ _=>0) ⟨#[], #[.agg (Fe 256 (Yd .u8 0)++[Yd .i64 0,Wf none 0 0,Wf none 0 0,Wf none 0 0]).toArray],[]⟩).memory:=
 laidMet_of_run' 8 Kk Kk
theorem zAp (os:Os) {H:Type} (enc:TypeId×Value→H): ∃places,DataW.whole enc Tryz.prog ((zi5 os).forCall (fun _ _=>0) ⟨#[], #[.agg (Fe 256 (Yd .u8 0)++[Yd .i64 0,Wf none 0 0,Wf none 0 0,Wf none 0 0]).toArray],[]⟩).memory Tryz.f3.params.toList Rows.packBytesSpec.vars false (#[.agg (Fe 256 (Yd .u8 0)++[Yd .i64 0,Wf none 0 0,Wf none 0 0,Wf none 0 0]).toArray]:Array Value).toList 8=some ([.agg [.agg (Fe 256 (.lit (.int .u8 0))), .lit (.int .i64 0), .nil, .nil, .nil]],[],places):=
 ⟨[],by kernel_rfl⟩
set_option maxRecDepth 100000 in
theorem zzz (os:Os) (started:os.Started) (H:Type) (enc:TypeId×Value→H) (F:Stop.Interp):
  ReturnsInHanded {} Tryz.checked os 3 .any ((Rows.OpenSpec.upto Rows.packBytesSpec).preRow enc Tryz.prog Tryz.f3 Rows.packBytesUptoRow.domain false Rows.packBytesUptoRow.laid) (((Rows.OpenSpec.upto Rows.packBytesSpec).at F).post enc Tryz.prog Tryz.f3 false true false false):=by
 obtain⟨places,hx⟩:=zAp os enc
 refine returnsInHanded_of_row (C:=Tryz.checked) (s:=Rows.OpenSpec.upto Rows.packBytesSpec) own started Kk Tryz.func3
  (witness_row_at (enc:=enc) (C:=Tryz.checked) false (zi5 os) #[.agg (Fe 256 (Yd .u8 0)++[Yd .i64 0,Wf none 0 0,Wf none 0 0,Wf none 0 0]).toArray] rfl Kk Kk Kk
   (OpenSpec.preRow_of_cond 8 hx Kk (fun k hk=>by cases hk;kernel_rfl) Kk (zwN os))) ?_
 intro W base args ds gs before P5 hW _ hcond _ hL _ _;exact contract H enc W base args ds gs before P5 hW (hcond _ rfl) hL
theorem zAL:Rows.PackBytesUptoSaid:=
 OpenClaim.holds_of_cond 3 Tryz.f3 rfl rfl rfl rfl rfl rfl rfl ⟨rfl,rfl,rfl,rfl,rfl⟩ rfl rfl rfl rfl rfl Kk Tryz.func3 Kk
  (of_decide_eq_true Kk) (by unfold Func.isWrapper;first| (rw[if_pos (by decide+kernel)];kernel_rfl)| (rw[if_neg (by decide+kernel)];exact⟨rfl,rfl⟩))
  (fun os started H enc _ F=>by rw[OpenClaim.pre_eq_preRow];exact zzz os started H enc F)
theorem plain (f:FuncId) (fn:Func) (hf:Tryz.pinned.checked.prog.funcNamed "doublet/doubletlaw35.PackBytes" =some f) (hfn:Tryz.pinned.checked.prog.funcs[f]? =some fn):
  false=Tryz.pinned.checked.prog.looks []∧ ∀ (j:Nat) t,fn.params[j]? =some t→Tryz.pinned.checked.prog.wantsStandIn t=false:=by
 obtain rfl:f=3:=Option.some.inj ((show Tryz.prog.funcNamed "doublet/doubletlaw35.PackBytes" =some 3 by kernel_rfl).symm.trans hf) |>.symm;obtain rfl:fn=Tryz.f3:=(Option.some.inj (Tryz.func3.symm.trans hfn)).symm;refine⟨by kernel_rfl,fun j t ht=>?_⟩;rw[Tryz.params3] at ht;have hm:=Array.mem_of_getElem? ht;simp only[List.mem_toArray,List.mem_cons,List.not_mem_nil,or_false] at hm;rcases hm with rfl
 ·exact(show Tryz.prog.wantsStandIn 27=false by kernel_rfl)
theorem proved:Rows.PackBytesUptoCardSaid:=
 Claim7.holds_tied_plain_at .later [] _ _ _ _ zAL (fun _ h=>by cases h) Kk (fun _ h=>by cases h) packBytesUpto_row_tie rfl ⟨rfl,rfl⟩ Kk rfl plain Kk
end Go.Proofs.YtomdbjfdbkejoaaGreatDoor.lawPackBytes
