/- A part of the proof, joined of several texts: the verification layer, contracts of functions, plain law. -/
import Derived.Test.YtomdbjfdbkejoaaGreatDoorU6
set_option maxHeartbeats 64000000
set_option linter.unusedSimpArgs false
set_option linter.unusedVariables false
set_option linter.unusedSectionVars false
open Go.V.Nx renaming go→Zd
open Go.V.Bk renaming go→Ae
open Go.Value renaming int→Yd,slice→Wf
open List renaming reduceReplicate→He,length_map→Be,length_append→Ve,append_assoc→Uf,toList_toArray→Ye,nil_append→Af,append_nil→Bf,getElem_map→Le,replicate→Fe,map_append→Ke,take_zero→Se,getElem_mem→Me,drop_of_length_le→Gf,getElem?_eq_getElem→Xe,getElem_append_left→Ag,length_singleton→Bg,take_of_length_le→Pe,take_length→Te,length_replicate→We,length_take→Ge,take→Hf,eq_nil_of_length_eq_zero→Df,take_succ_eq_append_getElem→Re,getD_eq_getElem?_getD→Fg,range→Hg,getElem_cons_zero→Qf,flatMap_append→Ig,map_replicate→Ff,take_length_add_append→Jg,drop_length_add_append→Kg,getElem?_map→Lg,all_map→Mg,getElem_append_right→Ng,drop_append→Qg,flatMap_singleton→Rg,ext_getElem→Tg,mem_append→Ug,mem_singleton→Vg,take_append_of_le_length→Tf,range_succ→Sf
open Go.V.Upd renaming now→Ce,go→Oe,leave→Xf,shareRow→Jf,finL→De
open Nat renaming le_refl→Qe,le_trans→Cg,lt_or_ge→Eg,mul_one→Gg,sub_self→Og,zero_le→Pg
open Go.V.Tri renaming loopU→Je,drawH→Vf
open Go.V.FnT renaming body→Ee,sep→Zf
open Go.V.Row renaming obj→Ie
open Int renaming toNat_natCast→Yf,eq_ofNat_of_zero_le→Dg
open UInt8 renaming toNat_ofNat'→Sg
open Bool renaming eq_iff_iff→Lf
namespace Go.Proofs.YtomdbjfdbkejoaaGreatDoor
abbrev zyw:List Nat:=[0,2,3,5,6,7]
abbrev zgW:List Nat:=[0,1,2,4]
abbrev zyx:List Nat:=[0,2,3,4,5,6,7,8,9,16]
abbrev zn5:List Nat:=[0,1,2,3,4,5,6,7,11,18,26,35]
abbrev zvn:List Nat:=[0,2,3,4,5,6,11,15,23]
abbrev zvo:List Nat:=[0,2,3,4,5,6,7,8,17,26,30,31,32]
abbrev zrJ:List Nat:=[0,1,2,5]
abbrev zlG:List Nat:=[0,1,2,6,7,8,9,14,15,16,17,18,30]
abbrev zvp:List Nat:=[0,1,2,3,4,5,6,7,8,9,13,14,15,16,49]
abbrev zeF:List Nat:=[0,1,2,4,5,6,7,9,10,11,12,13,18,35,36,37,38,48,49,50,51]
abbrev zlH:List Nat:=[0,2,3,4,5,6,7,8,33,47,48,49]
abbrev zep:List Nat:=[0,1,2,3,5,6,7,8,9,11,19,20,21,22,32,33,48,70,71,72,73,84,85,86,87]
abbrev zfm:List Nat:=[0,1,2,3,4,5,6,7,8,9,22,42,56,82,97]
open Go Go.V Go.Proofs
def zbA (s:List (List UInt8)×Rdr):List (List UInt8)×Rdr:=(s.1++[(zba (zD 1 s.2).1 (zD 1 s.2).2).1],(zba (zD 1 s.2).1 (zD 1 s.2).2).2)
def zco:Nat→List (List UInt8)×Rdr→List (List UInt8)×Rdr
 |0,s=>s
 |k+1,s=>zco k (zbA s)
def zV (s:Rdr):List (List UInt8)×Rdr:=zco (zD 1 s).1 ([],(zD 1 s).2)
theorem zjK (s:List (List UInt8)×Rdr):(zbA s).2.2.length≤s.2.2.length:=Cg (zn3 _ _) (zcd 1 s.2)
theorem zgC (s:Rdr):(zD 1 s).1<256:=by have:=zqi 1 s;omega
theorem zmm: ∀ (k:Nat) (s:List (List UInt8)×Rdr),(zco k s).2.2.length≤s.2.2.length
 |0,s=>Qe _
 |k+1,s=>Cg (zmm k (zbA s)) (zjK s)
theorem zkT: ∀ (k:Nat) (s:List (List UInt8)×Rdr),(zco k s).1.length=s.1.length+k
 |0,s=>rfl
 |k+1,s=>by
  show(zco k (zbA s)).1.length=_;rw[zkT k];show(s.1++[_]).length+k=_;rw[Ve,Bg];omega
theorem ziJ: ∀ (k:Nat) (s:List (List UInt8)×Rdr),(∀x∈s.1,x.length≤255)→ ∀x∈(zco k s).1,x.length≤255
 |0,s=>fun h=>h
 |k+1,s=>fun h=>ziJ k (zbA s) fun x hx=>by
  have hx:x∈s.1++[(zba (zD 1 s.2).1 (zD 1 s.2).2).1]:=hx;rcases List.mem_append.1 hx with hx|hx
  ·exact h x hx
  ·rw[List.mem_singleton.1 hx,ziI];have:=zgC s.2;omega
theorem ztj (s:Rdr):(zV s).2.2.length≤s.2.length:=Cg (zmm _ _) (zcd 1 s)
theorem zn6 (s:Rdr):(zV s).1.length≤255∧ ∀x∈(zV s).1,x.length≤255:=by
 refine⟨?_,ziJ _ _ fun x hx=>by cases hx⟩;unfold zV;rw[zkT];have:=zgC s;show 0+_≤_;omega
theorem ztk {s:Rdr} (D3:s.2.length≤200000000) {bR:Nat} {sv:Value} {G:zb} {H:za} {R:Value→zb→za→Prop} (hs:Sl G zp sv s.2)
  (hR: ∀G' v sv',PLe G G'→Sep G' (zm ((bR,Res.cells [sv', .bool (zV s).2.1] [] 58)::H))→Sl G' str v (zV s).1→Sl G' zp sv' (zV s).2.2→R v G' ((bR, .cells [sv', .bool (zV s).2.1] [] 58)::H)):
  FnT Tryz.prog 59 [.pointer (some ⟨bR,0,none⟩)] G ((bR, .cells [sv, .bool s.1] [] 58)::H) R:=by
 have U1: ∀x:Value,Fe 1 x=[x]:=fun _=>rfl;refine Zf ?_;refine Ee tok zyw Tryz.func59 rfl Kk Kk Kn fun M0=>?_;rw[Tryz.results59];have hE:=M0;try simp only[zzs] at hE
 repeat(obtain⟨J0,hE⟩:=hE)
 repeat' first
  |with_reducible first|refine Zd ?_ |refine Ae (fun _=>?_) fun _=>?_ |refine Nb fun nb A0 C0 B0=>?_ |refine Nr fun nb D0 E0 A0 I0 C0 B0=>?_
  |simp -dsimp -implicitDefEqProofs (disch:=first|exact Kd|fail) only[go_sem,↓reduceIte,seval]
 refine zb5 D3 (n:=1) Ko hs fun G1 sv1 N2 V0 Yb=>?_;have N7:=zcd 1 s;obtain⟨n,hn⟩: ∃n,n=(zD 1 s).1:=⟨_,rfl⟩;obtain⟨s1,hs1d⟩: ∃s1,s1=(zD 1 s).2:=⟨_,rfl⟩;have J5:zV s=zco n ([],s1):=by rw[hn,hs1d];rfl
 rw[←hn];rw[←hs1d] at V0 Yb N7⊢;rw[J5] at hR;have hE:=V0;try simp only[zzs] at hE
 repeat(obtain⟨J0,hE⟩:=hE)
 repeat' first
  |with_reducible first|refine Zd ?_ |refine Ae (fun _=>?_) fun _=>?_ |refine Nb fun nb A0 C0 B0=>?_ |refine Nr fun nb D0 E0 A0 I0 C0 B0=>?_
  |simp -dsimp -implicitDefEqProofs (disch:=first|exact Kd|fail) only[go_sem,↓reduceIte,seval]
 refine Je tok zyw Kk [0,2,3,5,6] (fun q G' fr H'=> ∃ (i:Nat) (st:List (List UInt8)×Rdr) (v sv':Value) (kb:za),i+q=n∧PLe G1 G'∧zco q st=zco n ([],s1)∧st.2.2.length≤200000000∧st.1.length=i∧Sl G' zp sv' st.2.2∧zO [] 9 1 v i (st.1.map str) kb∧H'=(bR, .cells [sv', .bool st.2.1] [] 58):: (kb++H)∧fr=[(0, .pointer (some ⟨bR,0,none⟩)),(2, .slice none 0 0),(3,v),(5, .int .i64 n),(6, .int .i64 (i:Nat))]) (n) ?_ ?_
 ·exact Ce ⟨0,([],s1),_,sv1,[],by omega,PLe.refl _,rfl,Cg N7 D3,rfl,Yb, .inl ⟨none,rfl,rfl,rfl,rfl⟩,rfl,rfl⟩
 ·rintro q G2 fr H' Q0 R0 ⟨i,st,v,sv2,kb,Q5,Lb,N1,Gc,hsi,C9,hO,rfl,rfl⟩;by_cases T1:i<n
  ·obtain⟨q,rfl⟩: ∃p,q=p+1:=⟨q - 1,by omega⟩;have B1:zco q (zbA st)=zco n ([],s1):=N1;have Q4:=zgC st.2;have hl3:=zcd 1 st.2;obtain⟨x,hx0⟩: ∃x,x=(zba (zD 1 st.2).1 (zD 1 st.2).2).1:=⟨_,rfl⟩;have hst1:(zbA st).1.map str=st.1.map str++[Value.string ⟨x.toArray⟩]:=by show(st.1++[_]).map str=_;rw[Ke,hx0];rfl
   have Xc:(zbA st).1.length=i+1:=by show(st.1++[_]).length=_;rw[Ve,hsi];rfl
   have hst3:=zjK st;have A0:=zgC s;rcases hO with ⟨a,rfl,Z8,hx,rfl⟩| ⟨b,cap,sp,rfl,rfl,hx,hc⟩
   ·rw[hx,Af] at hst1;have hE:=R0;try simp only[zzs] at hE
    repeat(obtain⟨J0,hE⟩:=hE)
    repeat' first
     |with_reducible first|refine Zd ?_ |refine Ae (fun _=>?_) fun _=>?_ |refine Nb fun nb A0 C0 B0=>?_ |refine Nr fun nb D0 E0 A0 I0 C0 B0=>?_
     |simp -dsimp -implicitDefEqProofs (disch:=first|exact Kd|fail) only[go_sem,↓reduceIte,seval]
    refine zb5 Gc (n:=1) Ko C9 fun G3 sv3 A1 K1 Zb=>?_;have hE:=K1;try simp only[zzs] at hE
    repeat(obtain⟨J0,hE⟩:=hE)
    repeat' first
     |with_reducible first|refine Zd ?_ |refine Ae (fun _=>?_) fun _=>?_ |refine Nb fun nb A0 C0 B0=>?_ |refine Nr fun nb D0 E0 A0 I0 C0 B0=>?_
     |simp -dsimp -implicitDefEqProofs (disch:=first|exact Kd|fail) only[go_sem,↓reduceIte,seval]
    refine zlF (s:=(zD 1 st.2).2) Ko Ko Zb fun G4 v4 sv4 Z1 S1 hx4 Fa=>?_;rw[←hx0] at hx4;have hE:=S1;try simp only[zzs] at hE
    repeat(obtain⟨J0,hE⟩:=hE)
    obtain⟨a4,c4,rfl,S7,hc4⟩:=hx4
    repeat' first
     |with_reducible first|refine Zd ?_ |refine Ae (fun _=>?_) fun _=>?_ |refine Nb fun nb A0 C0 B0=>?_ |refine Nr fun nb D0 E0 A0 I0 C0 B0=>?_
     |simp -dsimp -implicitDefEqProofs (disch:=first|exact Kd|fail) only[go_sem,↓reduceIte,seval, -He,U1,Row.rdSlAll S7,Be]
    refine Oe (H':=(bR, .cells [sv4, .bool (zba (zD 1 st.2).1 (zD 1 st.2).2).2.1] [] 58):: ([(nb, .cells [Value.string ⟨x.toArray⟩] D0 9)]++H)) Ks (Ce ⟨q,by omega,i+1,zbA st,_,sv4,_,by omega,Lb.trans (A1.trans Z1),B1,by omega,Xc,Fa, .inr ⟨nb,E0,D0,rfl,by rw[hst1],by rw[hst1];simp;omega,by simp at I0⊢;omega⟩,rfl,by simp only[Z8];rfl⟩)
   ·rw[Gg] at hx hc;have hE:=R0;try simp only[zzs] at hE
    repeat(obtain⟨J0,hE⟩:=hE)
    repeat' first
     |with_reducible first|refine Zd ?_ |refine Ae (fun _=>?_) fun _=>?_ |refine Nb fun nb A0 C0 B0=>?_ |refine Nr fun nb D0 E0 A0 I0 C0 B0=>?_
     |simp -dsimp -implicitDefEqProofs (disch:=first|exact Kd|fail) only[go_sem,↓reduceIte,seval]
    refine zb5 Gc (n:=1) Ko C9 fun G3 sv3 A1 K1 Zb=>?_;have hE:=K1;try simp only[zzs] at hE
    repeat(obtain⟨J0,hE⟩:=hE)
    repeat' first
     |with_reducible first|refine Zd ?_ |refine Ae (fun _=>?_) fun _=>?_ |refine Nb fun nb A0 C0 B0=>?_ |refine Nr fun nb D0 E0 A0 I0 C0 B0=>?_
     |simp -dsimp -implicitDefEqProofs (disch:=first|exact Kd|fail) only[go_sem,↓reduceIte,seval]
    refine zlF (s:=(zD 1 st.2).2) Ko Ko Zb fun G4 v4 sv4 Z1 S1 hx4 Fa=>?_;rw[←hx0] at hx4;have hE:=S1;try simp only[zzs] at hE
    repeat(obtain⟨J0,hE⟩:=hE)
    obtain⟨a4,c4,rfl,S7,hc4⟩:=hx4
    repeat' first
     |with_reducible first|refine Zd ?_ |refine Ae (fun _=>?_) fun _=>?_ |refine Nb fun nb A0 C0 B0=>?_ |refine Nr fun nb D0 E0 A0 I0 C0 B0=>?_
     |simp -dsimp -implicitDefEqProofs (disch:=first|exact Kd|fail) only[go_sem,↓reduceIte,seval, -He,U1,Row.rdSlAll S7,Be]
    refine Oe (H':=(bR, .cells [sv4, .bool (zba (zD 1 st.2).1 (zD 1 st.2).2).2.1] [] 58):: ([(nb, .cells (st.1.map str++[Value.string ⟨x.toArray⟩]) D0 9)]++H)) Ks (Ce ⟨q,by omega,i+1,zbA st,_,sv4,_,by omega,Lb.trans (A1.trans Z1),B1,by omega,Xc,Fa, .inr ⟨nb,E0,D0,rfl,by rw[hst1],by rw[Be,Xc];omega,by simp at I0⊢;omega⟩,rfl,rfl⟩)
  ·obtain rfl:i=n:=by omega
   obtain rfl:q=0:=by omega
   have N1:st=zco i ([],s1):=N1;rw[←N1] at hR
   repeat' first
    |with_reducible first|refine Zd ?_ |refine Ae (fun _=>?_) fun _=>?_ |refine Nb fun nb A0 C0 B0=>?_ |refine Nr fun nb D0 E0 A0 I0 C0 B0=>?_
    |simp -dsimp -implicitDefEqProofs (disch:=first|exact Kd|fail) only[go_sem,↓reduceIte,seval]
   unfold zo;refine Oe (H':=kb++((bR, .cells [sv2, .bool st.2.1] [] 58)::H)) Ks ?_;rcases hO with ⟨a0,rfl,Z8,hx,rfl⟩| ⟨b3,c2,sp,rfl,rfl,hx,hc⟩
   ·have K5:st.1=[]:=Df Ko;refine Ce ?_;exact fun S0 hs=>hR _ _ sv2 (N2.trans Lb) hs (by rw[K5];exact⟨a0,0,rfl,Row.nil _ _,Qe _⟩) C9
   ·have hE:=R0;try simp only[zzs] at hE
    repeat(obtain⟨J0,hE⟩:=hE)
    refine Jf Ka fun G3 A1 K1 D2=>?_;rw[Be] at hx hc;exact fun S0 hs=>hR _ _ sv2 ((N2.trans Lb).trans A1) hs ⟨some ⟨b3,0,none⟩,c2,by rw[hsi],D2,by omega⟩ (C9.mono A1)
def upd {α:Type} (f:Nat→α) (i:Nat) (v:α):Nat→α:=fun k=>if k=i then v else f k
theorem zhM {α:Type} (f:Nat→α) (i:Nat) (v:α):upd f i v i=v:=if_pos rfl
theorem zkU {α:Type} (f:Nat→α) {i k:Nat} (v:α) (h:k≠i):upd f i v k=f k:=if_neg h
def mem (ws:Nat→Nat) (i:Nat):Bool:=(ws (i / 64)).testBit (i % 64)
theorem zn7 (ws:Nat→Nat) (k j:Nat) (h:j<64):mem ws (k * 64+j)=(ws k).testBit j:=by
 unfold mem;rw[show(k * 64+j) / 64=k by omega,show(k * 64+j) % 64=j by omega]
theorem zyy {w j:Nat} (hw:w<18446744073709551616) (hj:j<64):w|||2 ^ j<18446744073709551616:=
 Nat.or_lt_two_pow (n:=64) hw (Nat.pow_lt_pow_right (by decide) hj)
theorem zqj (ws:Nat→Nat) (i x:Nat):mem (upd ws (i / 64) (ws (i / 64)|||2 ^ (i % 64))) x=(mem ws x||decide (x=i)):=by
 unfold mem;by_cases h:x / 64=i / 64
 ·rw[h,zhM,Nat.testBit_or,Nat.testBit_two_pow];congr 1;rw[decide_eq_decide];omega
 ·rw[zkU _ _ h];rw[decide_eq_false (by intro e;subst e;exact h rfl),Bool.or_false]
theorem zxv {w:Nat} (hw:w<18446744073709551616) (j:Nat):decide (zay .and .u64 ((w:Int) / 2 ^ j) 1=1)=w.testBit j:=by
 have e:((w:Int) / 2 ^ j)=((w / 2 ^ j:Nat):Int):=by simp
 have h2:w / 2 ^ j≤w:=Nat.div_le_self _ _;rw[e,Nat.testBit_eq_decide_div_mod_eq];generalize w / 2 ^ j=q at h2;rw[zqc Ko Ko (by decide) (by decide),Yf,show(1 :Int).toNat=1 from rfl,zwQ,decide_eq_decide];omega
theorem zgX (k:Nat):((k:Int) / 64).toNat=k / 64:=by omega
theorem zkV {j:Nat} (hj:j<64):2 ^ j<18446744073709551616:=show 2 ^ j<2 ^ 64 from Nat.pow_lt_pow_right (by decide) hj
theorem zqk {j:Nat} (hj:j<64):IntKind.u64.wrap (1 * 2 ^ j)=((2 ^ j:Nat):Int):=by
 have h:=zkV hj;have e:(1 * 2 ^ j:Int)=((2 ^ j:Nat):Int):=by simp
 rw[e];generalize 2 ^ j=q at h;exact znI Ko Ko
theorem zlI {w y:Nat} (hw:w<18446744073709551616) (hy:y<18446744073709551616):zay .or .u64 (w:Int) (y:Int)=((w|||y:Nat):Int):=by
 rw[zsJ Ko Ko Ko Ko,Yf,Yf]
def zE (n:Nat) (f:Nat→Nat):List Value:=(Hg n).map fun k=>Yd .u64 (f k)
theorem zag (n:Nat) (f:Nat→Nat):(zE n f).length=n:=by simp [zE]
theorem ztl {n:Nat} {f:Nat→Nat} {sp:List Value} {i:Nat} (h:i<n):(zE n f++sp)[i]? =some (.int .u64 (f i)):=by
 unfold zE;rw[List.getElem?_append_left (by simpa using h),Lg,Xe (by simpa using h)];simp
theorem zgY {xs:List Value} {o:Nat} {v:Value} (h:o<xs.length):zf xs o [v]=xs.set o v:=by
 unfold zf;rw[List.set_eq_take_append_cons_drop,if_pos h];simp
theorem ztm {n:Nat} {f:Nat→Nat} {i:Nat} (h:i<n) (x:Nat):(zE n f).set i (.int .u64 x)=zE n (upd f i x):=by
 apply List.ext_getElem?;intro k;rw[List.getElem?_set];by_cases hk:i=k
 ·subst hk;have:=ztl (f:=upd f i x) (sp:=[]) h;rw[Bf] at this;rw[if_pos rfl,zag,if_pos h,this,zhM]
 ·rw[if_neg hk];unfold zE;rw[Lg,Lg];by_cases S8:k<n
  ·rw[Xe (by simpa using S8)];simp only[List.getElem_range,Option.map_some];rw[zkU _ _ (Ne.symm hk)]
  ·rw[List.getElem?_eq_none (by simpa using S8)];rfl
theorem zhN {n:Nat} {f:Nat→Nat} {i:Nat} (h:i<n) (x:Nat):zf (zE n f) i [.int .u64 x]=zE n (upd f i x):=by
 rw[zgY (by rw[zag];exact h),ztm h]
theorem zdZ {n:Nat} {f:Nat→Nat} {i:Nat} (h:i< (zE n f).length):(zE n f)[i]= .int .u64 (f i):=by
 simp [zE]
theorem zaZ (n:Nat) (f:Nat→Nat):Hf n (zE n f)=zE n f:=Pe (by rw[zag];exact Qe _)
theorem zrK (c:Nat):((c:Int) % 64).toNat=c % 64:=by omega
theorem zbF (f:Nat→Nat) (a b c d:Value):zf [a,b,c,d] 0 (zE 4 f)=zE 4 f:=by
 unfold zf;rw[Se,Af,Gf (by rw[zag];exact Qe _),Bf]
theorem za0 (n:Nat) (f:Nat→Nat):(zE n f).all zax=true:=by unfold zE;rw[Mg];exact List.all_eq_true.2 fun _ _=>rfl
theorem zkW (ws:Nat→Nat) (hw: ∀k,ws k<18446744073709551616) (c:Nat) (hc:c<256) {G:zb} {H:za} {R:Value→zb→za→Prop} (hR:R (.bool (mem ws c)) G H):FnT Tryz.prog 89 [.agg (zE 4 ws).toArray, .int .i64 (c:Nat)] G H R:=by
 have hl:=zag 4 ws;have hq:c / 64<4:=by omega
 have hwk:=hw (c / 64);refine Ee tok zgW Tryz.func89 rfl Kk Kk Kn fun M0=>?_;rw[Tryz.results89];have hE:=M0;try simp only[zzs] at hE
 repeat(obtain⟨J0,hE⟩:=hE)
 repeat' first
  |with_reducible first|refine Zd ?_ |refine Ae (fun _=>?_) fun _=>?_ |refine Nb fun nb A0 C0 B0=>?_ |refine Nr fun nb D0 E0 A0 I0 C0 B0=>?_
  |simp -dsimp -implicitDefEqProofs (disch:=first|exact Kd|fail) only[go_sem,↓reduceIte,seval, -He,Ye,hl,zdZ,zgX,zrK]
 all_goals refine De ?_ hR ?_
 any_goals first|exact Ks|skip
 rw[zxv hwk];rfl
theorem zxw (ws:Nat→Nat) (hw: ∀k,ws k<18446744073709551616) (c:Nat) (hc:c<256) {G:zb} {H:za} {R:Value→zb→za→Prop} (hR:R (.agg (zE 4 (upd ws (c / 64) (ws (c / 64)|||2 ^ (c % 64)))).toArray) G H):FnT Tryz.prog 90 [.agg (zE 4 ws).toArray, .int .i64 (c:Nat)] G H R:=by
 have hl:=zag 4 ws;have hq:c / 64<4:=by omega
 have hwk:=hw (c / 64);have hjj:c % 64<64:=by omega
 have hl':=fun f=>zag 4 f;refine Ee tok zgW Tryz.func90 rfl Kk Kk Kn fun M0=>?_;rw[Tryz.results90];have hE:=M0;try simp only[zzs] at hE
 repeat(obtain⟨J0,hE⟩:=hE)
 repeat' first
  |with_reducible first|refine Zd ?_ |refine Ae (fun _=>?_) fun _=>?_ |refine Nb fun nb A0 C0 B0=>?_ |refine Nr fun nb D0 E0 A0 I0 C0 B0=>?_
  |simp -dsimp -implicitDefEqProofs (disch:=first|exact Kd|fail) only[go_sem,↓reduceIte,seval, -He,Ye,hl,hl',zdZ,zgX,zrK,zqk hjj,zlI hwk (zkV hjj),zhN,zaZ,zbF,za0]
 all_goals refine De ?_ hR ?_
 any_goals first|exact Ks|skip
 rfl
def zv (m:List Int):List Int:=(zl m).map (zw m)
theorem zc1 {m:List Int} {i k:Nat} (h3:i<k) (hk:k≤m.length):m[i]'Ko∈m.take k:=by
 rw[List.mem_iff_getElem];exact⟨i,by rw[Ge];omega,by rw[List.getElem_take]⟩
theorem zil {m:List Int} {i:Nat} (h:i<m.length):(zd m)[i]'(by rw[zt];exact h)=zw (zl (m.take (i+1))) m[i]:=by
 have key: ∀k,i<k→k≤m.length→zw (zl (m.take k)) m[i]=zw (zl (m.take (i+1))) m[i]:=fun k=>by
  induction k with
  |zero=>intro h1;omega
  |succ k ih=>
   intro h1 h2;rcases Eg i k with h3|h3
   ·rw[←ih h3 Ko,Re Ko,zaG];split
    ·rfl
    ·exact zmj ((zK _).2 (zc1 h3 Ko)) _
   ·obtain rfl:k=i:=by omega
    rfl
 rw[zbK h,←key m.length h (Qe _),Te]
theorem zlJ {m:List Int} {i:Nat} (h:i<m.length):(zd m)[i]'(by rw[zt];exact h)=((zl (m.take i)).length:Int)↔m[i]∉m.take i:=by
 rw[zil h,Re h];constructor
 ·intro e hm;obtain⟨n,hn⟩:=zaf ((zK _).2 hm);rw[(zcS hn).1,zB hn] at e;have:=(zaa hn).1;omega
 ·intro hm;have hp:=zbo fun h=>hm ((zK _).1 h);rw[(zcw hp).1,zB (zfb (zdB hp))]
theorem zql {m:List Int} (X1:m.length≤2000000) {G:zb} {H:za} {R:Value→zb→za→Prop} {v:Value} (hv:Sl G (Yd .i64) v (zd m))
  (hR: ∀G' v',PLe G G'→Sep G' (zm H)→Sl G' (Yd .i64) v' (zv m)→R v' G' H):FnT Tryz.prog 102 [v] G H R:=by
 obtain⟨a,cap,rfl,U0,D5⟩:=hv;have C1:=zt m;rw[C1] at D5⊢;refine Zf ?_;refine Ee tok zyx Tryz.func102 rfl Kk Kk Kn fun M0=>?_;rw[Tryz.results102];have hE:=M0;try simp only[zzs] at hE
 repeat(obtain⟨J0,hE⟩:=hE)
 repeat' first
  |with_reducible first|refine Zd ?_ |refine Ae (fun _=>?_) fun _=>?_ |refine Nb fun nb A0 C0 B0=>?_ |refine Nr fun nb D0 E0 A0 I0 C0 B0=>?_
  |simp -dsimp -implicitDefEqProofs (disch:=first|exact Kd|fail) only[go_sem,↓reduceIte,seval]
 refine Je tok zyx Kk [0,2,3,6,7,8] (fun q G' fr H'=> ∃ (i:Nat) (v:Value) (kb:za),i+q=m.length∧G'=G∧zO [] 3 1 v (zl (m.take i)).length (((zl (m.take i)).map (zw m)).map (Yd .i64)) kb∧H'=kb++H∧fr=[(0, .slice a m.length cap),(2, .slice none 0 0),(3,v),(6, .slice a m.length cap),(7, .int .i64 m.length),(8, .int .i64 i)]) (m.length) ?_ ?_
 ·exact Ce ⟨0,_,[],by omega,rfl, .inl ⟨none,rfl,rfl,rfl,rfl⟩,rfl,rfl⟩
 ·rintro q G1 fr H' S0 hs ⟨i,v,kb,hi,rfl,hv,rfl,rfl⟩;have L3:=zZ (m.take i);rw[Ge] at L3;by_cases Y0:i<m.length
  ·have B3:Adr a:=U0.adr (by rw[Be,C1];omega);have T1:i< (zd m).length:=by omega
   have B2:=Re Y0;have Ga:=zlJ Y0;by_cases W4:m[i]∈m.take i
   ·have B1:(zd m)[i]≠((zl (m.take i)).length:Int):=fun e=>(Ga.1 e) W4;have ht:zl (m.take (i+1))=zl (m.take i):=by rw[B2,zaG,if_pos ((zK _).2 W4)]
    rcases hv with ⟨a0,rfl,hn,hx,rfl⟩| ⟨b2,c2,sp,rfl,rfl,hx,hc⟩
    ·have:m[i]∈zl (m.take i):=(zK _).2 W4;rw[Df hn] at this;cases this
    ·have hE:=hs;try simp only[zzs] at hE
     repeat(obtain⟨J0,hE⟩:=hE)
     repeat' first
      |with_reducible first|refine Zd ?_ |refine Ae (fun _=>?_) fun _=>?_ |refine Nb fun nb A0 C0 B0=>?_ |refine Nr fun nb D0 E0 A0 I0 C0 B0=>?_
      |simp -dsimp -implicitDefEqProofs (disch:=first|exact Kd|fail) only[go_sem,↓reduceIte,seval,Ie U0,Le,Be,C1]
     exact Ce ⟨q - 1,by omega,i+1,_,[(b2, .cells (((zl (m.take (i+1))).map (zw m)).map (Yd .i64)) sp 3)],by omega,rfl, .inr ⟨b2,c2,sp,by rw[ht],rfl,by rw[ht];exact hx,by rw[ht];exact hc⟩,by rw[ht];rfl,rfl⟩
   ·have hyes:=Ga.2 W4;have hp:=zbo fun h=>W4 ((zK _).1 h);have ht:zl (m.take (i+1))=zl (m.take i)++[m[i]]:=by rw[B2];exact(zcw hp).1
    obtain⟨p,hpp,_,_,A5⟩:=zaU Y0;obtain rfl:p=i:=A5.2 W4;have T2:((zl (m.take (p+1))).map (zw m)).map (Yd .i64)=((zl (m.take p)).map (zw m)).map (Yd .i64)++[Yd .i64 p]:=by rw[ht,Ke,Ke,List.map_singleton,zB hpp];rfl
    have V2:(zl (m.take (p+1))).length=(zl (m.take p)).length+1:=by rw[ht,Ve];rfl
    rcases hv with ⟨a0,rfl,hn,hx,rfl⟩| ⟨b2,c2,sp,rfl,rfl,hx,hc⟩
    ·have hE:=hs;try simp only[zzs] at hE
     repeat(obtain⟨J0,hE⟩:=hE)
     repeat' first
      |with_reducible first|refine Zd ?_ |refine Ae (fun _=>?_) fun _=>?_ |refine Nb fun nb A0 C0 B0=>?_ |refine Nr fun nb D0 E0 A0 I0 C0 B0=>?_
      |simp -dsimp -implicitDefEqProofs (disch:=first|exact Kd|fail) only[go_sem,↓reduceIte,seval,Ie U0,Le,Be,C1,hyes,hn]
     rw[hx,Af] at T2;rw[←T2];exact Oe (H':=(nb, .cells (((zl (m.take (p+1))).map (zw m)).map (Yd .i64)) D0 3)::H) Ks (Ce ⟨q - 1,by omega,p+1, .slice (some ⟨nb,0,none⟩) (zl (m.take (p+1))).length E0,[(nb, .cells (((zl (m.take (p+1))).map (zw m)).map (Yd .i64)) D0 3)],by omega,rfl, .inr ⟨nb,E0,D0,rfl,rfl,by rw[Be,Be];omega,by rw[Be,Be];simp at I0⊢;omega⟩,rfl,by rw[V2,hn];rfl⟩)
    ·have hE:=hs;try simp only[zzs] at hE
     repeat(obtain⟨J0,hE⟩:=hE)
     repeat' first
      |with_reducible first|refine Zd ?_ |refine Ae (fun _=>?_) fun _=>?_ |refine Nb fun nb A0 C0 B0=>?_ |refine Nr fun nb D0 E0 A0 I0 C0 B0=>?_
      |simp -dsimp -implicitDefEqProofs (disch:=first|exact Kd|fail) only[go_sem,↓reduceIte,seval,Ie U0,Le,Be,C1,hyes]
     rw[←T2];exact Oe (H':=(nb, .cells (((zl (m.take (p+1))).map (zw m)).map (Yd .i64)) D0 3)::H) Ks (Ce ⟨q - 1,by omega,p+1, .slice (some ⟨nb,0,none⟩) (zl (m.take (p+1))).length E0,[(nb, .cells (((zl (m.take (p+1))).map (zw m)).map (Yd .i64)) D0 3)],by omega,rfl, .inr ⟨nb,E0,D0,rfl,rfl,by rw[Be,Be];omega,by rw[Be,Be];simp at I0⊢;omega⟩,rfl,by rw[V2];rfl⟩)
  ·obtain rfl:i=m.length:=by omega
   rw[Te] at hv
   repeat' first
    |with_reducible first|refine Zd ?_ |refine Ae (fun _=>?_) fun _=>?_ |refine Nb fun nb A0 C0 B0=>?_ |refine Nr fun nb D0 E0 A0 I0 C0 B0=>?_
    |simp -dsimp -implicitDefEqProofs (disch:=first|exact Kd|fail) only[go_sem,↓reduceIte,seval]
   unfold zo;refine Oe (H':=kb++H) Ks ?_;rcases hv with ⟨a0,rfl,hn,hx,rfl⟩| ⟨b2,c2,sp,rfl,rfl,hx,hc⟩
   ·refine Ce ?_;have hh:zv m=[]:=by unfold zv;rw[Df hn];rfl
    exact fun S0 hs=>hR _ _ (PLe.refl _) hs ⟨a0,0,by rw[hh];rfl,by rw[hh];exact Row.nil _ _,by rw[hh];exact Qe _⟩
   ·have hE:=hs;try simp only[zzs] at hE
    repeat(obtain⟨J0,hE⟩:=hE)
    refine Jf Ka fun G2 Q0 R0 V1=>?_;exact fun S0 hs=>hR _ _ Q0 hs ⟨some ⟨b2,0,none⟩,c2,by unfold zv;rw[Be],V1,by unfold zv;rw[Be] at hx hc⊢;rw[Be] at hx hc;omega⟩
def zaS (n:Nat) (f:Nat→Bool):List Value:=(Hg n).map fun k=>Value.bool (f k)
theorem zbR (n:Nat) (f:Nat→Bool):(zaS n f).length=n:=by simp [zaS]
theorem zfd {n:Nat} {f:Nat→Bool} {i:Nat} (h:i< (zaS n f).length):(zaS n f)[i]= .bool (f i):=by simp [zaS]
theorem zkX {n:Nat} {f:Nat→Bool} {i:Nat} (h:i<n):(zaS n f)[i]? =some (.bool (f i)):=by
 rw[Xe (by rw[zbR];exact h),zfd]
theorem zpK {n:Nat} {f:Nat→Bool} {i:Nat} (h:i<n) (x:Bool):zf (zaS n f) i [.bool x]=zaS n (upd f i x):=by
 rw[zgY (by rw[zbR];exact h)];apply Tg (by rw[List.length_set,zbR,zbR]);intro k h1 h2;rw[zfd,List.getElem_set];by_cases hk:i=k
 ·subst hk;rw[if_pos rfl,zhM]
 ·rw[if_neg hk,zfd,zkU _ _ (Ne.symm hk)]
theorem zpL (n:Nat):Fe n (Value.bool false)=zaS n (fun _=>false):=by
 unfold zaS;rw[List.map_const',List.length_range]
theorem zrL (n:Nat) (f:Nat→Bool):(zaS n f).all zax=true:=by unfold zaS;rw[Mg];exact List.all_eq_true.2 fun _ _=>rfl
theorem zpM (n:Nat) (f g:Nat→Bool):zf (zaS n f) 0 (zaS n g)=zaS n g:=by
 unfold zf;rw[Se,Af,Gf (by rw[zbR,zbR];omega),Bf]
theorem zf3 {n:Nat} {f g:Nat→Bool} (h: ∀k,k<n→f k=g k):zaS n f=zaS n g:=by
 unfold zaS;exact List.map_congr_left fun k hk=>by rw[h k (List.mem_range.1 hk)]
def zeq (l:List Int) (c:Nat) (W:List (Nat→Nat)):Prop:=
 W.length=(zl (l.take c)).length∧(∀ws∈W,∀k,ws k<18446744073709551616)∧ ∀i d (hi:i<W.length) (hd:d<l.length) (h2:i< (zl (l.take c)).length),mem W[i] d=decide (l[d]=(zl (l.take c))[i])
def zae:(Nat→Nat)→List Value:=zE 4
theorem zaN (ws:Nat→Nat):(zae ws).length=4:=zag 4 ws
theorem zj3 (i:Nat):mem (fun _=>0) i=false:=by unfold mem;exact Nat.zero_testBit _
theorem zwS:[Yd .u64 0,Yd .u64 0,Yd .u64 0,Yd .u64 0]=zE 4 (fun _=>0):=rfl
theorem ztn {l:List Int} (hl:l.length=256) (D9: ∀x∈l,0≤x∧x≤255) {G:zb} {H:za} {R:Value→zb→za→Prop}
  (hR: ∀G' v' W,PLe G G'→Sep G' (zm H)→SlM G' zae v' W→zeq l 256 W→R v' G' H):FnT Tryz.prog 57 [zb4 l] G H R:=by
 have F6:(u8L l).length=256:=by rw[Be,hl]
 refine Zf ?_;refine Ee tok zn5 Tryz.func57 rfl Kk Kk Kn fun M0=>?_;rw[Tryz.results57];have hE:=M0;try simp only[zzs] at hE
 repeat(obtain⟨J0,hE⟩:=hE)
 repeat' first
  |with_reducible first|refine Zd ?_ |refine Ae (fun _=>?_) fun _=>?_ |refine Nb fun nb A0 C0 B0=>?_ |refine Nr fun nb D0 E0 A0 I0 C0 B0=>?_
  |simp -dsimp -implicitDefEqProofs (disch:=first|exact Kd|fail) only[go_sem,↓reduceIte,seval, -He,Ye,zpL,zbR,zrL,zpM]
 rename_i b1 hb10 T8 B8 bo0 ho0 ho1 ho2;revert nb;intro bd hbd hbd1 hbd2;refine Je tok zn5 Kk [1,2,3,4,5] (fun q G' fr H'=> ∃ (c bo cap:Nat) (W:List (Nat→Nat)) (sp:List Value),c+q=256∧G'=G∧zeq l c W∧W.length * 4+sp.length=cap * 4∧H'=(bd, .cells (zaS 256 (fun x=>decide ((x:Int)∈l.take c))) [] 117):: (bo, .cells (W.flatMap zae) sp 101):: (b1, .cells (u8L l) [] 22)::H∧fr=[(1, .pointer (some ⟨b1,0,none⟩)),(2, .slice none 0 0),(3, .slice (some ⟨bo,0,none⟩) W.length cap),(4, .pointer (some ⟨bd,0,none⟩)),(5, .int .i64 (c:Nat))]) (256) ?_ ?_
 ·refine Ce ⟨0,bo0,0,[],[],by omega,rfl,⟨rfl,(fun ws h=>by cases h),(fun i d h=>by cases h)⟩,rfl,?_,rfl⟩;rw[show zaS 256 (fun x=>decide ((x:Int)∈l.take 0))=zaS 256 (fun _=>false) from zf3 fun k _=>by simp];rfl
 ·rintro q G1 fr H' S0 hs ⟨c,bo,cap,W,sp,hc,rfl,hW,D5,rfl,rfl⟩;have hE:=hs;try simp only[zzs] at hE
  repeat(obtain⟨J0,hE⟩:=hE)
  obtain⟨hW1,U8,hW3⟩:=id hW;have L3:=zZ (l.take c);rw[Ge] at L3;have B9:=zbm (enc:=zae) (m:=4) zaN W;by_cases V2:c<256
  ·have hcl2:c<l.length:=by omega
   have hx:=D9 _ (Me hcl2);obtain⟨y,hy⟩:=Dg hx.1;have hy2:y<256:=by omega
   have B2:=Re hcl2;by_cases Eb:l[c]∈l.take c
   ·have hdo:decide ((y:Int)∈l.take c)=true:=by rw[←hy];exact decide_eq_true Eb
    have ht:zl (l.take (c+1))=zl (l.take c):=by rw[B2,zaG,if_pos ((zK _).2 Eb)]
    repeat' first
     |with_reducible first|refine Zd ?_ |refine Ae (fun _=>?_) fun _=>?_ |refine Nb fun nb A0 C0 B0=>?_ |refine Nr fun nb D0 E0 A0 I0 C0 B0=>?_
     |simp -dsimp -implicitDefEqProofs (disch:=first|exact Kd|fail) only[go_sem,↓reduceIte,seval, -He,F6,Le,hy,zbR,zfd,zkX,hdo,Yf]
    rw[show zaS 256 (fun x=>decide ((x:Int)∈l.take c))=zaS 256 (fun x=>decide ((x:Int)∈l.take (c+1))) from zf3 fun k _=>decide_eq_decide.2 (by
     rw[B2,Ug,Vg]
     exact⟨.inl,fun h=>by
      rcases h with h|h
      ·exact h
      ·rw[h];exact Eb⟩)]
    exact Ce ⟨q - 1,by omega,c+1,bo,cap,W,sp,by omega,rfl,by unfold zeq;rw[ht];exact hW,D5,rfl,rfl⟩
   ·have hdo:decide ((y:Int)∈l.take c)=false:=by rw[←hy];exact decide_eq_false Eb
    repeat' first
     |with_reducible first|refine Zd ?_ |refine Ae (fun _=>?_) fun _=>?_ |refine Nb fun nb A0 C0 B0=>?_ |refine Nr fun nb D0 E0 A0 I0 C0 B0=>?_
     |simp -dsimp -implicitDefEqProofs (disch:=first|exact Kd|fail) only[go_sem,↓reduceIte,seval, -He,F6,Le,hy,zbR,zfd,zkX,zpK,hdo,Yf]
    revert nb;intro bs hbs hbs1 hbs2
    rw[show zaS 256 (upd (fun x=>decide ((x:Int)∈l.take c)) y true)=zaS 256 (fun x=>decide ((x:Int)∈l.take (c+1))) from zf3 fun k _=>by
     unfold upd;rw[B2];by_cases e:k=y
     ·subst e;rw[if_pos rfl];exact(decide_eq_true (by rw[Ug,Vg];exact .inr hy.symm)).symm
     ·rw[if_neg e]
      exact decide_eq_decide.2 (by
       rw[Ug,Vg]
       exact⟨.inl,fun h=>by
        rcases h with h|h
        ·exact h
        ·exact absurd Ko e⟩)]
    have ht:zl (l.take (c+1))=zl (l.take c)++[l[c]]:=by
     rw[B2,zaG,if_neg fun h=>Eb ((zK _).1 h)]
    refine Je tok zn5 Kk [1,2,3,4,5,6,7] (fun q2 G' fr H'=> ∃ (d:Nat) (ws:Nat→Nat),d+q2=256∧c≤d∧(∀k,ws k<18446744073709551616)∧(∀x (hx:x<l.length),mem ws x=decide (c≤x∧x<d∧l[x]=l[c]))∧G'=G1∧H'=(bs, .cells (zE 4 ws) [] 101):: (bd, .cells (zaS 256 (fun x=>decide ((x:Int)∈l.take (c+1)))) [] 117):: (bo, .cells (W.flatMap zae) sp 101):: (b1, .cells (u8L l) [] 22)::H∧fr=[(1, .pointer (some ⟨b1,0,none⟩)),(2, .slice none 0 0),(3, .slice (some ⟨bo,0,none⟩) W.length cap),(4, .pointer (some ⟨bd,0,none⟩)),(5, .int .i64 (c:Nat)),(6, .pointer (some ⟨bs,0,none⟩)),(7, .int .i64 (d:Nat))]) ((256 - c)) ?_ ?_
    ·exact Ce ⟨c,fun _=>0,by omega,Qe _,(fun _=>Nat.zero_lt_succ _),fun x hx=>by rw[zj3];exact(decide_eq_false Ko).symm,rfl,rfl,rfl⟩
    ·rintro q2 G2 fr H' Q0 R0 ⟨d,ws,hd,hcd,X6,Z5,rfl,rfl,rfl⟩;have hE:=R0;try simp only[zzs] at hE
     repeat(obtain⟨J0,hE⟩:=hE)
     have h4:=zag 4 ws
     have hov: ∀f:Nat→Nat,zf (zE 4 ws) 0 (zE 4 f)=zE 4 f:=fun f=>by
      unfold zf;rw[Se,Af,Gf (by rw[h4,zag];omega),Bf]
     by_cases E7:d<256
     ·have hdl2:d<l.length:=by omega
      by_cases Mb:l[d]=l[c]
      ·repeat' first
        |with_reducible first|refine Zd ?_ |refine Ae (fun _=>?_) fun _=>?_ |refine Nb fun nb A0 C0 B0=>?_ |refine Nr fun nb D0 E0 A0 I0 C0 B0=>?_
        |with_reducible refine Vf tok mixed zn5 12 [2,5] (.op 0 .plain (.op 1 .plain (.op 2 .held (.op 3 .plain (.op 4 .plain (.op 5 .held (.op 6 .plain .nil))))))) Kk [1] ?_
        |simp -dsimp -implicitDefEqProofs (disch:=first|exact Kd|fail) only[go_sem,↓reduceIte,seval, -He,F6,Le,Mb,h4,zaZ,za0,zag,hov,Ye]
        |with_reducible refine zxw ws X6 d E7 ?_
       refine Ce ⟨q2 - 1,by omega,d+1,_,by omega,by omega,fun k=>?_,fun x hx=>?_,rfl,rfl,rfl⟩
       ·unfold upd;split
        ·exact zyy (X6 _) Ko
        ·exact X6 k
       ·rw[zqj,Z5 x hx,Lf];simp only[Bool.or_eq_true,decide_eq_true_eq];constructor
        ·rintro(⟨h1,h2,h3⟩|h)
         ·exact⟨h1,by omega,h3⟩
         ·subst h;exact⟨hcd,by omega,Mb⟩
        ·rintro⟨h1,h2,h3⟩;by_cases e:x=d
         ·exact .inr e
         ·exact .inl ⟨h1,by omega,h3⟩
      ·repeat' first
        |with_reducible first|refine Zd ?_ |refine Ae (fun _=>?_) fun _=>?_ |refine Nb fun nb A0 C0 B0=>?_ |refine Nr fun nb D0 E0 A0 I0 C0 B0=>?_
        |with_reducible refine Vf tok mixed zn5 12 [2,5] (.op 0 .plain (.op 1 .plain (.op 2 .held (.op 3 .plain (.op 4 .plain (.op 5 .held (.op 6 .plain .nil))))))) Kk [1] ?_
        |simp -dsimp -implicitDefEqProofs (disch:=first|exact Kd|fail) only[go_sem,↓reduceIte,seval, -He,F6,Le]
       refine Ce ⟨q2 - 1,by omega,d+1,ws,by omega,by omega,X6,fun x hx=>?_,rfl,rfl,rfl⟩;rw[Z5 x hx];refine decide_eq_decide.2 ⟨fun h=>⟨h.1,by omega,h.2.2⟩,fun h=>⟨h.1,?_,h.2.2⟩⟩;rcases Eg x d with h1|h1
       ·exact h1
       ·obtain rfl:x=d:=by omega
        exact absurd h.2.2 Mb
     ·obtain rfl:d=256:=by omega
      repeat' first
       |with_reducible first|refine Zd ?_ |refine Ae (fun _=>?_) fun _=>?_ |refine Nb fun nb A0 C0 B0=>?_ |refine Nr fun nb D0 E0 A0 I0 C0 B0=>?_
       |simp -dsimp -implicitDefEqProofs (disch:=first|exact Kd|fail) only[go_sem,↓reduceIte,seval, -He,h4,zaZ,za0,zbF,Ye]
      have hfl2:(W++[ws]).flatMap zae=W.flatMap zae++zE 4 ws:=by rw[Ig];simp [zae]
      have W4:zeq l (c+1) (W++[ws]):=by
       refine⟨by rw[ht,Ve,Ve,hW1];rfl,fun f hf=>?_,fun i d hi hd h2=>?_⟩
       ·rcases List.mem_append.1 hf with h|h
        ·exact U8 f h
        ·rw[List.mem_singleton.1 h];exact X6
       ·have h3:(zl (l.take (c+1)))[i]=(zl (l.take c)++[l[c]])[i]'(by rw[←ht];exact h2):=by simp only[ht]
        rw[h3];rcases Eg i W.length with hiw|hiw
        ·rw[Ag hiw,Ag Ko];exact hW3 i d hiw hd Ko
        ·have Da:i=W.length:=by rw[Ve,Bg] at hi;omega
         subst Da;rw[Ng (Qe _),Ng Ko];simp only[hW1,Og,List.getElem_singleton];rw[Z5 d hd];refine decide_eq_decide.2 ⟨fun h=>h.2.2,fun h=>⟨?_,by omega,h⟩⟩;rcases Eg d c with h1|h1
         ·exact absurd (by rw[←h];exact zc1 h1 Ko) Eb
         ·exact h1
      rw[←hfl2];exact Oe (H':=(bd, .cells (zaS 256 (fun x=>decide ((x:Int)∈l.take (c+1)))) [] 117):: (nb, .cells ((W++[ws]).flatMap zae) D0 101):: (b1, .cells (u8L l) [] 22)::H) Ks (Ce ⟨q - 1,by omega,c+1,nb,E0,W++[ws],D0,by omega,rfl,W4,by rw[Ve];simp at I0⊢;omega,rfl,by rw[Ve];rfl⟩)
  ·obtain rfl:c=256:=by omega
   repeat' first
    |with_reducible first|refine Zd ?_ |refine Ae (fun _=>?_) fun _=>?_ |refine Nb fun nb A0 C0 B0=>?_ |refine Nr fun nb D0 E0 A0 I0 C0 B0=>?_
    |simp -dsimp -implicitDefEqProofs (disch:=first|exact Kd|fail) only[go_sem,↓reduceIte,seval, -He]
   unfold zo;refine Oe (H':=(bo, .cells (W.flatMap zae) sp 101)::H) Ks (Jf Ka fun G2 Q0 R0 V1=>?_);exact fun _ hs=>hR G2 _ W Q0 hs ⟨some ⟨bo,0,none⟩,cap,rfl,V1,by omega⟩ hW
def u8F (f:Nat→Int):List Value:=(Hg 256).map fun k=>Yd .u8 (f k)
theorem zR (f:Nat→Int):(u8F f).length=256:=by simp [u8F]
theorem ziK {f:Nat→Int} {i:Nat} (h:i< (u8F f).length):(u8F f)[i]= .int .u8 (f i):=by simp [u8F]
theorem zhO {f:Nat→Int} {i:Nat} (h:i<256) (x:Int):zf (u8F f) i [.int .u8 x]=u8F (upd f i x):=by
 rw[zgY (by rw[zR];exact h)];apply Tg (by rw[List.length_set,zR,zR]);intro k h1 h2;rw[ziK,List.getElem_set];by_cases hk:i=k
 ·subst hk;rw[if_pos rfl,zhM]
 ·rw[if_neg hk,ziK,zkU _ _ (Ne.symm hk)]
theorem zbb (f:Nat→Int):(u8F f).all zax=true:=by unfold u8F;rw[Mg];exact List.all_eq_true.2 fun _ _=>rfl
theorem zaA (f g:Nat→Int):zf (u8F f) 0 (u8F g)=u8F g:=by
 unfold zf;rw[Se,Af,Gf (by rw[zR,zR];omega),Bf]
theorem za5:Fe 256 (Yd .u8 0)=u8F (fun _=>0):=by
 unfold u8F;rw[List.map_const',List.length_range]
theorem za6 (f:Nat→Int):Hf 256 (u8F f)=u8F f:=Pe (by rw[zR];omega)
theorem zcp {f g:Nat→Int} (h: ∀k,k<256→f k=g k):u8F f=u8F g:=by
 unfold u8F;exact List.map_congr_left fun k hk=>by rw[h k (List.mem_range.1 hk)]
def nD (l:List Int) (k:Nat):Int:=(zd l).getD k 0
theorem zeG {l:List Int} (hl:l.length=256):u8F (nD l)=u8L (zd l):=by
 apply Tg (by rw[zR,Be,zt,hl]);intro k h1 h2;have h3:k< (zd l).length:=by rw[Be] at h2;exact h2
 rw[ziK,Le,nD,Fg,Xe h3];rfl
theorem zmn {l:List Int} {c i:Nat} (hc:c<l.length) (hi:i< (zl l).length):l[c]=(zl l)[i]↔nD l c=i:=by
 have h3:c< (zd l).length:=by rw[zt];exact hc
 unfold nD;rw[Fg,Xe h3,Option.getD_some,zbK hc];have hp:=zdh (zcR l) hi;constructor
 ·intro e;rw[e,zB hp]
 ·intro e;refine zgA ((zK l).2 (Me hc)) (Me hi) ?_;rw[e,zB hp]
def fU (l:List Int) (i c k:Nat):Int:=if nD l k<i∨(nD l k=i∧k<c) then nD l k else 0
theorem zto {l:List Int} (hl:l.length=256) {W:List (Nat→Nat)} (hW:zeq l 256 W) {G:zb} {H:za} {R:Value→zb→za→Prop} {v:Value} (hv:SlM G zae v W)
  (hR:R (.tuple #[zb4 (zd l), .int .i64 (zl l).length]) G H):FnT Tryz.prog 56 [v] G H R:=by
 obtain⟨a,cap,rfl,U0,D5⟩:=hv;obtain⟨hW1,U8,hW3⟩:=hW;have J2:l.take 256=l:=Pe Ko;simp only[J2] at hW1 hW3;have L3:=zZ l;have B9:=zbm (enc:=zae) (m:=4) zaN W;refine Ee tok zvn Tryz.func56 rfl Kk Kk Kn fun M0=>?_;rw[Tryz.results56];have hE:=M0;try simp only[zzs] at hE
 repeat(obtain⟨J0,hE⟩:=hE)
 repeat' first
  |with_reducible first|refine Zd ?_ |refine Ae (fun _=>?_) fun _=>?_ |refine Nb fun nb A0 C0 B0=>?_ |refine Nr fun nb D0 E0 A0 I0 C0 B0=>?_
  |simp -dsimp -implicitDefEqProofs (disch:=first|exact Kd|fail) only[go_sem,↓reduceIte,seval, -He,Ye,za5,zR,zbb,zaA]
 rename_i b2 Ec J8 A8;revert nb;intro b4 hb40 Fc Wb;refine Je tok zvn Kk [0,2,3,4,5] (fun q G' fr H'=> ∃i:Nat,i+q=W.length∧G'=G∧H'=(b4, .cells (u8F (fU l i 0)) [] 22):: (b2, .cells (u8F (fun _=>0)) [] 22)::H∧fr=[(0, .slice a W.length cap),(2, .pointer (some ⟨b2,0,none⟩)),(3, .int .i64 0),(4, .pointer (some ⟨b4,0,none⟩)),(5, .int .i64 (i:Nat))]) (W.length) ?_ ?_
 ·refine Ce ⟨0,by omega,rfl,?_,rfl⟩
  rw[show u8F (fU l 0 0)=u8F (fun _=>0) from zcp fun k hk=>by
   have: ¬(nD l k< (0 :Nat)∨(nD l k=(0 :Nat)∧k<0)):=by
    have K2:k< (zd l).length:=by rw[zt];omega
    have:=(za9 (Me K2)).1;have e:nD l k=(zd l)[k]:=by unfold nD;rw[Fg,Xe K2];rfl
    omega
   unfold fU;rw[if_neg this]]
 ·rintro q G1 fr H' S0 hs ⟨i,hi,rfl,rfl,rfl⟩;have hE:=hs;try simp only[zzs] at hE
  repeat(obtain⟨J0,hE⟩:=hE)
  by_cases Y0:i<W.length
  ·have B3:Adr a:=U0.adr Ko;have hit:i< (zl l).length:=by omega
   have hw:=zea (n:=i) Ko;have X6:=U8 _ (Me Y0)
   repeat' first
    |with_reducible first|refine Zd ?_ |refine Ae (fun _=>?_) fun _=>?_ |refine Nb fun nb A0 C0 B0=>?_ |refine Nr fun nb D0 E0 A0 I0 C0 B0=>?_
    |simp -dsimp -implicitDefEqProofs (disch:=first|exact Kd|fail) only[go_sem,↓reduceIte,seval, -He]
   refine Je tok zvn Kk [0,2,3,4,5,6] (fun q2 G' fr H'=> ∃c:Nat,c+q2=256∧G'=G1∧H'=(b4, .cells (u8F (fU l i c)) [] 22):: (b2, .cells (u8F (fun _=>0)) [] 22)::H∧fr=[(0, .slice a W.length cap),(2, .pointer (some ⟨b2,0,none⟩)),(3, .int .i64 0),(4, .pointer (some ⟨b4,0,none⟩)),(5, .int .i64 (i:Nat)),(6, .int .i64 (c:Nat))]) (256) ?_ ?_
   ·exact Ce ⟨0,by omega,rfl,rfl,rfl⟩
   ·rintro q2 G2 fr H' Q0 R0 ⟨c,hc,rfl,rfl,rfl⟩;have hE:=R0;try simp only[zzs] at hE
    repeat(obtain⟨J0,hE⟩:=hE)
    by_cases V2:c<256
    ·have hcl2:c<l.length:=by omega
     have Z5:=hW3 i c Y0 hcl2 hit;have hcls:=zmn hcl2 hit;by_cases Mb:nD l c=i
     ·rw[decide_eq_true (hcls.2 Mb)] at Z5
      repeat' first
       |with_reducible first|refine Zd ?_ |refine Ae (fun _=>?_) fun _=>?_ |refine Nb fun nb A0 C0 B0=>?_ |refine Nr fun nb D0 E0 A0 I0 C0 B0=>?_
       |simp -dsimp -implicitDefEqProofs (disch:=first|exact Kd|fail) only[go_sem,↓reduceIte,seval, -He,Row.objsM U0 zaN (by decide) Y0,zae,Z5,hw,zhO,zR]
       |with_reducible refine zkW _ X6 c V2 ?_
      rw[show u8F (upd (fU l i c) c i)=u8F (fU l i (c+1)) from zcp fun k _=>by
       unfold upd fU;by_cases e:k=c
       ·subst e;rw[if_pos rfl,if_pos Ko,Mb]
       ·rw[if_neg e];by_cases h:nD l k<i∨(nD l k=i∧k<c)
        ·rw[if_pos h,if_pos Ko]
        ·rw[if_neg h,if_neg Ko]]
      exact Ce ⟨q2 - 1,by omega,c+1,by omega,rfl,rfl,rfl⟩
     ·rw[decide_eq_false fun e=>Mb (hcls.1 e)] at Z5
      repeat' first
       |with_reducible first|refine Zd ?_ |refine Ae (fun _=>?_) fun _=>?_ |refine Nb fun nb A0 C0 B0=>?_ |refine Nr fun nb D0 E0 A0 I0 C0 B0=>?_
       |simp -dsimp -implicitDefEqProofs (disch:=first|exact Kd|fail) only[go_sem,↓reduceIte,seval, -He,Row.objsM U0 zaN (by decide) Y0,zae,Z5]
       |with_reducible refine zkW _ X6 c V2 ?_
      rw[show u8F (fU l i c)=u8F (fU l i (c+1)) from zcp fun k _=>by
       unfold fU;by_cases e:k=c
       ·subst e;by_cases h:nD l k<i
        ·rw[if_pos Ko,if_pos Ko]
        ·rw[if_neg Ko,if_neg Ko]
       ·by_cases h:nD l k<i∨(nD l k=i∧k<c)
        ·rw[if_pos h,if_pos Ko]
        ·rw[if_neg h,if_neg Ko]]
      exact Ce ⟨q2 - 1,by omega,c+1,by omega,rfl,rfl,rfl⟩
    ·obtain rfl:c=256:=by omega
     repeat' first
      |with_reducible first|refine Zd ?_ |refine Ae (fun _=>?_) fun _=>?_ |refine Nb fun nb A0 C0 B0=>?_ |refine Nr fun nb D0 E0 A0 I0 C0 B0=>?_
      |simp -dsimp -implicitDefEqProofs (disch:=first|exact Kd|fail) only[go_sem,↓reduceIte,seval, -He]
     rw[show u8F (fU l i 256)=u8F (fU l (i+1) 0) from zcp fun k hk=>by
      unfold fU;by_cases h:nD l k<i∨(nD l k=i∧k<256)
      ·rw[if_pos h,if_pos Ko]
      ·rw[if_neg h,if_neg Ko]]
     exact Ce ⟨q - 1,by omega,i+1,by omega,rfl,rfl,rfl⟩
  ·obtain rfl:i=W.length:=by omega
   repeat' first
    |with_reducible first|refine Zd ?_ |refine Ae (fun _=>?_) fun _=>?_ |refine Nb fun nb A0 C0 B0=>?_ |refine Nr fun nb D0 E0 A0 I0 C0 B0=>?_
    |simp -dsimp -implicitDefEqProofs (disch:=first|exact Kd|fail) only[go_sem,↓reduceIte,seval, -He,za6,zbb,zaA,zR,Ye]
   rw[show u8F (fU l W.length 0)=u8L (zd l) by
    rw[←zeG hl];refine zcp fun k hk=>?_;have K2:k< (zd l).length:=by rw[zt];omega
    have:=(za9 (Me K2)).2;have e:nD l k=(zd l)[k]:=by unfold nD;rw[Fg,Xe K2];rfl
    unfold fU;rw[if_pos Ko]]
   rw[←hW1] at hR;all_goals refine De ?_ hR ?_
   any_goals first|exact Ks|skip
   rfl
theorem zn8 {l:List Int} (hl:l.length=256) (D9: ∀x∈l,0≤x∧x≤255) {G:zb} {H:za} {R:Value→zb→za→Prop}
  (hR: ∀G',PLe G G'→Sep G' (zm H)→R (.tuple #[zb4 (zd l), .int .i64 (zl l).length]) G' H):FnT Tryz.prog 31 [zb4 l] G H R:=by
 have C1:(zd l).length=256:=by rw[zt,hl]
 have F6:(u8L l).length=256:=by rw[Be,hl]
 have hu9:(u8L (zd l)).length=256:=by rw[Be,C1]
 have Kb:zf (Fe 256 (Yd .u8 0)) 0 (u8L (zd l))=u8L (zd l):=by
  unfold zf;rw[Se,Af,Gf (by rw[We,Be,C1];exact Qe _),Bf]
 have Fb:Hf 256 (u8L (zd l))=u8L (zd l):=Pe (by rw[Be,C1];omega);have Wc:Hf 256 (u8L l)=u8L l:=Pe (by rw[Be,hl];omega);refine Zf ?_;refine Ee tok kp5 Tryz.func31 rfl Kk Kk Kn fun M0=>?_;rw[Tryz.results31];have hE:=M0;try simp only[zzs] at hE
 repeat(obtain⟨J0,hE⟩:=hE)
 repeat' first
  |with_reducible first|refine Zd ?_ |refine Ae (fun _=>?_) fun _=>?_ |refine Nb fun nb A0 C0 B0=>?_
  |simp -dsimp -implicitDefEqProofs (disch:=first|exact Kd|fail) only[go_sem,↓reduceIte,seval, -He,Ye,F6,Wc]
 refine ztn hl D9 fun G2 v2 W Q0 R0 D3 hW=>?_;obtain⟨a,cap,rfl,hr,hc⟩:=D3;have hE:=R0;try simp only[zzs] at hE
 repeat(obtain⟨J0,hE⟩:=hE)
 repeat' first
  |with_reducible first|refine Zd ?_ |refine Ae (fun _=>?_) fun _=>?_ |refine Nb fun nb A0 C0 B0=>?_
  |simp -dsimp -implicitDefEqProofs (disch:=first|exact Kd|fail) only[go_sem,↓reduceIte,seval, -He,Ye]
 refine zto hl hW ⟨a,cap,rfl,hr,hc⟩ ?_
 repeat' first
  |with_reducible first|refine Zd ?_ |refine Ae (fun _=>?_) fun _=>?_ |refine Nb fun nb A0 C0 B0=>?_
  |simp -dsimp -implicitDefEqProofs (disch:=first|exact Kd|fail) only[go_sem,↓reduceIte,seval, -He,Ye,Kb,Fb,hu9,We]
 unfold zo;refine Xf (H':=H) Ks ?_;exact fun _ hs=>hR G2 Q0 hs
theorem ztp {l:List Int} (hl:l.length=256) (D9: ∀x∈l,0≤x∧x≤255) (w:Int) {G:zb} {H:za} {R:Value→zb→za→Prop}
  (hR: ∀G',PLe G G'→Sep G' (zm H)→R (.bool (decide (zd l=l)&&decide (((zl l).length:Int)=w))) G' H):FnT Tryz.prog 18 [zb4 l, .int .i64 w] G H R:=by
 have C1:(zd l).length=256:=by rw[zt,hl]
 have Kb:zf (Fe 256 (Yd .u8 0)) 0 (u8L (zd l))=u8L (zd l):=by
  unfold zf;rw[Se,Af,Gf (by rw[We,Be,C1];exact Qe _),Bf]
 have Fb:Hf 256 (u8L (zd l))=u8L (zd l):=Pe (by rw[Be,C1];omega);have Wc:Hf 256 (u8L l)=u8L l:=Pe (by rw[Be,hl];omega);have heq:eqT T 9 22 (zb4 (zd l)) (zb4 l)=some (decide (zd l=l)):=zj0 (d:=7) (t:=22) (e:=5) (n:=256) (k:= .u8) rfl rfl rfl C1 hl;refine Zf ?_;refine Ee tok kp6 Tryz.func18 rfl Kk Kk Kn fun M0=>?_;rw[Tryz.results18];have hE:=M0;try simp only[zzs] at hE
 repeat(obtain⟨J0,hE⟩:=hE)
 repeat' first
  |with_reducible first|refine Zd ?_ |refine Ae (fun _=>?_) fun _=>?_ |refine Nb fun nb A0 C0 B0=>?_
  |simp -dsimp -implicitDefEqProofs (disch:=first|exact Kd|fail) only[go_sem,↓reduceIte,seval, -He,Ye,Be,hl,C1,Fb,Wc]
 refine zn8 hl D9 fun G2 Q0 R0=>?_;have hE:=R0;try simp only[zzs] at hE
 repeat(obtain⟨J0,hE⟩:=hE)
 repeat' first
  |with_reducible first|refine Zd ?_ |refine Ae (fun _=>?_) fun _=>?_ |refine Nb fun nb A0 C0 B0=>?_
  |simp -dsimp -implicitDefEqProofs (disch:=first|exact Kd|fail) only[go_sem,↓reduceIte,seval, -He,Ye,Be,hl,C1,Fb,Wc,Kb,heq,We]
 ·rename_i he;rw[decide_eq_true he] at hR;simp only[Bool.true_and] at hR;unfold zo;refine Xf (H':=H) Ks ?_;exact fun _ hs=>hR G2 Q0 hs
 ·rename_i he;rw[decide_eq_false he] at hR;simp only[Bool.false_and] at hR;unfold zo;refine Xf (H':=H) Ks ?_;exact fun _ hs=>hR G2 Q0 hs
structure ClsS where
 c:Nat
 w:Nat
 f:Nat→Int
 s:Rdr
def zcT (f:Nat→Int) (c n:Nat) (k:Int):Nat→Int:=fun i=>if c≤i∧i<c+n then k else f i
def zbl (t:ClsS):ClsS:=
 if 256≤t.c∨t.s.1=true then t
 else if 256 - t.c< (zD 1 (zD 1 t.s).2).1+1 then⟨t.c,t.w,t.f,(true,(zD 1 (zD 1 t.s).2).2.2)⟩
 else⟨t.c+((zD 1 (zD 1 t.s).2).1+1),max t.w ((zD 1 t.s).1+1),zcT t.f t.c ((zD 1 (zD 1 t.s).2).1+1) ((zD 1 t.s).1 :Nat),(zD 1 (zD 1 t.s).2).2⟩
def zd0:Nat→ClsS→ClsS
 |0,t=>t
 |k+1,t=>zd0 k (zbl t)
def zaV (s:Rdr):ClsS:=zd0 256 ⟨0,0,fun _=>0,s⟩
theorem zjj (s:Rdr):zd0 256 ⟨0,0,fun _=>0,s⟩=zaV s:=(zaV.eq_1 s).symm
theorem zmo (k:Nat) (t:ClsS):zd0 (k+1) t=zd0 k (zbl t):=rfl
theorem zrM {t:ClsS} (h:256≤t.c∨t.s.1=true):zbl t=t:=by unfold zbl;rw[if_pos h]
theorem zjk {t:ClsS} (h:256≤t.c∨t.s.1=true): ∀k,zd0 k t=t
 |0=>rfl
 |k+1=>by show zd0 k (zbl t)=t;rw[zrM h];exact zjk h k
theorem zrN (t:ClsS):(zbl t).s.2.length≤t.s.2.length:=by
 unfold zbl;split
 ·exact Qe _
 ·have:=zcd 1 (zD 1 t.s).2;have:=zcd 1 t.s;split
  ·show(zD 1 (zD 1 t.s).2).2.2.length≤_;omega
  ·show(zD 1 (zD 1 t.s).2).2.2.length≤_;omega
theorem zqm: ∀ (k:Nat) (t:ClsS),(zd0 k t).s.2.length≤t.s.2.length
 |0,_=>Qe _
 |k+1,t=>Cg (zqm k (zbl t)) (zrN t)
theorem ztq {t:ClsS} (h:t.w≤256∧ ∀i,0≤t.f i∧t.f i≤255):(zbl t).w≤256∧ ∀i,0≤(zbl t).f i∧(zbl t).f i≤255:=by
 have:=zgC t.s;unfold zbl;split
 ·exact h
 ·split
  ·exact h
  ·refine⟨by show max _ _≤_;omega,fun i=>?_⟩;show 0≤zcT _ _ _ _ i∧zcT _ _ _ _ i≤255;unfold zcT;split
   ·omega
   ·exact h.2 i
theorem ztr: ∀ (k:Nat) {t:ClsS},(t.w≤256∧ ∀i,0≤t.f i∧t.f i≤255)→(zd0 k t).w≤256∧ ∀i,0≤(zd0 k t).f i∧(zd0 k t).f i≤255
 |0,_,h=>h
 |k+1,_,h=>ztr k (ztq h)
theorem zrO (f:Nat→Int) (c:Nat) (k:Int):zcT f c 0 k=f:=by
 funext i;unfold zcT;rw[if_neg Ko]
theorem zrP (f:Nat→Int) (c n:Nat) (k:Int):upd (zcT f c n k) (c+n) k=zcT f c (n+1) k:=by
 funext i;unfold upd zcT;by_cases e:i=c+n
 ·subst e;rw[if_pos rfl,if_pos Ko]
 ·rw[if_neg e];by_cases h:c≤i∧i<c+n
  ·rw[if_pos h,if_pos Ko]
  ·rw[if_neg h,if_neg Ko]
attribute [irreducible] zd0
theorem zts {s:Rdr} (D3:s.2.length≤200000000) {bR:Nat} {sv:Value} {G:zb} {H:za} {R:Value→zb→za→Prop} (hs:Sl G zp sv s.2)
  (hR: ∀G' sv',PLe G G'→Sep G' (zm ((bR,Res.cells [sv', .bool (zaV s).s.1] [] 58)::H))→Sl G' zp sv' (zaV s).s.2→R (.tuple #[.agg (u8F (zaV s).f).toArray, .int .i64 ((zaV s).w:Nat)]) G' ((bR, .cells [sv', .bool (zaV s).s.1] [] 58)::H)):
  FnT Tryz.prog 60 [.pointer (some ⟨bR,0,none⟩)] G ((bR, .cells [sv, .bool s.1] [] 58)::H) R:=by
 refine Zf ?_;refine Ee tok zvo Tryz.func60 rfl Kk Kk Kn fun M0=>?_;rw[Tryz.results60];have hE:=M0;try simp only[zzs] at hE
 repeat(obtain⟨J0,hE⟩:=hE)
 repeat' first
  |with_reducible first|refine Zd ?_ |refine Ae (fun _=>?_) fun _=>?_ |refine Nb fun nb A0 C0 B0=>?_ |refine Nr fun nb D0 E0 A0 I0 C0 B0=>?_
  |simp -dsimp -implicitDefEqProofs (disch:=first|exact Kd|fail) only[go_sem,↓reduceIte,seval, -He,za5]
 rename_i b2 F4 J8 A8;revert nb;intro b4 hb4 Fc Wb;refine Je tok zvo Kk [0,2,3,4,5,6] (fun q G' fr H'=> ∃ (t:ClsS) (sv':Value),PLe G G'∧zd0 q t=zaV s∧256 - t.c≤q∧t.c≤256∧t.w≤256∧t.s.2.length≤200000000∧Sl G' zp sv' t.s.2∧H'=(b4, .cells (u8F t.f) [] 22):: (b2, .cells (u8F fun _=>0) [] 22):: (bR, .cells [sv', .bool t.s.1] [] 58)::H∧fr=[(0, .pointer (some ⟨bR,0,none⟩)),(2, .pointer (some ⟨b2,0,none⟩)),(3, .int .i64 0),(4, .pointer (some ⟨b4,0,none⟩)),(5, .int .i64 (t.w:Nat)),(6, .int .i64 (t.c:Nat))]) (256) ?_ ?_
 ·exact Ce ⟨⟨0,0,fun _=>0,s⟩,sv,PLe.refl _,zjj s,by simp,Pg _,Pg _,D3,hs,rfl,rfl⟩
 ·rintro q G2 fr H' Q0 R0 ⟨t,sv2,Qd,N1,hq,hc,hw,Gc,C9,rfl,rfl⟩;have hE:=R0;try simp only[zzs] at hE
  repeat(obtain⟨J0,hE⟩:=hE)
  by_cases J5:256≤t.c∨t.s.1=true
  ·rw[zjk J5] at N1;subst N1;by_cases h1:256≤(zaV s).c
   ·repeat' first
     |with_reducible first|refine Zd ?_ |refine Ae (fun _=>?_) fun _=>?_ |refine Nb fun nb A0 C0 B0=>?_ |refine Nr fun nb D0 E0 A0 I0 C0 B0=>?_
     |simp -dsimp -implicitDefEqProofs (disch:=first|exact Kd|fail) only[go_sem,↓reduceIte,seval, -He,zR,zaA,za6,zbb]
    all_goals try(exfalso;omega)
    unfold zo;refine Xf (H':=(bR, .cells [sv2, .bool (zaV s).s.1] [] 58)::H) Ks ?_;exact fun _ hs=>hR _ sv2 Qd hs C9
   ·have h2:(zaV s).s.1=true:=J5.resolve_left h1;rw[h2] at hR
    repeat' first
     |with_reducible first|refine Zd ?_ |refine Ae (fun _=>?_) fun _=>?_ |refine Nb fun nb A0 C0 B0=>?_ |refine Nr fun nb D0 E0 A0 I0 C0 B0=>?_
     |simp -dsimp -implicitDefEqProofs (disch:=first|exact Kd|fail) only[go_sem,↓reduceIte,seval, -He,zR,zaA,za6,zbb,h2]
    all_goals try(exfalso;omega)
    unfold zo;refine Xf (H':=(bR, .cells [sv2, .bool true] [] 58)::H) Ks ?_;exact fun _ hs=>hR _ sv2 Qd hs C9
  ·have J4:t.c<256:=by omega
   have W5:t.s.1=false:=by cases e:t.s.1 with|false=>rfl|true=>exact absurd (Or.inr e) J5
   obtain⟨q,rfl⟩: ∃p,q=p+1:=⟨q - 1,by omega⟩;have B1:zd0 q (zbl t)=zaV s:=(zmo q t).symm.trans N1;obtain⟨c,w,f,bad,l⟩:=t;simp only at J4 W5 hc hw Gc C9 hq;subst W5
   have Q9:zbl ⟨c,w,f,(false,l)⟩=if 256 - c< (zD 1 (zD 1 (false,l)).2).1+1 then⟨c,w,f,(true,(zD 1 (zD 1 (false,l)).2).2.2)⟩ else⟨c+((zD 1 (zD 1 (false,l)).2).1+1),max w ((zD 1 (false,l)).1+1),zcT f c ((zD 1 (zD 1 (false,l)).2).1+1) ((zD 1 (false,l)).1 :Nat),(zD 1 (zD 1 (false,l)).2).2⟩:=by
    unfold zbl;rw[if_neg J5]
   have hn1:=zgC (false,l);have D4:=zcd 1 (false,l);have Q4:=zgC (zD 1 (false,l)).2;have Z0:=zcd 1 (zD 1 (false,l)).2;obtain⟨r1,U1⟩: ∃r,r=zD 1 (false,l):=⟨_,rfl⟩;obtain⟨r2,V1⟩: ∃r,r=zD 1 r1.2:=⟨_,rfl⟩;obtain⟨k,hk⟩: ∃k,k=r1.1:=⟨_,rfl⟩;obtain⟨n,hn⟩: ∃n,n=r2.1:=⟨_,rfl⟩;rw[←U1,←V1,←hk,←hn] at Q9;rw[←U1] at hn1 D4 Q4 Z0;rw[←V1] at Q4 Z0;rw[←hk] at hn1;rw[←hn] at Q4;simp only at D4
   repeat' first
    |with_reducible first|refine Zd ?_ |refine Ae (fun _=>?_) fun _=>?_ |refine Nb fun nb A0 C0 B0=>?_ |refine Nr fun nb D0 E0 A0 I0 C0 B0=>?_
    |simp -dsimp -implicitDefEqProofs (disch:=first|exact Kd|fail) only[go_sem,↓reduceIte,seval, -He]
   refine FnT.leave (H':=(bR, .cells [sv2, .bool false] [] 58):: (b4, .cells (u8F f) [] 22):: (b2, .cells (u8F fun _=>0) [] 22)::H) (zb5 (s:=(false,l)) Gc (n:=1) Ko C9 fun G3 sv3 A1 K1 Zb=>?_) Ks;rw[←U1] at K1 Zb⊢;rw[←hk];have hE:=K1;try simp only[zzs] at hE
   repeat(obtain⟨J0,hE⟩:=hE)
   repeat' first
    |with_reducible first|refine Zd ?_ |refine Ae (fun _=>?_) fun _=>?_ |refine Nb fun nb A0 C0 B0=>?_ |refine Nr fun nb D0 E0 A0 I0 C0 B0=>?_
    |simp -dsimp -implicitDefEqProofs (disch:=first|exact Kd|fail) only[go_sem,↓reduceIte,seval, -He]
   refine zb5 (s:=r1.2) Ko (n:=1) Ko Zb fun G4 sv4 Z1 S1 Fa=>?_;rw[←V1] at S1 Fa⊢;rw[←hn];have hE:=S1;try simp only[zzs] at hE
   repeat(obtain⟨J0,hE⟩:=hE)
   by_cases hbig:256 - c<n+1
   ·rw[if_pos hbig] at Q9
    repeat' first
     |with_reducible first|refine Zd ?_ |refine Ae (fun _=>?_) fun _=>?_ |refine Nb fun nb A0 C0 B0=>?_ |refine Nr fun nb D0 E0 A0 I0 C0 B0=>?_
     |simp -dsimp -implicitDefEqProofs (disch:=first|exact Kd|fail) only[go_sem,↓reduceIte,seval, -He,zR,zaA,za6,zbb]
    all_goals try(exfalso;omega)
    rw[Q9,zjk (Or.inr rfl)] at B1;rw[←B1] at hR;unfold zo;refine Xf (H':=(bR, .cells [sv4, .bool true] [] 58)::H) Ks ?_;exact fun _ hs=>hR _ sv4 (Qd.trans (A1.trans Z1)) hs Fa
   ·rw[if_neg hbig] at Q9
    repeat' first
     |with_reducible first|refine Zd ?_ |refine Ae (fun _=>?_) fun _=>?_ |refine Nb fun nb A0 C0 B0=>?_ |refine Nr fun nb D0 E0 A0 I0 C0 B0=>?_
     |simp -dsimp -implicitDefEqProofs (disch:=first|exact Kd|fail) only[go_sem,↓reduceIte,seval, -He]
    all_goals try(exfalso;omega)
    refine Je tok zvo Kk [0,2,3,4,5,6,7,30,31] (fun q2 G' fr H'=> ∃ (j:Nat),j+q2=n+1∧G'=G4∧H'=(bR, .cells [sv4, .bool r2.2.1] [] 58):: (b4, .cells (u8F (zcT f c j (k:Nat))) [] 22):: (b2, .cells (u8F fun _=>0) [] 22)::H∧fr=[(0, .pointer (some ⟨bR,0,none⟩)),(2, .pointer (some ⟨b2,0,none⟩)),(3, .int .i64 0),(4, .pointer (some ⟨b4,0,none⟩)),(5, .int .i64 (w:Nat)),(6, .int .i64 ((c:Nat)+(j:Nat))),(7, .int .i64 (k:Nat)),(30, .int .i64 ((n:Nat)+1)),(31, .int .i64 (j:Nat))]) ((n+1)) ?_ ?_
    ·exact Ce ⟨0,by omega,rfl,by rw[zrO],by rw[show((0 :Nat):Int)=0 from rfl,Int.add_zero];rfl⟩
    ·rintro q2 G5 fr H' A2 P1 ⟨j,hjq,rfl,rfl,rfl⟩;have hE:=P1;try simp only[zzs] at hE
     repeat(obtain⟨J0,hE⟩:=hE)
     by_cases hjn:j<n+1
     ·have hk8:IntKind.u8.wrap ((k:Nat):Int)=(k:Nat):=zeE (k:= .u8) rfl (by show _<256;omega);have hcj:((c:Int)+(j:Nat)).toNat=c+j:=by omega
      have M3:=zhO (f:=zcT f c j (k:Nat)) (i:=c+j) Ko (k:Nat);rw[zrP] at M3
      repeat' first
       |with_reducible first|refine Zd ?_ |refine Ae (fun _=>?_) fun _=>?_ |refine Nb fun nb A0 C0 B0=>?_ |refine Nr fun nb D0 E0 A0 I0 C0 B0=>?_
       |simp -dsimp -implicitDefEqProofs (disch:=first|exact Kd|fail) only[go_sem,↓reduceIte,seval, -He,zR,hk8,hcj,M3]
      exact Ce ⟨q2 - 1,by omega,j+1,by omega,rfl,rfl,by rw[show((j+1 :Nat):Int)=(j:Int)+1 from rfl,←Int.add_assoc];rfl⟩
     ·obtain rfl:j=n+1:=by omega
      repeat' first
       |with_reducible first|refine Zd ?_ |refine Ae (fun _=>?_) fun _=>?_ |refine Nb fun nb A0 C0 B0=>?_ |refine Nr fun nb D0 E0 A0 I0 C0 B0=>?_
       |simp -dsimp -implicitDefEqProofs (disch:=first|exact Kd|fail) only[go_sem,↓reduceIte,seval, -He]
      rw[Q9] at B1;refine Oe (H':=(b4, .cells (u8F (zcT f c (n+1) (k:Nat))) [] 22):: (b2, .cells (u8F fun _=>0) [] 22):: (bR, .cells [sv4, .bool r2.2.1] [] 58)::H) Ks (Ce ⟨q,by omega,_,sv4,Qd.trans (A1.trans Z1),B1,?_,?_,?_,?_,Fa,rfl,?_⟩)
      ·show 256 - (c+(n+1))≤q;omega
      ·show c+(n+1)≤256;omega
      ·show max w (k+1)≤256;omega
      ·show r2.2.2.length≤_;omega
      ·have hmx:zuC (w:Int) ((k:Nat)+1)=((max w (k+1):Nat):Int):=by unfold zuC;split <;> omega
       rw[hmx];rfl
def atL (l:List Int) (x:Int):Int:=l.getD x.toNat 0
theorem zL {l:List Int} {x:Int} (h:x.toNat<l.length):atL l x=l[x.toNat]:=by unfold atL;rw[Fg,Xe h];rfl
theorem zxx {L:List Int} {a:Option Addr} {cap b1:Nat} {x y:Int} (hx:0≤x∧x<L.length) (hy:0≤y∧y<L.length) {G:zb} {H:za} {R:Value→zb→za→Prop} (U0:Row G a (L.map (Yd .i64)))
  (Z2:G b1=none) (hf:zq H b1=some (.cells [.slice a L.length cap] [] 24)) (hR:R (.bool (decide (atL L x=atL L y))) G H):FnT Tryz.prog 158 [.int .i64 x, .int .i64 y, .pointer (some ⟨b1,0,none⟩)] G H R:=by
 obtain⟨i,rfl⟩:=Dg hx.1;obtain⟨j,rfl⟩:=Dg hy.1;have hi:i<L.length:=by omega
 have hj:j<L.length:=by omega
 rw[zL (by simpa using hi),zL (by simpa using hj)] at hR;simp only[Yf] at hR;have B3:Adr a:=U0.adr (by rw[Be];omega);refine Ee tok zrJ Tryz.func158 rfl Kk Kk Kn fun M0=>?_;rw[Tryz.results158];have hE:=M0;try simp only[zzs] at hE
 repeat(obtain⟨J0,hE⟩:=hE)
 repeat' first
  |with_reducible first|refine Zd ?_ |refine Ae (fun _=>?_) fun _=>?_
  |with_reducible refine Tri.drawM tok mixed zrJ 1 [0,3,4,7] (.op 0 .held (.op 1 .plain (.op 2 .plain (.op 3 .held (.op 4 .held (.op 5 .plain (.op 6 .plain (.op 7 .held (.op 8 .plain (.op 9 .plain .nil)))))))))) Kk _ (List.Sublist.refl _) ?_
  |simp -dsimp -implicitDefEqProofs (disch:=first|exact Kd|fail) only[go_sem,↓reduceIte,seval,hf,Ie U0,Le]
 all_goals refine De ?_ hR ?_
 any_goals first|exact Ks|skip
 rfl
def zd1 (L xs ys:List Int):Prop:= ∃h:xs.length=ys.length,∀k (hk:k<xs.length),atL L xs[k]=atL L (ys[k]'(h▸hk))
theorem zzH {L xs ys:List Int} (X1:xs.length≤2000000) (hxs: ∀x∈xs,0≤x∧x<L.length) (hys: ∀y∈ys,0≤y∧y<L.length) {a ax ay:Option Addr} {cap cx cy b1:Nat} {G:zb} {H:za} {R:Value→zb→za→Prop} (U0:Row G a (L.map (Yd .i64)))
  (hrx:Row G ax (xs.map (Yd .i64))) (K8:Row G ay (ys.map (Yd .i64))) (Z2:G b1=none) (hf:zq H b1=some (.cells [.slice a L.length cap] [] 24)) (hR:R (.bool (zaz (zd1 L xs ys))) G H):FnT Tryz.prog 159 [.slice ax xs.length cx, .slice ay ys.length cy, .func (.func 158) #[] #[.pointer (some ⟨b1,0,none⟩)]] G H R:=by
 by_cases Z4:xs.length=ys.length
 ·refine Ee tok zlG Tryz.func159 rfl Kk Kk Kn fun M0=>?_;rw[Tryz.results159];have hE:=M0;try simp only[zzs] at hE
  repeat(obtain⟨J0,hE⟩:=hE)
  repeat' first
   |with_reducible first|refine Zd ?_ |refine Ae (fun _=>?_) fun _=>?_ |refine Nb fun nb A0 C0 B0=>?_
   |simp -dsimp -implicitDefEqProofs (disch:=first|exact Kd|fail) only[go_sem,↓reduceIte,seval]
  all_goals try(exfalso;omega)
  refine Je tok zlG Kk [0,1,2,6,15,16,17] (fun n G' l H'=> ∃i:Nat,i+n=xs.length∧(∀j (h:j<xs.length),j<i→atL L xs[j]=atL L (ys[j]'(Z4▸h)))∧G'=G∧H'=H∧l=[(0, .slice ax xs.length cx),(1, .slice ay ys.length cy),(2, .func (.func 158) #[] #[.pointer (some ⟨b1,0,none⟩)]),(6, .bool false),(15, .slice ax xs.length cx),(16, .int .i64 xs.length),(17, .int .i64 i)]) (xs.length) (Ce ?_) ?_
  ·exact⟨0,by omega,fun j _ h=>by omega,rfl,rfl,rfl⟩
  ·rintro n G' l H' S0 hs ⟨i,hi,B1,rfl,rfl,rfl⟩;by_cases Y0:i<xs.length
   ·have Uc:i<ys.length:=by omega
    have hx:=hxs _ (Me Y0);have hy:=hys _ (Me Uc);have B3:Adr ax:=hrx.adr (by rw[Be];omega);have V6:Adr ay:=K8.adr (by rw[Be];omega)
    repeat' first
     |with_reducible first|refine Zd ?_ |refine Ae (fun _=>?_) fun _=>?_ |refine Nb fun nb A0 C0 B0=>?_
     |simp -dsimp -implicitDefEqProofs (disch:=first|exact Kd|fail) only[go_sem,↓reduceIte,seval,Ie hrx,Ie K8,Le]
     |with_reducible refine zxx (cap:=cap) hx hy U0 Z2 hf ?_
    ·rename_i he
     exact Ce ⟨n - 1,by omega,i+1,by omega,fun j h hj=>by
      by_cases e:j=i
      ·subst e;exact he
      ·exact B1 j h Ko,rfl,rfl,rfl⟩
    ·rename_i he;rw[zu fun h=>he (h.2 i Y0)] at hR;all_goals refine De ?_ hR ?_
     any_goals first|exact Ks|skip
     rfl
   ·obtain rfl:i=xs.length:=by omega
    rw[zA (p:=zd1 L xs ys) ⟨Z4,fun k hk=>B1 k hk hk⟩] at hR
    repeat' first
     |with_reducible first|refine Zd ?_ |refine Ae (fun _=>?_) fun _=>?_ |refine Nb fun nb A0 C0 B0=>?_
     |simp -dsimp -implicitDefEqProofs (disch:=first|exact Kd|fail) only[go_sem,↓reduceIte,seval]
    all_goals refine De ?_ hR ?_
    any_goals first|exact Ks|skip
    rfl
 ·rw[zu fun h=>Z4 h.1] at hR;refine Ee tok zlG Tryz.func159 rfl Kk Kk Kn fun M0=>?_;rw[Tryz.results159];have hE:=M0;try simp only[zzs] at hE
  repeat(obtain⟨J0,hE⟩:=hE)
  repeat' first
   |with_reducible first|refine Zd ?_ |refine Ae (fun _=>?_) fun _=>?_ |refine Nb fun nb A0 C0 B0=>?_
   |simp -dsimp -implicitDefEqProofs (disch:=first|exact Kd|fail) only[go_sem,↓reduceIte,seval]
  all_goals try(exfalso;omega)
  all_goals refine De ?_ hR ?_
  any_goals first|exact Ks|skip
  rfl
def zfK (d:DfaT) (m:List Int):Prop:= ∀s t (hs:s<m.length) (h1:s<d.label.length) (h2:t<d.label.length) (h3:s<d.next.length) (h4:t<d.next.length),place m m[s]=some t→d.label[s]=d.label[t]∧zd1 (zd m) d.next[s] d.next[t]
theorem zvq {d:DfaT} (P0:zr d) (K0:zg d) {m:List Int} (hm:m.length=d.label.length) {G:zb} {H:za} {R:Value→zb→za→Prop} {v w:Value} (hv:IsD G d v) (hw:Sl G (Yd .i64) w (zd m))
  (hR: ∀G',PLe G G'→Sep G' (zm H)→R (.bool (zaz (zfK d m))) G' H):FnT Tryz.prog 128 [v,w] G H R:=by
 obtain⟨C,an,al,ay,cn,cl,cs,rs,rfl,O⟩:=hv.opened;obtain⟨U3,M2,V3,A4,M4⟩:=id P0;obtain⟨Y2,K2,U2,N3,X3,Y3,Y1⟩:=id K0;have N0:=O.len;have J1:=O.n;have X0:=O.l;have C1:=zt m;have I3:=hw;obtain⟨a,cap,rfl,U0,D5⟩:=hw;refine Zf ?_;refine Ee tok zvp Tryz.func128 rfl Kk Kk Kn fun M0=>?_;rw[Tryz.results128];have hE:=M0;try simp only[zzs] at hE
 repeat(obtain⟨J0,hE⟩:=hE)
 repeat' first
  |with_reducible first|refine Zd ?_ |refine Ae (fun _=>?_) fun _=>?_ |refine Nb fun nb A0 C0 B0=>?_
  |simp -dsimp -implicitDefEqProofs (disch:=first|exact Kd|fail) only[go_sem,↓reduceIte,seval, -He,Ye,N0,J1,X0]
 rename_i b2 Ec J8 A8;refine zql Ko I3 fun G2 v2 Q0 R0 V5=>?_;obtain⟨ah,ch,rfl,S4,hch⟩:=V5;have hE:=R0;try simp only[zzs] at hE
 repeat(obtain⟨J0,hE⟩:=hE)
 repeat' first
  |with_reducible first|refine Zd ?_ |refine Ae (fun _=>?_) fun _=>?_ |refine Nb fun nb A0 C0 B0=>?_
  |simp -dsimp -implicitDefEqProofs (disch:=first|exact Kd|fail) only[go_sem,↓reduceIte,seval, -He,Ye,N0,J1,X0]
 have hhl:(zv m).length=(zl m).length:=by unfold zv;rw[Be]
 refine Je tok zvp Kk [2,3,4,5,13,14,15] (fun q G' fr H'=> ∃s:Nat,s+q=d.next.length∧(∀j t (hj:j<s) (hs:j<m.length) (h1:j<d.label.length) (h2:t<d.label.length) (h3:j<d.next.length) (h4:t<d.next.length),place m m[j]=some t→d.label[j]=d.label[t]∧zd1 (zd m) d.next[j] d.next[t])∧G'=G2∧H'=(nb, .cells [.slice a (zd m).length cap] [] 24):: (b2, .cells C [] 27)::H∧fr=[(2, .pointer (some ⟨b2,0,none⟩)),(3, .pointer (some ⟨nb,0,none⟩)),(4, .bool false),(5, .slice ah (zv m).length ch),(13, .slice an d.next.length cn),(14, .int .i64 d.next.length),(15, .int .i64 s)]) (d.next.length) ?_ ?_
 ·exact Ce ⟨0,by omega,fun j t hj=>by omega,rfl,rfl,rfl⟩
 ·rintro q G1 fr H' S0 hs ⟨s,hi,B1,rfl,rfl,rfl⟩;have hE:=hs;try simp only[zzs] at hE
  repeat(obtain⟨J0,hE⟩:=hE)
  by_cases D3:s<d.next.length
  ·have hsv:s<rs.length:=by have:=O.rnl;omega
   have V5:s<d.label.length:=by omega
   have hsm':s<m.length:=by omega
   obtain⟨b,c,e1,e2,e3⟩:=O.rs s D3 hsv;obtain⟨t,T7,L3,⟨K7,hte⟩,_⟩:=zaU hsm';have L1:t<d.next.length:=by omega
   have V8:t<rs.length:=by have:=O.rnl;omega
   have htl3:t<d.label.length:=by omega
   obtain⟨b',c',f1,f2,f3⟩:=O.rs t L1 V8;obtain⟨n,hn⟩:=zaf ((zK m).2 (Me hsm'));obtain⟨hn1,Q4⟩:=zaa hn;rw[Xe hn1,Option.some.injEq] at Q4;have E9:(zd m)[s]'Ko=(n:Int):=by rw[zbK hsm',zB hn]
   have hht:(zv m)[n]'Ko=(t:Int):=by simp only[zv,Le];rw[Q4,zB T7]
   have hnh:n< (zv m).length:=by omega
   have Ya:=U0.mono Q0;have hrn2:=O.rn.mono Q0;have hrl2:=O.rl.mono Q0;have B3:Adr an:=O.rn.adr Ko;have V6:Adr al:=O.rl.adr (by rw[Be];omega);have Xa:Adr a:=U0.adr (by rw[Be];omega);have Yc:Adr ah:=S4.adr (by rw[Be];omega);have U1:=(Y1 s D3 V5).2.2.2;have V1:=(Y1 t L1 htl3).2.2.2;rw[←hm,←C1] at U1 V1
   repeat' first
    |with_reducible first|refine Zd ?_ |refine Ae (fun _=>?_) fun _=>?_ |refine Nb fun nb A0 C0 B0=>?_
    |with_reducible refine Tri.drawM tok mixed zvp 7 [1,4,6,9,14,17] (.op 0 .plain (.op 1 .held (.op 2 .plain (.op 3 .plain (.op 4 .held (.op 5 .plain (.op 6 .held (.op 7 .plain (.op 8 .plain (.op 9 .held (.op 10 .plain (.op 11 .plain (.op 12 .plain (.op 13 .plain (.op 14 .held (.op 15 .plain (.op 16 .plain (.op 17 .held (.op 18 .plain (.op 19 .keeps (.op 20 .plain (.op 21 .plain .nil)))))))))))))))))))))) Kk _ (List.Sublist.refl _) ?_
    |simp -dsimp -implicitDefEqProofs (disch:=first|exact Kd|fail) only[go_sem,↓reduceIte,seval, -He,Ye,N0,J1,X0,Ie hrn2,e1,f1,Ie hrl2,Ie Ya,Ie S4,Le,E9,hht]
    |with_reducible refine zzH (cap:=cap) (M2 _ (Me D3)) U1 V1 Ya (e2.mono Q0) (f2.mono Q0) Ka ?_ ?_
   ·rename_i he1 he2
    exact Ce ⟨q - 1,by omega,s+1,by omega,fun j t' hj hs h1 h2 h3 h4 hp=>by
     by_cases e:j=s
     ·subst e;rw[T7,Option.some.injEq] at hp;subst hp;exact⟨he1,zcn.1 he2⟩
     ·exact B1 j t' Ko hs h1 h2 h3 h4 hp,rfl,rfl,rfl⟩
   ·rename_i he1 he2
    have J5: ¬zfK d m:=fun h=>by
     rw[zA (h s t hsm' V5 htl3 D3 L1 T7).2] at he2;cases he2
    unfold zo;refine Xf (H':=H) Ks ?_;rw[zu J5] at hR;exact fun _ hs=>hR _ Q0 hs
   ·rename_i he1;have J5: ¬zfK d m:=fun h=>he1 (h s t hsm' V5 htl3 D3 L1 T7).1;unfold zo;refine Xf (H':=H) Ks ?_;rw[zu J5] at hR;exact fun _ hs=>hR _ Q0 hs
  ·obtain rfl:s=d.next.length:=by omega
   have J5:zfK d m:=fun s t hs h1 h2 h3 h4 hp=>B1 s t Ko hs h1 h2 h3 h4 hp
   repeat' first
    |with_reducible first|refine Zd ?_ |refine Ae (fun _=>?_) fun _=>?_ |refine Nb fun nb A0 C0 B0=>?_
    |simp -dsimp -implicitDefEqProofs (disch:=first|exact Kd|fail) only[go_sem,↓reduceIte,seval, -He]
   unfold zo;refine Xf (H':=H) Ks ?_;rw[zA J5] at hR;exact fun _ hs=>hR _ Q0 hs
def zaY (d:DfaT) (l:List Int):Prop:=zg d∧l.length=d.label.length∧zfK d l
theorem zvr {d:DfaT} (P0:zr d) {m:List Int} (X4:m.length≤2000000) {G:zb} {H:za} {R:Value→zb→za→Prop} {v w:Value} (hv:IsD G d v) (hw:Sl G (Yd .i64) w m)
  (hR: ∀G',PLe G G'→Sep G' (zm H)→R (.bool (zaz (zaY d m))) G' H):FnT Tryz.prog 100 [v,w] G H R:=by
 obtain⟨C,an,al,ay,cn,cl,cs,rs,rfl,O⟩:=hv.opened;have N0:=O.len;have X0:=O.l;have T0:=O.all;have I3:=hw;obtain⟨a,cap,rfl,U0,D5⟩:=hw;refine Zf ?_;by_cases K0:zg d
 ·have hb:=zA K0;by_cases hm:m.length=d.label.length
  ·refine Ee tok zgW Tryz.func100 rfl Kk Kk Kn fun M0=>?_;rw[Tryz.results100];have hE:=M0;try simp only[zzs] at hE
   repeat(obtain⟨J0,hE⟩:=hE)
   repeat' first
    |with_reducible first|refine Zd ?_ |refine Ae (fun _=>?_) fun _=>?_ |refine Nb fun nb A0 C0 B0=>?_
    |simp -dsimp -implicitDefEqProofs (disch:=first|exact Kd|fail) only[go_sem,↓reduceIte,seval, -He,Ye,N0,X0,T0,hb]
    |with_reducible refine Vf tok mixed zgW 1 [0,6,11] (.op 0 .held (.op 1 .keeps (.op 2 .plain (.op 3 .plain (.op 4 .plain (.op 5 .plain (.op 6 .held (.op 7 .plain (.op 8 .plain (.op 9 .plain (.op 10 .plain (.op 11 .held (.op 12 .plain (.op 13 .keeps (.op 14 .keeps (.op 15 .plain (.op 16 .plain .nil))))))))))))))))) Kk [2] ?_
    |with_reducible refine zaJ P0 O.is ?_
    | ((with_reducible refine znW X4 I3 fun G2 v2 Q0 R0 V5=>?_);obtain⟨a2,c2,rfl,V1,J4⟩:=V5;have V5:Sl G2 (Yd .i64) (.slice a2 (zd m).length c2) (zd m):=⟨a2,c2,rfl,V1,J4⟩;(have hE:=R0;try simp only[zzs] at hE;repeat(obtain⟨J0,hE⟩:=hE)))
    | ((with_reducible refine zvq P0 K0 hm (O.is.mono Q0) V5 fun G3 A1 K1=>?_);(have hE:=K1;try simp only[zzs] at hE;repeat(obtain⟨J0,hE⟩:=hE)))
   unfold zo;refine Xf (H':=H) Ks ?_
   have J5:zaz (zaY d m)=zaz (zfK d m):=by
    rw[Lf,zcn,zcn];exact⟨fun h=>h.2.2,fun h=>⟨K0,hm,h⟩⟩
   rw[←J5];exact fun _ hs=>hR G3 (Q0.trans A1) hs
  ·rw[zu fun h=>hm h.2.1] at hR;refine Ee tok zgW Tryz.func100 rfl Kk Kk Kn fun M0=>?_;rw[Tryz.results100];have hE:=M0;try simp only[zzs] at hE
   repeat(obtain⟨J0,hE⟩:=hE)
   repeat' first
    |with_reducible first|refine Zd ?_ |refine Ae (fun _=>?_) fun _=>?_ |refine Nb fun nb A0 C0 B0=>?_
    |simp -dsimp -implicitDefEqProofs (disch:=first|exact Kd|fail) only[go_sem,↓reduceIte,seval, -He,Ye,N0,X0,T0,hb]
    |with_reducible refine Vf tok mixed zgW 1 [0,6,11] (.op 0 .held (.op 1 .keeps (.op 2 .plain (.op 3 .plain (.op 4 .plain (.op 5 .plain (.op 6 .held (.op 7 .plain (.op 8 .plain (.op 9 .plain (.op 10 .plain (.op 11 .held (.op 12 .plain (.op 13 .keeps (.op 14 .keeps (.op 15 .plain (.op 16 .plain .nil))))))))))))))))) Kk [2] ?_
    |with_reducible refine zaJ P0 O.is ?_
   all_goals try(exfalso;omega)
   unfold zo;refine Xf (H':=H) Ks ?_;exact fun _ hs=>hR G (PLe.refl _) hs
 ·have hb:=zu K0;rw[zu fun h=>K0 h.1] at hR;refine Ee tok zgW Tryz.func100 rfl Kk Kk Kn fun M0=>?_;rw[Tryz.results100];have hE:=M0;try simp only[zzs] at hE
  repeat(obtain⟨J0,hE⟩:=hE)
  repeat' first
   |with_reducible first|refine Zd ?_ |refine Ae (fun _=>?_) fun _=>?_ |refine Nb fun nb A0 C0 B0=>?_
   |simp -dsimp -implicitDefEqProofs (disch:=first|exact Kd|fail) only[go_sem,↓reduceIte,seval, -He,Ye,N0,X0,T0,hb]
   |with_reducible refine Vf tok mixed zgW 1 [0,6,11] (.op 0 .held (.op 1 .keeps (.op 2 .plain (.op 3 .plain (.op 4 .plain (.op 5 .plain (.op 6 .held (.op 7 .plain (.op 8 .plain (.op 9 .plain (.op 10 .plain (.op 11 .held (.op 12 .plain (.op 13 .keeps (.op 14 .keeps (.op 15 .plain (.op 16 .plain .nil))))))))))))))))) Kk [2] ?_
   |with_reducible refine zaJ P0 O.is ?_
  unfold zo;refine Xf (H':=H) Ks ?_;exact fun _ hs=>hR G (PLe.refl _) hs
theorem zhP (l:List (List UInt8)) (X1:l.length≤2000000) {G:zb} {H:za} {R:Value→zb→za→Prop} {v:Value} (hv:Sl G str v l)
  (hR: ∀G' v',PLe G G'→Sep G' (zm H)→Sl G' str v' l→R v' G' H):FnT Tryz.prog 70 [v] G H R:=by
 obtain⟨a,cap,rfl,U0,D5⟩:=hv;refine Zf ?_;rcases a with _|a
 ·have h0:l=[]:=Df (by
   rcases Nat.eq_zero_or_pos l.length with h|h
   ·exact h
   ·have:=U0.adr (by rw[Be];exact h);cases this)
  subst h0;refine Ee tok [0,2,4] Tryz.func70 rfl Kk Kk Kn fun M0=>?_;rw[Tryz.results70];have hE:=M0;try simp only[zzs] at hE
  repeat(obtain⟨J0,hE⟩:=hE)
  repeat' first
   |with_reducible first|refine Zd ?_ |refine Ae (fun _=>?_) fun _=>?_ |refine Nb fun nb A0 C0 B0=>?_ |refine Nr fun nb D0 E0 A0 I0 C0 B0=>?_
   |simp -dsimp -implicitDefEqProofs (disch:=first|exact Kd|fail) only[go_sem,↓reduceIte,seval]
  unfold zo;refine Xf (H':=H) Ks ?_;exact fun S0 hs=>hR G _ (PLe.refl _) hs (Sl.nil _ _)
 ·refine Ee tok [0,2,4] Tryz.func70 rfl Kk Kk Kn fun M0=>?_;rw[Tryz.results70];have hE:=M0;try simp only[zzs] at hE
  repeat(obtain⟨J0,hE⟩:=hE)
  repeat' first
   |with_reducible first|refine Zd ?_ |refine Ae (fun _=>?_) fun _=>?_ |refine Nb fun nb A0 C0 B0=>?_ |refine Nr fun nb D0 E0 A0 I0 C0 B0=>?_
   |simp -dsimp -implicitDefEqProofs (disch:=first|exact Kd|fail) only[go_sem,↓reduceIte,seval,Row.rdSlAll U0,Be]
  ·rename_i h0;have h0:l=[]:=Df h0;subst h0;unfold zo;refine Xf (H':=H) Ks ?_;exact fun S0 hs=>hR G _ (PLe.refl _) hs ⟨_,0,rfl,Row.nil _ _,Qe _⟩
  ·unfold zo;refine Oe (H':=(nb, .cells (l.map str) D0 9)::H) Ks (Jf Ka fun G2 Q0 R0 V1=>?_);exact fun S0 hs=>hR G2 _ Q0 hs ⟨some ⟨nb,0,none⟩,E0,rfl,V1,by omega⟩
def zah:DfaT:=⟨Fe 256 0,0,[],[],[]⟩
abbrev zz:List Value:=Fe 256 (Yd .u8 0)++[Yd .i64 0,Wf none 0 0,Wf none 0 0,Wf none 0 0]
theorem zj:zz.length=260:=by rw[Ve,We];rfl
theorem zG:zz.all zax=true:=by rw[List.all_append,List.all_replicate];rfl
theorem zI:Hf 260 zz=zz:=Pe (by rw[zj];omega)
theorem zM:zf zz 0 zz=zz:=by
 unfold zf;rw[Se,Af,Gf (by rw[zj];omega),Bf]
theorem zjL:zc zah (.slice none 0 0) (.slice none 0 0) (.slice none 0 0)=zz:=by
 unfold zc zah u8L;rw[Ff]
theorem zak (G:zb):IsD G zah (.agg (List.toArray zz)):=by
 rw[←zjL];refine⟨We ..,fun x hx=>?_,_,_,_,rfl,⟨none,0,[],rfl,Row.nil _ _,rfl,Qe _,fun i h=>by cases h⟩,Sl.nil _ _,Sl.nil _ _⟩
 have:x=0:=by
  unfold zah at hx;exact List.eq_of_mem_replicate hx
 omega
def zdk (d:DfaT) (m:List Int) (s:Nat):List Int:=(d.next.getD s []).map (atL (zd m))
def ofD (d:DfaT) (m:List Int):DfaT:=⟨d.of,d.width,(zv m).map (fun s=>zdk d m s.toNat),(zv m).map (fun s=>d.label.getD s.toNat 0),d.names⟩
theorem zbi {d:DfaT} (h:d.of.length=256) (vn vl vs x:Value):zf (zc d vn vl vs) 257 [x]=zc d x vl vs:=by
 unfold zf zc;have hl:(u8L d.of).length=256:=by rw[Be,h]
 rw[show 257=(u8L d.of).length+1 by omega,Jg,Bg,show(u8L d.of).length+1+1=(u8L d.of).length+2 by omega,Kg,Uf,Uf];rfl
theorem zaH {d:DfaT} (h:d.of.length=256) (vn vl vs x:Value):zf (zc d vn vl vs) 258 [x]=zc d vn x vs:=by
 unfold zf zc;have hl:(u8L d.of).length=256:=by rw[Be,h]
 rw[show 258=(u8L d.of).length+2 by omega,Jg,Bg,show(u8L d.of).length+2+1=(u8L d.of).length+3 by omega,Kg,Uf,Uf];rfl
def zbq (r:List Int) (k:Nat):List Int:=r.take k++Fe (r.length - k) 0
theorem zgD (r:List Int) {k:Nat} (h:k≤r.length):(zbq r k).length=r.length:=by
 unfold zbq;rw[Ve,Ge,We];omega
theorem zgE {r:List Int} {k:Nat} (h:k<r.length):zf ((zbq r k).map (Yd .i64)) k [.int .i64 r[k]]=(zbq r (k+1)).map (Yd .i64):=by
 unfold zf zbq;have hn:(r.take k).length=k:=by rw[Ge];omega
 rw[Re h];generalize r.take k=ps at hn;rw[Ke,Ke,Ke,Ff,Ff,show r.length - k=(r.length - (k+1))+1 by omega,List.replicate_succ];rw[Tf (by rw[Be];omega),Pe (by rw[Be];omega)];rw[Qg,Gf (by rw[Be];simp;omega)];simp [hn]
theorem zfB (r:List Int):Fe r.length (Yd .i64 0)=(zbq r 0).map (Yd .i64):=by
 unfold zbq;rw[Se,Af,Ff];rfl
theorem ziL (r:List Int):zbq r r.length=r:=by
 unfold zbq;rw[Te];simp
theorem zaC {d:DfaT} {vn vl vs:Value} (h1:zax vn=true) (h2:zax vl=true) (h3:zax vs=true):(zc d vn vl vs).all zax=true:=by
 unfold zc u8L;rw[List.all_append,Mg];simp only[List.all_cons,List.all_nil,h1,h2,h3,Bool.and_true,Bool.and_eq_true];exact⟨List.all_eq_true.2 fun _ _=>rfl,rfl⟩
theorem zdl {d:DfaT} (h:d.of.length=256):zf zz 0 (u8L d.of)=u8L d.of++[Yd .i64 0,Wf none 0 0,Wf none 0 0,Wf none 0 0]:=by
 unfold zf;rw[Se,Af,Qg,Gf (by rw[We,Be,h];omega),We,Be,h];rfl
theorem zc2 {d:DfaT} (h:d.of.length=256):zf (u8L d.of++[Yd .i64 0,Wf none 0 0,Wf none 0 0,Wf none 0 0]) 256 [Yd .i64 d.width]=zc d (.slice none 0 0) (.slice none 0 0) (.slice none 0 0):=by
 have hl:(u8L d.of).length=256:=by rw[Be,h]
 unfold zf zc;rw[show 256=(u8L d.of).length+0 by omega,Jg,Bg,show(u8L d.of).length+0+1=(u8L d.of).length+1 by omega,Kg,Uf,Uf];rfl
theorem zcG {d:DfaT} (h:d.of.length=256) (vn vl vs x:Value):zf (zc d vn vl vs) 259 [x]=zc d vn vl x:=by
 have hl:(u8L d.of).length=256:=by rw[Be,h]
 unfold zf zc;rw[show 259=(u8L d.of).length+3 by omega,Jg,Bg,show(u8L d.of).length+3+1=(u8L d.of).length+4 by omega,Kg,Uf,Uf];rfl
theorem zAu {d:DfaT} (P0:zr d) {m:List Int} {C:List Value} {an al ay:Option Addr} {cn cl cs:Nat} {rs:List Value} {G:zb} {H:za} (O:OpenD G d C an al ay cn cl cs rs) {v0 v1:Value} {b2 b4:Nat} {an3:Option Addr} {cn3:Nat}:
  Tri Tryz.prog Tryz.f66.ntmps (piece [1,1,1,0] Tryz.f66) G [(0,v0),(1,v1),(2, .pointer (some ⟨b2,0,none⟩)),(4, .pointer (some ⟨b4,0,none⟩)),(5, .int .i64 0),(6, .slice an3 (zd m).length cn3)] ((b4, .cells zz [] 27):: (b2, .cells C [] 27)::H) (onlyN fun G' fr' H'=>
   ∃b7 vs,PLe G G'∧Sl G' str vs d.names∧zy [0,1,2,4,5,6,7] fr'=[(0,v0),(1,v1),(2, .pointer (some ⟨b2,0,none⟩)),(4, .pointer (some ⟨b4,0,none⟩)),(5, .int .i64 0),(6, .slice an3 (zd m).length cn3),(7, .pointer (some ⟨b7,0,none⟩))]∧H'=(b7, .cells (zc d (.slice none 0 0) (.slice none 0 0) vs) [] 27):: (b4, .cells zz [] 27):: (b2, .cells C [] 27)::H):=by
 obtain⟨U3,M2,V3,A4,M4⟩:=id P0;have N0:=O.len;have D1:=O.w;have S2:=O.s;have E4:=O.of;have R5:(u8L d.of).length=256:=by rw[Be,O.ofl]
 have R3:=zdl O.ofl;have F4:=zc2 O.ofl;have D4:(u8L d.of++[Yd .i64 0,Wf none 0 0,Wf none 0 0,Wf none 0 0]).length=260:=by rw[Ve,R5];rfl
 have Z0: ∀v:Value,(zc d (.slice none 0 0) (.slice none 0 0) v).length=260:=fun v=>zN O.ofl _ _ _;have hb3:=zcG O.ofl (.slice none 0 0) (.slice none 0 0) (.slice none 0 0)
 have T4: ∀v:Value,zf zz 0 (zc d (.slice none 0 0) (.slice none 0 0) v)=zc d (.slice none 0 0) (.slice none 0 0) v:=fun v=>by
  unfold zf;rw[Se,Af,Gf (by rw[zj,Z0];omega),Bf]
 refine Tri.sepT fun M1=>?_;have hE:=M1;try simp only[zzs] at hE
 repeat(obtain⟨J0,hE⟩:=hE)
 refine Tri.piece (f:=Tryz.f66) rfl ?_;refine Tri.run tok zeF Kk ?_
 repeat' first
  |with_reducible first|refine Zd ?_ |refine Ae (fun _=>?_) fun _=>?_ |refine Nb fun nb A0 C0 B0=>?_ |refine Nr fun nb D0 E0 A0 I0 C0 B0=>?_
  |with_reducible refine Vf tok mixed zeF 6 [1,3,5] (.op 0 .plain (.op 1 .held (.op 2 .plain (.op 3 .held (.op 4 .plain (.op 5 .held (.both (.op 6 .keeps (.op 7 .plain (.op 8 .keeps (.op 9 .plain .nil)))) (.op 8 .keeps (.op 6 .keeps (.op 7 .plain (.op 9 .plain .nil))))))))))) Kk [2] ?_
  |with_reducible refine Tri.drawM tok mixed zeF 17 [1,3,6] (.op 0 .plain (.op 1 .held (.op 2 .plain (.op 3 .held (.op 4 .plain (.op 5 .plain (.op 6 .held (.op 7 .keeps (.op 8 .keeps (.op 9 .plain (.op 10 .plain .nil))))))))))) Kk _ (List.Sublist.refl _) ?_
  |simp -dsimp -implicitDefEqProofs (disch:=first|exact Kd|fail) only[go_sem,↓reduceIte,seval, -He,Ye,N0,D1,S2,E4,R5,R3,F4,hb3,D4,Z0,zj,zG,T4]
  | ((with_reducible refine zhP d.names A4 O.names fun G4 v4 Z1 S1 Za=>?_);obtain⟨ay4,cy4,rfl,S7,hc4⟩:=Za;have S3:=zaC (d:=d) (vn:= .slice none 0 0) (vl:= .slice none 0 0) (vs:= .slice ay4 d.names.length cy4) rfl rfl rfl;(have hE:=S1;try simp only[zzs] at hE;repeat(obtain⟨J0,hE⟩:=hE)))
  | (with_reducible refine And.intro ?_ ?_)
 all_goals exact Ce ⟨nb,_,Z1,⟨ay4,cy4,rfl,S7,hc4⟩,rfl,rfl⟩
def zfL (t:List Int×Rdr):List Int×Rdr:=(t.1++[((zD 2 t.2).1 :Int)],(zD 2 t.2).2)
def zfn:Nat→List Int×Rdr→List Int×Rdr
 |0,t=>t
 |k+1,t=>zfn k (zfL t)
theorem zgF (k:Nat) (t:List Int×Rdr):zfn (k+1) t=zfn k (zfL t):=rfl
theorem ziM (t:List Int×Rdr):zfn 0 t=t:=rfl
theorem zn9: ∀ (k:Nat) (t:List Int×Rdr),(zfn k t).1.length=t.1.length+k
 |0,_=>rfl
 |k+1,t=>by
  rw[zgF,zn9 k];show(t.1++[_]).length+k=_;rw[Ve,Bg];omega
structure MacS where
 lab:List Int
 nxt:List (List Int)
 s:Rdr
def zce (w:Nat) (t:MacS):MacS:=
 if t.s.1=true then t else⟨t.lab++[((zD 1 t.s).1 :Int)],t.nxt++[(zfn w ([],(zD 1 t.s).2)).1],(zfn w ([],(zD 1 t.s).2)).2⟩
def zer (w:Nat):Nat→MacS→MacS
 |0,t=>t
 |k+1,t=>zer w k (zce w t)
theorem zgG (w k:Nat) (t:MacS):zer w (k+1) t=zer w k (zce w t):=rfl
theorem zmp (w:Nat) (t:MacS):zer w 0 t=t:=rfl
theorem zqn {w:Nat} {t:MacS} (h:t.s.1=true): ∀k,zer w k t=t
 |0=>rfl
 |k+1=>by
  have e:zce w t=t:=by unfold zce;rw[if_pos h]
  rw[zgG,e];exact zqn h k
theorem zrQ {w n:Nat} {t:MacS} (h:t.lab.length≤n∧t.nxt.length≤n∧ ∀r∈t.nxt,r.length=w):(zce w t).lab.length≤n+1∧(zce w t).nxt.length≤n+1∧ ∀r∈(zce w t).nxt,r.length=w:=by
 unfold zce;split
 ·exact⟨by omega,by omega,h.2.2⟩
 ·refine⟨?_,?_,fun r hr=>?_⟩
  ·show(t.lab++[_]).length≤_;rw[Ve,Bg];omega
  ·show(t.nxt++[_]).length≤_;rw[Ve,Bg];omega
  ·have hr:r∈t.nxt++[_]:=hr;rcases List.mem_append.1 hr with hr|hr
   ·exact h.2.2 r hr
   ·rw[List.mem_singleton.1 hr,zn9];show 0+w=w;omega
theorem zqo (w:Nat): ∀ (k n:Nat) {t:MacS},(t.lab.length≤n∧t.nxt.length≤n∧ ∀r∈t.nxt,r.length=w)→(zer w k t).lab.length≤n+k∧(zer w k t).nxt.length≤n+k∧ ∀r∈(zer w k t).nxt,r.length=w
 |0,_,_,h=>h
 |k+1,n,t,h=>by
  have:=zqo w k (n+1) (zrQ h);rw[zgG];exact⟨by omega,by omega,this.2.2⟩
def ofF (f:Nat→Int):List Int:=(Hg 256).map f
theorem zlK (f:Nat→Int):(ofF f).length=256:=by simp [ofF]
theorem zyz (f:Nat→Int):u8L (ofF f)=u8F f:=by unfold u8L ofF u8F;rw[List.map_map];rfl
def zaD (s:Rdr):MacS:=zer (zaV (zV s).2).w ((zD 2 (zaV (zV s).2).s).1+1) ⟨[],[],(zD 2 (zaV (zV s).2).s).2⟩
def zat (s:Rdr):DfaT:=⟨ofF (zaV (zV s).2).f,((zaV (zV s).2).w:Nat),(zaD s).nxt,(zaD s).lab,(zV s).1⟩
theorem znj (s:Rdr):(zD 2 s).1<65536:=by have:=zqi 2 s;omega
theorem zkY (s:Rdr):(zaV s).w≤256∧ ∀i,0≤(zaV s).f i∧(zaV s).f i≤255:=by
 rw[←zjj];exact ztr 256 ⟨Pg _,fun i=>⟨Int.le_refl 0,by show(0 :Int)≤255;omega⟩⟩
theorem zxy (s:Rdr):(zaV s).s.2.length≤s.2.length:=by rw[←zjj];exact zqm 256 _
theorem zpN (s:Rdr):zr (zat s):=by
 have h1:=zn6 s;have h2:=zkY (zV s).2;have h3:=znj (zaV (zV s).2).s;obtain⟨h4,h5,h6⟩:=zqo (zaV (zV s).2).w ((zD 2 (zaV (zV s).2).s).1+1) 0 (t:=⟨[],[],(zD 2 (zaV (zV s).2).s).2⟩) ⟨Qe 0,Qe 0,fun r hr=>by cases hr⟩;refine⟨?_,fun r hr=>?_,?_,?_,fun x hx=>?_⟩
 ·show(zaD s).nxt.length≤_;unfold zaD;omega
 ·have:=h6 r hr;omega
 ·show(zaD s).lab.length≤_;unfold zaD;omega
 ·show(zV s).1.length≤_;omega
 ·have:=h1.2 x hx;omega
theorem zvs {e:DfaT} (h:e.of.length=256) (f:Nat→Int) (a b c:Value):zf (zc e a b c) 0 (u8F f)=u8F f++[.int .i64 e.width,a,b,c]:=by
 unfold zf zc;rw[Se,Af,Qg,Gf (by rw[Be,h,zR];omega),zR,Be,h];rfl
theorem zxz (f:Nat→Int) (w:Int) (d:DfaT) (hd:d.of=ofF f) (hw:d.width=w) (x a b c:Value):zf (u8F f++[x,a,b,c]) 256 [.int .i64 w]=zc d a b c:=by
 have hl:=zR f;unfold zf zc;rw[hd,zyz,hw,show 256=(u8F f).length+0 by omega,Jg,Bg,show(u8F f).length+0+1=(u8F f).length+1 by omega,Kg,Uf,Uf];rfl
def zrR (rows:List (List Int)) (G':zb) (vn:Value) (kn:za):Prop:=
 (rows=[]∧vn= .slice none 0 0∧kn=[])∨ ∃bn c1 rv sp1,vn= .slice (some ⟨bn,0,none⟩) rows.length c1∧kn=[(bn, .cells rv sp1 24)]∧rv.length=rows.length∧rows.length+sp1.length=c1∧
  ∀i (h:i<rows.length) (h2:i<rv.length),∃b c,rv[i]= .slice b rows[i].length c∧Row G' b (rows[i].map (Yd .i64))∧rows[i].length≤c
theorem zrR.mono {rows:List (List Int)} {G G':zb} (S0:PLe G G') {vn:Value} {kn:za} (h:zrR rows G vn kn):zrR rows G' vn kn:=by
 rcases h with h| ⟨bn,c1,rv,sp1,h1,h2,h3,h4,h5⟩
 ·exact .inl h
 ·exact .inr ⟨bn,c1,rv,sp1,h1,h2,h3,h4,fun i a b=>by
   obtain⟨x,y,e1,e2,e3⟩:=h5 i a b;exact⟨x,y,e1,e2.mono S0,e3⟩⟩
def zeH (w:Nat) (l:List Int):List Int:=l++Fe (w - l.length) 0
theorem zoa (w:Nat):Fe w (Yd .i64 0)=(zeH w []).map (Yd .i64):=by unfold zeH;rw[Af,Ff];rfl
theorem zob {w:Nat} {l:List Int} (h:l.length≤w):(zeH w l).length=w:=by unfold zeH;rw[Ve,We];omega
theorem zoc {w:Nat} {l:List Int} (h:l.length=w):zeH w l=l:=by unfold zeH;rw[h,Og];simp
theorem zod {w:Nat} {l:List Int} (h:l.length<w) (x:Int):zf ((zeH w l).map (Yd .i64)) l.length [.int .i64 x]=(zeH w (l++[x])).map (Yd .i64):=by
 unfold zf zeH;obtain⟨k,hk⟩: ∃k,w - l.length=k+1:=⟨w - l.length - 1,by omega⟩;rw[hk,Ve,show w - (l.length+[x].length)=k by simp;omega,List.replicate_succ];simp only[Ke,List.map_cons,Bg];rw[Tf (by rw[Be];omega),Pe (by rw[Be];omega),Qg,Gf (by rw[Be];omega),Be,show l.length+1 - l.length=1 by omega];simp
attribute [irreducible] zer zfn
theorem ztt {s:Rdr} (D3:s.2.length≤200000000) {bR:Nat} {sv:Value} {G:zb} {H:za} {R:Value→zb→za→Prop} (hs:Sl G zp sv s.2)
  (hR: ∀G' v sv',PLe G G'→Sep G' (zm ((bR,Res.cells [sv', .bool (zaD s).s.1] [] 58)::H))→IsD G' (zat s) v→Sl G' zp sv' (zaD s).s.2→R v G' ((bR, .cells [sv', .bool (zaD s).s.1] [] 58)::H)):
  FnT Tryz.prog 34 [.pointer (some ⟨bR,0,none⟩)] G ((bR, .cells [sv, .bool s.1] [] 58)::H) R:=by
 have hzl:zah.of.length=256:=We ..;have hzs: ∀x,zf zz 259 [x]=zc zah (.slice none 0 0) (.slice none 0 0) x:=fun x=>by rw[←zjL];exact zcG hzl _ _ _ _
 have U1: ∀x:Value,Fe 1 x=[x]:=fun _=>rfl;have hof1: ∀a b c,zf (zc zah a b c) 0 (u8F (zaV (zV s).2).f)=u8F (zaV (zV s).2).f++[.int .i64 0,a,b,c]:=fun a b c=>zvs hzl _ _ _ _;have E5: ∀x a b c,zf (u8F (zaV (zV s).2).f++[x,a,b,c]) 256 [.int .i64 ((zaV (zV s).2).w:Nat)]=zc (zat s) a b c:=fun x a b c=>zxz _ _ (zat s) rfl rfl _ _ _ _;have hcl0: ∀a b c,(zc zah a b c).length=260:=fun a b c=>zN hzl _ _ _;have hcl1: ∀x a b c:Value,(u8F (zaV (zV s).2).f++[x,a,b,c]).length=260:=fun x a b c=>by rw[Ve,zR];rfl
 have D4:=ztj s;have Z0:=zxy (zV s).2;have R9:=zkY (zV s).2;have Q4:=znj (zaV (zV s).2).s;have hl3:=zcd 2 (zaV (zV s).2).s;refine Zf ?_;refine Ee tok zlH Tryz.func34 rfl Kk Kk Kn fun M0=>?_;rw[Tryz.results34];have hE:=M0;try simp only[zzs] at hE
 repeat(obtain⟨J0,hE⟩:=hE)
 repeat' first
  |with_reducible first|refine Zd ?_ |refine Ae (fun _=>?_) fun _=>?_ |refine Nb fun nb A0 C0 B0=>?_ |refine Nr fun nb D0 E0 A0 I0 C0 B0=>?_
  |simp -dsimp -implicitDefEqProofs (disch:=first|exact Kd|fail) only[go_sem,↓reduceIte,seval, -He]
 rename_i b2 F4 J8 A8;revert nb;intro b3 hb3 hb31 hb32;refine FnT.leave (H':=(bR, .cells [sv, .bool s.1] [] 58):: (b3, .cells (Fe 256 (Yd .u8 0)++[Yd .i64 0,Wf none 0 0,Wf none 0 0,Wf none 0 0]) [] 27):: (b2, .cells (Fe 256 (Yd .u8 0)++[Yd .i64 0,Wf none 0 0,Wf none 0 0,Wf none 0 0]) [] 27)::H) (ztk D3 hs fun G1 v1 sv1 N2 V0 B5 Yb=>?_) Ks;have hnm0:=B5;obtain⟨a1,c1,rfl,hrn1,hcn1⟩:=B5;have hE:=V0;try simp only[zzs] at hE
 repeat(obtain⟨J0,hE⟩:=hE)
 repeat' first
  |with_reducible first|refine Zd ?_ |refine Ae (fun _=>?_) fun _=>?_ |refine Nb fun nb A0 C0 B0=>?_ |refine Nr fun nb D0 E0 A0 I0 C0 B0=>?_
  |simp -dsimp -implicitDefEqProofs (disch:=first|exact Kd|fail) only[go_sem,↓reduceIte,seval, -He,zj,hzs]
 refine zts Ko Yb fun G2 sv2 Q0 R0 C9=>?_;have hE:=R0;try simp only[zzs] at hE
 repeat(obtain⟨J0,hE⟩:=hE)
 repeat' first
  |with_reducible first|refine Zd ?_ |refine Ae (fun _=>?_) fun _=>?_ |refine Nb fun nb A0 C0 B0=>?_ |refine Nr fun nb D0 E0 A0 I0 C0 B0=>?_
  |simp -dsimp -implicitDefEqProofs (disch:=first|exact Kd|fail) only[go_sem,↓reduceIte,seval, -He,zj,hzs,hof1,E5,hcl0,hcl1,zR,zbb]
 refine zb5 (n:=2) Ko Ko C9 fun G3 sv3 A1 K1 Zb=>?_;have hE:=K1;try simp only[zzs] at hE
 repeat(obtain⟨J0,hE⟩:=hE)
 obtain⟨t0,ht0⟩: ∃t,t=(⟨[],[],(zD 2 (zaV (zV s).2).s).2⟩:MacS):=⟨_,rfl⟩;obtain⟨N,hN⟩: ∃n,n=(zD 2 (zaV (zV s).2).s).1:=⟨_,rfl⟩;obtain⟨w,hw⟩: ∃w,w=(zaV (zV s).2).w:=⟨_,rfl⟩;have J5:zaD s=zer w (N+1) t0:=by unfold zaD;rw[hw,hN,ht0]
 have X4:(zat s).of.length=256:=zlK _;have hL: ∀a b c:Value,(zc (zat s) a b c).length=260:=fun a b c=>zN X4 _ _ _;have Ha: ∀a b c:Value,(zc (zat s) a b c)[258]? =some b:=fun a b c=>zbz X4 _ _ _;have F9: ∀a b c:Value,(zc (zat s) a b c)[257]? =some a:=fun a b c=>zcx X4 _ _ _;have Ia: ∀a b c:Value,(zc (zat s) a b c)[256]? =some (.int .i64 (w:Nat)):=fun a b c=>by rw[hw];exact zj2 X4 _ _ _
 have J3: ∀a b c x:Value,zf (zc (zat s) a b c) 258 [x]=zc (zat s) a x c:=fun a b c x=>zaH X4 _ _ _ _;have A5: ∀a b c x:Value,zf (zc (zat s) a b c) 257 [x]=zc (zat s) x b c:=fun a b c x=>zbi X4 _ _ _ _
 have T4: ∀a b c:Value,zf zz 0 (zc (zat s) a b c)=zc (zat s) a b c:=fun a b c=>by
  unfold zf;rw[Se,Af,Gf (by rw[zj,hL];omega),Bf]
 have S3: ∀ (a a' a'':Option Addr) (b c b' c' b'' c'':Nat),(zc (zat s) (.slice a'' b'' c'') (.slice a b c) (.slice a' b' c')).all zax=true:=fun a a' a'' b c b' c' b'' c''=>zaC rfl rfl rfl;have B2: ∀a b c:Value,Hf 260 (zc (zat s) a b c)=zc (zat s) a b c:=fun a b c=>Pe (by rw[hL];omega);rw[←hw] at R9;rw[←hN] at Q4⊢;have Rd:=N2.trans (Q0.trans A1);obtain⟨vs,J6⟩: ∃vs,vs=Wf a1 (zV s).1.length c1:=⟨_,rfl⟩
 repeat' first
  |with_reducible first|refine Zd ?_ |refine Ae (fun _=>?_) fun _=>?_ |refine Nb fun nb A0 C0 B0=>?_ |refine Nr fun nb D0 E0 A0 I0 C0 B0=>?_
  |simp -dsimp -implicitDefEqProofs (disch:=first|exact Kd|fail) only[go_sem,↓reduceIte,seval, -He,zj,hzs]
 refine Je tok zlH Kk [0,2,3,4,5,6] (fun q G' fr H'=> ∃ (i:Nat) (t:MacS) (sv' vn vl:Value) (kn kl:za),i+q=N+1∧PLe G3 G'∧zer w q t=zaD s∧t.lab.length=i∧t.nxt.length=i∧t.s.2.length≤200000000∧Sl G' zp sv' t.s.2∧zrR t.nxt G' vn kn∧zO [] 3 1 vl i (t.lab.map (Yd .i64)) kl∧H'=(bR, .cells [sv', .bool t.s.1] [] 58):: (b3, .cells (zc (zat s) vn vl vs) [] 27):: (b2, .cells zz [] 27):: (kl++(kn++H))∧fr=[(0, .pointer (some ⟨bR,0,none⟩)),(2, .pointer (some ⟨b2,0,none⟩)),(3, .pointer (some ⟨b3,0,none⟩)),(4, .func (.func 33) #[.pointer (some ⟨bR,0,none⟩)] #[]),(5, .int .i64 ((N:Nat)+1)),(6, .int .i64 (i:Nat))]) ((N+1)) ?_ ?_
 ·rw[←J6];exact Ce ⟨0,t0,sv3,_,_,[],[],by omega,PLe.refl _,J5.symm,by rw[ht0];rfl,by rw[ht0];rfl,by rw[ht0];exact Cg hl3 Ko,by rw[ht0];exact Zb, .inl ⟨by rw[ht0],rfl,rfl⟩, .inl ⟨none,rfl,rfl,by rw[ht0];rfl,rfl⟩,by rw[ht0];rfl,rfl⟩
 ·rintro q G4 fr H' Z1 S1 ⟨i,t,sv4,vn,vl,kn,kl,Q5,Ac,N1,S9,L1,L3,Fa,hY,hO,rfl,rfl⟩;have hE:=S1;try simp only[zzs] at hE
  repeat(obtain⟨J0,hE⟩:=hE)
  by_cases Gb:i<N+1∧t.s.1=false
  ·obtain⟨T1,W5⟩:=Gb;obtain⟨q,rfl⟩: ∃p,q=p+1:=⟨q - 1,by omega⟩;obtain⟨lab,nxt,bad,l⟩:=t;simp only at W5 S9 L1 L3 Fa hY hO;subst W5;have hn1:=zgC (false,l);have S5:=zcd 1 (false,l);simp only at S5;obtain⟨rfin,hrfin⟩: ∃r,r=zfn w ([],(zD 1 (false,l)).2):=⟨_,rfl⟩
   have Q9:zce w ⟨lab,nxt,(false,l)⟩=⟨lab++[((zD 1 (false,l)).1 :Int)],nxt++[rfin.1],rfin.2⟩:=by
    unfold zce;rw[if_neg (by simp),hrfin]
   have B1:zer w q ⟨lab++[((zD 1 (false,l)).1 :Int)],nxt++[rfin.1],rfin.2⟩=zaD s:=by rw[←Q9,←zgG];exact N1
   rcases hO with ⟨al,rfl,O7,hx,rfl⟩| ⟨bl,cl,sp,rfl,rfl,hx,hc⟩
   ·repeat' first
     |with_reducible first|refine Zd ?_ |refine Ae (fun _=>?_) fun _=>?_ |refine Nb fun nb A0 C0 B0=>?_ |refine Nr fun nb D0 E0 A0 I0 C0 B0=>?_
     |simp -dsimp -implicitDefEqProofs (disch:=first|exact Kd|fail) only[go_sem,↓reduceIte,seval, -He,hL,Ha,F9,Ia,J3,A5,U1]
     |with_reducible refine Tri.drawS tok mixed zlH 9 [1] (.op 0 .plain (.op 1 .held (.op 2 .plain (.op 3 .keeps (.op 4 .keeps (.op 5 .plain (.op 6 .plain (.op 7 .plain .nil)))))))) Kk [(b3, .cells (zc (zat s) vn (.slice al 0 0) vs) [] 27)] Ks ?_
    refine zb5 (s:=(false,l)) L3 (n:=1) Ko Fa fun G5 sv5 A2 P1 hsv5=>?_;have hE:=P1;try simp only[zzs] at hE
    repeat(obtain⟨J0,hE⟩:=hE)
    repeat' first
     |with_reducible first|refine Zd ?_ |refine Ae (fun _=>?_) fun _=>?_ |refine Nb fun nb A0 C0 B0=>?_ |refine Nr fun nb D0 E0 A0 I0 C0 B0=>?_
     |simp -dsimp -implicitDefEqProofs (disch:=first|exact Kd|fail) only[go_sem,↓reduceIte,seval, -He,hL,Ha,F9,Ia,J3,A5,U1]
    rename_i bq hbq1 hbq2 hbq3;obtain⟨br,e0⟩: ∃x,x=nb:=⟨_,rfl⟩;subst e0;obtain⟨cq,e0⟩: ∃x,x=E0:=⟨_,rfl⟩;subst e0;obtain⟨sq,e0⟩: ∃x,x=D0:=⟨_,rfl⟩;subst e0;refine Je tok zlH Kk [0,2,3,4,5,6,7,47,48] (fun q2 G' fr H'=> ∃ (j:Nat) (u:List Int×Rdr) (sv':Value),j+q2=w∧PLe G5 G'∧zfn q2 u=rfin∧u.1.length=j∧u.2.2.length≤200000000∧Sl G' zp sv' u.2.2∧H'=(bR, .cells [sv', .bool u.2.1] [] 58):: (br, .cells ((zeH w u.1).map (Yd .i64)) [] 3):: (b3, .cells (zc (zat s) vn (.slice (some ⟨bq,0,none⟩) 1 cq) vs) [] 27):: (b2, .cells zz [] 27):: (bq, .cells [Yd .i64 ((zD 1 (false,l)).1 :Nat)] sq 3):: (kn++H)∧fr=[(0, .pointer (some ⟨bR,0,none⟩)),(2, .pointer (some ⟨b2,0,none⟩)),(3, .pointer (some ⟨b3,0,none⟩)),(4, .func (.func 33) #[.pointer (some ⟨bR,0,none⟩)] #[]),(5, .int .i64 ((N:Nat)+1)),(6, .int .i64 (i:Nat)),(7, .slice (some ⟨br,0,none⟩) w w),(47, .int .i64 w),(48, .int .i64 (j:Nat))]) (w) ?_ ?_
    ·rw[Og,List.replicate_zero,zoa];exact Oe (H':=(bR, .cells [sv5, .bool (zD 1 (false,l)).2.1] [] 58):: (br, .cells ((zeH w []).map (Yd .i64)) [] 3):: (b3, .cells (zc (zat s) vn (.slice (some ⟨bq,0,none⟩) 1 cq) vs) [] 27):: (b2, .cells zz [] 27):: (bq, .cells [Yd .i64 ((zD 1 (false,l)).1 :Nat)] sq 3):: (kn++H)) Ks (Ce ⟨0,([],(zD 1 (false,l)).2),sv5,by omega,PLe.refl _,hrfin.symm,rfl,Cg S5 L3,hsv5,rfl,rfl⟩)
    ·rintro q2 G6 fr H' Q1 E3 ⟨j,u,sv6,hjq,Pb,hu,huj,T9,Ic,rfl,rfl⟩;have hE:=E3;try simp only[zzs] at hE
     repeat(obtain⟨J0,hE⟩:=hE)
     have hpd:=zob (w:=w) (l:=u.1) Ko;by_cases hjw:j<w
     ·obtain⟨q2,rfl⟩: ∃p,q2=p+1:=⟨q2 - 1,by omega⟩;rw[zgF] at hu;have hl7:=zcd 2 u.2;have hn7:=znj u.2
      repeat' first
       |with_reducible first|refine Zd ?_ |refine Ae (fun _=>?_) fun _=>?_ |refine Nb fun nb A0 C0 B0=>?_ |refine Nr fun nb D0 E0 A0 I0 C0 B0=>?_
       |simp -dsimp -implicitDefEqProofs (disch:=first|exact Kd|fail) only[go_sem,↓reduceIte,seval, -He,hL,Ha,F9,Ia,J3,A5,U1]
      refine zb5 T9 (n:=2) Ko Ic fun G7 sv7 W2 B4 hsv7=>?_;have M3:=zod (w:=w) (l:=u.1) Ko ((zD 2 u.2).1 :Nat);rw[huj] at M3;have hE:=B4;try simp only[zzs] at hE
      repeat(obtain⟨J0,hE⟩:=hE)
      repeat' first
       |with_reducible first|refine Zd ?_ |refine Ae (fun _=>?_) fun _=>?_ |refine Nb fun nb A0 C0 B0=>?_ |refine Nr fun nb D0 E0 A0 I0 C0 B0=>?_
       |simp -dsimp -implicitDefEqProofs (disch:=first|exact Kd|fail) only[go_sem,↓reduceIte,seval, -He,hL,Ha,F9,Ia,J3,A5,U1,M3,Be,hpd]
      exact Ce ⟨q2,by omega,j+1,zfL u,sv7,by omega,Pb.trans W2,hu,by show(u.1++[_]).length=_;rw[Ve,huj];rfl,Cg hl7 T9,hsv7,rfl,rfl⟩
     ·obtain rfl:j=w:=by omega
      obtain rfl:q2=0:=by omega
      rw[ziM] at hu;have R4:=zoc (w:=j) (l:=u.1) huj;rw[R4] at E3⊢;rw[←hu] at B1;have hY6:=hY.mono (A2.trans Pb);have L5:zO [] 3 1 (.slice (some ⟨bq,0,none⟩) 1 cq) (i+1) ((lab++[((zD 1 (false,l)).1 :Int)]).map (Yd .i64)) [(bq, .cells [Yd .i64 ((zD 1 (false,l)).1 :Nat)] sq 3)]:=by rw[O7,Ke,hx];exact .inr ⟨bq,cq,sq,rfl,rfl,rfl,I0⟩
      rcases hY6 with ⟨K5,rfl,rfl⟩| ⟨bn,c2,rv,sp1,rfl,rfl,T3,J4,F5⟩
      ·have hE:=E3;try simp only[zzs] at hE
       repeat(obtain⟨J0,hE⟩:=hE)
       repeat' first
        |with_reducible first|refine Zd ?_ |refine Ae (fun _=>?_) fun _=>?_ |refine Nb fun nb A0 C0 B0=>?_ |refine Nr fun nb D0 E0 A0 I0 C0 B0=>?_
        |simp -dsimp -implicitDefEqProofs (disch:=first|exact Kd|fail) only[go_sem,↓reduceIte,seval, -He,hL,Ha,F9,Ia,J3,A5,U1]
       refine Oe (H':=(br, .cells (u.1.map (Yd .i64)) [] 3):: (bR, .cells [sv6, .bool u.2.1] [] 58):: (b3, .cells (zc (zat s) (.slice (some ⟨nb,0,none⟩) 1 E0) (.slice (some ⟨bq,0,none⟩) 1 cq) vs) [] 27):: (b2, .cells zz [] 27):: ([(bq, .cells [Yd .i64 ((zD 1 (false,l)).1 :Nat)] sq 3)]++([(nb, .cells [.slice (some ⟨br,0,none⟩) j j] D0 24)]++H))) Ks (Jf Ka fun G8 N4 B6 N6=>?_)
       exact⟨q,by omega,i+1,⟨lab++[((zD 1 (false,l)).1 :Int)],nxt++[u.1],u.2⟩,sv6,_,_,_,_,by omega,Ac.trans ((A2.trans Pb).trans N4),B1,by simp [S9],by simp [L1],T9,Ic.mono N4, .inr ⟨nb,E0,_,D0,by rw[K5];rfl,rfl,by rw[K5];rfl,by rw[K5];exact(by simp at I0⊢;omega),fun i2 h h2=>by
        rw[K5] at h;obtain rfl:i2=0:=by simp at h;omega
        refine⟨some ⟨br,0,none⟩,j,?_,?_,?_⟩
        ·simp only[K5,Af,Qf];rw[huj]
        ·simp only[K5,Af,Qf];exact N6
        ·simp only[K5,Af,Qf];omega⟩,L5,rfl,rfl⟩
      ·have Z8:nxt.length+sp1.length=c2:=J4;have hE:=E3;try simp only[zzs] at hE
       repeat(obtain⟨J0,hE⟩:=hE)
       repeat' first
        |with_reducible first|refine Zd ?_ |refine Ae (fun _=>?_) fun _=>?_ |refine Nb fun nb A0 C0 B0=>?_ |refine Nr fun nb D0 E0 A0 I0 C0 B0=>?_
        |simp -dsimp -implicitDefEqProofs (disch:=first|exact Kd|fail) only[go_sem,↓reduceIte,seval, -He,hL,Ha,F9,Ia,J3,A5,U1]
       refine Oe (H':=(br, .cells (u.1.map (Yd .i64)) [] 3):: (bR, .cells [sv6, .bool u.2.1] [] 58):: (b3, .cells (zc (zat s) (.slice (some ⟨nb,0,none⟩) (nxt.length+1) E0) (.slice (some ⟨bq,0,none⟩) 1 cq) vs) [] 27):: (b2, .cells zz [] 27):: ([(bq, .cells [Yd .i64 ((zD 1 (false,l)).1 :Nat)] sq 3)]++([(nb, .cells (rv++[.slice (some ⟨br,0,none⟩) j j]) D0 24)]++H))) Ks (Jf Ka fun G8 N4 B6 N6=>?_)
       exact⟨q,by omega,i+1,⟨lab++[((zD 1 (false,l)).1 :Int)],nxt++[u.1],u.2⟩,sv6,_,_,_,_,by omega,Ac.trans ((A2.trans Pb).trans N4),B1,by simp [S9],by simp [L1],T9,Ic.mono N4, .inr ⟨nb,E0,_,D0,by rw[Ve];rfl,rfl,by rw[Ve,Ve,T3];rfl,by rw[Ve];exact(by simp at I0⊢;omega),fun i2 h h2=>by
        rcases Eg i2 nxt.length with Z3|Z3
        ·obtain⟨b',c',f1,f2,f3⟩:=F5 i2 Z3 Ko;refine⟨b',c',?_,?_,?_⟩
         ·rw[Ag Ko];simp only[Ag Z3];exact f1
         ·simp only[Ag Z3];exact f2.mono N4
         ·simp only[Ag Z3];exact f3
        ·obtain rfl:i2=nxt.length:=by rw[Ve] at h;simp at h;omega
         refine⟨some ⟨br,0,none⟩,j,?_,?_,?_⟩
         ·rw[Ng Ko];simp [T3,huj]
         ·simpa using N6
         ·simp;omega⟩,L5,rfl,rfl⟩
   ·rw[Be,Gg] at hx hc
    repeat' first
     |with_reducible first|refine Zd ?_ |refine Ae (fun _=>?_) fun _=>?_ |refine Nb fun nb A0 C0 B0=>?_ |refine Nr fun nb D0 E0 A0 I0 C0 B0=>?_
     |simp -dsimp -implicitDefEqProofs (disch:=first|exact Kd|fail) only[go_sem,↓reduceIte,seval, -He,hL,Ha,F9,Ia,J3,A5,U1]
     |with_reducible refine Tri.drawS tok mixed zlH 9 [1] (.op 0 .plain (.op 1 .held (.op 2 .plain (.op 3 .keeps (.op 4 .keeps (.op 5 .plain (.op 6 .plain (.op 7 .plain .nil)))))))) Kk [(b3, .cells (zc (zat s) vn (.slice (some ⟨bl,0,none⟩) i cl) vs) [] 27)] Ks ?_
    refine zb5 (s:=(false,l)) L3 (n:=1) Ko Fa fun G5 sv5 A2 P1 hsv5=>?_;have hE:=P1;try simp only[zzs] at hE
    repeat(obtain⟨J0,hE⟩:=hE)
    repeat' first
     |with_reducible first|refine Zd ?_ |refine Ae (fun _=>?_) fun _=>?_ |refine Nb fun nb A0 C0 B0=>?_ |refine Nr fun nb D0 E0 A0 I0 C0 B0=>?_
     |simp -dsimp -implicitDefEqProofs (disch:=first|exact Kd|fail) only[go_sem,↓reduceIte,seval, -He,hL,Ha,F9,Ia,J3,A5,U1]
    rename_i bq hbq1 hbq2 hbq3;obtain⟨br,e0⟩: ∃x,x=nb:=⟨_,rfl⟩;subst e0;obtain⟨cq,e0⟩: ∃x,x=E0:=⟨_,rfl⟩;subst e0;obtain⟨sq,e0⟩: ∃x,x=D0:=⟨_,rfl⟩;subst e0;refine Je tok zlH Kk [0,2,3,4,5,6,7,47,48] (fun q2 G' fr H'=> ∃ (j:Nat) (u:List Int×Rdr) (sv':Value),j+q2=w∧PLe G5 G'∧zfn q2 u=rfin∧u.1.length=j∧u.2.2.length≤200000000∧Sl G' zp sv' u.2.2∧H'=(bR, .cells [sv', .bool u.2.1] [] 58):: (br, .cells ((zeH w u.1).map (Yd .i64)) [] 3):: (b3, .cells (zc (zat s) vn (.slice (some ⟨bq,0,none⟩) (i+1) cq) vs) [] 27):: (b2, .cells zz [] 27):: (bq, .cells (lab.map (Yd .i64)++[Yd .i64 ((zD 1 (false,l)).1 :Nat)]) sq 3):: (kn++H)∧fr=[(0, .pointer (some ⟨bR,0,none⟩)),(2, .pointer (some ⟨b2,0,none⟩)),(3, .pointer (some ⟨b3,0,none⟩)),(4, .func (.func 33) #[.pointer (some ⟨bR,0,none⟩)] #[]),(5, .int .i64 ((N:Nat)+1)),(6, .int .i64 (i:Nat)),(7, .slice (some ⟨br,0,none⟩) w w),(47, .int .i64 w),(48, .int .i64 (j:Nat))]) (w) ?_ ?_
    ·rw[Og,List.replicate_zero,zoa];exact Oe (H':=(bR, .cells [sv5, .bool (zD 1 (false,l)).2.1] [] 58):: (br, .cells ((zeH w []).map (Yd .i64)) [] 3):: (b3, .cells (zc (zat s) vn (.slice (some ⟨bq,0,none⟩) (i+1) cq) vs) [] 27):: (b2, .cells zz [] 27):: (bq, .cells (lab.map (Yd .i64)++[Yd .i64 ((zD 1 (false,l)).1 :Nat)]) sq 3):: (kn++H)) Ks (Ce ⟨0,([],(zD 1 (false,l)).2),sv5,by omega,PLe.refl _,hrfin.symm,rfl,Cg S5 L3,hsv5,rfl,rfl⟩)
    ·rintro q2 G6 fr H' Q1 E3 ⟨j,u,sv6,hjq,Pb,hu,huj,T9,Ic,rfl,rfl⟩;have hE:=E3;try simp only[zzs] at hE
     repeat(obtain⟨J0,hE⟩:=hE)
     have hpd:=zob (w:=w) (l:=u.1) Ko;by_cases hjw:j<w
     ·obtain⟨q2,rfl⟩: ∃p,q2=p+1:=⟨q2 - 1,by omega⟩;rw[zgF] at hu;have hl7:=zcd 2 u.2;have hn7:=znj u.2
      repeat' first
       |with_reducible first|refine Zd ?_ |refine Ae (fun _=>?_) fun _=>?_ |refine Nb fun nb A0 C0 B0=>?_ |refine Nr fun nb D0 E0 A0 I0 C0 B0=>?_
       |simp -dsimp -implicitDefEqProofs (disch:=first|exact Kd|fail) only[go_sem,↓reduceIte,seval, -He,hL,Ha,F9,Ia,J3,A5,U1]
      refine zb5 T9 (n:=2) Ko Ic fun G7 sv7 W2 B4 hsv7=>?_;have M3:=zod (w:=w) (l:=u.1) Ko ((zD 2 u.2).1 :Nat);rw[huj] at M3;have hE:=B4;try simp only[zzs] at hE
      repeat(obtain⟨J0,hE⟩:=hE)
      repeat' first
       |with_reducible first|refine Zd ?_ |refine Ae (fun _=>?_) fun _=>?_ |refine Nb fun nb A0 C0 B0=>?_ |refine Nr fun nb D0 E0 A0 I0 C0 B0=>?_
       |simp -dsimp -implicitDefEqProofs (disch:=first|exact Kd|fail) only[go_sem,↓reduceIte,seval, -He,hL,Ha,F9,Ia,J3,A5,U1,M3,Be,hpd]
      exact Ce ⟨q2,by omega,j+1,zfL u,sv7,by omega,Pb.trans W2,hu,by show(u.1++[_]).length=_;rw[Ve,huj];rfl,Cg hl7 T9,hsv7,rfl,rfl⟩
     ·obtain rfl:j=w:=by omega
      obtain rfl:q2=0:=by omega
      rw[ziM] at hu;have R4:=zoc (w:=j) (l:=u.1) huj;rw[R4] at E3⊢;rw[←hu] at B1;have hY6:=hY.mono (A2.trans Pb);have L5:zO [] 3 1 (.slice (some ⟨bq,0,none⟩) (i+1) cq) (i+1) ((lab++[((zD 1 (false,l)).1 :Int)]).map (Yd .i64)) [(bq, .cells (lab.map (Yd .i64)++[Yd .i64 ((zD 1 (false,l)).1 :Nat)]) sq 3)]:=by rw[Ke];exact .inr ⟨bq,cq,sq,rfl,rfl,by simp;omega,by simp at I0⊢;omega⟩
      rcases hY6 with ⟨K5,rfl,rfl⟩| ⟨bn,c2,rv,sp1,rfl,rfl,T3,J4,F5⟩
      ·have hE:=E3;try simp only[zzs] at hE
       repeat(obtain⟨J0,hE⟩:=hE)
       repeat' first
        |with_reducible first|refine Zd ?_ |refine Ae (fun _=>?_) fun _=>?_ |refine Nb fun nb A0 C0 B0=>?_ |refine Nr fun nb D0 E0 A0 I0 C0 B0=>?_
        |simp -dsimp -implicitDefEqProofs (disch:=first|exact Kd|fail) only[go_sem,↓reduceIte,seval, -He,hL,Ha,F9,Ia,J3,A5,U1]
       refine Oe (H':=(br, .cells (u.1.map (Yd .i64)) [] 3):: (bR, .cells [sv6, .bool u.2.1] [] 58):: (b3, .cells (zc (zat s) (.slice (some ⟨nb,0,none⟩) 1 E0) (.slice (some ⟨bq,0,none⟩) (i+1) cq) vs) [] 27):: (b2, .cells zz [] 27):: ([(bq, .cells (lab.map (Yd .i64)++[Yd .i64 ((zD 1 (false,l)).1 :Nat)]) sq 3)]++([(nb, .cells [.slice (some ⟨br,0,none⟩) j j] D0 24)]++H))) Ks (Jf Ka fun G8 N4 B6 N6=>?_)
       exact⟨q,by omega,i+1,⟨lab++[((zD 1 (false,l)).1 :Int)],nxt++[u.1],u.2⟩,sv6,_,_,_,_,by omega,Ac.trans ((A2.trans Pb).trans N4),B1,by simp [S9],by simp [L1],T9,Ic.mono N4, .inr ⟨nb,E0,_,D0,by rw[K5];rfl,rfl,by rw[K5];rfl,by rw[K5];exact(by simp at I0⊢;omega),fun i2 h h2=>by
        rw[K5] at h;obtain rfl:i2=0:=by simp at h;omega
        refine⟨some ⟨br,0,none⟩,j,?_,?_,?_⟩
        ·simp only[K5,Af,Qf];rw[huj]
        ·simp only[K5,Af,Qf];exact N6
        ·simp only[K5,Af,Qf];omega⟩,L5,rfl,rfl⟩
      ·have Z8:nxt.length+sp1.length=c2:=J4;have hE:=E3;try simp only[zzs] at hE
       repeat(obtain⟨J0,hE⟩:=hE)
       repeat' first
        |with_reducible first|refine Zd ?_ |refine Ae (fun _=>?_) fun _=>?_ |refine Nb fun nb A0 C0 B0=>?_ |refine Nr fun nb D0 E0 A0 I0 C0 B0=>?_
        |simp -dsimp -implicitDefEqProofs (disch:=first|exact Kd|fail) only[go_sem,↓reduceIte,seval, -He,hL,Ha,F9,Ia,J3,A5,U1]
       refine Oe (H':=(br, .cells (u.1.map (Yd .i64)) [] 3):: (bR, .cells [sv6, .bool u.2.1] [] 58):: (b3, .cells (zc (zat s) (.slice (some ⟨nb,0,none⟩) (nxt.length+1) E0) (.slice (some ⟨bq,0,none⟩) (i+1) cq) vs) [] 27):: (b2, .cells zz [] 27):: ([(bq, .cells (lab.map (Yd .i64)++[Yd .i64 ((zD 1 (false,l)).1 :Nat)]) sq 3)]++([(nb, .cells (rv++[.slice (some ⟨br,0,none⟩) j j]) D0 24)]++H))) Ks (Jf Ka fun G8 N4 B6 N6=>?_)
       exact⟨q,by omega,i+1,⟨lab++[((zD 1 (false,l)).1 :Int)],nxt++[u.1],u.2⟩,sv6,_,_,_,_,by omega,Ac.trans ((A2.trans Pb).trans N4),B1,by simp [S9],by simp [L1],T9,Ic.mono N4, .inr ⟨nb,E0,_,D0,by rw[Ve];rfl,rfl,by rw[Ve,Ve,T3];rfl,by rw[Ve];exact(by simp at I0⊢;omega),fun i2 h h2=>by
        rcases Eg i2 nxt.length with Z3|Z3
        ·obtain⟨b',c',f1,f2,f3⟩:=F5 i2 Z3 Ko;refine⟨b',c',?_,?_,?_⟩
         ·rw[Ag Ko];simp only[Ag Z3];exact f1
         ·simp only[Ag Z3];exact f2.mono N4
         ·simp only[Ag Z3];exact f3
        ·obtain rfl:i2=nxt.length:=by rw[Ve] at h;simp at h;omega
         refine⟨some ⟨br,0,none⟩,j,?_,?_,?_⟩
         ·rw[Ng Ko];simp [T3,huj]
         ·simpa using N6
         ·simp;omega⟩,L5,rfl,rfl⟩
  ·have Gd:t=zaD s:=by
    by_cases T1:i<N+1
    ·have W5:t.s.1=true:=by cases e:t.s.1 with|true=>rfl|false=>exact absurd ⟨T1,e⟩ Gb
     rw[zqn W5] at N1;exact N1
    ·obtain rfl:q=0:=by omega
     rw[zmp] at N1;exact N1
   have hD: ∀ (G':zb) (an al:Option Addr) (cn cl:Nat),PLe G4 G'→SlS G' (.slice an i cn) t.nxt→Sl G' (Yd .i64) (.slice al i cl) t.lab→IsD G' (zat s) (.agg (zc (zat s) (.slice an i cn) (.slice al i cl) vs).toArray):=fun G' an al cn cl S0 h1 h2=>by
    refine⟨X4,fun x hx=>?_,_,_,_,rfl,?_,?_,?_⟩
    ·have hx:x∈ofF (zaV (zV s).2).f:=hx;unfold ofF at hx;obtain⟨k,_,rfl⟩:=List.mem_map.1 hx;exact(zkY (zV s).2).2 k
    ·rw[Gd] at h1;exact h1
    ·rw[Gd] at h2;exact h2
    ·rw[J6];exact hnm0.mono ((Q0.trans A1).trans (Ac.trans S0))
   have Hb: ∀ (G':zb) (an al:Option Addr) (cn cl:Nat),PLe G4 G'→SlS G' (.slice an i cn) t.nxt→Sl G' (Yd .i64) (.slice al i cl) t.lab→Sep G' (zm ((bR,Res.cells [sv4, .bool t.s.1] [] 58)::H))→R (.agg (zc (zat s) (.slice an i cn) (.slice al i cl) vs).toArray) G' ((bR, .cells [sv4, .bool t.s.1] [] 58)::H):=fun G' an al cn cl S0 h1 h2 Ja=>by
    have:=hR G' _ sv4 (Rd.trans (Ac.trans S0)) (by rw[←Gd];exact Ja) (hD G' an al cn cl S0 h1 h2) (by rw[←Gd];exact Fa.mono S0);rw[←Gd] at this;exact this
   have hvsl: ∃a n c,vs=Wf a n c:=⟨_,_,_,J6⟩;obtain⟨av,nv,cv,hvs2⟩:=hvsl;clear hD;rw[hvs2] at Hb⊢;rcases hO with ⟨al,rfl,O7,hx,rfl⟩| ⟨bl,cl,sp,rfl,rfl,hx,hc⟩
   ·rcases hY with ⟨K5,rfl,rfl⟩| ⟨bn,c2,rv,sp1,rfl,rfl,T3,J4,F5⟩
    ·have hdum:True:=trivial;obtain rfl:i=0:=by rw[←L1,K5];rfl
     have hE:=S1;try simp only[zzs] at hE
     repeat(obtain⟨J0,hE⟩:=hE)
     have hlz:t.lab=[]:=Df Ko;by_cases T1:0<N+1
     ·have W5:t.s.1=true:=by cases e:t.s.1 with|true=>rfl|false=>exact absurd ⟨T1,e⟩ Gb
      have Ab:=Hb;rw[W5] at Ab
      repeat' first
       |with_reducible first|refine Zd ?_ |refine Ae (fun _=>?_) fun _=>?_ |refine Nb fun nb A0 C0 B0=>?_ |refine Nr fun nb D0 E0 A0 I0 C0 B0=>?_
       |simp -dsimp -implicitDefEqProofs (disch:=first|exact Kd|fail) only[go_sem,↓reduceIte,seval, -He,zj,hL,T4,S3,B2,W5]
      unfold zo;refine Oe (H':=((bR, .cells [sv4, .bool true] [] 58)::H)) Ks ?_;refine Ce ?_;exact fun _ hs=>Ab G4 _ _ _ _ (PLe.refl _) ⟨none,0,[],by rw[K5];rfl,Row.nil _ _,by rw[K5];rfl,by rw[K5];exact Qe _,fun i h=>by rw[K5] at h;cases h⟩ ⟨al,0,by rw[hlz];rfl,by rw[hlz];exact Row.nil _ _,by rw[hlz];exact Qe _⟩ hs
     ·exact absurd (Nat.succ_pos N) T1
    ·have hdum:True:=trivial;obtain rfl:i=0:=O7;rw[L1] at S1⊢;have hE:=S1;try simp only[zzs] at hE
     repeat(obtain⟨J0,hE⟩:=hE)
     have hlz:t.lab=[]:=Df Ko;by_cases T1:0<N+1
     ·have W5:t.s.1=true:=by cases e:t.s.1 with|true=>rfl|false=>exact absurd ⟨T1,e⟩ Gb
      have Ab:=Hb;rw[W5] at Ab
      repeat' first
       |with_reducible first|refine Zd ?_ |refine Ae (fun _=>?_) fun _=>?_ |refine Nb fun nb A0 C0 B0=>?_ |refine Nr fun nb D0 E0 A0 I0 C0 B0=>?_
       |simp -dsimp -implicitDefEqProofs (disch:=first|exact Kd|fail) only[go_sem,↓reduceIte,seval, -He,zj,hL,T4,S3,B2,W5]
      unfold zo;refine Oe (H':=[(bn, .cells rv sp1 24)]++((bR, .cells [sv4, .bool true] [] 58)::H)) Ks ?_;refine Jf Ka fun G6 Q1 E3 C6=>?_
      exact fun _ hs => Ab G6 _ _ _ _ Q1 ⟨some ⟨bn, 0, none⟩, c2, rv, by first | rfl | rw [L1], C6, T3, by omega, fun i h h2 => by
            obtain⟨b',c',f1,f2,f3⟩:=F5 i h h2;exact⟨b',c',f1,f2.mono Q1,f3⟩⟩ ⟨al,0,by rw[hlz];rfl,by rw[hlz];exact Row.nil _ _,by rw[hlz];exact Qe _⟩ hs
     ·exact absurd (Nat.succ_pos N) T1
   ·rcases hY with ⟨K5,rfl,rfl⟩| ⟨bn,c2,rv,sp1,rfl,rfl,T3,J4,F5⟩
    ·have hdum:True:=trivial;obtain rfl:i=0:=by rw[←L1,K5];rfl
     have hE:=S1;try simp only[zzs] at hE
     repeat(obtain⟨J0,hE⟩:=hE)
     rw[Be,Gg] at hx hc;by_cases T1:0<N+1
     ·have W5:t.s.1=true:=by cases e:t.s.1 with|true=>rfl|false=>exact absurd ⟨T1,e⟩ Gb
      have Ab:=Hb;rw[W5] at Ab
      repeat' first
       |with_reducible first|refine Zd ?_ |refine Ae (fun _=>?_) fun _=>?_ |refine Nb fun nb A0 C0 B0=>?_ |refine Nr fun nb D0 E0 A0 I0 C0 B0=>?_
       |simp -dsimp -implicitDefEqProofs (disch:=first|exact Kd|fail) only[go_sem,↓reduceIte,seval, -He,zj,hL,T4,S3,B2,W5]
      unfold zo;refine Oe (H':=[(bl, .cells (t.lab.map (Yd .i64)) sp 3)]++((bR, .cells [sv4, .bool true] [] 58)::H)) Ks ?_;refine Jf Ka fun G5 A2 P1 U7=>?_;exact fun _ hs=>Ab G5 _ _ _ _ A2 ⟨none,0,[],by rw[K5];rfl,Row.nil _ _,by rw[K5];rfl,by rw[K5];exact Qe _,fun i h=>by rw[K5] at h;cases h⟩ ⟨some ⟨bl,0,none⟩,cl,by rw[S9],U7,by omega⟩ hs
     ·exact absurd (Nat.succ_pos N) T1
    ·have hdum:True:=trivial;subst L1;have hE:=S1;try simp only[zzs] at hE
     repeat(obtain⟨J0,hE⟩:=hE)
     rw[Be,Gg] at hx hc;by_cases T1:t.nxt.length<N+1
     ·have W5:t.s.1=true:=by cases e:t.s.1 with|true=>rfl|false=>exact absurd ⟨T1,e⟩ Gb
      have Ab:=Hb;rw[W5] at Ab
      repeat' first
       |with_reducible first|refine Zd ?_ |refine Ae (fun _=>?_) fun _=>?_ |refine Nb fun nb A0 C0 B0=>?_ |refine Nr fun nb D0 E0 A0 I0 C0 B0=>?_
       |simp -dsimp -implicitDefEqProofs (disch:=first|exact Kd|fail) only[go_sem,↓reduceIte,seval, -He,zj,hL,T4,S3,B2,W5]
      unfold zo;refine Oe (H':=[(bl, .cells (t.lab.map (Yd .i64)) sp 3)]++[(bn, .cells rv sp1 24)]++((bR, .cells [sv4, .bool true] [] 58)::H)) Ks ?_;refine Upd.trans (Jf Ka fun G5 A2 P1 U7=>?_);refine Jf (P1.1.1) fun G6 Q1 E3 C6=>?_
      exact fun _ hs => Ab G6 _ _ _ _ (A2.trans Q1) ⟨some ⟨bn, 0, none⟩, c2, rv, by first | rfl | rw [L1], C6, T3, by omega, fun i h h2 => by
            obtain⟨b',c',f1,f2,f3⟩:=F5 i h h2;exact⟨b',c',f1,f2.mono (A2.trans Q1),f3⟩⟩ ⟨some ⟨bl,0,none⟩,cl,by rw[S9],U7.mono Q1,by omega⟩ hs
     ·repeat' first
       |with_reducible first|refine Zd ?_ |refine Ae (fun _=>?_) fun _=>?_ |refine Nb fun nb A0 C0 B0=>?_ |refine Nr fun nb D0 E0 A0 I0 C0 B0=>?_
       |simp -dsimp -implicitDefEqProofs (disch:=first|exact Kd|fail) only[go_sem,↓reduceIte,seval, -He,zj,hL,T4,S3,B2]
      unfold zo;refine Oe (H':=[(bl, .cells (t.lab.map (Yd .i64)) sp 3)]++[(bn, .cells rv sp1 24)]++((bR, .cells [sv4, .bool t.s.1] [] 58)::H)) Ks ?_;refine Upd.trans (Jf Ka fun G5 A2 P1 U7=>?_);refine Jf (P1.1.1) fun G6 Q1 E3 C6=>?_
      exact fun _ hs => Hb G6 _ _ _ _ (A2.trans Q1) ⟨some ⟨bn, 0, none⟩, c2, rv, by first | rfl | rw [L1], C6, T3, by omega, fun i h h2 => by
            obtain⟨b',c',f1,f2,f3⟩:=F5 i h h2;exact⟨b',c',f1,f2.mono (A2.trans Q1),f3⟩⟩ ⟨some ⟨bl,0,none⟩,cl,by rw[S9],U7.mono Q1,by omega⟩ hs
def toD (d:DfaT) (s:Int) (c:Nat):Int:=atL (d.next.getD s.toNat []) (d.of.getD c 0)
theorem zd2 {d:DfaT} (K0:zg d) {x:Int} (hx:x∈d.of):0≤x∧x<d.width:=by
 obtain⟨Y2,K2,U2,N3,X3,Y3,Y1⟩:=K0;rw[←N3] at hx;have:=za9 hx;omega
def zb6:List UInt8:=[68,66,76,49]
def zhQ (s:List UInt8):List UInt8:=beB 1 s.length++s
def zbc (l:List (List UInt8)):List UInt8:=l.flatMap zhQ
def zbd (l:List Int):Nat→Nat
 |0=>0
 |c+1=>if l.getD (c+1) 0≠l.getD c 0 then c+1 else zbd l c
def emL (l:List Int) (c:Nat):List UInt8:=if c=255∨l.getD (c+1) 0≠l.getD c 0 then beB 1 (l.getD c 0).toNat++beB 1 (c - zbd l c) else[]
def zbj (l:List Int) (c:Nat):List UInt8:=(Hg c).flatMap (emL l)
theorem zes (l:List Int) (c:Nat):zbj l (c+1)=zbj l c++emL l c:=by
 unfold zbj;rw[Sf,Ig,Rg]
def zc5 (r:List Int):List UInt8:=r.flatMap fun t=>beB 2 t.toNat
def stE (d:DfaT) (s:Nat):List UInt8:=beB 1 (atL d.label (s:Nat)).toNat++zc5 (d.next.getD s [])
def zbV (d:DfaT) (k:Nat):List UInt8:=(Hg k).flatMap (stE d)
theorem zf4 (d:DfaT) (k:Nat):zbV d (k+1)=zbV d k++stE d k:=by
 unfold zbV;rw[Sf,Ig,Rg]
def zaK (d:DfaT):List UInt8:=zb6++beB 1 d.names.length++zbc d.names++zbj d.of 256++beB 2 (d.label.length - 1)++zbV d d.label.length
def zaI (d:DfaT):List UInt8:=zaK d++beB 4 (zbv (zaK d))
theorem zmq (l:List Int): ∀c,zbd l c≤c
 |0=>Qe _
 |c+1=>by
  have:=zmq l c;unfold zbd;split <;> omega
theorem zxA (l:List Int) (c:Nat):(emL l c).length≤2:=by
 unfold emL;split
 ·rw[Ve,zX,zX];omega
 ·exact Pg _
theorem zgH (l:List Int): ∀c,(zbj l c).length≤2 * c
 |0=>by simp [zbj]
 |c+1=>by
  have:=zgH l c;have:=zxA l c;rw[zes,Ve];omega
theorem ztu (s:List UInt8):(zhQ s).length=1+s.length:=by unfold zhQ;rw[Ve,zX]
theorem zdC: ∀ (l:List (List UInt8)),(∀s∈l,s.length≤32)→(zbc l).length≤33 * l.length
 | [],_=>Qe _
 |s::l,h=>by
  have h1:=zdC l fun x hx=>h x (List.mem_cons_of_mem _ hx);have h2:=h s List.mem_cons_self;unfold zbc at h1⊢;rw[List.flatMap_cons,Ve,ztu,List.length_cons];omega
theorem zhR: ∀ (r:List Int),(zc5 r).length=2 * r.length
 | []=>rfl
 |t::r=>by
  have h1:=zhR r;unfold zc5 at h1⊢;rw[List.flatMap_cons,Ve,zX,h1,List.length_cons];omega
theorem zmr (r:List Int) {k:Nat} (h:k<r.length):zc5 (r.take (k+1))=zc5 (r.take k)++beB 2 r[k].toNat:=by
 unfold zc5;rw[Re h,Ig,Rg]
theorem zjM (l:List (List UInt8)) {k:Nat} (h:k<l.length):zbc (l.take (k+1))=zbc (l.take k)++zhQ l[k]:=by
 unfold zbc;rw[Re h,Ig,Rg]
theorem ze0 {d:DfaT} (K0:zg d):d.names.length≤64∧ ∀s∈d.names,s.length≤32:=by
 obtain⟨h1,h2⟩:=K0.2.2.2.2.2.1;refine⟨h1,fun s hs=>?_⟩;obtain⟨i,hi,rfl⟩:=List.getElem_of_mem hs;exact(zfc.1 (h2 i hi).1).2.1
theorem zgZ {d:DfaT} (K0:zg d) (hl:d.of.length=256):0≤d.width∧d.width≤256:=by
 have h1:=K0.2.2.2.2.1;have h2:=zZ d.of;omega
theorem zoe {d:DfaT} {s:Nat} (hs:s<d.next.length) (hl:s<d.label.length):stE d s=beB 1 d.label[s].toNat++zc5 d.next[s]:=by
 unfold stE;rw[zL (by simpa using hl),Fg,Xe hs];simp only[Yf];rfl
theorem ze1 {d:DfaT} (K0:zg d) (hl:d.of.length=256): ∀k,k≤d.label.length→(zbV d k).length≤513 * k
 |0,_=>by simp [zbV]
 |k+1,h=>by
  have h1:=ze1 K0 hl k Ko;have hn:=K0.2.2.1;have hw:=(K0.2.2.2.2.2.2 k Ko Ko).1;have F7:=zgZ K0 hl;rw[zf4,Ve,zoe Ko Ko,Ve,zX,zhR];omega
theorem zgI {d:DfaT} (K0:zg d) (hl:d.of.length=256):(zaK d).length≤50000000:=by
 have h1:=ze1 K0 hl d.label.length (Qe _);have h2:=zgH d.of 256;have h3:=ze0 K0;have h4:=zdC d.names h3.2;have h5:=K0.2.1;unfold zaK;simp only[Ve,zX];have:zb6.length=4:=rfl;omega
theorem zxB {b:List UInt8} (O9:b.length≤200000000) {x cap:Nat} {sp:List Value} {G:zb} {H:za} {R:Value→zb→za→Prop} (hR:R (.int .u32 (zbv b:Nat)) G ((x, .cells (b.map zp) sp 5)::H)):FnT Tryz.prog 7 [.slice (some ⟨x,0,none⟩) b.length cap] G ((x, .cells (b.map zp) sp 5)::H) R:=by
 refine Ee tok zlB Tryz.func7 rfl Kk Kk Kn fun M0=>?_;rw[Tryz.results7];have hE:=M0;try simp only[zzs] at hE
 repeat(obtain⟨J0,hE⟩:=hE)
 repeat' first
  |with_reducible first|refine Zd ?_ |refine Ae (fun _=>?_) fun _=>?_ |refine Nb fun nb A0 C0 B0=>?_ |refine Nr fun nb D0 E0 A0 I0 C0 B0=>?_
  |simp -dsimp -implicitDefEqProofs (disch:=first|exact Kd|fail) only[go_sem,↓reduceIte,seval]
 refine Je tok zlB Kk [0,2,3,6,7,8] (fun q G' fr H'=> ∃i:Nat,i+q=b.length∧G'=G∧H'=(x, .cells (b.map zp) sp 5)::H∧fr=[(0, .slice (some ⟨x,0,none⟩) b.length cap),(2, .int .u32 0),(3, .int .u32 (zbv (b.take i):Nat)),(6, .slice (some ⟨x,0,none⟩) b.length cap),(7, .int .i64 b.length),(8, .int .i64 (i:Nat))]) (b.length) (Ce ?_) ?_
 ·exact⟨0,by omega,rfl,rfl,rfl⟩
 ·rintro q G1 fr H' S0 V0 ⟨i,Q5,rfl,rfl,rfl⟩;have hE:=V0;try simp only[zzs] at hE
  repeat(obtain⟨J0,hE⟩:=hE)
  by_cases Y0:i<b.length
  ·have N1:=zgB b Y0;have J2:=zeb (b.take i);have E6: ∀h,(b.map zp++sp)[i]'h=Yd .u8 (b[i].toNat:Nat):=fun h=>by rw[Ag (by rw[Be];exact Y0),Le];rfl
   repeat' first
    |with_reducible first|refine Zd ?_ |refine Ae (fun _=>?_) fun _=>?_ |refine Nb fun nb A0 C0 B0=>?_ |refine Nr fun nb D0 E0 A0 I0 C0 B0=>?_
    |simp -dsimp -implicitDefEqProofs (disch:=first|exact Kd|fail) only[go_sem,↓reduceIte,seval,Be,E6,zfA J2]
   exact Ce ⟨q - 1,by omega,i+1,by omega,rfl,rfl,by rw[N1];rfl⟩
  ·obtain rfl:i=b.length:=by omega
   rw[Te]
   repeat' first
    |with_reducible first|refine Zd ?_ |refine Ae (fun _=>?_) fun _=>?_ |refine Nb fun nb A0 C0 B0=>?_ |refine Nr fun nb D0 E0 A0 I0 C0 B0=>?_
    |simp -dsimp -implicitDefEqProofs (disch:=first|exact Kd|fail) only[go_sem,↓reduceIte,seval]
   all_goals refine De ?_ hR ?_
   any_goals first|exact Ks|skip
   all_goals rfl
theorem zxC {b:List UInt8} (O9:b.length≤200000000) {x cap:Nat} {sp:List Value} {G:zb} {H:za} {R:Value→zb→za→Prop} (hR:R (.int .u32 (zbv b:Nat)) G ((x, .cells (b.map zp) sp 5)::H)):FnT Tryz.prog 8 [.slice (some ⟨x,0,none⟩) b.length cap] G ((x, .cells (b.map zp) sp 5)::H) R:=by
 refine Ee tok zrG Tryz.func8 rfl Kk Kk Kn fun M0=>?_;rw[Tryz.results8];have hE:=M0;try simp only[zzs] at hE
 repeat(obtain⟨J0,hE⟩:=hE)
 repeat' first
  |with_reducible first|refine Zd ?_ |refine Ae (fun _=>?_) fun _=>?_ |refine Nb fun nb A0 C0 B0=>?_ |refine Nr fun nb D0 E0 A0 I0 C0 B0=>?_
  |simp -dsimp -implicitDefEqProofs (disch:=first|exact Kd|fail) only[go_sem,↓reduceIte,seval]
 refine Je tok zrG Kk [0,2,3,4] (fun q G' fr H'=> ∃i:Nat,i+q=b.length∧G'=G∧H'=(x, .cells (b.map zp) sp 5)::H∧fr=[(0, .slice (some ⟨x,0,none⟩) b.length cap),(2, .int .u32 0),(3, .int .u32 (zbv (b.take i):Nat)),(4, .int .i64 (i:Nat))]) (b.length) (Ce ?_) ?_
 ·exact⟨0,by omega,rfl,rfl,rfl⟩
 ·rintro q G1 fr H' S0 V0 ⟨i,Q5,rfl,rfl,rfl⟩;have hE:=V0;try simp only[zzs] at hE
  repeat(obtain⟨J0,hE⟩:=hE)
  by_cases Y0:i<b.length
  ·have N1:=zgB b Y0;have J2:=zeb (b.take i);have E6: ∀h,(b.map zp++sp)[i]'h=Yd .u8 (b[i].toNat:Nat):=fun h=>by rw[Ag (by rw[Be];exact Y0),Le];rfl
   repeat' first
    |with_reducible first|refine Zd ?_ |refine Ae (fun _=>?_) fun _=>?_ |refine Nb fun nb A0 C0 B0=>?_ |refine Nr fun nb D0 E0 A0 I0 C0 B0=>?_
    |simp -dsimp -implicitDefEqProofs (disch:=first|exact Kd|fail) only[go_sem,↓reduceIte,seval,Be,E6,zfA J2]
   exact Ce ⟨q - 1,by omega,i+1,by omega,rfl,rfl,by rw[N1];rfl⟩
  ·obtain rfl:i=b.length:=by omega
   rw[Te]
   repeat' first
    |with_reducible first|refine Zd ?_ |refine Ae (fun _=>?_) fun _=>?_ |refine Nb fun nb A0 C0 B0=>?_ |refine Nr fun nb D0 E0 A0 I0 C0 B0=>?_
    |simp -dsimp -implicitDefEqProofs (disch:=first|exact Kd|fail) only[go_sem,↓reduceIte,seval]
   all_goals refine De ?_ hR ?_
   any_goals first|exact Ks|skip
   all_goals rfl
theorem Buf.own {v:Value} {kb:za} {l:List UInt8} (h:Buf v kb l) (hl:0<l.length): ∃b cap sp,v= .slice (some ⟨b,0,none⟩) l.length cap∧kb=[(b, .cells (l.map zp) sp 5)]∧l.length+sp.length=cap:=by
 rcases h with ⟨a,rfl,Z8,hx,rfl⟩| ⟨b,cap,sp,rfl,rfl,hx,hc⟩
 ·omega
 ·rw[Be,Gg] at hc;exact⟨b,cap,sp,rfl,rfl,hc⟩
theorem OpenD.ofAt {G:zb} {d:DfaT} {C:List Value} {an al ay:Option Addr} {cn cl cs:Nat} {rs:List Value} (O:OpenD G d C an al ay cn cl cs rs) {c:Nat} (hc:c<256): ∃y:Nat,y<256∧d.of.getD c 0=(y:Nat)∧C[c]? =some (.int .u8 (y:Nat)):=by
 have hcd:c<d.of.length:=by rw[O.ofl];exact hc
 have hb:=O.ofb _ (Me hcd);obtain⟨y,hy⟩:=Dg hb.1;refine⟨y,by omega,by rw[Fg,Xe hcd];exact hy,?_⟩;have h1:(C.take 256)[c]? =C[c]? :=by rw[List.getElem?_take,if_pos hc]
 rw[←h1,O.of];unfold u8L;rw[Lg,Xe hcd,hy];rfl
theorem zrS {d:DfaT} (P0:zr d) (K0:zg d) {G:zb} {H:za} {R:Value→zb→za→Prop} {v:Value} (hv:IsD G d v) (hR: ∀v' kb',Buf v' kb' (zaI d)→Sep G (zm (kb'++H))→R v' G (kb'++H)):FnT Tryz.prog 16 [v] G H R:=by
 obtain⟨C,an,al,ay,cn,cl,cs,rs,rfl,O⟩:=hv.opened;obtain⟨U3,M2,V3,A4,M4⟩:=id P0;obtain⟨Y2,K2,U2,N3,X3,Y3,Y1⟩:=id K0;have N0:=O.len;have T0:=O.all;have J1:=O.n;have X0:=O.l;have S2:=O.s;have B5:=ze0 K0;have O9:=zgI K0 O.ofl;have S7: ∀x:Value,Fe 4 x=[x,x,x,x]:=fun _=>rfl;refine Zf ?_;refine Ee tok zep Tryz.func16 rfl Kk Kk Kn fun M0=>?_;rw[Tryz.results16];have hE:=M0;try simp only[zzs] at hE
 repeat(obtain⟨J0,hE⟩:=hE)
 repeat' first
  |with_reducible first|refine Zd ?_ |refine Ae (fun _=>?_) fun _=>?_ |refine Nb fun nb A0 C0 B0=>?_ |refine Nr fun nb D0 E0 A0 I0 C0 B0=>?_
  |simp -dsimp -implicitDefEqProofs (disch:=first|exact Kd|fail) only[go_sem,↓reduceIte,seval, -He,Ye,N0,T0,S2,S7]
 rename_i b1 R3 T8 B8;have hb0:Buf (.slice (some ⟨nb,0,none⟩) 4 4) [(nb, .cells [Yd .u8 68,Yd .u8 66,Yd .u8 76,Yd .u8 49] [] 5)] zb6:= .inr ⟨nb,4,[],rfl,rfl,rfl,rfl⟩;refine zeZ (many:=1) (by decide) Ko Ko hb0 fun v1 kb1 hbf1 V0=>?_;obtain⟨l1,D4⟩: ∃l,l=zb6++beB 1 d.names.length:=⟨_,rfl⟩;have hl1l:l1.length=5:=by rw[D4,Ve,zX];rfl
 rw[←D4] at hbf1;obtain⟨x1,c1,sp1,rfl,rfl,V7⟩:=hbf1.own Ko;have hE:=V0;try simp only[zzs] at hE
 repeat(obtain⟨J0,hE⟩:=hE)
 repeat' first
  |with_reducible first|refine Zd ?_ |refine Ae (fun _=>?_) fun _=>?_ |refine Nb fun nb A0 C0 B0=>?_ |refine Nr fun nb D0 E0 A0 I0 C0 B0=>?_
  |simp -dsimp -implicitDefEqProofs (disch:=first|exact Kd|fail) only[go_sem,↓reduceIte,seval, -He,Ye,N0,T0,S2]
 have C1:=zdC d.names B5.2;refine Je tok zep Kk [1,2,3,19,20,21] (fun q G' fr H'=> ∃ (i:Nat) (v:Value) (kb:za),i+q=d.names.length∧G'=G∧Buf v kb (l1++zbc (d.names.take i))∧H'=kb++((b1, .cells C [] 27)::H)∧fr=[(1, .pointer (some ⟨b1,0,none⟩)),(2, .slice none 0 0),(3,v),(19, .slice ay d.names.length cs),(20, .int .i64 d.names.length),(21, .int .i64 (i:Nat))]) (d.names.length) ?_ ?_
 ·exact Ce ⟨0,_,_,by omega,rfl,by rw[Se];show Buf _ _ (l1++[]);rw[Bf];exact hbf1,rfl,rfl⟩
 ·rintro q G1 fr H' S0 R0 ⟨i,v,kb,Q5,rfl,R2,rfl,rfl⟩;by_cases Y0:i<d.names.length
  ·have B3:Adr ay:=O.ry.adr (by rw[Be];omega);have D3:=B5.2 _ (Me Y0);have N2:(zbc (d.names.take i)).length≤33 * (d.names.take i).length:=zdC _ fun x hx=>B5.2 x (List.mem_of_mem_take hx);rw[Ge] at N2;obtain⟨p,hp⟩: ∃p,p=l1++zbc (d.names.take i):=⟨_,rfl⟩;have J3:p.length≤5+33 * 64∧0<p.length:=by rw[hp,Ve];omega
   have T5:l1++zbc (d.names.take (i+1))=(p++beB 1 (d.names[i]).length)++d.names[i]:=by rw[zjM _ Y0,hp];unfold zhQ;simp only[Uf]
   rw[←hp] at R2;have hx'0:=R0;have hE:=R0;try simp only[zzs] at hE
   repeat(obtain⟨J0,hE⟩:=hE)
   repeat' first
    |with_reducible first|refine Zd ?_ |refine Ae (fun _=>?_) fun _=>?_ |refine Nb fun nb A0 C0 B0=>?_ |refine Nr fun nb D0 E0 A0 I0 C0 B0=>?_
    |simp -dsimp -implicitDefEqProofs (disch:=first|exact Kd|fail) only[go_sem,↓reduceIte,seval, -He,Ie O.ry,Le]
   refine zeZ (many:=1) Ko Ko Ko R2 fun v2 kb2 hbf2 K1=>?_;obtain⟨p2,P7⟩: ∃p2,p2=p++beB 1 (d.names[i]).length:=⟨_,rfl⟩;have hp2l:p2.length=p.length+1:=by rw[P7,Ve,zX]
   rw[←P7] at hbf2 T5;obtain⟨x2,c2,sp2,rfl,rfl,J4⟩:=hbf2.own Ko;have hE:=K1;try simp only[zzs] at hE
   repeat(obtain⟨J0,hE⟩:=hE)
   repeat' first
    |with_reducible first|refine Zd ?_ |refine Ae (fun _=>?_) fun _=>?_ |refine Nb fun nb A0 C0 B0=>?_ |refine Nr fun nb D0 E0 A0 I0 C0 B0=>?_
    |simp -dsimp -implicitDefEqProofs (disch:=first|exact Kd|fail) only[go_sem,↓reduceIte,seval, -He,Be]
   refine Oe (H':=[(nb, .cells (p2.map zp++(d.names[i]).map zp) D0 5)]++((b1, .cells C [] 27)::H)) Ks (Ce ⟨q - 1,by omega,i+1,_,_,by omega,rfl,?_,rfl,rfl⟩);rw[T5];exact .inr ⟨nb,E0,D0,by rw[Ve],by rw[Ke],by simp,by simp at I0⊢;omega⟩
  ·obtain rfl:i=d.names.length:=by omega
   rw[Te] at R2;obtain⟨p1,K6⟩: ∃p,p=l1++zbc d.names:=⟨_,rfl⟩;have hp1l:p1.length≤5+33 * 64∧0<p1.length:=by rw[K6,Ve];omega
   rw[←K6] at R2
   repeat' first
    |with_reducible first|refine Zd ?_ |refine Ae (fun _=>?_) fun _=>?_ |refine Nb fun nb A0 C0 B0=>?_ |refine Nr fun nb D0 E0 A0 I0 C0 B0=>?_
    |simp -dsimp -implicitDefEqProofs (disch:=first|exact Kd|fail) only[go_sem,↓reduceIte,seval, -He]
   refine Je tok zep Kk [1,2,3,6,32] (fun q G' fr H'=> ∃ (c fm:Nat) (v:Value) (kb:za),c+q=256∧G'=G1∧fm≤256∧(c<256→fm=zbd d.of c)∧Buf v kb (p1++zbj d.of c)∧H'=kb++((b1, .cells C [] 27)::H)∧fr=[(1, .pointer (some ⟨b1,0,none⟩)),(2, .slice none 0 0),(3,v),(6, .int .i64 (fm:Nat)),(32, .int .i64 (c:Nat))]) (256) ?_ ?_
   ·exact Ce ⟨0,0,v,kb,by omega,rfl,by omega,fun _=>rfl,by show Buf _ _ (p1++[]);rw[Bf];exact R2,rfl,rfl⟩
   ·rintro q G2 fr H' A1 S1 ⟨c,fm,v,kb,hcq,rfl,hfm,hfs,R2,rfl,rfl⟩;have I2:=zgH d.of c;obtain⟨p,hp⟩: ∃p,p=p1++zbj d.of c:=⟨_,rfl⟩;have J3:p.length≤5+33 * 64+512∧0<p.length:=by rw[hp,Ve];omega
    by_cases V2:c<256
    ·have hfs:=hfs V2;have hsle:=zmq d.of c;obtain⟨y,hy1,hy2,hy3⟩:=O.ofAt V2;have T5:p1++zbj d.of (c+1)=p++emL d.of c:=by rw[zes,hp,Uf]
     rw[←hp] at R2;by_cases hem:c=255∨d.of.getD (c+1) 0≠d.of.getD c 0
     ·have hemv:emL d.of c=beB 1 y++beB 1 (c - fm):=by unfold emL;rw[if_pos hem,hy2,←hfs];simp only[Yf]
      have hyw:IntKind.i64.wrap ((y:Nat):Int)=(y:Nat):=wrap_i64 Ko Ko;have L6:((c:Nat):Int) - (fm:Nat)=((c - fm:Nat):Int):=by omega
      obtain⟨x2,c2,sp2,rfl,rfl,J4⟩:=R2.own Ko;have hE:=S1;try simp only[zzs] at hE
      repeat(obtain⟨J0,hE⟩:=hE)
      by_cases h255:c=255
      ·subst h255;have Sd:(255 :Int) - (fm:Nat)=((255 - fm:Nat):Int):=by omega
       repeat' first
        |with_reducible first|refine Zd ?_ |refine Ae (fun _=>?_) fun _=>?_ |refine Nb fun nb A0 C0 B0=>?_ |refine Nr fun nb D0 E0 A0 I0 C0 B0=>?_
        |with_reducible refine Vf tok mixed zep 11 [7,11] (.op 0 .plain (.op 1 .plain (.op 2 .plain (.op 3 .plain (.op 4 .plain (.op 5 .plain (.op 6 .plain (.op 7 .held (.op 8 .plain (.op 9 .plain (.op 10 .plain (.op 11 .held (.op 12 .plain (.op 13 .plain .nil)))))))))))))) Kk [1] ?_
        |simp -dsimp -implicitDefEqProofs (disch:=first|exact Kd|fail) only[go_sem,↓reduceIte,seval, -He,N0,hy3,hyw,L6,Sd]
       refine zeZ (many:=1) Ko Ko Ko R2 fun v3 kb3 hbf3 P1=>?_;obtain⟨x3,c3,sp3,rfl,rfl,H9⟩:=hbf3.own (by rw[Ve];omega);have hE:=P1;try simp only[zzs] at hE
       repeat(obtain⟨J0,hE⟩:=hE)
       repeat' first
        |with_reducible first|refine Zd ?_ |refine Ae (fun _=>?_) fun _=>?_ |refine Nb fun nb A0 C0 B0=>?_ |refine Nr fun nb D0 E0 A0 I0 C0 B0=>?_
        |with_reducible refine Vf tok mixed zep 11 [7,11] (.op 0 .plain (.op 1 .plain (.op 2 .plain (.op 3 .plain (.op 4 .plain (.op 5 .plain (.op 6 .plain (.op 7 .held (.op 8 .plain (.op 9 .plain (.op 10 .plain (.op 11 .held (.op 12 .plain (.op 13 .plain .nil)))))))))))))) Kk [1] ?_
        |simp -dsimp -implicitDefEqProofs (disch:=first|exact Kd|fail) only[go_sem,↓reduceIte,seval, -He,N0,hy3,hyw,L6,Sd]
       refine zeZ (many:=1) (by rw[Ve,zX];omega) Ko Ko hbf3 fun v4 kb4 hbf4 E3=>?_;obtain⟨x4,c4,sp4,rfl,rfl,hc4⟩:=hbf4.own (by rw[Ve,Ve];omega);have hE:=E3;try simp only[zzs] at hE
       repeat(obtain⟨J0,hE⟩:=hE)
       repeat' first
        |with_reducible first|refine Zd ?_ |refine Ae (fun _=>?_) fun _=>?_ |refine Nb fun nb A0 C0 B0=>?_ |refine Nr fun nb D0 E0 A0 I0 C0 B0=>?_
        |with_reducible refine Vf tok mixed zep 11 [7,11] (.op 0 .plain (.op 1 .plain (.op 2 .plain (.op 3 .plain (.op 4 .plain (.op 5 .plain (.op 6 .plain (.op 7 .held (.op 8 .plain (.op 9 .plain (.op 10 .plain (.op 11 .held (.op 12 .plain (.op 13 .plain .nil)))))))))))))) Kk [1] ?_
        |simp -dsimp -implicitDefEqProofs (disch:=first|exact Kd|fail) only[go_sem,↓reduceIte,seval, -He,N0]
       refine Ce ⟨q - 1,by omega,255+1,255+1,_,[(x4, .cells ((p++beB 1 y++beB 1 (255 - fm)).map zp) sp4 5)],by omega,rfl,by omega,fun h=>by omega,?_,rfl,rfl⟩;rw[T5,hemv,←Uf];exact hbf4
      ·obtain⟨z,hz1,W6,hz3⟩:=O.ofAt (c:=c+1) Ko;have hzy: ¬(z:Int)=y:=by rcases hem with h|h;exact absurd h h255;rw[W6,hy2] at h;exact h
       repeat' first
        |with_reducible first|refine Zd ?_ |refine Ae (fun _=>?_) fun _=>?_ |refine Nb fun nb A0 C0 B0=>?_ |refine Nr fun nb D0 E0 A0 I0 C0 B0=>?_
        |with_reducible refine Vf tok mixed zep 11 [7,11] (.op 0 .plain (.op 1 .plain (.op 2 .plain (.op 3 .plain (.op 4 .plain (.op 5 .plain (.op 6 .plain (.op 7 .held (.op 8 .plain (.op 9 .plain (.op 10 .plain (.op 11 .held (.op 12 .plain (.op 13 .plain .nil)))))))))))))) Kk [1] ?_
        |simp -dsimp -implicitDefEqProofs (disch:=first|exact Kd|fail) only[go_sem,↓reduceIte,seval, -He,N0,hy3,hyw,L6,hz3]
       refine zeZ (many:=1) Ko Ko Ko R2 fun v3 kb3 hbf3 P1=>?_;obtain⟨x3,c3,sp3,rfl,rfl,H9⟩:=hbf3.own (by rw[Ve];omega);have hE:=P1;try simp only[zzs] at hE
       repeat(obtain⟨J0,hE⟩:=hE)
       repeat' first
        |with_reducible first|refine Zd ?_ |refine Ae (fun _=>?_) fun _=>?_ |refine Nb fun nb A0 C0 B0=>?_ |refine Nr fun nb D0 E0 A0 I0 C0 B0=>?_
        |with_reducible refine Vf tok mixed zep 11 [7,11] (.op 0 .plain (.op 1 .plain (.op 2 .plain (.op 3 .plain (.op 4 .plain (.op 5 .plain (.op 6 .plain (.op 7 .held (.op 8 .plain (.op 9 .plain (.op 10 .plain (.op 11 .held (.op 12 .plain (.op 13 .plain .nil)))))))))))))) Kk [1] ?_
        |simp -dsimp -implicitDefEqProofs (disch:=first|exact Kd|fail) only[go_sem,↓reduceIte,seval, -He,N0,hy3,hyw,L6]
       refine zeZ (many:=1) (by rw[Ve,zX];omega) Ko Ko hbf3 fun v4 kb4 hbf4 E3=>?_;obtain⟨x4,c4,sp4,rfl,rfl,hc4⟩:=hbf4.own (by rw[Ve,Ve];omega);have hE:=E3;try simp only[zzs] at hE
       repeat(obtain⟨J0,hE⟩:=hE)
       repeat' first
        |with_reducible first|refine Zd ?_ |refine Ae (fun _=>?_) fun _=>?_ |refine Nb fun nb A0 C0 B0=>?_ |refine Nr fun nb D0 E0 A0 I0 C0 B0=>?_
        |with_reducible refine Vf tok mixed zep 11 [7,11] (.op 0 .plain (.op 1 .plain (.op 2 .plain (.op 3 .plain (.op 4 .plain (.op 5 .plain (.op 6 .plain (.op 7 .held (.op 8 .plain (.op 9 .plain (.op 10 .plain (.op 11 .held (.op 12 .plain (.op 13 .plain .nil)))))))))))))) Kk [1] ?_
        |simp -dsimp -implicitDefEqProofs (disch:=first|exact Kd|fail) only[go_sem,↓reduceIte,seval, -He,N0]
       refine Ce ⟨q - 1,by omega,c+1,c+1,_,[(x4, .cells ((p++beB 1 y++beB 1 (c - fm)).map zp) sp4 5)],by omega,rfl,by omega,fun h=>by show c+1=zbd d.of (c+1);unfold zbd;rw[if_pos (hem.resolve_left h255)],?_,rfl,rfl⟩;rw[T5,hemv,←Uf];exact hbf4
     ·have hc5:c≠255:=fun h=>hem (Or.inl h);have heq:d.of.getD (c+1) 0=d.of.getD c 0:=Classical.byContradiction fun h=>hem (Or.inr h);obtain⟨z,hz1,W6,hz3⟩:=O.ofAt (c:=c+1) Ko;have hzy:z=y:=by rw[W6,hy2] at heq;omega
      subst hzy;have hemv:emL d.of c=[]:=by unfold emL;rw[if_neg hem]
      obtain⟨x2,c2,sp2,rfl,rfl,J4⟩:=R2.own Ko;have hE:=S1;try simp only[zzs] at hE
      repeat(obtain⟨J0,hE⟩:=hE)
      repeat' first
       |with_reducible first|refine Zd ?_ |refine Ae (fun _=>?_) fun _=>?_ |refine Nb fun nb A0 C0 B0=>?_ |refine Nr fun nb D0 E0 A0 I0 C0 B0=>?_
       |with_reducible refine Vf tok mixed zep 11 [7,11] (.op 0 .plain (.op 1 .plain (.op 2 .plain (.op 3 .plain (.op 4 .plain (.op 5 .plain (.op 6 .plain (.op 7 .held (.op 8 .plain (.op 9 .plain (.op 10 .plain (.op 11 .held (.op 12 .plain (.op 13 .plain .nil)))))))))))))) Kk [1] ?_
       |simp -dsimp -implicitDefEqProofs (disch:=first|exact Kd|fail) only[go_sem,↓reduceIte,seval, -He,N0,hy3,hz3]
      refine Ce ⟨q - 1,by omega,c+1,fm,_,[(x2, .cells (p.map zp) sp2 5)],by omega,rfl,hfm,fun h=>by rw[hfs];show zbd d.of c=zbd d.of (c+1);rw[show zbd d.of (c+1)=if d.of.getD (c+1) 0≠d.of.getD c 0 then c+1 else zbd d.of c from rfl,if_neg (by rw[heq];simp)],?_,rfl,rfl⟩;rw[T5,hemv,Bf];exact R2
    ·obtain rfl:c=256:=by omega
     rw[←hp] at R2;obtain⟨x2,c2,sp2,rfl,rfl,J4⟩:=R2.own Ko;have hE:=S1;try simp only[zzs] at hE
     repeat(obtain⟨J0,hE⟩:=hE)
     have hlsub:((d.label.length:Nat):Int) - 1=((d.label.length - 1 :Nat):Int):=by omega
     repeat' first
      |with_reducible first|refine Zd ?_ |refine Ae (fun _=>?_) fun _=>?_ |refine Nb fun nb A0 C0 B0=>?_ |refine Nr fun nb D0 E0 A0 I0 C0 B0=>?_
      |with_reducible refine Vf tok mixed zep 11 [7,11] (.op 0 .plain (.op 1 .plain (.op 2 .plain (.op 3 .plain (.op 4 .plain (.op 5 .plain (.op 6 .plain (.op 7 .held (.op 8 .plain (.op 9 .plain (.op 10 .plain (.op 11 .held (.op 12 .plain (.op 13 .plain .nil)))))))))))))) Kk [1] ?_
      |simp -dsimp -implicitDefEqProofs (disch:=first|exact Kd|fail) only[go_sem,↓reduceIte,seval, -He,N0,X0,hlsub]
     refine zeZ (many:=2) Ko Ko Ko R2 fun v5 kb5 Bc P1=>?_;obtain⟨p5,hp5⟩: ∃p5,p5=p++beB 2 (d.label.length - 1):=⟨_,rfl⟩;have hp5l:p5.length=p.length+2:=by rw[hp5,Ve,zX]
     rw[←hp5] at Bc;obtain⟨x5,c5,sp5,rfl,rfl,hc5⟩:=Bc.own Ko;have hE:=P1;try simp only[zzs] at hE
     repeat(obtain⟨J0,hE⟩:=hE)
     repeat' first
      |with_reducible first|refine Zd ?_ |refine Ae (fun _=>?_) fun _=>?_ |refine Nb fun nb A0 C0 B0=>?_ |refine Nr fun nb D0 E0 A0 I0 C0 B0=>?_
      |with_reducible refine Vf tok mixed zep 11 [7,11] (.op 0 .plain (.op 1 .plain (.op 2 .plain (.op 3 .plain (.op 4 .plain (.op 5 .plain (.op 6 .plain (.op 7 .held (.op 8 .plain (.op 9 .plain (.op 10 .plain (.op 11 .held (.op 12 .plain (.op 13 .plain .nil)))))))))))))) Kk [1] ?_
      |simp -dsimp -implicitDefEqProofs (disch:=first|exact Kd|fail) only[go_sem,↓reduceIte,seval, -He,N0,J1]
     have La:=O.rnl;refine Je tok zep Kk [1,2,3,70,71,72] (fun q G' fr H'=> ∃ (k:Nat) (v:Value) (kb:za),k+q=d.next.length∧G'=G2∧Buf v kb (p5++zbV d k)∧H'=kb++((b1, .cells C [] 27)::H)∧fr=[(1, .pointer (some ⟨b1,0,none⟩)),(2, .slice none 0 0),(3,v),(70, .slice an d.next.length cn),(71, .int .i64 d.next.length),(72, .int .i64 (k:Nat))]) (d.next.length) ?_ ?_
     ·exact Ce ⟨0,_,[(x5, .cells (p5.map zp) sp5 5)],by omega,rfl,by show Buf _ _ (p5++[]);rw[Bf];exact Bc,rfl,rfl⟩
     ·rintro q G3 fr H' Z1 E3 ⟨k,v,kb,hkq,rfl,R2,rfl,rfl⟩;obtain⟨p6,hp6⟩: ∃p6,p6=p5++zbV d k:=⟨_,rfl⟩;have Gc:=ze1 K0 O.ofl k Ko;have hp6l:p6.length≤50000000∧0<p6.length:=by rw[hp6,Ve];omega
      rw[←hp6] at R2;obtain⟨x6,c6,sp6,rfl,rfl,hc6⟩:=R2.own Ko;have hE:=E3;try simp only[zzs] at hE
      repeat(obtain⟨J0,hE⟩:=hE)
      by_cases Q2:k<d.next.length
      ·have B3:Adr an:=O.rn.adr Ko;obtain⟨b,cc,e1,e2,e3⟩:=O.rs k Q2 Ko;obtain⟨E5,F7,C8,D6⟩:=Y1 k Q2 Ko;have hkl2:k<d.label.length:=by omega
       have V6:Adr al:=O.rl.adr (by rw[Be];omega);have hww:=zgZ K0 O.ofl;obtain⟨lb,D9⟩:=Dg F7;have Ma:=zoe Q2 hkl2;rw[D9,Yf] at Ma;obtain⟨row,U0⟩: ∃row,row=d.next[k]:=⟨_,rfl⟩;rw[←U0] at e1 e2 e3 E5 D6 Ma;have T5:p5++zbV d (k+1)=(p6++beB 1 lb)++zc5 row:=by rw[zf4,Ma,hp6];simp only[Uf]
       repeat' first
        |with_reducible first|refine Zd ?_ |refine Ae (fun _=>?_) fun _=>?_ |refine Nb fun nb A0 C0 B0=>?_ |refine Nr fun nb D0 E0 A0 I0 C0 B0=>?_
        |simp -dsimp -implicitDefEqProofs (disch:=first|exact Kd|fail) only[go_sem,↓reduceIte,seval, -He,N0,X0,Ie O.rn,e1,Ie O.rl,Le,D9]
       refine zeZ (many:=1) Ko Ko Ko R2 fun v7 kb7 Qb B4=>?_;obtain⟨p7,hp7⟩: ∃p7,p7=p6++beB 1 lb:=⟨_,rfl⟩;have hp7l:p7.length=p6.length+1:=by rw[hp7,Ve,zX]
       rw[←hp7] at Qb T5;obtain⟨x7,c7,sp7,rfl,rfl,hc7⟩:=Qb.own Ko;have hE:=B4;try simp only[zzs] at hE
       repeat(obtain⟨J0,hE⟩:=hE)
       repeat' first
        |with_reducible first|refine Zd ?_ |refine Ae (fun _=>?_) fun _=>?_ |refine Nb fun nb A0 C0 B0=>?_ |refine Nr fun nb D0 E0 A0 I0 C0 B0=>?_
        |simp -dsimp -implicitDefEqProofs (disch:=first|exact Kd|fail) only[go_sem,↓reduceIte,seval, -He,N0]
       refine Je tok zep Kk [1,2,3,70,71,72,84,85,86] (fun q2 G' fr H'=> ∃ (j:Nat) (v:Value) (kb:za),j+q2=row.length∧G'=G3∧Buf v kb (p7++zc5 (row.take j))∧H'=kb++((b1, .cells C [] 27)::H)∧fr=[(1, .pointer (some ⟨b1,0,none⟩)),(2, .slice none 0 0),(3,v),(70, .slice an d.next.length cn),(71, .int .i64 d.next.length),(72, .int .i64 (k:Nat)),(84, .slice b row.length cc),(85, .int .i64 row.length),(86, .int .i64 (j:Nat))]) (row.length) ?_ ?_
       ·exact Ce ⟨0,_,[(x7, .cells (p7.map zp) sp7 5)],by omega,rfl,by rw[Se];show Buf _ _ (p7++[]);rw[Bf];exact Qb,rfl,rfl⟩
       ·rintro q2 G4 fr H' A2 B6 ⟨j,v,kb,hjq,rfl,R2,rfl,rfl⟩;have I2:=zhR (row.take j);rw[Ge] at I2;obtain⟨p8,U9⟩: ∃p8,p8=p7++zc5 (row.take j):=⟨_,rfl⟩;have hp8l:p8.length≤100000000∧0<p8.length:=by rw[U9,Ve];omega
        by_cases U4:j<row.length
        ·have hadb:Adr b:=e2.adr (by rw[Be];omega);have ht:=D6 _ (Me U4);obtain⟨t,L1⟩:=Dg ht.1;have P9:=zmr row U4;rw[L1,Yf] at P9;rw[←U9] at R2;obtain⟨x8,c8,sp8,rfl,rfl,Ea⟩:=R2.own Ko;have hE:=B6;try simp only[zzs] at hE
         repeat(obtain⟨J0,hE⟩:=hE)
         repeat' first
          |with_reducible first|refine Zd ?_ |refine Ae (fun _=>?_) fun _=>?_ |refine Nb fun nb A0 C0 B0=>?_ |refine Nr fun nb D0 E0 A0 I0 C0 B0=>?_
          |simp -dsimp -implicitDefEqProofs (disch:=first|exact Kd|fail) only[go_sem,↓reduceIte,seval, -He,Ie e2,Le,L1]
         refine zeZ (many:=2) Ko Ko Ko R2 fun v9 kb9 V9 P6=>?_;obtain⟨x9,c9,sp9,rfl,rfl,hc9⟩:=V9.own (by rw[Ve];omega);have hE:=P6;try simp only[zzs] at hE
         repeat(obtain⟨J0,hE⟩:=hE)
         repeat' first
          |with_reducible first|refine Zd ?_ |refine Ae (fun _=>?_) fun _=>?_ |refine Nb fun nb A0 C0 B0=>?_ |refine Nr fun nb D0 E0 A0 I0 C0 B0=>?_
          |simp -dsimp -implicitDefEqProofs (disch:=first|exact Kd|fail) only[go_sem,↓reduceIte,seval, -He]
         refine Ce ⟨q2 - 1,by omega,j+1,_,[(x9, .cells ((p8++beB 2 t).map zp) sp9 5)],by omega,rfl,?_,rfl,rfl⟩;rw[P9,←Uf,←U9];exact V9
        ·obtain rfl:j=row.length:=by omega
         rw[Te] at U9;rw[Te,←U9] at R2;obtain⟨x8,c8,sp8,rfl,rfl,Ea⟩:=R2.own Ko;have hE:=B6;try simp only[zzs] at hE
         repeat(obtain⟨J0,hE⟩:=hE)
         repeat' first
          |with_reducible first|refine Zd ?_ |refine Ae (fun _=>?_) fun _=>?_ |refine Nb fun nb A0 C0 B0=>?_ |refine Nr fun nb D0 E0 A0 I0 C0 B0=>?_
          |simp -dsimp -implicitDefEqProofs (disch:=first|exact Kd|fail) only[go_sem,↓reduceIte,seval, -He]
         refine Ce ⟨q - 1,by omega,k+1,_,[(x8, .cells (p8.map zp) sp8 5)],by omega,rfl,?_,rfl,rfl⟩;rw[T5,←U9];exact R2
      ·obtain rfl:k=d.next.length:=by omega
       have Cc:p6=zaK d:=by rw[hp6,hp5,hp,K6,D4,U2];rfl
       have W7:=zeb (zaK d);rw[Cc] at R2 E3 hc6 hp6l⊢;have R8:IntKind.i64.wrap ((zbv (zaK d):Nat):Int)=(zbv (zaK d):Nat):=wrap_i64 Ko Ko
       repeat' first
        |with_reducible first|refine Zd ?_ |refine Ae (fun _=>?_) fun _=>?_ |refine Nb fun nb A0 C0 B0=>?_ |refine Nr fun nb D0 E0 A0 I0 C0 B0=>?_
        |simp -dsimp -implicitDefEqProofs (disch:=first|exact Kd|fail) only[go_sem,↓reduceIte,seval, -He]
       refine zxB Ko ?_
       repeat' first
        |with_reducible first|refine Zd ?_ |refine Ae (fun _=>?_) fun _=>?_ |refine Nb fun nb A0 C0 B0=>?_ |refine Nr fun nb D0 E0 A0 I0 C0 B0=>?_
        |simp -dsimp -implicitDefEqProofs (disch:=first|exact Kd|fail) only[go_sem,↓reduceIte,seval, -He,R8]
       refine zeZ (many:=4) Ko Ko Ko R2 fun v9 kb9 V9 P6=>?_;obtain⟨x9,c9,sp9,rfl,rfl,hc9⟩:=V9.own (by rw[Ve];omega);have hE:=P6;try simp only[zzs] at hE
       repeat(obtain⟨J0,hE⟩:=hE)
       repeat' first
        |with_reducible first|refine Zd ?_ |refine Ae (fun _=>?_) fun _=>?_ |refine Nb fun nb A0 C0 B0=>?_ |refine Nr fun nb D0 E0 A0 I0 C0 B0=>?_
        |simp -dsimp -implicitDefEqProofs (disch:=first|exact Kd|fail) only[go_sem,↓reduceIte,seval, -He]
       unfold zo;refine Xf (H':=[(x9, .cells ((zaK d++beB 4 (zbv (zaK d))).map zp) sp9 5)]++H) Ks ?_;exact fun _ hs=>hR _ _ V9 hs
theorem zms (n:Nat):UInt8.ofNat (n % 256)=UInt8.ofNat n:=by
 apply UInt8.toNat_inj.1;rw[Sg,Sg];omega
theorem zkZ (n:Nat):[UInt8.ofNat (n / 256),UInt8.ofNat (n % 256)]=beB 2 n:=by rw[zji,zms]
theorem zxD (n:Nat):beB 4 n=beB 2 (n / 65536)++beB 2 (n % 65536):=by
 rw[zn2,zji,zji];have e1:n / 65536 / 256=n / 16777216:=by omega
 have e2:n % 65536 / 256=n / 256 % 256:=by omega
 have e3:UInt8.ofNat (n % 65536)=UInt8.ofNat n:=by
  apply UInt8.toNat_inj.1;rw[Sg,Sg];omega
 rw[e1,e2,e3,zms];rfl
theorem zqp {l:List Int} {c n:Nat} (hs:zbd l c=c) (hn:n≤256) (heq: ∀i,c≤i→i<n→l.getD i 0=l.getD c 0): ∀m,c+m<n→zbd l (c+m)=c∧zbj l (c+m)=zbj l c
 |0,_=>⟨hs,rfl⟩
 |m+1,h=>by
  obtain⟨h1,h2⟩:=zqp hs hn heq m Ko;have e1:=heq (c+m) Ko Ko;have e2:=heq (c+m+1) Ko Ko;refine⟨?_,?_⟩
  ·show zbd l (c+m+1)=c;rw[show zbd l (c+m+1)=if l.getD (c+m+1) 0≠l.getD (c+m) 0 then c+m+1 else zbd l (c+m) from rfl,if_neg (by rw[e1,e2];simp),h1]
  ·show zbj l (c+m+1)=_;rw[zes,h2];unfold emL;rw[if_neg (by rw[e1,e2];simp;omega),Bf]
theorem zqq {l:List Int} {c n:Nat} (hs:zbd l c=c) (hcn:c<n) (hn:n≤256) (heq: ∀i,c≤i→i<n→l.getD i 0=l.getD c 0) (I9:n=256∨l.getD n 0≠l.getD c 0):
  zbj l n=zbj l c++(beB 1 (l.getD c 0).toNat++beB 1 (n - c - 1))∧(n<256→zbd l n=n):=by
 obtain⟨m,rfl⟩: ∃m,n=c+m+1:=⟨n - c - 1,by omega⟩;obtain⟨h1,h2⟩:=zqp hs hn heq m Ko;have e1:=heq (c+m) Ko Ko;refine⟨?_,fun h=>?_⟩
 ·rw[zes,h2];unfold emL;rw[h1,e1,if_pos (by rcases I9 with h|h;exact Or.inl Ko;exact Or.inr h),show c+m+1 - c - 1=c+m - c by omega]
 ·rw[show zbd l (c+m+1)=if l.getD (c+m+1) 0≠l.getD (c+m) 0 then c+m+1 else zbd l (c+m) from rfl,e1,if_pos (I9.resolve_left Ko)]
theorem ztv {d:DfaT} (P0:zr d) (K0:zg d) {G:zb} {H:za} {R:Value→zb→za→Prop} {v:Value} (hv:IsD G d v) (hR: ∀v' kb',Buf v' kb' (zaI d)→Sep G (zm (kb'++H))→R v' G (kb'++H)):FnT Tryz.prog 17 [v] G H R:=by
 obtain⟨C,an,al,ay,cn,cl,cs,rs,rfl,O⟩:=hv.opened;obtain⟨U3,M2,V3,A4,M4⟩:=id P0;obtain⟨Y2,K2,U2,N3,X3,Y3,Y1⟩:=id K0;have N0:=O.len;have T0:=O.all;have J1:=O.n;have X0:=O.l;have S2:=O.s;have D1:=O.w;have hww:=zgZ K0 O.ofl;obtain⟨wd,hwd⟩:=Dg hww.1;rw[hwd] at D1;have B5:=ze0 K0;have O9:=zgI K0 O.ofl;have S7: ∀x:Value,Fe 4 x=[x,x,x,x]:=fun _=>rfl;have U1: ∀x:Value,Fe 1 x=[x]:=fun _=>rfl;have V1: ∀x:Value,Fe 2 x=[x,x]:=fun _=>rfl;have hby: ∀n:Nat,Yd .u8 (IntKind.u8.wrap ((n:Nat):Int))=zp (UInt8.ofNat n):=zjh;obtain⟨z0,hz0⟩: ∃z,IntKind.u8.wrap ((d.names.length:Nat):Int)=z:=⟨_,rfl⟩;refine Zf ?_;refine Ee tok zfm Tryz.func17 rfl Kk Kk Kn fun M0=>?_;rw[Tryz.results17];have hE:=M0;try simp only[zzs] at hE
 repeat(obtain⟨J0,hE⟩:=hE)
 repeat' first
  |with_reducible first|refine Zd ?_ |refine Ae (fun _=>?_) fun _=>?_ |refine Nb fun nb A0 C0 B0=>?_ |refine Nr fun nb D0 E0 A0 I0 C0 B0=>?_
  |simp -dsimp -implicitDefEqProofs (disch:=first|exact Kd|fail) only[go_sem,↓reduceIte,seval, -He,Ye,N0,T0,S2,S7,U1,hz0]
 rename_i b1 a1 a2 a3 b9 a4 a5 a6 b8 a7 a8 a9;obtain⟨l1,D4⟩: ∃l,l=zb6++beB 1 d.names.length:=⟨_,rfl⟩;have hl1l:l1.length=5:=by rw[D4,Ve,zX];rfl
 have hl1m:l1.map zp=[Yd .u8 68,Yd .u8 66,Yd .u8 76,Yd .u8 49,Yd .u8 z0]:=by
  rw[D4,zfJ,Ke,←hz0,hby];rfl
 have C1:=zdC d.names B5.2;obtain⟨x0,e0⟩: ∃x,x=nb:=⟨_,rfl⟩;subst e0;refine Je tok zfm Kk [1,2,3,4] (fun q G' fr H'=> ∃ (i:Nat) (v:Value) (kb:za),i+q=d.names.length∧G'=G∧Buf v kb (l1++zbc (d.names.take i))∧H'=kb++((b1, .cells C [] 27)::H)∧fr=[(1, .pointer (some ⟨b1,0,none⟩)),(2, .slice none 0 0),(3,v),(4, .int .i64 (i:Nat))]) (d.names.length) ?_ ?_
 ·exact Oe (H':=[(x0, .cells [Yd .u8 68,Yd .u8 66,Yd .u8 76,Yd .u8 49,Yd .u8 z0] D0 5)]++((b1, .cells C [] 27)::H)) Ks (Ce ⟨0,_,_,by omega,rfl,by rw[Se];show Buf _ _ (l1++[]);rw[Bf];exact .inr ⟨x0,E0,D0,by rw[hl1l],by rw[hl1m],by rw[Be,Gg],by rw[Be,hl1l];simp at I0⊢;omega⟩,rfl,rfl⟩)
 ·rintro q G1 fr H' S0 R0 ⟨i,v,kb,Q5,rfl,R2,rfl,rfl⟩;obtain⟨p,hp⟩: ∃p,p=l1++zbc (d.names.take i):=⟨_,rfl⟩;have N2:(zbc (d.names.take i)).length≤33 * (d.names.take i).length:=zdC _ fun x hx=>B5.2 x (List.mem_of_mem_take hx);rw[Ge] at N2;have J3:p.length≤5+33 * 64∧0<p.length:=by rw[hp,Ve];omega
  rw[←hp] at R2;obtain⟨x2,c2,sp2,rfl,rfl,J4⟩:=R2.own Ko;have hE:=R0;try simp only[zzs] at hE
  repeat(obtain⟨J0,hE⟩:=hE)
  by_cases Y0:i<d.names.length
  ·have B3:Adr ay:=O.ry.adr (by rw[Be];omega);have D3:=B5.2 _ (Me Y0);have T5:l1++zbc (d.names.take (i+1))=p++(beB 1 (d.names[i]).length++d.names[i]):=by rw[zjM _ Y0,hp];unfold zhQ;simp only[Uf]
   obtain⟨z,hz⟩: ∃z,IntKind.u8.wrap (((d.names[i]).length:Nat):Int)=z:=⟨_,rfl⟩;have hzm:(beB 1 (d.names[i]).length).map zp=[Yd .u8 z]:=by rw[zfJ,←hz,hby];rfl
   repeat' first
    |with_reducible first|refine Zd ?_ |refine Ae (fun _=>?_) fun _=>?_ |refine Nb fun nb A0 C0 B0=>?_ |refine Nr fun nb D0 E0 A0 I0 C0 B0=>?_
    |simp -dsimp -implicitDefEqProofs (disch:=first|exact Kd|fail) only[go_sem,↓reduceIte,seval, -He,U1,S2,N0,Ie O.ry,Le,hz,Be]
    |with_reducible refine Tri.drawS tok mixed zfm 5 [2,5,11,14] (.op 0 .plain (.op 1 .plain (.op 2 .held (.op 3 .plain (.op 4 .plain (.op 5 .held (.op 6 .plain (.op 7 .plain (.op 10 .plain (.op 11 .held (.op 12 .plain (.op 13 .plain (.op 14 .held (.op 8 .keeps (.op 9 .keeps (.op 15 .keeps (.op 16 .plain .nil))))))))))))))))) Kk [(b1, .cells C [] 27)] Ks ?_
   refine Oe (H':=[(nb, .cells (p.map zp++[Yd .u8 z]++(d.names[i]).map zp) D0 5)]++((b1, .cells C [] 27)::H)) Ks (Ce ⟨q - 1,by omega,i+1,_,_,by omega,rfl,?_,rfl,rfl⟩);rw[T5];exact .inr ⟨nb,E0,D0,by rw[Ve,Ve,zX,Nat.add_assoc],by rw[Ke,Ke,hzm,Uf],by simp,by simp [zX] at I0⊢;omega⟩
  ·obtain rfl:i=d.names.length:=by omega
   rw[Te] at hp
   repeat' first
    |with_reducible first|refine Zd ?_ |refine Ae (fun _=>?_) fun _=>?_ |refine Nb fun nb A0 C0 B0=>?_ |refine Nr fun nb D0 E0 A0 I0 C0 B0=>?_
    |simp -dsimp -implicitDefEqProofs (disch:=first|exact Kd|fail) only[go_sem,↓reduceIte,seval, -He,S2,N0]
   refine Je tok zfm Kk [1,2,3,5] (fun q G' fr H'=> ∃ (c:Nat) (v:Value) (kb:za),c+q=256∧G'=G1∧(c<256→zbd d.of c=c)∧Buf v kb (p++zbj d.of c)∧H'=kb++((b1, .cells C [] 27)::H)∧fr=[(1, .pointer (some ⟨b1,0,none⟩)),(2, .slice none 0 0),(3,v),(5, .int .i64 (c:Nat))]) (256) ?_ ?_
   ·exact Ce ⟨0,_,[(x2, .cells (p.map zp) sp2 5)],by omega,rfl,fun _=>rfl,by show Buf _ _ (p++[]);rw[Bf];exact R2,rfl,rfl⟩
   ·rintro q G2 fr H' A1 S1 ⟨c,v,kb,hcq,rfl,N1,R2,rfl,rfl⟩;have I2:=zgH d.of c;obtain⟨p1,K6⟩: ∃p1,p1=p++zbj d.of c:=⟨_,rfl⟩;have hp1l:p1.length≤5+33 * 64+512∧0<p1.length:=by rw[K6,Ve];omega
    rw[←K6] at R2;obtain⟨x3,c3,sp3,rfl,rfl,H9⟩:=R2.own Ko;have hE:=S1;try simp only[zzs] at hE
    repeat(obtain⟨J0,hE⟩:=hE)
    by_cases V2:c<256
    ·have N1:=N1 V2;obtain⟨y,hy1,hy2,hy3⟩:=O.ofAt V2
     repeat' first
      |with_reducible first|refine Zd ?_ |refine Ae (fun _=>?_) fun _=>?_ |refine Nb fun nb A0 C0 B0=>?_ |refine Nr fun nb D0 E0 A0 I0 C0 B0=>?_
      |simp -dsimp -implicitDefEqProofs (disch:=first|exact Kd|fail) only[go_sem,↓reduceIte,seval, -He,N0]
     refine Je tok zfm Kk [1,2,3,5,6] (fun q2 G' fr H'=> ∃ (n:Nat),n+q2=256∧c≤n∧G'=G2∧(∀i,c≤i→i<n→d.of.getD i 0=d.of.getD c 0)∧H'=(x3, .cells (p1.map zp) sp3 5):: (b1, .cells C [] 27)::H∧fr=[(1, .pointer (some ⟨b1,0,none⟩)),(2, .slice none 0 0),(3, .slice (some ⟨x3,0,none⟩) p1.length c3),(5, .int .i64 (c:Nat)),(6, .int .i64 (n:Nat))]) ((256 - c)) ?_ ?_
     ·exact Ce ⟨c,by omega,Qe _,rfl,fun i h1 h2=>by omega,rfl,rfl⟩
     ·rintro q2 G3 fr H' Z1 P1 ⟨n,hnq,hcn,rfl,heq,rfl,rfl⟩;have hE:=P1;try simp only[zzs] at hE
      repeat(obtain⟨J0,hE⟩:=hE)
      by_cases hgo:n<256∧d.of.getD n 0=d.of.getD c 0
      ·obtain⟨hn,hge⟩:=hgo;obtain⟨z,hz1,W6,hz3⟩:=O.ofAt hn;have hzy:z=y:=by rw[W6,hy2] at hge;omega
       subst hzy
       repeat' first
        |with_reducible first|refine Zd ?_ |refine Ae (fun _=>?_) fun _=>?_ |refine Nb fun nb A0 C0 B0=>?_ |refine Nr fun nb D0 E0 A0 I0 C0 B0=>?_
        |with_reducible refine Vf tok mixed zfm 9 [6,10] (.op 0 .plain (.op 1 .plain (.op 2 .plain (.op 3 .plain (.op 4 .plain (.op 5 .plain (.op 6 .held (.op 7 .plain (.op 8 .plain (.op 9 .plain (.op 10 .held (.op 11 .plain (.op 12 .plain .nil))))))))))))) Kk [1] ?_
        |simp -dsimp -implicitDefEqProofs (disch:=first|exact Kd|fail) only[go_sem,↓reduceIte,seval, -He,N0,hy3,hz3]
       exact Ce ⟨q2 - 1,by omega,n+1,by omega,by omega,rfl,fun i h1 h2=>by
        by_cases e:i=n
        ·subst e;exact hge
        ·exact heq i h1 Ko,rfl,rfl⟩
      ·have Q4:c<n:=by
        rcases Eg c n with h|h
        ·exact h
        ·obtain rfl:n=c:=by omega
         exact absurd ⟨V2,rfl⟩ hgo
       have I9:n=256∨d.of.getD n 0≠d.of.getD c 0:=by
        by_cases h:n=256
        ·exact Or.inl h
        ·exact Or.inr fun h2=>hgo ⟨by omega,h2⟩
       obtain⟨Gb,Xc⟩:=zqq N1 Q4 Ko heq I9;rw[hy2,Yf] at Gb;have L6:((n:Nat):Int) - (c:Nat) - 1=((n - c - 1 :Nat):Int):=by omega
       obtain⟨w1,E5⟩: ∃z,IntKind.u8.wrap ((n - c - 1 :Nat):Int)=z:=⟨_,rfl⟩
       have hwm:(beB 1 y++beB 1 (n - c - 1)).map zp=[Yd .u8 (y:Nat),Yd .u8 w1]:=by
        rw[zfJ,zfJ,Ke,←E5,hby]
        have:zp (UInt8.ofNat y)=Yd .u8 (y:Nat):=by
         rw[←hby,zeE (k:= .u8) rfl (by show y<256;exact hy1)]
        show[zp (UInt8.ofNat y)]++_=_;rw[this];rfl
       by_cases h256:n<256
       ·obtain⟨z,hz1,W6,hz3⟩:=O.ofAt h256;have hzy: ¬(z:Int)=y:=by rcases I9 with h|h;omega;rw[W6,hy2] at h;exact h
        repeat' first
         |with_reducible first|refine Zd ?_ |refine Ae (fun _=>?_) fun _=>?_ |refine Nb fun nb A0 C0 B0=>?_ |refine Nr fun nb D0 E0 A0 I0 C0 B0=>?_
         |with_reducible refine Vf tok mixed zfm 9 [6,10] (.op 0 .plain (.op 1 .plain (.op 2 .plain (.op 3 .plain (.op 4 .plain (.op 5 .plain (.op 6 .held (.op 7 .plain (.op 8 .plain (.op 9 .plain (.op 10 .held (.op 11 .plain (.op 12 .plain .nil))))))))))))) Kk [1] ?_
         |simp -dsimp -implicitDefEqProofs (disch:=first|exact Kd|fail) only[go_sem,↓reduceIte,seval, -He,N0,hy3,hz3,L6,V1,E5]
        refine Oe (H':=[(nb, .cells (p1.map zp++[Yd .u8 (y:Nat),Yd .u8 w1]) D0 5)]++((b1, .cells C [] 27)::H)) Ks (Ce ⟨256 - n,by omega,n,_,_,by omega,rfl,Xc,?_,rfl,rfl⟩);rw[Gb,←Uf,←K6];exact .inr ⟨nb,E0,D0,by rw[Ve,Ve,zX,zX],by rw[Ke,hwm],by simp [zX],by simp [zX] at I0⊢;omega⟩
       ·obtain rfl:n=256:=by omega
        have Sd:(256 :Int) - (c:Nat) - 1=((256 - c - 1 :Nat):Int):=by omega
        repeat' first
         |with_reducible first|refine Zd ?_ |refine Ae (fun _=>?_) fun _=>?_ |refine Nb fun nb A0 C0 B0=>?_ |refine Nr fun nb D0 E0 A0 I0 C0 B0=>?_
         |with_reducible refine Vf tok mixed zfm 9 [6,10] (.op 0 .plain (.op 1 .plain (.op 2 .plain (.op 3 .plain (.op 4 .plain (.op 5 .plain (.op 6 .held (.op 7 .plain (.op 8 .plain (.op 9 .plain (.op 10 .held (.op 11 .plain (.op 12 .plain .nil))))))))))))) Kk [1] ?_
         |simp -dsimp -implicitDefEqProofs (disch:=first|exact Kd|fail) only[go_sem,↓reduceIte,seval, -He,N0,hy3,L6,Sd,V1,E5]
        refine Oe (H':=[(nb, .cells (p1.map zp++[Yd .u8 (y:Nat),Yd .u8 w1]) D0 5)]++((b1, .cells C [] 27)::H)) Ks (Ce ⟨0,by omega,256,_,_,by omega,rfl,Xc,?_,rfl,rfl⟩);rw[Gb,←Uf,←K6];exact .inr ⟨nb,E0,D0,by rw[Ve,Ve,zX,zX],by rw[Ke,hwm],by simp [zX],by simp [zX] at I0⊢;omega⟩
    ·obtain rfl:c=256:=by omega
     have hlsub:((d.label.length:Nat):Int) - 1=((d.label.length - 1 :Nat):Int):=by omega
     repeat' first
      |with_reducible first|refine Zd ?_ |refine Ae (fun _=>?_) fun _=>?_ |refine Nb fun nb A0 C0 B0=>?_ |refine Nr fun nb D0 E0 A0 I0 C0 B0=>?_
      |with_reducible refine Vf tok mixed zfm 9 [6,10] (.op 0 .plain (.op 1 .plain (.op 2 .plain (.op 3 .plain (.op 4 .plain (.op 5 .plain (.op 6 .held (.op 7 .plain (.op 8 .plain (.op 9 .plain (.op 10 .held (.op 11 .plain (.op 12 .plain .nil))))))))))))) Kk [1] ?_
      |simp -dsimp -implicitDefEqProofs (disch:=first|exact Kd|fail) only[go_sem,↓reduceIte,seval, -He,N0,X0,hlsub]
     refine zkS (n:=d.label.length - 1) Ko Ko R2 fun v5 kb5 Bc P1=>?_;rw[zkZ] at Bc;obtain⟨p5,hp5⟩: ∃p5,p5=p1++beB 2 (d.label.length - 1):=⟨_,rfl⟩;have hp5l:p5.length=p1.length+2:=by rw[hp5,Ve,zX]
     rw[←hp5] at Bc;obtain⟨x5,c5,sp5,rfl,rfl,hc5⟩:=Bc.own Ko;have hE:=P1;try simp only[zzs] at hE
     repeat(obtain⟨J0,hE⟩:=hE)
     repeat' first
      |with_reducible first|refine Zd ?_ |refine Ae (fun _=>?_) fun _=>?_ |refine Nb fun nb A0 C0 B0=>?_ |refine Nr fun nb D0 E0 A0 I0 C0 B0=>?_
      |with_reducible refine Vf tok mixed zfm 9 [6,10] (.op 0 .plain (.op 1 .plain (.op 2 .plain (.op 3 .plain (.op 4 .plain (.op 5 .plain (.op 6 .held (.op 7 .plain (.op 8 .plain (.op 9 .plain (.op 10 .held (.op 11 .plain (.op 12 .plain .nil))))))))))))) Kk [1] ?_
      |simp -dsimp -implicitDefEqProofs (disch:=first|exact Kd|fail) only[go_sem,↓reduceIte,seval, -He,N0,X0]
     have La:=O.rnl;refine Je tok zfm Kk [1,2,3,7] (fun q G' fr H'=> ∃ (k:Nat) (v:Value) (kb:za),k+q=d.label.length∧G'=G2∧Buf v kb (p5++zbV d k)∧H'=kb++((b1, .cells C [] 27)::H)∧fr=[(1, .pointer (some ⟨b1,0,none⟩)),(2, .slice none 0 0),(3,v),(7, .int .i64 (k:Nat))]) (d.label.length) ?_ ?_
     ·exact Ce ⟨0,_,[(x5, .cells (p5.map zp) sp5 5)],by omega,rfl,by show Buf _ _ (p5++[]);rw[Bf];exact Bc,rfl,rfl⟩
     ·rintro q G3 fr H' Z1 E3 ⟨k,v,kb,hkq,rfl,R2,rfl,rfl⟩;obtain⟨p6,hp6⟩: ∃p6,p6=p5++zbV d k:=⟨_,rfl⟩;have Gc:=ze1 K0 O.ofl k Ko;have hp6l:p6.length≤50000000∧0<p6.length:=by rw[hp6,Ve];omega
      rw[←hp6] at R2;obtain⟨x6,c6,sp6,rfl,rfl,hc6⟩:=R2.own Ko;have hE:=E3;try simp only[zzs] at hE
      repeat(obtain⟨J0,hE⟩:=hE)
      by_cases hkl2:k<d.label.length
      ·have Q2:k<d.next.length:=by omega
       have B3:Adr an:=O.rn.adr Ko;obtain⟨b,cc,e1,e2,e3⟩:=O.rs k Q2 Ko;obtain⟨E5,F7,C8,D6⟩:=Y1 k Q2 Ko;have V6:Adr al:=O.rl.adr (by rw[Be];omega);obtain⟨lb,D9⟩:=Dg F7;have Ma:=zoe Q2 hkl2;rw[D9,Yf] at Ma;obtain⟨row,U0⟩: ∃row,row=d.next[k]:=⟨_,rfl⟩;rw[←U0] at e1 e2 e3 E5 D6 Ma;have hrw:row.length=wd:=by omega
       obtain⟨z,hz⟩: ∃z,IntKind.u8.wrap ((lb:Nat):Int)=z:=⟨_,rfl⟩;have hzm:(beB 1 lb).map zp=[Yd .u8 z]:=by rw[zfJ,←hz,hby];rfl
       have T5:p5++zbV d (k+1)=(p6++beB 1 lb)++zc5 row:=by rw[zf4,Ma,hp6];simp only[Uf]
       repeat' first
        |with_reducible first|refine Zd ?_ |refine Ae (fun _=>?_) fun _=>?_ |refine Nb fun nb A0 C0 B0=>?_ |refine Nr fun nb D0 E0 A0 I0 C0 B0=>?_
        |simp -dsimp -implicitDefEqProofs (disch:=first|exact Kd|fail) only[go_sem,↓reduceIte,seval, -He,U1,N0,X0,Ie O.rl,Le,D9,hz]
       obtain⟨p7,hp7⟩: ∃p7,p7=p6++beB 1 lb:=⟨_,rfl⟩;have hp7l:p7.length=p6.length+1:=by rw[hp7,Ve,zX]
       rw[←hp7] at T5;obtain⟨x7,e0⟩: ∃x,x=nb:=⟨_,rfl⟩;subst e0;have Qb:Buf (.slice (some ⟨x7,0,none⟩) (p6.length+1) E0) [(x7, .cells (p6.map zp++[Yd .u8 z]) D0 5)] p7:= .inr ⟨x7,E0,D0,by rw[hp7l],by rw[hp7,Ke,hzm],by simp [hp7,zX],by simp [hp7,zX] at I0⊢;omega⟩;refine Je tok zfm Kk [1,2,3,7,8] (fun q2 G' fr H'=> ∃ (j:Nat) (v:Value) (kb:za),j+q2=wd∧G'=G3∧Buf v kb (p7++zc5 (row.take j))∧H'=kb++((b1, .cells C [] 27)::H)∧fr=[(1, .pointer (some ⟨b1,0,none⟩)),(2, .slice none 0 0),(3,v),(7, .int .i64 (k:Nat)),(8, .int .i64 (j:Nat))]) (wd) ?_ ?_
       ·exact Oe (H':=[(x7, .cells (p6.map zp++[Yd .u8 z]) D0 5)]++((b1, .cells C [] 27)::H)) Ks (Ce ⟨0,_,_,by omega,rfl,by rw[Se];show Buf _ _ (p7++[]);rw[Bf];exact Qb,rfl,rfl⟩)
       ·rintro q2 G4 fr H' A2 B6 ⟨j,v,kb,hjq,rfl,R2,rfl,rfl⟩;have I2:=zhR (row.take j);rw[Ge] at I2;obtain⟨p8,U9⟩: ∃p8,p8=p7++zc5 (row.take j):=⟨_,rfl⟩;have hp8l:p8.length≤100000000∧0<p8.length:=by rw[U9,Ve];omega
        by_cases U4:j<row.length
        ·have hadb:Adr b:=e2.adr (by rw[Be];omega);have ht:=D6 _ (Me U4);obtain⟨t,L1⟩:=Dg ht.1;have P9:=zmr row U4;rw[L1,Yf] at P9;rw[←U9] at R2;obtain⟨x8,c8,sp8,rfl,rfl,Ea⟩:=R2.own Ko;have hE:=B6;try simp only[zzs] at hE
         repeat(obtain⟨J0,hE⟩:=hE)
         repeat' first
          |with_reducible first|refine Zd ?_ |refine Ae (fun _=>?_) fun _=>?_ |refine Nb fun nb A0 C0 B0=>?_ |refine Nr fun nb D0 E0 A0 I0 C0 B0=>?_
          |simp -dsimp -implicitDefEqProofs (disch:=first|exact Kd|fail) only[go_sem,↓reduceIte,seval, -He,N0,J1,D1,Ie O.rn,e1,Ie e2,Le,L1]
         refine zkS (n:=t) Ko Ko R2 fun v9 kb9 V9 P6=>?_;rw[zkZ] at V9;obtain⟨x9,c9,sp9,rfl,rfl,hc9⟩:=V9.own (by rw[Ve];omega);have hE:=P6;try simp only[zzs] at hE
         repeat(obtain⟨J0,hE⟩:=hE)
         repeat' first
          |with_reducible first|refine Zd ?_ |refine Ae (fun _=>?_) fun _=>?_ |refine Nb fun nb A0 C0 B0=>?_ |refine Nr fun nb D0 E0 A0 I0 C0 B0=>?_
          |simp -dsimp -implicitDefEqProofs (disch:=first|exact Kd|fail) only[go_sem,↓reduceIte,seval, -He]
         refine Ce ⟨q2 - 1,by omega,j+1,_,[(x9, .cells ((p8++beB 2 t).map zp) sp9 5)],by omega,rfl,?_,rfl,rfl⟩;rw[P9,←Uf,←U9];exact V9
        ·have hjw:j=wd:=by omega
         subst hjw;rw[←hrw,Te] at U9;rw[←hrw,Te,←U9] at R2;obtain⟨x8,c8,sp8,rfl,rfl,Ea⟩:=R2.own Ko;have hE:=B6;try simp only[zzs] at hE
         repeat(obtain⟨J0,hE⟩:=hE)
         repeat' first
          |with_reducible first|refine Zd ?_ |refine Ae (fun _=>?_) fun _=>?_ |refine Nb fun nb A0 C0 B0=>?_ |refine Nr fun nb D0 E0 A0 I0 C0 B0=>?_
          |simp -dsimp -implicitDefEqProofs (disch:=first|exact Kd|fail) only[go_sem,↓reduceIte,seval, -He,N0,D1]
         refine Ce ⟨q - 1,by omega,k+1,_,[(x8, .cells (p8.map zp) sp8 5)],by omega,rfl,?_,rfl,rfl⟩;rw[T5,←U9];exact R2
      ·obtain rfl:k=d.label.length:=by omega
       have Cc:p6=zaK d:=by rw[hp6,hp5,K6,hp,D4];rfl
       have W7:=zeb (zaK d);rw[Cc] at R2 E3 hc6 hp6l⊢;have R8:IntKind.i64.wrap ((zbv (zaK d):Nat):Int)=(zbv (zaK d):Nat):=wrap_i64 Ko Ko
       repeat' first
        |with_reducible first|refine Zd ?_ |refine Ae (fun _=>?_) fun _=>?_ |refine Nb fun nb A0 C0 B0=>?_ |refine Nr fun nb D0 E0 A0 I0 C0 B0=>?_
        |simp -dsimp -implicitDefEqProofs (disch:=first|exact Kd|fail) only[go_sem,↓reduceIte,seval, -He,N0,X0]
       refine zxC Ko ?_;generalize hS:zbv (zaK d)=S at *;have hdv:((S:Nat):Int) / 65536=((S / 65536 :Nat):Int):=rfl;have hmd:((S:Nat):Int) % 65536=((S % 65536 :Nat):Int):=rfl
       repeat' first
        |with_reducible first|refine Zd ?_ |refine Ae (fun _=>?_) fun _=>?_ |refine Nb fun nb A0 C0 B0=>?_ |refine Nr fun nb D0 E0 A0 I0 C0 B0=>?_
        |simp -dsimp -implicitDefEqProofs (disch:=first|exact Kd|fail) only[go_sem,↓reduceIte,seval, -He,R8,hdv,hmd]
       refine zkS (n:=S / 65536) Ko Ko R2 fun v7 kb7 Qb B4=>?_;rw[zkZ] at Qb;obtain⟨x7,c7,sp7,rfl,rfl,hc7⟩:=Qb.own (by rw[Ve];omega);have hE:=B4;try simp only[zzs] at hE
       repeat(obtain⟨J0,hE⟩:=hE)
       repeat' first
        |with_reducible first|refine Zd ?_ |refine Ae (fun _=>?_) fun _=>?_ |refine Nb fun nb A0 C0 B0=>?_ |refine Nr fun nb D0 E0 A0 I0 C0 B0=>?_
        |simp -dsimp -implicitDefEqProofs (disch:=first|exact Kd|fail) only[go_sem,↓reduceIte,seval, -He,R8,hdv,hmd]
       refine zkS (n:=S % 65536) (by rw[Ve,zX];omega) Ko Qb fun v9 kb9 V9 P6=>?_;rw[zkZ,Uf,←zxD,←hS] at V9;obtain⟨x9,c9,sp9,rfl,rfl,hc9⟩:=V9.own (by rw[Ve];omega);have hE:=P6;try simp only[zzs] at hE
       repeat(obtain⟨J0,hE⟩:=hE)
       repeat' first
        |with_reducible first|refine Zd ?_ |refine Ae (fun _=>?_) fun _=>?_ |refine Nb fun nb A0 C0 B0=>?_ |refine Nr fun nb D0 E0 A0 I0 C0 B0=>?_
        |simp -dsimp -implicitDefEqProofs (disch:=first|exact Kd|fail) only[go_sem,↓reduceIte,seval, -He]
       unfold zo;refine Xf (H':=[(x9, .cells ((zaK d++beB 4 (zbv (zaK d))).map zp) sp9 5)]++H) Ks ?_;exact fun _ hs=>hR _ _ V9 hs
theorem DfaT.ext2 {d e:DfaT} (h1:d.of=e.of) (h2:d.width=e.width) (h3:d.next=e.next) (h4:d.label=e.label) (h5:d.names=e.names):d=e:=by
 cases d;cases e;simp only at h1 h2 h3 h4 h5;subst h1 h2 h3 h4 h5;rfl
def zcU (d:DfaT) (k:Int):List UInt8:=if 0<k then d.names.getD (k - 1).toNat [] else[]
end Go.Proofs.YtomdbjfdbkejoaaGreatDoor
