/- A part of the proof, joined of several texts: the verification layer, contracts of functions, plain law. -/
import Derived.Test.YtomdbjfdbkejoaaGreatDoorU9
set_option maxHeartbeats 64000000
set_option linter.unusedSimpArgs false
set_option linter.unusedVariables false
set_option linter.unusedSectionVars false
open Go.V.Nx renaming go→Zd
open Go.V.Bk renaming go→Ae
open Go.V.Upd renaming now→Ce,go→Oe,leave→Xf,shareRow→Jf,finL→De
open Go.Value renaming int→Yd,slice→Wf
open List renaming length_map→Be,reduceReplicate→He,toList_toArray→Ye,getElem_map→Le,getElem_mem→Me,range→Hg,replicate→Fe,length_append→Ve,getElem?_eq_getElem→Xe,replicate_one→Zh,map_append→Ke,getD_eq_getElem?_getD→Fg,getElem_append_left→Ag,take_zero→Se,length_take→Ge,ext_getElem→Tg,length_singleton→Bg,take→Hf,take_succ_eq_append_getElem→Re,mem_singleton→Vg,replicate_zero→Wh,take_of_length_le→Pe,getElem_range→Ci,eq_nil_of_length_eq_zero→Df,length_range→Qh,mem_append→Ug,mem_cons_self→Jh,getElem_of_mem→Ue,take_length→Te,take_append_of_le_length→Tf,drop_of_length_le→Gf,nil_append→Af,getElem_append_right→Ng,nodup_append→Gi,append_nil→Bf,range_succ→Sf,any_eq_true→Ii,append_assoc→Uf,mem_cons_of_mem→Oh,length_replicate→We
open Go.V.Row renaming obj→Ie
open Go.V.Tri renaming run→Yg,live→Ch,loopU→Je,piece→Xg,isPiece→Ah,drawH→Vf,drawS→Wg
open Int renaming toNat_natCast→Yf,eq_ofNat_of_zero_le→Dg
open Go.V.FnT renaming body→Ee,sep→Zf
open Nat renaming sub_self→Og,lt_or_ge→Eg,le_refl→Qe,exists_eq_add_of_le→Di,zero_le→Pg
open Bool renaming eq_iff_iff→Lf,false_or→Fi,false_ne_true→Hi
open Classical renaming byContradiction→Zg,propDecidable→Mf
open Option renaming getD_some→Ei
namespace Go.Proofs.YtomdbjfdbkejoaaGreatDoor
abbrev zoz:List Nat:=[0,1,2,3,5,6,8,9,11,16,17,18,19,29,38,44,45,46,47,53]
abbrev zvQ:List Nat:=[0,1,2,3,4,7,13,14]
abbrev zvR:List Nat:=[0,1,4,5,6,7,8,10,26,37]
abbrev zr1:List Nat:=[0,1,4,5,6,7,8,12,13,14,15,32]
abbrev zdH:List Nat:=[0,1,2,4,5,6,7,8,10,11,12,13,16,27,37,38,39,40,50,51,52,53,61]
abbrev zlW:List Nat:=[0,1,2,3,4,5,12]
abbrev zyP:List Nat:=[0,1,4,10]
abbrev zyQ:List Nat:=[0,2,3,7,16]
abbrev ziV:List Nat:=[0,1,2,3,4,5,6,7,37,42,51,54,67,70,100,104,127]
abbrev zbe:List Nat:=[0,1,2,4,5,6,7,8,9,10,11,12,13,14,15,16,23,29,52,58,72,77,93,134]
open Go Go.V Go.Proofs
theorem zkj (l:List Int) (X1:l.length≤2000000) {G:zb} {H:za} {R:Value→zb→za→Prop} {v:Value} (hv:Sl G (Yd .i64) v l)
  (hR: ∀v' kb,Sep G (zm (kb++H))→zO [] 3 1 v' l.length (l.map (Yd .i64)) kb→R v' G (kb++H)):FnT Tryz.prog 69 [v] G H R:=by
 obtain⟨a,cap,rfl,U0,D5⟩:=hv;refine Zf ?_;rcases a with _|a
 ·have h0:l=[]:=Df (by
   rcases Nat.eq_zero_or_pos l.length with h|h
   ·exact h
   ·have:=U0.adr (by rw[Be];exact h);cases this)
  subst h0;refine Ee tok [0,2,4] Tryz.func69 rfl Kk Kk Kn fun M0=>?_;rw[Tryz.results69];have hE:=M0;try simp only[zzs] at hE
  repeat(obtain⟨J0,hE⟩:=hE)
  repeat' first
   |with_reducible first|refine Zd ?_ |refine Ae (fun _=>?_) fun _=>?_ |refine Nb fun nb A0 C0 B0=>?_ |refine Nr fun nb D0 E0 A0 I0 C0 B0=>?_
   |simp -dsimp -implicitDefEqProofs (disch:=first|exact Kd|fail) only[go_sem,↓reduceIte,seval]
  unfold zo;exact Oe (H':=H) Ks (Ce fun S0 hs=>hR _ [] hs (.inl ⟨none,rfl,rfl,rfl,rfl⟩))
 ·refine Ee tok [0,2,4] Tryz.func69 rfl Kk Kk Kn fun M0=>?_;rw[Tryz.results69];have hE:=M0;try simp only[zzs] at hE
  repeat(obtain⟨J0,hE⟩:=hE)
  repeat' first
   |with_reducible first|refine Zd ?_ |refine Ae (fun _=>?_) fun _=>?_ |refine Nb fun nb A0 C0 B0=>?_ |refine Nr fun nb D0 E0 A0 I0 C0 B0=>?_
   |simp -dsimp -implicitDefEqProofs (disch:=first|exact Kd|fail) only[go_sem,↓reduceIte,seval,Row.rdSlAll U0,Be]
  ·rename_i h0;have h0:l=[]:=Df h0;subst h0;unfold zo;exact Oe (H':=H) Ks (Ce fun S0 hs=>hR _ [] hs (.inl ⟨_,rfl,rfl,rfl,rfl⟩))
  ·unfold zo;exact Oe (H':=(nb, .cells (l.map (Yd .i64)) D0 3)::H) Ks (Ce fun S0 hs=>hR _ [(nb, .cells (l.map (Yd .i64)) D0 3)] hs (.inr ⟨nb,E0,D0,rfl,rfl,by rw[Be];omega,by rw[Be];omega⟩))
def add1 (W:List Int) (t:Int):List Int:=if t∈W then W else W++[t]
def addN (W ts:List Int):List Int:=ts.foldl add1 W
theorem zga (W:List Int):addN W []=W:=rfl
theorem zdo (W:List Int) (t:Int) (ts:List Int):addN W (t::ts)=addN (add1 W t) ts:=rfl
theorem ztT (W ts:List Int) (t:Int):addN W (ts++[t])=add1 (addN W ts) t:=by unfold addN;rw[List.foldl_append];rfl
theorem zmy (W ts:List Int) {i:Nat} (h:i<ts.length):addN W (ts.take (i+1))=add1 (addN W (ts.take i)) ts[i]:=by rw[Re h,ztT]
theorem zeM {W:List Int} {t x:Int}:x∈add1 W t↔x∈W∨x=t:=by
 unfold add1;split
 ·rename_i h;constructor
  ·exact .inl
  ·rintro(h1|rfl)
   ·exact h1
   ·exact h
 ·rw[Ug,Vg]
theorem zvS (W:List Int) (t:Int): ∃X,add1 W t=W++X:=by
 unfold add1;split
 ·exact⟨[],by simp⟩
 ·exact⟨[t],rfl⟩
theorem zgb: ∀ (ts W:List Int),∃X,addN W ts=W++X
 | [],W=>⟨[],by simp [zga]⟩
 |t::ts,W=>by
  obtain⟨X,h1⟩:=zvS W t;obtain⟨Y,h2⟩:=zgb ts (add1 W t);exact⟨X++Y,by rw[zdo,h2,h1,Uf]⟩
theorem zh1 {x:Int}: ∀ {ts W:List Int},x∈addN W ts↔x∈W∨x∈ts
 | [],W=>by simp [zga]
 |t::ts,W=>by rw[zdo,zh1,zeM,List.mem_cons,or_assoc]
def zaL (n:Nat) (W:List Int):Prop:=W.Nodup∧ ∀x∈W,0≤x∧x<n
theorem zaL.len: ∀ {n:Nat} {W:List Int},zaL n W→W.length≤n
 |0,W,h=>by
  rcases W with _| ⟨x,W⟩
  ·exact Qe _
  ·have:=h.2 x (Jh ..);omega
 |n+1,W,h=>by
  have h1:zaL n (W.erase (n:Int)):=⟨h.1.erase _,fun x hx=>by
   have h2:=(h.1.mem_erase_iff.1 hx);have h3:=h.2 x h2.2;omega⟩
  have h2:=zaL.len h1;have h3:=List.length_erase (a:=(n:Int)) (l:=W);split at h3 <;> omega
theorem zaL.add1 {n:Nat} {W:List Int} (h:zaL n W) {t:Int} (ht:0≤t∧t<n):zaL n (add1 W t):=by
 refine⟨?_,fun x hx=>?_⟩
 ·unfold Proofs.YtomdbjfdbkejoaaGreatDoor.add1;split
  ·exact h.1
  ·rename_i hn;rw[Gi];exact⟨h.1,by simp,fun a ha b hb=>by rw[Vg] at hb;subst hb;exact fun e=>hn (e▸ha)⟩
 ·rcases zeM.1 hx with h1|rfl
  ·exact h.2 x h1
  ·exact ht
theorem zaL.addN {n:Nat}: ∀ {ts W:List Int},zaL n W→(∀t∈ts,0≤t∧t<n)→zaL n (addN W ts)
 | [],_,h,_=>h
 |t::ts,_,h,ht=>zaL.addN (ts:=ts) (h.add1 (ht t (Jh ..))) fun x hx=>ht x (Oh _ hx)
def bw (on:Int→List Int) (W0:List Int):Nat→List Int
 |0=>W0
 |i+1=>match (bw on W0 i)[i]? with
  |some s=>addN (bw on W0 i) (on s)
  |none=>bw on W0 i
theorem zc3 {on:Int→List Int} {W0:List Int} {i:Nat} (h:i< (bw on W0 i).length):bw on W0 (i+1)=addN (bw on W0 i) (on (bw on W0 i)[i]):=by
 show(match (bw on W0 i)[i]? with|some s=>_|none=>_)=_;rw[Xe h]
theorem zhj {on:Int→List Int} {W0:List Int} {i:Nat} (h:(bw on W0 i).length≤i):bw on W0 (i+1)=bw on W0 i:=by
 show(match (bw on W0 i)[i]? with|some s=>_|none=>_)=_;rw[List.getElem?_eq_none h]
theorem ztU (on:Int→List Int) (W0:List Int) (i:Nat): ∃X,bw on W0 (i+1)=bw on W0 i++X:=by
 rcases Eg i (bw on W0 i).length with h|h
 ·rw[zc3 h];exact zgb _ _
 ·rw[zhj h];exact⟨[],by simp⟩
theorem zfO (on:Int→List Int) (W0:List Int) (i:Nat): ∀j,∃X,bw on W0 (i+j)=bw on W0 i++X
 |0=>⟨[],by simp⟩
 |j+1=>by
  obtain⟨X,h1⟩:=zfO on W0 i j;obtain⟨Y,h2⟩:=ztU on W0 (i+j);exact⟨X++Y,by rw[←Nat.add_assoc,h2,h1,Uf]⟩
theorem zec {on:Int→List Int} {W0:List Int} {n:Nat} (h0:zaL n W0) (R7: ∀s:Int,0≤s→s<n→ ∀t∈on s,0≤t∧t<n): ∀i,zaL n (bw on W0 i)
 |0=>h0
 |i+1=>by
  rcases Eg i (bw on W0 i).length with h|h
  ·rw[zc3 h];have h1:=zec h0 R7 i;have h2:=h1.2 _ (Me h);exact h1.addN (R7 _ h2.1 h2.2)
  ·rw[zhj h];exact zec h0 R7 i
theorem zeN {on:Int→List Int} {W0:List Int} {i:Nat} (h:(bw on W0 i).length≤i): ∀j,bw on W0 (i+j)=bw on W0 i
 |0=>rfl
 |j+1=>by
  rw[←Nat.add_assoc,zhj (by rw[zeN h j];omega),zeN h j]
def zjn (on:Int→List Int) (n:Nat) (W0:List Int):List Int:=bw on W0 n
theorem zoA {on:Int→List Int} {W0:List Int} {n i:Nat} (h0:zaL n W0) (R7: ∀s:Int,0≤s→s<n→ ∀t∈on s,0≤t∧t<n) (h:(bw on W0 i).length≤i):bw on W0 i=zjn on n W0:=by
 unfold zjn;rcases Nat.le_total i n with g|g
 ·obtain⟨j,rfl⟩:=Di g;exact(zeN h j).symm
 ·obtain⟨j,rfl⟩:=Di g;exact zeN (zec h0 R7 n).len j
theorem zyR {on:Int→List Int} {W0:List Int} {i j k:Nat} (Z3:i≤j) (hk:k< (bw on W0 i).length): ∃h:k< (bw on W0 j).length,(bw on W0 j)[k]=(bw on W0 i)[k]:=by
 obtain⟨c,rfl⟩:=Di Z3;obtain⟨X,h⟩:=zfO on W0 i c;refine⟨by rw[h,Ve];omega,?_⟩;simp only[h];rw[Ag hk]
theorem ztV {on:Int→List Int} {W0:List Int} {n:Nat} (h0:zaL n W0) (R7: ∀s:Int,0≤s→s<n→ ∀t∈on s,0≤t∧t<n) {x:Int} (hx:x∈zjn on n W0): ∀t∈on x,t∈zjn on n W0:=by
 obtain⟨k,hk,rfl⟩:=Ue hx;intro t ht;unfold zjn at hk ht⊢;have S8:k<n:=Nat.lt_of_lt_of_le hk (zec h0 R7 n).len
 -- the k-th is there behind k rounds
 have hke: ∃h:k< (bw on W0 k).length,(bw on W0 k)[k]=(bw on W0 n)[k]:=by
  rcases Eg k (bw on W0 k).length with h|h
  ·obtain⟨h2,e⟩:=zyR (on:=on) (W0:=W0) (i:=k) (j:=n) Ko h;exact⟨h,e.symm⟩
  ·have:=zeN h (n - k);rw[show k+(n - k)=n by omega] at this;rw[this] at hk;omega
 obtain⟨Y2,K2⟩:=hke;rw[←K2] at ht;have T1:t∈bw on W0 (k+1):=by rw[zc3 Y2];exact zh1.2 (.inr ht)
 obtain⟨X,hX⟩:=zfO on W0 (k+1) (n - (k+1));rw[show k+1+(n - (k+1))=n by omega] at hX;rw[hX];exact List.mem_append.2 (.inl T1)
theorem zpS:V.Callee Tryz.prog 124:=⟨_,_,Tryz.func124,rfl,by kernel_rfl⟩
def zcH (n:Nat) (W:List Int):List Value:=zap n fun t=>decide ((t:Int)∈W)
theorem zoB (n:Nat) (W:List Int):(zcH n W).length=n:=zY _ _
theorem zoC {n:Nat} {W:List Int} {t:Nat} (h:t<n):zf (zcH n W) t [.bool true]=zcH n (add1 W t):=by
 unfold zcH;rw[znU _ h];refine zhI fun j hj=>?_;rw[Lf];split
 ·rename_i e;subst e;simp [zeM]
 ·rename_i e;rw[decide_eq_true_eq,decide_eq_true_eq,zeM];constructor
  ·exact .inl
  ·rintro(h1|h1)
   ·exact h1
   ·omega
theorem zvT {n:Nat} {W:List Int} {t:Nat} (h:t<n):(zcH n W)[t]? =some (.bool (decide ((t:Int)∈W))):=by unfold zcH;rw[rowV_get? _ h]
theorem ztW (n:Nat):zcH n []=Fe n (.bool false):=by
 unfold zcH zap;apply Tg
 ·simp
 ·intro i h1 h2;simp
theorem ztX (n:Nat) {V W:List Int} (h: ∀x,x∈V↔x∈W):zcH n V=zcH n W:=zhI fun t _=>by simp [h]
theorem zjo {G:zb} {A B:za} {b:Nat} (h:Sep G (zm (A++B))) (hb:b∈zm B):zU b (zm A):=by
 have h1:=(za7.1 h).2;rw[zde,Gi] at h1;exact zim.2 fun ha=>h1.2.2 b ha b hb rfl
theorem zvU {G:zb} {H:za} {b:Nat} {r:Res} (h:Sep G (zm H)) (hf:zq H b=some r):G b=none:=
 (za7.1 h).1 b (List.mem_map.2 ⟨_,zgo hf,rfl⟩)
theorem zgc {G:zb} {x:Nat×Res} {H:za} {b:Nat} {r:Res} (hs:Sep G (zm (x::H))) (h:zq H b=some r):zq (x::H) b=some r:=by
 have h1:zU x.1 (zm H):=hs.1.2;have h2:=zU.neFind h1 h;obtain⟨k,q⟩:=x;exact(znH h2 q H).trans h
theorem zvV {G:zb} {x1 x2 x3 x4 x5:Nat×Res} {H:za} (h:Sep G (zm (x1::x2::x3::x4::x5::H))):Sep G (zm (H++[x1,x2,x3,x4,x5])):=by
 rw[za7] at h⊢
 have hp:List.Perm (zm (H++[x1,x2,x3,x4,x5])) (zm (x1::x2::x3::x4::x5::H)):=by
  unfold zm;exact(List.perm_append_comm (l₁:=H) (l₂:=[x1,x2,x3,x4,x5])).map _
 exact⟨fun b hb=>h.1 b (hp.mem_iff.1 hb),hp.nodup_iff.2 h.2⟩
theorem ztY {G:zb} {x1 x2 x3 x4 x5:Nat×Res} {H:za} (h:Sep G (zm (H++[x1,x2,x3,x4,x5]))):Sep G (zm (x1::x2::x3::x4::x5::H)):=by
 rw[za7] at h⊢
 have hp:List.Perm (zm (H++[x1,x2,x3,x4,x5])) (zm (x1::x2::x3::x4::x5::H)):=by
  unfold zm;exact(List.perm_append_comm (l₁:=H) (l₂:=[x1,x2,x3,x4,x5])).map _
 exact⟨fun b hb=>h.1 b (hp.mem_iff.2 hb),hp.nodup_iff.1 h.2⟩
set_option maxRecDepth 4000 in
theorem zxP (lr b1 b2 b3 bx:Nat) {n:Nat} (hn:n≤65536) {W0:List Int} (hW:zaL n W0) {on:Int→List Int} (R7: ∀s:Int,0≤s→s<n→ ∀t∈on s,0≤t∧t<n) (U6: ∀s:Int,0≤s→s<n→(on s).length≤20000000)
  {fid:FuncId} {XC:List Value} {tyX:TypeId} {G:zb}
  (hOn: ∀ (s:Int) (G1:zb) (H1:za) (R1:Value→zb→za→Prop),PLe G G1→0≤s→s<n→G1 bx=none→zq H1 bx=some (.cells XC [] tyX)→(∀v,Sl G1 (Yd .i64) v (on s)→R1 v G1 H1)→FnT Tryz.prog fid [.int .i64 s, .pointer (some ⟨bx,0,none⟩)] G1 H1 R1)
  {v0:Value} (Q8:Sl G (Yd .i64) v0 W0) {HC:za} {R:Value→zb→za→Prop}
  (J Jx:Nat→zb→za→Prop) (hJ: ∀i G1 G2 H1,PLe G1 G2→J i G1 H1→J i G2 H1) (hX: ∀i G1 H1,Sep G1 (zm H1)→J i G1 H1→zq H1 bx=some (.cells XC [] tyX))
  (hY: ∀i G1 H1 HW (hi:i< (bw on W0 i).length),PLe G G1→Sep G1 (zm (H1++HW))→J i G1 H1→zbZ Tryz.prog lr [.int .i64 (bw on W0 i)[i]] G1 (H1++HW) fun w G2 H2=> ∃H3,H2=H3++HW∧((w= .bool true∧J (i+1) G2 H3)∨(w= .bool false∧Jx i G2 H3)))
  (h0:J 0 G HC)
  (hR: ∀G' H',PLe G G'→Sep G' (zm H')→((∃i,i=(bw on W0 i).length∧J i G' H')∨ ∃i,Jx i G' H')→R (.tuple #[]) G' H'):
  FnT Tryz.prog 124 [.func (.yield lr) #[] #[], .pointer (some ⟨b1,0,none⟩), .pointer (some ⟨b2,0,none⟩), .pointer (some ⟨b3,0,none⟩)] G
   ((b3, .cells [.func (.func fid) #[] #[.pointer (some ⟨bx,0,none⟩)]] [] 124):: (b2, .cells [v0] [] 24):: (b1, .cells [.int .i64 (n:Nat)] [] 3)::HC) R:=by
 obtain⟨a0,c0,rfl,hrow0,hcap0⟩:=id Q8;have hW0:=hW.len;refine Ee tok zoz Tryz.func124 rfl Kk Kk Kn fun M0=>?_;rw[Tryz.results124];have hE:=M0;try simp only[zzs] at hE
 repeat(obtain⟨J0,hE⟩:=hE)
 repeat' first
  |with_reducible first|refine Zd ?_ |refine Ae (fun _=>?_) fun _=>?_ |refine Nb fun nb A0 C0 B0=>?_ |refine Nr fun nb D0 E0 A0 I0 C0 B0=>?_
  |simp -dsimp -implicitDefEqProofs (disch:=first|exact Kd|fail) only[go_sem,↓reduceIte,seval, -He,Og,Wh]
 obtain⟨bt,e0⟩: ∃x,x=nb:=⟨_,rfl⟩;subst e0;refine zkj W0 Ko Q8 fun v kb hsk W9=>?_;have hn1:zU bt (zm kb):=zjo hsk (by simp [zm]);have Q4:zU b3 (zm kb):=zjo hsk (by simp [zm]);have hn3:zU b2 (zm kb):=zjo hsk (by simp [zm]);have hn4:zU b1 (zm kb):=zjo hsk (by simp [zm])
 repeat' first
  |with_reducible first|refine Zd ?_ |refine Ae (fun _=>?_) fun _=>?_ |refine Nb fun nb A0 C0 B0=>?_ |refine Nr fun nb D0 E0 A0 I0 C0 B0=>?_
  |simp -dsimp -implicitDefEqProofs (disch:=first|exact Kd|fail) only[go_sem,↓reduceIte,seval]
 refine Je tok zoz Kk [0,1,2,3,5,6,16,17,18] (fun q G' fr H'=> ∃i:Nat,i+q=W0.length∧G'=G∧H'=(bt, .cells (zcH n (W0.take i)) [] 4):: (b3, .cells [.func (.func fid) #[] #[.pointer (some ⟨bx,0,none⟩)]] [] 124):: (b2, .cells [.slice a0 W0.length c0] [] 24):: (b1, .cells [.int .i64 (n:Nat)] [] 3):: (kb++HC)∧fr=[(0, .func (.yield lr) #[] #[]),(1, .pointer (some ⟨b1,0,none⟩)),(2, .pointer (some ⟨b2,0,none⟩)),(3, .pointer (some ⟨b3,0,none⟩)),(5, .slice (some ⟨bt,0,none⟩) n n),(6,v),(16, .slice a0 W0.length c0),(17, .int .i64 W0.length),(18, .int .i64 (i:Nat))]) (W0.length) ?_ ?_
 ·rw[←ztW];exact Oe (H':=(bt, .cells (zcH n []) [] 4):: (b3, .cells [.func (.func fid) #[] #[.pointer (some ⟨bx,0,none⟩)]] [] 124):: (b2, .cells [.slice a0 W0.length c0] [] 24):: (b1, .cells [.int .i64 (n:Nat)] [] 3):: (kb++HC)) Ks (Ce ⟨0,by omega,rfl,by rw[Se],rfl⟩)
 ·rintro q G1 fr H' S0 V0 ⟨i,Q5,rfl,rfl,rfl⟩;by_cases Y0:i<W0.length
  ·have B3:Adr a0:=hrow0.adr (by rw[Be];omega);have hx:=hW.2 _ (Me Y0);obtain⟨t,ht⟩:=Dg hx.1;have L1:t<n:=by omega
   have X4:=zoB n (W0.take i)
   have M3:zf (zcH n (W0.take i)) t [.bool true]=zcH n (W0.take (i+1)):=by
    rw[zoC L1,←ht];exact ztX n fun x=>by rw[zeM,Re Y0,Ug,Vg]
   repeat' first
    |with_reducible first|refine Zd ?_ |refine Ae (fun _=>?_) fun _=>?_ |refine Nb fun nb A0 C0 B0=>?_ |refine Nr fun nb D0 E0 A0 I0 C0 B0=>?_
    |simp -dsimp -implicitDefEqProofs (disch:=first|exact Kd|fail) only[go_sem,↓reduceIte,seval,Ie hrow0,Le,ht,M3]
   exact Ce ⟨q - 1,by omega,i+1,by omega,rfl,rfl,rfl⟩
  ·obtain rfl:i=W0.length:=by omega
   rw[Te] at V0⊢
   repeat' first
    |with_reducible first|refine Zd ?_ |refine Ae (fun _=>?_) fun _=>?_ |refine Nb fun nb A0 C0 B0=>?_ |refine Nr fun nb D0 E0 A0 I0 C0 B0=>?_
    |simp -dsimp -implicitDefEqProofs (disch:=first|exact Kd|fail) only[go_sem,↓reduceIte,seval]
   refine Je tok zoz Kk [0,1,2,3,5,6,9] (fun q G' fr H'=> ∃ (i:Nat) (v:Value) (kb H1:za),i+q=n∧i≤(bw on W0 i).length∧PLe G1 G'∧zO [] 3 1 v (bw on W0 i).length ((bw on W0 i).map (Yd .i64)) kb∧J i G' H1∧H'=(bt, .cells (zcH n (bw on W0 i)) [] 4):: (b3, .cells [.func (.func fid) #[] #[.pointer (some ⟨bx,0,none⟩)]] [] 124):: (b2, .cells [.slice a0 W0.length c0] [] 24):: (b1, .cells [.int .i64 (n:Nat)] [] 3):: (kb++H1)∧fr=[(0, .func (.yield lr) #[] #[]),(1, .pointer (some ⟨b1,0,none⟩)),(2, .pointer (some ⟨b2,0,none⟩)),(3, .pointer (some ⟨b3,0,none⟩)),(5, .slice (some ⟨bt,0,none⟩) n n),(6,v),(9, .int .i64 (i:Nat))]) (n) ?_ ?_
   ·exact Ce ⟨0,v,kb,HC,by omega,Pg _,PLe.refl _,W9,h0,rfl,rfl⟩
   ·rintro q G2 fr H' Q0 R0 ⟨i,v,kb,H1,Q5,Y0,Y9,W9,hJi,rfl,rfl⟩;have hO:=zec hW R7 i;have hOl:=hO.len;rcases W9 with ⟨a,rfl,hz,W6,rfl⟩| ⟨bk,ck,sk,rfl,rfl,Q2,hkc⟩
    ·repeat' first
      |with_reducible first|refine Zd ?_ |refine Ae (fun _=>?_) fun _=>?_ |refine Nb fun nb A0 C0 B0=>?_ |refine Nr fun nb D0 E0 A0 I0 C0 B0=>?_
      |simp -dsimp -implicitDefEqProofs (disch:=first|exact Kd|fail) only[go_sem,↓reduceIte,seval]
     all_goals try(exfalso;omega)
     unfold zo;exact Oe (H':=H1) Ks (Ce (hR G2 H1 Y9 (Sep.suf (H:=[(bt, .cells (zcH n (bw on W0 i)) [] 4),(b3, .cells [.func (.func fid) #[] #[.pointer (some ⟨bx,0,none⟩)]] [] 124),(b2, .cells [.slice a0 W0.length c0] [] 24),(b1, .cells [.int .i64 (n:Nat)] [] 3)]) R0) (.inl ⟨i,by omega,hJi⟩)))
    ·rw[Be] at Q2 hkc;have hE:=R0;try simp only[zzs] at hE
     repeat(obtain⟨J0,hE⟩:=hE)
     by_cases hi:i< (bw on W0 i).length
     ·have hx:=hO.2 _ (Me hi);have E8:=zc3 hi
      repeat' first
       |with_reducible first|refine Zd ?_ |refine Ae (fun _=>?_) fun _=>?_ |refine Nb fun nb A0 C0 B0=>?_ |refine Nr fun nb D0 E0 A0 I0 C0 B0=>?_
       |simp -dsimp -implicitDefEqProofs (disch:=first|exact Kd|fail) only[go_sem,↓reduceIte,seval,Ag,Le]
      refine zbZ.upd (zbZ.leave (H':=H1++[(bt, .cells (zcH n (bw on W0 i)) [] 4),(b3, .cells [.func (.func fid) #[] #[.pointer (some ⟨bx,0,none⟩)]] [] 124),(b2, .cells [.slice a0 W0.length c0] [] 24),(b1, .cells [.int .i64 (n:Nat)] [] 3),(bk, .cells ((bw on W0 i).map (Yd .i64)) sk 3)]) ?_ Ks);have K1:=zvV R0;refine zbZ.mono (hY i G2 H1 _ hi Y9 K1 hJi) ?_;rintro w G3 _ A1 S1 ⟨H3,rfl,hw⟩;refine Oe (H':=(bt, .cells (zcH n (bw on W0 i)) [] 4):: (b3, .cells [.func (.func fid) #[] #[.pointer (some ⟨bx,0,none⟩)]] [] 124):: (b2, .cells [.slice a0 W0.length c0] [] 24):: (b1, .cells [.int .i64 (n:Nat)] [] 3):: (bk, .cells ((bw on W0 i).map (Yd .i64)) sk 3)::H3) Ks (Ce ?_);have P1:=ztY S1;have hE:=P1;try simp only[zzs] at hE
      repeat(obtain⟨J0,hE⟩:=hE)
      rcases hw with ⟨rfl,hJ3⟩| ⟨rfl,hJ3⟩
      ·have hfx3:=hX _ G3 H3 P1.2.2.2.2.2 hJ3
       repeat' first
        |with_reducible first|refine Zd ?_ |refine Ae (fun _=>?_) fun _=>?_ |refine Nb fun nb A0 C0 B0=>?_ |refine Nr fun nb D0 E0 A0 I0 C0 B0=>?_
        |simp -dsimp -implicitDefEqProofs (disch:=first|exact Kd|fail) only[go_sem,↓reduceIte,seval,Ag,Le]
        |with_reducible refine Wg tok mixed zoz 11 [0,4] (.op 0 .held (.op 1 .plain (.op 2 .plain (.op 3 .plain (.op 4 .held (.op 7 .plain (.op 5 .plain (.op 6 .plain .nil)))))))) Kk [(b3, .cells [.func (.func fid) #[] #[.pointer (some ⟨bx,0,none⟩)]] [] 124),(bk, .cells ((bw on W0 i).map (Yd .i64)) sk 3)] Ks ?_
       have hfx5:=zgc P1 (zgc P1.2 (zgc P1.2.2 (zgc P1.2.2.2 (zgc P1.2.2.2.2 hfx3))));have hxb:=zvU P1 hfx5;refine hOn _ G3 _ _ (Y9.trans A1) hx.1 hx.2 hxb hfx5 fun v' hv'=>?_;obtain⟨ao,co,rfl,Y4,hco⟩:=hv';have honl:=U6 _ hx.1 hx.2;have honr:=R7 _ hx.1 hx.2
       repeat' first
        |with_reducible first|refine Zd ?_ |refine Ae (fun _=>?_) fun _=>?_ |refine Nb fun nb A0 C0 B0=>?_ |refine Nr fun nb D0 E0 A0 I0 C0 B0=>?_
        |simp -dsimp -implicitDefEqProofs (disch:=first|exact Kd|fail) only[go_sem,↓reduceIte,seval]
       generalize hos:on (bw on W0 i)[i]=os at *;refine Je tok zoz Kk [0,1,2,3,5,6,9,44,45,46] (fun q' G' fr H'=> ∃ (k:Nat) (v:Value) (kb:za),k+q'=os.length∧G'=G3∧zO [] 3 1 v (addN (bw on W0 i) (os.take k)).length ((addN (bw on W0 i) (os.take k)).map (Yd .i64)) kb∧H'=(bt, .cells (zcH n (addN (bw on W0 i) (os.take k))) [] 4):: (b3, .cells [.func (.func fid) #[] #[.pointer (some ⟨bx,0,none⟩)]] [] 124):: (b2, .cells [.slice a0 W0.length c0] [] 24):: (b1, .cells [.int .i64 (n:Nat)] [] 3):: (kb++H3)∧fr=[(0, .func (.yield lr) #[] #[]),(1, .pointer (some ⟨b1,0,none⟩)),(2, .pointer (some ⟨b2,0,none⟩)),(3, .pointer (some ⟨b3,0,none⟩)),(5, .slice (some ⟨bt,0,none⟩) n n),(6,v),(9, .int .i64 (i:Nat)),(44, .slice ao os.length co),(45, .int .i64 os.length),(46, .int .i64 (k:Nat))]) (os.length) ?_ ?_
       ·exact Ce ⟨0,_,[(bk, .cells ((bw on W0 i).map (Yd .i64)) sk 3)],by omega,rfl, .inr ⟨bk,ck,sk,rfl,rfl,by rw[Be];simp,by rw[Be,Se,zga];omega⟩,rfl,rfl⟩
       ·rintro q' G4 fr H' Z1 E3 ⟨k,v,kb,hkq,rfl,W9,rfl,rfl⟩;have hOk:zaL n (addN (bw on W0 i) (os.take k)):=hO.addN fun x hx=>honr x (List.mem_of_mem_take hx);have hOkl:=hOk.len;obtain⟨X,hX1⟩:=zgb (os.take k) (bw on W0 i);have hXl:=congrArg List.length hX1;rw[Ve] at hXl;rcases W9 with ⟨a,rfl,hz,W6,rfl⟩| ⟨bm,cm,sm,rfl,rfl,X4,hmc⟩
        ·omega
        ·rw[Be] at X4 hmc;have hmt:=zoB n (addN (bw on W0 i) (os.take k));have hE:=E3;try simp only[zzs] at hE
         repeat(obtain⟨J0,hE⟩:=hE)
         by_cases hk:k<os.length
         ·have B3:Adr ao:=Y4.adr (by rw[Be];omega);have hy:=honr _ (Me hk);obtain⟨t,ht⟩:=Dg hy.1;have L1:t<n:=by omega
          have hg:=zvT (W:=addN (bw on W0 i) (os.take k)) L1;have T5:=zmy (bw on W0 i) os hk;have M3:=zoC (W:=addN (bw on W0 i) (os.take k)) L1;by_cases T1:(t:Int)∈addN (bw on W0 i) (os.take k)
          ·rw[decide_eq_true T1] at hg;have Q4:addN (bw on W0 i) (os.take (k+1))=addN (bw on W0 i) (os.take k):=by rw[T5,ht];unfold add1;rw[if_pos T1]
           repeat' first
            |with_reducible first|refine Zd ?_ |refine Ae (fun _=>?_) fun _=>?_ |refine Nb fun nb A0 C0 B0=>?_ |refine Nr fun nb D0 E0 A0 I0 C0 B0=>?_
            |simp -dsimp -implicitDefEqProofs (disch:=first|exact Kd|fail) only[go_sem,↓reduceIte,seval,Ie Y4,Le,ht,hg]
           exact Ce ⟨q' - 1,by omega,k+1, .slice (some ⟨bm,0,none⟩) (addN (bw on W0 i) (os.take k)).length cm,[(bm, .cells ((addN (bw on W0 i) (os.take k)).map (Yd .i64)) sm 3)],by omega,rfl, .inr ⟨bm,cm,sm,by rw[Q4],by rw[Q4],by rw[Q4,Be];omega,by rw[Q4,Be];omega⟩,by rw[Q4];rfl,rfl⟩
          ·rw[decide_eq_false T1] at hg;have Q4:addN (bw on W0 i) (os.take (k+1))=addN (bw on W0 i) (os.take k)++[(t:Int)]:=by rw[T5,ht];unfold add1;rw[if_neg T1]
           have hn3:add1 (addN (bw on W0 i) (os.take k)) (t:Int)=addN (bw on W0 i) (os.take (k+1)):=by rw[T5,ht]
           rw[hn3] at M3
           repeat' first
            |with_reducible first|refine Zd ?_ |refine Ae (fun _=>?_) fun _=>?_ |refine Nb fun nb A0 C0 B0=>?_ |refine Nr fun nb D0 E0 A0 I0 C0 B0=>?_
            |simp -dsimp -implicitDefEqProofs (disch:=first|exact Kd|fail) only[go_sem,↓reduceIte,seval,Ie Y4,Le,ht,hg,M3,Zh]
           have Z0:=congrArg List.length Q4;rw[Ve,Bg] at Z0;have M2:(addN (bw on W0 i) (os.take k)).map (Yd .i64)++[Yd .i64 (t:Nat)]=(addN (bw on W0 i) (os.take (k+1))).map (Yd .i64):=by rw[Q4,Ke];rfl
           rw[M2,←Z0];exact Oe (H':=(bt, .cells (zcH n (addN (bw on W0 i) (os.take (k+1)))) [] 4):: (b3, .cells [.func (.func fid) #[] #[.pointer (some ⟨bx,0,none⟩)]] [] 124):: (b2, .cells [.slice a0 W0.length c0] [] 24):: (b1, .cells [.int .i64 (n:Nat)] [] 3):: ([(nb, .cells ((addN (bw on W0 i) (os.take (k+1))).map (Yd .i64)) D0 3)]++H3)) Ks (Ce ⟨q' - 1,by omega,k+1,_,[(nb, .cells ((addN (bw on W0 i) (os.take (k+1))).map (Yd .i64)) D0 3)],by omega,rfl, .inr ⟨nb,E0,D0,rfl,rfl,by rw[Be];omega,by rw[Be];omega⟩,rfl,rfl⟩)
         ·obtain rfl:k=os.length:=by omega
          rw[Te] at *
          repeat' first
           |with_reducible first|refine Zd ?_ |refine Ae (fun _=>?_) fun _=>?_ |refine Nb fun nb A0 C0 B0=>?_ |refine Nr fun nb D0 E0 A0 I0 C0 B0=>?_
           |simp -dsimp -implicitDefEqProofs (disch:=first|exact Kd|fail) only[go_sem,↓reduceIte,seval]
          rw[←E8] at *;exact Ce ⟨q - 1,by omega,i+1, .slice (some ⟨bm,0,none⟩) (bw on W0 (i+1)).length cm,[(bm, .cells ((bw on W0 (i+1)).map (Yd .i64)) sm 3)],H3,by omega,by omega,Y9.trans A1, .inr ⟨bm,cm,sm,rfl,rfl,by rw[Be];omega,by rw[Be];omega⟩,hJ3,rfl,rfl⟩
      ·repeat' first
        |with_reducible first|refine Zd ?_ |refine Ae (fun _=>?_) fun _=>?_ |refine Nb fun nb A0 C0 B0=>?_ |refine Nr fun nb D0 E0 A0 I0 C0 B0=>?_
        |simp -dsimp -implicitDefEqProofs (disch:=first|exact Kd|fail) only[go_sem,↓reduceIte,seval]
       unfold zo;exact Oe (H':=H3) Ks (Ce (hR G3 H3 (Y9.trans A1) Ka (.inr ⟨i,hJ3⟩)))
     ·repeat' first
       |with_reducible first|refine Zd ?_ |refine Ae (fun _=>?_) fun _=>?_ |refine Nb fun nb A0 C0 B0=>?_ |refine Nr fun nb D0 E0 A0 I0 C0 B0=>?_
       |simp -dsimp -implicitDefEqProofs (disch:=first|exact Kd|fail) only[go_sem,↓reduceIte,seval]
      all_goals try(exfalso;omega)
      unfold zo;exact Oe (H':=H1) Ks (Ce (hR G2 H1 Y9 Ka (.inl ⟨i,by omega,hJi⟩)))
theorem zvW {G:zb} {A B:za} (h:Sep G (zm (A++B))):Sep G (zm A):=by
 rw[za7,zde] at *;exact⟨fun b hb=>h.1 b (List.mem_append.2 (.inl hb)),(List.nodup_append.1 h.2).1⟩
def zJ (d:DfaT) (s:Int):List Int:=d.next.getD s.toNat []
theorem zas {d:DfaT} {s:Nat} (h:s<d.next.length):zJ d (s:Int)=d.next[s]:=by
 unfold zJ;rw[Yf,Fg,Xe h,Ei]
theorem zgd {d:DfaT} (K0:zg d): ∀s:Int,0≤s→s<d.label.length→ ∀t∈zJ d s,0≤t∧t<d.label.length:=fun s h1 h2 t ht=>by
 obtain⟨i,rfl⟩:=Dg h1;obtain⟨Y2,K2,U2,N3,X3,Y3,Y1⟩:=K0;have hi:i<d.next.length:=by omega
 rw[zas hi] at ht;exact(Y1 i hi Ko).2.2.2 t ht
theorem zvX {d:DfaT} (P0:zr d) (K0:zg d) {C:List Value} {an al ay:Option Addr} {cn cl cs:Nat} {rs:List Value} {G:zb} (O:OpenD G d C an al ay cn cl cs rs) {bx:Nat} {s:Int} (h0:0≤s) (h1:s<d.label.length)
  {H:za} {R:Value→zb→za→Prop} (hg:G bx=none) (hf:zq H bx=some (.cells C [] 27)) (hR: ∀v,Sl G (Yd .i64) v (zJ d s)→R v G H):FnT Tryz.prog 94 [.int .i64 s, .pointer (some ⟨bx,0,none⟩)] G H R:=by
 obtain⟨i,rfl⟩:=Dg h0;have N0:=O.len;have J1:=O.n;have hl:=K0.2.2.1;have hi:i<d.next.length:=by omega
 have La:=O.rnl;obtain⟨b,c,e1,e2,e3⟩:=O.rs i hi Ko;have B3:Adr an:=O.rn.adr Ko;rw[zas hi] at hR;refine Ee tok [0,1,3] Tryz.func94 rfl Kk Kk Kn fun M0=>?_;rw[Tryz.results94];have hE:=M0;try simp only[zzs] at hE
 repeat(obtain⟨J0,hE⟩:=hE)
 repeat' first
  |with_reducible first|refine Zd ?_ |refine Ae (fun _=>?_) fun _=>?_
  |simp -dsimp -implicitDefEqProofs (disch:=first|exact Kd|fail) only[go_sem,↓reduceIte,seval, -He,hf,N0,J1,Ie O.rn,e1]
 all_goals refine De ?_ (hR _ ⟨b,c,rfl,e2,e3⟩) ?_
 any_goals first|exact Ks|skip
 all_goals rfl
theorem zyS {n:Nat} {a cap:Option Addr} {k c:Nat} {fid:FuncId} {v fv:Value} (hv:v= .slice a k c) (hf:fv= .func (.func fid) #[] #[.pointer cap]) {G:zb} {H:za} {R:Value→zb→za→Prop}
  (hR: ∀b1 b2 b3,Sep G (b3::b2::b1::zm H)→R (.func (.func 124) #[] #[.pointer (some ⟨b1,0,none⟩), .pointer (some ⟨b2,0,none⟩), .pointer (some ⟨b3,0,none⟩)]) G ((b3, .cells [fv] [] 124):: (b2, .cells [v] [] 24):: (b1, .cells [.int .i64 (n:Nat)] [] 3)::H)):
  FnT Tryz.prog 93 [.int .i64 (n:Nat),v,fv] G H R:=by
 subst hv hf;refine Ee tok [0,1,2,3,4,5,6] Tryz.func93 rfl Kk Kk Kn fun M0=>?_;rw[Tryz.results93];have hE:=M0;try simp only[zzs] at hE
 repeat(obtain⟨J0,hE⟩:=hE)
 repeat' first
  |with_reducible first|refine Zd ?_ |refine Ae (fun _=>?_) fun _=>?_ |refine Nb fun nb A0 C0 B0=>?_
  |simp -dsimp -implicitDefEqProofs (disch:=first|exact Kd|fail) only[go_sem,↓reduceIte,seval]
 exact Upd.fin (hR _ _ _ A0) rfl
theorem zr2:V.Callee Tryz.prog 93:=⟨_,_,Tryz.func93,rfl,by kernel_rfl⟩
def zaj (d:DfaT):List Int:=zjn (zJ d) d.label.length [0]
noncomputable def zcI (d:DfaT):List Int:=if zaz (zg d)=true then zaj d else[]
theorem zxQ {d:DfaT} (P0:zr d) {G:zb} {H:za} {R:Value→zb→za→Prop} {v:Value} (hv:IsD G d v)
  (hR: ∀G' v',PLe G G'→Sep G' (zm H)→Sl G' (Yd .i64) v' (zcI d)→R v' G' H):FnT Tryz.prog 63 [v] G H R:=by
 obtain⟨C,an,al,ay,cn,cl,cs,rs,rfl,O⟩:=hv.opened;have N0:=O.len;have T0:=O.all;have X0:=O.l;refine Zf ?_;by_cases K0:zg d
 ·have hb:=zA K0;refine Ee tok zvQ Tryz.func63 rfl Kk Kk Kn fun M0=>?_;rw[Tryz.results63];have hE:=M0;try simp only[zzs] at hE
  repeat(obtain⟨J0,hE⟩:=hE)
  repeat' first
   |with_reducible first|refine Zd ?_ |refine Ae (fun _=>?_) fun _=>?_ |refine Nb fun nb A0 C0 B0=>?_ |refine Nr fun nb D0 E0 A0 I0 C0 B0=>?_
   |simp -dsimp -implicitDefEqProofs (disch:=first|exact Kd|fail) only[go_sem,↓reduceIte,seval, -He,Ye,N0,T0,hb,X0,Zh]
   |with_reducible refine zaJ P0 O.is ?_
  rename_i b2 J7 N5 hx3 bl hx4 hx5 hx6;have hz:zcI d=zaj d:=by unfold zcI;rw[if_pos hb]
  rw[hz] at hR;have R7:=zgd K0;have Y2:=K0.1;have K2:=K0.2.1;have hO:zaL d.label.length [0]:=⟨by simp,fun x hx=>by rw[Vg] at hx;omega⟩;refine FnT.pre zr2 (Oe (H':=(nb, .cells [.int .i64 0] [] 3):: (bl, .cells [.slice none 0 0] [] 24):: (b2, .cells C [] 27)::H) Ks (Jf Ka fun G2 Q0 R0 V1=>?_));refine zyS rfl rfl fun c1 c2 c3 K1=>?_;have hE:=K1;try simp only[zzs] at hE
  repeat(obtain⟨J0,hE⟩:=hE)
  repeat' first
   |with_reducible first|refine Zd ?_ |refine Ae (fun _=>?_) fun _=>?_ |refine Nb fun nb A0 C0 B0=>?_ |refine Nr fun nb D0 E0 A0 I0 C0 B0=>?_
   |simp -dsimp -implicitDefEqProofs (disch:=first|exact Kd|fail) only[go_sem,↓reduceIte,seval]
  refine Tri.rangeF2 tok zvQ rfl zpS Kk fun lr Rr Rb hlr yl=>?_;have hE:=hlr;try simp only[zzs] at hE
  repeat(obtain⟨J0,hE⟩:=hE)
  refine FnT.leave (H':=(c3, .cells [.func (.func 94) #[] #[.pointer (some ⟨b2,0,none⟩)]] [] 124):: (c2, .cells [.slice (some ⟨nb,0,none⟩) 1 1] [] 24):: (c1, .cells [.int .i64 (d.label.length:Nat)] [] 3):: ((lr,Rr .normal):: (bl, .cells [.slice none 0 0] [] 24):: (b2, .cells C [] 27)::H)) ?_ Ks
  refine zxP lr c1 c2 c3 b2 Ko hO R7 (fun s h0 h1=>?_) (fun s G1 H1 R1 S0 h0 h1 hg hf hR1=>zvX P0 K0 (O.mono (Q0.trans S0)) h0 h1 hg hf hR1)
   (v0:= .slice (some ⟨nb,0,none⟩) 1 1) ⟨some ⟨nb,0,none⟩,1,rfl,V1,Qe _⟩
   (fun i G' H'=> ∃v kb,zO [] 3 1 v i (((bw (zJ d) [0] i).take i).map (Yd .i64)) kb∧i≤(bw (zJ d) [0] i).length∧H'=(lr,Rr .normal):: (bl, .cells [v] [] 24):: (b2, .cells C [] 27):: (kb++H))
   (fun _ _ _=>False) ?_ ?_ ?_ ⟨_,[], .inl ⟨none,rfl,rfl,rfl,rfl⟩,Pg _,rfl⟩ ?_
  ·obtain⟨j,rfl⟩:=Dg h0;have hj:j<d.next.length:=by have:=K0.2.2.1;omega
   rw[zas hj];exact Nat.le_trans (P0.2.1 _ (Me hj)) Ko
  ·exact fun _ _ _ _ _ h=>h
  ·rintro i G1 _ _ ⟨v,kb,_,_,rfl⟩;simp -dsimp -implicitDefEqProofs (disch:=first|exact Kd|fail) only[go_sem,↓reduceIte,seval]
  ·rintro i G1 _ HW hi N2 S1 ⟨v,kb,W9,Y0,rfl⟩;have P1:=zvW S1;obtain⟨X,hX⟩:=ztU (zJ d) [0] i
   have S9:(bw (zJ d) [0] (i+1)).take (i+1)=(bw (zJ d) [0] i).take i++[(bw (zJ d) [0] i)[i]]:=by
    rw[hX,Tf Ko,Re hi]
   have L3:((bw (zJ d) [0] i).take i).length=i:=by rw[Ge];omega
   have X4:(((bw (zJ d) [0] i).take i).map (Yd .i64)).length=i:=by rw[Be,L3]
   have O9:=(zec hO R7 i).len;have Vc:i+1≤(bw (zJ d) [0] (i+1)).length:=by rw[hX,Ve];omega
   rcases W9 with ⟨a,rfl,hz,W6,rfl⟩| ⟨bk,ck,sk,rfl,rfl,Q2,hkc⟩
   ·have hE:=S1;try simp only[zzs] at hE
    repeat(obtain⟨J0,hE⟩:=hE)
    have hE:=P1;try simp only[zzs] at hE
    repeat(obtain⟨J0,hE⟩:=hE)
    refine zbZ.upd (yl rfl ?_ ?_)
    ·simp -dsimp -implicitDefEqProofs (disch:=first|exact Kd|fail) only[go_sem,↓reduceIte,seval]
    ·repeat' first
      |with_reducible first|refine Zd ?_ |refine Ae (fun _=>?_) fun _=>?_ |refine Nb fun nb A0 C0 B0=>?_ |refine Nr fun nb D0 E0 A0 I0 C0 B0=>?_
      |simp -dsimp -implicitDefEqProofs (disch:=first|exact Kd|fail) only[go_sem,↓reduceIte,seval,Zh]
     have O7:i=0:=hz;refine Oe (H':=((lr,Rr .normal):: (bl, .cells [.slice (some ⟨nb,0,none⟩) 1 E0] [] 24):: (b2, .cells C [] 27):: ([(nb, .cells [.int .i64 (bw (zJ d) [0] i)[i]] D0 3)]++H))++HW) Ks (Ce ⟨_,rfl, .inl ⟨rfl,_,[(nb, .cells [.int .i64 (bw (zJ d) [0] i)[i]] D0 3)], .inr ⟨nb,E0,D0,?_,?_,?_,?_⟩,Vc,rfl⟩⟩)
     ·rw[O7]
     ·rw[S9,Ke,W6];rfl
     ·rw[S9,Ke,W6];show 1=(i+1) * 1;omega
     ·rw[S9,Ke,W6];show 1+D0.length=E0 * 1;omega
   ·have hE:=S1;try simp only[zzs] at hE
    repeat(obtain⟨J0,hE⟩:=hE)
    have hE:=P1;try simp only[zzs] at hE
    repeat(obtain⟨J0,hE⟩:=hE)
    refine zbZ.upd (yl rfl ?_ ?_)
    ·simp -dsimp -implicitDefEqProofs (disch:=first|exact Kd|fail) only[go_sem,↓reduceIte,seval]
    ·repeat' first
      |with_reducible first|refine Zd ?_ |refine Ae (fun _=>?_) fun _=>?_ |refine Nb fun nb A0 C0 B0=>?_ |refine Nr fun nb D0 E0 A0 I0 C0 B0=>?_
      |simp -dsimp -implicitDefEqProofs (disch:=first|exact Kd|fail) only[go_sem,↓reduceIte,seval,Zh]
     have M2:((bw (zJ d) [0] i).take i).map (Yd .i64)++[.int .i64 (bw (zJ d) [0] i)[i]]=((bw (zJ d) [0] (i+1)).take (i+1)).map (Yd .i64):=by rw[S9,Ke];rfl
     rw[M2];refine Oe (H':=((lr,Rr .normal):: (bl, .cells [.slice (some ⟨nb,0,none⟩) (i+1) E0] [] 24):: (b2, .cells C [] 27):: ([(nb, .cells (((bw (zJ d) [0] (i+1)).take (i+1)).map (Yd .i64)) D0 3)]++H))++HW) Ks (Ce ⟨_,rfl, .inl ⟨rfl,_,[(nb, .cells (((bw (zJ d) [0] (i+1)).take (i+1)).map (Yd .i64)) D0 3)], .inr ⟨nb,E0,D0,rfl,rfl,?_,?_⟩,Vc,rfl⟩⟩)
     ·rw[Be,Ge];omega
     ·rw[Be,Ge];omega
  ·rintro G1 _ N2 S1 (⟨i,hi,v,kb,W9,Y0,rfl⟩| ⟨_,h⟩)
   ·have he:bw (zJ d) [0] i=zaj d:=zoA hO R7 Ko;have B2:(bw (zJ d) [0] i).take i=zaj d:=by rw[←he];exact Pe Ko
    rw[B2] at W9;rw[he] at hi;rcases W9 with ⟨a,rfl,hz,W6,rfl⟩| ⟨bk,ck,sk,rfl,rfl,Q2,hkc⟩
    ·have hE:=S1;try simp only[zzs] at hE
     repeat(obtain⟨J0,hE⟩:=hE)
     refine⟨.normal,?_,?_⟩
     ·simp -dsimp -implicitDefEqProofs (disch:=first|exact Kd|fail) only[go_sem,↓reduceIte,seval]
     ·repeat' first
       |with_reducible first|refine Zd ?_ |refine Ae (fun _=>?_) fun _=>?_ |refine Nb fun nb A0 C0 B0=>?_ |refine Nr fun nb D0 E0 A0 I0 C0 B0=>?_
       |simp -dsimp -implicitDefEqProofs (disch:=first|exact Kd|fail) only[go_sem,↓reduceIte,seval]
      unfold zo;refine Xf (H':=H) Ks ?_;have h0:zaj d=[]:=Df Ko;exact fun S0 hs=>hR G1 _ (Q0.trans N2) hs ⟨a,0,by rw[h0];rfl,by rw[h0];exact Row.nil _ _,by rw[h0];exact Qe _⟩
    ·have hE:=S1;try simp only[zzs] at hE
     repeat(obtain⟨J0,hE⟩:=hE)
     refine⟨.normal,?_,?_⟩
     ·simp -dsimp -implicitDefEqProofs (disch:=first|exact Kd|fail) only[go_sem,↓reduceIte,seval]
     ·repeat' first
       |with_reducible first|refine Zd ?_ |refine Ae (fun _=>?_) fun _=>?_ |refine Nb fun nb A0 C0 B0=>?_ |refine Nr fun nb D0 E0 A0 I0 C0 B0=>?_
       |simp -dsimp -implicitDefEqProofs (disch:=first|exact Kd|fail) only[go_sem,↓reduceIte,seval]
      unfold zo;refine Oe (H':=(bk, .cells ((zaj d).map (Yd .i64)) sk 3)::H) Ks (Jf Ka fun G3 A1 E3 D2=>?_);rw[Be] at Q2 hkc;exact fun S0 hs=>hR G3 _ ((Q0.trans N2).trans A1) hs ⟨some ⟨bk,0,none⟩,ck,by rw[hi],D2,by omega⟩
   ·exact h.elim
 ·have hb:=zu K0;have hz:zcI d=[]:=by unfold zcI;rw[if_neg (by rw[hb];exact Hi)]
  rw[hz] at hR;refine Ee tok zvQ Tryz.func63 rfl Kk Kk Kn fun M0=>?_;rw[Tryz.results63];have hE:=M0;try simp only[zzs] at hE
  repeat(obtain⟨J0,hE⟩:=hE)
  repeat' first
   |with_reducible first|refine Zd ?_ |refine Ae (fun _=>?_) fun _=>?_ |refine Nb fun nb A0 C0 B0=>?_ |refine Nr fun nb D0 E0 A0 I0 C0 B0=>?_
   |simp -dsimp -implicitDefEqProofs (disch:=first|exact Kd|fail) only[go_sem,↓reduceIte,seval, -He,Ye,N0,T0,hb]
   |with_reducible refine zaJ P0 O.is ?_
  unfold zo;refine Xf (H':=H) Ks ?_;exact fun S0 hs=>hR G _ (PLe.refl _) hs (Sl.nil _ _)
theorem zr3 {w:Nat} (hw:w<4294967296):zay .and .u64 (w:Int) 4294967295=(w:Int):=by
 unfold zay
 have:(BitVec.ofInt IntKind.u64.bits (w:Int)&&& BitVec.ofInt IntKind.u64.bits 4294967295).toNat=w:=by
  show(BitVec.ofInt 64 (w:Int)&&& BitVec.ofInt 64 4294967295).toNat=w;rw[BitVec.toNat_and]
  have h1:(BitVec.ofInt 64 (w:Int)).toNat=w:=by
   rw[BitVec.toNat_ofInt];omega
  have h2:(BitVec.ofInt 64 4294967295).toNat=2 ^ 32 - 1:=by decide
  rw[h1,h2,Nat.and_two_pow_sub_one_eq_mod];exact Nat.mod_eq_of_lt hw
 show IntKind.u64.wrap ((BitVec.ofInt IntKind.u64.bits (w:Int)&&& BitVec.ofInt IntKind.u64.bits 4294967295).toNat:Int)=w;rw[this];unfold IntKind.wrap;have hb:(IntKind.u64.bits)=64:=rfl;simp [hb];omega
set_option maxRecDepth 8000 in
theorem zxR {n:Nat} (hn:n≤65536) {G:zb} {H:za} {R:Value→zb→za→Prop} (hR:R (.tuple #[.int .u64 0, .int .u64 (n:Nat)]) G H):FnT Tryz.prog 163 [.int .u64 1, .int .u64 (n:Nat)] G H R:=by
 have b1:zay .and .u64 1 4294967295=1:=by decide
 have b2:zay .and .u64 (n:Int) 4294967295=(n:Int):=zr3 Ko;have b3:zay .and .u64 0 4294967295=0:=by decide
 refine Ee tok [0,1,4,5,6,7,8,9,10,11,12,13] Tryz.func163 rfl Kk Kk Kn fun M0=>?_;rw[Tryz.results163];have hE:=M0;try simp only[zzs] at hE
 repeat(obtain⟨J0,hE⟩:=hE)
 have hq:(n:Int) / 4294967296=0:=by omega
 have wz:IntKind.u64.wrap 0=0:=by decide
 repeat' first
  |with_reducible first|refine Zd ?_ |refine Ae (fun _=>?_) fun _=>?_ |refine Nb fun nb A0 C0 B0=>?_
  |simp -dsimp -implicitDefEqProofs (disch:=first|exact Kd|fail) only[go_sem,↓reduceIte,seval,b1,b2,b3,Int.zero_mul,Int.one_mul,Int.mul_zero,Int.add_zero,Int.zero_add,hq,wz]
 all_goals refine De ?_ hR ?_
 any_goals first|exact Ks|skip
 all_goals rfl
theorem zz9 {n:Nat} (hn:n≤65536) {G:zb} {H:za} {R:Value→zb→za→Prop} (hR:R (.tuple #[.int .u64 0, .int .u64 (n:Nat)]) G H):FnT Tryz.prog 146 [.int .u64 1, .int .u64 (n:Nat)] G H R:=by
 refine Ee tok [0,1,4,5,6,7,8,9] Tryz.func146 rfl Kk Kk Kn fun M0=>?_;rw[Tryz.results146];have hE:=M0;try simp only[zzs] at hE
 repeat(obtain⟨J0,hE⟩:=hE)
 repeat' first
  |with_reducible first|refine Zd ?_ |refine Ae (fun _=>?_) fun _=>?_ |refine Nb fun nb A0 C0 B0=>?_ |refine Nr fun nb D0 E0 A0 I0 C0 B0=>?_
  |simp -dsimp -implicitDefEqProofs (disch:=first|exact Kd|fail) only[go_sem,↓reduceIte,seval]
  |with_reducible refine zxR hn ?_
 all_goals refine De ?_ hR ?_
 any_goals first|exact Ks|skip
 all_goals rfl
def zcV (n k:Nat) (x:Int):List Value:=Fe k (.int .i64 x)++Fe (n - k) (.int .i64 0)
theorem zvY {n k:Nat} (h:k≤n) (x:Int):(zcV n k x).length=n:=by simp [zcV];omega
theorem ztZ (n:Nat) (x:Int):Fe n (Yd .i64 0)=zcV n 0 x:=by simp [zcV]
theorem zvZ (n:Nat) (x:Int):zcV n n x=Fe n (.int .i64 x):=by simp [zcV]
theorem zr4 {n:Nat} (h:1≤n) (x:Int):zf (zcV n 0 x) 0 [.int .i64 x]=zcV n 1 x:=by
 obtain⟨m,rfl⟩:=Di h;unfold zf zcV;rw[show 1+m - 0=m+1 by omega,List.replicate_succ,show 1+m - 1=m by omega];simp
theorem zt0 {n k m:Nat} (hk:k≤n) (hm:m≤k) (hmn:m≤n - k) (x:Int):zf (zcV n k x) k ((zcV n k x).take m)=zcV n (k+m) x:=by
 have h1:(zcV n k x).take m=Fe m (.int .i64 x):=by
  unfold zcV;rw[Tf (by simp;exact hm),List.take_replicate,Nat.min_eq_left hm]
 rw[h1];unfold zf zcV
 have e1:(Fe k (Yd .i64 x)++Fe (n - k) (Yd .i64 0)).take k=Fe k (.int .i64 x):=by
  rw[Tf (by simp),Pe (by simp)]
 have e2:(Fe k (Yd .i64 x)++Fe (n - k) (Yd .i64 0)).drop (k+(Fe m (Yd .i64 x)).length)=Fe (n - (k+m)) (.int .i64 0):=by
  rw[We,List.drop_append,We,Gf (by simp),Af,List.drop_replicate];congr 1;omega
 rw[e1,e2,List.replicate_append_replicate]
set_option maxRecDepth 4000 in
theorem zv0 {x:Int} {n:Nat} (h1:1≤n) (hn:n≤65536) {G:zb} {H:za} {R:Value→zb→za→Prop} {v:Value} (hv:Sl G (Yd .i64) v [x])
  (hR: ∀b,Sep G (b::zm H)→R (.slice (some ⟨b,0,none⟩) n n) G ((b, .cells (Fe n (.int .i64 x)) [] 3)::H)):FnT Tryz.prog 123 [v, .int .i64 (n:Nat)] G H R:=by
 obtain⟨a,cap,rfl,U0,D5⟩:=hv
 have hw:IntKind.u64.wrap (n:Int)=n:=by
  unfold IntKind.wrap;have hb:(IntKind.u64.bits)=64:=rfl;simp [hb];omega
 refine Ee tok zvR Tryz.func123 rfl Kk Kk Kn fun M0=>?_;rw[Tryz.results123];have hE:=M0;try simp only[zzs] at hE
 repeat(obtain⟨J0,hE⟩:=hE)
 repeat' first
  |with_reducible first|refine Zd ?_ |refine Ae (fun _=>?_) fun _=>?_ |refine Nb fun nb A0 C0 B0=>?_ |refine Nr fun nb D0 E0 A0 I0 C0 B0=>?_
  |simp -dsimp -implicitDefEqProofs (disch:=first|exact Kd|fail) only[go_sem,↓reduceIte,seval,hw]
 all_goals try(exfalso;omega)
 refine zz9 hn ?_
 repeat' first
  |with_reducible first|refine Zd ?_ |refine Ae (fun _=>?_) fun _=>?_ |refine Nb fun nb A0 C0 B0=>?_ |refine Nr fun nb D0 E0 A0 I0 C0 B0=>?_
  |simp -dsimp -implicitDefEqProofs (disch:=first|exact Kd|fail) only[go_sem,↓reduceIte,seval,hw,Og,Wh,Row.rdSlAll U0]
 rw[ztZ n x,zr4 h1,show min 1 n=1 by omega];refine Je tok zvR Kk [4,7,8] (fun q G' fr H'=> ∃k:Nat,k+q=n+1∧1≤k∧k≤n∧G'=G∧H'=(nb, .cells (zcV n k x) [] 3)::H∧fr=[(4, .slice none 0 0),(7, .slice (some ⟨nb,0,none⟩) n n),(8, .int .i64 (k:Nat))]) (n) ?_ ?_
 ·exact Ce ⟨1,by omega,Qe 1,h1,rfl,rfl,rfl⟩
 ·rintro q G1 fr H' S0 V0 ⟨k,hkq,Y2,S8,rfl,rfl,rfl⟩;have hE:=V0;try simp only[zzs] at hE
  repeat(obtain⟨J0,hE⟩:=hE)
  have hql:=zvY (n:=n) (k:=k) Ko x;by_cases hk:k<n
  ·have hsa:zby nb 0 k n k=⟨nb,k,none⟩:=by unfold zby;rw[if_neg Ko,Nat.zero_add]
   have Z7:=zt0 (n:=n) (k:=k) (m:=min k (n - k)) Ko Ko Ko x;have L3:(Hf (min k (n - k)) (zcV n k x)).length=min k (n - k):=by rw[Ge,hql];omega
   have S3:(Hf (min k (n - k)) (zcV n k x)).all zax=true:=by
    rw[List.all_eq_true];intro y hy;have:=List.mem_of_mem_take hy;unfold zcV at this;rw[Ug,List.mem_replicate,List.mem_replicate] at this;rcases this with ⟨_,rfl⟩| ⟨_,rfl⟩ <;> rfl
   repeat' first
    |with_reducible first|refine Zd ?_ |refine Ae (fun _=>?_) fun _=>?_ |refine Nb fun nb A0 C0 B0=>?_ |refine Nr fun nb D0 E0 A0 I0 C0 B0=>?_
    |with_reducible refine Tri.drawM tok mixed zvR 9 [] (.op 0 .plain (.op 1 .plain (.op 2 .plain (.op 3 .plain (.op 4 .plain (.op 5 .plain (.op 6 .plain (.op 7 .keeps (.op 8 .plain (.op 9 .plain .nil)))))))))) Kk [] (List.nil_sublist _) ?_
    |simp -dsimp -implicitDefEqProofs (disch:=first|exact Kd|fail) only[go_sem,↓reduceIte,seval,hsa,Nat.sub_zero,L3,S3,Z7]
   exact Ce ⟨q - min k (n - k),by omega,k+min k (n - k),by omega,by omega,by omega,rfl,rfl,rfl⟩
  ·obtain rfl:k=n:=by omega
   repeat' first
    |with_reducible first|refine Zd ?_ |refine Ae (fun _=>?_) fun _=>?_ |refine Nb fun nb A0 C0 B0=>?_ |refine Nr fun nb D0 E0 A0 I0 C0 B0=>?_
    |simp -dsimp -implicitDefEqProofs (disch:=first|exact Kd|fail) only[go_sem,↓reduceIte,seval]
   rw[zvZ];unfold zo;exact Ce (hR nb V0)
def atR (n:Nat) (l:List Int):List Value:=(Hg n).map fun t:Nat=> .int .i64 (zw l (t:Int))
theorem zeO (n:Nat) (l:List Int):(atR n l).length=n:=by simp [atR]
theorem zqw {n:Nat} (l:List Int) {t:Nat} (h:t<n):(atR n l)[t]? =some (.int .i64 (zw l (t:Int))):=by
 unfold atR;rw[List.getElem?_map,List.getElem?_range h];rfl
theorem zkk {n:Nat} (l:List Int) {t:Nat} (h:t<n):(atR n l)[t]'(by rw[zeO];exact h)= .int .i64 (zw l (t:Int)):=by simp [atR]
theorem zt1 (x:Int):zw [] x= -1:=rfl
theorem zxS (n:Nat):Fe n (Yd .i64 (-1))=atR n []:=by
 apply Tg
 ·simp [atR]
 ·intro i h1 h2;simp [atR,zt1]
theorem zr5 {l:List Int} {s t:Int} (h:s∉l):zw (l++[s]) t=if t=s then(l.length:Int) else zw l t:=by
 by_cases e:t=s
 ·subst e;rw[if_pos rfl];unfold zw;rw[zfb h]
 ·rw[if_neg e];by_cases ht:t∈l
  ·unfold zw;rw[zmg ht]
  ·have h2:t∉l++[s]:=by
    rw[Ug,Vg];rintro(h3|h3)
    ·exact ht h3
    ·exact e h3
   unfold zw;rw[zbo ht,zbo h2]
theorem zxT {n:Nat} {l:List Int} {s:Nat} (hs:s<n) (h:(s:Int)∉l):zf (atR n l) s [.int .i64 (l.length:Nat)]=atR n (l++[(s:Int)]):=by
 unfold zf;apply Tg
 ·simp [zeO];omega
 ·intro j h1 h2;rw[zeO] at h2;rw[zkk _ h2,zr5 h];have hl:((atR n l).take s).length=s:=by rw[Ge,zeO];omega
  rcases Nat.lt_trichotomy j s with hj|hj|hj
  ·rw[Ag (by rw[Ve,hl];omega),Ag Ko,List.getElem_take,zkk l h2,if_neg Ko]
  ·subst hj;rw[Ag (by rw[Ve,hl];simp),Ng Ko];simp [hl]
  ·rw[Ng (by rw[Ve,hl];simp;omega),List.getElem_drop,if_neg Ko];simp only[Ve,hl,Bg];have:(atR n l)[s+1+(j - (s+1))]'(by rw[zeO];omega)=(atR n l)[j]'(by rw[zeO];exact h2):=by congr 1;omega
   rw[this,zkk l h2]
theorem zcr {l:List Int} {t:Int}:0≤zw l t↔t∈l:=by
 constructor
 ·intro h
  exact Zg fun hn=>by
   unfold zw at h;rw[zbo hn] at h;simp at h
 ·intro h;obtain⟨n,hn⟩:=zaf h;unfold zw;rw[hn];exact Int.natCast_nonneg n
theorem zoD:V.Callee Tryz.prog 123:=⟨_,_,Tryz.func123,rfl,by kernel_rfl⟩
theorem zv1 {n:Nat} (h1:1≤n) (hn:n≤65536) {l:List Int} (hl:l.length≤2000000) {G:zb} {H:za} {R:Value→zb→za→Prop} {v:Value} (hv:Sl G (Yd .i64) v l)
  (hR: ∀G' b,PLe G G'→Sep G' (b::zm H)→zaL n l→R (.tuple #[.slice (some ⟨b,0,none⟩) n n, .bool (decide (l.head? =some 0))]) G' ((b, .cells (atR n l) [] 3)::H))
  (hR2: ∀G',PLe G G'→Sep G' (zm H)→ ¬zaL n l→R (.tuple #[.slice none 0 0, .bool false]) G' H):FnT Tryz.prog 92 [.int .i64 (n:Nat),v] G H R:=by
 obtain⟨a,cap,rfl,U0,D5⟩:=hv;refine Ee tok zr1 Tryz.func92 rfl Kk Kk Kn fun M0=>?_;rw[Tryz.results92];have hE:=M0;try simp only[zzs] at hE
 repeat(obtain⟨J0,hE⟩:=hE)
 repeat' first
  |with_reducible first|refine Zd ?_ |refine Ae (fun _=>?_) fun _=>?_ |refine Nb fun nb A0 C0 B0=>?_ |refine Nr fun nb D0 E0 A0 I0 C0 B0=>?_
  |simp -dsimp -implicitDefEqProofs (disch:=first|exact Kd|fail) only[go_sem,↓reduceIte,seval,Zh]
 refine FnT.pre zoD (Jf Ka fun G2 Q0 R0 V1=>?_);refine zv0 (x:= -1) h1 hn ⟨some ⟨nb,0,none⟩,1,rfl,V1,Qe 1⟩ fun b hb=>?_;rw[zxS];have hE:=hb;try simp only[zzs] at hE
 repeat(obtain⟨J0,hE⟩:=hE)
 have Ya:=U0.mono Q0
 repeat' first
  |with_reducible first|refine Zd ?_ |refine Ae (fun _=>?_) fun _=>?_ |refine Nb fun nb A0 C0 B0=>?_ |refine Nr fun nb D0 E0 A0 I0 C0 B0=>?_
  |simp -dsimp -implicitDefEqProofs (disch:=first|exact Kd|fail) only[go_sem,↓reduceIte,seval]
 refine Je tok zr1 Kk [0,1,4,5,6,12,13,14] (fun q G' fr H'=> ∃i:Nat,i+q=l.length∧zaL n (l.take i)∧G'=G2∧H'=(b, .cells (atR n (l.take i)) [] 3)::H∧fr=[(0, .int .i64 (n:Nat)),(1, .slice a l.length cap),(4, .slice none 0 0),(5, .bool false),(6, .slice (some ⟨b,0,none⟩) n n),(12, .slice a l.length cap),(13, .int .i64 l.length),(14, .int .i64 (i:Nat))]) (l.length) ?_ ?_
 ·refine Ce ?_;exact⟨0,by omega,⟨by rw[Se];exact List.nodup_nil,fun x hx=>by rw[Se] at hx;cases hx⟩,rfl,by rw[Se],rfl⟩
 ·rintro q G1 fr H' S0 V0 ⟨i,Q5,hO,rfl,rfl,rfl⟩;have hE:=V0;try simp only[zzs] at hE
  repeat(obtain⟨J0,hE⟩:=hE)
  by_cases Y0:i<l.length
  ·have B3:Adr a:=U0.adr (by rw[Be];omega);have B2:=Re Y0;have L3:(l.take i).length=i:=by rw[Ge];omega
   by_cases W5:l[i] <0∨(n:Int)≤l[i]∨l[i]∈l.take i
   ·have B1: ¬zaL n l:=fun h=>by
     rcases W5 with R3|R3|R3
     ·have:=(h.2 _ (Me Y0)).1;omega
     ·have:=(h.2 _ (Me Y0)).2;omega
     ·have h2:=h.1.sublist (List.take_sublist (i+1) l);rw[B2,Gi] at h2;exact h2.2.2 _ R3 _ (List.mem_singleton.2 rfl) rfl
    by_cases hr:0≤l[i]∧l[i] <n
    ·obtain⟨s,hs⟩:=Dg hr.1;have I1:s<n:=by omega
     have Z5:l[i]∈l.take i:=by rcases W5 with R3|R3|R3 <;> first|omega|exact R3
     rw[hs] at Z5;have hg:=zqw (l.take i) I1;have hf:=zcr.2 Z5;generalize hfv:zw (l.take i) (s:Int)=fv at *
     repeat' first
      |with_reducible first|refine Zd ?_ |refine Ae (fun _=>?_) fun _=>?_ |refine Nb fun nb A0 C0 B0=>?_ |refine Nr fun nb D0 E0 A0 I0 C0 B0=>?_
      |simp -dsimp -implicitDefEqProofs (disch:=first|exact Kd|fail) only[go_sem,↓reduceIte,seval,Ie Ya,Le,hs,hg]
     all_goals try(exfalso;omega)
     unfold zo;exact Oe (H':=H) Ks (Ce (hR2 G1 Q0 Ka B1))
    ·repeat' first
      |with_reducible first|refine Zd ?_ |refine Ae (fun _=>?_) fun _=>?_ |refine Nb fun nb A0 C0 B0=>?_ |refine Nr fun nb D0 E0 A0 I0 C0 B0=>?_
      |simp -dsimp -implicitDefEqProofs (disch:=first|exact Kd|fail) only[go_sem,↓reduceIte,seval,Ie Ya,Le]
     all_goals try(exfalso;omega)
     all_goals unfold zo
     all_goals exact Oe (H':=H) Ks (Ce (hR2 G1 Q0 Ka B1))
   ·have R3:0≤l[i]∧l[i] <n:=by omega
    have F4:l[i]∉l.take i:=fun h=>W5 (.inr (.inr h));obtain⟨s,hs⟩:=Dg R3.1;have I1:s<n:=by omega
    have hO2:zaL n (l.take (i+1)):=by
     have h3:=hO.add1 R3;unfold add1 at h3;rw[if_neg F4,←B2] at h3;exact h3
    rw[hs] at F4;have hg:=zqw (l.take i) I1
    have hf:zw (l.take i) (s:Int) <0:=by
     rcases Int.lt_or_le (zw (l.take i) (s:Int)) 0 with h|h
     ·exact h
     ·exact absurd (zcr.1 h) F4
    have M3:=zxT I1 F4;rw[L3,←hs,←B2] at M3;have hal:=zeO n (l.take i);generalize hfv:zw (l.take i) (s:Int)=fv at *
    repeat' first
     |with_reducible first|refine Zd ?_ |refine Ae (fun _=>?_) fun _=>?_ |refine Nb fun nb A0 C0 B0=>?_ |refine Nr fun nb D0 E0 A0 I0 C0 B0=>?_
     |simp -dsimp -implicitDefEqProofs (disch:=first|exact Kd|fail) only[go_sem,↓reduceIte,seval,Ie Ya,Le,hs,hg,M3]
    all_goals try(exfalso;omega)
    exact Ce ⟨q - 1,by omega,i+1,by omega,hO2,rfl,rfl,rfl⟩
  ·obtain rfl:i=l.length:=by omega
   rw[Te] at hO V0⊢;by_cases A9:l.length=0
   ·have D4:l=[]:=Df A9;have hh:decide (l.head? =some 0)=false:=by rw[D4];rfl
    rw[hh] at hR
    repeat' first
     |with_reducible first|refine Zd ?_ |refine Ae (fun _=>?_) fun _=>?_ |refine Nb fun nb A0 C0 B0=>?_ |refine Nr fun nb D0 E0 A0 I0 C0 B0=>?_
     |with_reducible refine Vf tok mixed zr1 9 [7] (.op 0 .plain (.op 1 .plain (.op 2 .plain (.op 3 .plain (.op 4 .plain (.op 5 .plain (.op 6 .plain (.op 7 .held (.op 8 .plain (.op 9 .plain (.op 10 .plain (.op 11 .plain .nil)))))))))))) Kk [1] ?_
     |simp -dsimp -implicitDefEqProofs (disch:=first|exact Kd|fail) only[go_sem,↓reduceIte,seval]
    all_goals try(exfalso;omega)
    unfold zo;exact Ce (hR G1 b Q0 V0 hO)
   ·have h0l:0<l.length:=by omega
    have B3:Adr a:=U0.adr (by rw[Be];omega);have hhd:l.head? =some l[0]:=by rw[List.head?_eq_getElem?,Xe h0l]
    have hh:decide (l.head? =some 0)=decide (l[0]=0):=by rw[hhd];simp
    rw[hh] at hR
    have O8: ∀ (H:za) (k:Value→Prop),zen G1 H (blk a) (G1 (blk a)) (ofs a) k=k (.int .i64 l[0]):=fun H k=>by
     have:=Ie Ya (i:=0) (by rw[Be];omega) H k;rw[Nat.add_zero,Le] at this;exact this
    repeat' first
     |with_reducible first|refine Zd ?_ |refine Ae (fun _=>?_) fun _=>?_ |refine Nb fun nb A0 C0 B0=>?_ |refine Nr fun nb D0 E0 A0 I0 C0 B0=>?_
     |with_reducible refine Vf tok mixed zr1 9 [7] (.op 0 .plain (.op 1 .plain (.op 2 .plain (.op 3 .plain (.op 4 .plain (.op 5 .plain (.op 6 .plain (.op 7 .held (.op 8 .plain (.op 9 .plain (.op 10 .plain (.op 11 .plain .nil)))))))))))) Kk [1] ?_
     |simp -dsimp -implicitDefEqProofs (disch:=first|exact Kd|fail) only[go_sem,↓reduceIte,seval,O8]
    all_goals try(exfalso;omega)
    unfold zo;exact Ce (hR G1 b Q0 V0 hO)
theorem zv2 (n:Nat) (l:List Int):atR n l=((Hg n).map fun t:Nat=>zw l (t:Int)).map (Yd .i64):=by
 unfold atR;rw[List.map_map];rfl
def zcJ (d:DfaT) (l:List Int) (s:Int):List Int:=(zJ d s).map (zw l)
def zal (d:DfaT) (l:List Int):List Int:=l.map fun s=>d.label.getD s.toNat 0
def zai (d:DfaT) (l:List Int):DfaT:=⟨d.of,d.width,l.map (zcJ d l),zal d l,d.names⟩
def zfE (d:DfaT) (l:List Int) (s:Int):Prop:= ∀t∈zJ d s,t∈l
def zbO (d:DfaT) (l:List Int):Prop:=(zaL d.label.length l∧l.head? =some 0)∧ ∀s∈l,zfE d l s
noncomputable def zeu (d:DfaT) (l:List Int):DfaT×Int:=
 haveI:=Mf;if zg d then if zbO d l then(zai d l,0) else(zah,1) else(zah,6)
theorem zmz {d:DfaT} {l:List Int} (h: ¬zg d):zeu d l=(zah,6):=by unfold zeu;rw[if_neg h]
theorem zdp {d:DfaT} {l:List Int} (h:zg d) (h2: ¬zbO d l):zeu d l=(zah,1):=by unfold zeu;rw[if_pos h,if_neg h2]
theorem zh2 {d:DfaT} {l:List Int} (h:zg d) (h2:zbO d l):zeu d l=(zai d l,0):=by unfold zeu;rw[if_pos h,if_pos h2]
def zg4 (d:DfaT) (l:List Int) (j:Nat) (vl:Value) (kl:za):Prop:=
 (j=0∧vl= .slice none 0 0∧kl=[])∨ ∃bl c2 sp2,vl= .slice (some ⟨bl,0,none⟩) j c2∧kl=[(bl, .cells (((zal d l).take j).map (Yd .i64)) sp2 3)]∧j+sp2.length=c2
theorem zAa {d:DfaT} (P0:zr d) {C:List Value} {an al ay:Option Addr} {cn cl cs:Nat} {rs:List Value} {G:zb} {H:za} (O:OpenD G d C an al ay cn cl cs rs) {v0 v1 v6 v7:Value} {b2 b4:Nat}:
  Tri Tryz.prog Tryz.f62.ntmps (piece [1,1,1,1,0] Tryz.f62) G [(0,v0),(1,v1),(2, .pointer (some ⟨b2,0,none⟩)),(4, .pointer (some ⟨b4,0,none⟩)),(5, .int .i64 0),(6,v6),(7,v7)] ((b4, .cells zz [] 27):: (b2, .cells C [] 27)::H) (onlyN fun G' fr' H'=>
   ∃b7 vs,PLe G G'∧Sl G' str vs d.names∧zy [0,1,2,4,5,6,7,8] fr'=[(0,v0),(1,v1),(2, .pointer (some ⟨b2,0,none⟩)),(4, .pointer (some ⟨b4,0,none⟩)),(5, .int .i64 0),(6,v6),(7,v7),(8, .pointer (some ⟨b7,0,none⟩))]∧H'=(b7, .cells (zc d (.slice none 0 0) (.slice none 0 0) vs) [] 27):: (b4, .cells zz [] 27):: (b2, .cells C [] 27)::H):=by
 obtain⟨U3,M2,V3,A4,M4⟩:=id P0;have N0:=O.len;have D1:=O.w;have S2:=O.s;have E4:=O.of;have R5:(u8L d.of).length=256:=by rw[Be,O.ofl]
 have R3:=zdl O.ofl;have F4:=zc2 O.ofl;have D4:(u8L d.of++[Yd .i64 0,Wf none 0 0,Wf none 0 0,Wf none 0 0]).length=260:=by rw[Ve,R5];rfl
 have Z0: ∀v:Value,(zc d (.slice none 0 0) (.slice none 0 0) v).length=260:=fun v=>zN O.ofl _ _ _;have hb3:=zcG O.ofl (.slice none 0 0) (.slice none 0 0) (.slice none 0 0)
 have T4: ∀v:Value,zf zz 0 (zc d (.slice none 0 0) (.slice none 0 0) v)=zc d (.slice none 0 0) (.slice none 0 0) v:=fun v=>by
  unfold zf;rw[Se,Af,Gf (by rw[zj,Z0];omega),Bf]
 refine Tri.sepT fun M1=>?_;have hE:=M1;try simp only[zzs] at hE
 repeat(obtain⟨J0,hE⟩:=hE)
 refine Xg (f:=Tryz.f62) rfl ?_;refine Yg tok zdH Kk ?_
 repeat' first
  |with_reducible first|refine Zd ?_ |refine Ae (fun _=>?_) fun _=>?_ |refine Nb fun nb A0 C0 B0=>?_ |refine Nr fun nb D0 E0 A0 I0 C0 B0=>?_
  |with_reducible refine Vf tok mixed zdH 6 [1,3,5] (.op 0 .plain (.op 1 .held (.op 2 .plain (.op 3 .held (.op 4 .plain (.op 5 .held (.both (.op 6 .keeps (.op 7 .plain (.op 8 .keeps (.op 9 .plain .nil)))) (.op 8 .keeps (.op 6 .keeps (.op 7 .plain (.op 9 .plain .nil))))))))))) Kk [2] ?_
  |with_reducible refine Tri.drawM tok mixed zdH 19 [1,3,6] (.op 0 .plain (.op 1 .held (.op 2 .plain (.op 3 .held (.op 4 .plain (.op 5 .plain (.op 6 .held (.op 7 .keeps (.op 8 .keeps (.op 9 .plain (.op 10 .plain .nil))))))))))) Kk _ (List.Sublist.refl _) ?_
  |simp -dsimp -implicitDefEqProofs (disch:=first|exact Kd|fail) only[go_sem,↓reduceIte,seval, -He,Ye,N0,D1,S2,E4,R5,R3,F4,hb3,D4,Z0,zj,zG,T4]
  | ((with_reducible refine zhP d.names A4 O.names fun G4 v4 Z1 S1 Za=>?_);obtain⟨ay4,cy4,rfl,S7,hc4⟩:=Za;have S3:=zaC (d:=d) (vn:= .slice none 0 0) (vl:= .slice none 0 0) (vs:= .slice ay4 d.names.length cy4) rfl rfl rfl;(have hE:=S1;try simp only[zzs] at hE;repeat(obtain⟨J0,hE⟩:=hE)))
  | (with_reducible refine And.intro ?_ ?_)
 all_goals exact Ce ⟨nb,_,Z1,⟨ay4,cy4,rfl,S7,hc4⟩,rfl,rfl⟩
theorem zt2 {d:DfaT} {l:List Int} {C:List Value} {an al ay:Option Addr} {cn cl cs:Nat} {rs:List Value} {G:zb} {H:za} (O:OpenD G d C an al ay cn cl cs rs) {v0 v1 v6 v7 v35 v36 v37:Value} {b2 b4 b7:Nat} {j t:Nat} (hj:j<l.length) (H6:j<65536) (ht:t<d.label.length) (A3:l[j]=(t:Int)) {vn vl vs:Value} {kl:za} (H8:zg4 d l j vl kl):
  Tri Tryz.prog Tryz.f62.ntmps (piece [1,1,1,1,1,0,1,0,0,1,1,0,0,1,1,1,1] Tryz.f62) G [(0,v0),(1,v1),(2, .pointer (some ⟨b2,0,none⟩)),(4, .pointer (some ⟨b4,0,none⟩)),(5, .int .i64 0),(6,v6),(7,v7),(8, .pointer (some ⟨b7,0,none⟩)),(10, .int .i64 (t:Nat)),(37,v35),(38,v36),(39,v37)] ((b7, .cells (zc d vn vl vs) [] 27):: (b2, .cells C [] 27):: (kl++H)) (onlyN fun G' fr' H'=>
   ∃vl' kl',G'=G∧zg4 d l (j+1) vl' kl'∧zy [0,1,2,4,5,6,7,8,37,38,39] fr'=[(0,v0),(1,v1),(2, .pointer (some ⟨b2,0,none⟩)),(4, .pointer (some ⟨b4,0,none⟩)),(5, .int .i64 0),(6,v6),(7,v7),(8, .pointer (some ⟨b7,0,none⟩)),(37,v35),(38,v36),(39,v37)]∧H'=(b7, .cells (zc d vn vl' vs) [] 27):: (b2, .cells C [] 27):: (kl'++H)):=by
 have N0:=O.len;have X0:=O.l;have Z0: ∀a b c:Value,(zc d a b c).length=260:=fun a b c=>zN O.ofl _ _ _;have P2: ∀a b c:Value,(zc d a b c)[258]? =some b:=fun a b c=>zbz O.ofl _ _ _;have K4: ∀a b c x:Value,zf (zc d a b c) 258 [x]=zc d a x c:=fun a b c x=>zaH O.ofl _ _ _ _;have J2:d.label[t]=d.label.getD t 0:=by rw[Fg,Xe ht];rfl
 have L5:(zal d l).take (j+1)=(zal d l).take j++[d.label.getD t 0]:=by
  have U4:j< (zal d l).length:=by unfold zal;rw[Be];exact hj
  rw[Re U4];congr 2;simp only[zal,Le,A3,Yf]
 have L7:((zal d l).take j).length=j:=by rw[Ge];unfold zal;rw[Be];omega
 have V6:Adr al:=O.rl.adr (by rw[Be];omega);refine Tri.sepT fun M1=>?_;rcases H8 with ⟨X2,rfl,rfl⟩| ⟨bl,c2,sp2,rfl,rfl,J4⟩
 ·have hE:=M1;try simp only[zzs] at hE
  repeat(obtain⟨J0,hE⟩:=hE)
  have T2:((zal d l).take (j+1)).map (Yd .i64)=[Yd .i64 (d.label.getD t 0)]:=by rw[L5,Ke,Df (L7.trans X2)];rfl
  refine Xg (f:=Tryz.f62) rfl ?_;refine Yg tok zdH Kk ?_
  repeat' first
   |with_reducible first|refine Zd ?_ |refine Ae (fun _=>?_) fun _=>?_ |refine Nb fun nb A0 C0 B0=>?_ |refine Nr fun nb D0 E0 A0 I0 C0 B0=>?_
   |simp -dsimp -implicitDefEqProofs (disch:=first|exact Kd|fail) only[go_sem,↓reduceIte,seval, -He,Zh,Ye,N0,X0,Z0,P2,K4,Ie O.rl,Le,J2,Yf,Og]
   |with_reducible refine Vf tok mixed zdH 19 [1,3,6] (.op 0 .plain (.op 1 .held (.op 2 .plain (.op 3 .held (.op 4 .plain (.op 5 .plain (.op 6 .held (.op 7 .keeps (.op 8 .keeps (.op 9 .plain (.op 10 .plain .nil))))))))))) Kk [8,2] ?_
  rw[←T2];exact Oe (H':=(b7, .cells (zc d vn (.slice (some ⟨nb,0,none⟩) 1 E0) vs) [] 27):: (b2, .cells C [] 27):: ([(nb, .cells (((zal d l).take (j+1)).map (Yd .i64)) D0 3)]++H)) Ks (Ce ⟨.slice (some ⟨nb,0,none⟩) 1 E0,_,rfl, .inr ⟨nb,E0,D0,by rw[X2],rfl,by omega⟩,rfl,rfl⟩)
 ·have hE:=M1;try simp only[zzs] at hE
  repeat(obtain⟨J0,hE⟩:=hE)
  obtain⟨ps,Q6,J3⟩: ∃ps,ps=((zal d l).take j).map (Yd .i64)∧ps.length=j:=⟨_,rfl,by rw[Be,L7]⟩;have T2:((zal d l).take (j+1)).map (Yd .i64)=ps++[Yd .i64 (d.label.getD t 0)]:=by rw[L5,Ke,←Q6];rfl
  rw[←Q6];refine Xg (f:=Tryz.f62) rfl ?_;refine Yg tok zdH Kk ?_
  repeat' first
   |with_reducible first|refine Zd ?_ |refine Ae (fun _=>?_) fun _=>?_ |refine Nb fun nb A0 C0 B0=>?_ |refine Nr fun nb D0 E0 A0 I0 C0 B0=>?_
   |simp -dsimp -implicitDefEqProofs (disch:=first|exact Kd|fail) only[go_sem,↓reduceIte,seval, -He,Zh,Ye,N0,X0,Z0,P2,K4,Ie O.rl,Le,J2,Yf,Og]
   |with_reducible refine Vf tok mixed zdH 19 [1,3,6] (.op 0 .plain (.op 1 .held (.op 2 .plain (.op 3 .held (.op 4 .plain (.op 5 .plain (.op 6 .held (.op 7 .keeps (.op 8 .keeps (.op 9 .plain (.op 10 .plain .nil))))))))))) Kk [8,2] ?_
  rw[←T2];exact Oe (H':=(b7, .cells (zc d vn (.slice (some ⟨nb,0,none⟩) (j+1) E0) vs) [] 27):: (b2, .cells C [] 27):: ([(nb, .cells (((zal d l).take (j+1)).map (Yd .i64)) D0 3)]++H)) Ks (Ce ⟨_,_,rfl, .inr ⟨nb,E0,D0,rfl,rfl,by omega⟩,rfl,rfl⟩)
def zlX (d:DfaT) (l:List Int) (G':zb) (j:Nat) (vn:Value) (kn:za):Prop:=
 (j=0∧vn= .slice none 0 0∧kn=[])∨ ∃bn c1 rv sp1,vn= .slice (some ⟨bn,0,none⟩) j c1∧kn=[(bn, .cells rv sp1 24)]∧rv.length=j∧j+sp1.length=c1∧
  ∀i (h:i<j) (h2:i<rv.length) (h3:i<l.length),∃b c,rv[i]= .slice b (zcJ d l l[i]).length c∧Row G' b ((zcJ d l l[i]).map (Yd .i64))∧(zcJ d l l[i]).length≤c
theorem zAy {d:DfaT} (P0:zr d) (K0:zg d) {l:List Int} (hO:zaL d.label.length l) {C:List Value} {an al ay:Option Addr} {cn cl cs:Nat} {rs:List Value} {G:zb} {H:za} (O:OpenD G d C an al ay cn cl cs rs) {v0 v1 v7:Value} {b2 b4 b7:Nat} {an3 ah:Option Addr} {cn3 ch:Nat} (D2:Row G an3 (((Hg d.label.length).map fun t:Nat=>zw l (t:Int)).map (Yd .i64))) (S4:Row G ah ((l).map (Yd .i64))) {j:Nat} (hj:j<l.length) {vn vl vs:Value} {kn kl:za} (H8:zlX d l G j vn kn) (M9:zg4 d l j vl kl) (J6:zax vs=true) (Bb:zfE d l (l[j]'hj)):
  Tri Tryz.prog Tryz.f62.ntmps (piece [1,1,1,1,1,0,1,0,0,1,1,0,0] Tryz.f62) G [(0,v0),(1,v1),(2, .pointer (some ⟨b2,0,none⟩)),(4, .pointer (some ⟨b4,0,none⟩)),(5, .int .i64 0),(6, .slice an3 d.label.length cn3),(7,v7),(8, .pointer (some ⟨b7,0,none⟩)),(37, .slice ah l.length ch),(38, .int .i64 l.length),(39, .int .i64 (j:Nat))] ((b7, .cells (zc d vn vl vs) [] 27):: (b2, .cells C [] 27):: (kn++(kl++H))) (onlyN fun G' fr' H'=>
   ∃vn' vl' kn' kl',PLe G G'∧zlX d l G' (j+1) vn' kn'∧zg4 d l (j+1) vl' kl'∧zy [0,1,2,4,5,6,7,8,37,38,39] fr'=[(0,v0),(1,v1),(2, .pointer (some ⟨b2,0,none⟩)),(4, .pointer (some ⟨b4,0,none⟩)),(5, .int .i64 0),(6, .slice an3 d.label.length cn3),(7,v7),(8, .pointer (some ⟨b7,0,none⟩)),(37, .slice ah l.length ch),(38, .int .i64 l.length),(39, .int .i64 (j:Nat))]∧H'=(b7, .cells (zc d vn' vl' vs) [] 27):: (b2, .cells C [] 27):: (kn'++(kl'++H))):=by
 obtain⟨U3,M2,V3,A4,M4⟩:=id P0;obtain⟨Y2,K2,U2,N3,X3,Y3,Y1⟩:=id K0;have hal:(((Hg d.label.length).map fun t:Nat=>zw l (t:Int)).map (Yd .i64)).length=d.label.length:=by rw[Be,Be,Qh]
 have N0:=O.len;have D1:=O.w;have J1:=O.n;have X0:=O.l;have Z0: ∀a b c:Value,(zc d a b c).length=260:=fun a b c=>zN O.ofl _ _ _;have Z2: ∀a b c:Value,(zc d a b c)[257]? =some a:=fun a b c=>zcx O.ofl _ _ _;have P2: ∀a b c:Value,(zc d a b c)[258]? =some b:=fun a b c=>zbz O.ofl _ _ _;have U5: ∀a b c x:Value,zf (zc d a b c) 257 [x]=zc d x b c:=fun a b c x=>zbi O.ofl _ _ _ _;have K4: ∀a b c x:Value,zf (zc d a b c) 258 [x]=zc d a x c:=fun a b c x=>zaH O.ofl _ _ _ _;have Z9:=hO.2 _ (Me hj);obtain⟨t,A3⟩:=Dg Z9.1;have L3:t<d.label.length:=by omega
 have L1:t<d.next.length:=by omega
 have K7:t<d.label.length:=by omega
 have V8:t<rs.length:=by have:=O.rnl;omega
 obtain⟨b,c,e1,e2,e3⟩:=O.rs t L1 V8;obtain⟨I3,Ib,Ra,Y7⟩:=Y1 t L1 K7;obtain⟨row,U0⟩: ∃row,row=d.next[t]:=⟨_,rfl⟩;have I2:=M2 _ (Me L1);rw[←U0] at e1 e2 e3 I3 Y7 I2;have hw:d.width=(row.length:Int):=I3.symm;obtain⟨r,hr⟩: ∃r,r=zcJ d l (t:Nat):=⟨_,rfl⟩;have I8:r=row.map (zw l):=by rw[hr];unfold zcJ;rw[zas L1,U0]
 have L4: ∀x∈row,x∈l:=fun x hx=>by
  have h1:=Bb x;rw[A3,zas L1,←U0] at h1;exact h1 hx
 have I5:r.length=row.length:=by rw[I8,Be]
 have J2:d.label[t]=d.label.getD t 0:=by rw[Fg,Xe K7];rfl
 have L5:(zal d l).take (j+1)=(zal d l).take j++[d.label.getD t 0]:=by
  have U4:j< (zal d l).length:=by unfold zal;rw[Be];exact hj
  rw[Re U4];congr 2;simp only[zal,Le,A3,Yf]
 have L7:((zal d l).take j).length=j:=by rw[Ge];unfold zal;rw[Be];omega
 have Y5:zcJ d l l[j]=r:=by rw[A3,hr]
 have B3:Adr an:=O.rn.adr Ko;have V6:Adr al:=O.rl.adr (by rw[Be];omega);have Xa:Adr ah:=S4.adr (by rw[Be];omega);have Yc:Adr an3:=D2.adr (by rw[Be,Be,Qh];omega)
 have H6:j<65536:=by
  have h1:=hO.len;omega
 refine Tri.sepT fun M1=>?_;have hE:=M1;try simp only[zzs] at hE
 repeat(obtain⟨J0,hE⟩:=hE)
 refine Xg (f:=Tryz.f62) rfl ?_;refine Tri.runS tok zdH (.seq .run (.seq .run (.seq .run (.seq .run .cut)))) Kk ?_
 repeat' first
  |with_reducible first|refine Zd ?_ |refine Ae (fun _=>?_) fun _=>?_ |refine Nb fun nb A0 C0 B0=>?_ |refine Nr fun nb D0 E0 A0 I0 C0 B0=>?_
  |simp -dsimp -implicitDefEqProofs (disch:=first|exact Kd|fail) only[go_sem,↓reduceIte,seval, -He,Ye,N0,D1,J1,X0,hw,Z0,Z2,P2,U5,K4,Ie S4,Ie O.rn,e1,Ie O.rl,Ie D2,Le,A3,J2,Yf,Og,Wh]
 revert nb;intro br hbr hbr1 hbr2;rw[show Fe row.length (Yd .i64 0)=(zbq r 0).map (Yd .i64) by rw[←I5,zfB]];refine Je tok zdH Kk [0,1,2,4,5,6,7,8,10,11,37,38,39,50,51,52] (fun q G' fr H'=> ∃k:Nat,k+q=row.length∧G'=G∧H'=(br, .cells ((zbq r k).map (Yd .i64)) [] 3):: (b7, .cells (zc d vn vl vs) [] 27):: (b2, .cells C [] 27):: (kn++(kl++H))∧fr=[(0,v0),(1,v1),(2, .pointer (some ⟨b2,0,none⟩)),(4, .pointer (some ⟨b4,0,none⟩)),(5, .int .i64 0),(6, .slice an3 d.label.length cn3),(7,v7),(8, .pointer (some ⟨b7,0,none⟩)),(10, .int .i64 (t:Nat)),(11, .slice (some ⟨br,0,none⟩) row.length row.length),(37, .slice ah l.length ch),(38, .int .i64 l.length),(39, .int .i64 (j:Nat)),(50, .slice b row.length c),(51, .int .i64 row.length),(52, .int .i64 (k:Nat))]) (row.length) ?_ ?_
 ·refine Ce ?_;exact⟨0,by omega,rfl,rfl,rfl⟩
 ·rintro q G1 fr H' S0 hs ⟨k,hk,rfl,rfl,rfl⟩;have J3:(zbq r k).length=row.length:=by rw[zgD r Ko,I5]
  by_cases Q2:k<row.length
  ·have hE:=hs;try simp only[zzs] at hE
   repeat(obtain⟨J0,hE⟩:=hE)
   have D7:k<r.length:=by omega
   have Cd:Adr b:=e2.adr (by rw[Be];omega);have hx:=Y7 _ (Me Q2);obtain⟨y,Z4⟩:=Dg hx.1;have hym:y<d.label.length:=by omega
   have P5:zw l (y:Nat)=r[k]:=by
    simp only[I8,Le];rw[Z4]
   have Ta:0≤r[k]:=by
    rw[←P5];refine zcr.2 ?_;rw[←Z4];exact L4 _ (Me Q2)
   have M3:=zgE D7
   repeat' first
    |with_reducible first|refine Zd ?_ |refine Ae (fun _=>?_) fun _=>?_ |refine Nb fun nb A0 C0 B0=>?_ |refine Nr fun nb D0 E0 A0 I0 C0 B0=>?_
    |simp -dsimp -implicitDefEqProofs (disch:=first|exact Kd|fail) only[go_sem,↓reduceIte,seval, -He,Ie e2,Ie D2,Le,Ci,Z4,P5,M3,J3,Yf]
   all_goals try(exfalso;omega)
   refine Ce ?_;exact⟨q - 1,by omega,k+1,by omega,rfl,rfl,rfl⟩
  ·obtain rfl:k=row.length:=by omega
   have hpa:zbq r row.length=r:=by rw[←I5];exact ziL r
   rw[hpa] at hs⊢;rcases H8 with ⟨X2,rfl,rfl⟩| ⟨bn,c1,rv,sp1,rfl,rfl,T3,V7,F5⟩
   ·have hE:=hs;try simp only[zzs] at hE
    repeat(obtain⟨J0,hE⟩:=hE)
    repeat' first
     |with_reducible first|refine Zd ?_ |refine Ae (fun _=>?_) fun _=>?_ |refine Nb fun nb A0 C0 B0=>?_ |refine Nr fun nb D0 E0 A0 I0 C0 B0=>?_
     |simp -dsimp -implicitDefEqProofs (disch:=first|exact Kd|fail) only[go_sem,↓reduceIte,seval, -He,Be,L7,Zh,Ye,N0,D1,J1,X0,hw,Z0,Z2,P2,U5,K4,Ie S4,Ie O.rn,e1,Ie O.rl,Ie D2,Le,A3,J2,Yf,Og,Wh]
    refine Tri.upd (Oe (H':=(b7, .cells (zc d (.slice (some ⟨nb,0,none⟩) 1 E0) vl vs) [] 27):: (b2, .cells C [] 27):: (kl++((br, .cells (r.map (Yd .i64)) [] 3):: (nb, .cells [.slice (some ⟨br,0,none⟩) row.length row.length] D0 24)::H))) Ks (Ce ?_));refine Ch [0,1,2,4,5,6,7,8,10,37,38,39] ?_;refine Ah [1,1,1,1,1,0,1,0,0,1,1,0,0,1,1,1,1] Tryz.f62 Kk ?_;refine Tri.onlyN (zt2 O hj H6 K7 A3 M9) fun G5 l5 H5 A2 P1 hM=>?_;obtain⟨vl',kl',rfl,X8,L4,rfl⟩:=hM;rw[zb1];have hE:=P1;try simp only[zzs] at hE
    repeat(obtain⟨J0,hE⟩:=hE)
    refine Oe (H':=(br, .cells (r.map (Yd .i64)) [] 3):: (b7, .cells (zc d (.slice (some ⟨nb,0,none⟩) 1 E0) vl' vs) [] 27):: (b2, .cells C [] 27):: ([(nb, .cells [.slice (some ⟨br,0,none⟩) row.length row.length] D0 24)]++(kl'++H))) Ks (Jf Ka fun G6 Q1 E3 C6=>?_);refine⟨_,vl',_,kl',Q1, .inr ⟨nb,E0,_,D0,by rw[X2],rfl,by rw[X2];rfl,by omega,fun i h h2 h3=>?_⟩,X8,L4,rfl⟩;obtain rfl:i=0:=by omega
    obtain rfl:j=0:=X2;refine⟨some ⟨br,0,none⟩,row.length,?_,?_,?_⟩
    ·rw[Y5,I5];rfl
    ·rw[Y5];exact C6
    ·rw[Y5,I5];exact Qe _
   ·have hE:=hs;try simp only[zzs] at hE
    repeat(obtain⟨J0,hE⟩:=hE)
    repeat' first
     |with_reducible first|refine Zd ?_ |refine Ae (fun _=>?_) fun _=>?_ |refine Nb fun nb A0 C0 B0=>?_ |refine Nr fun nb D0 E0 A0 I0 C0 B0=>?_
     |simp -dsimp -implicitDefEqProofs (disch:=first|exact Kd|fail) only[go_sem,↓reduceIte,seval, -He,Be,L7,Zh,Ye,N0,D1,J1,X0,hw,Z0,Z2,P2,U5,K4,Ie S4,Ie O.rn,e1,Ie O.rl,Ie D2,Le,A3,J2,Yf,Og,Wh]
    refine Tri.upd (Oe (H':=(b7, .cells (zc d (.slice (some ⟨nb,0,none⟩) (j+1) E0) vl vs) [] 27):: (b2, .cells C [] 27):: (kl++((br, .cells (r.map (Yd .i64)) [] 3):: (nb, .cells (rv++[.slice (some ⟨br,0,none⟩) row.length row.length]) D0 24)::H))) Ks (Ce ?_));refine Ch [0,1,2,4,5,6,7,8,10,37,38,39] ?_;refine Ah [1,1,1,1,1,0,1,0,0,1,1,0,0,1,1,1,1] Tryz.f62 Kk ?_;refine Tri.onlyN (zt2 O hj H6 K7 A3 M9) fun G5 l5 H5 A2 P1 hM=>?_;obtain⟨vl',kl',rfl,X8,L4,rfl⟩:=hM;rw[zb1];have hE:=P1;try simp only[zzs] at hE
    repeat(obtain⟨J0,hE⟩:=hE)
    refine Oe (H':=(br, .cells (r.map (Yd .i64)) [] 3):: (b7, .cells (zc d (.slice (some ⟨nb,0,none⟩) (j+1) E0) vl' vs) [] 27):: (b2, .cells C [] 27):: ([(nb, .cells (rv++[.slice (some ⟨br,0,none⟩) row.length row.length]) D0 24)]++(kl'++H))) Ks (Jf Ka fun G6 Q1 E3 C6=>?_);refine⟨_,vl',_,kl',Q1, .inr ⟨nb,E0,_,D0,rfl,rfl,by rw[Ve,T3];rfl,by omega,fun i h h2 h3=>?_⟩,X8,L4,rfl⟩;rcases Eg i j with Z3|Z3
    ·obtain⟨b',c',f1,f2,f3⟩:=F5 i Z3 Ko h3;exact⟨b',c',by rw[Ag Ko];exact f1,f2.mono Q1,f3⟩
    ·obtain rfl:i=j:=by omega
     refine⟨some ⟨br,0,none⟩,row.length,?_,?_,?_⟩
     ·rw[Y5,I5,Ng Ko];simp [T3]
     ·rw[Y5];exact C6
     ·rw[Y5,I5];exact Qe _
theorem zAb {d:DfaT} (P0:zr d) (K0:zg d) {l:List Int} (hO:zaL d.label.length l) {C:List Value} {an al ay:Option Addr} {cn cl cs:Nat} {rs:List Value} {G:zb} {H:za} (O:OpenD G d C an al ay cn cl cs rs) {v0 v1 v7:Value} {b2 b4 b7:Nat} {an3 ah:Option Addr} {cn3 ch:Nat} (D2:Row G an3 (((Hg d.label.length).map fun t:Nat=>zw l (t:Int)).map (Yd .i64))) (S4:Row G ah ((l).map (Yd .i64))) {j:Nat} (hj:j<l.length) {B7:List Value} (W5: ¬zfE d l (l[j]'hj)):
  Tri Tryz.prog Tryz.f62.ntmps (piece [1,1,1,1,1,0,1,0,0,1,1,0,0] Tryz.f62) G [(0,v0),(1,v1),(2, .pointer (some ⟨b2,0,none⟩)),(4, .pointer (some ⟨b4,0,none⟩)),(5, .int .i64 0),(6, .slice an3 d.label.length cn3),(7,v7),(8, .pointer (some ⟨b7,0,none⟩)),(37, .slice ah l.length ch),(38, .int .i64 l.length),(39, .int .i64 (j:Nat))] ((b4, .cells zz [] 27):: (b7, .cells B7 [] 27):: (b2, .cells C [] 27)::H) (onlyR fun G' fr' H'=>PLe G G'∧zy [4,5] fr'=[(4, .pointer (some ⟨b4,0,none⟩)),(5, .int .i64 1)]∧H'=(b4, .cells zz [] 27)::H):=by
 obtain⟨U3,M2,V3,A4,M4⟩:=id P0;obtain⟨Y2,K2,U2,N3,X3,Y3,Y1⟩:=id K0;have hal:(((Hg d.label.length).map fun t:Nat=>zw l (t:Int)).map (Yd .i64)).length=d.label.length:=by rw[Be,Be,Qh]
 have N0:=O.len;have D1:=O.w;have J1:=O.n;have X0:=O.l;have Z9:=hO.2 _ (Me hj);obtain⟨t,A3⟩:=Dg Z9.1;have L3:t<d.label.length:=by omega
 have L1:t<d.next.length:=by omega
 have K7:t<d.label.length:=by omega
 have V8:t<rs.length:=by have:=O.rnl;omega
 obtain⟨b,c,e1,e2,e3⟩:=O.rs t L1 V8;obtain⟨I3,Ib,Ra,Y7⟩:=Y1 t L1 K7;obtain⟨row,U0⟩: ∃row,row=d.next[t]:=⟨_,rfl⟩;have I2:=M2 _ (Me L1);rw[←U0] at e1 e2 e3 I3 Y7 I2;have hw:d.width=(row.length:Int):=I3.symm;obtain⟨r,hr⟩: ∃r,r=zcJ d l (t:Nat):=⟨_,rfl⟩;have I8:r=row.map (zw l):=by rw[hr];unfold zcJ;rw[zas L1,U0]
 have L4: ¬ ∀x∈row,x∈l:=fun h=>W5 fun y hy=>by
  rw[A3,zas L1,←U0] at hy;exact h y hy
 have I5:r.length=row.length:=by rw[I8,Be]
 have B3:Adr an:=O.rn.adr Ko;have Xa:Adr ah:=S4.adr (by rw[Be];omega);have Yc:Adr an3:=D2.adr (by rw[Be,Be,Qh];omega)
 have H6:j<65536:=by
  have h1:=hO.len;omega
 refine Tri.sepT fun M1=>?_;have hE:=M1;try simp only[zzs] at hE
 repeat(obtain⟨J0,hE⟩:=hE)
 refine Xg (f:=Tryz.f62) rfl ?_;refine Yg tok zdH Kk ?_
 repeat' first
  |with_reducible first|refine Zd ?_ |refine Ae (fun _=>?_) fun _=>?_ |refine Nb fun nb A0 C0 B0=>?_ |refine Nr fun nb D0 E0 A0 I0 C0 B0=>?_
  |simp -dsimp -implicitDefEqProofs (disch:=first|exact Kd|fail) only[go_sem,↓reduceIte,seval, -He,Ye,N0,D1,J1,X0,hw,Ie S4,Ie O.rn,e1,Ie D2,Le,A3,Yf,Og,Wh]
 revert nb;intro br hbr hbr1 hbr2;rw[show Fe row.length (Yd .i64 0)=(zbq r 0).map (Yd .i64) by rw[←I5,zfB]];refine Je tok zdH Kk [0,1,2,4,5,6,7,8,10,11,37,38,39,50,51,52] (fun q G' fr H'=> ∃k:Nat,k+q=row.length∧(∀i (h:i<row.length),i<k→row[i]∈l)∧G'=G∧H'=(br, .cells ((zbq r k).map (Yd .i64)) [] 3):: (b4, .cells zz [] 27):: (b7, .cells B7 [] 27):: (b2, .cells C [] 27)::H∧fr=[(0,v0),(1,v1),(2, .pointer (some ⟨b2,0,none⟩)),(4, .pointer (some ⟨b4,0,none⟩)),(5, .int .i64 0),(6, .slice an3 d.label.length cn3),(7,v7),(8, .pointer (some ⟨b7,0,none⟩)),(10, .int .i64 (t:Nat)),(11, .slice (some ⟨br,0,none⟩) row.length row.length),(37, .slice ah l.length ch),(38, .int .i64 l.length),(39, .int .i64 (j:Nat)),(50, .slice b row.length c),(51, .int .i64 row.length),(52, .int .i64 (k:Nat))]) (row.length) ?_ ?_
 ·refine Ce ?_;exact⟨0,by omega,fun i h h2=>by omega,rfl,rfl,rfl⟩
 ·rintro q G1 fr H' S0 hs ⟨k,hk,R4,rfl,rfl,rfl⟩;have J3:(zbq r k).length=row.length:=by rw[zgD r Ko,I5]
  by_cases Q2:k<row.length
  ·have hE:=hs;try simp only[zzs] at hE
   repeat(obtain⟨J0,hE⟩:=hE)
   have D7:k<r.length:=by omega
   have Cd:Adr b:=e2.adr (by rw[Be];omega);have hx:=Y7 _ (Me Q2);obtain⟨y,Z4⟩:=Dg hx.1;have hym:y<d.label.length:=by omega
   have P5:zw l (y:Nat)=r[k]:=by
    simp only[I8,Le];rw[Z4]
   have M3:=zgE D7;by_cases T1:row[k]∈l
   ·have Ta:0≤r[k]:=by
     rw[←P5];refine zcr.2 ?_;rw[←Z4];exact T1
    repeat' first
     |with_reducible first|refine Zd ?_ |refine Ae (fun _=>?_) fun _=>?_ |refine Nb fun nb A0 C0 B0=>?_ |refine Nr fun nb D0 E0 A0 I0 C0 B0=>?_
     |simp -dsimp -implicitDefEqProofs (disch:=first|exact Kd|fail) only[go_sem,↓reduceIte,seval, -He,Ie e2,Ie D2,Le,Ci,Z4,P5,M3,J3,Yf]
    all_goals try(exfalso;omega)
    refine Ce ?_
    exact⟨q - 1,by omega,k+1,by omega,fun i h h2=>by
     by_cases e:i=k
     ·subst e;exact T1
     ·exact R4 i h Ko,rfl,rfl,rfl⟩
   ·have hneg:r[k] <0:=by
     rw[←P5];rcases Int.lt_or_le (zw l (y:Int)) 0 with h|h
     ·exact h
     ·exact absurd (Z4▸zcr.1 h) T1
    repeat' first
     |with_reducible first|refine Zd ?_ |refine Ae (fun _=>?_) fun _=>?_ |refine Nb fun nb A0 C0 B0=>?_ |refine Nr fun nb D0 E0 A0 I0 C0 B0=>?_
     |simp -dsimp -implicitDefEqProofs (disch:=first|exact Kd|fail) only[go_sem,↓reduceIte,seval, -He,Ie e2,Ie D2,Le,Ci,Z4,P5,J3,Yf,zj,zG,zI,zM]
    all_goals try(exfalso;omega)
    exact Oe (H':=(b4, .cells zz [] 27)::H) Ks (Ce ⟨S0,rfl,rfl⟩)
  ·exact absurd (fun x hx=>by
    obtain⟨i,hi,rfl⟩:=Ue hx;exact R4 i hi Ko) L4
theorem zyT {d:DfaT} (P0:zr d) {l:List Int} (hl:l.length≤2000000) {G:zb} {H:za} {R:Value→zb→za→Prop} {v w:Value} (hv:IsD G d v) (P4:Sl G (Yd .i64) w l)
  (hR: ∀G' v',PLe G G'→Sep G' (zm H)→IsD G' (zeu d l).1 v'→R (.tuple #[v', .int .i64 (zeu d l).2]) G' H):FnT Tryz.prog 62 [v,w] G H R:=by
 obtain⟨C,an,al,ay,cn,cl,cs,rs,rfl,O⟩:=hv.opened;obtain⟨U3,M2,V3,A4,M4⟩:=id P0;have I3:=P4;obtain⟨aw,cw,rfl,Sa,R9⟩:=P4;have N0:=O.len;have T0:=O.all;have X0:=O.l;refine Zf ?_;by_cases K0:zg d
 ·obtain⟨Y2,K2,U2,N3,X3,Y3,Y1⟩:=id K0;have hb:=zA K0;have Z0: ∀a b c:Value,(zc d a b c).length=260:=fun a b c=>zN O.ofl _ _ _;have X7: ∀a b c:Value,Hf 260 (zc d a b c)=zc d a b c:=fun a b c=>zbQ O.ofl _ _ _
  have T4: ∀a b c:Value,zf zz 0 (zc d a b c)=zc d a b c:=fun a b c=>by
   unfold zf;rw[Se,Af,Gf (by rw[zj,Z0];omega),Bf]
  refine FnT.bodyS tok zdH (.seq .run (.seq .run (.seq .run (.seq .run (.seq .cut .cut))))) Tryz.func62 rfl Kk Kk Kn fun M0=>?_;rw[Tryz.results62];have hE:=M0;try simp only[zzs] at hE
  repeat(obtain⟨J0,hE⟩:=hE)
  repeat' first
   |with_reducible first|refine Zd ?_ |refine Ae (fun _=>?_) fun _=>?_ |refine Nb fun nb A0 C0 B0=>?_ |refine Nr fun nb D0 E0 A0 I0 C0 B0=>?_
   |simp -dsimp -implicitDefEqProofs (disch:=first|exact Kd|fail) only[go_sem,↓reduceIte,seval, -He,Ye,N0,T0,X0,hb]
   |with_reducible refine zaJ P0 O.is ?_
  rename_i b2 Ec J8 A8;obtain⟨b4,e0⟩: ∃x,x=nb:=⟨_,rfl⟩;subst e0;refine FnT.upd (zv1 Y2 K2 hl I3 (fun G2 b Q0 R0 hO=>?_) (fun G2 Q0 R0 B1=>?_))
  ·refine Jf R0.1.1 fun G3 A1 K1 D2=>?_;rw[zv2] at D2;have hE:=K1;try simp only[zzs] at hE
   repeat(obtain⟨J0,hE⟩:=hE)
   have k3:=Q0.trans A1;have O3:=O.mono k3;by_cases hh:l.head? =some 0
   ·rw[decide_eq_true hh]
    repeat' first
     |with_reducible first|refine Zd ?_ |refine Ae (fun _=>?_) fun _=>?_ |refine Nb fun nb A0 C0 B0=>?_ |refine Nr fun nb D0 E0 A0 I0 C0 B0=>?_
     |simp -dsimp -implicitDefEqProofs (disch:=first|exact Kd|fail) only[go_sem,↓reduceIte,seval, -He,Ye]
    refine Ah [1,1,1,1,0] Tryz.f62 Kk ?_;refine Ch [0,1,2,4,5,6,7] ?_;refine Tri.onlyN (zAa P0 O3) fun G4 l4 H4 Z1 S1 hM=>?_;obtain⟨b7,vs,_,J6,L4,rfl⟩:=hM;simp only[go_sem];refine Ch [0,1,2,4,5,6,7,8] ?_;rw[L4];have hE:=S1;try simp only[zzs] at hE
    repeat(obtain⟨J0,hE⟩:=hE)
    have O4:=O3.mono Z1;obtain⟨ay4,cy4,rfl,hr4y,hcy4⟩:=id J6;refine Yg tok zdH Kk ?_
    repeat' first
     |with_reducible first|refine Zd ?_ |refine Ae (fun _=>?_) fun _=>?_ |refine Nb fun nb A0 C0 B0=>?_ |refine Nr fun nb D0 E0 A0 I0 C0 B0=>?_
     |simp -dsimp -implicitDefEqProofs (disch:=first|exact Kd|fail) only[go_sem,↓reduceIte,seval, -He,Ye]
    have hln:l.length≤d.label.length:=hO.len
    have Ta:0<l.length:=by
     rcases l with _| ⟨x,l⟩
     ·cases hh
     ·simp
    refine Tri.loopS tok zdH (.seq .run (.seq .run (.seq (.block .cut) .cut))) Kk [0,1,2,4,5,6,7,8,37,38,39] (fun q G' fr H'=> ∃ (j:Nat) (vn vl:Value) (kn kl:za),j+q=l.length∧PLe G4 G'∧(∀i (h:i<l.length),i<j→zfE d l l[i])∧zlX d l G' j vn kn∧zg4 d l j vl kl∧H'=(b7, .cells (zc d vn vl (.slice ay4 d.names.length cy4)) [] 27):: (b2, .cells C [] 27):: (kn++(kl++((b4, .cells zz [] 27)::H)))∧fr=[(0, .agg (List.toArray C)),(1, .slice aw l.length cw),(2, .pointer (some ⟨b2,0,none⟩)),(4, .pointer (some ⟨b4,0,none⟩)),(5, .int .i64 0),(6, .slice (some ⟨b,0,none⟩) d.label.length d.label.length),(7, .bool true),(8, .pointer (some ⟨b7,0,none⟩)),(37, .slice aw l.length cw),(38, .int .i64 l.length),(39, .int .i64 (j:Nat))]) (l.length) ?_ ?_
    ·exact Oe (H':=(b7, .cells (zc d (.slice none 0 0) (.slice none 0 0) (.slice ay4 d.names.length cy4)) [] 27):: (b2, .cells C [] 27):: ([]++([]++((b4, .cells zz [] 27)::H)))) Ks (Ce ⟨0,_,_,[],[],by omega,PLe.refl _,fun i h h2=>by omega, .inl ⟨rfl,rfl,rfl⟩, .inl ⟨rfl,rfl,rfl⟩,rfl,rfl⟩)
    ·rintro q G6 fr H' Q1 E3 ⟨j,vn,vl,kn,kl,hj,Cb,Bb,Y4,Q3,rfl,rfl⟩;have O6:=O4.mono Cb;have k6:=(k3.trans Z1).trans Cb;by_cases U4:j<l.length
     ·by_cases hfj:zfE d l l[j]
      ·repeat' first
        |with_reducible first|refine Zd ?_ |refine Ae (fun _=>?_) fun _=>?_ |refine Nb fun nb A0 C0 B0=>?_ |refine Nr fun nb D0 E0 A0 I0 C0 B0=>?_
        |simp -dsimp -implicitDefEqProofs (disch:=first|exact Kd|fail) only[go_sem,↓reduceIte,seval, -He,Ye]
       refine Ch [0,1,2,4,5,6,7,8,37,38,39] ?_;refine Ah [1,1,1,1,1,0,1,0,0,1,1,0,0] Tryz.f62 Kk ?_;refine Tri.onlyN (zAy P0 K0 hO O6 ((D2.mono Z1).mono Cb) (Sa.mono k6) U4 Y4 Q3 rfl hfj) fun G7 l7 H7 W2 B4 hM=>?_;obtain⟨vn',vl',kn',kl',_,Tb,Mc,I7,rfl⟩:=hM;simp only[go_sem];refine Ch [0,1,2,4,5,6,7,8,37,38,39] ?_;rw[I7];refine Yg tok zdH Kk ?_
       repeat' first
        |with_reducible first|refine Zd ?_ |refine Ae (fun _=>?_) fun _=>?_ |refine Nb fun nb A0 C0 B0=>?_ |refine Nr fun nb D0 E0 A0 I0 C0 B0=>?_
        |simp -dsimp -implicitDefEqProofs (disch:=first|exact Kd|fail) only[go_sem,↓reduceIte,seval, -He,Ye]
       refine Ce ?_
       exact⟨q - 1,by omega,j+1,vn',vl',kn',kl',by omega,Cb.trans W2,fun i h h2=>by
        by_cases e:i=j
        ·subst e;exact hfj
        ·exact Bb i h Ko,Tb,Mc,rfl,rfl⟩
      ·have B1: ¬zbO d l:=fun h=>hfj (h.2 _ (Me U4));rw[zdp K0 B1] at hR
       repeat' first
        |with_reducible first|refine Zd ?_ |refine Ae (fun _=>?_) fun _=>?_ |refine Nb fun nb A0 C0 B0=>?_ |refine Nr fun nb D0 E0 A0 I0 C0 B0=>?_
        |simp -dsimp -implicitDefEqProofs (disch:=first|exact Kd|fail) only[go_sem,↓reduceIte,seval, -He,Ye]
       refine Ch [0,1,2,4,5,6,7,8,37,38,39] ?_;refine Tri.upd (Oe (H':=(b4, .cells zz [] 27):: (b7, .cells (zc d vn vl (.slice ay4 d.names.length cy4)) [] 27):: (b2, .cells C [] 27):: (kn++(kl++H))) Ks (Ce ?_));refine Ah [1,1,1,1,1,0,1,0,0,1,1,0,0] Tryz.f62 Kk ?_;refine Tri.onlyR (zAb P0 K0 hO O6 ((D2.mono Z1).mono Cb) (Sa.mono k6) U4 hfj) fun G7 l7 H7 W2 B4 hM=>?_;obtain⟨_,I7,rfl⟩:=hM;have hE:=B4;try simp only[zzs] at hE
       repeat(obtain⟨J0,hE⟩:=hE)
       have h4:V.look l7 4=some (.pointer (some ⟨b4,0,none⟩)):=zaX [4,5] l7 4 _ (by rw[I7];rfl);have h5:V.look l7 5=some (.int .i64 1):=zaX [4,5] l7 5 _ (by rw[I7];rfl)
       repeat' first
        |with_reducible first|refine Zd ?_ |refine Ae (fun _=>?_) fun _=>?_ |refine Nb fun nb A0 C0 B0=>?_ |refine Nr fun nb D0 E0 A0 I0 C0 B0=>?_
        |simp -dsimp -implicitDefEqProofs (disch:=first|exact Kd|fail) only[go_sem,↓reduceIte,seval, -He,Ye,h4,h5,zj,zG,zI,zM]
       unfold zo;refine Xf (H':=H) Ks ?_;exact fun _ hs=>hR G7 _ (k6.trans W2) hs (zak _)
     ·obtain rfl:j=l.length:=by omega
      have hko:zbO d l:=⟨⟨hO,hh⟩,fun x hx=>by
       obtain⟨i,hi,rfl⟩:=Ue hx;exact Bb i hi hi⟩
      rw[zh2 K0 hko] at hR;rcases Y4 with ⟨X2,_,_⟩| ⟨bn,c1,rv,sp1,rfl,rfl,T3,V7,F5⟩
      ·exact absurd X2 Ko
      rcases Q3 with ⟨X2,_,_⟩| ⟨bl,c2,sp2,rfl,rfl,J4⟩
      ·exact absurd X2 Ko
      have hE:=E3;try simp only[zzs] at hE
      repeat(obtain⟨J0,hE⟩:=hE)
      have S3:=zaC (d:=d) (vn:= .slice (some ⟨bn,0,none⟩) l.length c1) (vl:= .slice (some ⟨bl,0,none⟩) l.length c2) (vs:= .slice ay4 d.names.length cy4) rfl rfl rfl;have F8:(zal d l).length=l.length:=by unfold zal;rw[Be]
      rw[show(zal d l).take l.length=zal d l by rw[←F8,Te]]
      repeat' first
       |with_reducible first|refine Zd ?_ |refine Ae (fun _=>?_) fun _=>?_ |refine Nb fun nb A0 C0 B0=>?_ |refine Nr fun nb D0 E0 A0 I0 C0 B0=>?_
       |simp -dsimp -implicitDefEqProofs (disch:=first|exact Kd|fail) only[go_sem,↓reduceIte,seval, -He,Ye,Z0,X7,T4,S3,zj]
      unfold zo;refine Oe (H':=(bn, .cells rv sp1 24):: (bl, .cells ((zal d l).map (Yd .i64)) sp2 3)::H) Ks (Upd.trans (Jf Ka fun G7 W2 B4 Q7=>?_));refine Jf B4.1.1 fun G8 N4 B6 N6=>?_;have k8:=W2.trans N4;refine fun _ hs=>hR G8 _ (k6.trans k8) hs ?_;refine⟨O.ofl,O.ofb,_,_,_,rfl,⟨some ⟨bn,0,none⟩,c1,rv,?_,Q7.mono N4,?_,?_,fun i h h2=>?_⟩,⟨some ⟨bl,0,none⟩,c2,?_,N6,?_⟩,⟨ay4,cy4,rfl,hr4y.mono (Cb.trans k8),hcy4⟩⟩
      ·simp only[zai,Be]
      ·simp only[zai,Be];exact T3
      ·simp only[zai,Be];omega
      ·have hi:i<l.length:=by simp only[zai,Be] at h;exact h
       obtain⟨b',c',f1,f2,f3⟩:=F5 i hi h2 hi;refine⟨b',c',?_,?_,?_⟩
       ·simp only[zai,Le];exact f1
       ·simp only[zai,Le];exact f2.mono k8
       ·simp only[zai,Le];exact f3
      ·simp only[zai,F8]
      ·simp only[zai,F8];omega
   ·rw[decide_eq_false hh];have B1: ¬zbO d l:=fun h=>hh h.1.2;rw[zdp K0 B1] at hR
    repeat' first
     |with_reducible first|refine Zd ?_ |refine Ae (fun _=>?_) fun _=>?_ |refine Nb fun nb A0 C0 B0=>?_ |refine Nr fun nb D0 E0 A0 I0 C0 B0=>?_
     |simp -dsimp -implicitDefEqProofs (disch:=first|exact Kd|fail) only[go_sem,↓reduceIte,seval, -He,Ye,zj,zG,zI,zM]
    unfold zo;refine Xf (H':=H) Ks ?_;exact fun _ hs=>hR G3 _ k3 hs (zak _)
  ·have B1: ¬zbO d l:=fun h=>B1 h.1.1;rw[zdp K0 B1] at hR;refine Ce ?_;have hE:=R0;try simp only[zzs] at hE
   repeat(obtain⟨J0,hE⟩:=hE)
   repeat' first
    |with_reducible first|refine Zd ?_ |refine Ae (fun _=>?_) fun _=>?_ |refine Nb fun nb A0 C0 B0=>?_ |refine Nr fun nb D0 E0 A0 I0 C0 B0=>?_
    |simp -dsimp -implicitDefEqProofs (disch:=first|exact Kd|fail) only[go_sem,↓reduceIte,seval, -He,Ye,zj,zG,zI,zM]
   unfold zo;refine Xf (H':=H) Ks ?_;exact fun _ hs=>hR G2 _ Q0 hs (zak _)
 ·have hb:=zu K0;rw[zmz K0] at hR;refine Ee tok zdH Tryz.func62 rfl Kk Kk Kn fun M0=>?_;rw[Tryz.results62];have hE:=M0;try simp only[zzs] at hE
  repeat(obtain⟨J0,hE⟩:=hE)
  repeat' first
   |with_reducible first|refine Zd ?_ |refine Ae (fun _=>?_) fun _=>?_ |refine Nb fun nb A0 C0 B0=>?_ |refine Nr fun nb D0 E0 A0 I0 C0 B0=>?_
   |simp -dsimp -implicitDefEqProofs (disch:=first|exact Kd|fail) only[go_sem,↓reduceIte,seval, -He,Ye,N0,T0,zj,zG,zI,zM,hb]
   |with_reducible refine zaJ P0 O.is ?_
  unfold zo;refine Xf (H':=H) Ks ?_;exact fun _ hs=>hR G _ (PLe.refl _) hs (zak _)
theorem zh3 {d:DfaT} (K0:zg d):zaL d.label.length [0]:=⟨by simp,fun x hx=>by rw[Vg] at hx;have:=K0.1;omega⟩
theorem zdL {d:DfaT} (K0:zg d):zaL d.label.length (zaj d):=zec (zh3 K0) (zgd K0) _
theorem zr6 (d:DfaT): ∃X,zaj d=0::X:=by
 obtain⟨X,h⟩:=zfO (zJ d) [0] 0 d.label.length;rw[Nat.zero_add] at h;exact⟨X,h⟩
theorem zpT (d:DfaT):(zaj d).head? =some 0:=by
 obtain⟨X,h⟩:=zr6 d;rw[h];rfl
theorem zdM {d:DfaT} (K0:zg d):zbO d (zaj d):=⟨⟨zdL K0,zpT d⟩,fun s hs=>ztV (zh3 K0) (zgd K0) hs⟩
def zW (d:DfaT):DfaT:=zai d (zaj d)
noncomputable def zdS (d:DfaT):DfaT×Int:=zeu d (zcI d)
theorem zge {d:DfaT} (h:zg d):zdS d=(zW d,0):=by
 unfold zdS;have:zcI d=zaj d:=by unfold zcI;rw[if_pos (zA h)]
 rw[this,zh2 h (zdM h)];rfl
theorem zgM {d:DfaT} (h: ¬zg d):zdS d=(zah,6):=zmz h
theorem zh4 {d:DfaT} {l:List Int} {i:Nat} (h:i<l.length):(zai d l).next[i]'(by unfold zai;simpa using h)=zcJ d l l[i]:=by simp [zai]
theorem zjO {d:DfaT} {l:List Int} {i:Nat} (h:i<l.length):(zai d l).label[i]'(by unfold zai zal;simpa using h)=d.label.getD l[i].toNat 0:=by simp [zai,zal]
theorem zfg (d:DfaT) (l:List Int):(zai d l).next.length=l.length∧(zai d l).label.length=l.length:=by simp [zai,zal]
theorem ziW {l:List Int} (h:l.Nodup) {i:Nat} (hi:i<l.length):zw l l[i]=i:=by
 unfold zw;rw[zdh h hi]
theorem zoE {l:List Int} {x:Int} (h:x∈l): ∃ (i:Nat) (hi:i<l.length),zw l x=i∧l[i]=x:=by
 obtain⟨n,hn⟩:=zaf h;obtain⟨h1,h2⟩:=zaa hn;rw[Xe h1] at h2;exact⟨n,h1,zB hn,Option.some.inj h2⟩
theorem zh5 {d:DfaT} {l:List Int} (K0:zg d) (hk:zbO d l):zg (zai d l):=by
 obtain⟨Y2,K2,U2,N3,X3,Y3,Y1⟩:=id K0;obtain⟨⟨hO,hh⟩,hf⟩:=hk;have hl:=hO.len
 have Ta:0<l.length:=by
  rcases l with _| ⟨x,l⟩
  ·cases hh
  ·simp
 obtain⟨e1,e2⟩:=zfg d l;refine⟨by omega,by omega,by omega,N3,X3,Y3,fun s h1 h2=>?_⟩;have hs:s<l.length:=by omega
 have hx:=hO.2 _ (Me hs);obtain⟨t,ht⟩:=Dg hx.1;have L1:t<d.next.length:=by omega
 obtain⟨g1,g2,g3,g4⟩:=Y1 t L1 Ko;rw[zh4 hs,zjO hs];unfold zcJ;rw[ht,zas L1];refine⟨by rw[Be];exact g1,?_,?_,fun y hy=>?_⟩
 ·rw[Yf,Fg,Xe Ko,Ei];exact g2
 ·rw[Yf,Fg,Xe Ko,Ei];exact g3
 ·rw[List.mem_map] at hy;obtain⟨z,hz,rfl⟩:=hy;have hzl:=hf _ (Me hs) z (by rw[ht,zas L1];exact hz);obtain⟨i,hi,h3,_⟩:=zoE hzl;rw[h3,e2];omega
theorem zr7 {d:DfaT} {l:List Int} {i:Nat} (h:i<l.length):zJ (zai d l) (i:Nat)=zcJ d l l[i]:=by
 rw[zas (by rw[(zfg d l).1];exact h),zh4 h]
theorem zmA {d:DfaT} {l:List Int} (hk:zbO d l):(0 :Int)∈l∧zw l 0=0:=by
 obtain⟨⟨hO,hh⟩,_⟩:=hk;rcases l with _| ⟨x,l⟩
 ·cases hh
 ·rw[List.head?_cons,Option.some.injEq] at hh;subst hh;exact⟨Jh ..,ziW hO.1 (i:=0) (by simp)⟩
theorem zoF {l:List Int} (hl:l.Nodup): ∀ (ts W:List Int),(∀x∈W,x∈l)→(∀x∈ts,x∈l)→addN (W.map (zw l)) (ts.map (zw l))=(addN W ts).map (zw l)
 | [],W,_,_=>rfl
 |t::ts,W,hW,hts=>by
  have ht:=hts t (Jh ..)
  have hadd:add1 (W.map (zw l)) (zw l t)=(add1 W t).map (zw l):=by
   unfold add1;by_cases h:t∈W
   ·rw[if_pos h,if_pos (List.mem_map.2 ⟨t,h,rfl⟩)]
   ·have h2:zw l t∉W.map (zw l):=fun h3=>by
     obtain⟨x,hx,e⟩:=List.mem_map.1 h3;exact h (zgA (hW x hx) ht e▸hx)
    rw[if_neg h,if_neg h2,Ke];rfl
  rw[List.map_cons,zdo,zdo,hadd]
  exact zoF hl ts (add1 W t) (fun x hx=>by
   rcases zeM.1 hx with h|rfl
   ·exact hW x h
   ·exact ht) fun x hx=>hts x (Oh _ hx)
theorem zt3 {d:DfaT} {l:List Int} (hk:zbO d l): ∀i,(∀x∈bw (zJ d) [0] i,x∈l)∧bw (zJ (zai d l)) [0] i=(bw (zJ d) [0] i).map (zw l)
 |0=>⟨fun x hx=>by
   have:x=0:=List.mem_singleton.1 hx;subst this;exact(zmA hk).1,by
   show[0]=[0].map (zw l);rw[List.map_cons,(zmA hk).2];rfl⟩
 |i+1=>by
  obtain⟨h1,h2⟩:=zt3 hk i;rcases Eg i (bw (zJ d) [0] i).length with h|h
  ·have h':i< (bw (zJ (zai d l)) [0] i).length:=by rw[h2,Be];exact h
   have hx:=h1 _ (Me h);obtain⟨j,hj,e1,e2⟩:=zoE hx
   have R7:zJ (zai d l) (bw (zJ (zai d l)) [0] i)[i]=(zJ d (bw (zJ d) [0] i)[i]).map (zw l):=by
    have:(bw (zJ (zai d l)) [0] i)[i]=(j:Nat):=by simp only[h2,Le];exact e1
    rw[this,zr7 hj,e2];rfl
   have V2:=hk.2 _ hx;rw[zc3 h,zc3 h',R7];refine⟨fun x J0=>?_,?_⟩
   ·rcases zh1.1 J0 with g|g
    ·exact h1 x g
    ·exact V2 x g
   ·rw[h2];exact zoF hk.1.1.1 _ _ h1 V2
  ·rw[zhj h,zhj (by rw[h2,Be];exact h)];exact⟨h1,h2⟩
theorem zr8 {d:DfaT} (K0:zg d):zaj (zW d)=(Hg (zaj d).length).map fun i:Nat=>(i:Int):=by
 have hk:=zdM K0;have hr:=zh5 K0 hk;have hO:=zdL K0;obtain⟨_,h2⟩:=zt3 hk d.label.length
 have he:bw (zJ (zai d (zaj d))) [0] d.label.length=zaj (zW d):=by
  refine zoA (zh3 hr) (zgd hr) ?_;rw[h2,Be];exact hO.len
 rw[←he,h2];show(zaj d).map (zw (zaj d))=_;apply Tg
 ·simp
 ·intro i h1 h3;rw[Be] at h1;simp only[Le,Ci];exact ziW hO.1 h1
theorem ziX {n:Nat} {x:Int} (h:0≤x∧x<n):zw ((Hg n).map fun i:Nat=>(i:Int)) x=x:=by
 obtain⟨i,rfl⟩:=Dg h.1
 have I6:((Hg n).map fun i:Nat=>(i:Int)).Nodup:=by
  rw[List.nodup_iff_pairwise_ne,List.pairwise_map];exact(List.nodup_range (n:=n)).imp fun h=>by omega
 have:=ziW I6 (i:=i) (by rw[Be,Qh];omega);simpa using this
theorem zxU {d:DfaT} (K0:zg d):zai d ((Hg d.label.length).map fun i:Nat=>(i:Int))=d:=by
 obtain⟨Y2,K2,U2,N3,X3,Y3,Y1⟩:=id K0;refine DfaT.ext2 rfl rfl ?_ ?_ rfl
 ·apply Tg
  ·simp [zai,U2]
  ·intro i h1 h2;rw[zh4 (by simpa [zai] using h1)];simp only[Le,Ci];unfold zcJ;rw[zas h2];apply Tg
   ·simp
   ·intro j g1 g2;simp only[Le];exact ziX ((Y1 i h2 Ko).2.2.2 _ (Me g2))
 ·apply Tg
  ·simp [zai,zal]
  ·intro i h1 h2;rw[zjO (by simpa [zai,zal] using h1)];simp only[Le,Ci,Yf];rw[Fg,Xe h2];rfl
theorem zcW {d:DfaT} (P0:zr d) (K0:zg d):zr (zW d):=by
 obtain⟨U3,M2,V3,A4,M4⟩:=id P0;obtain⟨e1,e2⟩:=zfg d (zaj d);have hO:=zdL K0;have hl:=hO.len;have U2:=K0.2.2.1;refine⟨by show(zai d (zaj d)).next.length≤_;omega,fun r hr=>?_,by show(zai d (zaj d)).label.length≤_;omega,A4,M4⟩;obtain⟨x,hx,rfl⟩:=List.mem_map.1 (show r∈(zaj d).map (zcJ d (zaj d)) from hr);have hb:=hO.2 x hx;obtain⟨t,rfl⟩:=Dg hb.1;unfold zcJ;rw[zas Ko,Be];exact M2 _ (Me _)
theorem zbg {G:zb} {d:DfaT} {C:List Value} (h:IsD G d (.agg C.toArray)):C.all zax=true:=by
 obtain⟨_,_,vn,vl,vs,e,⟨an,cn,rs,rfl,_⟩,⟨al,cl,rfl,_⟩,⟨ay,cy,rfl,_⟩⟩:=h;have e2:=congrArg (fun v=>match v with|Value.agg a=>a.toList|_=>[]) e;simp only[Ye] at e2;rw[e2];exact zaC rfl rfl rfl
theorem zbh {C:List Value} (h:C.length=260):zf zz 0 C=C:=by
 unfold zf;rw[Se,Af,Gf (by rw[zj];omega),Bf]
theorem zt4 {d:DfaT} (P0:zr d) {G:zb} {H:za} {R:Value→zb→za→Prop} {v:Value} (hv:IsD G d v)
  (hR: ∀G' v',PLe G G'→Sep G' (zm H)→IsD G' (zdS d).1 v'→R (.tuple #[v', .int .i64 (zdS d).2]) G' H):FnT Tryz.prog 40 [v] G H R:=by
 obtain⟨C,an,al,ay,cn,cl,cs,rs,rfl,O⟩:=hv.opened;have N0:=O.len;have T0:=O.all
 have I2:(zcI d).length≤2000000:=by
  by_cases K0:zg d
  ·have h1:zcI d=zaj d:=by unfold zcI;rw[if_pos (zA K0)]
   have h2:=(zdL K0).len;have h3:=K0.2.1;rw[h1];omega
  ·have h1:zcI d=[]:=by unfold zcI;rw[if_neg (by rw[zu K0];exact Hi)]
   rw[h1];simp
 refine Zf ?_;refine Ee tok kp5 Tryz.func40 rfl Kk Kk Kn fun M0=>?_;rw[Tryz.results40];have hE:=M0;try simp only[zzs] at hE
 repeat(obtain⟨J0,hE⟩:=hE)
 repeat' first
  |with_reducible first|refine Zd ?_ |refine Ae (fun _=>?_) fun _=>?_ |refine Nb fun nb A0 C0 B0=>?_
  |simp -dsimp -implicitDefEqProofs (disch:=first|exact Kd|fail) only[go_sem,↓reduceIte,seval, -He,Ye,N0,T0]
  |with_reducible refine Vf tok mixed kp5 1 [0,1] (.op 0 .held (.op 1 .held (.op 2 .keeps (.op 3 .keeps (.op 4 .plain (.op 5 .plain (.op 6 .plain (.op 7 .plain .nil)))))))) Kk [1] ?_
 obtain⟨b2,e0⟩: ∃x,x=nb:=⟨_,rfl⟩;subst e0;refine zxQ P0 O.is fun G2 v2 Q0 R0 V5=>?_;have hE:=R0;try simp only[zzs] at hE
 repeat(obtain⟨J0,hE⟩:=hE)
 repeat' first
  |with_reducible first|refine Zd ?_ |refine Ae (fun _=>?_) fun _=>?_ |refine Nb fun nb A0 C0 B0=>?_
  |simp -dsimp -implicitDefEqProofs (disch:=first|exact Kd|fail) only[go_sem,↓reduceIte,seval, -He,Ye,N0,T0]
 refine zyT P0 I2 (O.is.mono Q0) V5 fun G3 v3 A1 K1 hI=>?_;have hI3:IsD G3 (zdS d).1 v3:=hI;obtain⟨C',an',al',ay',cn',cl',cs',rs',rfl,O'⟩:=hI3.opened;have D8:=O'.len;have S3:=zbg O'.is;have M3:=zbh D8;have B2:Hf 260 C'=C':=Pe Ko;have hE:=K1;try simp only[zzs] at hE
 repeat(obtain⟨J0,hE⟩:=hE)
 repeat' first
  |with_reducible first|refine Zd ?_ |refine Ae (fun _=>?_) fun _=>?_ |refine Nb fun nb A0 C0 B0=>?_
  |simp -dsimp -implicitDefEqProofs (disch:=first|exact Kd|fail) only[go_sem,↓reduceIte,seval, -He,Ye,D8,S3,M3,B2,zj]
 unfold zo;refine Xf (H':=H) Ks ?_;exact fun _ hs=>hR G3 _ (Q0.trans A1) hs O'.is
theorem zt5 {l:List Int} {x:Nat} (h:x<l.length):atL l (x:Int)=l[x]:=by
 rw[zL (by simpa using h)];simp only[Yf]
theorem zpU {d:DfaT} (K0:zg d) {n:Nat} (hn:zk3 d n):zaY d (lvl d n):=by
 obtain⟨Y2,K2,U2,N3,X3,Y3,Y1⟩:=id K0;have hlv:=zP U2;refine⟨K0,by rw[hlv,U2],fun s t hs h1 h2 h3 h4 hp=>?_⟩;obtain⟨ht,he⟩:=zaa hp;rw[Xe ht,Option.some.injEq] at he;refine⟨(zf7 U2 h1 h2).1 (zj8 U2 h3 h4 n (Pg n) he.symm),?_⟩;obtain⟨E5,_⟩:=Y1 s h3 h1;obtain⟨F7,_⟩:=Y1 t h4 h2;refine⟨by omega,fun k hk=>?_⟩;rw[zbL];have R0:=(zd3 U2 n h3 h4).1 (by simp only[hn.2.1];exact he.symm);have:=R0.2 k Ko
 rwa [zt5 hk,zt5 (l:=d.next[t]) (show k< (d.next[t]).length by omega)] at this
noncomputable def zar (d:DfaT):DfaT×Int:=if zaz (zg d)=true then(ofD (zW d) (zbC (zW d) 65536),0) else(zah,6)
theorem zed {d:DfaT} (h:zg d):zar d=(ofD (zW d) (zbC (zW d) 65536),0):=by unfold zar;rw[if_pos (zA h)]
theorem zh6 {d:DfaT} (h: ¬zg d):zar d=(zah,6):=by unfold zar;rw[if_neg (by rw[zu h];exact Hi)]
theorem zcs {d:DfaT} (h:zg d):zg (zW d):=zh5 h (zdM h)
theorem zev {d:DfaT} (h:zg d):zaY d (zbC d 65536):=by
 obtain⟨N,hN⟩:=zlS h.2.2.1 h.1;have S0:N≤65536:=by have:=hN.1;have:=h.2.1;omega
 rw[zfN h,zfe hN.2.1 S0];exact zpU h hN
theorem zxV {d:DfaT} (P0:zr d) {G:zb} {H:za} {R:Value→zb→za→Prop} {v:Value} (hv:IsD G d v)
  (hR: ∀G' v',PLe G G'→Sep G' (zm H)→IsD G' (zar d).1 v'→R (.tuple #[v', .int .i64 (zar d).2]) G' H):FnT Tryz.prog 42 [v] G H R:=by
 obtain⟨C,an,al,ay,cn,cl,cs,rs,rfl,O⟩:=hv.opened;have N0:=O.len;have T0:=O.all;refine Zf ?_;refine Ee tok zlW Tryz.func42 rfl Kk Kk Kn fun M0=>?_;rw[Tryz.results42];have hE:=M0;try simp only[zzs] at hE
 repeat(obtain⟨J0,hE⟩:=hE)
 repeat' first
  |with_reducible first|refine Zd ?_ |refine Ae (fun _=>?_) fun _=>?_ |refine Nb fun nb A0 C0 B0=>?_ |refine Nr fun nb D0 E0 A0 I0 C0 B0=>?_
  |simp -dsimp -implicitDefEqProofs (disch:=first|exact Kd|fail) only[go_sem,↓reduceIte,seval, -He,Ye,N0,T0]
 obtain⟨b2,e20⟩: ∃x,x=nb:=⟨_,rfl⟩;subst e20;refine zt4 P0 O.is fun G2 v2 Q0 R0 K3=>?_;by_cases K0:zg d
 ·have hok2:=zcs K0;have hsm2:=zcW P0 K0;rw[zge K0] at K3⊢;rw[zed K0] at hR;have K3:IsD G2 (zW d) v2:=K3;obtain⟨C2,an2,al2,ay2,cn2,cl2,cs2,rs2,rfl,O2⟩:=K3.opened;have V4:=O2.len;have Y6:=zbg O2.is;have Z6:=zbh V4;have A7:Hf 260 C2=C2:=Pe Ko;have hE:=R0;try simp only[zzs] at hE
  repeat(obtain⟨J0,hE⟩:=hE)
  repeat' first
   |with_reducible first|refine Zd ?_ |refine Ae (fun _=>?_) fun _=>?_ |refine Nb fun nb A0 C0 B0=>?_ |refine Nr fun nb D0 E0 A0 I0 C0 B0=>?_
   |simp -dsimp -implicitDefEqProofs (disch:=first|exact Kd|fail) only[go_sem,↓reduceIte,seval, -He,Ye,N0,T0,V4,Y6,Z6,A7,zj]
   |with_reducible refine Wg tok mixed zlW 4 [0,1] (.op 0 .held (.op 1 .held (.op 2 .keeps (.op 3 .keeps (.op 4 .plain (.op 5 .plain (.op 6 .plain (.op 7 .plain .nil)))))))) Kk [(nb, .cells C2 [] 27)] Ks ?_
  obtain⟨b4,e40⟩: ∃x,x=nb:=⟨_,rfl⟩;subst e40;have N1:=zev hok2;obtain⟨M,hM⟩: ∃M,M=zbC (zW d) 65536:=⟨_,rfl⟩;refine ztS hsm2 O2.is fun G3 v3 A1 K1 T6=>?_;rw[←hM] at N1 T6 hR;have hE:=K1;try simp only[zzs] at hE
  repeat(obtain⟨J0,hE⟩:=hE)
  repeat' first
   |with_reducible first|refine Zd ?_ |refine Ae (fun _=>?_) fun _=>?_ |refine Nb fun nb A0 C0 B0=>?_ |refine Nr fun nb D0 E0 A0 I0 C0 B0=>?_
   |simp -dsimp -implicitDefEqProofs (disch:=first|exact Kd|fail) only[go_sem,↓reduceIte,seval, -He,Ye,V4,Y6,Z6,A7,zj]
  refine zAx hsm2 N1 (O2.is.mono A1) T6 fun G4 v4 Z1 S1 hI4=>?_;obtain⟨C4,an4,al4,ay4,cn4,cl4,cs4,rs4,rfl,O4⟩:=hI4.opened;have Dc:=O4.len;have Ld:=zbg O4.is;have Md:=zbh Dc;have htk4:Hf 260 C4=C4:=Pe Ko;have hE:=S1;try simp only[zzs] at hE
  repeat(obtain⟨J0,hE⟩:=hE)
  repeat' first
   |with_reducible first|refine Zd ?_ |refine Ae (fun _=>?_) fun _=>?_ |refine Nb fun nb A0 C0 B0=>?_ |refine Nr fun nb D0 E0 A0 I0 C0 B0=>?_
   |simp -dsimp -implicitDefEqProofs (disch:=first|exact Kd|fail) only[go_sem,↓reduceIte,seval, -He,Ye,Dc,Ld,Md,htk4,zj]
  unfold zo;refine Xf (H':=H) Ks ?_;exact fun _ hs=>hR G4 _ (Q0.trans (A1.trans Z1)) hs O4.is
 ·rw[zgM K0] at K3⊢;rw[zh6 K0] at hR;have K3:IsD G2 zah v2:=K3;obtain⟨C2,an2,al2,ay2,cn2,cl2,cs2,rs2,rfl,O2⟩:=K3.opened;have V4:=O2.len;have Y6:=zbg O2.is;have Z6:=zbh V4;have hE:=R0;try simp only[zzs] at hE
  repeat(obtain⟨J0,hE⟩:=hE)
  repeat' first
   |with_reducible first|refine Zd ?_ |refine Ae (fun _=>?_) fun _=>?_ |refine Nb fun nb A0 C0 B0=>?_ |refine Nr fun nb D0 E0 A0 I0 C0 B0=>?_
   |simp -dsimp -implicitDefEqProofs (disch:=first|exact Kd|fail) only[go_sem,↓reduceIte,seval, -He,Ye,N0,T0,V4,Y6,Z6,zj,zG,zI,zM]
  unfold zo;refine Xf (H':=H) Ks ?_;exact fun _ hs=>hR G2 _ Q0 hs (zak _)
theorem zAc (n:Nat) (hn:n<256) (first:Bool) {G:zb} {H:za} {R:Value→zb→za→Prop} (hR:R (.bool (zf2 n first)) G H):FnT Tryz.prog 32 [.int .u8 (n:Nat), .bool first] G H R:=by
 unfold zf2 at hR;by_cases h:48≤n∧n≤57
 ·rw[if_pos h] at hR;refine Ee tok zyP Tryz.func32 rfl Kk Kk Kn fun M0=>?_;rw[Tryz.results32];have hE:=M0;try simp only[zzs] at hE
  repeat(obtain⟨J0,hE⟩:=hE)
  repeat' first
   |with_reducible first|refine Zd ?_ |refine Ae (fun _=>?_) fun _=>?_
   |simp -dsimp -implicitDefEqProofs (disch:=first|exact Kd|fail) only[go_sem,↓reduceIte,seval]
  all_goals try(exfalso;omega)
  all_goals refine De ?_ hR ?_
  any_goals first|exact Ks|skip
  rfl
 ·rw[if_neg h] at hR;unfold zfI at hR;refine Ee tok zyP Tryz.func32 rfl Kk Kk Kn fun M0=>?_;rw[Tryz.results32];have hE:=M0;try simp only[zzs] at hE
  repeat(obtain⟨J0,hE⟩:=hE)
  repeat' first
   |with_reducible first|refine Zd ?_ |refine Ae (fun _=>?_) fun _=>?_
   |simp -dsimp -implicitDefEqProofs (disch:=first|exact Kd|fail) only[go_sem,↓reduceIte,seval]
  all_goals try(exfalso;omega)
  all_goals refine De ?_ hR ?_
  any_goals first|exact Ks|skip
  all_goals (simp only[Value.bool.injEq];rw[Lf];simp;omega)
theorem zjp (s:List UInt8) (X1:s.length≤2000000) {G:zb} {H:za} {R:Value→zb→za→Prop} (hR:R (.bool (zcD s)) G H):FnT Tryz.prog 19 [str s] G H R:=by
 refine Ee tok zyQ Tryz.func19 rfl Kk Kk Kn fun M0=>?_;rw[Tryz.results19];have hE:=M0;try simp only[zzs] at hE
 repeat(obtain⟨J0,hE⟩:=hE)
 repeat' first
  |with_reducible first|refine Zd ?_ |refine Ae (fun _=>?_) fun _=>?_ |refine Nb fun nb A0 C0 B0=>?_
  |simp -dsimp -implicitDefEqProofs (disch:=first|exact Kd|fail) only[go_sem,↓reduceIte,seval]
 refine Je tok zyQ Kk [0,2,3] (fun q G' fr H'=> ∃i:Nat,i+q=s.length∧(∀j (h:j<s.length),j<i→zf2 s[j].toNat (decide (j=0))=true)∧G'=G∧H'=H∧fr=[(0,str s),(2, .bool false),(3, .int .i64 i)]) (s.length) (Ce ?_) ?_
 ·exact⟨0,by omega,fun j _ h=>by omega,rfl,rfl,rfl⟩
 ·rintro q G' fr H' S0 hs ⟨i,hi,B1,rfl,rfl,rfl⟩;by_cases Y0:i<s.length
  ·have hb:s[i].toNat<256:=s[i].toNat_lt;have hd:decide ((i:Int)=0)=decide (i=0):=decide_eq_decide.2 Ko
   repeat' first
    |with_reducible first|refine Zd ?_ |refine Ae (fun _=>?_) fun _=>?_ |refine Nb fun nb A0 C0 B0=>?_
    |simp -dsimp -implicitDefEqProofs (disch:=first|exact Kd|fail) only[go_sem,↓reduceIte,seval,hd]
    |with_reducible refine zAc _ hb _ ?_
   ·rename_i hm
    exact Ce ⟨q - 1,by omega,i+1,by omega,fun j h hj=>by
     by_cases e:j=i
     ·subst e;exact hm
     ·exact B1 j h Ko,rfl,rfl,rfl⟩
   ·rename_i hm;rw[zj1 fun h=>by have:=h.2.2 i Y0;rw[hm] at this;cases this] at hR;all_goals refine De ?_ hR ?_
    any_goals first|exact Ks|skip
    rfl
  ·obtain rfl:i=s.length:=by omega
   have K0:okS s:=fun j h=>B1 j h h
   repeat' first
    |with_reducible first|refine Zd ?_ |refine Ae (fun _=>?_) fun _=>?_ |refine Nb fun nb A0 C0 B0=>?_
    |simp -dsimp -implicitDefEqProofs (disch:=first|exact Kd|fail) only[go_sem,↓reduceIte,seval]
   all_goals (
    refine De Ks hR ?_;simp only[Value.bool.injEq];rw[Lf,zfc];simp [K0];try omega)
theorem za1 {d:DfaT} (P0:zr d) {G:zb} {H:za} {R:Value→zb→za→Prop} {v:Value} (hv:IsD G d v) (hR: ∀G',PLe G G'→Sep G' (zm H)→R (.bool (zaz (zg d))) G' H):FnT Tryz.prog 9 [v] G H R:=by
  obtain⟨C,an,al,ay,cn,cl,cs,rs,rfl,O⟩:=hv.opened;obtain⟨U3,M2,V3,A4,M4⟩:=id P0;have N0:=O.len;have D1:=O.w;have J1:=O.n;have X0:=O.l;have S2:=O.s;have E4:=O.of;refine Zf ?_;by_cases h1:1≤d.label.length∧d.label.length≤65536∧d.next.length=d.label.length∧d.names.length≤64
  · obtain⟨h1a,h1b,h1c,h1d⟩:=h1;refine Ee tok ziV Tryz.func9 rfl Kk Kk Kn fun M0=>?_;rw[Tryz.results9];have hE:=M0;try simp only[zzs] at hE
    repeat(obtain⟨J0,hE⟩:=hE)
    repeat' first
      |with_reducible first|refine Zd ?_ |refine Ae (fun _=>?_) fun _=>?_ |refine Nb fun nb A0 C0 B0=>?_
      |simp -dsimp -implicitDefEqProofs (disch:=first|exact Kd|fail) only[go_sem,↓reduceIte,seval, -He,Ye,N0,D1,J1,X0,S2,E4]
    all_goals try(exfalso;omega)
    revert nb;intro b1 R3 T8 B8;refine ztp O.ofl O.ofb d.width fun G2 Q0 R0=>?_;have hE:=R0;try simp only[zzs] at hE
    repeat(obtain⟨J0,hE⟩:=hE)
    have O2:=OpenD.mono Q0 O;by_cases hp:zd d.of=d.of∧((zl d.of).length:Int)=d.width
    · rw[decide_eq_true hp.1,decide_eq_true hp.2]
      repeat' first
        |with_reducible first|refine Zd ?_ |refine Ae (fun _=>?_) fun _=>?_ |refine Nb fun nb A0 C0 B0=>?_
        |simp -dsimp -implicitDefEqProofs (disch:=first|exact Kd|fail) only[go_sem,↓reduceIte,seval, -He,Bool.true_and]
      have K8:=O2.ry;have M6:=O2.rn;have I2:=O2.rl;have La:=O2.rnl;have hny:d.names.length≤64:=h1d;refine Je tok ziV Kk [1,2,3,4] (fun q G' fr H'=> ∃i:Nat,i+q=d.names.length∧(∀j (h:j<d.names.length),j<i→zcD d.names[j]=true∧d.names[j]∉d.names.take j)∧G'=G2∧H'=(b1, .cells C [] 27)::H∧fr=[(1, .pointer (some ⟨b1,0,none⟩)),(2, .bool false),(3, .int .i64 d.label.length),(4, .int .i64 (i:Nat))]) (d.names.length) ?_ ?_
      · exact Ce ⟨0,by omega,fun j _ h=>by omega,rfl,rfl,rfl⟩
      · rintro q G3 fr H' S0 hs ⟨i,hi,B1,rfl,rfl,rfl⟩;have hE:=hs;try simp only[zzs] at hE
        repeat(obtain⟨J0,hE⟩:=hE)
        by_cases Y0:i<d.names.length
        · have B3:Adr ay:=K8.adr (by rw[Be];omega);have hsi:=M4 _ (Me Y0);cases B5:zcD d.names[i] with
          |false=>
            repeat' first
              |with_reducible first|refine Zd ?_ |refine Ae (fun _=>?_) fun _=>?_ |refine Nb fun nb A0 C0 B0=>?_
              |simp -dsimp -implicitDefEqProofs (disch:=first|exact Kd|fail) only[go_sem,↓reduceIte,seval, -He,Ye,N0,D1,J1,X0,S2,Ie K8,Ie M6,Ie I2,Le,B5]
              |with_reducible refine zjp _ hsi ?_
            (unfold zo
             refine Xf (H':=H) Ks ?_;rw[zu (p:=zg d) fun h=>by have:=(h.2.2.2.2.2.1.2 i Y0).1;rw[B5] at this;cases this] at hR;exact fun _ hs=>hR _ Q0 hs)
          |true=>
            repeat' first
              |with_reducible first|refine Zd ?_ |refine Ae (fun _=>?_) fun _=>?_ |refine Nb fun nb A0 C0 B0=>?_
              |simp -dsimp -implicitDefEqProofs (disch:=first|exact Kd|fail) only[go_sem,↓reduceIte,seval, -He,Ye,N0,D1,J1,X0,S2,Ie K8,Ie M6,Ie I2,Le,B5]
              |with_reducible refine zjp _ hsi ?_
            refine Je tok ziV Kk [1,2,3,4,5] (fun q2 G' fr H'=> ∃k:Nat,k+q2=i∧(∀j (h:j<d.names.length),j<k→d.names[j]≠d.names[i])∧G'=G3∧H'=(b1, .cells C [] 27)::H∧fr=[(1, .pointer (some ⟨b1,0,none⟩)),(2, .bool false),(3, .int .i64 d.label.length),(4, .int .i64 (i:Nat)),(5, .int .i64 (k:Nat))]) (i) ?_ ?_
            · exact Ce ⟨0,by omega,fun j _ h=>by omega,rfl,rfl,rfl⟩
            · rintro q2 G4 fr H' Z1 S1 ⟨k,hk,Xb,rfl,rfl,rfl⟩;have hE:=S1;try simp only[zzs] at hE
              repeat(obtain⟨J0,hE⟩:=hE)
              by_cases Q2:k<i
              · have S8:k<d.names.length:=by omega
                repeat' first
                  |with_reducible first|refine Zd ?_ |refine Ae (fun _=>?_) fun _=>?_ |refine Nb fun nb A0 C0 B0=>?_
                  |with_reducible refine Tri.drawM tok mixed ziV 12 [1,4,6,9] (.op 0 .plain (.op 1 .held (.op 2 .plain (.op 3 .plain (.op 4 .held (.op 5 .plain (.op 6 .held (.op 7 .plain (.op 8 .plain (.op 9 .held (.op 10 .plain .nil))))))))))) Kk _ (List.Sublist.refl _) ?_
                  |simp -dsimp -implicitDefEqProofs (disch:=first|exact Kd|fail) only[go_sem,↓reduceIte,seval, -He,Ye,N0,D1,J1,X0,S2,Ie K8,Ie M6,Ie I2,Le]
                · rename_i hsame;unfold zo;refine Xf (H':=H) Ks ?_;rw[zu (p:=zg d) fun h=>(h.2.2.2.2.2.1.2 i Y0).2 ((zaQ Y0).2 ⟨k,Q2,hsame⟩)] at hR;exact fun _ hs=>hR _ Q0 hs
                · rename_i hsame
                  exact Ce ⟨q2 - 1,by omega,k+1,by omega,fun j h hj=>by
                    by_cases e:j=k
                    · subst e;exact hsame
                    · exact Xb j h Ko,rfl,rfl,rfl⟩
              · obtain rfl:k=i:=by omega
                repeat' first
                  |with_reducible first|refine Zd ?_ |refine Ae (fun _=>?_) fun _=>?_ |refine Nb fun nb A0 C0 B0=>?_
                  |simp -dsimp -implicitDefEqProofs (disch:=first|exact Kd|fail) only[go_sem,↓reduceIte,seval, -He]
                exact Ce ⟨q - 1,by omega,k+1,by omega,fun j h hj=>by
                  by_cases e:j=k
                  · subst e;refine⟨B5,fun hm=>?_⟩;obtain⟨t,ht,e⟩:=(zaQ h).1 hm;exact Xb t Ko ht e
                  · exact B1 j h Ko,rfl,rfl,rfl⟩
        · obtain rfl:i=d.names.length:=by omega
          have hnok:zaR d.names:=⟨h1d,fun i h=>B1 i h h⟩
          repeat' first
            |with_reducible first|refine Zd ?_ |refine Ae (fun _=>?_) fun _=>?_ |refine Nb fun nb A0 C0 B0=>?_
            |simp -dsimp -implicitDefEqProofs (disch:=first|exact Kd|fail) only[go_sem,↓reduceIte,seval, -He,Ye,N0,D1,J1,X0,S2,Ie K8,Ie M6,Ie I2,Le]
          refine Je tok ziV Kk [1,2,3,6] (fun q G' fr H'=> ∃s:Nat,s+q=d.next.length∧(∀j,j<s→zrI d j)∧G'=G3∧H'=(b1, .cells C [] 27)::H∧fr=[(1, .pointer (some ⟨b1,0,none⟩)),(2, .bool false),(3, .int .i64 d.label.length),(6, .int .i64 (s:Nat))]) (d.next.length) ?_ ?_
          · exact Ce ⟨0,by omega,fun j h=>by omega,rfl,rfl,rfl⟩
          · rintro q3 G5 fr H' A2 P1 ⟨s,hi3,hno3,rfl,rfl,rfl⟩;have hE:=P1;try simp only[zzs] at hE
            repeat(obtain⟨J0,hE⟩:=hE)
            by_cases D3:s<d.next.length
            · have hsv:s<rs.length:=by omega
              have hsL:s<d.label.length:=by omega
              obtain⟨b,c,e1,e2,e3⟩:=O2.rs s D3 hsv;have hrm:=M2 _ (Me D3);have B3:Adr an:=M6.adr Ko;have V6:Adr al:=I2.adr (by rw[Be];omega)
              repeat' first
                |with_reducible first|refine Zd ?_ |refine Ae (fun _=>?_) fun _=>?_ |refine Nb fun nb A0 C0 B0=>?_
                |simp -dsimp -implicitDefEqProofs (disch:=first|exact Kd|fail) only[go_sem,↓reduceIte,seval, -He,Ye,N0,D1,J1,X0,S2,Ie K8,Ie M6,Ie I2,Le,e1]
                |with_reducible refine Tri.drawM tok mixed ziV 17 [1,4,7,11,14,19,22,24] (.op 0 .plain (.op 1 .held (.op 2 .plain (.op 3 .plain (.op 4 .held (.op 5 .plain (.op 6 .plain (.op 7 .held (.op 8 .plain (.op 9 .plain (.op 10 .plain (.op 11 .held (.op 12 .plain (.op 13 .plain (.op 14 .held (.op 15 .plain (.op 16 .plain (.op 17 .plain (.op 18 .plain (.op 19 .held (.op 20 .plain (.op 21 .plain (.op 22 .held (.op 23 .plain (.op 24 .held (.op 25 .plain (.op 26 .plain (.op 27 .plain .nil)))))))))))))))))))))))))))) Kk _ (List.Sublist.refl _) ?_
              all_goals try(
                have Nc: ¬zg d:=fun h=>by
                  obtain⟨r1,r2,r3,r4⟩:=h.2.2.2.2.2.2 s D3 hsL;omega
                unfold zo;refine Xf (H':=H) Ks ?_;rw[zu Nc] at hR;exact fun _ hs=>hR _ Q0 hs)
              obtain⟨row,U0⟩: ∃row,row=d.next[s]:=⟨_,rfl⟩;have hrw:(row.length:Int)=d.width∧0≤d.label[s]∧d.label[s]≤d.names.length:=by rw[U0];omega
              rw[←U0] at e1 e2 e3 hrm;refine Je tok ziV Kk [1,2,3,6,7] (fun q4 G' fr H'=> ∃k:Nat,k+q4=row.length∧(∀j (h:j<row.length),j<k→0≤row[j]∧row[j] <d.label.length)∧G'=G5∧H'=(b1, .cells C [] 27)::H∧fr=[(1, .pointer (some ⟨b1,0,none⟩)),(2, .bool false),(3, .int .i64 d.label.length),(6, .int .i64 (s:Nat)),(7, .int .i64 (k:Nat))]) (row.length) ?_ ?_
              · exact Ce ⟨0,by omega,fun j _ h=>by omega,rfl,rfl,rfl⟩
              · rintro q4 G6 fr H' Q1 E3 ⟨k,hk,hno4,rfl,rfl,rfl⟩;have hE:=E3;try simp only[zzs] at hE
                repeat(obtain⟨J0,hE⟩:=hE)
                by_cases Q2:k<row.length
                · have Xa:Adr b:=e2.adr (by rw[Be];omega)
                  repeat' first
                    |with_reducible first|refine Zd ?_ |refine Ae (fun _=>?_) fun _=>?_ |refine Nb fun nb A0 C0 B0=>?_
                    |simp -dsimp -implicitDefEqProofs (disch:=first|exact Kd|fail) only[go_sem,↓reduceIte,seval, -He,Ye,N0,D1,J1,X0,S2,Ie K8,Ie M6,Ie I2,Le,e1,Ie e2]
                  all_goals try(exfalso;omega)
                  all_goals first
                    | (have Nc : ¬ zg d := fun h => by
                        obtain⟨r1,r2,r3,r4⟩:=h.2.2.2.2.2.2 s D3 hsL;have:=r4 row[k] (by rw[←U0];exact Me Q2);omega
                       unfold zo;refine Xf (H':=H) Ks ?_;rw[zu Nc] at hR;exact fun _ hs=>hR _ Q0 hs)
                    | exact Ce ⟨q4 - 1, by omega, k + 1, by omega, fun j h hj => by
                        by_cases e:j=k
                        · subst e;omega
                        · exact hno4 j h Ko,rfl,rfl,rfl⟩
                · obtain rfl:k=row.length:=by omega
                  repeat' first
                    |with_reducible first|refine Zd ?_ |refine Ae (fun _=>?_) fun _=>?_ |refine Nb fun nb A0 C0 B0=>?_
                    |simp -dsimp -implicitDefEqProofs (disch:=first|exact Kd|fail) only[go_sem,↓reduceIte,seval, -He,Ye,N0,D1,J1,X0,S2,Ie K8,Ie M6,Ie I2,Le]
                  all_goals try(exfalso;omega)
                  exact Ce ⟨q3 - 1,by omega,s+1,by omega,fun j hj=>by
                    by_cases e:j=s
                    · subst e
                      exact fun h1 h2=>⟨by rw[←U0];omega,by omega,by omega,fun t ht=>by
                        rw[←U0] at ht;obtain⟨j,hj,rfl⟩:=Ue ht;exact hno4 j hj hj⟩
                    · exact hno3 j Ko,rfl,rfl,rfl⟩
            · obtain rfl:s=d.next.length:=by omega
              repeat' first
                |with_reducible first|refine Zd ?_ |refine Ae (fun _=>?_) fun _=>?_ |refine Nb fun nb A0 C0 B0=>?_
                |simp -dsimp -implicitDefEqProofs (disch:=first|exact Kd|fail) only[go_sem,↓reduceIte,seval, -He]
              unfold zo;refine Xf (H':=H) Ks ?_
              rw[zA (p:=zg d) ⟨h1a,h1b,h1c,hp.1,hp.2,hnok,fun s=>by
                rcases Eg s d.next.length with h|h
                · exact hno3 s h
                · exact fun h2=>by omega⟩] at hR
              exact fun _ hs=>hR _ Q0 hs
    · have hpf : (decide (zd d.of = d.of) && decide (((zl d.of).length : Int) = d.width)) = false := by
        cases h:(decide (zd d.of=d.of)&&decide (((zl d.of).length:Int)=d.width)) with
        |false=>rfl
        |true=>
          rw[Bool.and_eq_true,decide_eq_true_eq,decide_eq_true_eq] at h;exact absurd h hp
      rw[hpf]
      repeat' first
        |with_reducible first|refine Zd ?_ |refine Ae (fun _=>?_) fun _=>?_ |refine Nb fun nb A0 C0 B0=>?_
        |simp -dsimp -implicitDefEqProofs (disch:=first|exact Kd|fail) only[go_sem,↓reduceIte,seval, -He]
      unfold zo;refine Xf (H':=H) Ks ?_;rw[zu fun h=>hp ⟨h.2.2.2.1,h.2.2.2.2.1⟩] at hR;exact fun _ hs=>hR G2 Q0 hs
  · rw[zu fun h=>h1 ⟨h.1,h.2.1,h.2.2.1,h.2.2.2.2.2.1.1⟩] at hR;refine Ee tok ziV Tryz.func9 rfl Kk Kk Kn fun M0=>?_;rw[Tryz.results9];have hE:=M0;try simp only[zzs] at hE
    repeat(obtain⟨J0,hE⟩:=hE)
    repeat' first
      |with_reducible first|refine Zd ?_ |refine Ae (fun _=>?_) fun _=>?_ |refine Nb fun nb A0 C0 B0=>?_
      |simp -dsimp -implicitDefEqProofs (disch:=first|exact Kd|fail) only[go_sem,↓reduceIte,seval, -He,Ye,N0,D1,J1,X0,S2,E4]
    all_goals try(exfalso;omega)
    all_goals (
      unfold zo;refine Xf (H':=H) Ks ?_;exact fun _ hs=>hR G (PLe.refl _) hs)
noncomputable def zlY (d:DfaT) (n:Int):Bool:=zaz (zg d)&&decide ((d.label.length:Int)≤n)
theorem zt6 {d:DfaT} (P0:zr d) {n:Int} {G:zb} {H:za} {R:Value→zb→za→Prop} {v:Value} (hv:IsD G d v)
  (hR: ∀G',PLe G G'→Sep G' (zm H)→R (.bool (zlY d n)) G' H):FnT Tryz.prog 10 [v, .int .i64 n] G H R:=by
 obtain⟨C,an,al,ay,cn,cl,cs,rs,rfl,O⟩:=hv.opened;have N0:=O.len;have T0:=O.all;have X0:=O.l;unfold zlY at hR;refine Zf ?_;by_cases K0:zg d
 ·have hb:=zA K0;rw[hb,Bool.true_and] at hR;refine Ee tok zgW Tryz.func10 rfl Kk Kk Kn fun M0=>?_;rw[Tryz.results10];have hE:=M0;try simp only[zzs] at hE
  repeat(obtain⟨J0,hE⟩:=hE)
  repeat' first
   |with_reducible first|refine Zd ?_ |refine Ae (fun _=>?_) fun _=>?_ |refine Nb fun nb A0 C0 B0=>?_
   |simp -dsimp -implicitDefEqProofs (disch:=first|exact Kd|fail) only[go_sem,↓reduceIte,seval, -He,Ye,N0,T0]
  refine za1 P0 O.is fun G2 Q0 R0=>?_;have hE:=R0;try simp only[zzs] at hE
  repeat(obtain⟨J0,hE⟩:=hE)
  repeat' first
   |with_reducible first|refine Zd ?_ |refine Ae (fun _=>?_) fun _=>?_ |refine Nb fun nb A0 C0 B0=>?_
   |simp -dsimp -implicitDefEqProofs (disch:=first|exact Kd|fail) only[go_sem,↓reduceIte,seval, -He,Ye,N0,T0,X0,hb]
  unfold zo;refine Xf (H':=H) Ks ?_;exact fun _ hs=>hR G2 Q0 hs
 ·have hb:=zu K0;rw[hb,Bool.false_and] at hR;refine Ee tok zgW Tryz.func10 rfl Kk Kk Kn fun M0=>?_;rw[Tryz.results10];have hE:=M0;try simp only[zzs] at hE
  repeat(obtain⟨J0,hE⟩:=hE)
  repeat' first
   |with_reducible first|refine Zd ?_ |refine Ae (fun _=>?_) fun _=>?_ |refine Nb fun nb A0 C0 B0=>?_
   |simp -dsimp -implicitDefEqProofs (disch:=first|exact Kd|fail) only[go_sem,↓reduceIte,seval, -He,Ye,N0,T0]
  refine za1 P0 O.is fun G2 Q0 R0=>?_;have hE:=R0;try simp only[zzs] at hE
  repeat(obtain⟨J0,hE⟩:=hE)
  repeat' first
   |with_reducible first|refine Zd ?_ |refine Ae (fun _=>?_) fun _=>?_ |refine Nb fun nb A0 C0 B0=>?_
   |simp -dsimp -implicitDefEqProofs (disch:=first|exact Kd|fail) only[go_sem,↓reduceIte,seval, -He,Ye,N0,T0,X0,hb]
  unfold zo;refine Xf (H':=H) Ks ?_;exact fun _ hs=>hR G2 Q0 hs
def nxN (d:DfaT) (s c:Nat):Nat:=(atL (d.next.getD s []) c).toNat
def yTo (d:DfaT) (f:Nat→Nat→Bool) (s t k:Nat):Bool:=(Hg k).any fun c=>f (nxN d s c) (nxN d t c)
def yB (d:DfaT) (f:Nat→Nat→Bool) (s t:Nat):Bool:=yTo d f s t d.width.toNat
theorem zoG (d:DfaT) (f:Nat→Nat→Bool) (s t k:Nat):yTo d f s t (k+1)=(yTo d f s t k||f (nxN d s k) (nxN d t k)):=by
 unfold yTo;rw[Sf,List.any_append];simp
theorem zoH {d:DfaT} {f:Nat→Nat→Bool} {s t k:Nat} (h:yTo d f s t k=true): ∀j,yTo d f s t (k+j)=true
 |0=>h
 |j+1=>by rw[←Nat.add_assoc,zoG,zoH h j];rfl
def zoI (G:zb) (n:Nat) (f:Nat→Nat→Bool) (aw:Option Addr):Prop:= ∃wv,Row G aw wv∧wv.length=n∧ ∀i (h:i<n) (h1:i<wv.length),∃a c,wv[i]= .slice a n c∧Row G a (zap n (f i))∧n≤c
theorem zlZ {n:Nat} (g:Nat→Bool) {sp:List Value} {t:Nat} (h:t<n):(zap n g++sp)[t]? =some (.bool (g t)):=by
 rw[List.getElem?_append_left (by rw[zY];exact h)];exact rowV_get? g h
set_option maxRecDepth 4000 in
theorem zAz {d:DfaT} (P0:zr d) (K0:zg d) {C:List Value} {an al ay:Option Addr} {cn cl cs:Nat} {rs:List Value} {G:zb} (O:OpenD G d C an al ay cn cl cs rs) {n:Nat} (hn:n=d.label.length)
  {ao:Option Addr} {co:Nat} {vs:List Value} (Y4:Row G ao vs) (hvl:vs.length=n) {s t:Nat} (hs:s<n) (ht:t<n) {bs cc:Nat} (J6:vs[s]'Ko= .slice (some ⟨bs,0,none⟩) n cc) {aw:Option Addr} {cw:Nat} {f:Nat→Nat→Bool} (hW:zoI G n f aw)
  {g:Nat→Bool} {more:Bool} {sp:List Value} {v1 v4 v10:Value} {b2:Nat} {H:za}:
  Tri Tryz.prog Tryz.f140.ntmps (piece [1,1,1,1,0,1,0,0,1,0,0,1,1,1,0,1,0,0,1,0,0,1,0,0,1,0,0] Tryz.f140) G
   [(1,v1),(2, .pointer (some ⟨b2,0,none⟩)),(4,v4),(5, .int .i64 (n:Nat)),(6, .slice ao n co),(10,v10),(11, .bool more),(12, .slice aw n cw),(14, .int .i64 (s:Nat)),(15, .int .i64 (t:Nat))]
   ((bs, .cells (zap n g) sp 4):: (b2, .cells C [] 27)::H) (onlyN fun G' fr' H'=> ∃g' more',(∀j,j<n→g' j=if j=t then g t||yB d f s t else g j)∧more'=(more||(!g t&&yB d f s t))∧G'=G∧
    zy [1,2,4,5,6,10,11,12,14,15] fr'=[(1,v1),(2, .pointer (some ⟨b2,0,none⟩)),(4,v4),(5, .int .i64 (n:Nat)),(6, .slice ao n co),(10,v10),(11, .bool more'),(12, .slice aw n cw),(14, .int .i64 (s:Nat)),(15, .int .i64 (t:Nat))]∧
    H'=(bs, .cells (zap n g') sp 4):: (b2, .cells C [] 27)::H):=by
 obtain⟨U3,M2,V3,A4,M4⟩:=id P0;obtain⟨Y2,K2,U2,N3,X3,Y3,Y1⟩:=id K0;have N0:=O.len;have D1:=O.w;have J1:=O.n;obtain⟨W,hWd⟩:=Dg (show 0≤d.width by omega);obtain⟨wv,R8,P4,hwg⟩:=hW;have I1:s<d.next.length:=by omega
 have L1:t<d.next.length:=by omega
 have La:=O.rnl;obtain⟨b,c,e1,e2,e3⟩:=O.rs s I1 Ko;obtain⟨b',c',f1,f2,f3⟩:=O.rs t L1 Ko;obtain⟨E5,_,_,U1⟩:=Y1 s I1 Ko;obtain⟨F7,_,_,V1⟩:=Y1 t L1 Ko
 have hWb:W≤256:=by
  have h1:=zZ d.of;rw[O.ofl] at h1;omega
 have D3:s<vs.length:=by omega
 have B3:Adr an:=O.rn.adr Ko;have hado:Adr ao:=Y4.adr Ko;have hadw:Adr aw:=R8.adr Ko;have hyW:yB d f s t=yTo d f s t W:=by unfold yB;rw[hWd];rfl
 have Dd:=zY n;refine Tri.sepT fun M1=>?_;have hE:=M1;try simp only[zzs] at hE
 repeat(obtain⟨J0,hE⟩:=hE)
 refine Xg (f:=Tryz.f140) rfl ?_;refine Yg tok zbe Kk ?_
 repeat' first
  |with_reducible first|refine Zd ?_ |refine Ae (fun _=>?_) fun _=>?_ |refine Nb fun nb A0 C0 B0=>?_ |refine Nr fun nb D0 E0 A0 I0 C0 B0=>?_
  |simp -dsimp -implicitDefEqProofs (disch:=first|exact Kd|fail) only[go_sem,↓reduceIte,seval]
 refine Je tok zbe Kk [1,2,4,5,6,10,11,12,14,15,16] (fun q G' fr H'=> ∃ (k:Nat) (g':Nat→Bool) (more':Bool),k+q=W∧(∀j,j<n→g' j=if j=t then g t||yTo d f s t k else g j)∧more'=(more||(!g t&&yTo d f s t k))∧G'=G∧H'=(bs, .cells (zap n g') sp 4):: (b2, .cells C [] 27)::H∧fr=[(1,v1),(2, .pointer (some ⟨b2,0,none⟩)),(4,v4),(5, .int .i64 (n:Nat)),(6, .slice ao n co),(10,v10),(11, .bool more'),(12, .slice aw n cw),(14, .int .i64 (s:Nat)),(15, .int .i64 (t:Nat)),(16, .int .i64 (k:Nat))]) (W) ?_ ?_
 ·exact Ce ⟨0,g,more,by omega,fun j hj=>by
   have h0:yTo d f s t 0=false:=rfl;rw[h0,Bool.or_false];split
   ·rename_i h;rw[h]
   ·rfl,by
   have h0:yTo d f s t 0=false:=rfl;rw[h0,Bool.and_false,Bool.or_false],rfl,rfl,rfl⟩
 ·rintro q G1 fr H' S0 V0 ⟨k,g',more',hkq,Ua,Z7,rfl,rfl,rfl⟩;have hE:=V0;try simp only[zzs] at hE
  repeat(obtain⟨J0,hE⟩:=hE)
  have J9:g' t=(g t||yTo d f s t k):=by rw[Ua t ht,if_pos rfl]
  by_cases hkw:k<W∧g' t=false
  ·obtain⟨hkW,hgf⟩:=hkw
   have hz:g t=false∧yTo d f s t k=false:=by
    rw[hgf] at J9;exact Bool.or_eq_false_iff.1 J9.symm
   have hk1':k< (d.next[s]).length:=by omega
   have hk2':k< (d.next[t]).length:=by omega
   have hx:=U1 _ (Me hk1');have hy:=V1 _ (Me hk2');obtain⟨x,hxe⟩:=Dg hx.1;obtain⟨y,hye⟩:=Dg hy.1;have hxn:x<n:=by omega
   have hyn:y<n:=by omega
   obtain⟨ax,cx,g1,g2,g3⟩:=hwg x hxn Ko;have V6:Adr b:=e2.adr (by rw[Be];omega);have Xa:Adr b':=f2.adr (by rw[Be];omega);have Yc:Adr ax:=g2.adr (by rw[zY];omega)
   have P9:nxN d s k=x:=by
    unfold nxN;rw[Fg,Xe I1];show(atL d.next[s] k).toNat=x;rw[zL (by simpa using hk1')];simp only[Yf];omega
   have hny:nxN d t k=y:=by
    unfold nxN;rw[Fg,Xe L1];show(atL d.next[t] k).toNat=y;rw[zL (by simpa using hk2')];simp only[Yf];omega
   have hrl1:=M2 _ (Me I1);have hyr:y< (zap n (f x)).length:=by rw[zY];exact hyn
   have hy1:yTo d f s t (k+1)=f x y:=by rw[zoG,hz.2,P9,hny,Fi]
   have Z2: ∀j,j<n→(if j=t then f x y else g' j)=if j=t then g t||yTo d f s t (k+1) else g j:=fun j hj=>by
    rw[hy1,hz.1,Fi];split
    ·rfl
    ·rename_i P3;rw[Ua j hj,if_neg P3]
   have U3:more'=more:=by rw[Z7,hz.1,hz.2];simp
   repeat' first
    |with_reducible first|refine Zd ?_ |refine Ae (fun _=>?_) fun _=>?_ |refine Nb fun nb A0 C0 B0=>?_ |refine Nr fun nb D0 E0 A0 I0 C0 B0=>?_
    |simp -dsimp -implicitDefEqProofs (disch:=first|exact Kd|fail) only[go_sem,↓reduceIte,seval, -He,Ye,N0,D1,hWd,J1,Ie Y4,J6,zlZ,hgf,Dd,Ie O.rn,e1,f1,Ie e2,Ie f2,Le,hxe,hye,Yf,Ie R8,g1,Ie g2,zdX,znU]
    |with_reducible refine Vf tok mixed zbe 30 [3,7,10,13,15,17,20,23,25] (.op 0 .plain (.op 1 .plain (.op 2 .plain (.op 3 .held (.op 4 .plain (.op 5 .plain (.op 6 .plain (.op 7 .held (.op 8 .plain (.op 9 .plain (.op 10 .held (.op 11 .plain (.op 12 .plain (.op 13 .held (.op 14 .plain (.op 15 .held (.op 16 .plain (.op 17 .held (.op 18 .plain (.op 19 .plain (.op 20 .held (.op 21 .plain (.op 22 .plain (.op 23 .held (.op 24 .plain (.op 25 .held (.op 26 .plain (.op 27 .plain .nil)))))))))))))))))))))))))))) Kk [6,2,12] ?_
   ·rename_i hmt;exact Ce ⟨q - 1,by omega,k+1,fun j=>if j=t then f x y else g' j,true,by omega,Z2,by rw[←U3,hmt];rfl,rfl,rfl,rfl⟩
   ·rename_i hmf;exact Ce ⟨q - 1,by omega,k+1,fun j=>if j=t then f x y else g' j,f x y,by omega,Z2,by rw[←U3,hmf,hy1,hz.1];rfl,rfl,rfl,rfl⟩
  ·have hexit:yTo d f s t k=true∨g t=true∨k=W:=by
    rcases Eg k W with h|h
    ·cases hgv:g' t with
     |false=>exact(hkw ⟨h,hgv⟩).elim
     |true=>
      rw[hgv] at J9;cases Z2:g t with
      |true=>exact .inr (.inl rfl)
      |false=>rw[Z2,Fi] at J9;exact .inl J9.symm
    ·exact .inr (.inr Ko)
   have J5:(∀j,j<n→g' j=if j=t then g t||yB d f s t else g j)∧more'=(more||(!g t&&yB d f s t)):=by
    rw[hyW];rcases hexit with h|h|h
    ·have h2:=zoH h (W - k);rw[show k+(W - k)=W by omega] at h2;rw[h] at Ua Z7;rw[h2];exact⟨Ua,Z7⟩
    ·rw[h] at Ua Z7;rw[h];simp only[Bool.true_or,Bool.not_true,Bool.false_and,Bool.or_false] at Ua Z7⊢;exact⟨Ua,Z7⟩
    ·subst h;exact⟨Ua,Z7⟩
   by_cases hkW:k<W
   ·have hgv:g' t=true:=by
     cases hgv:g' t with
     |false=>exact(hkw ⟨hkW,hgv⟩).elim
     |true=>rfl
    repeat' first
     |with_reducible first|refine Zd ?_ |refine Ae (fun _=>?_) fun _=>?_ |refine Nb fun nb A0 C0 B0=>?_ |refine Nr fun nb D0 E0 A0 I0 C0 B0=>?_
     |simp -dsimp -implicitDefEqProofs (disch:=first|exact Kd|fail) only[go_sem,↓reduceIte,seval, -He,Ye,N0,D1,hWd,J1,Ie Y4,J6,zlZ,hgv,Dd]
    exact Ce ⟨g',more',J5.1,J5.2,rfl,rfl,rfl⟩
   ·repeat' first
     |with_reducible first|refine Zd ?_ |refine Ae (fun _=>?_) fun _=>?_ |refine Nb fun nb A0 C0 B0=>?_ |refine Nr fun nb D0 E0 A0 I0 C0 B0=>?_
     |simp -dsimp -implicitDefEqProofs (disch:=first|exact Kd|fail) only[go_sem,↓reduceIte,seval, -He,Ye,N0,D1,hWd,J1,Ie Y4,J6,zlZ,Dd]
    exact Ce ⟨g',more',J5.1,J5.2,rfl,rfl,rfl⟩
theorem zoJ (p:Nat→Bool) (t:Nat):(Hg (t+1)).any p=((Hg t).any p||p t):=by
 rw[Sf,List.any_append];simp
theorem zAA {d:DfaT} (P0:zr d) (K0:zg d) {C:List Value} {an al ay:Option Addr} {cn cl cs:Nat} {rs:List Value} {G:zb} (O:OpenD G d C an al ay cn cl cs rs) {n:Nat} (hn:n=d.label.length)
  {ao:Option Addr} {co:Nat} {vs:List Value} (Y4:Row G ao vs) (hvl:vs.length=n) {s:Nat} (hs:s<n) {bs cc:Nat} (J6:vs[s]'Ko= .slice (some ⟨bs,0,none⟩) n cc) {aw:Option Addr} {cw:Nat} {f:Nat→Nat→Bool} (hW:zoI G n f aw)
  {g:Nat→Bool} {more:Bool} {sp:List Value} {v1 v4 v10:Value} {b2:Nat} {H:za}:
  Tri Tryz.prog Tryz.f140.ntmps (piece [1,1,1,1,0,1,0,0,1,0,0,1,1,1,0,1,0,0,1,0,0] Tryz.f140) G
   [(1,v1),(2, .pointer (some ⟨b2,0,none⟩)),(4,v4),(5, .int .i64 (n:Nat)),(6, .slice ao n co),(10,v10),(11, .bool more),(12, .slice aw n cw),(14, .int .i64 (s:Nat))]
   ((bs, .cells (zap n g) sp 4):: (b2, .cells C [] 27)::H) (onlyN fun G' fr' H'=> ∃g' more',(∀j,j<n→g' j=(g j||yB d f s j))∧more'=(more||(Hg n).any fun j=> !g j&&yB d f s j)∧G'=G∧
    zy [1,2,4,5,6,10,11,12,14] fr'=[(1,v1),(2, .pointer (some ⟨b2,0,none⟩)),(4,v4),(5, .int .i64 (n:Nat)),(6, .slice ao n co),(10,v10),(11, .bool more'),(12, .slice aw n cw),(14, .int .i64 (s:Nat))]∧
    H'=(bs, .cells (zap n g') sp 4):: (b2, .cells C [] 27)::H):=by
 have K2:=K0.2.1;refine Xg (f:=Tryz.f140) rfl ?_;refine Yg tok zbe Kk ?_
 repeat' first
  |with_reducible first|refine Zd ?_ |refine Ae (fun _=>?_) fun _=>?_ |refine Nb fun nb A0 C0 B0=>?_ |refine Nr fun nb D0 E0 A0 I0 C0 B0=>?_
  |simp -dsimp -implicitDefEqProofs (disch:=first|exact Kd|fail) only[go_sem,↓reduceIte,seval]
 refine Tri.loopS tok zbe (.seq .run (.seq (.block .cut) .cut)) Kk [1,2,4,5,6,10,11,12,14,15] (fun q G' fr H'=> ∃ (t:Nat) (g':Nat→Bool) (more':Bool),t+q=n∧(∀j,j<n→g' j=if j<t then g j||yB d f s j else g j)∧more'=(more||(Hg t).any fun j=> !g j&&yB d f s j)∧G'=G∧H'=(bs, .cells (zap n g') sp 4):: (b2, .cells C [] 27)::H∧fr=[(1,v1),(2, .pointer (some ⟨b2,0,none⟩)),(4,v4),(5, .int .i64 (n:Nat)),(6, .slice ao n co),(10,v10),(11, .bool more'),(12, .slice aw n cw),(14, .int .i64 (s:Nat)),(15, .int .i64 (t:Nat))]) (n) ?_ ?_
 ·exact Ce ⟨0,g,more,by omega,fun j hj=>by rw[if_neg (Nat.not_lt_zero j)],by simp,rfl,rfl,rfl⟩
 ·rintro q G1 fr H' S0 V0 ⟨t,g',more',htq,Ua,Z7,rfl,rfl,rfl⟩;by_cases L1:t<n
  ·repeat' first
    |with_reducible first|refine Zd ?_ |refine Ae (fun _=>?_) fun _=>?_ |refine Nb fun nb A0 C0 B0=>?_ |refine Nr fun nb D0 E0 A0 I0 C0 B0=>?_
    |simp -dsimp -implicitDefEqProofs (disch:=first|exact Kd|fail) only[go_sem,↓reduceIte,seval]
   all_goals try(exfalso;omega)
   refine Ch [1,2,4,5,6,10,11,12,14,15] ?_;refine Ah [1,1,1,1,0,1,0,0,1,0,0,1,1,1,0,1,0,0,1,0,0,1,0,0,1,0,0] Tryz.f140 Kk ?_;refine Tri.onlyN (zAz P0 K0 O hn Y4 hvl hs L1 J6 hW) fun G7 l7 H7 W2 B4 hM=>?_;obtain⟨g2,more2,P2,Wd,rfl,I7,rfl⟩:=hM;simp only[go_sem];refine Ch [1,2,4,5,6,10,11,12,14,15] ?_;rw[I7];refine Yg tok zbe Kk ?_
   repeat' first
    |with_reducible first|refine Zd ?_ |refine Ae (fun _=>?_) fun _=>?_ |refine Nb fun nb A0 C0 B0=>?_ |refine Nr fun nb D0 E0 A0 I0 C0 B0=>?_
    |simp -dsimp -implicitDefEqProofs (disch:=first|exact Kd|fail) only[go_sem,↓reduceIte,seval]
   have J9:g' t=g t:=by rw[Ua t L1,if_neg (Nat.lt_irrefl t)]
   refine Ce ⟨q - 1,by omega,t+1,g2,more2,by omega,fun j hj=>?_,?_,rfl,rfl,rfl⟩
   ·rw[P2 j hj,J9];by_cases e:j=t
    ·subst e;rw[if_pos rfl,if_pos Ko]
    ·rw[if_neg e,Ua j hj];by_cases h:j<t
     ·rw[if_pos h,if_pos Ko]
     ·rw[if_neg h,if_neg Ko]
   ·rw[Wd,Z7,J9,zoJ,Bool.or_assoc]
  ·obtain rfl:t=n:=by omega
   repeat' first
    |with_reducible first|refine Zd ?_ |refine Ae (fun _=>?_) fun _=>?_ |refine Nb fun nb A0 C0 B0=>?_ |refine Nr fun nb D0 E0 A0 I0 C0 B0=>?_
    |simp -dsimp -implicitDefEqProofs (disch:=first|exact Kd|fail) only[go_sem,↓reduceIte,seval]
   all_goals try(exfalso;omega)
   exact Ce ⟨g',more',fun j hj=>by rw[Ua j hj,if_pos hj],Z7,rfl,rfl,rfl⟩
theorem zAB {d:DfaT} (P0:zr d) (K0:zg d) {C:List Value} {an al ay:Option Addr} {cn cl cs:Nat} {rs:List Value} {G:zb} (O:OpenD G d C an al ay cn cl cs rs) {n:Nat} (hn:n=d.label.length)
  {ao:Option Addr} {co:Nat} {vs:List Value} (Y4:Row G ao vs) {aw:Option Addr} {cw:Nat} {f:Nat→Nat→Bool} (hW:zoI G n f aw)
  {h:Nat→Nat→Bool} {F:za} (hF:Fam 4 vs (zdg n h) F) {more:Bool} {v1 v4 v10:Value} {b2:Nat} {H:za}:
  Tri Tryz.prog Tryz.f140.ntmps (piece [1,1,1,1,0,1,0,0,1,0,0,1,1,1,0] Tryz.f140) G
   [(1,v1),(2, .pointer (some ⟨b2,0,none⟩)),(4,v4),(5, .int .i64 (n:Nat)),(6, .slice ao n co),(10,v10),(11, .bool more),(12, .slice aw n cw)]
   ((b2, .cells C [] 27):: (F++H)) (onlyN fun G' fr' H'=> ∃h' more' F',Fam 4 vs (zdg n h') F'∧(∀i j,i<n→j<n→h' i j=(h i j||yB d f i j))∧more'=(more||(Hg n).any fun i=>(Hg n).any fun j=> !h i j&&yB d f i j)∧G'=G∧
    zy [1,2,4,5,6,10,11,12] fr'=[(1,v1),(2, .pointer (some ⟨b2,0,none⟩)),(4,v4),(5, .int .i64 (n:Nat)),(6, .slice ao n co),(10,v10),(11, .bool more'),(12, .slice aw n cw)]∧
    H'=(b2, .cells C [] 27):: (F'++H)):=by
 have K2:=K0.2.1;have hvl:vs.length=n:=by rw[hF.lenv,zb2]
 refine Xg (f:=Tryz.f140) rfl ?_;refine Yg tok zbe Kk ?_
 repeat' first
  |with_reducible first|refine Zd ?_ |refine Ae (fun _=>?_) fun _=>?_ |refine Nb fun nb A0 C0 B0=>?_ |refine Nr fun nb D0 E0 A0 I0 C0 B0=>?_
  |simp -dsimp -implicitDefEqProofs (disch:=first|exact Kd|fail) only[go_sem,↓reduceIte,seval]
 refine Tri.loopS tok zbe (.seq .run (.seq (.block .cut) .cut)) Kk [1,2,4,5,6,10,11,12,14] (fun q G' fr H'=> ∃ (s:Nat) (h':Nat→Nat→Bool) (more':Bool) (F':za),s+q=n∧Fam 4 vs (zdg n h') F'∧(∀i j,i<n→j<n→h' i j=if i<s then h i j||yB d f i j else h i j)∧more'=(more||(Hg s).any fun i=>(Hg n).any fun j=> !h i j&&yB d f i j)∧G'=G∧H'=(b2, .cells C [] 27):: (F'++H)∧fr=[(1,v1),(2, .pointer (some ⟨b2,0,none⟩)),(4,v4),(5, .int .i64 (n:Nat)),(6, .slice ao n co),(10,v10),(11, .bool more'),(12, .slice aw n cw),(14, .int .i64 (s:Nat))]) (n) ?_ ?_
 ·exact Ce ⟨0,h,more,F,by omega,hF,fun i j hi hj=>by rw[if_neg (Nat.not_lt_zero i)],by simp,rfl,rfl,rfl⟩
 ·rintro q G1 fr H' S0 V0 ⟨s,h',more',F',hsq,Aa,hh',Z7,rfl,rfl,rfl⟩;by_cases I1:s<n
  ·repeat' first
    |with_reducible first|refine Zd ?_ |refine Ae (fun _=>?_) fun _=>?_ |refine Nb fun nb A0 C0 B0=>?_ |refine Nr fun nb D0 E0 A0 I0 C0 B0=>?_
    |simp -dsimp -implicitDefEqProofs (disch:=first|exact Kd|fail) only[go_sem,↓reduceIte,seval]
   all_goals try(exfalso;omega)
   refine Ch [1,2,4,5,6,10,11,12,14] ?_;obtain⟨b,c,sp,F2,e1,e2,W7,back⟩:=Aa.out (i:=s) (by rw[zb2];exact I1);rw[zcP h' I1] at e2 W7;rw[zcP h' I1,zY] at e1;refine Tri.upd (Oe (H':=(b, .cells (zap n (h' s)) sp 4):: (b2, .cells C [] 27):: (F2++H)) (by intro fsum;have:=W7 fsum;simp only[zzq];omega) (Ce ?_));refine Ah [1,1,1,1,0,1,0,0,1,0,0,1,1,1,0,1,0,0,1,0,0] Tryz.f140 Kk ?_;refine Tri.onlyN (zAA P0 K0 O hn Y4 hvl I1 e1 hW) fun G7 l7 H7 W2 B4 hM=>?_;obtain⟨g2,more2,P2,Wd,rfl,I7,rfl⟩:=hM;simp only[go_sem];refine Ch [1,2,4,5,6,10,11,12,14] ?_;rw[I7];obtain⟨F3,hF3,hsum3⟩:=back (zap n g2) (by rw[zcP h' I1,zY,zY]);rw[zvf h' I1] at hF3;refine Tri.upd (Oe (H':=(b2, .cells C [] 27):: (F3++H)) (by intro fsum;have:=hsum3 fsum;simp only[zzq];omega) (Ce ?_));refine Yg tok zbe Kk ?_
   repeat' first
    |with_reducible first|refine Zd ?_ |refine Ae (fun _=>?_) fun _=>?_ |refine Nb fun nb A0 C0 B0=>?_ |refine Nr fun nb D0 E0 A0 I0 C0 B0=>?_
    |simp -dsimp -implicitDefEqProofs (disch:=first|exact Kd|fail) only[go_sem,↓reduceIte,seval]
   have J9: ∀j,j<n→h' s j=h s j:=fun j hj=>by rw[hh' s j I1 hj,if_neg (Nat.lt_irrefl s)]
   refine Ce ⟨q - 1,by omega,s+1,_,more2,F3,by omega,hF3,fun i j hi hj=>?_,?_,rfl,rfl,rfl⟩
   ·by_cases e:i=s
    ·subst e;rw[if_pos rfl,if_pos Ko,P2 j hj,J9 j hj]
    ·simp only[if_neg e];rw[hh' i j hi hj];by_cases h:i<s
     ·rw[if_pos h,if_pos Ko]
     ·rw[if_neg h,if_neg Ko]
   ·rw[Wd,Z7,zoJ,Bool.or_assoc]
    have:((Hg n).any fun j=> !h' s j&&yB d f s j)=(Hg n).any fun j=> !h s j&&yB d f s j:=by
     rw[Lf,Ii,Ii];constructor
     ·rintro⟨j,hj,e⟩;exact⟨j,hj,by rw[←J9 j (List.mem_range.1 hj)];exact e⟩
     ·rintro⟨j,hj,e⟩;exact⟨j,hj,by rw[J9 j (List.mem_range.1 hj)];exact e⟩
    rw[this]
  ·obtain rfl:s=n:=by omega
   repeat' first
    |with_reducible first|refine Zd ?_ |refine Ae (fun _=>?_) fun _=>?_ |refine Nb fun nb A0 C0 B0=>?_ |refine Nr fun nb D0 E0 A0 I0 C0 B0=>?_
    |simp -dsimp -implicitDefEqProofs (disch:=first|exact Kd|fail) only[go_sem,↓reduceIte,seval]
   all_goals try(exfalso;omega)
   exact Ce ⟨h',more',F',Aa,fun i j hi hj=>by rw[hh' i j hi hj,if_pos hi],Z7,rfl,rfl,rfl⟩
theorem zmB (n:Nat) (g:Nat→Bool) (sp:List Value):Hf n (zap n g++sp)=zap n g:=by
 rw[Tf (by rw[zY];omega),Pe (by rw[zY];omega)]
theorem zAC {d:DfaT} (K0:zg d) {C:List Value} {G:zb} {n:Nat} (hn:n=d.label.length)
  {ao:Option Addr} {co:Nat} {vs:List Value} (Y4:Row G ao vs) {f:Nat→Nat→Bool} {F:za} (hF:Fam 4 vs (zdg n f) F) {a0:Option Addr} {v1 v4 v10 v11:Value} {b2:Nat} {H:za}:
  Tri Tryz.prog Tryz.f140.ntmps (piece [1,1,1,1,0,1,0,0,1,0,0,1,1,0] Tryz.f140) G
   [(1,v1),(2, .pointer (some ⟨b2,0,none⟩)),(4,v4),(5, .int .i64 (n:Nat)),(6, .slice ao n co),(10,v10),(11,v11),(12, .slice a0 0 0)]
   ((b2, .cells C [] 27):: (F++H)) (onlyN fun G' fr' H'=> ∃aw cw,PLe G G'∧zoI G' n f aw∧
    zy [1,2,4,5,6,10,11,12] fr'=[(1,v1),(2, .pointer (some ⟨b2,0,none⟩)),(4,v4),(5, .int .i64 (n:Nat)),(6, .slice ao n co),(10,v10),(11,v11),(12, .slice aw n cw)]∧
    H'=(b2, .cells C [] 27):: (F++H)):=by
 have Y2:=K0.1;have K2:=K0.2.1;have hvl:vs.length=n:=by rw[hF.lenv,zb2]
 have hado:Adr ao:=Y4.adr Ko;refine Xg (f:=Tryz.f140) rfl ?_;refine Yg tok zbe Kk ?_
 repeat' first
  |with_reducible first|refine Zd ?_ |refine Ae (fun _=>?_) fun _=>?_ |refine Nb fun nb A0 C0 B0=>?_ |refine Nr fun nb D0 E0 A0 I0 C0 B0=>?_
  |simp -dsimp -implicitDefEqProofs (disch:=first|exact Kd|fail) only[go_sem,↓reduceIte,seval]
 refine Tri.loopS tok zbe (.cut) Kk [1,2,4,5,6,10,11,12,13] (fun q G' fr H'=> ∃ (s:Nat) (v:Value) (wv:List Value) (kb:za),s+q=n∧PLe G G'∧zO [] 152 1 v s wv kb∧(∀i (h:i<s) (h1:i<wv.length),∃a c,wv[i]= .slice a n c∧Row G' a (zap n (f i))∧n≤c)∧H'=(b2, .cells C [] 27):: (kb++(F++H))∧fr=[(1,v1),(2, .pointer (some ⟨b2,0,none⟩)),(4,v4),(5, .int .i64 (n:Nat)),(6, .slice ao n co),(10,v10),(11,v11),(12,v),(13, .int .i64 (s:Nat))]) (n) ?_ ?_
 ·exact Ce ⟨0,_,[],[],by omega,PLe.refl _, .inl ⟨a0,rfl,rfl,rfl,rfl⟩,fun i h=>by omega,rfl,rfl⟩
 ·rintro q G1 fr H' S0 V0 ⟨s,v,wv,kb,hsq,N2,hv,hwv,rfl,rfl⟩;by_cases I1:s<n
  ·obtain⟨b,c,sp,F2,e1,e2,W7,back⟩:=hF.out (i:=s) (by rw[zb2];exact I1);rw[zcP f I1] at e2 W7;rw[zcP f I1,zY] at e1;rw[zY] at e2;have hro1:=Y4.mono N2;have Dd:=zY n (f s);rcases hv with ⟨a1,rfl,M1,rfl,rfl⟩| ⟨bw,cw,sw,rfl,rfl,P4,hwc⟩
   ·refine Tri.upd (Oe (H':=(b, .cells (zap n (f s)) sp 4):: (b2, .cells C [] 27):: (F2++H)) (by intro fsum;have:=W7 fsum;simp only[zzq];omega) (Ce ?_));refine Tri.sepT fun R0=>?_;have hE:=R0;try simp only[zzs] at hE
    repeat(obtain⟨J0,hE⟩:=hE)
    refine Yg tok zbe Kk ?_
    repeat' first
     |with_reducible first|refine Zd ?_ |refine Ae (fun _=>?_) fun _=>?_ |refine Nb fun nb A0 C0 B0=>?_ |refine Nr fun nb D0 E0 A0 I0 C0 B0=>?_
     |simp -dsimp -implicitDefEqProofs (disch:=first|exact Kd|fail) only[go_sem,↓reduceIte,seval,Ie hro1,e1,zmB,Dd]
    rename_i r0 x1 x2 x3 br spr cr y1 y2 y3 y4 bt z1 z2 z3;refine Oe (H':=(br, .cells (zap n (f s)) spr 4):: (b2, .cells C [] 27):: ([(nb, .cells [.slice (some ⟨br,0,none⟩) n cr] D0 152)]++(F++H))) (by intro fsum;have:=W7 fsum;simp only[zzq];omega) (Jf Ka fun G2 Q0 K1 V1=>?_);subst M1;refine⟨q - 1,by omega,1,_,[_],_,by omega,N2.trans Q0, .inr ⟨nb,E0,D0,rfl,rfl,rfl,by simp only[Bg];omega⟩,fun i h h1=>?_,rfl,rfl⟩;obtain rfl:i=0:=by omega
    exact⟨_,_,rfl,V1,by omega⟩
   ·refine Tri.upd (Oe (H':=(b, .cells (zap n (f s)) sp 4):: (b2, .cells C [] 27):: (bw, .cells wv sw 152):: (F2++H)) (by intro fsum;have:=W7 fsum;simp only[zzq];omega) (Ce ?_));refine Tri.sepT fun R0=>?_;have hE:=R0;try simp only[zzs] at hE
    repeat(obtain⟨J0,hE⟩:=hE)
    have P4:wv.length=s:=by omega
    refine Yg tok zbe Kk ?_
    repeat' first
     |with_reducible first|refine Zd ?_ |refine Ae (fun _=>?_) fun _=>?_ |refine Nb fun nb A0 C0 B0=>?_ |refine Nr fun nb D0 E0 A0 I0 C0 B0=>?_
     |simp -dsimp -implicitDefEqProofs (disch:=first|exact Kd|fail) only[go_sem,↓reduceIte,seval,Ie hro1,e1,zmB,Dd]
    rename_i r0 x1 x2 x3 br spr cr y1 y2 y3 y4 bt z1 z2 z3;refine Oe (H':=(br, .cells (zap n (f s)) spr 4):: (b2, .cells C [] 27):: ([(nb, .cells (wv++[.slice (some ⟨br,0,none⟩) n cr]) D0 152)]++(F++H))) (by intro fsum;have:=W7 fsum;simp only[zzq];omega) (Jf Ka fun G2 Q0 K1 V1=>?_);refine⟨q - 1,by omega,s+1,_,_,_,by omega,N2.trans Q0, .inr ⟨nb,E0,D0,rfl,rfl,by rw[Ve,P4,Bg];omega,by rw[Ve,P4,Bg];omega⟩,fun i h h1=>?_,rfl,rfl⟩;rcases Eg i s with hi|hi
    ·obtain⟨a',c',g1,g2,g3⟩:=hwv i hi Ko;exact⟨a',c',by rw[Ag Ko];exact g1,g2.mono Q0,g3⟩
    ·obtain rfl:i=s:=by omega
     refine⟨some ⟨br,0,none⟩,cr,?_,V1,?_⟩
     ·rw[Ng Ko];simp [P4]
     ·omega
  ·obtain rfl:s=n:=by omega
   rcases hv with ⟨a1,rfl,M1,rfl,rfl⟩| ⟨bw,cw,sw,rfl,rfl,P4,hwc⟩
   ·omega
   ·refine Tri.sepT fun R0=>?_;have hE:=R0;try simp only[zzs] at hE
    repeat(obtain⟨J0,hE⟩:=hE)
    refine Yg tok zbe Kk ?_
    repeat' first
     |with_reducible first|refine Zd ?_ |refine Ae (fun _=>?_) fun _=>?_ |refine Nb fun nb A0 C0 B0=>?_ |refine Nr fun nb D0 E0 A0 I0 C0 B0=>?_
     |simp -dsimp -implicitDefEqProofs (disch:=first|exact Kd|fail) only[go_sem,↓reduceIte,seval]
    refine Oe (H':=(bw, .cells wv sw 152):: (b2, .cells C [] 27):: (F++H)) Ks (Jf Ka fun G2 Q0 K1 V1=>?_)
    exact⟨some ⟨bw,0,none⟩,cw,N2.trans Q0,⟨wv,V1,by omega,fun i h h1=>by
     obtain⟨a',c',g1,g2,g3⟩:=hwv i h h1;exact⟨a',c',g1,g2.mono Q0,g3⟩⟩,rfl,rfl⟩
def fZ (d:DfaT) (s t:Nat):Bool:=decide (¬atL d.label s=atL d.label t)
theorem zAD {d:DfaT} (K0:zg d) {C:List Value} {an al ay:Option Addr} {cn cl cs:Nat} {rs:List Value} {G:zb} (O:OpenD G d C an al ay cn cl cs rs) {n:Nat} (hn:n=d.label.length)
  {a0:Option Addr} {v1 v4 v6:Value} {s:Nat} (hs:s<n) {b2:Nat} {H:za}:
  Tri Tryz.prog Tryz.f140.ntmps (piece [1,1,1,0,1,0,0,1,0,0,1,0] Tryz.f140) G
   [(1,v1),(2, .pointer (some ⟨b2,0,none⟩)),(4,v4),(5, .int .i64 (n:Nat)),(6,v6),(7, .int .i64 (s:Nat)),(8, .slice a0 0 0)]
   ((b2, .cells C [] 27)::H) (onlyN fun G' fr' H'=> ∃br cr sp,G'=G∧n+sp.length=cr∧
    zy [1,2,4,5,6,7,8] fr'=[(1,v1),(2, .pointer (some ⟨b2,0,none⟩)),(4,v4),(5, .int .i64 (n:Nat)),(6,v6),(7, .int .i64 (s:Nat)),(8, .slice (some ⟨br,0,none⟩) n cr)]∧
    H'=(br, .cells (zap n (fZ d s)) sp 4):: (b2, .cells C [] 27)::H):=by
 have Y2:=K0.1;have K2:=K0.2.1;have N0:=O.len;have X0:=O.l;have D3:s<d.label.length:=by omega
 have hfs: ∀t,(h:t<d.label.length)→(!decide (d.label[s]=d.label[t]))=fZ d s t:=fun t h=>by
  unfold fZ;rw[zL (l:=d.label) (x:=(s:Int)) (by simpa using D3),zL (l:=d.label) (x:=(t:Int)) (by simpa using h)];simp
 have V6:Adr al:=O.rl.adr (by rw[Be];omega);refine Xg (f:=Tryz.f140) rfl ?_;refine Yg tok zbe Kk ?_
 repeat' first
  |with_reducible first|refine Zd ?_ |refine Ae (fun _=>?_) fun _=>?_ |refine Nb fun nb A0 C0 B0=>?_ |refine Nr fun nb D0 E0 A0 I0 C0 B0=>?_
  |simp -dsimp -implicitDefEqProofs (disch:=first|exact Kd|fail) only[go_sem,↓reduceIte,seval]
 refine Tri.loopS tok zbe (.cut) Kk [1,2,4,5,6,7,8,9] (fun q G' fr H'=> ∃ (t:Nat) (v:Value) (kb:za),t+q=n∧G'=G∧zO [] 4 1 v t (zap t (fZ d s)) kb∧H'=(b2, .cells C [] 27):: (kb++H)∧fr=[(1,v1),(2, .pointer (some ⟨b2,0,none⟩)),(4,v4),(5, .int .i64 (n:Nat)),(6,v6),(7, .int .i64 (s:Nat)),(8,v),(9, .int .i64 (t:Nat))]) (n) ?_ ?_
 ·exact Ce ⟨0,_,[],by omega,rfl, .inl ⟨a0,rfl,rfl,rfl,rfl⟩,rfl,rfl⟩
 ·rintro q G1 fr H' S0 V0 ⟨t,v,kb,htq,rfl,hv,rfl,rfl⟩;by_cases L1:t<n
  ·have L3:t<d.label.length:=by omega
   have hft:=hfs t L3;have I1:=ztb t (fZ d s);have I2:=zY t (fZ d s);rcases hv with ⟨a1,rfl,ht0,hx0,rfl⟩| ⟨bw,cw,sw,rfl,rfl,P4,hwc⟩
   ·refine Tri.sepT fun R0=>?_;have hE:=R0;try simp only[zzs] at hE
    repeat(obtain⟨J0,hE⟩:=hE)
    refine Yg tok zbe Kk ?_
    repeat' first
     |with_reducible first|refine Zd ?_ |refine Ae (fun _=>?_) fun _=>?_ |refine Nb fun nb A0 C0 B0=>?_ |refine Nr fun nb D0 E0 A0 I0 C0 B0=>?_
     |simp -dsimp -implicitDefEqProofs (disch:=first|exact Kd|fail) only[go_sem,↓reduceIte,seval, -He,Zh,Ye,N0,X0,Ie O.rl,Le,hft,I2]
     |with_reducible refine Vf tok mixed zbe 10 [2,5,7,10] (.op 0 .plain (.op 1 .plain (.op 2 .held (.op 3 .plain (.op 4 .plain (.op 5 .held (.op 6 .plain (.op 7 .held (.op 8 .plain (.op 9 .plain (.op 10 .held (.op 11 .plain (.op 12 .keeps (.op 13 .keeps (.op 14 .plain .nil))))))))))))))) Kk [2] ?_
    subst ht0;rw[show[Value.bool (fZ d s 0)]=zap 1 (fZ d s) from rfl];exact Oe (H':=(b2, .cells C [] 27):: ([(nb, .cells (zap 1 (fZ d s)) D0 4)]++H)) Ks (Ce ⟨q - 1,by omega,1,_,_,by omega,rfl, .inr ⟨nb,E0,D0,rfl,rfl,rfl,by rw[zY];omega⟩,rfl,rfl⟩)
   ·refine Tri.sepT fun R0=>?_;have hE:=R0;try simp only[zzs] at hE
    repeat(obtain⟨J0,hE⟩:=hE)
    refine Yg tok zbe Kk ?_
    repeat' first
     |with_reducible first|refine Zd ?_ |refine Ae (fun _=>?_) fun _=>?_ |refine Nb fun nb A0 C0 B0=>?_ |refine Nr fun nb D0 E0 A0 I0 C0 B0=>?_
     |simp -dsimp -implicitDefEqProofs (disch:=first|exact Kd|fail) only[go_sem,↓reduceIte,seval, -He,Zh,Ye,N0,X0,Ie O.rl,Le,hft,I2]
     |with_reducible refine Vf tok mixed zbe 10 [2,5,7,10] (.op 0 .plain (.op 1 .plain (.op 2 .held (.op 3 .plain (.op 4 .plain (.op 5 .held (.op 6 .plain (.op 7 .held (.op 8 .plain (.op 9 .plain (.op 10 .held (.op 11 .plain (.op 12 .keeps (.op 13 .keeps (.op 14 .plain .nil))))))))))))))) Kk [2] ?_
    rw[←I1];exact Oe (H':=(b2, .cells C [] 27):: ([(nb, .cells (zap (t+1) (fZ d s)) D0 4)]++H)) Ks (Ce ⟨q - 1,by omega,t+1,_,_,by omega,rfl, .inr ⟨nb,E0,D0,rfl,rfl,by rw[zY];omega,by rw[zY];omega⟩,rfl,rfl⟩)
  ·obtain rfl:t=n:=by omega
   rcases hv with ⟨a1,rfl,ht0,hx0,rfl⟩| ⟨bw,cw,sw,rfl,rfl,P4,hwc⟩
   ·omega
   ·refine Yg tok zbe Kk ?_
    repeat' first
     |with_reducible first|refine Zd ?_ |refine Ae (fun _=>?_) fun _=>?_ |refine Nb fun nb A0 C0 B0=>?_ |refine Nr fun nb D0 E0 A0 I0 C0 B0=>?_
     |simp -dsimp -implicitDefEqProofs (disch:=first|exact Kd|fail) only[go_sem,↓reduceIte,seval]
    rw[zY] at hwc;exact Oe (H':=(bw, .cells (zap t (fZ d s)) sw 4):: (b2, .cells C [] 27)::H) Ks (Ce ⟨bw,cw,sw,rfl,by omega,rfl,rfl⟩)
theorem zAE {d:DfaT} (K0:zg d) {C:List Value} {an al ay:Option Addr} {cn cl cs:Nat} {rs:List Value} {G:zb} (O:OpenD G d C an al ay cn cl cs rs) {n:Nat} (hn:n=d.label.length)
  {a0:Option Addr} {v1 v4:Value} {b2:Nat} {H:za}:
  Tri Tryz.prog Tryz.f140.ntmps (piece [1,1,1,0] Tryz.f140) G
   [(1,v1),(2, .pointer (some ⟨b2,0,none⟩)),(4,v4),(5, .int .i64 (n:Nat)),(6, .slice a0 0 0)]
   ((b2, .cells C [] 27)::H) (onlyN fun G' fr' H'=> ∃ao co vs F,PLe G G'∧Row G' ao vs∧n≤co∧Fam 4 vs (zdg n (fZ d)) F∧
    zy [1,2,4,5,6] fr'=[(1,v1),(2, .pointer (some ⟨b2,0,none⟩)),(4,v4),(5, .int .i64 (n:Nat)),(6, .slice ao n co)]∧
    H'=(b2, .cells C [] 27):: (F++H)):=by
 have Y2:=K0.1;have K2:=K0.2.1;have hms: ∀s,zdg (s+1) (fun i=>fZ d i)=zdg (s+1) (fZ d):=fun _=>rfl;refine Xg (f:=Tryz.f140) rfl ?_;refine Yg tok zbe Kk ?_
 repeat' first
  |with_reducible first|refine Zd ?_ |refine Ae (fun _=>?_) fun _=>?_ |refine Nb fun nb A0 C0 B0=>?_ |refine Nr fun nb D0 E0 A0 I0 C0 B0=>?_
  |simp -dsimp -implicitDefEqProofs (disch:=first|exact Kd|fail) only[go_sem,↓reduceIte,seval]
 refine Tri.loopS tok zbe (.seq .run (.seq (.block (.seq .run (.seq .cut .cut))) .cut)) Kk [1,2,4,5,6,7] (fun q G' fr H'=> ∃ (s:Nat) (v:Value) (vs:List Value) (kb F:za),s+q=n∧G'=G∧zO [] 152 1 v s vs kb∧Fam 4 vs ((Hg s).map fun i=>zap n (fZ d i)) F∧H'=(b2, .cells C [] 27):: (kb++(F++H))∧fr=[(1,v1),(2, .pointer (some ⟨b2,0,none⟩)),(4,v4),(5, .int .i64 (n:Nat)),(6,v),(7, .int .i64 (s:Nat))]) (n) ?_ ?_
 ·exact Ce ⟨0,_,[],[],[],by omega,rfl, .inl ⟨a0,rfl,rfl,rfl,rfl⟩,Fam.nil _,rfl,rfl⟩
 ·rintro q G1 fr H' S0 V0 ⟨s,v,vs,kb,F,hsq,rfl,hv,hF,rfl,rfl⟩;by_cases I1:s<n
  ·repeat' first
    |with_reducible first|refine Zd ?_ |refine Ae (fun _=>?_) fun _=>?_ |refine Nb fun nb A0 C0 B0=>?_ |refine Nr fun nb D0 E0 A0 I0 C0 B0=>?_
    |simp -dsimp -implicitDefEqProofs (disch:=first|exact Kd|fail) only[go_sem,↓reduceIte,seval]
   all_goals try(exfalso;omega)
   refine Tri.upd (Oe (H':=(b2, .cells C [] 27):: (kb++(F++H))) Ks (Ce ?_));refine Ch [1,2,4,5,6,7,8] ?_;refine Ah [1,1,1,0,1,0,0,1,0,0,1,0] Tryz.f140 Kk ?_;refine Tri.onlyN (zAD K0 O hn I1) fun G7 l7 H7 W2 B4 hM=>?_;obtain⟨br,cr,sp,rfl,hcr,I7,rfl⟩:=hM;simp only[go_sem];refine Ch [1,2,4,5,6,7,8] ?_;rw[I7];have W8:=hF.snoc (b:=br) (c:=cr) (r:=zap n (fZ d s)) (sp:=sp) (by rw[zY];exact hcr);rw[zY,show((Hg s).map fun i=>zap n (fZ d i))++[zap n (fZ d s)]=(Hg (s+1)).map fun i=>zap n (fZ d i) by rw[Sf,Ke];rfl] at W8;rcases hv with ⟨a1,rfl,M1,rfl,rfl⟩| ⟨bw,cw,sw,rfl,rfl,P4,hwc⟩
   ·have hE:=B4;try simp only[zzs] at hE
    repeat(obtain⟨J0,hE⟩:=hE)
    refine Yg tok zbe Kk ?_
    repeat' first
     |with_reducible first|refine Zd ?_ |refine Ae (fun _=>?_) fun _=>?_ |refine Nb fun nb A0 C0 B0=>?_ |refine Nr fun nb D0 E0 A0 I0 C0 B0=>?_
     |simp -dsimp -implicitDefEqProofs (disch:=first|exact Kd|fail) only[go_sem,↓reduceIte,seval,Zh]
    refine Yg tok zbe Kk ?_
    repeat' first
     |with_reducible first|refine Zd ?_ |refine Ae (fun _=>?_) fun _=>?_ |refine Nb fun nb A0 C0 B0=>?_ |refine Nr fun nb D0 E0 A0 I0 C0 B0=>?_
     |simp -dsimp -implicitDefEqProofs (disch:=first|exact Kd|fail) only[go_sem,↓reduceIte,seval]
    subst M1;refine Oe (H':=(b2, .cells C [] 27):: ([(nb, .cells [.slice (some ⟨br,0,none⟩) n cr] D0 152)]++((F++[(br, .cells (zap n (fZ d 0)) sp 4)])++H))) Ks (Ce ⟨q - 1,by omega,1,_,_,_,_,by omega,rfl, .inr ⟨nb,E0,D0,rfl,rfl,rfl,by show 1+D0.length=E0 * 1;omega⟩,W8,rfl,rfl⟩)
   ·have hE:=B4;try simp only[zzs] at hE
    repeat(obtain⟨J0,hE⟩:=hE)
    have P4:vs.length=s:=by omega
    refine Yg tok zbe Kk ?_
    repeat' first
     |with_reducible first|refine Zd ?_ |refine Ae (fun _=>?_) fun _=>?_ |refine Nb fun nb A0 C0 B0=>?_ |refine Nr fun nb D0 E0 A0 I0 C0 B0=>?_
     |simp -dsimp -implicitDefEqProofs (disch:=first|exact Kd|fail) only[go_sem,↓reduceIte,seval,Zh]
    refine Yg tok zbe Kk ?_
    repeat' first
     |with_reducible first|refine Zd ?_ |refine Ae (fun _=>?_) fun _=>?_ |refine Nb fun nb A0 C0 B0=>?_ |refine Nr fun nb D0 E0 A0 I0 C0 B0=>?_
     |simp -dsimp -implicitDefEqProofs (disch:=first|exact Kd|fail) only[go_sem,↓reduceIte,seval]
    refine Oe (H':=(b2, .cells C [] 27):: ([(nb, .cells (vs++[.slice (some ⟨br,0,none⟩) n cr]) D0 152)]++((F++[(br, .cells (zap n (fZ d s)) sp 4)])++H))) Ks (Ce ⟨q - 1,by omega,s+1,_,_,_,_,by omega,rfl, .inr ⟨nb,E0,D0,rfl,rfl,by rw[Ve,P4,Bg];omega,by rw[Ve,P4,Bg];omega⟩,W8,rfl,rfl⟩)
  ·obtain rfl:s=n:=by omega
   rcases hv with ⟨a1,rfl,M1,rfl,rfl⟩| ⟨bw,cw,sw,rfl,rfl,P4,hwc⟩
   ·omega
   ·have hE:=V0;try simp only[zzs] at hE
    repeat(obtain⟨J0,hE⟩:=hE)
    repeat' first
     |with_reducible first|refine Zd ?_ |refine Ae (fun _=>?_) fun _=>?_ |refine Nb fun nb A0 C0 B0=>?_ |refine Nr fun nb D0 E0 A0 I0 C0 B0=>?_
     |simp -dsimp -implicitDefEqProofs (disch:=first|exact Kd|fail) only[go_sem,↓reduceIte,seval]
    refine Oe (H':=(bw, .cells vs sw 152):: (b2, .cells C [] 27):: (F++H)) Ks (Jf Ka fun G2 Q0 K1 V1=>?_);exact⟨some ⟨bw,0,none⟩,cw,vs,F,Q0,V1,by omega,hF,rfl,rfl⟩
def fL (d:DfaT) (i s t:Nat):Bool:=decide (¬atL (lvl d i) s=atL (lvl d i) t)
theorem zhk {d:DfaT} (h:d.next.length=d.label.length) {i s t:Nat} (hs:s<d.label.length) (ht:t<d.label.length):fL d i s t=true↔ ¬(lvl d i)[s]'(by rw[zP h];omega)=(lvl d i)[t]'(by rw[zP h];omega):=by
 unfold fL;rw[decide_eq_true_iff,zL (l:=lvl d i) (x:=(s:Int)) (by rw[zP h];omega),zL (l:=lvl d i) (x:=(t:Int)) (by rw[zP h];omega)];simp only[Yf]
theorem zAd {d:DfaT} (h:d.next.length=d.label.length) {s t:Nat} (hs:s<d.label.length) (ht:t<d.label.length):fZ d s t=fL d 0 s t:=by
 rw[Lf,zhk h hs ht,zf7 h hs ht];unfold fZ;rw[decide_eq_true_iff,zL (l:=d.label) (x:=(s:Int)) Ko,zL (l:=d.label) (x:=(t:Int)) Ko];simp only[Yf]
theorem zjq {d:DfaT} (K0:zg d) {s c:Nat} (hs:s<d.next.length) (hc:(c:Int) <d.width):((nxN d s c:Nat):Int)=atL d.next[s] c:=by
 obtain⟨Y2,K2,U2,N3,X3,Y3,Y1⟩:=K0;obtain⟨h1,h2,h3,h4⟩:=Y1 s hs Ko;unfold nxN;rw[Fg,Xe hs,Ei];have V2:c<d.next[s].length:=by omega
 have h5:=h4 d.next[s][c] (Me _);rw[zL (l:=d.next[s]) (x:=(c:Int)) Ko];simp only[Yf];exact Int.toNat_of_nonneg h5.1
theorem zqx {d:DfaT} (K0:zg d) {i s t:Nat} (hs:s<d.label.length) (ht:t<d.label.length):fL d (i+1) s t=(fL d i s t||yB d (fL d i) s t):=by
 have h:=K0.2.2.1;have I1:s<d.next.length:=by omega
 have L1:t<d.next.length:=by omega
 rw[Lf,zhk h hs ht,zd3 h i I1 L1,Bool.or_eq_true,zhk h hs ht];unfold yB yTo;rw[Ii];constructor
 ·intro hn;by_cases e:(lvl d i)[s]'(by rw[zP h];omega)=(lvl d i)[t]'(by rw[zP h];omega)
  ·refine .inr (Zg fun hc=>hn ⟨e,fun c R9=>Zg fun P3=>hc ⟨c,List.mem_range.2 R9,?_⟩⟩);unfold fL;rw[decide_eq_true_iff,zjq K0 I1 Ko,zjq K0 L1 Ko];exact P3
  ·exact .inl e
 ·rintro(e| ⟨c,hc,e⟩) ⟨g1,g2⟩
  ·exact e g1
  ·have R9:=List.mem_range.1 hc;unfold fL at e;rw[decide_eq_true_iff,zjq K0 I1 Ko,zjq K0 L1 Ko] at e;exact e (g2 c R9)
theorem zt7 {d:DfaT} (K0:zg d) {i:Nat} (h:((Hg d.label.length).any fun s=>(Hg d.label.length).any fun t=> !fL d i s t&&yB d (fL d i) s t)=false):lvl d (i+1)=lvl d i:=by
 have hl:=K0.2.2.1;rw[←zbL d (i+1),←zbL d i];refine zdj (by rw[zP hl,zP hl]) fun s t hs ht=>?_;rw[zP hl] at hs ht;have e1:=zqx K0 (i:=i) (s:=s) (t:=t) Ko Ko
 have h2:(!fL d i s t&&yB d (fL d i) s t)=false:=by
  have h3:=List.any_eq_false.1 h s (List.mem_range.2 Ko);have h4:=List.any_eq_false.1 (Bool.eq_false_iff.2 h3) t (List.mem_range.2 Ko);exact Bool.eq_false_iff.2 h4
 have e2:fL d (i+1) s t=fL d i s t:=by
  rw[e1];revert h2;cases fL d i s t <;> cases yB d (fL d i) s t <;> simp
 have e3:=zhk hl (i:=i+1) (s:=s) (t:=t) Ko Ko;have e4:=zhk hl (i:=i) (s:=s) (t:=t) Ko Ko;rw[e2] at e3;have e5:=e3.symm.trans e4;constructor
 ·intro e;exact Zg fun hc=>(e5.2 hc) e
 ·intro e;exact Zg fun hc=>(e5.1 hc) e
theorem zxW {d:DfaT} (P0:zr d) (K0:zg d) {k:Int} (hk:k<9223372036854775808) {n:Nat} (hn:n=d.label.length) {G:zb} {H:za} {R:Value→zb→za→Prop} {v:Value} (hv:IsD G d v)
  (hR: ∀G' a c,PLe G G'→Sep G' (zm H)→zoI G' n (fL d k.toNat) a→n≤c→R (.slice a n c) G' H):FnT Tryz.prog 140 [v, .int .i64 k] G H R:=by
 obtain⟨C,an,al,ay,cn,cl,cs,rs,rfl,O⟩:=hv.opened;have Y2:=K0.1;have K2:=K0.2.1;have N0:=O.len;have T0:=O.all;have X0:=O.l;refine FnT.bodyS tok zbe (.seq .run (.seq .run (.seq .run (.seq .cut .cut)))) Tryz.func140 rfl Kk Kk Kn fun M0=>?_;rw[Tryz.results140];have hE:=M0;try simp only[zzs] at hE
 repeat(obtain⟨J0,hE⟩:=hE)
 repeat' first
  |with_reducible first|refine Zd ?_ |refine Ae (fun _=>?_) fun _=>?_ |refine Nb fun nb A0 C0 B0=>?_ |refine Nr fun nb D0 E0 A0 I0 C0 B0=>?_
  |simp -dsimp -implicitDefEqProofs (disch:=first|exact Kd|fail) only[go_sem,↓reduceIte,seval, -He,Ye,N0,T0,X0,Og]
 subst hn;rename_i nb1 J7 N5 hx3;refine Ch [1,2,4,5,6] ?_;refine Tri.upd (Upd.sub (H':=(_, .cells C [] 27)::H) (List.Sublist.cons _ (List.Sublist.refl _)) ?_);refine Ah [1,1,1,0] Tryz.f140 Kk ?_;refine Tri.onlyN (zAE K0 O rfl) fun G2 l2 H2 Q0 R0 hM=>?_;obtain⟨ao,co,vs,F,A1,Y4,hco,hF,I7,rfl⟩:=hM;simp only[go_sem];refine Ch [1,2,4,5,6] ?_;rw[I7];refine Yg tok zbe Kk ?_
 repeat' first
  |with_reducible first|refine Zd ?_ |refine Ae (fun _=>?_) fun _=>?_ |refine Nb fun nb A0 C0 B0=>?_ |refine Nr fun nb D0 E0 A0 I0 C0 B0=>?_
  |simp -dsimp -implicitDefEqProofs (disch:=first|exact Kd|fail) only[go_sem,↓reduceIte,seval]
 refine Tri.loopS tok zbe (.seq .run (.seq (.block (.seq .run (.seq .run (.seq .cut .cut)))) .cut)) Kk [1,2,4,5,6,10] (fun q G' fr H'=> ∃ (i:Nat) (F':za),i+q=k.toNat∧PLe G2 G'∧Fam 4 vs (zdg d.label.length (fL d i)) F'∧H'=(nb1, .cells C [] 27):: (F'++H)∧fr=[(1, .int .i64 k),(2, .pointer (some ⟨nb1,0,none⟩)),(4, .slice none 0 0),(5, .int .i64 (d.label.length:Nat)),(6, .slice ao d.label.length co),(10, .int .i64 (i:Nat))]) (k.toNat) ?_ ?_
 ·exact Ce ⟨0,F,by omega,PLe.refl _,by rw[zkO fun s t hs ht=>(zAd K0.2.2.1 hs ht).symm];exact hF,rfl,rfl⟩
 ·rintro q G1 fr H' S0 V0 ⟨i,F',Q5,Y9,Aa,rfl,rfl⟩;by_cases hik:(i:Int) <k
  ·repeat' first
    |with_reducible first|refine Zd ?_ |refine Ae (fun _=>?_) fun _=>?_ |refine Nb fun nb A0 C0 B0=>?_ |refine Nr fun nb D0 E0 A0 I0 C0 B0=>?_
    |simp -dsimp -implicitDefEqProofs (disch:=first|exact Kd|fail) only[go_sem,↓reduceIte,seval,Og]
   all_goals try(exfalso;omega)
   refine Ch [1,2,4,5,6,10,11,12] ?_;refine Tri.upd (Upd.sub (H':=(nb1, .cells C [] 27):: (F'++H)) (List.Sublist.cons _ (List.Sublist.refl _)) ?_);have hro1:=Y4.mono Y9;refine Ah [1,1,1,1,0,1,0,0,1,0,0,1,1,0] Tryz.f140 Kk ?_;refine Tri.onlyN (zAC K0 rfl hro1 Aa) fun G3 l3 H3 A1 K1 hM=>?_;obtain⟨aw,cw,Z1,hW,Kc,rfl⟩:=hM;simp only[go_sem];refine Ch [1,2,4,5,6,10,11,12] ?_;rw[Kc];refine Tri.runS tok zbe (.seq .cut .cut) Kk ?_
   repeat' first
    |with_reducible first|refine Zd ?_ |refine Ae (fun _=>?_) fun _=>?_ |refine Nb fun nb A0 C0 B0=>?_ |refine Nr fun nb D0 E0 A0 I0 C0 B0=>?_
    |simp -dsimp -implicitDefEqProofs (disch:=first|exact Kd|fail) only[go_sem,↓reduceIte,seval]
   have hro2:=hro1.mono Z1;refine Ah [1,1,1,1,0,1,0,0,1,0,0,1,1,1,0] Tryz.f140 Kk ?_;refine Tri.onlyN (zAB P0 K0 (O.mono (Q0.trans (Y9.trans Z1))) rfl hro2 hW Aa) fun G4 l4 H4 A2 S1 hM=>?_;obtain⟨h',more',F2,W8,hh',Z7,rfl,hfr4,rfl⟩:=hM;rw[zkO fun s t hs ht=>(hh' s t hs ht).trans (zqx K0 hs ht).symm] at W8;simp only[go_sem];refine Ch [1,2,4,5,6,10,11,12] ?_;rw[hfr4];refine Yg tok zbe Kk ?_
   repeat' first
    |with_reducible first|refine Zd ?_ |refine Ae (fun _=>?_) fun _=>?_ |refine Nb fun nb A0 C0 B0=>?_ |refine Nr fun nb D0 E0 A0 I0 C0 B0=>?_
    |simp -dsimp -implicitDefEqProofs (disch:=first|exact Kd|fail) only[go_sem,↓reduceIte,seval]
   ·refine Yg tok zbe Kk ?_
    repeat' first
     |with_reducible first|refine Zd ?_ |refine Ae (fun _=>?_) fun _=>?_ |refine Nb fun nb A0 C0 B0=>?_ |refine Nr fun nb D0 E0 A0 I0 C0 B0=>?_
     |simp -dsimp -implicitDefEqProofs (disch:=first|exact Kd|fail) only[go_sem,↓reduceIte,seval]
    exact Ce ⟨q - 1,by omega,i+1,F2,by omega,Y9.trans Z1,W8,rfl,rfl⟩
   ·rename_i hmo;have hmo:more'=false:=by simpa using hmo
    rw[hmo,Fi] at Z7;have N1:=zt7 K0 Z7.symm
    have hfk:fL d (i+1)=fL d k.toNat:=by
     funext s t;unfold fL;rw[N1,zfe N1 (j:=k.toNat) Ko]
    rw[hfk] at W8;unfold zo;refine Upd.trans (Oe (H':=F2++H) Ks (Ce ?_));refine W8.share S1.2 fun G5 Q1 P1 U7=>?_
    exact hR G5 ao co (Q0.trans (Y9.trans (Z1.trans Q1))) P1 ⟨vs,hro2.mono Q1,by rw[W8.lenv,zb2],fun s hs h1=>by
     obtain⟨a,c,e1,e2,e3⟩:=U7 s (by rw[zb2];exact hs) h1;rw[zcP _ hs] at e1 e2 e3;rw[zY] at e1 e3;exact⟨a,c,e1,e2,e3⟩⟩ hco
  ·repeat' first
    |with_reducible first|refine Zd ?_ |refine Ae (fun _=>?_) fun _=>?_ |refine Nb fun nb A0 C0 B0=>?_ |refine Nr fun nb D0 E0 A0 I0 C0 B0=>?_
    |simp -dsimp -implicitDefEqProofs (disch:=first|exact Kd|fail) only[go_sem,↓reduceIte,seval]
   all_goals try(exfalso;omega)
   obtain rfl:i=k.toNat:=by omega
   unfold zo;refine Upd.trans (Oe (H':=F'++H) Ks (Ce ?_));refine Aa.share V0.2 fun G5 Q1 P1 U7=>?_
   exact hR G5 ao co (Q0.trans (Y9.trans Q1)) P1 ⟨vs,(Y4.mono Y9).mono Q1,by rw[Aa.lenv,zb2],fun s hs h1=>by
    obtain⟨a,c,e1,e2,e3⟩:=U7 s (by rw[zb2];exact hs) h1;rw[zcP _ hs] at e1 e2 e3;rw[zY] at e1 e3;exact⟨a,c,e1,e2,e3⟩⟩ hco
end Go.Proofs.YtomdbjfdbkejoaaGreatDoor
